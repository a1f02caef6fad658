/- The walks of layer 22: letters, whether a server may be. The walks of layer 22: what a text is; a text is posted. The walks of the reference's reader: bytes are cut off; a number, a key is read. -/
import Derived.Test.YteefhbpmeajbfaaServerPostsD
import Derived.WalkKit
import Derived.WalkSpells
import Derived.WalkLawsBesides
import Derived.Deep.QuietTactic
import Derived.BigQuiet
import Derived.StillTailTactics
import Derived.Lib.Hide
import Derived.Deep.LoopGhost
import Derived.Outline
import Derived.Deep.DeepFit
import Derived.Deep.RegionHeld3
import Derived.Deep.RegionLaw
import Derived.OrdersHeld
import Derived.Laws.StructEq
import Derived.Maps.AppendAt
import Derived.Deep.AppendLies
import Derived.Deep.Draws
import Derived.Laws.OwnMore
import Derived.Laws.AppendOwnNone
import Derived.OwnWalk
import Derived.Below
import Derived.Deep.Cut
import Derived.Deep.CutBlock
import Derived.Deep.CutRange
import Derived.DataElems
import Derived.Great.BuildSlice
import Derived.Laws.Entries
import Derived.Laws.Tables
import Derived.SizedLaws
import Derived.Lib.SliceRun
import Derived.Laws.Small
import Derived.Great.Walk
import Derived.Test.YteefhbpmeajbfaaRows
import Derived.Laws.IdiomStrings
import Derived.Lib.Tables
import Derived.Lib.BitFns
import Derived.Laws.Bits64b
namespace Go.Proofs.Yteefhbpmeajbfaa
set_option linter.unusedSimpArgs false
set_option linter.unusedVariables false
open Go.RowKit

/-- A letter. -/
structure Ltr where
  no : Int
  rc : Int
  text : List Nat
  deriving DecidableEq
def LtrT : Ty Ltr where
  μ := Option Addr × Nat
  dft := (none, 0)
  sz := 3
  pos := by decide
  ch x m := [.one (.int .i64 x.no), .one (.int .i64 x.rc), .one (.slice m.1 x.text.length m.2)]
  nest x m := TxF m.1 m.2 x.text
  len _ _ := rfl
  one _ _ := ⟨rfl, rfl, rfl, trivial⟩
def farB (x : Int) : Bool := decide (x < 0) || decide (1048576 < x)
def oddB (nx no rc : Int) : Bool := decide (no < 0) || decide (nx ≤ no) || farB rc
attribute [local irreducible] farB
set_option maxRecDepth 100000 in
set_option maxHeartbeats 4000000 in
theorem far_any {x : Int} {X : List Nat} {w0 : World} (hX : ∀ k ∈ X, k < w0.heap.size) :
    Calls Try.prog 34 #[.int .i64 x] w0 fun e w' => e = .returned (.bool (farB x)) ∧ w0 = w' := by
  refine calls_env Try.ntmps34 Try.func34 rfl rfl fun a E => ?_; replace E : Env a _ [(0, _)] := E
  have H : Sep X [] w0 w0 [] [] := Sep.start hX (fun _ h => by cases h)
  refine wp_seq_k fun K0 hK0 => ?_; refine S_region ?_; refine S_val E (pk_assign rfl rfl) rfl rfl rfl ?_; clear E a; intro a E; refine hK0 _ _ ?_; refine wp_seq_k fun K1 hK1 => ?_; refine S_region ?_; refine S_val E (pk_move rfl rfl) rfl rfl rfl ?_; clear E a; intro a E; refine S_val E (pk_int rfl rfl rfl rfl) rfl rfl rfl ?_; clear E a; intro a E; refine S_val E (pk_move rfl rfl) rfl rfl rfl ?_; clear E a; intro a E; refine env_split (d := 5) E rfl ?_ ?_
  · skip
    clear E; intro c5 E; refine S_skip E rfl rfl rfl ?_; clear E a; intro a E; refine S_skip E rfl rfl rfl ?_; clear E a; intro a E; refine S_val E (pk_pick rfl rfl rfl) rfl rfl rfl ?_; clear E a; intro a E; refine S_val E (pk_assign rfl rfl) rfl rfl rfl ?_; clear E a; intro a E; refine hK1 _ _ ?_; refine wp_ret ?_
    repeat (first | refine then_ret ?_ | refine block_ret ?_)
    refine ret1 rfl E (resT rfl) ?_; refine ⟨?_, rfl⟩
    simp_all [farB]
    try omega
  · skip
    clear E; intro c5 E; refine S_val E (pk_move rfl rfl) rfl rfl rfl ?_; clear E a; intro a E; refine S_val E (pk_int rfl rfl rfl rfl) rfl rfl rfl ?_; clear E a; intro a E; refine S_val E (pk_pick rfl rfl rfl) rfl rfl rfl ?_; clear E a; intro a E; refine S_val E (pk_assign rfl rfl) rfl rfl rfl ?_; clear E a; intro a E; refine hK1 _ _ ?_; refine wp_ret ?_
    repeat (first | refine then_ret ?_ | refine block_ret ?_)
    refine ret1 rfl E (resT rfl) ?_; refine ⟨?_, rfl⟩
    simp_all [farB]
    try omega
set_option maxRecDepth 100000 in
set_option maxHeartbeats 4000000 in
theorem odd_any {ep nx no rc : Int} {LA WA TA : Option Addr} {ln lc wn wc tn tc : Nat} {X : List Nat} {w0 : World} (hX : ∀ k ∈ X, k < w0.heap.size) :
    Calls Try.prog 40 #[.agg (ca [.one (.int .u64 ep), .one (.slice LA ln lc), .one (.slice WA wn wc), .one (.int .i64 nx)]), .agg (ca [.one (.int .i64 no), .one (.int .i64 rc), .one (.slice TA tn tc)])] w0 fun e w' => e = .returned (.bool (oddB nx no rc)) ∧ Sep X [] w0 w' [] [] := by
  refine calls_env Try.ntmps40 Try.func40 rfl rfl fun a E => ?_; replace E : Env a _ [(0, _), (1, _)] := E
  have H : Sep X [] w0 w0 [] [] := Sep.start hX (fun _ h => by cases h)
  refine wp_seq_k fun K0 hK0 => ?_; refine S_region ?_; refine S_eff E rfl (fun K hK => ?_); refine eff_box E H rfl rfl rfl ?_; clear H; intro b2 w H _; refine hK _ _ ?_; clear hK K; refine S_put E rfl rfl ?_; clear E a; intro a E; refine S_eff E rfl (fun K hK => ?_); refine eff_box E H rfl rfl rfl ?_; clear H; intro b3 w H _; refine hK _ _ ?_; clear hK K; refine S_put E rfl rfl ?_; clear E a; intro a E; refine S_val E (pk_assign rfl rfl) rfl rfl rfl ?_; clear E a; intro a E; refine hK0 _ _ ?_; refine wp_seq_k fun K1 hK1 => ?_; refine S_region ?_; refine S_val E (pk_fieldAddr (off := 0) rfl rfl (by kernel_rfl)) rfl rfl rfl ?_; clear E a; intro a E; refine S_val E (pk_load1 H 0 rfl rfl rfl trivial rfl (by kernel_rfl)) rfl rfl rfl ?_; clear E a; intro a E; refine S_val E (pk_int rfl rfl rfl rfl) rfl rfl rfl ?_; clear E a; intro a E; refine S_val E (pk_move rfl rfl) rfl rfl rfl ?_; clear E a
  intro a E; refine env_split (d := 8) E rfl ?_ ?_
  · skip
    clear E; intro c8 E; refine S_skip E rfl rfl rfl ?_; clear E a; intro a E; refine S_skip E rfl rfl rfl ?_; clear E a; intro a E; refine S_skip E rfl rfl rfl ?_; clear E a; intro a E; refine S_skip E rfl rfl rfl ?_; clear E a; intro a E; refine S_skip E rfl rfl rfl ?_; clear E a; intro a E; refine S_val E (pk_pick rfl rfl rfl) rfl rfl rfl ?_; clear E a; intro a E; refine S_val E (pk_move rfl rfl) rfl rfl rfl ?_; clear E a; intro a E; refine S_skip E rfl rfl rfl ?_; clear E a; intro a E; refine S_skip E rfl rfl rfl ?_; clear E a; intro a E; refine S_skip E rfl rfl rfl ?_; clear E a; intro a E; refine S_val E (pk_pick rfl rfl rfl) rfl rfl rfl ?_; clear E a; intro a E; refine S_val E (pk_assign rfl rfl) rfl rfl rfl ?_; clear E a; intro a E; refine hK1 _ _ ?_; refine wp_ret ?_
    repeat (first | refine then_ret ?_ | refine block_ret ?_)
    refine ret1 rfl E (resT rfl) ?_; refine ⟨?_, H.popL.popL⟩
    simp_all [oddB]
    try omega
  · skip
    clear E; intro c8 E; refine S_val E (pk_fieldAddr (off := 0) rfl rfl (by kernel_rfl)) rfl rfl rfl ?_; clear E a; intro a E; refine S_val E (pk_load1 H 0 rfl rfl rfl trivial rfl (by kernel_rfl)) rfl rfl rfl ?_; clear E a; intro a E; refine S_val E (pk_fieldAddr (off := 3) rfl rfl (by kernel_rfl)) rfl rfl rfl ?_; clear E a; intro a E; refine S_val E (pk_load1 H 1 rfl rfl rfl trivial rfl (by kernel_rfl)) rfl rfl rfl ?_; clear E a; intro a E; refine S_val E (pk_int rfl rfl rfl rfl) rfl rfl rfl ?_; clear E a; intro a E; refine S_val E (pk_pick rfl rfl rfl) rfl rfl rfl ?_; clear E a; intro a E; refine S_val E (pk_move rfl rfl) rfl rfl rfl ?_; clear E a; intro a E; refine env_split (d := 15) E rfl ?_ ?_
    · skip
      clear E; intro c15 E; refine S_skip E rfl rfl rfl ?_; clear E a; intro a E; refine S_skip E rfl rfl rfl ?_; clear E a; intro a E; refine S_skip E rfl rfl rfl ?_; clear E a; intro a E; refine S_val E (pk_pick rfl rfl rfl) rfl rfl rfl ?_; clear E a; intro a E; refine S_val E (pk_assign rfl rfl) rfl rfl rfl ?_; clear E a; intro a E; refine hK1 _ _ ?_; refine wp_ret ?_
      repeat (first | refine then_ret ?_ | refine block_ret ?_)
      refine ret1 rfl E (resT rfl) ?_; refine ⟨?_, H.popL.popL⟩
      simp_all [oddB]
      try omega
    · skip
      clear E; intro c15 E; refine S_val E (pk_fieldAddr (off := 1) rfl rfl (by kernel_rfl)) rfl rfl rfl ?_; clear E a; intro a E; refine S_val E (pk_load1 H 0 rfl rfl rfl trivial rfl (by kernel_rfl)) rfl rfl rfl ?_; clear E a; intro a E; refine S_eff E rfl (fun K hK => ?_); refine eff_call E rfl rfl rfl (by kernel_rfl) ?_; refine (far_any H.xk).mono ?_; rintro e w ⟨rfl, rfl⟩; refine hK _ _ ?_; clear hK K; refine S_put E rfl rfl ?_; clear E a; intro a E; refine S_val E (pk_pick rfl rfl rfl) rfl rfl rfl ?_; clear E a; intro a E; refine S_val E (pk_assign rfl rfl) rfl rfl rfl ?_; clear E a; intro a E; refine hK1 _ _ ?_; refine wp_ret ?_
      repeat (first | refine then_ret ?_ | refine block_ret ?_)
      refine ret1 rfl E (resT rfl) ?_; refine ⟨?_, H.popL.popL⟩
      simp_all [oddB]
      try omega
set_option maxRecDepth 100000 in
set_option maxHeartbeats 4000000 in
theorem Check1_any {ep nx no rc : Int} {LA WA TA : Option Addr} {ln lc wn wc tn tc b : Nat} {X : List Nat} {w0 : World} (hX : ∀ k ∈ X, k < w0.heap.size) (hS : St (AtC ⟨b, 0, none⟩ [.one (.int .u64 ep), .one (.slice LA ln lc), .one (.slice WA wn wc), .one (.int .i64 nx)]) w0 X) :
    Calls Try.prog 39 #[.agg (ca [.one (.int .i64 no), .one (.int .i64 rc), .one (.slice TA tn tc)]), .pointer (some ⟨b, 0, none⟩)] w0 fun e w' => e = .returned (.bool (oddB nx no rc)) ∧ Sep X [] w0 w' [] [] := by
  refine calls_env Try.ntmps39 Try.func39 rfl rfl fun a E => ?_; replace E : Env a _ [(0, _), (1, _)] := E
  have H : Sep X [] w0 w0 [] [(AtC ⟨b, 0, none⟩ [.one (.int .u64 ep), .one (.slice LA ln lc), .one (.slice WA wn wc), .one (.int .i64 nx)])] := Sep.start hX (List.forall_mem_cons.2 ⟨hS, fun _ h => by cases h⟩)
  refine wp_seq_k fun K0 hK0 => ?_; refine S_region ?_; refine S_eff E rfl (fun K hK => ?_); refine eff_box E H rfl rfl rfl ?_; clear H; intro b2 w H _; refine hK _ _ ?_; clear hK K; refine S_put E rfl rfl ?_; clear E a; intro a E; refine S_val E (pk_assign rfl rfl) rfl rfl rfl ?_; clear E a; intro a E; refine hK0 _ _ ?_; refine wp_seq_k fun K1 hK1 => ?_; refine S_region ?_; refine S_val E (pk_loadE (n := 4) (H.fact 0 rfl) (fun _ _ _ => trivial) rfl rfl rfl (by kernel_rfl)) rfl rfl rfl ?_; clear E a; intro a E; refine S_val E (pk_load (n := 3) H 0 rfl rfl rfl trivial rfl (by kernel_rfl)) rfl rfl rfl ?_; clear E a; intro a E; refine S_eff E rfl (fun K hK => ?_); refine eff_call E rfl rfl rfl (by kernel_rfl) ?_; refine (odd_any H.xk).mono ?_; rintro e w ⟨rfl, H1⟩
  replace H := H.call H1
  clear H1; replace H : Sep _ _ _ _ [_] [_] := H; refine hK _ _ ?_; clear hK K; refine S_put E rfl rfl ?_; clear E a; intro a E; refine S_val E (pk_assign rfl rfl) rfl rfl rfl ?_; clear E a; intro a E; refine hK1 _ _ ?_; refine wp_ret ?_
  repeat (first | refine then_ret ?_ | refine block_ret ?_)
  refine ret1 rfl E (resT rfl) ?_
  exact ⟨rfl, H.popL.pop⟩
def idxI {α : Type} (pb : α → Bool) (xs : List α) : Int := match xs.findIdx? pb with | some i => (i : Int) | none => -1
theorem idx_hit {α : Type} {pb : α → Bool} {xs : List α} {k : Nat} {x : α} (hx : xs[k]? = some x) (hp : pb x = true) (hlt : ∀ i y, i < k → xs[i]? = some y → pb y = false) : idxI pb xs = (k : Int) := by
  unfold idxI
  have : xs.findIdx? pb = some k := by
    rw [List.findIdx?_eq_some_iff_getElem]
    obtain ⟨hk, e⟩ := List.getElem?_eq_some_iff.1 hx
    refine ⟨hk, by rw [e]; exact hp, fun j hj => ?_⟩
    rw [hlt j xs[j] hj (List.getElem?_eq_getElem (by omega))]
    decide
  rw [this]
theorem idx_miss {α : Type} {pb : α → Bool} {xs : List α} (h : ∀ (i : Nat) x, xs[i]? = some x → pb x = false) : idxI pb xs = -1 := by
  unfold idxI
  have : xs.findIdx? pb = none := by
    rw [List.findIdx?_eq_none_iff]
    intro x hx
    obtain ⟨i, hi⟩ := List.mem_iff_getElem?.1 hx
    exact h i x hi
  rw [this]
theorem idx_any {α : Type} (pb : α → Bool) (xs : List α) : decide (idxI pb xs ≥ 0) = xs.any pb := by
  unfold idxI
  cases h : xs.findIdx? pb with
  | none =>
    rw [List.findIdx?_eq_none_iff] at h
    have : xs.any pb = false := by rw [List.any_eq_false]; intro x hx; rw [h x hx]; decide
    rw [this]; rfl
  | some i =>
    have h2 := List.findIdx?_isSome (p := pb) (xs := xs)
    rw [h] at h2
    have : xs.any pb = true := by rw [← h2]; rfl
    rw [this]
    simp
set_option maxRecDepth 100000 in
set_option maxHeartbeats 4000000 in
theorem IndexLtr_any {A : Option Addr} {c : Nat} {xs : List Ltr} {m : Nat → LtrT.μ} {pb : Ltr → Bool} {f : FuncId} {cs : Array Value} {r : World → Prop} (hf : fnB Try.prog f = true) (hln : xs.length ≤ 9223372036854775807)
    (hp : ∀ (x : Ltr) (mm : LtrT.μ) (X : List Nat) (w0 : World), (∀ k ∈ X, k < w0.heap.size) → St (LtrT.nest x mm) w0 X → St r w0 X → Calls Try.prog f (#[] ++ [.agg (ca [.one (.int .i64 x.no), .one (.int .i64 x.rc), .one (.slice mm.1 x.text.length mm.2)])].toArray ++ cs) w0 fun e w' => e = .returned (.bool (pb x)) ∧ Sep X [] w0 w' [] []) {X : List Nat} {w0 : World} (hX : ∀ k ∈ X, k < w0.heap.size) (hL : St (LiF LtrT A c xs m) w0 X) (hr : St (r) w0 X) :
    Calls Try.prog 67 #[.slice A xs.length c, .func (.func f) #[] cs] w0 fun e w' => e = .returned (.int .i64 (idxI pb xs)) ∧ Sep X [] w0 w' [] [] := by
  refine calls_env Try.ntmps67 Try.func67 rfl rfl fun a E => ?_; replace E : Env a _ [(0, _), (1, _)] := E
  have H : Sep X [] w0 w0 [] [(LiF LtrT A c xs m), (r)] := Sep.start hX (List.forall_mem_cons.2 ⟨hL, List.forall_mem_cons.2 ⟨hr, fun _ h => by cases h⟩⟩)
  refine wp_seq_k fun K0 hK0 => ?_; refine S_region ?_; refine S_val E (pk_assign rfl rfl) rfl rfl rfl ?_; clear E a; intro a E; refine hK0 _ _ ?_; refine wp_seq_k fun K1 hK1 => ?_; refine wp_seq_k fun K2 hK2 => ?_; refine S_region ?_; refine S_val E (pk_move rfl rfl) rfl rfl rfl ?_; clear E a; intro a E; refine S_val E (pk_len rfl rfl (by kernel_rfl)) rfl rfl rfl ?_; clear E a; intro a E; refine S_val E (pk_move rfl rfl) rfl rfl rfl ?_; clear E a; intro a E; refine hK2 _ _ ?_; refine wp_block ?_; refine S_loopK (γ := Nat) [0, 1, 7] (fun k => [(8, .int .i64 (k : Int))]) (fun k => k ≤ xs.length ∧ ∀ (i : Nat) x, i < k → xs[i]? = some x → pb x = false) (fun k => xs.length - k) (0) E H (by repeat (first | exact trivial | refine ⟨rfl, ?_⟩)) (⟨Nat.zero_le _, fun i x hi => absurd hi (Nat.not_lt_zero _)⟩) ?_; clear E H; intro k a w E H hφ; replace E : Env a _ [(8, _), (0, _), (1, _), (7, _)] := E
  replace H : Sep _ _ _ _ [] [_, _] := H; refine wp_seq_k fun K3 hK3 => ?_; refine S_region ?_; refine S_val E (pk_int rfl rfl rfl rfl) rfl rfl rfl ?_; clear E a; intro a E; refine hK3 _ _ ?_; refine wp_seq_k fun K4 hK4 => ?_; refine env_split (d := 9) E rfl ?_ ?_
  · skip
    clear E; intro c9 E
    have hk : k < xs.length := by simpa using c9
    have hx0 : xs[k]? = some xs[k] := List.getElem?_eq_getElem hk
    have hφ1 := hφ.1
    refine S_then E rfl ?_; refine wp_skip ?_; refine hK4 _ _ ?_; refine wp_seq_k fun K5 hK5 => ?_; refine wp_block ?_; refine wp_seq_k fun K6 hK6 => ?_; refine S_region ?_; refine S_val E (pk_move rfl rfl) rfl rfl rfl ?_; clear E a; intro a E; refine S_val E (pk_assign rfl rfl) rfl rfl rfl ?_; clear E a; intro a E; refine hK6 _ _ ?_; refine wp_seq_k fun K7 hK7 => ?_; refine S_region ?_; refine S_val E (pk_move rfl rfl) rfl rfl rfl ?_; clear E a; intro a E; refine S_val E (pk_move rfl rfl) rfl rfl rfl ?_; clear E a; intro a E; refine S_val E (pk_move rfl rfl) rfl rfl rfl ?_; clear E a; intro a E
    obtain ⟨ad14, hA14, hc14, hn14⟩ := LiF.get (A := A) (i := k) (x := xs[k]) (by exact H.fact 0 rfl) hx0
    refine S_val E (pk_elA (sz := 3) hA14 rfl (by kernel_rfl) rfl rfl rfl (by omega)) rfl rfl rfl ?_; clear E a; intro a E
    replace H := (H.know hn14).know hc14
    clear hn14 hc14; replace H : Sep _ _ _ _ _ [_, _, _, _] := H; refine S_val E (pk_loadE (n := 3) (H.fact 0 rfl) (fun _ _ _ => trivial) rfl rfl rfl (by kernel_rfl)) rfl rfl rfl ?_; clear E a; intro a E; refine S_eff E rfl (fun K hK => ?_); refine eff_call E rfl rfl rfl hf ?_; refine (hp _ _ _ _ H.xk (H.fact 1 rfl) (H.fact 3 rfl)).mono ?_; rintro e w ⟨rfl, H1⟩
    replace H := H.call H1
    clear H1; replace H : Sep _ _ _ _ [] [_, _, _, _] := H; refine hK _ _ ?_; clear hK K; refine S_put E rfl rfl ?_; clear E a; intro a E; refine hK7 _ _ ?_; refine env_split (d := 16) E rfl ?_ ?_
    · skip
      clear E; intro c16 E; refine S_then E rfl ?_; refine wp_seq_k fun K8 hK8 => ?_; refine S_region ?_; refine S_val E (pk_move rfl rfl) rfl rfl rfl ?_; clear E a; intro a E; refine S_val E (pk_assign rfl rfl) rfl rfl rfl ?_; clear E a; intro a E; refine hK8 _ _ ?_; refine wp_ret ?_
      repeat (first | refine then_ret ?_ | refine block_ret ?_)
      refine ret1 rfl E (resT rfl) ?_
      exact ⟨by rw [idx_hit hx0 c16 hφ.2], H.pop.pop.pop.pop⟩
    · skip
      clear E; intro c16 E; refine S_else E rfl ?_; refine wp_skip ?_; refine hK5 _ _ ?_; refine S_region ?_; refine S_val E (pk_intw rfl rfl rfl rfl (wI64 (by omega) (by omega))) rfl rfl rfl ?_; clear E a; intro a E; refine S_val E (pk_move rfl rfl) rfl rfl rfl ?_; clear E a; intro a E; refine loop_end ?_
      exact ⟨k + 1, ⟨E.to (by repeat (first | exact trivial | refine ⟨rfl, ?_⟩)), H.pop.pop, ⟨by omega, fun i x hi hx => by rcases Nat.lt_succ_iff_lt_or_eq.1 hi with h | h; exact hφ.2 i x h hx; subst h; rw [hx0] at hx; obtain rfl := Option.some.inj hx; exact c16⟩⟩, by omega⟩
  · skip
    clear E; intro c9 E
    have hk : ¬ k < xs.length := by simpa using c9
    refine S_else E rfl ?_; refine wp_exit ?_
    repeat (first | refine then_exit ?_ | refine block_hit ?_ | refine block_miss (by decide) ?_)
    refine hK1 _ _ ?_; refine wp_seq_k fun K9 hK9 => ?_; refine S_region ?_; refine S_val E (pk_assign rfl rfl) rfl rfl rfl ?_; clear E a; intro a E; refine hK9 _ _ ?_; refine wp_ret ?_
    repeat (first | refine then_ret ?_ | refine block_ret ?_)
    refine ret1 rfl E (resT rfl) ?_
    exact ⟨by rw [idx_miss (fun i x hx => hφ.2 i x (by have := (List.getElem?_eq_some_iff.1 hx).1; omega) hx)], H.pop.pop⟩
set_option maxRecDepth 100000 in
set_option maxHeartbeats 4000000 in
theorem ContainsLtr_any {A : Option Addr} {c : Nat} {xs : List Ltr} {m : Nat → LtrT.μ} {pb : Ltr → Bool} {f : FuncId} {cs : Array Value} {r : World → Prop} (hf : fnB Try.prog f = true) (hln : xs.length ≤ 9223372036854775807)
    (hp : ∀ (x : Ltr) (mm : LtrT.μ) (X : List Nat) (w0 : World), (∀ k ∈ X, k < w0.heap.size) → St (LtrT.nest x mm) w0 X → St r w0 X → Calls Try.prog f (#[] ++ [.agg (ca [.one (.int .i64 x.no), .one (.int .i64 x.rc), .one (.slice mm.1 x.text.length mm.2)])].toArray ++ cs) w0 fun e w' => e = .returned (.bool (pb x)) ∧ Sep X [] w0 w' [] []) {X : List Nat} {w0 : World} (hX : ∀ k ∈ X, k < w0.heap.size) (hL : St (LiF LtrT A c xs m) w0 X) (hr : St (r) w0 X) :
    Calls Try.prog 38 #[.slice A xs.length c, .func (.func f) #[] cs] w0 fun e w' => e = .returned (.bool (xs.any pb)) ∧ Sep X [] w0 w' [] [] := by
  refine calls_env Try.ntmps38 Try.func38 rfl rfl fun a E => ?_; replace E : Env a _ [(0, _), (1, _)] := E
  have H : Sep X [] w0 w0 [] [(LiF LtrT A c xs m), (r)] := Sep.start hX (List.forall_mem_cons.2 ⟨hL, List.forall_mem_cons.2 ⟨hr, fun _ h => by cases h⟩⟩)
  refine wp_seq_k fun K0 hK0 => ?_; refine S_region ?_; refine S_val E (pk_assign rfl rfl) rfl rfl rfl ?_; clear E a; intro a E; refine hK0 _ _ ?_; refine wp_seq_k fun K1 hK1 => ?_; refine S_region ?_; refine S_val E (pk_move rfl rfl) rfl rfl rfl ?_; clear E a; intro a E; refine S_val E (pk_move rfl rfl) rfl rfl rfl ?_; clear E a; intro a E; refine S_eff E rfl (fun K hK => ?_); refine eff_call E rfl rfl rfl (by kernel_rfl) ?_; refine (IndexLtr_any hf hln hp H.xk (H.fact 0 rfl) (H.fact 1 rfl)).mono ?_; rintro e w ⟨rfl, H1⟩
  replace H := H.call H1
  clear H1; replace H : Sep _ _ _ _ [] [_, _] := H; refine hK _ _ ?_; clear hK K; refine S_put E rfl rfl ?_; clear E a; intro a E; refine S_val E (pk_int rfl rfl rfl rfl) rfl rfl rfl ?_; clear E a; intro a E; refine S_val E (pk_assign rfl rfl) rfl rfl rfl ?_; clear E a; intro a E; refine hK1 _ _ ?_; refine wp_ret ?_
  repeat (first | refine then_ret ?_ | refine block_ret ?_)
  refine ret1 rfl E (resT rfl) ?_
  exact ⟨by rw [← idx_any], H.pop.pop⟩
set_option maxRecDepth 100000 in
set_option maxHeartbeats 4000000 in
theorem IndexInt_any {A : Option Addr} {c : Nat} {xs : List Int} {m : Nat → IntT.μ} {pb : Int → Bool} {f : FuncId} {cs : Array Value} {r : World → Prop} (hf : fnB Try.prog f = true) (hln : xs.length ≤ 9223372036854775807)
    (hp : ∀ (x : Int) (mm : IntT.μ) (X : List Nat) (w0 : World), (∀ k ∈ X, k < w0.heap.size) → St (IntT.nest x mm) w0 X → St r w0 X → Calls Try.prog f (#[] ++ [.int .i64 x].toArray ++ cs) w0 fun e w' => e = .returned (.bool (pb x)) ∧ Sep X [] w0 w' [] []) {X : List Nat} {w0 : World} (hX : ∀ k ∈ X, k < w0.heap.size) (hL : St (LiF IntT A c xs m) w0 X) (hr : St (r) w0 X) :
    Calls Try.prog 72 #[.slice A xs.length c, .func (.func f) #[] cs] w0 fun e w' => e = .returned (.int .i64 (idxI pb xs)) ∧ Sep X [] w0 w' [] [] := by
  refine calls_env Try.ntmps72 Try.func72 rfl rfl fun a E => ?_; replace E : Env a _ [(0, _), (1, _)] := E
  have H : Sep X [] w0 w0 [] [(LiF IntT A c xs m), (r)] := Sep.start hX (List.forall_mem_cons.2 ⟨hL, List.forall_mem_cons.2 ⟨hr, fun _ h => by cases h⟩⟩)
  refine wp_seq_k fun K0 hK0 => ?_; refine S_region ?_; refine S_val E (pk_assign rfl rfl) rfl rfl rfl ?_; clear E a; intro a E; refine hK0 _ _ ?_; refine wp_seq_k fun K1 hK1 => ?_; refine wp_seq_k fun K2 hK2 => ?_; refine S_region ?_; refine S_val E (pk_move rfl rfl) rfl rfl rfl ?_; clear E a; intro a E; refine S_val E (pk_len rfl rfl (by kernel_rfl)) rfl rfl rfl ?_; clear E a; intro a E; refine S_val E (pk_move rfl rfl) rfl rfl rfl ?_; clear E a; intro a E; refine hK2 _ _ ?_; refine wp_block ?_; refine S_loopK (γ := Nat) [0, 1, 7] (fun k => [(8, .int .i64 (k : Int))]) (fun k => k ≤ xs.length ∧ ∀ (i : Nat) x, i < k → xs[i]? = some x → pb x = false) (fun k => xs.length - k) (0) E H (by repeat (first | exact trivial | refine ⟨rfl, ?_⟩)) (⟨Nat.zero_le _, fun i x hi => absurd hi (Nat.not_lt_zero _)⟩) ?_; clear E H; intro k a w E H hφ; replace E : Env a _ [(8, _), (0, _), (1, _), (7, _)] := E
  replace H : Sep _ _ _ _ [] [_, _] := H; refine wp_seq_k fun K3 hK3 => ?_; refine S_region ?_; refine S_val E (pk_int rfl rfl rfl rfl) rfl rfl rfl ?_; clear E a; intro a E; refine hK3 _ _ ?_; refine wp_seq_k fun K4 hK4 => ?_; refine env_split (d := 9) E rfl ?_ ?_
  · skip
    clear E; intro c9 E
    have hk : k < xs.length := by simpa using c9
    have hx0 : xs[k]? = some xs[k] := List.getElem?_eq_getElem hk
    have hφ1 := hφ.1
    refine S_then E rfl ?_; refine wp_skip ?_; refine hK4 _ _ ?_; refine wp_seq_k fun K5 hK5 => ?_; refine wp_block ?_; refine wp_seq_k fun K6 hK6 => ?_; refine S_region ?_; refine S_val E (pk_move rfl rfl) rfl rfl rfl ?_; clear E a; intro a E; refine S_val E (pk_assign rfl rfl) rfl rfl rfl ?_; clear E a; intro a E; refine hK6 _ _ ?_; refine wp_seq_k fun K7 hK7 => ?_; refine S_region ?_; refine S_val E (pk_move rfl rfl) rfl rfl rfl ?_; clear E a; intro a E; refine S_val E (pk_move rfl rfl) rfl rfl rfl ?_; clear E a; intro a E; refine S_val E (pk_move rfl rfl) rfl rfl rfl ?_; clear E a; intro a E
    obtain ⟨ad14, hA14, hc14, hn14⟩ := LiF.get (A := A) (i := k) (x := xs[k]) (by exact H.fact 0 rfl) hx0
    refine S_val E (pk_elA (sz := 1) hA14 rfl (by kernel_rfl) rfl rfl rfl (by omega)) rfl rfl rfl ?_; clear E a; intro a E
    replace H := (H.know hn14).know hc14
    clear hn14 hc14; replace H : Sep _ _ _ _ _ [_, _, _, _] := H; refine S_val E (pk_loadE1 (H.fact 0 rfl) (fun _ _ _ => trivial) rfl rfl rfl (by kernel_rfl)) rfl rfl rfl ?_; clear E a; intro a E; refine S_eff E rfl (fun K hK => ?_); refine eff_call E rfl rfl rfl hf ?_; refine (hp _ _ _ _ H.xk (H.fact 1 rfl) (H.fact 3 rfl)).mono ?_; rintro e w ⟨rfl, H1⟩
    replace H := H.call H1
    clear H1; replace H : Sep _ _ _ _ [] [_, _, _, _] := H; refine hK _ _ ?_; clear hK K; refine S_put E rfl rfl ?_; clear E a; intro a E; refine hK7 _ _ ?_; refine env_split (d := 16) E rfl ?_ ?_
    · skip
      clear E; intro c16 E; refine S_then E rfl ?_; refine wp_seq_k fun K8 hK8 => ?_; refine S_region ?_; refine S_val E (pk_move rfl rfl) rfl rfl rfl ?_; clear E a; intro a E; refine S_val E (pk_assign rfl rfl) rfl rfl rfl ?_; clear E a; intro a E; refine hK8 _ _ ?_; refine wp_ret ?_
      repeat (first | refine then_ret ?_ | refine block_ret ?_)
      refine ret1 rfl E (resT rfl) ?_
      exact ⟨by rw [idx_hit hx0 c16 hφ.2], H.pop.pop.pop.pop⟩
    · skip
      clear E; intro c16 E; refine S_else E rfl ?_; refine wp_skip ?_; refine hK5 _ _ ?_; refine S_region ?_; refine S_val E (pk_intw rfl rfl rfl rfl (wI64 (by omega) (by omega))) rfl rfl rfl ?_; clear E a; intro a E; refine S_val E (pk_move rfl rfl) rfl rfl rfl ?_; clear E a; intro a E; refine loop_end ?_
      exact ⟨k + 1, ⟨E.to (by repeat (first | exact trivial | refine ⟨rfl, ?_⟩)), H.pop.pop, ⟨by omega, fun i x hi hx => by rcases Nat.lt_succ_iff_lt_or_eq.1 hi with h | h; exact hφ.2 i x h hx; subst h; rw [hx0] at hx; obtain rfl := Option.some.inj hx; exact c16⟩⟩, by omega⟩
  · skip
    clear E; intro c9 E
    have hk : ¬ k < xs.length := by simpa using c9
    refine S_else E rfl ?_; refine wp_exit ?_
    repeat (first | refine then_exit ?_ | refine block_hit ?_ | refine block_miss (by decide) ?_)
    refine hK1 _ _ ?_; refine wp_seq_k fun K9 hK9 => ?_; refine S_region ?_; refine S_val E (pk_assign rfl rfl) rfl rfl rfl ?_; clear E a; intro a E; refine hK9 _ _ ?_; refine wp_ret ?_
    repeat (first | refine then_ret ?_ | refine block_ret ?_)
    refine ret1 rfl E (resT rfl) ?_
    exact ⟨by rw [idx_miss (fun i x hx => hφ.2 i x (by have := (List.getElem?_eq_some_iff.1 hx).1; omega) hx)], H.pop.pop⟩
set_option maxRecDepth 100000 in
set_option maxHeartbeats 4000000 in
theorem ContainsInt_any {A : Option Addr} {c : Nat} {xs : List Int} {m : Nat → IntT.μ} {pb : Int → Bool} {f : FuncId} {cs : Array Value} {r : World → Prop} (hf : fnB Try.prog f = true) (hln : xs.length ≤ 9223372036854775807)
    (hp : ∀ (x : Int) (mm : IntT.μ) (X : List Nat) (w0 : World), (∀ k ∈ X, k < w0.heap.size) → St (IntT.nest x mm) w0 X → St r w0 X → Calls Try.prog f (#[] ++ [.int .i64 x].toArray ++ cs) w0 fun e w' => e = .returned (.bool (pb x)) ∧ Sep X [] w0 w' [] []) {X : List Nat} {w0 : World} (hX : ∀ k ∈ X, k < w0.heap.size) (hL : St (LiF IntT A c xs m) w0 X) (hr : St (r) w0 X) :
    Calls Try.prog 33 #[.slice A xs.length c, .func (.func f) #[] cs] w0 fun e w' => e = .returned (.bool (xs.any pb)) ∧ Sep X [] w0 w' [] [] := by
  refine calls_env Try.ntmps33 Try.func33 rfl rfl fun a E => ?_; replace E : Env a _ [(0, _), (1, _)] := E
  have H : Sep X [] w0 w0 [] [(LiF IntT A c xs m), (r)] := Sep.start hX (List.forall_mem_cons.2 ⟨hL, List.forall_mem_cons.2 ⟨hr, fun _ h => by cases h⟩⟩)
  refine wp_seq_k fun K0 hK0 => ?_; refine S_region ?_; refine S_val E (pk_assign rfl rfl) rfl rfl rfl ?_; clear E a; intro a E; refine hK0 _ _ ?_; refine wp_seq_k fun K1 hK1 => ?_; refine S_region ?_; refine S_val E (pk_move rfl rfl) rfl rfl rfl ?_; clear E a; intro a E; refine S_val E (pk_move rfl rfl) rfl rfl rfl ?_; clear E a; intro a E; refine S_eff E rfl (fun K hK => ?_); refine eff_call E rfl rfl rfl (by kernel_rfl) ?_; refine (IndexInt_any hf hln hp H.xk (H.fact 0 rfl) (H.fact 1 rfl)).mono ?_; rintro e w ⟨rfl, H1⟩
  replace H := H.call H1
  clear H1; replace H : Sep _ _ _ _ [] [_, _] := H; refine hK _ _ ?_; clear hK K; refine S_put E rfl rfl ?_; clear E a; intro a E; refine S_val E (pk_int rfl rfl rfl rfl) rfl rfl rfl ?_; clear E a; intro a E; refine S_val E (pk_assign rfl rfl) rfl rfl rfl ?_; clear E a; intro a E; refine hK1 _ _ ?_; refine wp_ret ?_
  repeat (first | refine then_ret ?_ | refine block_ret ?_)
  refine ret1 rfl E (resT rfl) ?_
  exact ⟨by rw [← idx_any], H.pop.pop⟩
/-- A server. -/
structure Srv where
  ep : Int
  log : List (List Nat)
  wait : List Ltr
  nx : Int
def okS (s : Srv) : Bool := decide (s.ep = (s.log.length : Int)) && decide (s.log.length ≤ 2000) && decide (s.wait.length ≤ 20000) && decide (0 ≤ s.nx) && decide (s.nx ≤ 1099511627776) && !s.wait.any fun x => oddB s.nx x.no x.rc
set_option maxRecDepth 100000 in
set_option maxHeartbeats 4000000 in
theorem Check_any {ep nx : Int} {LA WA : Option Addr} {lc wc : Nat} {log : List (List Nat)} {wait : List Ltr} {lm : Nat → TextT.μ} {wm : Nat → LtrT.μ} {X : List Nat} {w0 : World} (hX : ∀ k ∈ X, k < w0.heap.size) (hL : St (LiF TextT LA lc log lm) w0 X) (hW : St (LiF LtrT WA wc wait wm) w0 X) :
    Calls Try.prog 13 #[.agg (ca [.one (.int .u64 ep), .one (.slice LA log.length lc), .one (.slice WA wait.length wc), .one (.int .i64 nx)])] w0 fun e w' => e = .returned (.int .i64 (if okS ⟨ep, log, wait, nx⟩ then 0 else 1)) ∧ Sep X [] w0 w' [] [] := by
  have hLb := hL.now.big
  have hWb := hW.now.big
  refine calls_env Try.ntmps13 Try.func13 rfl rfl fun a E => ?_; replace E : Env a _ [(0, _)] := E
  have H : Sep X [] w0 w0 [] [(LiF TextT LA lc log lm), (LiF LtrT WA wc wait wm)] := Sep.start hX (List.forall_mem_cons.2 ⟨hL, List.forall_mem_cons.2 ⟨hW, fun _ h => by cases h⟩⟩)
  refine wp_seq_k fun K0 hK0 => ?_; refine S_region ?_; refine S_eff E rfl (fun K hK => ?_); refine eff_box E H rfl rfl rfl ?_; clear H; intro b1 w H _; refine hK _ _ ?_; clear hK K; refine S_put E rfl rfl ?_; clear E a; intro a E; refine S_val E (pk_assign rfl rfl) rfl rfl rfl ?_; clear E a; intro a E; refine hK0 _ _ ?_; refine wp_seq_k fun K1 hK1 => ?_; refine wp_seq_k fun K2 hK2 => ?_; refine S_region ?_; refine S_val E (pk_fieldAddr (off := 0) rfl rfl (by kernel_rfl)) rfl rfl rfl ?_; clear E a; intro a E; refine S_val E (pk_load1 H 0 rfl rfl rfl trivial rfl (by kernel_rfl)) rfl rfl rfl ?_; clear E a; intro a E; refine S_val E (pk_fieldAddr (off := 1) rfl rfl (by kernel_rfl)) rfl rfl rfl ?_; clear E a; intro a E; refine S_val E (pk_load1 H 0 rfl rfl rfl trivial rfl (by kernel_rfl)) rfl rfl rfl ?_; clear E a; intro a E; refine S_val E (pk_len rfl rfl (by kernel_rfl)) rfl rfl rfl ?_
  clear E a; intro a E; refine S_val E (pk_convw rfl rfl (by kernel_rfl) (by kernel_rfl) (wU64 (by omega) (by omega))) rfl rfl rfl ?_; clear E a; intro a E; refine S_val E (pk_int rfl rfl rfl rfl) rfl rfl rfl ?_; clear E a; intro a E; refine S_val E (pk_move rfl rfl) rfl rfl rfl ?_; clear E a; intro a E; refine env_split (d := 10) E rfl ?_ ?_
  · skip
    clear E; intro c10 E; refine S_skip E rfl rfl rfl ?_; clear E a; intro a E; refine S_skip E rfl rfl rfl ?_; clear E a; intro a E; refine S_skip E rfl rfl rfl ?_; clear E a; intro a E; refine S_skip E rfl rfl rfl ?_; clear E a; intro a E; refine S_val E (pk_pick rfl rfl rfl) rfl rfl rfl ?_; clear E a; intro a E; refine S_val E (pk_move rfl rfl) rfl rfl rfl ?_; clear E a; intro a E; refine S_skip E rfl rfl rfl ?_; clear E a; intro a E; refine S_skip E rfl rfl rfl ?_; clear E a; intro a E; refine S_skip E rfl rfl rfl ?_; clear E a; intro a E; refine S_skip E rfl rfl rfl ?_; clear E a; intro a E; refine S_val E (pk_pick rfl rfl rfl) rfl rfl rfl ?_; clear E a; intro a E; refine S_val E (pk_move rfl rfl) rfl rfl rfl ?_; clear E a; intro a E; refine S_skip E rfl rfl rfl ?_; clear E a; intro a E; refine S_skip E rfl rfl rfl ?_; clear E a; intro a E; refine S_skip E rfl rfl rfl ?_; clear E a
    intro a E; refine S_val E (pk_pick rfl rfl rfl) rfl rfl rfl ?_; clear E a; intro a E; refine S_val E (pk_move rfl rfl) rfl rfl rfl ?_; clear E a; intro a E; refine S_skip E rfl rfl rfl ?_; clear E a; intro a E; refine S_skip E rfl rfl rfl ?_; clear E a; intro a E; refine S_skip E rfl rfl rfl ?_; clear E a; intro a E; refine S_val E (pk_pick rfl rfl rfl) rfl rfl rfl ?_; clear E a; intro a E; refine hK2 _ _ ?_; refine S_then E rfl ?_; refine wp_seq_k fun K3 hK3 => ?_; refine S_region ?_; refine S_val E (pk_assign rfl rfl) rfl rfl rfl ?_; clear E a; intro a E; refine hK3 _ _ ?_; refine wp_ret ?_
    repeat (first | refine then_ret ?_ | refine block_ret ?_)
    refine ret1 rfl E (resT rfl) ?_; refine ⟨?_, H.popL.pop.pop⟩
    rw [if_neg]
    simp only [okS, Bool.and_eq_true, decide_eq_true_eq, Bool.not_eq_true', bne_iff_ne, ne_eq] at *
    omega
  · skip
    clear E; intro c10 E; refine S_val E (pk_fieldAddr (off := 1) rfl rfl (by kernel_rfl)) rfl rfl rfl ?_; clear E a; intro a E; refine S_val E (pk_load1 H 0 rfl rfl rfl trivial rfl (by kernel_rfl)) rfl rfl rfl ?_; clear E a; intro a E; refine S_val E (pk_len rfl rfl (by kernel_rfl)) rfl rfl rfl ?_; clear E a; intro a E; refine S_val E (pk_int rfl rfl rfl rfl) rfl rfl rfl ?_; clear E a; intro a E; refine S_val E (pk_pick rfl rfl rfl) rfl rfl rfl ?_; clear E a; intro a E; refine S_val E (pk_move rfl rfl) rfl rfl rfl ?_; clear E a; intro a E; refine env_split (d := 16) E rfl ?_ ?_
    · skip
      clear E; intro c16 E; refine S_skip E rfl rfl rfl ?_; clear E a; intro a E; refine S_skip E rfl rfl rfl ?_; clear E a; intro a E; refine S_skip E rfl rfl rfl ?_; clear E a; intro a E; refine S_skip E rfl rfl rfl ?_; clear E a; intro a E; refine S_val E (pk_pick rfl rfl rfl) rfl rfl rfl ?_; clear E a; intro a E; refine S_val E (pk_move rfl rfl) rfl rfl rfl ?_; clear E a; intro a E; refine S_skip E rfl rfl rfl ?_; clear E a; intro a E; refine S_skip E rfl rfl rfl ?_; clear E a; intro a E; refine S_skip E rfl rfl rfl ?_; clear E a; intro a E; refine S_val E (pk_pick rfl rfl rfl) rfl rfl rfl ?_; clear E a; intro a E; refine S_val E (pk_move rfl rfl) rfl rfl rfl ?_; clear E a; intro a E; refine S_skip E rfl rfl rfl ?_; clear E a; intro a E; refine S_skip E rfl rfl rfl ?_; clear E a; intro a E; refine S_skip E rfl rfl rfl ?_; clear E a; intro a E
      refine S_val E (pk_pick rfl rfl rfl) rfl rfl rfl ?_; clear E a; intro a E; refine hK2 _ _ ?_; refine S_then E rfl ?_; refine wp_seq_k fun K4 hK4 => ?_; refine S_region ?_; refine S_val E (pk_assign rfl rfl) rfl rfl rfl ?_; clear E a; intro a E; refine hK4 _ _ ?_; refine wp_ret ?_
      repeat (first | refine then_ret ?_ | refine block_ret ?_)
      refine ret1 rfl E (resT rfl) ?_; refine ⟨?_, H.popL.pop.pop⟩
      rw [if_neg]
      simp only [okS, Bool.and_eq_true, decide_eq_true_eq, Bool.not_eq_true', bne_iff_ne, ne_eq] at *
      omega
    · skip
      clear E; intro c16 E; refine S_val E (pk_fieldAddr (off := 2) rfl rfl (by kernel_rfl)) rfl rfl rfl ?_; clear E a; intro a E; refine S_val E (pk_load1 H 0 rfl rfl rfl trivial rfl (by kernel_rfl)) rfl rfl rfl ?_; clear E a; intro a E; refine S_val E (pk_len rfl rfl (by kernel_rfl)) rfl rfl rfl ?_; clear E a; intro a E; refine S_val E (pk_int rfl rfl rfl rfl) rfl rfl rfl ?_; clear E a; intro a E; refine S_val E (pk_pick rfl rfl rfl) rfl rfl rfl ?_; clear E a; intro a E; refine S_val E (pk_move rfl rfl) rfl rfl rfl ?_; clear E a; intro a E; refine env_split (d := 22) E rfl ?_ ?_
      · skip
        clear E; intro c22 E; refine S_skip E rfl rfl rfl ?_; clear E a; intro a E; refine S_skip E rfl rfl rfl ?_; clear E a; intro a E; refine S_skip E rfl rfl rfl ?_; clear E a; intro a E; refine S_val E (pk_pick rfl rfl rfl) rfl rfl rfl ?_; clear E a; intro a E; refine S_val E (pk_move rfl rfl) rfl rfl rfl ?_; clear E a; intro a E; refine S_skip E rfl rfl rfl ?_; clear E a; intro a E; refine S_skip E rfl rfl rfl ?_; clear E a; intro a E; refine S_skip E rfl rfl rfl ?_; clear E a; intro a E; refine S_val E (pk_pick rfl rfl rfl) rfl rfl rfl ?_; clear E a; intro a E; refine hK2 _ _ ?_; refine S_then E rfl ?_; refine wp_seq_k fun K5 hK5 => ?_; refine S_region ?_; refine S_val E (pk_assign rfl rfl) rfl rfl rfl ?_; clear E a; intro a E; refine hK5 _ _ ?_; refine wp_ret ?_
        repeat (first | refine then_ret ?_ | refine block_ret ?_)
        refine ret1 rfl E (resT rfl) ?_; refine ⟨?_, H.popL.pop.pop⟩
        rw [if_neg]
        simp only [okS, Bool.and_eq_true, decide_eq_true_eq, Bool.not_eq_true', bne_iff_ne, ne_eq] at *
        omega
      · skip
        clear E; intro c22 E; refine S_val E (pk_fieldAddr (off := 3) rfl rfl (by kernel_rfl)) rfl rfl rfl ?_; clear E a; intro a E; refine S_val E (pk_load1 H 0 rfl rfl rfl trivial rfl (by kernel_rfl)) rfl rfl rfl ?_; clear E a; intro a E; refine S_val E (pk_int rfl rfl rfl rfl) rfl rfl rfl ?_; clear E a; intro a E; refine S_val E (pk_pick rfl rfl rfl) rfl rfl rfl ?_; clear E a; intro a E; refine S_val E (pk_move rfl rfl) rfl rfl rfl ?_; clear E a; intro a E; refine env_split (d := 27) E rfl ?_ ?_
        · skip
          clear E; intro c27 E; refine S_skip E rfl rfl rfl ?_; clear E a; intro a E; refine S_skip E rfl rfl rfl ?_; clear E a; intro a E; refine S_skip E rfl rfl rfl ?_; clear E a; intro a E; refine S_val E (pk_pick rfl rfl rfl) rfl rfl rfl ?_; clear E a; intro a E; refine hK2 _ _ ?_; refine S_then E rfl ?_; refine wp_seq_k fun K6 hK6 => ?_; refine S_region ?_; refine S_val E (pk_assign rfl rfl) rfl rfl rfl ?_; clear E a; intro a E; refine hK6 _ _ ?_; refine wp_ret ?_
          repeat (first | refine then_ret ?_ | refine block_ret ?_)
          refine ret1 rfl E (resT rfl) ?_; refine ⟨?_, H.popL.pop.pop⟩
          rw [if_neg]
          simp only [okS, Bool.and_eq_true, decide_eq_true_eq, Bool.not_eq_true', bne_iff_ne, ne_eq] at *
          omega
        · skip
          clear E; intro c27 E; refine S_val E (pk_fieldAddr (off := 3) rfl rfl (by kernel_rfl)) rfl rfl rfl ?_; clear E a; intro a E; refine S_val E (pk_load1 H 0 rfl rfl rfl trivial rfl (by kernel_rfl)) rfl rfl rfl ?_; clear E a; intro a E; refine S_val E (pk_int rfl rfl rfl rfl) rfl rfl rfl ?_; clear E a; intro a E; refine S_val E (pk_pick rfl rfl rfl) rfl rfl rfl ?_; clear E a; intro a E; refine hK2 _ _ ?_; refine env_split (d := 31) E rfl ?_ ?_
          · skip
            clear E; intro c31 E; refine S_then E rfl ?_; refine wp_seq_k fun K7 hK7 => ?_; refine S_region ?_; refine S_val E (pk_assign rfl rfl) rfl rfl rfl ?_; clear E a; intro a E; refine hK7 _ _ ?_; refine wp_ret ?_
            repeat (first | refine then_ret ?_ | refine block_ret ?_)
            refine ret1 rfl E (resT rfl) ?_; refine ⟨?_, H.popL.pop.pop⟩
            rw [if_neg]
            simp only [okS, Bool.and_eq_true, decide_eq_true_eq, Bool.not_eq_true', bne_iff_ne, ne_eq] at *
            omega
          · skip
            clear E; intro c31 E; refine S_else E rfl ?_; refine wp_skip ?_; refine hK1 _ _ ?_; refine wp_seq_k fun K8 hK8 => ?_; refine wp_seq_k fun K9 hK9 => ?_; refine S_region ?_; refine S_val E (pk_fieldAddr (off := 2) rfl rfl (by kernel_rfl)) rfl rfl rfl ?_; clear E a; intro a E; refine S_val E (pk_load1 H 0 rfl rfl rfl trivial rfl (by kernel_rfl)) rfl rfl rfl ?_; clear E a; intro a E; refine S_val E (pk_makeFunc rfl rfl rfl) rfl rfl rfl ?_; clear E a; intro a E; refine S_eff E rfl (fun K hK => ?_); refine eff_call E rfl rfl rfl (by kernel_rfl) ?_
            have HL := by exact H.lend (b := b1) 0 rfl
            refine (ContainsLtr_any (f := 39) (cs := #[.pointer (some ⟨b1, 0, none⟩)]) (pb := fun x => oddB nx x.no x.rc) (r := AtC ⟨b1, 0, none⟩ [.one (.int .u64 ep), .one (.slice LA log.length lc), .one (.slice WA wait.length wc), .one (.int .i64 nx)]) (by kernel_rfl) hWb (fun x mm X w0 hX hn hr => Check1_any hX hr) HL.xk (HL.fact 2 rfl) (HL.fact 0 rfl)).mono ?_; clear HL; rintro e w ⟨rfl, H1⟩
            have F := H1.frm
            replace H := H.grow F
            refine hK _ _ ?_; clear hK K; refine S_put E rfl rfl ?_; clear E a; intro a E; clear F; refine hK9 _ _ ?_; refine env_split (d := 35) E rfl ?_ ?_
            · skip
              clear E; intro c35 E; refine S_then E rfl ?_; refine wp_seq_k fun K10 hK10 => ?_; refine S_region ?_; refine S_val E (pk_assign rfl rfl) rfl rfl rfl ?_; clear E a; intro a E; refine hK10 _ _ ?_; refine wp_ret ?_
              repeat (first | refine then_ret ?_ | refine block_ret ?_)
              refine ret1 rfl E (resT rfl) ?_; refine ⟨?_, H.popL.pop.pop⟩
              rw [if_neg]
              unfold okS
              rw [c35]
              simp
            · skip
              clear E; intro c35 E; refine S_else E rfl ?_; refine wp_skip ?_; refine hK8 _ _ ?_; refine wp_seq_k fun K11 hK11 => ?_; refine S_region ?_; refine S_val E (pk_assign rfl rfl) rfl rfl rfl ?_; clear E a; intro a E; refine hK11 _ _ ?_; refine wp_ret ?_
              repeat (first | refine then_ret ?_ | refine block_ret ?_)
              refine ret1 rfl E (resT rfl) ?_; refine ⟨?_, H.popL.pop.pop⟩
              rw [if_pos]
              unfold okS
              rw [c35]
              simp at *
              omega
set_option maxRecDepth 100000 in
set_option maxHeartbeats 4000000 in
theorem CloneTexts {A : Option Addr} {c : Nat} {xs : List (List Nat)} {m : Nat → TextT.μ} (hln : xs.length ≤ 1000000) {X : List Nat} {w0 : World} (hX : ∀ k ∈ X, k < w0.heap.size) (hL : St (LiF TextT A c xs m) w0 X) :
    Calls Try.prog 75 #[.slice A xs.length c] w0 fun e w' => ∃ A' c', e = .returned (.slice A' xs.length c') ∧ Sep X [] w0 w' [.row (.slice A' xs.length c') 23 TextT.sz xs.length (rowC TextT (itemsOf TextT xs m))] [NestF TextT (itemsOf TextT xs m)] := by
  refine calls_env Try.ntmps75 Try.func75 rfl rfl fun a E => ?_; replace E : Env a _ [(0, _)] := E
  have H : Sep X [] w0 w0 [] [(LiF TextT A c xs m)] := Sep.start hX (List.forall_mem_cons.2 ⟨hL, fun _ h => by cases h⟩)
  refine wp_seq_k fun K0 hK0 => ?_; refine S_region ?_; refine S_val E (pk_assign rfl rfl) rfl rfl rfl ?_; clear E a; intro a E; refine hK0 _ _ ?_; refine wp_seq_k fun K1 hK1 => ?_; refine wp_seq_k fun K2 hK2 => ?_; refine S_region ?_; refine S_val E (pk_move rfl rfl) rfl rfl rfl ?_; clear E a; intro a E; refine S_val E (pk_eqnil rfl rfl rfl (by kernel_rfl)) rfl rfl rfl ?_; clear E a; intro a E; refine hK2 _ _ ?_; refine env_split (d := 4) E rfl ?_ ?_
  · skip
    clear E; intro c4 E
    have hA : A = none := by cases A <;> simp_all
    have h0 := (hL.now.nil hA).1
    obtain rfl : xs = [] := List.eq_nil_of_length_eq_zero h0
    refine S_then E rfl ?_; refine wp_seq_k fun K3 hK3 => ?_; refine S_region ?_; refine S_val E (pk_assign rfl rfl) rfl rfl rfl ?_; clear E a; intro a E; refine hK3 _ _ ?_; refine wp_ret ?_
    repeat (first | refine then_ret ?_ | refine block_ret ?_)
    refine ret1 rfl E (resT rfl) ?_
    exact ⟨none, 0, rfl, ((H.rownil _ _).know nest_nil).drop1⟩
  · skip
    clear E; intro c4 E; refine S_else E rfl ?_; refine wp_skip ?_; refine hK1 _ _ ?_; refine wp_seq_k fun K4 hK4 => ?_; refine S_region ?_; refine S_eff E rfl (fun K hK => ?_); refine eff_bslice0 (sz := 1) H rfl Try.underlying22 (by kernel_rfl) ?_; clear H; intro b5 w H _; refine hK _ _ ?_; clear hK K; refine S_put E rfl rfl ?_; clear E a; intro a E; refine S_val E (pk_move rfl rfl) rfl rfl rfl ?_; clear E a; intro a E; refine S_eff E rfl (fun K hK => ?_); refine eff_appL (T := TextT) (its := []) 0 (by_ := 24) E H (H.fact 0 rfl) rfl rfl rfl rfl ⟨Try.underlying22, by kernel_rfl⟩ (by simp; omega) (by simp; omega) ?_; clear H; intro A7 c7 w hcap H F; refine hK _ _ ?_; clear hK K; refine S_put E rfl rfl ?_; clear E a; intro a E; clear F; refine S_val E (pk_assign rfl rfl) rfl rfl rfl ?_; clear E a; intro a E; refine hK4 _ _ ?_; refine wp_ret ?_
    repeat (first | refine then_ret ?_ | refine block_ret ?_)
    refine ret1 rfl E (resT rfl) ?_; refine ⟨A7, c7, by simp [itms_len], ?_⟩
    have h2 := H.know (nest_items (H.fact 0 rfl))
    simp only [List.nil_append, itms_len, List.set_cons_zero] at h2
    exact h2.drop1
set_option maxRecDepth 100000 in
set_option maxHeartbeats 4000000 in
theorem CloneLtrs {A : Option Addr} {c : Nat} {xs : List Ltr} {m : Nat → LtrT.μ} (hln : xs.length ≤ 1000000) {X : List Nat} {w0 : World} (hX : ∀ k ∈ X, k < w0.heap.size) (hL : St (LiF LtrT A c xs m) w0 X) :
    Calls Try.prog 76 #[.slice A xs.length c] w0 fun e w' => ∃ A' c', e = .returned (.slice A' xs.length c') ∧ Sep X [] w0 w' [.row (.slice A' xs.length c') 49 LtrT.sz xs.length (rowC LtrT (itemsOf LtrT xs m))] [NestF LtrT (itemsOf LtrT xs m)] := by
  refine calls_env Try.ntmps76 Try.func76 rfl rfl fun a E => ?_; replace E : Env a _ [(0, _)] := E
  have H : Sep X [] w0 w0 [] [(LiF LtrT A c xs m)] := Sep.start hX (List.forall_mem_cons.2 ⟨hL, fun _ h => by cases h⟩)
  refine wp_seq_k fun K0 hK0 => ?_; refine S_region ?_; refine S_val E (pk_assign rfl rfl) rfl rfl rfl ?_; clear E a; intro a E; refine hK0 _ _ ?_; refine wp_seq_k fun K1 hK1 => ?_; refine wp_seq_k fun K2 hK2 => ?_; refine S_region ?_; refine S_val E (pk_move rfl rfl) rfl rfl rfl ?_; clear E a; intro a E; refine S_val E (pk_eqnil rfl rfl rfl (by kernel_rfl)) rfl rfl rfl ?_; clear E a; intro a E; refine hK2 _ _ ?_; refine env_split (d := 4) E rfl ?_ ?_
  · skip
    clear E; intro c4 E
    have hA : A = none := by cases A <;> simp_all
    have h0 := (hL.now.nil hA).1
    obtain rfl : xs = [] := List.eq_nil_of_length_eq_zero h0
    refine S_then E rfl ?_; refine wp_seq_k fun K3 hK3 => ?_; refine S_region ?_; refine S_val E (pk_assign rfl rfl) rfl rfl rfl ?_; clear E a; intro a E; refine hK3 _ _ ?_; refine wp_ret ?_
    repeat (first | refine then_ret ?_ | refine block_ret ?_)
    refine ret1 rfl E (resT rfl) ?_
    exact ⟨none, 0, rfl, ((H.rownil _ _).know nest_nil).drop1⟩
  · skip
    clear E; intro c4 E; refine S_else E rfl ?_; refine wp_skip ?_; refine hK1 _ _ ?_; refine wp_seq_k fun K4 hK4 => ?_; refine S_region ?_; refine S_eff E rfl (fun K hK => ?_); refine eff_bslice0 (sz := 3) H rfl Try.underlying28 (by kernel_rfl) ?_; clear H; intro b5 w H _; refine hK _ _ ?_; clear hK K; refine S_put E rfl rfl ?_; clear E a; intro a E; refine S_val E (pk_move rfl rfl) rfl rfl rfl ?_; clear E a; intro a E; refine S_eff E rfl (fun K hK => ?_); refine eff_appL (T := LtrT) (its := []) 0 (by_ := 40) E H (H.fact 0 rfl) rfl rfl rfl rfl ⟨Try.underlying28, by kernel_rfl⟩ (by simp; omega) (by simp; omega) ?_; clear H; intro A7 c7 w hcap H F; refine hK _ _ ?_; clear hK K; refine S_put E rfl rfl ?_; clear E a; intro a E; clear F; refine S_val E (pk_assign rfl rfl) rfl rfl rfl ?_; clear E a; intro a E; refine hK4 _ _ ?_; refine wp_ret ?_
    repeat (first | refine then_ret ?_ | refine block_ret ?_)
    refine ret1 rfl E (resT rfl) ?_; refine ⟨A7, c7, by simp [itms_len], ?_⟩
    have h2 := H.know (nest_items (H.fact 0 rfl))
    simp only [List.nil_append, itms_len, List.set_cons_zero] at h2
    exact h2.drop1
set_option maxRecDepth 100000 in
set_option maxHeartbeats 4000000 in
theorem own_any {ep nx : Int} {LA WA : Option Addr} {lc wc : Nat} {log : List (List Nat)} {wait : List Ltr} {lm : Nat → TextT.μ} {wm : Nat → LtrT.μ} (hl1 : log.length ≤ 1000000) (hl2 : wait.length ≤ 1000000) {X : List Nat} {w0 : World} (hX : ∀ k ∈ X, k < w0.heap.size) (hL : St (LiF TextT LA lc log lm) w0 X) (hW : St (LiF LtrT WA wc wait wm) w0 X) :
    Calls Try.prog 36 #[.agg (ca [.one (.int .u64 ep), .one (.slice LA log.length lc), .one (.slice WA wait.length wc), .one (.int .i64 nx)])] w0 fun e w' => ∃ LA' lc' WA' wc' ds es, ds.map Prod.fst = log ∧ es.map Prod.fst = wait ∧ e = .returned (.agg (ca [.one (.int .u64 ep), .one (.slice LA' ds.length lc'), .one (.slice WA' es.length wc'), .one (.int .i64 nx)])) ∧ Sep X [] w0 w' [.row (.slice WA' es.length wc') 49 3 es.length (rowC LtrT (es)), .row (.slice LA' ds.length lc') 23 1 ds.length (rowC TextT (ds))] [NestF LtrT es, NestF TextT ds] := by
  refine calls_env Try.ntmps36 Try.func36 rfl rfl fun a E => ?_; replace E : Env a _ [(0, _)] := E
  have H : Sep X [] w0 w0 [] [(LiF TextT LA lc log lm), (LiF LtrT WA wc wait wm)] := Sep.start hX (List.forall_mem_cons.2 ⟨hL, List.forall_mem_cons.2 ⟨hW, fun _ h => by cases h⟩⟩)
  refine wp_seq_k fun K0 hK0 => ?_; refine S_region ?_; refine S_eff E rfl (fun K hK => ?_); refine eff_box E H rfl rfl rfl ?_; clear H; intro b1 w H _; refine hK _ _ ?_; clear hK K; refine S_put E rfl rfl ?_; clear E a; intro a E; refine S_eff E rfl (fun K hK => ?_); refine eff_alloc (z := [.one (.int .u64 0), .one (.slice none 0 0), .one (.slice none 0 0), .one (.int .i64 0)]) H rfl (by kernel_rfl) ?_; clear H; intro b2 w H _; refine hK _ _ ?_; clear hK K; refine S_put E rfl rfl ?_; clear E a; intro a E; refine hK0 _ _ ?_; refine wp_seq_k fun K1 hK1 => ?_; refine C_region E H [] 7 [(0, false), (1, false), (3, false), (4, false), (2, true), (6, false), (5, true)] (by kernel_rfl) (by kernel_rfl) (fun w HS => ?_)
  (simp only [canOps, List.getElem?_cons_zero, List.getElem?_cons_succ, List.drop_succ_cons, List.drop_zero])
  clear H
  have H := HS
  have hsz : w.heap.size ≤ w.heap.size := Nat.le_refl _
  have HK : CanB.Keep (fun k => k < w.heap.size ∧ k ∉ []) w w := CanB.Keep.refl _ _
  refine C_val E HK (pk_fieldAddr (off := 1) rfl rfl (by kernel_rfl)) rfl rfl rfl (fun _ _ _ _ h => h) ?_; clear E a; intro a E; refine C_val E HK (pk_load1 HS 1 rfl rfl rfl (HS.inS 1 rfl (by simp)) rfl (by kernel_rfl)) rfl rfl rfl (fun _ _ _ _ h => h) ?_; clear E a; intro a E; refine C_val E HK (pk_fieldAddr (off := 2) rfl rfl (by kernel_rfl)) rfl rfl rfl (fun _ _ _ _ h => h) ?_; clear E a; intro a E; refine C_val E HK (pk_load1 HS 1 rfl rfl rfl (HS.inS 1 rfl (by simp)) rfl (by kernel_rfl)) rfl rfl rfl (fun _ _ _ _ h => h) ?_; clear E a; intro a E; refine C_eff E rfl (fun K hK => ?_); refine eff_call E rfl rfl rfl (by kernel_rfl) ?_; refine (CloneTexts hl1 H.xk (H.fact 0 rfl)).mono ?_; rintro e w ⟨A9, c9, rfl, H1⟩
  have F := H1.frm
  replace H := H.call H1
  clear H1; replace H : Sep _ _ _ _ [_, _, _] [_, _, _] := H
  have hk := keep_frm (D := []) F hsz (by simp)
  refine hK _ _ hk ?_; clear hK K
  replace HK := HK.trans hk
  replace hsz := Nat.le_trans hsz (F).size
  clear hk; refine C_put E rfl rfl ?_; clear E a; intro a E; clear F; refine C_val E HK (pk_fieldAddr (off := 1) rfl rfl (by kernel_rfl)) rfl rfl rfl (fun _ _ _ _ h => h) ?_; clear E a; intro a E; refine C_eff E rfl (fun K hK => ?_); refine eff_call E rfl rfl rfl (by kernel_rfl) ?_; refine (CloneLtrs hl2 H.xk (H.fact 2 rfl)).mono ?_; rintro e w ⟨A12, c12, rfl, H1⟩
  have F := H1.frm
  replace H := H.call H1
  clear H1; replace H : Sep _ _ _ _ [_, _, _, _] [_, _, _, _] := H
  have hk := keep_frm (D := []) F hsz (by simp)
  refine hK _ _ hk ?_; clear hK K
  replace HK := HK.trans hk
  replace hsz := Nat.le_trans hsz (F).size
  clear hk; refine C_put E rfl rfl ?_; clear E a; intro a E; clear F; refine CanB.wpCan_nil ?_
  try (simp only [List.take_succ_cons, List.take_zero, List.drop_succ_cons, List.drop_zero])
  clear HS HK hsz; refine S_eff E rfl (fun K hK => ?_); refine eff_store 3 (new := [.one _]) E H rfl rfl rfl rfl rfl (by repeat (first | exact trivial | refine ⟨rfl, ?_⟩ | refine ⟨fun _ _ => rfl, ?_⟩)) rfl (by kernel_rfl) rfl ?_; clear H; intro w H _; replace H : Sep _ _ _ _ [_, _, _, _] _ := H; refine hK _ _ ?_; clear hK K; refine S_put0 rfl ?_; refine S_val E (pk_fieldAddr (off := 2) rfl rfl (by kernel_rfl)) rfl rfl rfl ?_; clear E a; intro a E; refine S_eff E rfl (fun K hK => ?_); refine eff_store 3 (new := [.one _]) E H rfl rfl rfl rfl rfl (by repeat (first | exact trivial | refine ⟨rfl, ?_⟩ | refine ⟨fun _ _ => rfl, ?_⟩)) rfl (by kernel_rfl) rfl ?_; clear H; intro w H _; replace H : Sep _ _ _ _ [_, _, _, _] _ := H; refine hK _ _ ?_; clear hK K; refine S_put0 rfl ?_; refine hK1 _ _ ?_; refine wp_seq_k fun K2 hK2 => ?_; refine wp_seq_k fun K3 hK3 => ?_; refine S_region ?_
  refine S_val E (pk_fieldAddr (off := 1) rfl rfl (by kernel_rfl)) rfl rfl rfl ?_; clear E a; intro a E; refine S_val E (pk_load1 H 3 rfl rfl rfl trivial rfl (by kernel_rfl)) rfl rfl rfl ?_; clear E a; intro a E; refine S_val E (pk_len rfl rfl (by kernel_rfl)) rfl rfl rfl ?_; clear E a; intro a E; refine S_val E (pk_move rfl rfl) rfl rfl rfl ?_; clear E a; intro a E; refine hK3 _ _ ?_; refine wp_block ?_
  refine S_loopI (γ := List (List Nat × TextT.μ)) [1, 2, 16, 17] (fun ds => [(18, .int .i64 (ds.length : Int))]) (fun ds => [.row (.slice A12 wait.length c12) 49 3 wait.length (rowC LtrT (itemsOf LtrT wait wm)), .row (.slice A9 log.length c9) 23 1 log.length (rowC TextT (ds ++ (itemsOf TextT log lm).drop ds.length)), .blk b2 (ca [.one (.int .u64 0), .one (.slice none 0 0), .one (.slice none 0 0), .one (.int .i64 0)]) 30, .blk b1 (ca [.one (.int .u64 ep), .one (.slice A9 log.length c9), .one (.slice A12 wait.length c12), .one (.int .i64 nx)]) 30]) (fun ds => [NestF TextT ds, NestF LtrT (itemsOf LtrT wait wm), NestF TextT (itemsOf TextT log lm), LiF TextT LA lc log lm, LiF LtrT WA wc wait wm]) (fun ds => ds.length ≤ log.length ∧ ds.map Prod.fst = log.take ds.length) (fun ds => log.length - ds.length) ([]) E (H.know nest_nil) (by repeat (first | exact trivial | refine ⟨rfl, ?_⟩)) (⟨Nat.zero_le _, rfl⟩) ?_
  clear E H; intro ds a w E H hφ; replace E : Env a _ [(18, _), (1, _), (2, _), (16, _), (17, _)] := E; replace H : Sep _ _ _ _ [_, _, _, _] [_, _, _, _, _] := H; refine wp_seq_k fun K4 hK4 => ?_; refine S_region ?_; refine S_val E (pk_int rfl rfl rfl rfl) rfl rfl rfl ?_; clear E a; intro a E; refine hK4 _ _ ?_; refine wp_seq_k fun K5 hK5 => ?_; refine env_split (d := 19) E rfl ?_ ?_
  · skip
    clear E; intro c19 E
    have hk : ds.length < log.length := by simpa using c19
    have hx0 : log[ds.length]? = some log[ds.length] := List.getElem?_eq_getElem hk
    have hit : (itemsOf TextT log lm)[ds.length]? = some (log[ds.length], lm ds.length) := by rw [items_at, hx0]; rfl
    have hit2 : (ds ++ (itemsOf TextT log lm).drop ds.length)[ds.length]? = some (log[ds.length], lm ds.length) := by rw [at_done]; exact hit
    have hlen : log.length = (ds ++ (itemsOf TextT log lm).drop ds.length).length := by rw [len_done _ _ (by rw [itms_len]; omega), itms_len]
    obtain ⟨g9, hg9⟩ := row_addr (H.holds _ (List.mem_of_getElem? (i := 1) rfl)) (by omega)
    refine S_then E rfl ?_; refine wp_skip ?_; refine hK5 _ _ ?_; refine wp_seq_k fun K6 hK6 => ?_; refine wp_block ?_; refine wp_seq_k fun K7 hK7 => ?_; refine S_region ?_; refine S_val E (pk_move rfl rfl) rfl rfl rfl ?_; clear E a; intro a E; refine S_val E (pk_elA (sz := 1) hg9 rfl (by kernel_rfl) rfl rfl rfl (by omega)) rfl rfl rfl ?_; clear E a; intro a E; refine S_val E (pk_loadR1 (T := TextT) (off := 0) H 1 rfl hg9 hit2 trivial rfl rfl (by first | rfl | exact (addr_add_zero _).symm) rfl (by kernel_rfl)) rfl rfl rfl ?_; clear E a; intro a E; refine S_val E (pk_assign rfl rfl) rfl rfl rfl ?_; clear E a; intro a E; refine S_val E (pk_assign rfl rfl) rfl rfl rfl ?_; clear E a; intro a E; refine hK7 _ _ ?_; refine C_region E H [] 5 [(0, false), (1, false), (2, false), (3, false), (4, true)] (by kernel_rfl) (by kernel_rfl) (fun w HS => ?_)
    (simp only [canOps, List.getElem?_cons_zero, List.getElem?_cons_succ, List.drop_succ_cons, List.drop_zero])
    clear H
    have H := HS
    have hsz : w.heap.size ≤ w.heap.size := Nat.le_refl _
    have HK : CanB.Keep (fun k => k < w.heap.size ∧ k ∉ []) w w := CanB.Keep.refl _ _
    refine C_val E HK (pk_fieldAddr (off := 1) rfl rfl (by kernel_rfl)) rfl rfl rfl (fun _ _ _ _ h => h) ?_; clear E a; intro a E; refine C_val E HK (pk_load1 HS 3 rfl rfl rfl (HS.inS 3 rfl (by simp)) rfl (by kernel_rfl)) rfl rfl rfl (fun _ _ _ _ h => h) ?_; clear E a; intro a E; refine C_val E HK (pk_move rfl rfl) rfl rfl rfl (fun _ _ _ _ h => h) ?_; clear E a; intro a E; refine C_val E HK (pk_move rfl rfl) rfl rfl rfl (fun _ _ _ _ h => h) ?_; clear E a; intro a E; refine C_eff E rfl (fun K hK => ?_); refine eff_call E rfl rfl rfl (by kernel_rfl) ?_; refine (clone_sep H.xk (nest_get (H.fact 2 rfl) hit)).mono ?_; rintro e w ⟨A27, c27, rfl, H1⟩
    have F := H1.frm
    replace H := H.call H1
    clear H1; replace H : Sep _ _ _ _ [_, _, _, _] [_, _, _, _, _, _] := H
    have hk := keep_frm (D := []) F hsz (by simp)
    refine hK _ _ hk ?_; clear hK K
    replace HK := HK.trans hk
    replace hsz := Nat.le_trans hsz (F).size
    clear hk; refine C_put E rfl rfl ?_; clear E a; intro a E; clear F; refine CanB.wpCan_nil ?_
    try (simp only [List.take_succ_cons, List.take_zero, List.drop_succ_cons, List.drop_zero])
    clear HS HK hsz; refine S_val E (pk_elA (sz := 1) hg9 rfl (by kernel_rfl) rfl rfl rfl (by omega)) rfl rfl rfl ?_; clear E a; intro a E; refine S_eff E rfl (fun K hK => ?_); refine eff_storeR (T := TextT) (off := 0) (new := [.one _]) ((log[ds.length], (A27, c27)) : List Nat × TextT.μ) 1 E H rfl hg9 hlen hit2 rfl rfl (by first | rfl | exact (addr_add_zero _).symm) rfl rfl (by repeat (first | exact trivial | refine ⟨rfl, ?_⟩ | refine ⟨fun _ _ => rfl, ?_⟩)) rfl (by kernel_rfl) ?_; clear H; intro w H F; replace H : Sep _ _ _ _ [_, _, _, _] _ := H; refine hK _ _ ?_; clear hK K; refine S_put0 rfl ?_; clear F; refine hK6 _ _ ?_; refine S_region ?_; refine S_val E (pk_intw rfl rfl rfl rfl (wI64 (by omega) (by omega))) rfl rfl rfl ?_; clear E a; intro a E; refine S_val E (pk_move rfl rfl) rfl rfl rfl ?_; clear E a; intro a E
    replace H := H.know (nest_snoc (q := ((log[ds.length], (A27, c27)) : List Nat × TextT.μ)) (H.fact 1 rfl) (H.fact 0 rfl))
    replace H := H.drop2
    rw [set_done ds _ _ (by rw [itms_len]; exact hk)] at H
    refine loop_end ?_
    exact ⟨ds ++ [((log[ds.length], (A27, c27)) : List Nat × TextT.μ)], ⟨E.to (by rw [List.length_append]; repeat (first | exact trivial | refine ⟨rfl, ?_⟩)), H, ⟨by rw [List.length_append]; simp only [List.length_singleton]; omega, take_done hφ.2 hx0⟩⟩, by rw [List.length_append]; simp only [List.length_singleton]; omega⟩
  · skip
    clear E; intro c19 E
    have hk : ¬ ds.length < log.length := by simpa using c19
    have hφ1 := hφ
    refine S_else E rfl ?_; refine wp_exit ?_
    repeat (first | refine then_exit ?_ | refine block_hit ?_ | refine block_miss (by decide) ?_)
    refine hK2 _ _ ?_; refine wp_seq_k fun K8 hK8 => ?_; refine wp_seq_k fun K9 hK9 => ?_; refine S_region ?_; refine S_val E (pk_fieldAddr (off := 2) rfl rfl (by kernel_rfl)) rfl rfl rfl ?_; clear E a; intro a E; refine S_val E (pk_load1 H 3 rfl rfl rfl trivial rfl (by kernel_rfl)) rfl rfl rfl ?_; clear E a; intro a E; refine S_val E (pk_len rfl rfl (by kernel_rfl)) rfl rfl rfl ?_; clear E a; intro a E; refine S_val E (pk_move rfl rfl) rfl rfl rfl ?_; clear E a; intro a E; refine hK9 _ _ ?_; refine wp_block ?_
    have hds : ds.length = log.length := by omega
    have e0 : (itemsOf TextT log lm).drop ds.length = [] := List.drop_eq_nil_of_le (by rw [itms_len]; omega)
    rw [e0, List.append_nil] at H
    refine S_loopI (γ := List (Ltr × LtrT.μ)) [1, 2, 31, 32] (fun es => [(33, .int .i64 (es.length : Int))]) (fun es => [.row (.slice A12 wait.length c12) 49 3 wait.length (rowC LtrT (es ++ (itemsOf LtrT wait wm).drop es.length)), .row (.slice A9 log.length c9) 23 1 log.length (rowC TextT (ds)), .blk b2 (ca [.one (.int .u64 0), .one (.slice none 0 0), .one (.slice none 0 0), .one (.int .i64 0)]) 30, .blk b1 (ca [.one (.int .u64 ep), .one (.slice A9 log.length c9), .one (.slice A12 wait.length c12), .one (.int .i64 nx)]) 30]) (fun es => [NestF LtrT es, NestF TextT ds, NestF LtrT (itemsOf LtrT wait wm), NestF TextT (itemsOf TextT log lm), LiF TextT LA lc log lm, LiF LtrT WA wc wait wm]) (fun es => es.length ≤ wait.length ∧ es.map Prod.fst = wait.take es.length) (fun es => wait.length - es.length) ([]) E (H.know nest_nil) (by repeat (first | exact trivial | refine ⟨rfl, ?_⟩)) (⟨Nat.zero_le _, rfl⟩) ?_
    clear E H; intro es a w E H hφ; replace E : Env a _ [(33, _), (1, _), (2, _), (31, _), (32, _)] := E; replace H : Sep _ _ _ _ [_, _, _, _] [_, _, _, _, _, _] := H
    have hφ2 := hφ
    refine wp_seq_k fun K10 hK10 => ?_; refine S_region ?_; refine S_val E (pk_int rfl rfl rfl rfl) rfl rfl rfl ?_; clear E a; intro a E; refine hK10 _ _ ?_; refine wp_seq_k fun K11 hK11 => ?_; refine env_split (d := 34) E rfl ?_ ?_
    · skip
      clear E; intro c34 E
      have hk : es.length < wait.length := by simpa using c34
      have hx0 : wait[es.length]? = some wait[es.length] := List.getElem?_eq_getElem hk
      have hit : (itemsOf LtrT wait wm)[es.length]? = some (wait[es.length], wm es.length) := by rw [items_at, hx0]; rfl
      have hit2 : (es ++ (itemsOf LtrT wait wm).drop es.length)[es.length]? = some (wait[es.length], wm es.length) := by rw [at_done]; exact hit
      have hlen : wait.length = (es ++ (itemsOf LtrT wait wm).drop es.length).length := by rw [len_done _ _ (by rw [itms_len]; omega), itms_len]
      obtain ⟨g12, hg12⟩ := row_addr (H.holds _ (List.mem_of_getElem? (i := 0) rfl)) (by omega)
      refine S_then E rfl ?_; refine wp_skip ?_; refine hK11 _ _ ?_; refine wp_seq_k fun K12 hK12 => ?_; refine wp_block ?_; refine wp_seq_k fun K13 hK13 => ?_; refine S_region ?_; refine S_val E (pk_move rfl rfl) rfl rfl rfl ?_; clear E a; intro a E; refine S_val E (pk_elA (sz := 3) hg12 rfl (by kernel_rfl) rfl rfl rfl (by omega)) rfl rfl rfl ?_; clear E a; intro a E; refine S_val E (pk_loadR (T := LtrT) (off := 0) (sz := 3) H 0 rfl hg12 hit2 trivial rfl rfl (by first | rfl | exact (addr_add_zero _).symm) rfl (by kernel_rfl)) rfl rfl rfl ?_; clear E a; intro a E; refine S_eff E rfl (fun K hK => ?_); refine eff_alloc (z := [.one (.int .i64 0), .one (.int .i64 0), .one (.slice none 0 0)]) H rfl (by kernel_rfl) ?_; clear H; intro b6 w H _; refine hK _ _ ?_; clear hK K; refine S_put E rfl rfl ?_; clear E a; intro a E; refine S_val E (pk_assign rfl rfl) rfl rfl rfl ?_; clear E a; intro a E
      refine S_eff E rfl (fun K hK => ?_); refine eff_store 0 E H rfl rfl rfl rfl rfl (by repeat (first | exact trivial | refine ⟨rfl, ?_⟩ | refine ⟨fun _ _ => rfl, ?_⟩)) rfl (by kernel_rfl) rfl ?_; clear H; intro w H _; replace H : Sep _ _ _ _ [_, _, _, _, _] _ := H; refine hK _ _ ?_; clear hK K; refine S_put0 rfl ?_; refine hK13 _ _ ?_; refine C_region E H [] 6 [(0, false), (1, false), (2, false), (3, false), (4, false), (5, true)] (by kernel_rfl) (by kernel_rfl) (fun w HS => ?_)
      (simp only [canOps, List.getElem?_cons_zero, List.getElem?_cons_succ, List.drop_succ_cons, List.drop_zero])
      clear H
      have H := HS
      have hsz : w.heap.size ≤ w.heap.size := Nat.le_refl _
      have HK : CanB.Keep (fun k => k < w.heap.size ∧ k ∉ []) w w := CanB.Keep.refl _ _
      refine C_val E HK (pk_fieldAddr (off := 2) rfl rfl (by kernel_rfl)) rfl rfl rfl (fun _ _ _ _ h => h) ?_; clear E a; intro a E; refine C_val E HK (pk_load1 HS 4 rfl rfl rfl (HS.inS 4 rfl (by simp)) rfl (by kernel_rfl)) rfl rfl rfl (fun _ _ _ _ h => h) ?_; clear E a; intro a E; refine C_val E HK (pk_move rfl rfl) rfl rfl rfl (fun _ _ _ _ h => h) ?_; clear E a; intro a E; refine C_val E HK (pk_fieldAddr (off := 2) rfl rfl (by kernel_rfl)) rfl rfl rfl (fun _ _ _ _ h => h) ?_; clear E a; intro a E; refine C_val E HK (pk_load1 HS 0 rfl rfl rfl (HS.inS 0 rfl (by simp)) rfl (by kernel_rfl)) rfl rfl rfl (fun _ _ _ _ h => h) ?_; clear E a; intro a E; refine C_eff E rfl (fun K hK => ?_); refine eff_call E rfl rfl rfl (by kernel_rfl) ?_; refine (clone_sep H.xk (nest_get (H.fact 2 rfl) hit)).mono ?_; rintro e w ⟨A43, c43, rfl, H1⟩
      have F := H1.frm
      replace H := H.call H1
      clear H1; replace H : Sep _ _ _ _ [_, _, _, _, _] [_, _, _, _, _, _, _] := H
      have hk := keep_frm (D := []) F hsz (by simp)
      refine hK _ _ hk ?_; clear hK K
      replace HK := HK.trans hk
      replace hsz := Nat.le_trans hsz (F).size
      clear hk; refine C_put E rfl rfl ?_; clear E a; intro a E; clear F; refine CanB.wpCan_nil ?_
      try (simp only [List.take_succ_cons, List.take_zero, List.drop_succ_cons, List.drop_zero])
      clear HS HK hsz; refine S_val E (pk_elA (sz := 3) hg12 rfl (by kernel_rfl) rfl rfl rfl (by omega)) rfl rfl rfl ?_; clear E a; intro a E; refine S_val E (pk_fieldAddr (off := 2) rfl rfl (by kernel_rfl)) rfl rfl rfl ?_; clear E a; intro a E; refine S_eff E rfl (fun K hK => ?_); refine eff_storeR (T := LtrT) (off := 2) (new := [.one _]) (((⟨wait[es.length].no, wait[es.length].rc, wait[es.length].text⟩ : Ltr), (A43, c43)) : Ltr × LtrT.μ) 1 E H rfl hg12 hlen hit2 rfl rfl (by first | rfl | exact (addr_add_zero _).symm) rfl rfl (by repeat (first | exact trivial | refine ⟨rfl, ?_⟩ | refine ⟨fun _ _ => rfl, ?_⟩)) rfl (by kernel_rfl) ?_; clear H; intro w H F; replace H : Sep _ _ _ _ [_, _, _, _, _] _ := H; refine hK _ _ ?_; clear hK K; refine S_put0 rfl ?_; clear F; refine hK12 _ _ ?_; refine S_region ?_; refine S_val E (pk_intw rfl rfl rfl rfl (wI64 (by omega) (by omega))) rfl rfl rfl ?_
      clear E a; intro a E; refine S_val E (pk_move rfl rfl) rfl rfl rfl ?_; clear E a; intro a E
      replace H := H.know (nest_snoc (q := (((⟨wait[es.length].no, wait[es.length].rc, wait[es.length].text⟩ : Ltr), (A43, c43)) : Ltr × LtrT.μ)) (H.fact 1 rfl) (H.fact 0 rfl))
      replace H := H.drop2.popL
      rw [set_done es _ _ (by rw [itms_len]; exact hk)] at H
      refine loop_end ?_
      exact ⟨es ++ [(((⟨wait[es.length].no, wait[es.length].rc, wait[es.length].text⟩ : Ltr), (A43, c43)) : Ltr × LtrT.μ)], ⟨E.to (by rw [List.length_append]; repeat (first | exact trivial | refine ⟨rfl, ?_⟩)), H, ⟨by rw [List.length_append]; simp only [List.length_singleton]; omega, take_done hφ.2 hx0⟩⟩, by rw [List.length_append]; simp only [List.length_singleton]; omega⟩
    · skip
      clear E; intro c34 E
      have hk : ¬ es.length < wait.length := by simpa using c34
      refine S_else E rfl ?_; refine wp_exit ?_
      repeat (first | refine then_exit ?_ | refine block_hit ?_ | refine block_miss (by decide) ?_)
      refine hK8 _ _ ?_; refine wp_seq_k fun K14 hK14 => ?_; refine S_region ?_; refine S_val E (pk_load (n := 4) H 3 rfl rfl rfl trivial rfl (by kernel_rfl)) rfl rfl rfl ?_; clear E a; intro a E; refine S_eff E rfl (fun K hK => ?_); refine eff_store 2 E H rfl rfl rfl rfl rfl (by repeat (first | exact trivial | refine ⟨rfl, ?_⟩ | refine ⟨fun _ _ => rfl, ?_⟩)) rfl (by kernel_rfl) rfl ?_; clear H; intro w H _; replace H : Sep _ _ _ _ [_, _, _, _] _ := H; refine hK _ _ ?_; clear hK K; refine S_put0 rfl ?_; refine hK14 _ _ ?_; refine wp_ret ?_
      repeat (first | refine then_ret ?_ | refine block_ret ?_)
      refine ret1 rfl E (by exact resC (n := 4) H 2 rfl rfl rfl (by kernel_rfl)) ?_
      have hes : es.length = wait.length := by omega
      have e0 : (itemsOf LtrT wait wm).drop es.length = [] := List.drop_eq_nil_of_le (by rw [itms_len]; omega)
      rw [e0, List.append_nil] at H
      refine ⟨A9, c9, A12, c12, ds, es, ?_, ?_, (by rw [hds, hes]), ?_⟩
      · rw [hφ1.2, hds, List.take_length]
      · rw [hφ.2, hes, List.take_length]
      rw [hds, hes]
      · exact H.keepLR (L := [_, _]) (R := [_, _])
end Go.Proofs.Yteefhbpmeajbfaa
namespace Go.Proofs.Yteefhbpmeajbfaa
set_option linter.unusedSimpArgs false
set_option linter.unusedVariables false
open Go.RowKit
attribute [local irreducible] farB oddB cmV wlV frV
/-- A text's kind, and its epoch. -/
def kindV (t : List Nat) : Int := if (cmV t).2 = 0 then 1 else if (wlV t).2 = 0 then 2 else if (frV t).2 = 0 then 3 else 0
def epV (t : List Nat) : Int := if (cmV t).2 = 0 then (((cmV t).1.ep : Nat) : Int) else 0
def noSrv : Srv := ⟨0, [], [], 0⟩
/-- Letters of a text, numbered. -/
def lettersV (nx : Int) (tos : List Int) (text : List Nat) : List Ltr := tos.mapIdx fun i id => ⟨nx + (i : Int), id, text⟩
/-- What a text that is posted comes to. -/
def postV (s : Srv) (text : List Nat) (tos : List Int) : Srv × Int :=
  if okS s = false ∨ tos.any farB = true then (noSrv, 1)
  else if kindV text = 0 then (noSrv, 3)
  else if kindV text = 1 ∧ epV text ≠ s.ep then (noSrv, 9)
  else if (kindV text = 1 ∧ s.log.length = 2000) ∨ 20000 < s.wait.length + tos.length ∨ 1099511627776 < s.nx + (tos.length : Int) then (noSrv, 8)
  else (⟨if kindV text = 1 then s.ep + 1 else s.ep, if kindV text = 1 then s.log ++ [text] else s.log, s.wait ++ lettersV s.nx tos text, s.nx + (tos.length : Int)⟩, 0)
theorem kindV_ran (t : List Nat) : 0 ≤ kindV t ∧ kindV t ≤ 3 := by
  unfold kindV
  repeat' split
  all_goals omega
theorem okS_of {s : Srv} (h : okS s = true) : s.ep = (s.log.length : Int) ∧ s.log.length ≤ 2000 ∧ s.wait.length ≤ 20000 ∧ 0 ≤ s.nx ∧ s.nx ≤ 1099511627776 ∧ (s.wait.any fun x => oddB s.nx x.no x.rc) = false := by
  simp only [okS, Bool.and_eq_true, decide_eq_true_eq, Bool.not_eq_true'] at h
  obtain ⟨⟨⟨⟨⟨h1, h2⟩, h3⟩, h4⟩, h5⟩, h6⟩ := h
  exact ⟨h1, h2, h3, h4, h5, h6⟩
theorem ok_ne {s : Srv} {b : Bool} (h : ((if okS s then (0 : Int) else 1) != 0) = b) : okS s = !b := by
  cases hq : okS s <;> rw [hq] at h <;> revert h <;> cases b <;> simp
theorem far_sep {x : Int} {X : List Nat} {w0 : World} (hX : ∀ k ∈ X, k < w0.heap.size) : Calls Try.prog 34 #[.int .i64 x] w0 fun e w' => e = .returned (.bool (farB x)) ∧ Sep X [] w0 w' [] [] :=
  (far_any hX).mono fun e w' ⟨h1, h2⟩ => ⟨h1, h2 ▸ Sep.start hX (fun _ h => by cases h)⟩
set_option maxRecDepth 100000 in
set_option maxHeartbeats 4000000 in
theorem read_any {TA : Option Addr} {tc : Nat} {text : List Nat} {X : List Nat} {w0 : World} (hX : ∀ k ∈ X, k < w0.heap.size) (hT : St (TxF TA tc text) w0 X) :
    Calls Try.prog 35 #[.slice TA text.length tc] w0 fun e w' => e = .returned (.tuple #[.int .i64 (kindV text), .int .u64 (epV text)]) ∧ Sep X [] w0 w' [] [] := by
  refine calls_env Try.ntmps35 Try.func35 rfl rfl fun a E => ?_; replace E : Env a _ [(0, _)] := E
  have H : Sep X [] w0 w0 [] [(TxF TA tc text)] := Sep.start hX (List.forall_mem_cons.2 ⟨hT, fun _ h => by cases h⟩)
  refine wp_seq_k fun K0 hK0 => ?_; refine S_region ?_; refine S_val E (pk_assign rfl rfl) rfl rfl rfl ?_; clear E a; intro a E; refine S_val E (pk_assign rfl rfl) rfl rfl rfl ?_; clear E a; intro a E; refine hK0 _ _ ?_; refine wp_seq_k fun K1 hK1 => ?_; refine wp_seq_k fun K2 hK2 => ?_; refine S_region ?_; refine S_val E (pk_move rfl rfl) rfl rfl rfl ?_; clear E a; intro a E; refine S_eff E rfl (fun K hK => ?_); refine eff_call E rfl rfl rfl (by kernel_rfl) ?_; refine (readCommit_sep H.xk (H.fact 0 rfl)).mono ?_; rintro e w ⟨at4, rfl, hok, H1⟩
  replace H := H.call H1
  clear H1; replace H : Sep _ _ _ _ [] [_] := H; refine hK _ _ ?_; clear hK K; refine S_put E rfl rfl ?_; clear E a; intro a E; refine S_val E (pk_move rfl rfl) rfl rfl rfl ?_; clear E a; intro a E; refine S_val E (pk_extract rfl rfl rfl) rfl rfl rfl ?_; clear E a; intro a E; refine S_val E (pk_extract rfl rfl rfl) rfl rfl rfl ?_; clear E a; intro a E; refine S_eff E rfl (fun K hK => ?_); refine eff_alloc (z := [.one (.int .u64 0), .one (.int .i64 0), .one (.slice none 0 0), .key [], .one (.slice none 0 0), .one (.slice none 0 0), .one (.slice none 0 0), .key []]) H rfl (by kernel_rfl) ?_; clear H; intro b4 w H _; refine hK _ _ ?_; clear hK K; refine S_put E rfl rfl ?_; clear E a; intro a E; refine S_eff E rfl (fun K hK => ?_); refine eff_store 0 E H rfl rfl rfl rfl rfl (by repeat (first | exact trivial | refine ⟨rfl, ?_⟩ | refine ⟨fun _ _ => rfl, ?_⟩)) rfl (by kernel_rfl) rfl ?_; clear H
  intro w H _; replace H : Sep _ _ _ _ [_] _ := H; refine hK _ _ ?_; clear hK K; refine S_put0 rfl ?_; refine S_val E (pk_assign rfl rfl) rfl rfl rfl ?_; clear E a; intro a E; refine hK2 _ _ ?_; refine wp_seq_k fun K3 hK3 => ?_; refine S_region ?_; refine S_val E (pk_move rfl rfl) rfl rfl rfl ?_; clear E a; intro a E; refine S_val E (pk_int rfl rfl rfl rfl) rfl rfl rfl ?_; clear E a; intro a E; refine hK3 _ _ ?_; refine env_split (d := 16) E rfl ?_ ?_
  · skip
    clear E; intro c16 E; refine S_then E rfl ?_; refine wp_seq_k fun K4 hK4 => ?_; refine C_region E H [] 3 [(0, false), (1, false), (2, false)] (by kernel_rfl) (by kernel_rfl) (fun w HS => ?_)
    (simp only [canOps, List.getElem?_cons_zero, List.getElem?_cons_succ, List.drop_succ_cons, List.drop_zero])
    clear H
    have H := HS
    have hsz : w.heap.size ≤ w.heap.size := Nat.le_refl _
    have HK : CanB.Keep (fun k => k < w.heap.size ∧ k ∉ []) w w := CanB.Keep.refl _ _
    refine C_val E HK (pk_fieldAddr (off := 0) rfl rfl (by kernel_rfl)) rfl rfl rfl (fun _ _ _ _ h => h) ?_; clear E a; intro a E; refine C_val E HK (pk_load1 HS 0 rfl rfl rfl (HS.inS 0 rfl (by simp)) rfl (by kernel_rfl)) rfl rfl rfl (fun _ _ _ _ h => h) ?_; clear E a; intro a E; refine C_val E HK (pk_assign rfl rfl) rfl rfl rfl (fun _ _ _ _ h => h) ?_; clear E a; intro a E; refine CanB.wpCan_nil ?_
    try (simp only [List.take_succ_cons, List.take_zero, List.drop_succ_cons, List.drop_zero])
    clear HS HK hsz; refine S_val E (pk_assign rfl rfl) rfl rfl rfl ?_; clear E a; intro a E; refine hK4 _ _ ?_; refine wp_ret ?_
    repeat (first | refine then_ret ?_ | refine block_ret ?_)
    refine ret2 rfl E (resT rfl) (resT rfl) ?_
    have c := eq_of_beq c16
    exact ⟨by unfold kindV epV; rw [if_pos c, if_pos c]; rfl, H.keepLR (L := []) (R := [])⟩
  · skip
    clear E; intro c16 E; refine S_else E rfl ?_; refine wp_skip ?_; refine hK1 _ _ ?_; refine wp_seq_k fun K5 hK5 => ?_; refine wp_seq_k fun K6 hK6 => ?_; refine S_region ?_; refine S_val E (pk_move rfl rfl) rfl rfl rfl ?_; clear E a; intro a E; refine S_eff E rfl (fun K hK => ?_); refine eff_call E rfl rfl rfl (by kernel_rfl) ?_; refine (readWelcome_sep H.xk (H.fact 0 rfl)).mono ?_; rintro e w ⟨wA, wc, rfl, H1⟩
    replace H := H.call H1
    clear H1; replace H : Sep _ _ _ _ [_] [_] := H; refine hK _ _ ?_; clear hK K; refine S_put E rfl rfl ?_; clear E a; intro a E; refine S_val E (pk_move rfl rfl) rfl rfl rfl ?_; clear E a; intro a E; refine S_val E (pk_extract rfl rfl rfl) rfl rfl rfl ?_; clear E a; intro a E; refine S_val E (pk_extract rfl rfl rfl) rfl rfl rfl ?_; clear E a; intro a E; refine S_eff E rfl (fun K hK => ?_); refine eff_alloc (z := [.one (.int .i64 0), .one (.slice none 0 0), .one (.slice none 0 0), .one (.slice none 0 0)]) H rfl (by kernel_rfl) ?_; clear H; intro b6 w H _; refine hK _ _ ?_; clear hK K; refine S_put E rfl rfl ?_; clear E a; intro a E; refine S_eff E rfl (fun K hK => ?_); refine eff_store 0 E H rfl rfl rfl rfl rfl (by repeat (first | exact trivial | refine ⟨rfl, ?_⟩ | refine ⟨fun _ _ => rfl, ?_⟩)) rfl (by kernel_rfl) rfl ?_; clear H; intro w H _; replace H : Sep _ _ _ _ [_, _] _ := H
    refine hK _ _ ?_; clear hK K; refine S_put0 rfl ?_; refine S_val E (pk_assign rfl rfl) rfl rfl rfl ?_; clear E a; intro a E; refine hK6 _ _ ?_; refine wp_seq_k fun K7 hK7 => ?_; refine S_region ?_; refine S_val E (pk_move rfl rfl) rfl rfl rfl ?_; clear E a; intro a E; refine S_val E (pk_int rfl rfl rfl rfl) rfl rfl rfl ?_; clear E a; intro a E; refine hK7 _ _ ?_; refine env_split (d := 25) E rfl ?_ ?_
    · skip
      clear E; intro c25 E; refine S_then E rfl ?_; refine wp_seq_k fun K8 hK8 => ?_; refine S_region ?_; refine S_val E (pk_assign rfl rfl) rfl rfl rfl ?_; clear E a; intro a E; refine S_val E (pk_assign rfl rfl) rfl rfl rfl ?_; clear E a; intro a E; refine hK8 _ _ ?_; refine wp_ret ?_
      repeat (first | refine then_ret ?_ | refine block_ret ?_)
      refine ret2 rfl E (resT rfl) (resT rfl) ?_
      have c := ne_of_beq_false c16
      have d := eq_of_beq c25
      exact ⟨by unfold kindV epV; rw [if_neg c, if_pos d, if_neg c], H.keepLR (L := []) (R := [])⟩
    · skip
      clear E; intro c25 E; refine S_else E rfl ?_; refine wp_skip ?_; refine hK5 _ _ ?_; refine wp_seq_k fun K9 hK9 => ?_; refine wp_seq_k fun K10 hK10 => ?_; refine S_region ?_; refine S_val E (pk_move rfl rfl) rfl rfl rfl ?_; clear E a; intro a E; refine S_eff E rfl (fun K hK => ?_); refine eff_call E rfl rfl rfl (by kernel_rfl) ?_; refine (readFrame_sep H.xk (H.fact 0 rfl)).mono ?_; rintro e w ⟨fA, fc, rfl, H1⟩
      replace H := H.call H1
      clear H1; replace H : Sep _ _ _ _ [_, _] [_] := H; refine hK _ _ ?_; clear hK K; refine S_put E rfl rfl ?_; clear E a; intro a E; refine S_val E (pk_move rfl rfl) rfl rfl rfl ?_; clear E a; intro a E; refine S_val E (pk_extract rfl rfl rfl) rfl rfl rfl ?_; clear E a; intro a E; refine S_val E (pk_extract rfl rfl rfl) rfl rfl rfl ?_; clear E a; intro a E; refine S_eff E rfl (fun K hK => ?_); refine eff_alloc (z := [.one (.int .u64 0), .one (.int .i64 0), .one (.int .u64 0), .one (.slice none 0 0)]) H rfl (by kernel_rfl) ?_; clear H; intro b8 w H _; refine hK _ _ ?_; clear hK K; refine S_put E rfl rfl ?_; clear E a; intro a E; refine S_eff E rfl (fun K hK => ?_); refine eff_store 0 E H rfl rfl rfl rfl rfl (by repeat (first | exact trivial | refine ⟨rfl, ?_⟩ | refine ⟨fun _ _ => rfl, ?_⟩)) rfl (by kernel_rfl) rfl ?_; clear H; intro w H _; replace H : Sep _ _ _ _ [_, _, _] _ := H
      refine hK _ _ ?_; clear hK K; refine S_put0 rfl ?_; refine S_val E (pk_assign rfl rfl) rfl rfl rfl ?_; clear E a; intro a E; refine hK10 _ _ ?_; refine wp_seq_k fun K11 hK11 => ?_; refine S_region ?_; refine S_val E (pk_move rfl rfl) rfl rfl rfl ?_; clear E a; intro a E; refine S_val E (pk_int rfl rfl rfl rfl) rfl rfl rfl ?_; clear E a; intro a E; refine hK11 _ _ ?_; refine env_split (d := 32) E rfl ?_ ?_
      · skip
        clear E; intro c32 E; refine S_then E rfl ?_; refine wp_seq_k fun K12 hK12 => ?_; refine S_region ?_; refine S_val E (pk_assign rfl rfl) rfl rfl rfl ?_; clear E a; intro a E; refine S_val E (pk_assign rfl rfl) rfl rfl rfl ?_; clear E a; intro a E; refine hK12 _ _ ?_; refine wp_ret ?_
        repeat (first | refine then_ret ?_ | refine block_ret ?_)
        refine ret2 rfl E (resT rfl) (resT rfl) ?_
        have c := ne_of_beq_false c16
        have d := ne_of_beq_false c25
        have f := eq_of_beq c32
        exact ⟨by unfold kindV epV; rw [if_neg c, if_neg d, if_pos f, if_neg c], H.keepLR (L := []) (R := [])⟩
      · skip
        clear E; intro c32 E; refine S_else E rfl ?_; refine wp_skip ?_; refine hK9 _ _ ?_; refine wp_seq_k fun K13 hK13 => ?_; refine S_region ?_; refine S_val E (pk_assign rfl rfl) rfl rfl rfl ?_; clear E a; intro a E; refine S_val E (pk_assign rfl rfl) rfl rfl rfl ?_; clear E a; intro a E; refine hK13 _ _ ?_; refine wp_ret ?_
        repeat (first | refine then_ret ?_ | refine block_ret ?_)
        refine ret2 rfl E (resT rfl) (resT rfl) ?_
        have c := ne_of_beq_false c16
        have d := ne_of_beq_false c25
        have f := ne_of_beq_false c32
        exact ⟨by unfold kindV epV; rw [if_neg c, if_neg d, if_neg f, if_neg c], H.keepLR (L := []) (R := [])⟩
set_option maxRecDepth 100000 in
set_option maxHeartbeats 4000000 in
theorem Kind_any {TA : Option Addr} {tc : Nat} {text : List Nat} {X : List Nat} {w0 : World} (hX : ∀ k ∈ X, k < w0.heap.size) (hT : St (TxF TA tc text) w0 X) :
    Calls Try.prog 12 #[.slice TA text.length tc] w0 fun e w' => e = .returned (.int .i64 (kindV text)) ∧ Sep X [] w0 w' [] [] := by
  refine calls_env Try.ntmps12 Try.func12 rfl rfl fun a E => ?_; replace E : Env a _ [(0, _)] := E
  have H : Sep X [] w0 w0 [] [(TxF TA tc text)] := Sep.start hX (List.forall_mem_cons.2 ⟨hT, fun _ h => by cases h⟩)
  refine wp_seq_k fun K0 hK0 => ?_; refine S_region ?_; refine S_val E (pk_assign rfl rfl) rfl rfl rfl ?_; clear E a; intro a E; refine hK0 _ _ ?_; refine wp_seq_k fun K1 hK1 => ?_; refine S_region ?_; refine S_val E (pk_move rfl rfl) rfl rfl rfl ?_; clear E a; intro a E; refine S_eff E rfl (fun K hK => ?_); refine eff_call E rfl rfl rfl (by kernel_rfl) ?_; refine (read_any H.xk (H.fact 0 rfl)).mono ?_; rintro e w ⟨rfl, H1⟩
  replace H := H.call H1
  clear H1; replace H : Sep _ _ _ _ [] [_] := H; refine hK _ _ ?_; clear hK K; refine S_put E rfl rfl ?_; clear E a; intro a E; refine S_val E (pk_move rfl rfl) rfl rfl rfl ?_; clear E a; intro a E; refine S_val E (pk_extract rfl rfl rfl) rfl rfl rfl ?_; clear E a; intro a E; refine S_val E (pk_extract rfl rfl rfl) rfl rfl rfl ?_; clear E a; intro a E; refine S_val E (pk_assign rfl rfl) rfl rfl rfl ?_; clear E a; intro a E; refine S_val E (pk_assign rfl rfl) rfl rfl rfl ?_; clear E a; intro a E; refine hK1 _ _ ?_; refine wp_seq_k fun K2 hK2 => ?_; refine S_region ?_; refine S_val E (pk_move rfl rfl) rfl rfl rfl ?_; clear E a; intro a E; refine S_val E (pk_assign rfl rfl) rfl rfl rfl ?_; clear E a; intro a E; refine hK2 _ _ ?_; refine wp_ret ?_
  repeat (first | refine then_ret ?_ | refine block_ret ?_)
  refine ret1 rfl E (resT rfl) ?_
  exact ⟨rfl, H.keepLR (L := []) (R := [])⟩
set_option maxRecDepth 100000 in
set_option maxHeartbeats 4000000 in
theorem Post_any {ep nx : Int} {LA WA : Option Addr} {lc wc : Nat} {log : List (List Nat)} {wait : List Ltr} {lm : Nat → TextT.μ} {wm : Nat → LtrT.μ} {TA OA : Option Addr} {tc oc : Nat} {text : List Nat} {tos : List Int} {om : Nat → IntT.μ} {X : List Nat} {w0 : World} (hX : ∀ k ∈ X, k < w0.heap.size) (hL : St (LiF TextT LA lc log lm) w0 X) (hW : St (LiF LtrT WA wc wait wm) w0 X) (hT : St (TxF TA tc text) w0 X) (hO : St (LiF IntT OA oc tos om) w0 X) :
    Calls Try.prog 11 #[.agg (ca [.one (.int .u64 ep), .one (.slice LA log.length lc), .one (.slice WA wait.length wc), .one (.int .i64 nx)]), .slice TA text.length tc, .slice OA tos.length oc] w0 fun e w' => ∃ LA' lc' lm' WA' wc' wm', e = .returned (.tuple #[.agg (ca [.one (.int .u64 (postV ⟨ep, log, wait, nx⟩ text tos).1.ep), .one (.slice LA' (postV ⟨ep, log, wait, nx⟩ text tos).1.log.length lc'), .one (.slice WA' (postV ⟨ep, log, wait, nx⟩ text tos).1.wait.length wc'), .one (.int .i64 (postV ⟨ep, log, wait, nx⟩ text tos).1.nx)]), .int .i64 (postV ⟨ep, log, wait, nx⟩ text tos).2]) ∧ Sep X [] w0 w' [] [LiF TextT LA' lc' (postV ⟨ep, log, wait, nx⟩ text tos).1.log lm', LiF LtrT WA' wc' (postV ⟨ep, log, wait, nx⟩ text tos).1.wait wm'] := by
  have hLb := hL.now.big
  have hWb := hW.now.big
  have hOb := hO.now.big
  have hkr := kindV_ran text
  refine calls_env Try.ntmps11 Try.func11 rfl rfl fun a E => ?_; replace E : Env a _ [(0, _), (1, _), (2, _)] := E
  have H : Sep X [] w0 w0 [] [(LiF TextT LA lc log lm), (LiF LtrT WA wc wait wm), (TxF TA tc text), (LiF IntT OA oc tos om)] := Sep.start hX (List.forall_mem_cons.2 ⟨hL, List.forall_mem_cons.2 ⟨hW, List.forall_mem_cons.2 ⟨hT, List.forall_mem_cons.2 ⟨hO, fun _ h => by cases h⟩⟩⟩⟩)
  refine wp_seq_k fun K0 hK0 => ?_; refine S_region ?_; refine S_eff E rfl (fun K hK => ?_); refine eff_box E H rfl rfl rfl ?_; clear H; intro b3 w H _; refine hK _ _ ?_; clear hK K; refine S_put E rfl rfl ?_; clear E a; intro a E; refine S_eff E rfl (fun K hK => ?_); refine eff_alloc (z := [.one (.int .u64 0), .one (.slice none 0 0), .one (.slice none 0 0), .one (.int .i64 0)]) H rfl (by kernel_rfl) ?_; clear H; intro b6 w H _; refine hK _ _ ?_; clear hK K; refine S_put E rfl rfl ?_; clear E a; intro a E; refine S_val E (pk_assign rfl rfl) rfl rfl rfl ?_; clear E a; intro a E; refine hK0 _ _ ?_; refine wp_seq_k fun K1 hK1 => ?_; refine wp_seq_k fun K2 hK2 => ?_; refine S_region ?_; refine S_val E (pk_load (n := 4) H 1 rfl rfl rfl trivial rfl (by kernel_rfl)) rfl rfl rfl ?_; clear E a; intro a E; refine S_eff E rfl (fun K hK => ?_); refine eff_call E rfl rfl rfl (by kernel_rfl) ?_
  refine (Check_any H.xk (H.fact 0 rfl) (H.fact 1 rfl)).mono ?_; rintro e w ⟨rfl, H1⟩
  replace H := H.call H1
  clear H1; replace H : Sep _ _ _ _ [_, _] [_, _, _, _] := H; refine hK _ _ ?_; clear hK K; refine S_put E rfl rfl ?_; clear E a; intro a E; refine S_val E (pk_int rfl rfl rfl rfl) rfl rfl rfl ?_; clear E a; intro a E; refine S_val E (pk_move rfl rfl) rfl rfl rfl ?_; clear E a; intro a E; refine env_split (d := 16) E rfl ?_ ?_
  · skip
    clear E; intro c16 E
    have hok : okS ⟨ep, log, wait, nx⟩ = false := by simpa using ok_ne c16
    refine S_skip E rfl rfl rfl ?_; clear E a; intro a E; refine S_skip E rfl rfl rfl ?_; clear E a; intro a E; refine S_val E (pk_pick rfl rfl rfl) rfl rfl rfl ?_; clear E a; intro a E; refine hK2 _ _ ?_; refine S_then E rfl ?_; refine wp_seq_k fun K3 hK3 => ?_; refine S_region ?_; refine S_val E (pk_build (z := [.one (.int .u64 0), .one (.slice none 0 0), .one (.slice none 0 0), .one (.int .i64 0)]) rfl (by kernel_rfl) (by kernel_rfl) rfl) rfl rfl rfl ?_; clear E a; intro a E; refine S_eff E rfl (fun K hK => ?_); refine eff_store 0 E H rfl rfl rfl rfl rfl (by repeat (first | exact trivial | refine ⟨rfl, ?_⟩ | refine ⟨fun _ _ => rfl, ?_⟩)) rfl (by kernel_rfl) rfl ?_; clear H; intro w H _; replace H : Sep _ _ _ _ [_, _] _ := H; refine hK _ _ ?_; clear hK K; refine S_put0 rfl ?_; refine S_val E (pk_assign rfl rfl) rfl rfl rfl ?_; clear E a; intro a E; refine hK3 _ _ ?_; refine wp_ret ?_
    repeat (first | refine then_ret ?_ | refine block_ret ?_)
    refine ret2 rfl E (by exact resC (n := 4) H 0 rfl rfl rfl (by kernel_rfl)) (resT rfl) ?_
    have hP : postV ⟨ep, log, wait, nx⟩ text tos = (noSrv, 1) := by
      unfold postV; exact if_pos (Or.inl hok)
    rw [hP]
    exact ⟨none, 0, fun _ => TextT.dft, none, 0, fun _ => LtrT.dft, rfl, ((H.keepLR (L := []) (R := [])).know liF_nil).know liF_nil⟩
  · skip
    clear E; intro c16 E
    have hok : okS ⟨ep, log, wait, nx⟩ = true := by simpa using ok_ne c16
    obtain ⟨k1, k2, k3, k4, k5, k6⟩ := okS_of hok
    simp only at k1 k2 k3 k4 k5 k6
    refine S_val E (pk_move rfl rfl) rfl rfl rfl ?_; clear E a; intro a E; refine S_eff E rfl (fun K hK => ?_); refine eff_call E rfl rfl rfl (by kernel_rfl) ?_; refine (ContainsInt_any (f := 34) (cs := #[]) (pb := farB) (r := fun _ => True) (by kernel_rfl) hOb (fun x mm X w0 hX _ _ => far_sep hX) H.xk (H.fact 3 rfl) (fun _ _ => trivial)).mono ?_; rintro e w ⟨rfl, H1⟩
    replace H := H.call H1
    clear H1; replace H : Sep _ _ _ _ [_, _] [_, _, _, _] := H; refine hK _ _ ?_; clear hK K; refine S_put E rfl rfl ?_; clear E a; intro a E; refine S_val E (pk_pick rfl rfl rfl) rfl rfl rfl ?_; clear E a; intro a E; refine hK2 _ _ ?_; refine env_split (d := 19) E rfl ?_ ?_
    · skip
      clear E; intro c19 E; refine S_then E rfl ?_; refine wp_seq_k fun K4 hK4 => ?_; refine S_region ?_; refine S_val E (pk_build (z := [.one (.int .u64 0), .one (.slice none 0 0), .one (.slice none 0 0), .one (.int .i64 0)]) rfl (by kernel_rfl) (by kernel_rfl) rfl) rfl rfl rfl ?_; clear E a; intro a E; refine S_eff E rfl (fun K hK => ?_); refine eff_store 0 E H rfl rfl rfl rfl rfl (by repeat (first | exact trivial | refine ⟨rfl, ?_⟩ | refine ⟨fun _ _ => rfl, ?_⟩)) rfl (by kernel_rfl) rfl ?_; clear H; intro w H _; replace H : Sep _ _ _ _ [_, _] _ := H; refine hK _ _ ?_; clear hK K; refine S_put0 rfl ?_; refine S_val E (pk_assign rfl rfl) rfl rfl rfl ?_; clear E a; intro a E; refine hK4 _ _ ?_; refine wp_ret ?_
      repeat (first | refine then_ret ?_ | refine block_ret ?_)
      refine ret2 rfl E (by exact resC (n := 4) H 0 rfl rfl rfl (by kernel_rfl)) (resT rfl) ?_
      have hP : postV ⟨ep, log, wait, nx⟩ text tos = (noSrv, 1) := by
        unfold postV; exact if_pos (Or.inr c19)
      rw [hP]
      exact ⟨none, 0, fun _ => TextT.dft, none, 0, fun _ => LtrT.dft, rfl, ((H.keepLR (L := []) (R := [])).know liF_nil).know liF_nil⟩
    · skip
      clear E; intro c19 E
      have hfar : tos.any farB = false := c19
      refine S_else E rfl ?_; refine wp_skip ?_; refine hK1 _ _ ?_; refine wp_seq_k fun K5 hK5 => ?_; refine S_region ?_; refine S_val E (pk_move rfl rfl) rfl rfl rfl ?_; clear E a; intro a E; refine S_eff E rfl (fun K hK => ?_); refine eff_call E rfl rfl rfl (by kernel_rfl) ?_; refine (read_any H.xk (H.fact 2 rfl)).mono ?_; rintro e w ⟨rfl, H1⟩
      replace H := H.call H1
      clear H1; replace H : Sep _ _ _ _ [_, _] [_, _, _, _] := H; refine hK _ _ ?_; clear hK K; refine S_put E rfl rfl ?_; clear E a; intro a E; refine S_val E (pk_move rfl rfl) rfl rfl rfl ?_; clear E a; intro a E; refine S_val E (pk_extract rfl rfl rfl) rfl rfl rfl ?_; clear E a; intro a E; refine S_val E (pk_extract rfl rfl rfl) rfl rfl rfl ?_; clear E a; intro a E; refine S_val E (pk_assign rfl rfl) rfl rfl rfl ?_; clear E a; intro a E; refine S_val E (pk_assign rfl rfl) rfl rfl rfl ?_; clear E a; intro a E; refine hK5 _ _ ?_; refine wp_seq_k fun K6 hK6 => ?_; refine S_region ?_; refine S_val E (pk_move rfl rfl) rfl rfl rfl ?_; clear E a; intro a E; refine S_val E (pk_int rfl rfl rfl rfl) rfl rfl rfl ?_; clear E a; intro a E; refine S_val E (pk_assign rfl rfl) rfl rfl rfl ?_; clear E a; intro a E; refine env_split (d := 10) E rfl ?_ ?_
      · skip
        clear E; intro c10 E
        have hcm : kindV text = 1 := eq_of_beq c10
        refine hK6 _ _ ?_; refine wp_seq_k fun K7 hK7 => ?_; refine wp_block ?_; refine wp_seq_k fun K8 hK8 => ?_; refine S_region ?_; refine S_val E (pk_move rfl rfl) rfl rfl rfl ?_; clear E a; intro a E; refine S_val E (pk_int rfl rfl rfl rfl) rfl rfl rfl ?_; clear E a; intro a E; refine S_val E (pk_assign rfl rfl) rfl rfl rfl ?_; clear E a; intro a E; refine hK8 _ _ ?_; refine env_split (d := 28) E rfl ?_ ?_
        · skip
          clear E; intro c28 E
          have hk0 : kindV text = 0 := eq_of_beq c28
          refine S_then E rfl ?_; refine wp_seq_k fun K9 hK9 => ?_; refine S_region ?_; refine S_val E (pk_build (z := [.one (.int .u64 0), .one (.slice none 0 0), .one (.slice none 0 0), .one (.int .i64 0)]) rfl (by kernel_rfl) (by kernel_rfl) rfl) rfl rfl rfl ?_; clear E a; intro a E; refine S_eff E rfl (fun K hK => ?_); refine eff_store 0 E H rfl rfl rfl rfl rfl (by repeat (first | exact trivial | refine ⟨rfl, ?_⟩ | refine ⟨fun _ _ => rfl, ?_⟩)) rfl (by kernel_rfl) rfl ?_; clear H; intro w H _; replace H : Sep _ _ _ _ [_, _] _ := H; refine hK _ _ ?_; clear hK K; refine S_put0 rfl ?_; refine S_val E (pk_assign rfl rfl) rfl rfl rfl ?_; clear E a; intro a E; refine hK9 _ _ ?_; refine wp_ret ?_
          repeat (first | refine then_ret ?_ | refine block_ret ?_)
          refine ret2 rfl E (by exact resC (n := 4) H 0 rfl rfl rfl (by kernel_rfl)) (resT rfl) ?_
          have hP : postV ⟨ep, log, wait, nx⟩ text tos = (noSrv, 3) := by
            unfold postV; rw [if_neg (show ¬(okS ⟨ep, log, wait, nx⟩ = false ∨ tos.any farB = true) by rw [hok, hfar]; simp)]; exact if_pos hk0
          rw [hP]
          exact ⟨none, 0, fun _ => TextT.dft, none, 0, fun _ => LtrT.dft, rfl, ((H.keepLR (L := []) (R := [])).know liF_nil).know liF_nil⟩
        · skip
          clear E; intro c28 E
          have hk0 : ¬ kindV text = 0 := ne_of_beq_false c28
          refine S_else E rfl ?_; refine wp_seq_k fun K10 hK10 => ?_; refine S_region ?_; refine S_val E (pk_move rfl rfl) rfl rfl rfl ?_; clear E a; intro a E; refine S_val E (pk_move rfl rfl) rfl rfl rfl ?_; clear E a; intro a E; refine S_val E (pk_move rfl rfl) rfl rfl rfl ?_; clear E a; intro a E; refine S_val E (pk_fieldAddr (off := 0) rfl rfl (by kernel_rfl)) rfl rfl rfl ?_; clear E a; intro a E; refine S_val E (pk_load1 H 1 rfl rfl rfl trivial rfl (by kernel_rfl)) rfl rfl rfl ?_; clear E a; intro a E; refine S_val E (pk_int rfl rfl rfl rfl) rfl rfl rfl ?_; clear E a; intro a E; refine S_val E (pk_pick rfl rfl rfl) rfl rfl rfl ?_; clear E a; intro a E; refine S_val E (pk_assign rfl rfl) rfl rfl rfl ?_; clear E a; intro a E; refine hK10 _ _ ?_; refine env_split (d := 32) E rfl ?_ ?_
          · skip
            clear E; intro c32 E
            have hne : epV text ≠ ep := by simpa using c32
            refine S_then E rfl ?_; refine wp_seq_k fun K11 hK11 => ?_; refine S_region ?_; refine S_val E (pk_build (z := [.one (.int .u64 0), .one (.slice none 0 0), .one (.slice none 0 0), .one (.int .i64 0)]) rfl (by kernel_rfl) (by kernel_rfl) rfl) rfl rfl rfl ?_; clear E a; intro a E; refine S_eff E rfl (fun K hK => ?_); refine eff_store 0 E H rfl rfl rfl rfl rfl (by repeat (first | exact trivial | refine ⟨rfl, ?_⟩ | refine ⟨fun _ _ => rfl, ?_⟩)) rfl (by kernel_rfl) rfl ?_; clear H; intro w H _; replace H : Sep _ _ _ _ [_, _] _ := H; refine hK _ _ ?_; clear hK K; refine S_put0 rfl ?_; refine S_val E (pk_assign rfl rfl) rfl rfl rfl ?_; clear E a; intro a E; refine hK11 _ _ ?_; refine wp_ret ?_
            repeat (first | refine then_ret ?_ | refine block_ret ?_)
            refine ret2 rfl E (by exact resC (n := 4) H 0 rfl rfl rfl (by kernel_rfl)) (resT rfl) ?_
            have hP : postV ⟨ep, log, wait, nx⟩ text tos = (noSrv, 9) := by
              unfold postV; rw [if_neg (show ¬(okS ⟨ep, log, wait, nx⟩ = false ∨ tos.any farB = true) by rw [hok, hfar]; simp)]; rw [if_neg hk0]; exact if_pos ⟨hcm, hne⟩
            rw [hP]
            exact ⟨none, 0, fun _ => TextT.dft, none, 0, fun _ => LtrT.dft, rfl, ((H.keepLR (L := []) (R := [])).know liF_nil).know liF_nil⟩
          · skip
            clear E; intro c32 E
            have hee : epV text = ep := by simpa using c32
            refine S_else E rfl ?_; refine wp_seq_k fun K12 hK12 => ?_; refine wp_seq_k fun K13 hK13 => ?_; refine S_region ?_; refine S_val E (pk_move rfl rfl) rfl rfl rfl ?_; clear E a; intro a E; refine S_val E (pk_move rfl rfl) rfl rfl rfl ?_; clear E a; intro a E; refine S_val E (pk_fieldAddr (off := 1) rfl rfl (by kernel_rfl)) rfl rfl rfl ?_; clear E a; intro a E; refine S_val E (pk_load1 H 1 rfl rfl rfl trivial rfl (by kernel_rfl)) rfl rfl rfl ?_; clear E a; intro a E; refine S_val E (pk_len rfl rfl (by kernel_rfl)) rfl rfl rfl ?_; clear E a; intro a E; refine S_val E (pk_int rfl rfl rfl rfl) rfl rfl rfl ?_; clear E a; intro a E; refine S_val E (pk_pick rfl rfl rfl) rfl rfl rfl ?_; clear E a; intro a E; refine S_val E (pk_assign rfl rfl) rfl rfl rfl ?_; clear E a; intro a E; refine hK13 _ _ ?_; refine env_split (d := 41) E rfl ?_ ?_
            · skip
              clear E; intro c41 E; refine S_then E rfl ?_; refine wp_skip ?_; refine hK12 _ _ ?_; refine S_then E rfl ?_; refine wp_seq_k fun K14 hK14 => ?_; refine S_region ?_; refine S_val E (pk_build (z := [.one (.int .u64 0), .one (.slice none 0 0), .one (.slice none 0 0), .one (.int .i64 0)]) rfl (by kernel_rfl) (by kernel_rfl) rfl) rfl rfl rfl ?_; clear E a; intro a E; refine S_eff E rfl (fun K hK => ?_); refine eff_store 0 E H rfl rfl rfl rfl rfl (by repeat (first | exact trivial | refine ⟨rfl, ?_⟩ | refine ⟨fun _ _ => rfl, ?_⟩)) rfl (by kernel_rfl) rfl ?_; clear H; intro w H _; replace H : Sep _ _ _ _ [_, _] _ := H; refine hK _ _ ?_; clear hK K; refine S_put0 rfl ?_; refine S_val E (pk_assign rfl rfl) rfl rfl rfl ?_; clear E a; intro a E; refine hK14 _ _ ?_; refine wp_ret ?_
              repeat (first | refine then_ret ?_ | refine block_ret ?_)
              refine ret2 rfl E (by exact resC (n := 4) H 0 rfl rfl rfl (by kernel_rfl)) (resT rfl) ?_
              have hP : postV ⟨ep, log, wait, nx⟩ text tos = (noSrv, 8) := by
                unfold postV; rw [if_neg (show ¬(okS ⟨ep, log, wait, nx⟩ = false ∨ tos.any farB = true) by rw [hok, hfar]; simp)]; rw [if_neg hk0]; rw [if_neg (show ¬(kindV text = 1 ∧ epV text ≠ (⟨ep, log, wait, nx⟩ : Srv).ep) by rintro ⟨_, h⟩; exact h hee)]; exact if_pos (by simp only; simp only [decide_eq_true_eq, beq_iff_eq] at *; omega)
              rw [hP]
              exact ⟨none, 0, fun _ => TextT.dft, none, 0, fun _ => LtrT.dft, rfl, ((H.keepLR (L := []) (R := [])).know liF_nil).know liF_nil⟩
            · skip
              clear E; intro c41 E; refine S_else E rfl ?_; refine wp_seq_k fun K15 hK15 => ?_; refine S_region ?_; refine S_val E (pk_move rfl rfl) rfl rfl rfl ?_; clear E a; intro a E; refine S_val E (pk_len rfl rfl (by kernel_rfl)) rfl rfl rfl ?_; clear E a; intro a E; refine S_val E (pk_fieldAddr (off := 2) rfl rfl (by kernel_rfl)) rfl rfl rfl ?_; clear E a; intro a E; refine S_val E (pk_load1 H 1 rfl rfl rfl trivial rfl (by kernel_rfl)) rfl rfl rfl ?_; clear E a; intro a E; refine S_val E (pk_len rfl rfl (by kernel_rfl)) rfl rfl rfl ?_; clear E a; intro a E; refine S_val E (pk_intw rfl rfl rfl rfl (wI64 (by omega) (by omega))) rfl rfl rfl ?_; clear E a; intro a E; refine S_val E (pk_int rfl rfl rfl rfl) rfl rfl rfl ?_; clear E a; intro a E; refine S_val E (pk_assign rfl rfl) rfl rfl rfl ?_; clear E a; intro a E; refine hK15 _ _ ?_; refine env_split (d := 41) E rfl ?_ ?_
              · skip
                clear E; intro c41 E; refine S_then E rfl ?_; refine wp_skip ?_; refine hK12 _ _ ?_; refine S_then E rfl ?_; refine wp_seq_k fun K16 hK16 => ?_; refine S_region ?_; refine S_val E (pk_build (z := [.one (.int .u64 0), .one (.slice none 0 0), .one (.slice none 0 0), .one (.int .i64 0)]) rfl (by kernel_rfl) (by kernel_rfl) rfl) rfl rfl rfl ?_; clear E a; intro a E; refine S_eff E rfl (fun K hK => ?_); refine eff_store 0 E H rfl rfl rfl rfl rfl (by repeat (first | exact trivial | refine ⟨rfl, ?_⟩ | refine ⟨fun _ _ => rfl, ?_⟩)) rfl (by kernel_rfl) rfl ?_; clear H; intro w H _; replace H : Sep _ _ _ _ [_, _] _ := H; refine hK _ _ ?_; clear hK K; refine S_put0 rfl ?_; refine S_val E (pk_assign rfl rfl) rfl rfl rfl ?_; clear E a; intro a E; refine hK16 _ _ ?_; refine wp_ret ?_
                repeat (first | refine then_ret ?_ | refine block_ret ?_)
                refine ret2 rfl E (by exact resC (n := 4) H 0 rfl rfl rfl (by kernel_rfl)) (resT rfl) ?_
                have hP : postV ⟨ep, log, wait, nx⟩ text tos = (noSrv, 8) := by
                  unfold postV; rw [if_neg (show ¬(okS ⟨ep, log, wait, nx⟩ = false ∨ tos.any farB = true) by rw [hok, hfar]; simp)]; rw [if_neg hk0]; rw [if_neg (show ¬(kindV text = 1 ∧ epV text ≠ (⟨ep, log, wait, nx⟩ : Srv).ep) by rintro ⟨_, h⟩; exact h hee)]; exact if_pos (by simp only; simp only [decide_eq_true_eq, beq_iff_eq] at *; omega)
                rw [hP]
                exact ⟨none, 0, fun _ => TextT.dft, none, 0, fun _ => LtrT.dft, rfl, ((H.keepLR (L := []) (R := [])).know liF_nil).know liF_nil⟩
              · skip
                clear E; intro c41 E; refine S_else E rfl ?_; refine S_region ?_; refine S_val E (pk_move rfl rfl) rfl rfl rfl ?_; clear E a; intro a E; refine S_val E (pk_len rfl rfl (by kernel_rfl)) rfl rfl rfl ?_; clear E a; intro a E; refine S_val E (pk_fieldAddr (off := 3) rfl rfl (by kernel_rfl)) rfl rfl rfl ?_; clear E a; intro a E; refine S_val E (pk_load1 H 1 rfl rfl rfl trivial rfl (by kernel_rfl)) rfl rfl rfl ?_; clear E a; intro a E; refine S_val E (pk_intw rfl rfl rfl rfl (wI64 (by omega) (by omega))) rfl rfl rfl ?_; clear E a; intro a E; refine S_val E (pk_int rfl rfl rfl rfl) rfl rfl rfl ?_; clear E a; intro a E; refine S_val E (pk_assign rfl rfl) rfl rfl rfl ?_; clear E a; intro a E; refine hK12 _ _ ?_; refine env_split (d := 41) E rfl ?_ ?_
                · skip
                  clear E; intro c41 E; refine S_then E rfl ?_; refine wp_seq_k fun K17 hK17 => ?_; refine S_region ?_; refine S_val E (pk_build (z := [.one (.int .u64 0), .one (.slice none 0 0), .one (.slice none 0 0), .one (.int .i64 0)]) rfl (by kernel_rfl) (by kernel_rfl) rfl) rfl rfl rfl ?_; clear E a; intro a E; refine S_eff E rfl (fun K hK => ?_); refine eff_store 0 E H rfl rfl rfl rfl rfl (by repeat (first | exact trivial | refine ⟨rfl, ?_⟩ | refine ⟨fun _ _ => rfl, ?_⟩)) rfl (by kernel_rfl) rfl ?_; clear H; intro w H _; replace H : Sep _ _ _ _ [_, _] _ := H; refine hK _ _ ?_; clear hK K; refine S_put0 rfl ?_; refine S_val E (pk_assign rfl rfl) rfl rfl rfl ?_; clear E a; intro a E; refine hK17 _ _ ?_; refine wp_ret ?_
                  repeat (first | refine then_ret ?_ | refine block_ret ?_)
                  refine ret2 rfl E (by exact resC (n := 4) H 0 rfl rfl rfl (by kernel_rfl)) (resT rfl) ?_
                  have hP : postV ⟨ep, log, wait, nx⟩ text tos = (noSrv, 8) := by
                    unfold postV; rw [if_neg (show ¬(okS ⟨ep, log, wait, nx⟩ = false ∨ tos.any farB = true) by rw [hok, hfar]; simp)]; rw [if_neg hk0]; rw [if_neg (show ¬(kindV text = 1 ∧ epV text ≠ (⟨ep, log, wait, nx⟩ : Srv).ep) by rintro ⟨_, h⟩; exact h hee)]; exact if_pos (by simp only; simp only [decide_eq_true_eq, beq_iff_eq] at *; omega)
                  rw [hP]
                  exact ⟨none, 0, fun _ => TextT.dft, none, 0, fun _ => LtrT.dft, rfl, ((H.keepLR (L := []) (R := [])).know liF_nil).know liF_nil⟩
                · skip
                  clear E; intro c41 E; refine S_else E rfl ?_; refine wp_skip ?_; refine hK7 _ _ ?_; refine wp_seq_k fun K18 hK18 => ?_
                  have hold : ¬(kindV text = 1 ∧ epV text ≠ (⟨ep, log, wait, nx⟩ : Srv).ep) := by rintro ⟨_, h⟩; exact h hee
                  have hfull : ¬((kindV text = 1 ∧ (⟨ep, log, wait, nx⟩ : Srv).log.length = 2000) ∨ 20000 < (⟨ep, log, wait, nx⟩ : Srv).wait.length + tos.length ∨ 1099511627776 < (⟨ep, log, wait, nx⟩ : Srv).nx + (tos.length : Int)) := by
                    simp only
                    simp only [decide_eq_false_iff_not, beq_eq_false_iff_ne, ne_eq] at *
                    omega
                  refine S_region ?_; refine S_val E (pk_load (n := 4) H 1 rfl rfl rfl trivial rfl (by kernel_rfl)) rfl rfl rfl ?_; clear E a; intro a E; refine S_eff E rfl (fun K hK => ?_); refine eff_call E rfl rfl rfl (by kernel_rfl) ?_; refine (own_any (by omega) (by omega) H.xk (H.fact 0 rfl) (H.fact 1 rfl)).mono ?_; rintro e w ⟨LA9, lc9, WA9, wc9, ds, es, hds, hes, rfl, H1⟩
                  replace H := H.call H1
                  clear H1; replace H : Sep _ _ _ _ [_, _, _, _] [_, _, _, _, _, _] := H; refine hK _ _ ?_; clear hK K; refine S_put E rfl rfl ?_; clear E a; intro a E
                  have hds2 : ds.length = log.length := by rw [← hds, List.length_map]
                  have hes2 : es.length = wait.length := by rw [← hes, List.length_map]
                  refine S_eff E rfl (fun K hK => ?_); refine eff_store 3 E H rfl rfl rfl rfl rfl (by repeat (first | exact trivial | refine ⟨rfl, ?_⟩ | refine ⟨fun _ _ => rfl, ?_⟩)) rfl (by kernel_rfl) rfl ?_; clear H; intro w H _; replace H : Sep _ _ _ _ [_, _, _, _] _ := H; refine hK _ _ ?_; clear hK K; refine S_put0 rfl ?_; refine hK18 _ _ ?_; refine wp_seq_k fun K19 hK19 => ?_; refine wp_seq_k fun K20 hK20 => ?_; refine S_region ?_; refine S_val E (pk_move rfl rfl) rfl rfl rfl ?_; clear E a; intro a E; refine hK20 _ _ ?_; refine S_then E rfl ?_; refine wp_seq_k fun K21 hK21 => ?_; refine C_region E H [] 5 [(0, false), (1, false), (2, false), (3, true), (4, true)] (by kernel_rfl) (by kernel_rfl) (fun w HS => ?_)
                  (simp only [canOps, List.getElem?_cons_zero, List.getElem?_cons_succ, List.drop_succ_cons, List.drop_zero])
                  clear H
                  have H := HS
                  have hsz : w.heap.size ≤ w.heap.size := Nat.le_refl _
                  have HK : CanB.Keep (fun k => k < w.heap.size ∧ k ∉ []) w w := CanB.Keep.refl _ _
                  refine C_val E HK (pk_fieldAddr (off := 1) rfl rfl (by kernel_rfl)) rfl rfl rfl (fun _ _ _ _ h => h) ?_; clear E a; intro a E; refine C_val E HK (pk_load1 HS 3 rfl rfl rfl (HS.inS 3 rfl (by simp)) rfl (by kernel_rfl)) rfl rfl rfl (fun _ _ _ _ h => h) ?_; clear E a; intro a E; refine C_val E HK (pk_move rfl rfl) rfl rfl rfl (fun _ _ _ _ h => h) ?_; clear E a; intro a E; refine C_eff E rfl (fun K hK => ?_); refine eff_call E rfl rfl rfl (by kernel_rfl) ?_; refine (clone_sep H.xk (H.fact 4 rfl)).mono ?_; rintro e w ⟨A69, c69, rfl, H1⟩
                  have F := H1.frm
                  replace H := H.call H1
                  clear H1; replace H : Sep _ _ _ _ [_, _, _, _] [_, _, _, _, _, _, _] := H
                  have hk := keep_frm (D := []) F hsz (by simp)
                  refine hK _ _ hk ?_; clear hK K
                  replace HK := HK.trans hk
                  replace hsz := Nat.le_trans hsz (F).size
                  clear hk; refine C_put E rfl rfl ?_; clear E a; intro a E; clear F; refine C_eff E rfl (fun K hK => ?_); refine eff_bslice (sz := 1) (z := [.one (.slice none 0 0)]) E H rfl Try.underlying22 (by kernel_rfl) (by decide) (by kernel_rfl) ⟨_, [.one _], 0, _, rfl, rfl, rfl, rfl, rfl⟩ ?_; clear H; intro b70 w H F
                  have hk := keep_frm (D := []) F hsz (by simp)
                  refine hK _ _ hk ?_; clear hK K
                  replace HK := HK.trans hk
                  replace hsz := Nat.le_trans hsz (F).size
                  clear hk; refine C_put E rfl rfl ?_; clear E a; intro a E; clear F; refine CanB.wpCan_nil ?_
                  try (simp only [List.take_succ_cons, List.take_zero, List.drop_succ_cons, List.drop_zero])
                  clear HS HK hsz; refine S_eff E rfl (fun K hK => ?_); refine eff_app1 (T := TextT) (q := ((text, (A69, c69)) : List Nat × TextT.μ)) (its := ds) 2 0 (by_ := 24) E H rfl rfl rfl rfl rfl rfl ⟨Try.underlying22, by kernel_rfl⟩ (by omega) (by omega) ?_; clear H; intro A71 c71 w hcap71 H F; replace H : Sep _ _ _ _ [_, _, _, _, _] _ := H; refine hK _ _ ?_; clear hK K; refine S_put E rfl rfl ?_; clear E a; intro a E; clear F; refine S_val E (pk_fieldAddr (off := 1) rfl rfl (by kernel_rfl)) rfl rfl rfl ?_; clear E a; intro a E; refine S_eff E rfl (fun K hK => ?_); refine eff_store 4 (new := [.one _]) E H rfl rfl rfl rfl rfl (by repeat (first | exact trivial | refine ⟨rfl, ?_⟩ | refine ⟨fun _ _ => rfl, ?_⟩)) rfl (by kernel_rfl) rfl ?_; clear H; intro w H _; replace H : Sep _ _ _ _ [_, _, _, _, _] _ := H; refine hK _ _ ?_; clear hK K; refine S_put0 rfl ?_
                  refine hK21 _ _ ?_; refine S_region ?_; refine S_val E (pk_fieldAddr (off := 0) rfl rfl (by kernel_rfl)) rfl rfl rfl ?_; clear E a; intro a E; refine S_val E (pk_load1 H 4 rfl rfl rfl trivial rfl (by kernel_rfl)) rfl rfl rfl ?_; clear E a; intro a E; refine S_val E (pk_intw rfl rfl rfl rfl (wU64 (by omega) (by omega))) rfl rfl rfl ?_; clear E a; intro a E; refine S_val E (pk_fieldAddr (off := 0) rfl rfl (by kernel_rfl)) rfl rfl rfl ?_; clear E a; intro a E; refine S_eff E rfl (fun K hK => ?_); refine eff_store 4 (new := [.one _]) E H rfl rfl rfl rfl rfl (by repeat (first | exact trivial | refine ⟨rfl, ?_⟩ | refine ⟨fun _ _ => rfl, ?_⟩)) rfl (by kernel_rfl) rfl ?_; clear H; intro w H _; replace H : Sep _ _ _ _ [_, _, _, _, _] _ := H; refine hK _ _ ?_; clear hK K; refine S_put0 rfl ?_
                  replace H := H.popL
                  refine hK19 _ _ ?_; refine wp_seq_k fun K22 hK22 => ?_; refine wp_seq_k fun K23 hK23 => ?_; refine S_region ?_; refine S_val E (pk_move rfl rfl) rfl rfl rfl ?_; clear E a; intro a E; refine S_val E (pk_len rfl rfl (by kernel_rfl)) rfl rfl rfl ?_; clear E a; intro a E; refine S_val E (pk_move rfl rfl) rfl rfl rfl ?_; clear E a; intro a E; refine hK23 _ _ ?_; refine wp_block ?_
                  have H0 : Sep X [] w0 w [.row (.slice WA9 (es).length wc9) 49 3 (es).length (rowC LtrT (es)), .row (.slice A71 (ds ++ [((text, (A69, c69)) : List Nat × TextT.μ)]).length c71) 23 1 (ds ++ [((text, (A69, c69)) : List Nat × TextT.μ)]).length (rowC TextT ((ds ++ [((text, (A69, c69)) : List Nat × TextT.μ)]))), .blk b6 (ca [.one (.int .u64 0), .one (.slice none 0 0), .one (.slice none 0 0), .one (.int .i64 0)]) 30, .blk b3 (ca [.one (.int .u64 (ep + 1)), .one (.slice A71 (ds ++ [((text, (A69, c69)) : List Nat × TextT.μ)]).length c71), .one (.slice WA9 (es).length wc9), .one (.int .i64 nx)]) 30] [NestF LtrT (es), NestF TextT (ds ++ [((text, (A69, c69)) : List Nat × TextT.μ)]), LiF TextT LA lc log lm, LiF LtrT WA wc wait wm, TxF TA tc text, LiF IntT OA oc tos om] := H.refacts (List.forall_mem_cons.2 ⟨H.fact 1 rfl, List.forall_mem_cons.2 ⟨nest_snoc (q := ((text, (A69, c69)) : List Nat × TextT.μ)) (H.fact 2 rfl) (H.fact 0 rfl), List.forall_mem_cons.2 ⟨H.fact 3 rfl, List.forall_mem_cons.2 ⟨H.fact 4 rfl, List.forall_mem_cons.2 ⟨H.fact 5 rfl, List.forall_mem_cons.2 ⟨H.fact 6 rfl, List.forall_mem_nil _⟩⟩⟩⟩⟩⟩)
                  refine S_loopI (γ := Option Addr × Nat × List (Ltr × LtrT.μ)) [1, 3, 6, 77, 78] (fun g => [(79, .int .i64 (g.2.2.length : Int))]) (fun g => [.row (.slice g.1 (es ++ g.2.2).length g.2.1) 49 3 (es ++ g.2.2).length (rowC LtrT (es ++ g.2.2)), .row (.slice A71 (ds ++ [((text, (A69, c69)) : List Nat × TextT.μ)]).length c71) 23 1 (ds ++ [((text, (A69, c69)) : List Nat × TextT.μ)]).length (rowC TextT ((ds ++ [((text, (A69, c69)) : List Nat × TextT.μ)]))), .blk b6 (ca [.one (.int .u64 0), .one (.slice none 0 0), .one (.slice none 0 0), .one (.int .i64 0)]) 30, .blk b3 (ca [.one (.int .u64 (ep + 1)), .one (.slice A71 (ds ++ [((text, (A69, c69)) : List Nat × TextT.μ)]).length c71), .one (.slice g.1 (es ++ g.2.2).length g.2.1), .one (.int .i64 (nx + (g.2.2.length : Int)))]) 30]) (fun g => [NestF LtrT (es ++ g.2.2), NestF TextT (ds ++ [((text, (A69, c69)) : List Nat × TextT.μ)]), LiF TextT LA lc log lm, LiF LtrT WA wc wait wm, TxF TA tc text, LiF IntT OA oc tos om]) (fun g => g.2.2.length ≤ tos.length ∧ g.2.2.map Prod.fst = (lettersV nx tos text).take g.2.2.length) (fun g => tos.length - g.2.2.length) ((WA9, wc9, [])) E (by simpa using H0) (by repeat (first | exact trivial | refine ⟨rfl, ?_⟩)) (⟨Nat.zero_le _, rfl⟩) ?_
                  clear E H; intro g a w E H hφ; replace E : Env a _ [(79, _), (1, _), (3, _), (6, _), (77, _), (78, _)] := E; replace H : Sep _ _ _ _ [_, _, _, _] [_, _, _, _, _, _] := H
                  obtain ⟨gA, gc, ns⟩ := g
                  simp only at E H hφ ⊢
                  refine wp_seq_k fun K24 hK24 => ?_; refine S_region ?_; refine S_val E (pk_int rfl rfl rfl rfl) rfl rfl rfl ?_; clear E a; intro a E; refine hK24 _ _ ?_; refine wp_seq_k fun K25 hK25 => ?_; refine env_split (d := 80) E rfl ?_ ?_
                  · skip
                    clear E; intro c80 E
                    have hk : ns.length < tos.length := by simpa using c80
                    have hx0 : tos[ns.length]? = some tos[ns.length] := List.getElem?_eq_getElem hk
                    have hx1 : (lettersV nx tos text)[ns.length]? = some ⟨nx + (ns.length : Int), tos[ns.length], text⟩ := by simp [lettersV, hx0]
                    refine S_then E rfl ?_; refine wp_skip ?_; refine hK25 _ _ ?_; refine wp_seq_k fun K26 hK26 => ?_; refine wp_block ?_; refine wp_seq_k fun K27 hK27 => ?_; refine S_region ?_
                    obtain ⟨ad81, hA81, hc81, hn81⟩ := LiF.get (A := OA) (T := IntT) (i := ns.length) (x := tos[ns.length]) (by exact H.fact 5 rfl) hx0
                    refine S_val E (pk_elA (sz := 1) hA81 rfl (by kernel_rfl) rfl rfl rfl (by omega)) rfl rfl rfl ?_; clear E a; intro a E
                    replace H := (H.know hn81).know hc81
                    clear hn81 hc81; replace H : Sep _ _ _ _ _ [_, _, _, _, _, _, _, _] := H; refine S_val E (pk_loadE1 (H.fact 0 rfl) (fun _ _ _ => trivial) rfl rfl rfl (by kernel_rfl)) rfl rfl rfl ?_; clear E a; intro a E; refine S_val E (pk_assign rfl rfl) rfl rfl rfl ?_; clear E a; intro a E; refine hK27 _ _ ?_; refine wp_seq_k fun K28 hK28 => ?_; refine C_region E H [] 9 [(0, false), (1, false), (2, false), (3, false), (4, false), (5, false), (6, true), (7, false), (8, true)] (by kernel_rfl) (by kernel_rfl) (fun w HS => ?_)
                    (simp only [canOps, List.getElem?_cons_zero, List.getElem?_cons_succ, List.drop_succ_cons, List.drop_zero])
                    clear H
                    have H := HS
                    have hsz : w.heap.size ≤ w.heap.size := Nat.le_refl _
                    have HK : CanB.Keep (fun k => k < w.heap.size ∧ k ∉ []) w w := CanB.Keep.refl _ _
                    refine C_val E HK (pk_fieldAddr (off := 2) rfl rfl (by kernel_rfl)) rfl rfl rfl (fun _ _ _ _ h => h) ?_; clear E a; intro a E; refine C_val E HK (pk_load1 HS 3 rfl rfl rfl (HS.inS 3 rfl (by simp)) rfl (by kernel_rfl)) rfl rfl rfl (fun _ _ _ _ h => h) ?_; clear E a; intro a E; refine C_val E HK (pk_fieldAddr (off := 3) rfl rfl (by kernel_rfl)) rfl rfl rfl (fun _ _ _ _ h => h) ?_; clear E a; intro a E; refine C_val E HK (pk_load1 HS 3 rfl rfl rfl (HS.inS 3 rfl (by simp)) rfl (by kernel_rfl)) rfl rfl rfl (fun _ _ _ _ h => h) ?_; clear E a; intro a E; refine C_val E HK (pk_move rfl rfl) rfl rfl rfl (fun _ _ _ _ h => h) ?_; clear E a; intro a E; refine C_val E HK (pk_move rfl rfl) rfl rfl rfl (fun _ _ _ _ h => h) ?_; clear E a; intro a E; refine C_eff E rfl (fun K hK => ?_); refine eff_call E rfl rfl rfl (by kernel_rfl) ?_; refine (clone_sep H.xk (H.fact 6 rfl)).mono ?_
                    rintro e w ⟨A89, c89, rfl, H1⟩
                    have F := H1.frm
                    replace H := H.call H1
                    clear H1; replace H : Sep _ _ _ _ [_, _, _, _] [_, _, _, _, _, _, _, _, _] := H
                    have hk := keep_frm (D := []) F hsz (by simp)
                    refine hK _ _ hk ?_; clear hK K
                    replace HK := HK.trans hk
                    replace hsz := Nat.le_trans hsz (F).size
                    clear hk; refine C_put E rfl rfl ?_; clear E a; intro a E; clear F; refine C_val E HK (pk_build (z := [.one (.int .i64 0), .one (.int .i64 0), .one (.slice none 0 0)]) rfl (by kernel_rfl) (by kernel_rfl) ⟨_, [.one _], 0, _, rfl, rfl, (by kernel_rfl), rfl, ⟨_, [.one _], 1, _, rfl, rfl, (by kernel_rfl), rfl, ⟨_, [.one _], 2, _, rfl, rfl, (by kernel_rfl), rfl, rfl⟩⟩⟩) rfl rfl rfl (fun _ _ _ _ h => h) ?_; clear E a; intro a E; refine C_eff E rfl (fun K hK => ?_); refine eff_bslice (sz := 3) (z := [.one (.int .i64 0), .one (.int .i64 0), .one (.slice none 0 0)]) E H rfl Try.underlying28 (by kernel_rfl) (by decide) (by kernel_rfl) ⟨_, _, 0, _, rfl, rfl, rfl, rfl, rfl⟩ ?_; clear H; intro b91 w H F
                    have hk := keep_frm (D := []) F hsz (by simp)
                    refine hK _ _ hk ?_; clear hK K
                    replace HK := HK.trans hk
                    replace hsz := Nat.le_trans hsz (F).size
                    clear hk; refine C_put E rfl rfl ?_; clear E a; intro a E; clear F; refine CanB.wpCan_nil ?_
                    try (simp only [List.take_succ_cons, List.take_zero, List.drop_succ_cons, List.drop_zero])
                    clear HS HK hsz; refine S_eff E rfl (fun K hK => ?_); refine eff_app1 (T := LtrT) (q := (((⟨nx + (ns.length : Int), tos[ns.length], text⟩ : Ltr), (A89, c89)) : Ltr × LtrT.μ)) (its := es ++ ns) 1 0 (by_ := 40) E H rfl rfl rfl rfl rfl rfl ⟨Try.underlying28, by kernel_rfl⟩ (by simp only [List.length_append]; omega) (by simp only [List.length_append]; omega) ?_; clear H; intro A92 c92 w hcap92 H F; replace H : Sep _ _ _ _ [_, _, _, _, _] _ := H; refine hK _ _ ?_; clear hK K; refine S_put E rfl rfl ?_; clear E a; intro a E; clear F; refine S_val E (pk_fieldAddr (off := 2) rfl rfl (by kernel_rfl)) rfl rfl rfl ?_; clear E a; intro a E; refine S_eff E rfl (fun K hK => ?_); refine eff_store 4 (new := [.one _]) E H rfl rfl rfl rfl rfl (by repeat (first | exact trivial | refine ⟨rfl, ?_⟩ | refine ⟨fun _ _ => rfl, ?_⟩)) rfl (by kernel_rfl) rfl ?_; clear H
                    intro w H _; replace H : Sep _ _ _ _ [_, _, _, _, _] _ := H; refine hK _ _ ?_; clear hK K; refine S_put0 rfl ?_; refine hK28 _ _ ?_; refine S_region ?_; refine S_val E (pk_fieldAddr (off := 3) rfl rfl (by kernel_rfl)) rfl rfl rfl ?_; clear E a; intro a E; refine S_val E (pk_load1 H 4 rfl rfl rfl trivial rfl (by kernel_rfl)) rfl rfl rfl ?_; clear E a; intro a E; refine S_val E (pk_intw rfl rfl rfl rfl (wI64 (by omega) (by omega))) rfl rfl rfl ?_; clear E a; intro a E; refine S_val E (pk_fieldAddr (off := 3) rfl rfl (by kernel_rfl)) rfl rfl rfl ?_; clear E a; intro a E; refine S_eff E rfl (fun K hK => ?_); refine eff_store 4 (new := [.one _]) E H rfl rfl rfl rfl rfl (by repeat (first | exact trivial | refine ⟨rfl, ?_⟩ | refine ⟨fun _ _ => rfl, ?_⟩)) rfl (by kernel_rfl) rfl ?_; clear H; intro w H _; replace H : Sep _ _ _ _ [_, _, _, _, _] _ := H; refine hK _ _ ?_
                    clear hK K; refine S_put0 rfl ?_; refine hK26 _ _ ?_; refine S_region ?_; refine S_val E (pk_intw rfl rfl rfl rfl (wI64 (by omega) (by omega))) rfl rfl rfl ?_; clear E a; intro a E; refine S_val E (pk_move rfl rfl) rfl rfl rfl ?_; clear E a; intro a E
                    replace H := (H.refacts (List.forall_mem_cons.2 ⟨nest_snoc (q := (((⟨nx + (ns.length : Int), tos[ns.length], text⟩ : Ltr), (A89, c89)) : Ltr × LtrT.μ)) (H.fact 3 rfl) (H.fact 0 rfl), List.forall_mem_cons.2 ⟨H.fact 4 rfl, List.forall_mem_cons.2 ⟨H.fact 5 rfl, List.forall_mem_cons.2 ⟨H.fact 6 rfl, List.forall_mem_cons.2 ⟨H.fact 7 rfl, List.forall_mem_cons.2 ⟨H.fact 8 rfl, List.forall_mem_nil _⟩⟩⟩⟩⟩⟩)).popL
                    rw [List.append_assoc, show nx + (ns.length : Int) + 1 = nx + ((ns ++ [(((⟨nx + (ns.length : Int), tos[ns.length], text⟩ : Ltr), (A89, c89)) : Ltr × LtrT.μ)]).length : Int) by rw [List.length_append]; simp; omega] at H
                    refine loop_end ?_
                    exact ⟨(A92, c92, ns ++ [(((⟨nx + (ns.length : Int), tos[ns.length], text⟩ : Ltr), (A89, c89)) : Ltr × LtrT.μ)]), ⟨E.to (by simp only [List.length_append, List.length_singleton]; repeat (first | exact trivial | refine ⟨rfl, ?_⟩)), H, ⟨by simp only [List.length_append, List.length_singleton]; omega, take_done hφ.2 hx1⟩⟩, by simp only [List.length_append, List.length_singleton]; omega⟩
                  · skip
                    clear E; intro c80 E
                    have hk : ¬ ns.length < tos.length := by simpa using c80
                    refine S_else E rfl ?_; refine wp_exit ?_
                    repeat (first | refine then_exit ?_ | refine block_hit ?_ | refine block_miss (by decide) ?_)
                    refine hK22 _ _ ?_; refine wp_seq_k fun K29 hK29 => ?_; refine S_region ?_; refine S_val E (pk_load (n := 4) H 3 rfl rfl rfl trivial rfl (by kernel_rfl)) rfl rfl rfl ?_; clear E a; intro a E; refine S_eff E rfl (fun K hK => ?_); refine eff_store 2 E H rfl rfl rfl rfl rfl (by repeat (first | exact trivial | refine ⟨rfl, ?_⟩ | refine ⟨fun _ _ => rfl, ?_⟩)) rfl (by kernel_rfl) rfl ?_; clear H; intro w H _; replace H : Sep _ _ _ _ [_, _, _, _] _ := H; refine hK _ _ ?_; clear hK K; refine S_put0 rfl ?_; refine S_val E (pk_assign rfl rfl) rfl rfl rfl ?_; clear E a; intro a E; refine hK29 _ _ ?_; refine wp_ret ?_
                    repeat (first | refine then_ret ?_ | refine block_ret ?_)
                    refine ret2 rfl E (by exact resC (n := 4) H 2 rfl rfl rfl (by kernel_rfl)) (resT rfl) ?_
                    have hns : ns.length = tos.length := by omega
                    have hnm : ns.map Prod.fst = lettersV nx tos text := by rw [hφ.2, hns, show tos.length = (lettersV nx tos text).length by simp [lettersV], List.take_length]
                    have hP : postV ⟨ep, log, wait, nx⟩ text tos = (⟨ep + 1, log ++ [text], wait ++ lettersV nx tos text, nx + (tos.length : Int)⟩, 0) := by
                      unfold postV; rw [if_neg (show ¬(okS ⟨ep, log, wait, nx⟩ = false ∨ tos.any farB = true) by rw [hok, hfar]; simp)]; rw [if_neg hk0]; rw [if_neg hold]; rw [if_neg hfull]; rw [if_pos hcm, if_pos hcm]
                    obtain ⟨wm2, HW⟩ := (H.at_ 0 _ rfl).freezeL (xs := wait ++ lettersV nx tos text) rfl (by simp) (by rw [List.map_append, hes, hnm])
                    obtain ⟨lm2, HL⟩ := (HW.at_ 0 _ rfl).freezeL (xs := log ++ [text]) rfl (by simp) (by rw [List.map_append, hds]; rfl)
                    have e1 : (ds ++ [((text, (A69, c69)) : List Nat × TextT.μ)]).length = (log ++ [text]).length := by rw [List.length_append, List.length_append, ← hds, List.length_map]; rfl
                    have e2 : (es ++ ns).length = (wait ++ lettersV nx tos text).length := by rw [← hes, ← hnm, ← List.map_append, List.length_map]
                    rw [hP]
                    refine ⟨A71, c71, lm2, gA, gc, wm2, ?_, HL.keepLR (L := []) (R := [_, _])⟩
                    rw [e1, e2, hns]
      · skip
        clear E; intro c10 E
        have hcm : ¬ kindV text = 1 := ne_of_beq_false c10
        refine hK6 _ _ ?_; refine wp_seq_k fun K30 hK30 => ?_; refine wp_block ?_; refine wp_seq_k fun K31 hK31 => ?_; refine S_region ?_; refine S_val E (pk_move rfl rfl) rfl rfl rfl ?_; clear E a; intro a E; refine S_val E (pk_int rfl rfl rfl rfl) rfl rfl rfl ?_; clear E a; intro a E; refine S_val E (pk_assign rfl rfl) rfl rfl rfl ?_; clear E a; intro a E; refine hK31 _ _ ?_; refine env_split (d := 28) E rfl ?_ ?_
        · skip
          clear E; intro c28 E
          have hk0 : kindV text = 0 := eq_of_beq c28
          refine S_then E rfl ?_; refine wp_seq_k fun K32 hK32 => ?_; refine S_region ?_; refine S_val E (pk_build (z := [.one (.int .u64 0), .one (.slice none 0 0), .one (.slice none 0 0), .one (.int .i64 0)]) rfl (by kernel_rfl) (by kernel_rfl) rfl) rfl rfl rfl ?_; clear E a; intro a E; refine S_eff E rfl (fun K hK => ?_); refine eff_store 0 E H rfl rfl rfl rfl rfl (by repeat (first | exact trivial | refine ⟨rfl, ?_⟩ | refine ⟨fun _ _ => rfl, ?_⟩)) rfl (by kernel_rfl) rfl ?_; clear H; intro w H _; replace H : Sep _ _ _ _ [_, _] _ := H; refine hK _ _ ?_; clear hK K; refine S_put0 rfl ?_; refine S_val E (pk_assign rfl rfl) rfl rfl rfl ?_; clear E a; intro a E; refine hK32 _ _ ?_; refine wp_ret ?_
          repeat (first | refine then_ret ?_ | refine block_ret ?_)
          refine ret2 rfl E (by exact resC (n := 4) H 0 rfl rfl rfl (by kernel_rfl)) (resT rfl) ?_
          have hP : postV ⟨ep, log, wait, nx⟩ text tos = (noSrv, 3) := by
            unfold postV; rw [if_neg (show ¬(okS ⟨ep, log, wait, nx⟩ = false ∨ tos.any farB = true) by rw [hok, hfar]; simp)]; exact if_pos hk0
          rw [hP]
          exact ⟨none, 0, fun _ => TextT.dft, none, 0, fun _ => LtrT.dft, rfl, ((H.keepLR (L := []) (R := [])).know liF_nil).know liF_nil⟩
        · skip
          clear E; intro c28 E
          have hk0 : ¬ kindV text = 0 := ne_of_beq_false c28
          refine S_else E rfl ?_; refine wp_seq_k fun K33 hK33 => ?_; refine S_region ?_; refine S_val E (pk_move rfl rfl) rfl rfl rfl ?_; clear E a; intro a E; refine S_val E (pk_move rfl rfl) rfl rfl rfl ?_; clear E a; intro a E; refine S_skip E rfl rfl rfl ?_; clear E a; intro a E; refine S_skip E rfl rfl rfl ?_; clear E a; intro a E; refine S_skip E rfl rfl rfl ?_; clear E a; intro a E; refine S_skip E rfl rfl rfl ?_; clear E a; intro a E; refine S_val E (pk_pick rfl rfl rfl) rfl rfl rfl ?_; clear E a; intro a E; refine S_val E (pk_assign rfl rfl) rfl rfl rfl ?_; clear E a; intro a E; refine hK33 _ _ ?_; refine S_else E rfl ?_; refine wp_seq_k fun K34 hK34 => ?_; refine wp_seq_k fun K35 hK35 => ?_; refine S_region ?_; refine S_val E (pk_move rfl rfl) rfl rfl rfl ?_; clear E a; intro a E; refine S_val E (pk_move rfl rfl) rfl rfl rfl ?_; clear E a; intro a E
          refine S_skip E rfl rfl rfl ?_; clear E a; intro a E; refine S_skip E rfl rfl rfl ?_; clear E a; intro a E; refine S_skip E rfl rfl rfl ?_; clear E a; intro a E; refine S_skip E rfl rfl rfl ?_; clear E a; intro a E; refine S_val E (pk_pick rfl rfl rfl) rfl rfl rfl ?_; clear E a; intro a E; refine S_val E (pk_assign rfl rfl) rfl rfl rfl ?_; clear E a; intro a E; refine hK35 _ _ ?_; refine S_else E rfl ?_; refine wp_seq_k fun K36 hK36 => ?_; refine S_region ?_; refine S_val E (pk_move rfl rfl) rfl rfl rfl ?_; clear E a; intro a E; refine S_val E (pk_len rfl rfl (by kernel_rfl)) rfl rfl rfl ?_; clear E a; intro a E; refine S_val E (pk_fieldAddr (off := 2) rfl rfl (by kernel_rfl)) rfl rfl rfl ?_; clear E a; intro a E; refine S_val E (pk_load1 H 1 rfl rfl rfl trivial rfl (by kernel_rfl)) rfl rfl rfl ?_; clear E a; intro a E
          refine S_val E (pk_len rfl rfl (by kernel_rfl)) rfl rfl rfl ?_; clear E a; intro a E; refine S_val E (pk_intw rfl rfl rfl rfl (wI64 (by omega) (by omega))) rfl rfl rfl ?_; clear E a; intro a E; refine S_val E (pk_int rfl rfl rfl rfl) rfl rfl rfl ?_; clear E a; intro a E; refine S_val E (pk_assign rfl rfl) rfl rfl rfl ?_; clear E a; intro a E; refine hK36 _ _ ?_; refine env_split (d := 41) E rfl ?_ ?_
          · skip
            clear E; intro c41 E; refine S_then E rfl ?_; refine wp_skip ?_; refine hK34 _ _ ?_; refine S_then E rfl ?_; refine wp_seq_k fun K37 hK37 => ?_; refine S_region ?_; refine S_val E (pk_build (z := [.one (.int .u64 0), .one (.slice none 0 0), .one (.slice none 0 0), .one (.int .i64 0)]) rfl (by kernel_rfl) (by kernel_rfl) rfl) rfl rfl rfl ?_; clear E a; intro a E; refine S_eff E rfl (fun K hK => ?_); refine eff_store 0 E H rfl rfl rfl rfl rfl (by repeat (first | exact trivial | refine ⟨rfl, ?_⟩ | refine ⟨fun _ _ => rfl, ?_⟩)) rfl (by kernel_rfl) rfl ?_; clear H; intro w H _; replace H : Sep _ _ _ _ [_, _] _ := H; refine hK _ _ ?_; clear hK K; refine S_put0 rfl ?_; refine S_val E (pk_assign rfl rfl) rfl rfl rfl ?_; clear E a; intro a E; refine hK37 _ _ ?_; refine wp_ret ?_
            repeat (first | refine then_ret ?_ | refine block_ret ?_)
            refine ret2 rfl E (by exact resC (n := 4) H 0 rfl rfl rfl (by kernel_rfl)) (resT rfl) ?_
            have hP : postV ⟨ep, log, wait, nx⟩ text tos = (noSrv, 8) := by
              unfold postV; rw [if_neg (show ¬(okS ⟨ep, log, wait, nx⟩ = false ∨ tos.any farB = true) by rw [hok, hfar]; simp)]; rw [if_neg hk0]; rw [if_neg (show ¬(kindV text = 1 ∧ epV text ≠ (⟨ep, log, wait, nx⟩ : Srv).ep) by rintro ⟨h, _⟩; exact hcm h)]; exact if_pos (by simp only; simp only [decide_eq_true_eq, beq_iff_eq] at *; omega)
            rw [hP]
            exact ⟨none, 0, fun _ => TextT.dft, none, 0, fun _ => LtrT.dft, rfl, ((H.keepLR (L := []) (R := [])).know liF_nil).know liF_nil⟩
          · skip
            clear E; intro c41 E; refine S_else E rfl ?_; refine S_region ?_; refine S_val E (pk_move rfl rfl) rfl rfl rfl ?_; clear E a; intro a E; refine S_val E (pk_len rfl rfl (by kernel_rfl)) rfl rfl rfl ?_; clear E a; intro a E; refine S_val E (pk_fieldAddr (off := 3) rfl rfl (by kernel_rfl)) rfl rfl rfl ?_; clear E a; intro a E; refine S_val E (pk_load1 H 1 rfl rfl rfl trivial rfl (by kernel_rfl)) rfl rfl rfl ?_; clear E a; intro a E; refine S_val E (pk_intw rfl rfl rfl rfl (wI64 (by omega) (by omega))) rfl rfl rfl ?_; clear E a; intro a E; refine S_val E (pk_int rfl rfl rfl rfl) rfl rfl rfl ?_; clear E a; intro a E; refine S_val E (pk_assign rfl rfl) rfl rfl rfl ?_; clear E a; intro a E; refine hK34 _ _ ?_; refine env_split (d := 41) E rfl ?_ ?_
            · skip
              clear E; intro c41 E; refine S_then E rfl ?_; refine wp_seq_k fun K38 hK38 => ?_; refine S_region ?_; refine S_val E (pk_build (z := [.one (.int .u64 0), .one (.slice none 0 0), .one (.slice none 0 0), .one (.int .i64 0)]) rfl (by kernel_rfl) (by kernel_rfl) rfl) rfl rfl rfl ?_; clear E a; intro a E; refine S_eff E rfl (fun K hK => ?_); refine eff_store 0 E H rfl rfl rfl rfl rfl (by repeat (first | exact trivial | refine ⟨rfl, ?_⟩ | refine ⟨fun _ _ => rfl, ?_⟩)) rfl (by kernel_rfl) rfl ?_; clear H; intro w H _; replace H : Sep _ _ _ _ [_, _] _ := H; refine hK _ _ ?_; clear hK K; refine S_put0 rfl ?_; refine S_val E (pk_assign rfl rfl) rfl rfl rfl ?_; clear E a; intro a E; refine hK38 _ _ ?_; refine wp_ret ?_
              repeat (first | refine then_ret ?_ | refine block_ret ?_)
              refine ret2 rfl E (by exact resC (n := 4) H 0 rfl rfl rfl (by kernel_rfl)) (resT rfl) ?_
              have hP : postV ⟨ep, log, wait, nx⟩ text tos = (noSrv, 8) := by
                unfold postV; rw [if_neg (show ¬(okS ⟨ep, log, wait, nx⟩ = false ∨ tos.any farB = true) by rw [hok, hfar]; simp)]; rw [if_neg hk0]; rw [if_neg (show ¬(kindV text = 1 ∧ epV text ≠ (⟨ep, log, wait, nx⟩ : Srv).ep) by rintro ⟨h, _⟩; exact hcm h)]; exact if_pos (by simp only; simp only [decide_eq_true_eq, beq_iff_eq] at *; omega)
              rw [hP]
              exact ⟨none, 0, fun _ => TextT.dft, none, 0, fun _ => LtrT.dft, rfl, ((H.keepLR (L := []) (R := [])).know liF_nil).know liF_nil⟩
            · skip
              clear E; intro c41 E; refine S_else E rfl ?_; refine wp_skip ?_; refine hK30 _ _ ?_; refine wp_seq_k fun K39 hK39 => ?_
              have hold : ¬(kindV text = 1 ∧ epV text ≠ (⟨ep, log, wait, nx⟩ : Srv).ep) := by rintro ⟨h, _⟩; exact hcm h
              have hfull : ¬((kindV text = 1 ∧ (⟨ep, log, wait, nx⟩ : Srv).log.length = 2000) ∨ 20000 < (⟨ep, log, wait, nx⟩ : Srv).wait.length + tos.length ∨ 1099511627776 < (⟨ep, log, wait, nx⟩ : Srv).nx + (tos.length : Int)) := by
                simp only
                simp only [decide_eq_false_iff_not, beq_eq_false_iff_ne, ne_eq] at *
                omega
              refine S_region ?_; refine S_val E (pk_load (n := 4) H 1 rfl rfl rfl trivial rfl (by kernel_rfl)) rfl rfl rfl ?_; clear E a; intro a E; refine S_eff E rfl (fun K hK => ?_); refine eff_call E rfl rfl rfl (by kernel_rfl) ?_; refine (own_any (by omega) (by omega) H.xk (H.fact 0 rfl) (H.fact 1 rfl)).mono ?_; rintro e w ⟨LA9, lc9, WA9, wc9, ds, es, hds, hes, rfl, H1⟩
              replace H := H.call H1
              clear H1; replace H : Sep _ _ _ _ [_, _, _, _] [_, _, _, _, _, _] := H; refine hK _ _ ?_; clear hK K; refine S_put E rfl rfl ?_; clear E a; intro a E
              have hds2 : ds.length = log.length := by rw [← hds, List.length_map]
              have hes2 : es.length = wait.length := by rw [← hes, List.length_map]
              refine S_eff E rfl (fun K hK => ?_); refine eff_store 3 E H rfl rfl rfl rfl rfl (by repeat (first | exact trivial | refine ⟨rfl, ?_⟩ | refine ⟨fun _ _ => rfl, ?_⟩)) rfl (by kernel_rfl) rfl ?_; clear H; intro w H _; replace H : Sep _ _ _ _ [_, _, _, _] _ := H; refine hK _ _ ?_; clear hK K; refine S_put0 rfl ?_; refine hK39 _ _ ?_; refine wp_seq_k fun K40 hK40 => ?_; refine wp_seq_k fun K41 hK41 => ?_; refine S_region ?_; refine S_val E (pk_move rfl rfl) rfl rfl rfl ?_; clear E a; intro a E; refine hK41 _ _ ?_; refine S_else E rfl ?_; refine wp_skip ?_; refine hK40 _ _ ?_; refine wp_seq_k fun K42 hK42 => ?_; refine wp_seq_k fun K43 hK43 => ?_; refine S_region ?_; refine S_val E (pk_move rfl rfl) rfl rfl rfl ?_; clear E a; intro a E; refine S_val E (pk_len rfl rfl (by kernel_rfl)) rfl rfl rfl ?_; clear E a; intro a E; refine S_val E (pk_move rfl rfl) rfl rfl rfl ?_; clear E a
              intro a E; refine hK43 _ _ ?_; refine wp_block ?_
              have H0 : Sep X [] w0 w [.row (.slice WA9 (es).length wc9) 49 3 (es).length (rowC LtrT (es)), .row (.slice LA9 ds.length lc9) 23 1 ds.length (rowC TextT (ds)), .blk b6 (ca [.one (.int .u64 0), .one (.slice none 0 0), .one (.slice none 0 0), .one (.int .i64 0)]) 30, .blk b3 (ca [.one (.int .u64 ep), .one (.slice LA9 ds.length lc9), .one (.slice WA9 (es).length wc9), .one (.int .i64 nx)]) 30] [NestF LtrT (es), NestF TextT ds, LiF TextT LA lc log lm, LiF LtrT WA wc wait wm, TxF TA tc text, LiF IntT OA oc tos om] := H
              refine S_loopI (γ := Option Addr × Nat × List (Ltr × LtrT.μ)) [1, 3, 6, 77, 78] (fun g => [(79, .int .i64 (g.2.2.length : Int))]) (fun g => [.row (.slice g.1 (es ++ g.2.2).length g.2.1) 49 3 (es ++ g.2.2).length (rowC LtrT (es ++ g.2.2)), .row (.slice LA9 ds.length lc9) 23 1 ds.length (rowC TextT (ds)), .blk b6 (ca [.one (.int .u64 0), .one (.slice none 0 0), .one (.slice none 0 0), .one (.int .i64 0)]) 30, .blk b3 (ca [.one (.int .u64 ep), .one (.slice LA9 ds.length lc9), .one (.slice g.1 (es ++ g.2.2).length g.2.1), .one (.int .i64 (nx + (g.2.2.length : Int)))]) 30]) (fun g => [NestF LtrT (es ++ g.2.2), NestF TextT ds, LiF TextT LA lc log lm, LiF LtrT WA wc wait wm, TxF TA tc text, LiF IntT OA oc tos om]) (fun g => g.2.2.length ≤ tos.length ∧ g.2.2.map Prod.fst = (lettersV nx tos text).take g.2.2.length) (fun g => tos.length - g.2.2.length) ((WA9, wc9, [])) E (by simpa using H0) (by repeat (first | exact trivial | refine ⟨rfl, ?_⟩)) (⟨Nat.zero_le _, rfl⟩) ?_
              clear E H; intro g a w E H hφ; replace E : Env a _ [(79, _), (1, _), (3, _), (6, _), (77, _), (78, _)] := E; replace H : Sep _ _ _ _ [_, _, _, _] [_, _, _, _, _, _] := H
              obtain ⟨gA, gc, ns⟩ := g
              simp only at E H hφ ⊢
              refine wp_seq_k fun K44 hK44 => ?_; refine S_region ?_; refine S_val E (pk_int rfl rfl rfl rfl) rfl rfl rfl ?_; clear E a; intro a E; refine hK44 _ _ ?_; refine wp_seq_k fun K45 hK45 => ?_; refine env_split (d := 80) E rfl ?_ ?_
              · skip
                clear E; intro c80 E
                have hk : ns.length < tos.length := by simpa using c80
                have hx0 : tos[ns.length]? = some tos[ns.length] := List.getElem?_eq_getElem hk
                have hx1 : (lettersV nx tos text)[ns.length]? = some ⟨nx + (ns.length : Int), tos[ns.length], text⟩ := by simp [lettersV, hx0]
                refine S_then E rfl ?_; refine wp_skip ?_; refine hK45 _ _ ?_; refine wp_seq_k fun K46 hK46 => ?_; refine wp_block ?_; refine wp_seq_k fun K47 hK47 => ?_; refine S_region ?_
                obtain ⟨ad81, hA81, hc81, hn81⟩ := LiF.get (A := OA) (T := IntT) (i := ns.length) (x := tos[ns.length]) (by exact H.fact 5 rfl) hx0
                refine S_val E (pk_elA (sz := 1) hA81 rfl (by kernel_rfl) rfl rfl rfl (by omega)) rfl rfl rfl ?_; clear E a; intro a E
                replace H := (H.know hn81).know hc81
                clear hn81 hc81; replace H : Sep _ _ _ _ _ [_, _, _, _, _, _, _, _] := H; refine S_val E (pk_loadE1 (H.fact 0 rfl) (fun _ _ _ => trivial) rfl rfl rfl (by kernel_rfl)) rfl rfl rfl ?_; clear E a; intro a E; refine S_val E (pk_assign rfl rfl) rfl rfl rfl ?_; clear E a; intro a E; refine hK47 _ _ ?_; refine wp_seq_k fun K48 hK48 => ?_; refine C_region E H [] 9 [(0, false), (1, false), (2, false), (3, false), (4, false), (5, false), (6, true), (7, false), (8, true)] (by kernel_rfl) (by kernel_rfl) (fun w HS => ?_)
                (simp only [canOps, List.getElem?_cons_zero, List.getElem?_cons_succ, List.drop_succ_cons, List.drop_zero])
                clear H
                have H := HS
                have hsz : w.heap.size ≤ w.heap.size := Nat.le_refl _
                have HK : CanB.Keep (fun k => k < w.heap.size ∧ k ∉ []) w w := CanB.Keep.refl _ _
                refine C_val E HK (pk_fieldAddr (off := 2) rfl rfl (by kernel_rfl)) rfl rfl rfl (fun _ _ _ _ h => h) ?_; clear E a; intro a E; refine C_val E HK (pk_load1 HS 3 rfl rfl rfl (HS.inS 3 rfl (by simp)) rfl (by kernel_rfl)) rfl rfl rfl (fun _ _ _ _ h => h) ?_; clear E a; intro a E; refine C_val E HK (pk_fieldAddr (off := 3) rfl rfl (by kernel_rfl)) rfl rfl rfl (fun _ _ _ _ h => h) ?_; clear E a; intro a E; refine C_val E HK (pk_load1 HS 3 rfl rfl rfl (HS.inS 3 rfl (by simp)) rfl (by kernel_rfl)) rfl rfl rfl (fun _ _ _ _ h => h) ?_; clear E a; intro a E; refine C_val E HK (pk_move rfl rfl) rfl rfl rfl (fun _ _ _ _ h => h) ?_; clear E a; intro a E; refine C_val E HK (pk_move rfl rfl) rfl rfl rfl (fun _ _ _ _ h => h) ?_; clear E a; intro a E; refine C_eff E rfl (fun K hK => ?_); refine eff_call E rfl rfl rfl (by kernel_rfl) ?_; refine (clone_sep H.xk (H.fact 6 rfl)).mono ?_
                rintro e w ⟨A89, c89, rfl, H1⟩
                have F := H1.frm
                replace H := H.call H1
                clear H1; replace H : Sep _ _ _ _ [_, _, _, _] [_, _, _, _, _, _, _, _, _] := H
                have hk := keep_frm (D := []) F hsz (by simp)
                refine hK _ _ hk ?_; clear hK K
                replace HK := HK.trans hk
                replace hsz := Nat.le_trans hsz (F).size
                clear hk; refine C_put E rfl rfl ?_; clear E a; intro a E; clear F; refine C_val E HK (pk_build (z := [.one (.int .i64 0), .one (.int .i64 0), .one (.slice none 0 0)]) rfl (by kernel_rfl) (by kernel_rfl) ⟨_, [.one _], 0, _, rfl, rfl, (by kernel_rfl), rfl, ⟨_, [.one _], 1, _, rfl, rfl, (by kernel_rfl), rfl, ⟨_, [.one _], 2, _, rfl, rfl, (by kernel_rfl), rfl, rfl⟩⟩⟩) rfl rfl rfl (fun _ _ _ _ h => h) ?_; clear E a; intro a E; refine C_eff E rfl (fun K hK => ?_); refine eff_bslice (sz := 3) (z := [.one (.int .i64 0), .one (.int .i64 0), .one (.slice none 0 0)]) E H rfl Try.underlying28 (by kernel_rfl) (by decide) (by kernel_rfl) ⟨_, _, 0, _, rfl, rfl, rfl, rfl, rfl⟩ ?_; clear H; intro b91 w H F
                have hk := keep_frm (D := []) F hsz (by simp)
                refine hK _ _ hk ?_; clear hK K
                replace HK := HK.trans hk
                replace hsz := Nat.le_trans hsz (F).size
                clear hk; refine C_put E rfl rfl ?_; clear E a; intro a E; clear F; refine CanB.wpCan_nil ?_
                try (simp only [List.take_succ_cons, List.take_zero, List.drop_succ_cons, List.drop_zero])
                clear HS HK hsz; refine S_eff E rfl (fun K hK => ?_); refine eff_app1 (T := LtrT) (q := (((⟨nx + (ns.length : Int), tos[ns.length], text⟩ : Ltr), (A89, c89)) : Ltr × LtrT.μ)) (its := es ++ ns) 1 0 (by_ := 40) E H rfl rfl rfl rfl rfl rfl ⟨Try.underlying28, by kernel_rfl⟩ (by simp only [List.length_append]; omega) (by simp only [List.length_append]; omega) ?_; clear H; intro A92 c92 w hcap92 H F; replace H : Sep _ _ _ _ [_, _, _, _, _] _ := H; refine hK _ _ ?_; clear hK K; refine S_put E rfl rfl ?_; clear E a; intro a E; clear F; refine S_val E (pk_fieldAddr (off := 2) rfl rfl (by kernel_rfl)) rfl rfl rfl ?_; clear E a; intro a E; refine S_eff E rfl (fun K hK => ?_); refine eff_store 4 (new := [.one _]) E H rfl rfl rfl rfl rfl (by repeat (first | exact trivial | refine ⟨rfl, ?_⟩ | refine ⟨fun _ _ => rfl, ?_⟩)) rfl (by kernel_rfl) rfl ?_; clear H
                intro w H _; replace H : Sep _ _ _ _ [_, _, _, _, _] _ := H; refine hK _ _ ?_; clear hK K; refine S_put0 rfl ?_; refine hK48 _ _ ?_; refine S_region ?_; refine S_val E (pk_fieldAddr (off := 3) rfl rfl (by kernel_rfl)) rfl rfl rfl ?_; clear E a; intro a E; refine S_val E (pk_load1 H 4 rfl rfl rfl trivial rfl (by kernel_rfl)) rfl rfl rfl ?_; clear E a; intro a E; refine S_val E (pk_intw rfl rfl rfl rfl (wI64 (by omega) (by omega))) rfl rfl rfl ?_; clear E a; intro a E; refine S_val E (pk_fieldAddr (off := 3) rfl rfl (by kernel_rfl)) rfl rfl rfl ?_; clear E a; intro a E; refine S_eff E rfl (fun K hK => ?_); refine eff_store 4 (new := [.one _]) E H rfl rfl rfl rfl rfl (by repeat (first | exact trivial | refine ⟨rfl, ?_⟩ | refine ⟨fun _ _ => rfl, ?_⟩)) rfl (by kernel_rfl) rfl ?_; clear H; intro w H _; replace H : Sep _ _ _ _ [_, _, _, _, _] _ := H; refine hK _ _ ?_; clear hK K
                refine S_put0 rfl ?_; refine hK46 _ _ ?_; refine S_region ?_; refine S_val E (pk_intw rfl rfl rfl rfl (wI64 (by omega) (by omega))) rfl rfl rfl ?_; clear E a; intro a E; refine S_val E (pk_move rfl rfl) rfl rfl rfl ?_; clear E a; intro a E
                replace H := (H.refacts (List.forall_mem_cons.2 ⟨nest_snoc (q := (((⟨nx + (ns.length : Int), tos[ns.length], text⟩ : Ltr), (A89, c89)) : Ltr × LtrT.μ)) (H.fact 3 rfl) (H.fact 0 rfl), List.forall_mem_cons.2 ⟨H.fact 4 rfl, List.forall_mem_cons.2 ⟨H.fact 5 rfl, List.forall_mem_cons.2 ⟨H.fact 6 rfl, List.forall_mem_cons.2 ⟨H.fact 7 rfl, List.forall_mem_cons.2 ⟨H.fact 8 rfl, List.forall_mem_nil _⟩⟩⟩⟩⟩⟩)).popL
                rw [List.append_assoc, show nx + (ns.length : Int) + 1 = nx + ((ns ++ [(((⟨nx + (ns.length : Int), tos[ns.length], text⟩ : Ltr), (A89, c89)) : Ltr × LtrT.μ)]).length : Int) by rw [List.length_append]; simp; omega] at H
                refine loop_end ?_
                exact ⟨(A92, c92, ns ++ [(((⟨nx + (ns.length : Int), tos[ns.length], text⟩ : Ltr), (A89, c89)) : Ltr × LtrT.μ)]), ⟨E.to (by simp only [List.length_append, List.length_singleton]; repeat (first | exact trivial | refine ⟨rfl, ?_⟩)), H, ⟨by simp only [List.length_append, List.length_singleton]; omega, take_done hφ.2 hx1⟩⟩, by simp only [List.length_append, List.length_singleton]; omega⟩
              · skip
                clear E; intro c80 E
                have hk : ¬ ns.length < tos.length := by simpa using c80
                refine S_else E rfl ?_; refine wp_exit ?_
                repeat (first | refine then_exit ?_ | refine block_hit ?_ | refine block_miss (by decide) ?_)
                refine hK42 _ _ ?_; refine wp_seq_k fun K49 hK49 => ?_; refine S_region ?_; refine S_val E (pk_load (n := 4) H 3 rfl rfl rfl trivial rfl (by kernel_rfl)) rfl rfl rfl ?_; clear E a; intro a E; refine S_eff E rfl (fun K hK => ?_); refine eff_store 2 E H rfl rfl rfl rfl rfl (by repeat (first | exact trivial | refine ⟨rfl, ?_⟩ | refine ⟨fun _ _ => rfl, ?_⟩)) rfl (by kernel_rfl) rfl ?_; clear H; intro w H _; replace H : Sep _ _ _ _ [_, _, _, _] _ := H; refine hK _ _ ?_; clear hK K; refine S_put0 rfl ?_; refine S_val E (pk_assign rfl rfl) rfl rfl rfl ?_; clear E a; intro a E; refine hK49 _ _ ?_; refine wp_ret ?_
                repeat (first | refine then_ret ?_ | refine block_ret ?_)
                refine ret2 rfl E (by exact resC (n := 4) H 2 rfl rfl rfl (by kernel_rfl)) (resT rfl) ?_
                have hns : ns.length = tos.length := by omega
                have hnm : ns.map Prod.fst = lettersV nx tos text := by rw [hφ.2, hns, show tos.length = (lettersV nx tos text).length by simp [lettersV], List.take_length]
                have hP : postV ⟨ep, log, wait, nx⟩ text tos = (⟨ep, log, wait ++ lettersV nx tos text, nx + (tos.length : Int)⟩, 0) := by
                  unfold postV; rw [if_neg (show ¬(okS ⟨ep, log, wait, nx⟩ = false ∨ tos.any farB = true) by rw [hok, hfar]; simp)]; rw [if_neg hk0]; rw [if_neg hold]; rw [if_neg hfull]; rw [if_neg hcm, if_neg hcm]
                obtain ⟨wm2, HW⟩ := (H.at_ 0 _ rfl).freezeL (xs := wait ++ lettersV nx tos text) rfl (by simp) (by rw [List.map_append, hes, hnm])
                obtain ⟨lm2, HL⟩ := (HW.at_ 0 _ rfl).freezeL (xs := log) rfl (by simp) (by exact hds)
                have e1 : ds.length = (log).length := by rw [← hds, List.length_map]
                have e2 : (es ++ ns).length = (wait ++ lettersV nx tos text).length := by rw [← hes, ← hnm, ← List.map_append, List.length_map]
                rw [hP]
                refine ⟨LA9, lc9, lm2, gA, gc, wm2, ?_, HL.keepLR (L := []) (R := [_, _])⟩
                rw [e1, e2, hns]
end Go.Proofs.Yteefhbpmeajbfaa
namespace Go.Proofs.Yteefhbpmeajbfaa
set_option linter.unusedSimpArgs false
set_option linter.unusedVariables false
open Go.RowKit
attribute [local irreducible] beL beK
/-- A reader that lies in block g; what it reads lies below it. -/
structure RdrAt (w : World) (B g : Nat) (A : Option Addr) (n c : Nat) (s : Rs) : Prop where
  row : w.heap[g]? = some (.cells #[.slice A n c, .bool s.ov] 130 (0, 0))
  low : B ≤ g
  txt : Txt w B A n c s.l
  cap : n ≤ c
  len : n ≤ 140737488355328
  byt : Byt s.l
def Rdr (w : World) (B g : Nat) (s : Rs) : Prop := ∃ A n c, RdrAt w B g A n c s
section
variable {w w' : World} {B g q n c : Nat} {A : Option Addr} {s s' : Rs}
theorem RdrAt.c0 (h : RdrAt w B g A n c s) : w.cell? ⟨g, 0, none⟩ = some (.slice A n c) := by rw [cell_of_row _ _ _ _ _ _ h.row]; rfl
theorem RdrAt.c1 (h : RdrAt w B g A n c s) : w.cell? ⟨g, 1, none⟩ = some (.bool s.ov) := by rw [cell_of_row _ _ _ _ _ _ h.row]; rfl
theorem RdrAt.free (h : RdrAt w B g A n c s) (i : Nat) : w.frozen? ⟨g, i, none⟩ = false := frozen_of_row w g i _ _ h.row
theorem RdrAt.after (h : RdrAt w B g A n c s) (hb : Below w.heap.size w w') : RdrAt w' B g A n c s :=
  ⟨(hb.block g (lt_of_block h.row)).trans h.row, h.low, h.txt.below' hb (Nat.le_trans h.low (Nat.le_of_lt (lt_of_block h.row))), h.cap, h.len, h.byt⟩
theorem Rdr.after (h : Rdr w B g s) (hb : Below w.heap.size w w') : Rdr w' B g s := let ⟨A, n, c, k⟩ := h; ⟨A, n, c, k.after hb⟩
theorem Rdr.lt (h : Rdr w B g s) : g < w.heap.size := let ⟨_, _, _, k⟩ := h; lt_of_block k.row
theorem Rdr.low (h : Rdr w B g s) : B ≤ g := let ⟨_, _, _, k⟩ := h; k.low
theorem RdrAt.over (h : RdrAt w B g A n c s) : RdrAt (w.setCell ⟨g, 1, none⟩ (.bool true)) B g A n c ⟨s.l, true⟩ :=
  ⟨by rw [heap_setCell_same w g 1 _ _ _ h.row]; rfl, h.low, h.txt.keep fun p hp => ((Below.refl B w).setCell (p := ⟨g, 1, none⟩) h.low _).cell hp, h.cap, h.len, h.byt⟩
theorem RdrAt.moved (h : RdrAt w B g A n c s) (hs : s.ov = false) {k : Nat} (hk : k ≤ n) : RdrAt (w.setCell ⟨g, 0, none⟩ (.slice (cutA A k c) (n - k) (c - k))) B g (cutA A k c) (n - k) (c - k) ⟨s.l.drop k, false⟩ :=
  ⟨by rw [heap_setCell_same w g 0 _ _ _ h.row, hs]; rfl, h.low, (h.txt.from h.cap hk).keep fun p hp => ((Below.refl B w).setCell (p := ⟨g, 0, none⟩) h.low _).cell hp, by have := h.cap; omega, by have := h.len; omega, byt_drop h.byt k⟩
theorem Rdr.setAt (h : Rdr w B g s) (hq : q ≠ g) (hB : B ≤ q) (i : Nat) (v : Value) : Rdr (w.setCell ⟨q, i, none⟩ v) B g s := by
  obtain ⟨A, n, c, k⟩ := h
  exact ⟨A, n, c, (heap_setCell_other _ _ _ _ (show g ≠ q from fun e => hq e.symm)).trans k.row, k.low, k.txt.keep fun p hp => ((Below.refl B w).setCell (p := ⟨q, i, none⟩) hB _).cell hp, k.cap, k.len, k.byt⟩
theorem Rdr.butAt (h : Rdr w B g s) (k : But q w w') (hq : q ≠ g) (hB : B ≤ q) : Rdr w' B g s := by
  obtain ⟨A, n, c, e⟩ := h
  have hl := lt_of_block e.row
  have hlo := e.low
  exact ⟨A, n, c, (k.block g hl (fun e => hq e.symm)).trans e.row, hlo, e.txt.keep fun p hp => (k.below (B := B) hB (by omega)).cell hp, e.cap, e.len, e.byt⟩
theorem Rdr.own {base sz : Nat} {e : TypeId} {v : Value} {xs : List Value} (h : But g w w') (he : Rdr w B g s) (hr : w.ownsRow base e sz v n xs) (hne : e ≠ 130) : w'.ownsRow base e sz v n xs := by
  obtain ⟨_, _, _, k⟩ := he
  exact h.row hr k.row hne
theorem Rdr.lt1 {v : Nat} (h : Rdr w B g s) (hE : numP 1 s = (v, s')) : v < 256 := by
  obtain ⟨_, _, _, k⟩ := h
  have := numP_lt (k := 1) k.byt
  rw [hE] at this
  exact this
theorem Rdr.lt2 {v : Nat} (h : Rdr w B g s) (hE : numP 2 s = (v, s')) : v < 65536 := by
  obtain ⟨_, _, _, k⟩ := h
  have := numP_lt (k := 2) k.byt
  rw [hE] at this
  exact this
theorem Rdr.lt4 {v : Nat} (h : Rdr w B g s) (hE : numP 4 s = (v, s')) : v < 4294967296 := by
  obtain ⟨_, _, _, k⟩ := h
  have := numP_lt (k := 4) k.byt
  rw [hE] at this
  exact this
theorem Rdr.lt8 {v : Nat} (h : Rdr w B g s) (hE : numP 8 s = (v, s')) : v < 18446744073709551616 := by
  obtain ⟨_, _, _, k⟩ := h
  have := numP_lt (k := 8) k.byt
  rw [hE] at this
  exact this
end
def RCutPost (B g : Nat) (w : World) (p : List Nat × Rs) (e : Ending) (w' : World) : Prop := ∃ A c, e = .returned (.slice A p.1.length c) ∧ Own w' w.heap.size 5 (.slice A p.1.length c) p.1 ∧ Rdr w' B g p.2 ∧ But g w w'
set_option maxRecDepth 100000 in
set_option maxHeartbeats 2000000 in
theorem rdCut (k : Nat) (hk : k ≤ 9223372036854775807) {B : Nat} (g : Nat) (s : Rs) (w : World) (h : Rdr w B g s) :
    Calls Try.prog 91 #[.pointer (some ⟨g, 0, none⟩), .int .i64 k] w (RCutPost B g w (cutP k s)) := by
  obtain ⟨A, n, c, h⟩ := h
  have c0 := h.c0
  have c1 := h.c1
  have f0 := h.free 0
  have f1 := h.free 1
  have H := Lib.hid h
  have hlen := h.txt.len
  have hn1 := h.len
  have hcap := h.cap
  clear h
  by_cases hno : s.ov = true ∨ s.l.length < k
  · rw [cutP_no hno]
    have fin : ∀ x, RdrAt x B g A n c ⟨s.l, true⟩ → But g w x → RCutPost B g w ([], ⟨s.l, true⟩) (.returned (.slice none 0 0)) x := fun x hx hb => ⟨none, 0, rfl, Own.nil_, ⟨_, _, _, hx⟩, hb⟩
    cases hs : s.ov with
    | true =>
      rw [hs] at c1
      clear hno
      go_enter Try.func91, Try.ntmps91
      go_wp2
      go_ret
      exact fin _ H.out.over ((But.refl _ _).set 1 _)
    | false =>
      rw [hs] at c1
      have hlt : n < k := by
        rcases hno with h | h
        · rw [hs] at h; cases h
        · omega
      clear hno
      go_enter Try.func91, Try.ntmps91
      go_wp2
      go_ret
      exact fin _ H.out.over ((But.refl _ _).set 1 _)
  · have hs : s.ov = false := by cases h : s.ov with | false => rfl | true => exact absurd (.inl h) hno
    have hkn : k ≤ n := by rcases Nat.lt_or_ge s.l.length k with h | h; exact absurd (.inr h) hno; omega
    rw [cutP_yes hs (by omega)]
    rw [hs] at c1
    clear hno
    have hgl := lt_of_block H.out.row
    go_enter Try.func91, Try.ntmps91
    go_wp2_with (first | (refine wpList_val_w rfl (run_op_cut_h (hi := k) BT rfl rfl rfl (by omega)) ?_) | (go_at_call 53; fail))
    refine (Copy_any A k c (s.l.take k) _ ((H.out.txt.take H.out.cap hkn).more (by have := H.out.low; omega)) (by omega)).mono ?_
    rintro e w1 ⟨v, rfl, ho, hb⟩
    have hl : (s.l.take k).length = k := by rw [List.length_take]; omega
    obtain ⟨A1, cc1, hv⟩ := ho.slice
    rw [hl] at hv
    subst hv
    have H1 := Lib.hid (H.out.after hb)
    have HO := Lib.hid ho
    clear ho c0 c1 f0 f1
    have c0 := H1.out.c0
    have c1 := H1.out.c1
    have f0 := H1.out.free 0
    have fin : ∀ x, RdrAt x B g (cutA A k c) (n - k) (c - k) ⟨s.l.drop k, false⟩ → x = w1.setCell ⟨g, 0, none⟩ (.slice (cutA A k c) (n - k) (c - k)) → RCutPost B g w (s.l.take k, ⟨s.l.drop k, false⟩) (.returned (.slice A1 k cc1)) x := fun x hx hw => by
      subst hw
      refine ⟨A1, cc1, by dsimp only; rw [hl], by dsimp only; rw [hl]; exact HO.out.setCell (fun k' hk' => by have := (HO.out.lt k' hk').1; show k' ≠ g; omega) _, ⟨_, _, _, hx⟩, (But.of_below hb).set 0 _⟩
    go_wp2_with (refine wpList_val_w rfl (run_op_cut_l BT rfl rfl rfl (by omega)) ?_)
    · have hcW := h
      go_ret
      have M := H1.out.moved hs (k := k) (by omega)
      unfold cutA at M fin
      rw [if_pos hcW, hcW, Nat.sub_self] at M
      rw [if_pos hcW, hcW, Nat.sub_self] at fin
      exact fin _ M rfl
    · have hcW := h
      go_ret
      have M := H1.out.moved hs (k := k) (by omega)
      unfold cutA at M fin
      rw [if_neg hcW] at M
      rw [if_neg hcW] at fin
      exact fin _ M rfl
theorem rd_fill (g : Nat → Int) (y : Nat) (v : Int) (i : Nat) (hv : v = g y) : upd (fun x => if x < y then g x else 0) y v i = if i < y + 1 then g i else 0 := by
  unfold upd
  by_cases h : i = y
  · subst h; rw [if_pos rfl, if_pos (by omega)]; exact hv
  · rw [if_neg h]
    show (if i < y then g i else 0) = _
    by_cases h2 : i < y
    · rw [if_pos h2, if_pos (by omega)]
    · rw [if_neg h2, if_neg (by omega)]
theorem rdCutE {B g k : Nat} {s s' : Rs} {l : List Nat} {w : World} (hk : k ≤ 9223372036854775807) (h : Rdr w B g s) (hE : cutP k s = (l, s')) :
    Calls Try.prog 91 #[.pointer (some ⟨g, 0, none⟩), .int .i64 k] w (RCutPost B g w (l, s')) := by
  have := rdCut k hk g s w h
  rw [hE] at this
  exact this
theorem rdCut32 {B g : Nat} {s s' : Rs} {l : List Nat} {w : World} (h : Rdr w B g s) (hE : cutP 32 s = (l, s')) :
    Calls Try.prog 91 #[.pointer (some ⟨g, 0, none⟩), .int .i64 32] w (RCutPost B g w (l, s')) := rdCutE (k := 32) (by omega) h hE
set_option maxRecDepth 100000 in
set_option maxHeartbeats 2000000 in
theorem rdNum (W : Nat) (h8 : W ≤ 8) {B : Nat} (g : Nat) (s : Rs) (w : World) (h : Rdr w B g s) :
    Calls Try.prog 88 #[.pointer (some ⟨g, 0, none⟩), .int .i64 W] w fun e w' => e = .returned (.int .u64 (((numP W s).1 : Nat) : Int)) ∧ Rdr w' B g (numP W s).2 ∧ But g w w' := by
  have hbs : Byt (cutP W s).1 := by
    obtain ⟨_, _, _, k⟩ := h
    unfold cutP
    split
    · intro x hx; cases hx
    · exact byt_take k.byt W
  have hcl := cutP_len W s
  show Calls _ _ _ _ fun e w' => e = .returned (.int .u64 ((beV (cutP W s).1 : Nat) : Int)) ∧ Rdr w' B g (cutP W s).2 ∧ But g w w'
  obtain ⟨l, s1, E⟩ := pair_of (cutP W s)
  rw [E] at hbs hcl ⊢
  dsimp only at hbs hcl ⊢
  have HBt := Lib.hid hbs
  clear hbs
  go_enter Try.func88, Try.ntmps88
  go_wp2_with (go_at_call 91; (with_reducible refine (rdCutE (by omega) h E).mono ?_); rintro e w1 ⟨A1, c1, rfl, ho, he, hb⟩)
  have HO := Lib.hid ho.text
  have HE := Lib.hid he
  have hl8 : l.length ≤ 8 := by omega
  clear ho he h hcl
  go_loopg [5, 12] l.length (fun k x i wr => ∃ m : Nat, m + k = l.length ∧ i = .int .i64 m ∧ x = .int .u64 ((beV (l.take m) : Nat) : Int) ∧ wr = w1)
  case atStart => exact ⟨0, by omega, rfl, rfl, rfl⟩
  case round =>
    obtain ⟨m, hm, rfl, rfl, rfl⟩ := hrel
    by_cases hlt : m < l.length
    · obtain ⟨ad, rfl, hbk, hc2⟩ := HO.out.cell hlt
      have hv : beV (l.take m) < 72057594037927936 := by
        have h := beV_small (k := 7) (byt_take HBt.out m) (by rw [List.length_take]; omega)
        exact h
      have hx : l.getD m 0 < 256 := by
        rw [List.getD_eq_getElem?_getD, List.getElem?_eq_getElem (by omega)]
        exact HBt.out _ (List.getElem_mem _)
      have e2 : beV (l.take (m + 1)) = 256 * beV (l.take m) + l.getD m 0 := by rw [take_snoc l m (by omega), beV_snoc]
      have E2 := Lib.hid e2
      clear e2
      generalize beV (l.take m) = v at *
      generalize l.getD m 0 = x at *
      replace hc2 : _ = some (Value.int .u8 (x : Int)) := hc2
      have hv' : (v : Int) < 72057594037927936 := by omega
      go_wp2
      go_roundg (gk - 1)
      case measure => omega
      case rel =>
        refine ⟨m + 1, by omega, by go_num, ?_, rfl⟩
        rw [E2.out]
        go_num
    · obtain rfl : m = l.length := by omega
      rw [List.take_length]
      go_wp2
      go_ret
      exact ⟨rfl, HE.out, hb⟩
theorem rdNum1 {B g v : Nat} {s s' : Rs} {w : World} (h : Rdr w B g s) (hE : numP 1 s = (v, s')) :
    Calls Try.prog 88 #[.pointer (some ⟨g, 0, none⟩), .int .i64 1] w fun e w' => e = .returned (.int .u64 (v : Int)) ∧ Rdr w' B g s' ∧ But g w w' := by
  have := rdNum 1 (by omega) g s w h
  rw [hE] at this
  exact this
theorem rdNum2 {B g v : Nat} {s s' : Rs} {w : World} (h : Rdr w B g s) (hE : numP 2 s = (v, s')) :
    Calls Try.prog 88 #[.pointer (some ⟨g, 0, none⟩), .int .i64 2] w fun e w' => e = .returned (.int .u64 (v : Int)) ∧ Rdr w' B g s' ∧ But g w w' := by
  have := rdNum 2 (by omega) g s w h
  rw [hE] at this
  exact this
theorem rdNum4 {B g v : Nat} {s s' : Rs} {w : World} (h : Rdr w B g s) (hE : numP 4 s = (v, s')) :
    Calls Try.prog 88 #[.pointer (some ⟨g, 0, none⟩), .int .i64 4] w fun e w' => e = .returned (.int .u64 (v : Int)) ∧ Rdr w' B g s' ∧ But g w w' := by
  have := rdNum 4 (by omega) g s w h
  rw [hE] at this
  exact this
theorem rdNum8 {B g v : Nat} {s s' : Rs} {w : World} (h : Rdr w B g s) (hE : numP 8 s = (v, s')) :
    Calls Try.prog 88 #[.pointer (some ⟨g, 0, none⟩), .int .i64 8] w fun e w' => e = .returned (.int .u64 (v : Int)) ∧ Rdr w' B g s' ∧ But g w w' := by
  have := rdNum 8 (by omega) g s w h
  rw [hE] at this
  exact this
set_option maxRecDepth 100000 in
set_option maxHeartbeats 2000000 in
theorem rdKey {B : Nat} (g : Nat) (s : Rs) (w : World) (h : Rdr w B g s) :
    Calls Try.prog 109 #[.pointer (some ⟨g, 0, none⟩)] w fun e w' => e = .returned (.agg (arr .u8 32 fun i => (((keyP s).1 i : Nat) : Int))) ∧ Rdr w' B g (keyP s).2 ∧ But g w w' := by
  have hcl := cutP_len 32 s
  show Calls _ _ _ _ fun e w' => e = .returned (.agg (arr .u8 32 fun i => (((cutP 32 s).1.getD i 0 : Nat) : Int))) ∧ Rdr w' B g (cutP 32 s).2 ∧ But g w w'
  obtain ⟨l, s1, E⟩ := pair_of (cutP 32 s)
  rw [E] at hcl ⊢
  dsimp only at hcl ⊢
  have hgl := h.lt
  have hB := h.low
  go_enter Try.func109, Try.ntmps109
  obtain ⟨q2, q3, hz, hb⟩ := alloc2 w (.cells (arr .u8 32 fun _ => 0) 36) (.cells (arr .u8 32 fun _ => 0) 36)
  replace h := h.after hb
  go_upto_region 2 with (refine wpList_alloc_arr rfl rfl ZTKey ?_)
  refine wp_cut (fun x => x.heap[w.heap.size]? = some (.cells (arr .u8 32 fun _ => 0) 36 (0, 0)) ∧ x.heap[w.heap.size + 1]? = some (.cells (arr .u8 32 fun _ => 0) 36 (0, 0)) ∧ Rdr x B g s ∧ But g w x ∧ x.heap.size = w.heap.size + 1 + 1) ⟨q2, q3, h, But.of_below hb, by simp⟩ ?_
  clear q2 q3 h hz hb
  rintro w0 ⟨q2, q3, h, hb, hz⟩
  (try simp only [Act.put, List.setIfInBounds_toArray, List.set_cons_zero, List.set_cons_succ])
  go_wp2_with (go_at_call 91; (with_reducible refine (rdCut32 h E).mono ?_); rintro e w1 ⟨A1, c1, rfl, ho, he, hb1⟩)
  replace q2 := hb1.keep q2 (by omega)
  replace q3 := hb1.keep q3 (by omega)
  have HO := Lib.hid (ho.mono (show w.heap.size + 2 ≤ w0.heap.size by omega))
  have HC := Lib.hid hcl
  have hl9 : l.length ≤ 32 := by omega
  have hb2 := hb.trans hb1
  clear ho h hcl hb hb1 hz
  go_loopg [9] l.length (fun k i wr => ∃ m : Nat, m + k = l.length ∧ i = .int .i64 m ∧ wr.heap[w.heap.size]? = some (.cells (arr .u8 32 fun _ => 0) 36 (0, 0)) ∧ wr.heap[w.heap.size + 1]? = some (.cells (arr .u8 32 fun i => if i < m then ((l.getD i 0 : Nat) : Int) else 0) 36 (0, 0)) ∧ Rdr wr B g s1 ∧ But g w wr ∧ Own wr (w.heap.size + 2) 5 (.slice A1 l.length c1) l)
  case atStart => exact ⟨0, by omega, rfl, q2, blk_congr q3 (fun i _ => by rw [if_neg (by omega)]), he, hb2, HO.out⟩
  case round =>
    clear q2 q3 he hb2 HO
    obtain ⟨m, hm, rfl, q2, q3, he, hb2, ho⟩ := hrel
    have HM := Lib.hid hm
    have HO := Lib.hid ho
    clear hm ho
    by_cases hlt : m < l.length
    · obtain ⟨ad, rfl, hbk, hc2⟩ := HO.out.text.cell hlt
      replace hc2 : _ = some (Value.int .u8 ((l.getD m 0 : Nat) : Int)) := hc2
      have c3 := cell_arr q3 m (by omega)
      have fz := free_arr q3 m
      go_wp2
      go_roundg (gk - 1)
      case measure => have := HM.out; omega
      case rel =>
        have hM := HM.out
        refine ⟨m + 1, by omega, by go_num, keep_arr q2 _ _ (by omega), blk_congr (set_arr q3 m _) (fun i _ => rd_fill (fun i => ((l.getD i 0 : Nat) : Int)) _ _ i (by first | rfl | (rw [List.getD_eq_getElem?_getD, List.getElem?_eq_getElem hlt]; rfl))), he.setAt (by omega) (by omega) _ _, hb2.setNew (by omega) _ _, HO.out.setCell (p := ⟨w.heap.size + 1, m, none⟩) (fun k hk => by have := (HO.out.lt k hk).1; show k ≠ w.heap.size + 1; omega) _⟩
    · obtain rfl : m = l.length := by have := HM.out; omega
      have q4 := blk_congr (f' := fun i => ((l.getD i 0 : Nat) : Int)) q3 (fun i hi => by
        by_cases h : i < l.length
        · rw [if_pos h]
        · rw [if_neg h, List.getD_eq_getElem?_getD, List.getElem?_eq_none (by omega)]; rfl)
      clear q3
      go_wp2_with (first | (refine wpList_load_arr rfl rfl rfl RTKey q4 ?_) | (refine wpList_store_arr rfl rfl rfl rfl RTKey q2 ?_))
      refine bodyPost_ret (results_arr rfl rfl RTKey (row_self q2)) rfl ⟨rfl, he.butAt (But.row1 _) (by omega) (by omega), hb2.newRow (Nat.le_refl _)⟩
theorem rdKeyE {B : Nat} {g : Nat} {k : Nat → Nat} {s s' : Rs} {w : World} (h : Rdr w B g s) (hE : keyP s = (k, s')) :
    Calls Try.prog 109 #[.pointer (some ⟨g, 0, none⟩)] w fun e w' => e = .returned (.agg (arr .u8 32 fun i => ((k i : Nat) : Int))) ∧ Rdr w' B g s' ∧ But g w w' := by
  have := rdKey g s w h
  rw [hE] at this
  exact this
end Go.Proofs.Yteefhbpmeajbfaa
