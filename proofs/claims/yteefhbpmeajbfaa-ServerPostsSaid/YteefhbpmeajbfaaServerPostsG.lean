/- The walks of layer 22's reference. The walks of layer 22's reference: whether a server may be; texts are posted, letters taken, put back, doubled; the first one. The walks of layer 22's reference: a text is posted, a letter taken; whether there are few enough. The walks of layer 22's reference: a letter is taken; whether there are few enough. What layer 22's laws share: a commit that is written; its example. The law ServerTakes: whatever the server, the number and the letter, it answers true. -/
import Derived.Test.YteefhbpmeajbfaaServerPostsF
import Derived.WalkKit
import Derived.WalkSpells
import Derived.WalkLawsBesides
import Derived.Deep.QuietTactic
import Derived.BigQuiet
import Derived.StillTailTactics
import Derived.Lib.Hide
import Derived.Deep.LoopGhost
import Derived.Outline
import Derived.Deep.DeepFit
import Derived.Deep.RegionHeld3
import Derived.Deep.RegionLaw
import Derived.OrdersHeld
import Derived.Laws.StructEq
import Derived.Maps.AppendAt
import Derived.Deep.AppendLies
import Derived.Deep.Draws
import Derived.Laws.OwnMore
import Derived.Laws.AppendOwnNone
import Derived.OwnWalk
import Derived.Below
import Derived.Deep.Cut
import Derived.Deep.CutBlock
import Derived.Deep.CutRange
import Derived.DataElems
import Derived.Great.BuildSlice
import Derived.Laws.Entries
import Derived.Laws.Tables
import Derived.SizedLaws
import Derived.Lib.SliceRun
import Derived.Laws.Small
import Derived.Great.Walk
import Derived.Test.YteefhbpmeajbfaaRows
import Derived.Laws.IdiomStrings
import Derived.Lib.Tables
import Derived.Lib.BitFns
import Derived.Laws.Bits64b
namespace Go.Proofs.Yteefhbpmeajbfaa
set_option linter.unusedSimpArgs false
set_option linter.unusedVariables false
open Go.RowKit
attribute [local irreducible] farB oddB cmV wlV frV
section
variable {X : List Nat} {w0 w' : World} {A : Option Addr} {c n : Nat} {l : List Nat}
theorem rreadCommit_sep (hn : l.length ≤ 4000) (hX : ∀ k ∈ X, k < w0.heap.size) (h : St (TxF A c l) w0 X) :
    Calls Try.prog 55 #[.slice A l.length c] w0 fun e w' => ∃ a : At, e = .returned (.tuple #[.agg (ca (comC (comOf (cmV l).1 a) (cmV l).1.tag)), .int .i64 (cmV l).2]) ∧ ComOk w' w'.heap.size (comOf (cmV l).1 a) ∧ Sep X [] w0 w' [] [] := by
  refine (RReadCommit_any A l.length c l w0 h.now.src (.inl hn)).mono ?_
  rintro e w' ⟨a, rfl, ho, hb⟩
  exact ⟨a, by rw [comC_eq], ho, sep_below hX hb⟩
theorem rreadWelcome_sep (hX : ∀ k ∈ X, k < w0.heap.size) (h : St (TxF A c l) w0 X) :
    Calls Try.prog 56 #[.slice A l.length c] w0 fun e w' => ∃ (A' : Nat → Option Addr) (c' : Nat → Nat), e = .returned (.tuple #[.agg (ca (wlC (wlV l).1 A' c')), .int .i64 (wlV l).2]) ∧ Sep X [] w0 w' [] [] := by
  refine (RReadWelcome_any A l.length c l w0 h.now.src).mono ?_
  rintro e w' ⟨A', c', rfl, ho, hb⟩
  exact ⟨A', c', by rw [wlC_eq], sep_below hX hb⟩
theorem rreadFrame_sep (hX : ∀ k ∈ X, k < w0.heap.size) (h : St (TxF A c l) w0 X) :
    Calls Try.prog 57 #[.slice A l.length c] w0 fun e w' => ∃ A' c', e = .returned (.tuple #[.agg (ca (frC (frV l).1 A' c')), .int .i64 (frV l).2]) ∧ Sep X [] w0 w' [] [] := by
  refine (RReadFrame_any A l.length c l w0 h.now.src).mono ?_
  rintro e w' ⟨A', c', rfl, ho, hb⟩
  exact ⟨A', c', by rw [frC_eq], sep_below hX hb⟩
end
set_option maxRecDepth 100000 in
set_option maxHeartbeats 4000000 in
theorem RSameLetter_any {x1 x2 y1 y2 : Int} {xA yA : Option Addr} {xc yc : Nat} {xt yt : List Nat} {X : List Nat} {w0 : World} (hX : ∀ k ∈ X, k < w0.heap.size) (hx : St (TxF xA xc xt) w0 X) (hy : St (TxF yA yc yt) w0 X) :
    Calls Try.prog 26 #[.agg (ca [.one (.int .i64 x1), .one (.int .i64 x2), .one (.slice xA xt.length xc)]), .agg (ca [.one (.int .i64 y1), .one (.int .i64 y2), .one (.slice yA yt.length yc)])] w0 fun e w' => e = .returned (.bool (decide ((⟨x1, x2, xt⟩ : Ltr) = ⟨y1, y2, yt⟩))) ∧ Sep X [] w0 w' [] [] := by
  refine calls_env Try.ntmps26 Try.func26 rfl rfl fun a E => ?_; replace E : Env a _ [(0, _), (1, _)] := E
  have H : Sep X [] w0 w0 [] [(TxF xA xc xt), (TxF yA yc yt)] := Sep.start hX (List.forall_mem_cons.2 ⟨hx, List.forall_mem_cons.2 ⟨hy, fun _ h => by cases h⟩⟩)
  refine wp_seq_k fun K0 hK0 => ?_; refine S_region ?_; refine S_eff E rfl (fun K hK => ?_); refine eff_box E H rfl rfl rfl ?_; clear H; intro b2 w H _; refine hK _ _ ?_; clear hK K; refine S_put E rfl rfl ?_; clear E a; intro a E; refine S_eff E rfl (fun K hK => ?_); refine eff_box E H rfl rfl rfl ?_; clear H; intro b3 w H _; refine hK _ _ ?_; clear hK K; refine S_put E rfl rfl ?_; clear E a; intro a E; refine S_val E (pk_assign rfl rfl) rfl rfl rfl ?_; clear E a; intro a E; refine hK0 _ _ ?_; refine wp_seq_k fun K1 hK1 => ?_; refine S_region ?_; refine S_val E (pk_fieldAddr (off := 0) rfl rfl (by kernel_rfl)) rfl rfl rfl ?_; clear E a; intro a E; refine S_val E (pk_load1 H 1 rfl rfl rfl trivial rfl (by kernel_rfl)) rfl rfl rfl ?_; clear E a; intro a E; refine S_val E (pk_fieldAddr (off := 0) rfl rfl (by kernel_rfl)) rfl rfl rfl ?_; clear E a; intro a E
  refine S_val E (pk_load1 H 0 rfl rfl rfl trivial rfl (by kernel_rfl)) rfl rfl rfl ?_; clear E a; intro a E; refine S_val E (pk_int rfl rfl rfl rfl) rfl rfl rfl ?_; clear E a; intro a E; refine S_val E (pk_move rfl rfl) rfl rfl rfl ?_; clear E a; intro a E; refine env_split (d := 10) E rfl ?_ ?_
  · skip
    clear E; intro c10 E; refine S_val E (pk_fieldAddr (off := 1) rfl rfl (by kernel_rfl)) rfl rfl rfl ?_; clear E a; intro a E; refine S_val E (pk_load1 H 1 rfl rfl rfl trivial rfl (by kernel_rfl)) rfl rfl rfl ?_; clear E a; intro a E; refine S_val E (pk_fieldAddr (off := 1) rfl rfl (by kernel_rfl)) rfl rfl rfl ?_; clear E a; intro a E; refine S_val E (pk_load1 H 0 rfl rfl rfl trivial rfl (by kernel_rfl)) rfl rfl rfl ?_; clear E a; intro a E; refine S_val E (pk_int rfl rfl rfl rfl) rfl rfl rfl ?_; clear E a; intro a E; refine S_val E (pk_pick rfl rfl rfl) rfl rfl rfl ?_; clear E a; intro a E; refine S_val E (pk_move rfl rfl) rfl rfl rfl ?_; clear E a; intro a E; refine env_split (d := 17) E rfl ?_ ?_
    · skip
      clear E; intro c17 E; refine S_val E (pk_fieldAddr (off := 2) rfl rfl (by kernel_rfl)) rfl rfl rfl ?_; clear E a; intro a E; refine S_val E (pk_load1 H 1 rfl rfl rfl trivial rfl (by kernel_rfl)) rfl rfl rfl ?_; clear E a; intro a E; refine S_val E (pk_fieldAddr (off := 2) rfl rfl (by kernel_rfl)) rfl rfl rfl ?_; clear E a; intro a E; refine S_val E (pk_load1 H 0 rfl rfl rfl trivial rfl (by kernel_rfl)) rfl rfl rfl ?_; clear E a; intro a E; refine S_eff E rfl (fun K hK => ?_); refine eff_call E rfl rfl rfl (by kernel_rfl) ?_; refine (same_sep H.xk (H.fact 0 rfl) (H.fact 1 rfl)).mono ?_; rintro e w ⟨rfl, rfl⟩; refine hK _ _ ?_; clear hK K; refine S_put E rfl rfl ?_; clear E a; intro a E; refine S_val E (pk_pick rfl rfl rfl) rfl rfl rfl ?_; clear E a; intro a E; refine S_val E (pk_assign rfl rfl) rfl rfl rfl ?_; clear E a; intro a E; refine hK1 _ _ ?_; refine wp_ret ?_
      repeat (first | refine then_ret ?_ | refine block_ret ?_)
      refine ret1 rfl E (resT rfl) ?_; refine ⟨?_, H.keepLR (L := []) (R := [])⟩
      rw [ltr_eq]
      simp_all
    · skip
      clear E; intro c17 E; refine S_skip E rfl rfl rfl ?_; clear E a; intro a E; refine S_skip E rfl rfl rfl ?_; clear E a; intro a E; refine S_skip E rfl rfl rfl ?_; clear E a; intro a E; refine S_skip E rfl rfl rfl ?_; clear E a; intro a E; refine S_skip E rfl rfl rfl ?_; clear E a; intro a E; refine S_val E (pk_pick rfl rfl rfl) rfl rfl rfl ?_; clear E a; intro a E; refine S_val E (pk_assign rfl rfl) rfl rfl rfl ?_; clear E a; intro a E; refine hK1 _ _ ?_; refine wp_ret ?_
      repeat (first | refine then_ret ?_ | refine block_ret ?_)
      refine ret1 rfl E (resT rfl) ?_; refine ⟨?_, H.keepLR (L := []) (R := [])⟩
      rw [ltr_eq]
      simp_all
  · skip
    clear E; intro c10 E; refine S_skip E rfl rfl rfl ?_; clear E a; intro a E; refine S_skip E rfl rfl rfl ?_; clear E a; intro a E; refine S_skip E rfl rfl rfl ?_; clear E a; intro a E; refine S_skip E rfl rfl rfl ?_; clear E a; intro a E; refine S_skip E rfl rfl rfl ?_; clear E a; intro a E; refine S_val E (pk_pick rfl rfl rfl) rfl rfl rfl ?_; clear E a; intro a E; refine S_val E (pk_move rfl rfl) rfl rfl rfl ?_; clear E a; intro a E; refine S_skip E rfl rfl rfl ?_; clear E a; intro a E; refine S_skip E rfl rfl rfl ?_; clear E a; intro a E; refine S_skip E rfl rfl rfl ?_; clear E a; intro a E; refine S_skip E rfl rfl rfl ?_; clear E a; intro a E; refine S_skip E rfl rfl rfl ?_; clear E a; intro a E; refine S_val E (pk_pick rfl rfl rfl) rfl rfl rfl ?_; clear E a; intro a E; refine S_val E (pk_assign rfl rfl) rfl rfl rfl ?_; clear E a; intro a E; refine hK1 _ _ ?_; refine wp_ret ?_
    repeat (first | refine then_ret ?_ | refine block_ret ?_)
    refine ret1 rfl E (resT rfl) ?_; refine ⟨?_, H.keepLR (L := []) (R := [])⟩
    rw [ltr_eq]
    simp_all
set_option maxRecDepth 100000 in
set_option maxHeartbeats 4000000 in
theorem RSameAll_any {LA LB : Option Addr} {lc ld : Nat} {xs ys : List (List Nat)} {lm ln : Nat → TextT.μ} {X : List Nat} {w0 : World} (hX : ∀ k ∈ X, k < w0.heap.size) (hL : St (LiF TextT LA lc xs lm) w0 X) (hM : St (LiF TextT LB ld ys ln) w0 X) :
    Calls Try.prog 14 #[.slice LA xs.length lc, .slice LB ys.length ld] w0 fun e w' => e = .returned (.bool (decide (xs = ys))) ∧ Sep X [] w0 w' [] [] := by
  have hLb := hL.now.big
  have hMb := hM.now.big
  refine calls_env Try.ntmps14 Try.func14 rfl rfl fun a E => ?_; replace E : Env a _ [(0, _), (1, _)] := E
  have H : Sep X [] w0 w0 [] [(LiF TextT LA lc xs lm), (LiF TextT LB ld ys ln)] := Sep.start hX (List.forall_mem_cons.2 ⟨hL, List.forall_mem_cons.2 ⟨hM, fun _ h => by cases h⟩⟩)
  refine wp_seq_k fun K0 hK0 => ?_; refine S_region ?_; refine S_val E (pk_assign rfl rfl) rfl rfl rfl ?_; clear E a; intro a E; refine hK0 _ _ ?_; refine wp_seq_k fun K1 hK1 => ?_; refine wp_seq_k fun K2 hK2 => ?_; refine S_region ?_; refine S_val E (pk_move rfl rfl) rfl rfl rfl ?_; clear E a; intro a E; refine S_val E (pk_len rfl rfl (by kernel_rfl)) rfl rfl rfl ?_; clear E a; intro a E; refine S_val E (pk_move rfl rfl) rfl rfl rfl ?_; clear E a; intro a E; refine S_val E (pk_len rfl rfl (by kernel_rfl)) rfl rfl rfl ?_; clear E a; intro a E; refine S_val E (pk_int rfl rfl rfl rfl) rfl rfl rfl ?_; clear E a; intro a E; refine hK2 _ _ ?_; refine env_split (d := 10) E rfl ?_ ?_
  · skip
    clear E; intro c10 E
    have hne : xs ≠ ys := fun h => by
      have := congrArg List.length h
      simp only [bne_iff_ne, ne_eq] at c10
      omega
    refine S_then E rfl ?_; refine wp_seq_k fun K3 hK3 => ?_; refine S_region ?_; refine S_val E (pk_assign rfl rfl) rfl rfl rfl ?_; clear E a; intro a E; refine hK3 _ _ ?_; refine wp_ret ?_
    repeat (first | refine then_ret ?_ | refine block_ret ?_)
    refine ret1 rfl E (resT rfl) ?_
    exact ⟨by rw [decide_eq_false hne], H.keepLR (L := []) (R := [])⟩
  · skip
    clear E; intro c10 E
    have hlen : xs.length = ys.length := by
      simp only [bne_eq_false_iff_eq] at c10
      omega
    refine S_else E rfl ?_; refine wp_skip ?_; refine hK1 _ _ ?_; refine wp_seq_k fun K4 hK4 => ?_; refine wp_seq_k fun K5 hK5 => ?_; refine S_region ?_; refine S_val E (pk_move rfl rfl) rfl rfl rfl ?_; clear E a; intro a E; refine S_val E (pk_len rfl rfl (by kernel_rfl)) rfl rfl rfl ?_; clear E a; intro a E; refine S_val E (pk_move rfl rfl) rfl rfl rfl ?_; clear E a; intro a E; refine hK5 _ _ ?_; refine wp_block ?_; refine S_loopK (γ := Nat) [0, 1, 12] (fun k => [(13, .int .i64 (k : Int))]) (fun k => k ≤ xs.length ∧ ∀ (i : Nat) x y, i < k → xs[i]? = some x → ys[i]? = some y → x = y) (fun k => xs.length - k) (0) E H (by repeat (first | exact trivial | refine ⟨rfl, ?_⟩)) (⟨Nat.zero_le _, fun i x y hi => absurd hi (Nat.not_lt_zero _)⟩) ?_; clear E H; intro k a w E H hφ; replace E : Env a _ [(13, _), (0, _), (1, _), (12, _)] := E; replace H : Sep _ _ _ _ [] [_, _] := H
    refine wp_seq_k fun K6 hK6 => ?_; refine S_region ?_; refine S_val E (pk_int rfl rfl rfl rfl) rfl rfl rfl ?_; clear E a; intro a E; refine hK6 _ _ ?_; refine wp_seq_k fun K7 hK7 => ?_; refine env_split (d := 14) E rfl ?_ ?_
    · skip
      clear E; intro c14 E
      have hk : k < xs.length := by simpa using c14
      have hx0 : xs[k]? = some xs[k] := List.getElem?_eq_getElem hk
      have hy0 : ys[k]? = some (ys[k]'(by omega)) := List.getElem?_eq_getElem (by omega)
      refine S_then E rfl ?_; refine wp_skip ?_; refine hK7 _ _ ?_; refine wp_seq_k fun K8 hK8 => ?_; refine wp_block ?_; refine wp_seq_k fun K9 hK9 => ?_; refine S_region ?_; refine S_val E (pk_move rfl rfl) rfl rfl rfl ?_; clear E a; intro a E; refine S_val E (pk_assign rfl rfl) rfl rfl rfl ?_; clear E a; intro a E; refine hK9 _ _ ?_; refine wp_seq_k fun K10 hK10 => ?_; refine C_region E H [] 8 [(0, false), (1, false), (2, false), (3, false), (4, false), (5, false), (6, false), (7, false)] (by kernel_rfl) (by kernel_rfl) (fun w HS => ?_)
      (simp only [canOps, List.getElem?_cons_zero, List.getElem?_cons_succ, List.drop_succ_cons, List.drop_zero])
      clear H
      have H := HS
      have hsz : w.heap.size ≤ w.heap.size := Nat.le_refl _
      have HK : CanB.Keep (fun k => k < w.heap.size ∧ k ∉ []) w w := CanB.Keep.refl _ _
      refine C_val E HK (pk_move rfl rfl) rfl rfl rfl (fun _ _ _ _ h => h) ?_; clear E a; intro a E; refine C_val E HK (pk_move rfl rfl) rfl rfl rfl (fun _ _ _ _ h => h) ?_; clear E a; intro a E
      obtain ⟨ad18, hA18, hc18, hn18⟩ := LiF.get (A := LA) (T := TextT) (i := k) (x := xs[k]) (by exact HS.fact 0 rfl) hx0
      refine C_val E HK (pk_elA (sz := 1) hA18 rfl (by kernel_rfl) rfl rfl rfl (by omega)) rfl rfl rfl (fun _ _ _ _ h => h) ?_; clear E a; intro a E; refine C_val E HK (pk_loadE1 hc18 (fun k h _ => ⟨h, by simp⟩) rfl rfl rfl (by kernel_rfl)) rfl rfl rfl (fun _ _ _ _ h => h) ?_; clear E a; intro a E; refine C_val E HK (pk_move rfl rfl) rfl rfl rfl (fun _ _ _ _ h => h) ?_; clear E a; intro a E; refine C_val E HK (pk_move rfl rfl) rfl rfl rfl (fun _ _ _ _ h => h) ?_; clear E a; intro a E
      obtain ⟨ad22, hA22, hc22, hn22⟩ := LiF.get (A := LB) (T := TextT) (i := k) (x := ys[k]'(by omega)) (by exact HS.fact 1 rfl) hy0
      refine C_val E HK (pk_elA (sz := 1) hA22 rfl (by kernel_rfl) rfl rfl rfl (by omega)) rfl rfl rfl (fun _ _ _ _ h => h) ?_; clear E a; intro a E; refine C_val E HK (pk_loadE1 hc22 (fun k h _ => ⟨h, by simp⟩) rfl rfl rfl (by kernel_rfl)) rfl rfl rfl (fun _ _ _ _ h => h) ?_; clear E a; intro a E; refine CanB.wpCan_nil ?_
      try (simp only [List.take_succ_cons, List.take_zero, List.drop_succ_cons, List.drop_zero])
      clear HS HK hsz; refine S_eff E rfl (fun K hK => ?_); refine eff_call E rfl rfl rfl (by kernel_rfl) ?_; refine (same_sep H.xk hn18 hn22).mono ?_; rintro e w ⟨rfl, rfl⟩; refine hK _ _ ?_; clear hK K; refine S_put E rfl rfl ?_; clear E a; intro a E; refine S_val E (pk_not rfl rfl) rfl rfl rfl ?_; clear E a; intro a E; refine hK10 _ _ ?_; refine env_split (d := 25) E rfl ?_ ?_
      · skip
        clear E; intro c25 E
        have hd : xs[k] ≠ ys[k]'(by omega) := by simpa using c25
        refine S_then E rfl ?_; refine wp_seq_k fun K11 hK11 => ?_; refine S_region ?_; refine S_val E (pk_assign rfl rfl) rfl rfl rfl ?_; clear E a; intro a E; refine hK11 _ _ ?_; refine wp_ret ?_
        repeat (first | refine then_ret ?_ | refine block_ret ?_)
        refine ret1 rfl E (resT rfl) ?_
        exact ⟨by rw [decide_eq_false fun h : xs = ys => hd (by subst h; rfl)], H.keepLR (L := []) (R := [])⟩
      · skip
        clear E; intro c25 E
        have hd : xs[k] = ys[k]'(by omega) := by simpa using c25
        refine S_else E rfl ?_; refine wp_skip ?_; refine hK8 _ _ ?_; refine S_region ?_; refine S_val E (pk_intw rfl rfl rfl rfl (wI64 (by omega) (by omega))) rfl rfl rfl ?_; clear E a; intro a E; refine S_val E (pk_move rfl rfl) rfl rfl rfl ?_; clear E a; intro a E; refine loop_end ?_
        exact ⟨k + 1, ⟨E.to (by repeat (first | exact trivial | refine ⟨rfl, ?_⟩)), H, ⟨by omega, fun i x y hi hx hy => by rcases Nat.lt_succ_iff_lt_or_eq.1 hi with h | h; exact hφ.2 i x y h hx hy; subst h; rw [hx0] at hx; rw [hy0] at hy; obtain rfl := Option.some.inj hx; obtain rfl := Option.some.inj hy; exact hd⟩⟩, by omega⟩
    · skip
      clear E; intro c14 E
      have hk : ¬ k < xs.length := by simpa using c14
      refine S_else E rfl ?_; refine wp_exit ?_
      repeat (first | refine then_exit ?_ | refine block_hit ?_ | refine block_miss (by decide) ?_)
      refine hK4 _ _ ?_; refine wp_seq_k fun K12 hK12 => ?_; refine S_region ?_; refine S_val E (pk_assign rfl rfl) rfl rfl rfl ?_; clear E a; intro a E; refine hK12 _ _ ?_; refine wp_ret ?_
      repeat (first | refine then_ret ?_ | refine block_ret ?_)
      refine ret1 rfl E (resT rfl) ?_
      exact ⟨by rw [decide_eq_true (list_same hlen fun i x y hx hy => hφ.2 i x y (by have := (List.getElem?_eq_some_iff.1 hx).1; omega) hx hy)], H.keepLR (L := []) (R := [])⟩
set_option maxRecDepth 100000 in
set_option maxHeartbeats 4000000 in
theorem RSame_any {ep nx : Int} {LA WA : Option Addr} {lc wc : Nat} {log : List (List Nat)} {wait : List Ltr} {lm : Nat → TextT.μ} {wm : Nat → LtrT.μ} {ep2 nx2 : Int} {LA2 WA2 : Option Addr} {lc2 wc2 : Nat} {log2 : List (List Nat)} {wait2 : List Ltr} {lm2 : Nat → TextT.μ} {wm2 : Nat → LtrT.μ} {X : List Nat} {w0 : World} (hX : ∀ k ∈ X, k < w0.heap.size) (hL : St (LiF TextT LA lc log lm) w0 X) (hW : St (LiF LtrT WA wc wait wm) w0 X) (hL2 : St (LiF TextT LA2 lc2 log2 lm2) w0 X) (hW2 : St (LiF LtrT WA2 wc2 wait2 wm2) w0 X) :
    Calls Try.prog 19 #[.agg (ca [.one (.int .u64 ep), .one (.slice LA log.length lc), .one (.slice WA wait.length wc), .one (.int .i64 nx)]), .agg (ca [.one (.int .u64 ep2), .one (.slice LA2 log2.length lc2), .one (.slice WA2 wait2.length wc2), .one (.int .i64 nx2)])] w0 fun e w' => e = .returned (.bool (sameB ⟨ep, log, wait, nx⟩ ⟨ep2, log2, wait2, nx2⟩)) ∧ Sep X [] w0 w' [] [] := by
  have hWb := hW.now.big
  have hW2b := hW2.now.big
  refine calls_env Try.ntmps19 Try.func19 rfl rfl fun a E => ?_; replace E : Env a _ [(0, _), (1, _)] := E
  have H : Sep X [] w0 w0 [] [(LiF TextT LA lc log lm), (LiF LtrT WA wc wait wm), (LiF TextT LA2 lc2 log2 lm2), (LiF LtrT WA2 wc2 wait2 wm2)] := Sep.start hX (List.forall_mem_cons.2 ⟨hL, List.forall_mem_cons.2 ⟨hW, List.forall_mem_cons.2 ⟨hL2, List.forall_mem_cons.2 ⟨hW2, fun _ h => by cases h⟩⟩⟩⟩)
  refine wp_seq_k fun K0 hK0 => ?_; refine S_region ?_; refine S_eff E rfl (fun K hK => ?_); refine eff_box E H rfl rfl rfl ?_; clear H; intro b2 w H _; refine hK _ _ ?_; clear hK K; refine S_put E rfl rfl ?_; clear E a; intro a E; refine S_eff E rfl (fun K hK => ?_); refine eff_box E H rfl rfl rfl ?_; clear H; intro b3 w H _; refine hK _ _ ?_; clear hK K; refine S_put E rfl rfl ?_; clear E a; intro a E; refine S_val E (pk_assign rfl rfl) rfl rfl rfl ?_; clear E a; intro a E; refine hK0 _ _ ?_; refine wp_seq_k fun K1 hK1 => ?_; refine wp_seq_k fun K2 hK2 => ?_; refine S_region ?_; refine S_val E (pk_fieldAddr (off := 0) rfl rfl (by kernel_rfl)) rfl rfl rfl ?_; clear E a; intro a E; refine S_val E (pk_load1 H 1 rfl rfl rfl trivial rfl (by kernel_rfl)) rfl rfl rfl ?_; clear E a; intro a E; refine S_val E (pk_fieldAddr (off := 0) rfl rfl (by kernel_rfl)) rfl rfl rfl ?_; clear E a; intro a E
  refine S_val E (pk_load1 H 0 rfl rfl rfl trivial rfl (by kernel_rfl)) rfl rfl rfl ?_; clear E a; intro a E; refine S_val E (pk_int rfl rfl rfl rfl) rfl rfl rfl ?_; clear E a; intro a E; refine S_val E (pk_move rfl rfl) rfl rfl rfl ?_; clear E a; intro a E; refine env_split (d := 11) E rfl ?_ ?_
  · skip
    clear E; intro c11 E
    have hne : sameB ⟨ep, log, wait, nx⟩ ⟨ep2, log2, wait2, nx2⟩ = false := by simp_all [sameB]
    refine S_skip E rfl rfl rfl ?_; clear E a; intro a E; refine S_skip E rfl rfl rfl ?_; clear E a; intro a E; refine S_skip E rfl rfl rfl ?_; clear E a; intro a E; refine S_skip E rfl rfl rfl ?_; clear E a; intro a E; refine S_skip E rfl rfl rfl ?_; clear E a; intro a E; refine S_val E (pk_pick rfl rfl rfl) rfl rfl rfl ?_; clear E a; intro a E; refine S_val E (pk_move rfl rfl) rfl rfl rfl ?_; clear E a; intro a E; refine S_skip E rfl rfl rfl ?_; clear E a; intro a E; refine S_skip E rfl rfl rfl ?_; clear E a; intro a E; refine S_skip E rfl rfl rfl ?_; clear E a; intro a E; refine S_skip E rfl rfl rfl ?_; clear E a; intro a E; refine S_skip E rfl rfl rfl ?_; clear E a; intro a E; refine S_skip E rfl rfl rfl ?_; clear E a; intro a E; refine S_val E (pk_pick rfl rfl rfl) rfl rfl rfl ?_; clear E a; intro a E; refine S_val E (pk_move rfl rfl) rfl rfl rfl ?_; clear E a; intro a E
    refine S_skip E rfl rfl rfl ?_; clear E a; intro a E; refine S_skip E rfl rfl rfl ?_; clear E a; intro a E; refine S_skip E rfl rfl rfl ?_; clear E a; intro a E; refine S_skip E rfl rfl rfl ?_; clear E a; intro a E; refine S_skip E rfl rfl rfl ?_; clear E a; intro a E; refine S_skip E rfl rfl rfl ?_; clear E a; intro a E; refine S_skip E rfl rfl rfl ?_; clear E a; intro a E; refine S_val E (pk_pick rfl rfl rfl) rfl rfl rfl ?_; clear E a; intro a E; refine hK2 _ _ ?_; refine S_then E rfl ?_; refine wp_seq_k fun K3 hK3 => ?_; refine S_region ?_; refine S_val E (pk_assign rfl rfl) rfl rfl rfl ?_; clear E a; intro a E; refine hK3 _ _ ?_; refine wp_ret ?_
    repeat (first | refine then_ret ?_ | refine block_ret ?_)
    refine ret1 rfl E (resT rfl) ?_
    exact ⟨by rw [hne], H.keepLR (L := []) (R := [])⟩
  · skip
    clear E; intro c11 E
    have q1 : ep = ep2 := by simpa using c11
    refine S_val E (pk_fieldAddr (off := 3) rfl rfl (by kernel_rfl)) rfl rfl rfl ?_; clear E a; intro a E; refine S_val E (pk_load1 H 1 rfl rfl rfl trivial rfl (by kernel_rfl)) rfl rfl rfl ?_; clear E a; intro a E; refine S_val E (pk_fieldAddr (off := 3) rfl rfl (by kernel_rfl)) rfl rfl rfl ?_; clear E a; intro a E; refine S_val E (pk_load1 H 0 rfl rfl rfl trivial rfl (by kernel_rfl)) rfl rfl rfl ?_; clear E a; intro a E; refine S_val E (pk_int rfl rfl rfl rfl) rfl rfl rfl ?_; clear E a; intro a E; refine S_val E (pk_pick rfl rfl rfl) rfl rfl rfl ?_; clear E a; intro a E; refine S_val E (pk_move rfl rfl) rfl rfl rfl ?_; clear E a; intro a E; refine env_split (d := 18) E rfl ?_ ?_
    · skip
      clear E; intro c18 E
      have hne : sameB ⟨ep, log, wait, nx⟩ ⟨ep2, log2, wait2, nx2⟩ = false := by simp_all [sameB]
      refine S_skip E rfl rfl rfl ?_; clear E a; intro a E; refine S_skip E rfl rfl rfl ?_; clear E a; intro a E; refine S_skip E rfl rfl rfl ?_; clear E a; intro a E; refine S_skip E rfl rfl rfl ?_; clear E a; intro a E; refine S_skip E rfl rfl rfl ?_; clear E a; intro a E; refine S_skip E rfl rfl rfl ?_; clear E a; intro a E; refine S_val E (pk_pick rfl rfl rfl) rfl rfl rfl ?_; clear E a; intro a E; refine S_val E (pk_move rfl rfl) rfl rfl rfl ?_; clear E a; intro a E; refine S_skip E rfl rfl rfl ?_; clear E a; intro a E; refine S_skip E rfl rfl rfl ?_; clear E a; intro a E; refine S_skip E rfl rfl rfl ?_; clear E a; intro a E; refine S_skip E rfl rfl rfl ?_; clear E a; intro a E; refine S_skip E rfl rfl rfl ?_; clear E a; intro a E; refine S_skip E rfl rfl rfl ?_; clear E a; intro a E; refine S_skip E rfl rfl rfl ?_; clear E a; intro a E
      refine S_val E (pk_pick rfl rfl rfl) rfl rfl rfl ?_; clear E a; intro a E; refine hK2 _ _ ?_; refine S_then E rfl ?_; refine wp_seq_k fun K4 hK4 => ?_; refine S_region ?_; refine S_val E (pk_assign rfl rfl) rfl rfl rfl ?_; clear E a; intro a E; refine hK4 _ _ ?_; refine wp_ret ?_
      repeat (first | refine then_ret ?_ | refine block_ret ?_)
      refine ret1 rfl E (resT rfl) ?_
      exact ⟨by rw [hne], H.keepLR (L := []) (R := [])⟩
    · skip
      clear E; intro c18 E
      have q2 : nx = nx2 := by simpa using c18
      refine S_val E (pk_fieldAddr (off := 1) rfl rfl (by kernel_rfl)) rfl rfl rfl ?_; clear E a; intro a E; refine S_val E (pk_load1 H 1 rfl rfl rfl trivial rfl (by kernel_rfl)) rfl rfl rfl ?_; clear E a; intro a E; refine S_val E (pk_fieldAddr (off := 1) rfl rfl (by kernel_rfl)) rfl rfl rfl ?_; clear E a; intro a E; refine S_val E (pk_load1 H 0 rfl rfl rfl trivial rfl (by kernel_rfl)) rfl rfl rfl ?_; clear E a; intro a E; refine S_eff E rfl (fun K hK => ?_); refine eff_call E rfl rfl rfl (by kernel_rfl) ?_; refine (RSameAll_any H.xk (H.fact 0 rfl) (H.fact 2 rfl)).mono ?_; rintro e w ⟨rfl, H1⟩
      replace H := H.call H1
      clear H1; replace H : Sep _ _ _ _ [_, _] [_, _, _, _] := H; refine hK _ _ ?_; clear hK K; refine S_put E rfl rfl ?_; clear E a; intro a E; refine S_val E (pk_not rfl rfl) rfl rfl rfl ?_; clear E a; intro a E; refine S_val E (pk_pick rfl rfl rfl) rfl rfl rfl ?_; clear E a; intro a E; refine S_val E (pk_move rfl rfl) rfl rfl rfl ?_; clear E a; intro a E; refine env_split (d := 26) E rfl ?_ ?_
      · skip
        clear E; intro c26 E
        have hne : sameB ⟨ep, log, wait, nx⟩ ⟨ep2, log2, wait2, nx2⟩ = false := by simp_all [sameB]
        refine S_skip E rfl rfl rfl ?_; clear E a; intro a E; refine S_skip E rfl rfl rfl ?_; clear E a; intro a E; refine S_skip E rfl rfl rfl ?_; clear E a; intro a E; refine S_skip E rfl rfl rfl ?_; clear E a; intro a E; refine S_skip E rfl rfl rfl ?_; clear E a; intro a E; refine S_skip E rfl rfl rfl ?_; clear E a; intro a E; refine S_skip E rfl rfl rfl ?_; clear E a; intro a E; refine S_val E (pk_pick rfl rfl rfl) rfl rfl rfl ?_; clear E a; intro a E; refine hK2 _ _ ?_; refine S_then E rfl ?_; refine wp_seq_k fun K5 hK5 => ?_; refine S_region ?_; refine S_val E (pk_assign rfl rfl) rfl rfl rfl ?_; clear E a; intro a E; refine hK5 _ _ ?_; refine wp_ret ?_
        repeat (first | refine then_ret ?_ | refine block_ret ?_)
        refine ret1 rfl E (resT rfl) ?_
        exact ⟨by rw [hne], H.keepLR (L := []) (R := [])⟩
      · skip
        clear E; intro c26 E
        have q3 : log = log2 := by simpa using c26
        refine S_val E (pk_fieldAddr (off := 2) rfl rfl (by kernel_rfl)) rfl rfl rfl ?_; clear E a; intro a E; refine S_val E (pk_load1 H 1 rfl rfl rfl trivial rfl (by kernel_rfl)) rfl rfl rfl ?_; clear E a; intro a E; refine S_val E (pk_len rfl rfl (by kernel_rfl)) rfl rfl rfl ?_; clear E a; intro a E; refine S_val E (pk_fieldAddr (off := 2) rfl rfl (by kernel_rfl)) rfl rfl rfl ?_; clear E a; intro a E; refine S_val E (pk_load1 H 0 rfl rfl rfl trivial rfl (by kernel_rfl)) rfl rfl rfl ?_; clear E a; intro a E; refine S_val E (pk_len rfl rfl (by kernel_rfl)) rfl rfl rfl ?_; clear E a; intro a E; refine S_val E (pk_int rfl rfl rfl rfl) rfl rfl rfl ?_; clear E a; intro a E; refine S_val E (pk_pick rfl rfl rfl) rfl rfl rfl ?_; clear E a; intro a E; refine hK2 _ _ ?_; refine env_split (d := 34) E rfl ?_ ?_
        · skip
          clear E; intro c34 E
          have hne : sameB ⟨ep, log, wait, nx⟩ ⟨ep2, log2, wait2, nx2⟩ = false := by
            have : wait ≠ wait2 := fun h => by
              have := congrArg List.length h
              simp only [bne_iff_ne, ne_eq] at c34
              omega
            unfold sameB
            exact decide_eq_false fun h => this h.2.2.2
          refine S_then E rfl ?_; refine wp_seq_k fun K6 hK6 => ?_; refine S_region ?_; refine S_val E (pk_assign rfl rfl) rfl rfl rfl ?_; clear E a; intro a E; refine hK6 _ _ ?_; refine wp_ret ?_
          repeat (first | refine then_ret ?_ | refine block_ret ?_)
          refine ret1 rfl E (resT rfl) ?_
          exact ⟨by rw [hne], H.keepLR (L := []) (R := [])⟩
        · skip
          clear E; intro c34 E
          have hlen : wait.length = wait2.length := by
            simp only [bne_eq_false_iff_eq] at c34
            omega
          refine S_else E rfl ?_; refine wp_skip ?_; refine hK1 _ _ ?_; refine wp_seq_k fun K7 hK7 => ?_; refine wp_seq_k fun K8 hK8 => ?_; refine S_region ?_; refine S_val E (pk_fieldAddr (off := 2) rfl rfl (by kernel_rfl)) rfl rfl rfl ?_; clear E a; intro a E; refine S_val E (pk_load1 H 1 rfl rfl rfl trivial rfl (by kernel_rfl)) rfl rfl rfl ?_; clear E a; intro a E; refine S_val E (pk_len rfl rfl (by kernel_rfl)) rfl rfl rfl ?_; clear E a; intro a E; refine S_val E (pk_move rfl rfl) rfl rfl rfl ?_; clear E a; intro a E; refine hK8 _ _ ?_; refine wp_block ?_; refine S_loopK (γ := Nat) [2, 3, 37] (fun k => [(38, .int .i64 (k : Int))]) (fun k => k ≤ wait.length ∧ ∀ (i : Nat) x y, i < k → wait[i]? = some x → wait2[i]? = some y → x = y) (fun k => wait.length - k) (0) E H (by repeat (first | exact trivial | refine ⟨rfl, ?_⟩)) (⟨Nat.zero_le _, fun i x y hi => absurd hi (Nat.not_lt_zero _)⟩) ?_
          clear E H; intro k a w E H hφ; replace E : Env a _ [(38, _), (2, _), (3, _), (37, _)] := E; replace H : Sep _ _ _ _ [_, _] [_, _, _, _] := H; refine wp_seq_k fun K9 hK9 => ?_; refine S_region ?_; refine S_val E (pk_int rfl rfl rfl rfl) rfl rfl rfl ?_; clear E a; intro a E; refine hK9 _ _ ?_; refine wp_seq_k fun K10 hK10 => ?_; refine env_split (d := 39) E rfl ?_ ?_
          · skip
            clear E; intro c39 E
            have hk : k < wait.length := by simpa using c39
            have hx0 : wait[k]? = some wait[k] := List.getElem?_eq_getElem hk
            have hy0 : wait2[k]? = some (wait2[k]'(by omega)) := List.getElem?_eq_getElem (by omega)
            refine S_then E rfl ?_; refine wp_skip ?_; refine hK10 _ _ ?_; refine wp_seq_k fun K11 hK11 => ?_; refine wp_block ?_; refine wp_seq_k fun K12 hK12 => ?_; refine S_region ?_; refine S_val E (pk_move rfl rfl) rfl rfl rfl ?_; clear E a; intro a E; refine S_val E (pk_assign rfl rfl) rfl rfl rfl ?_; clear E a; intro a E; refine hK12 _ _ ?_; refine wp_seq_k fun K13 hK13 => ?_; refine C_region E H [] 10 [(0, false), (1, false), (2, false), (3, false), (4, false), (5, false), (6, false), (7, false), (8, false), (9, false)] (by kernel_rfl) (by kernel_rfl) (fun w HS => ?_)
            (simp only [canOps, List.getElem?_cons_zero, List.getElem?_cons_succ, List.drop_succ_cons, List.drop_zero])
            clear H
            have H := HS
            have hsz : w.heap.size ≤ w.heap.size := Nat.le_refl _
            have HK : CanB.Keep (fun k => k < w.heap.size ∧ k ∉ []) w w := CanB.Keep.refl _ _
            refine C_val E HK (pk_fieldAddr (off := 2) rfl rfl (by kernel_rfl)) rfl rfl rfl (fun _ _ _ _ h => h) ?_; clear E a; intro a E; refine C_val E HK (pk_load1 HS 1 rfl rfl rfl (HS.inS 1 rfl (by simp)) rfl (by kernel_rfl)) rfl rfl rfl (fun _ _ _ _ h => h) ?_; clear E a; intro a E; refine C_val E HK (pk_move rfl rfl) rfl rfl rfl (fun _ _ _ _ h => h) ?_; clear E a; intro a E
            obtain ⟨ad44, hA44, hc44, hn44⟩ := LiF.get (A := WA) (T := LtrT) (i := k) (x := wait[k]) (by exact HS.fact 1 rfl) hx0
            refine C_val E HK (pk_elA (sz := 3) hA44 rfl (by kernel_rfl) rfl rfl rfl (by omega)) rfl rfl rfl (fun _ _ _ _ h => h) ?_; clear E a; intro a E; refine C_val E HK (pk_loadE (n := 3) hc44 (fun k h _ => ⟨h, by simp⟩) rfl rfl rfl (by kernel_rfl)) rfl rfl rfl (fun _ _ _ _ h => h) ?_; clear E a; intro a E; refine C_val E HK (pk_fieldAddr (off := 2) rfl rfl (by kernel_rfl)) rfl rfl rfl (fun _ _ _ _ h => h) ?_; clear E a; intro a E; refine C_val E HK (pk_load1 HS 0 rfl rfl rfl (HS.inS 0 rfl (by simp)) rfl (by kernel_rfl)) rfl rfl rfl (fun _ _ _ _ h => h) ?_; clear E a; intro a E; refine C_val E HK (pk_move rfl rfl) rfl rfl rfl (fun _ _ _ _ h => h) ?_; clear E a; intro a E
            obtain ⟨ad49, hA49, hc49, hn49⟩ := LiF.get (A := WA2) (T := LtrT) (i := k) (x := wait2[k]'(by omega)) (by exact HS.fact 3 rfl) hy0
            refine C_val E HK (pk_elA (sz := 3) hA49 rfl (by kernel_rfl) rfl rfl rfl (by omega)) rfl rfl rfl (fun _ _ _ _ h => h) ?_; clear E a; intro a E; refine C_val E HK (pk_loadE (n := 3) hc49 (fun k h _ => ⟨h, by simp⟩) rfl rfl rfl (by kernel_rfl)) rfl rfl rfl (fun _ _ _ _ h => h) ?_; clear E a; intro a E; refine CanB.wpCan_nil ?_
            try (simp only [List.take_succ_cons, List.take_zero, List.drop_succ_cons, List.drop_zero])
            clear HS HK hsz; refine S_eff E rfl (fun K hK => ?_); refine eff_call E rfl rfl rfl (by kernel_rfl) ?_; refine (RSameLetter_any H.xk hn44 hn49).mono ?_; rintro e w ⟨rfl, H1⟩
            replace H := H.call H1
            clear H1; replace H : Sep _ _ _ _ [_, _] [_, _, _, _] := H; refine hK _ _ ?_; clear hK K; refine S_put E rfl rfl ?_; clear E a; intro a E; refine S_val E (pk_not rfl rfl) rfl rfl rfl ?_; clear E a; intro a E; refine hK13 _ _ ?_; refine env_split (d := 52) E rfl ?_ ?_
            · skip
              clear E; intro c52 E
              have hd : wait[k] ≠ wait2[k]'(by omega) := by
                rw [Bool.not_eq_true', decide_eq_false_iff_not] at c52
                exact c52
              refine S_then E rfl ?_; refine wp_seq_k fun K14 hK14 => ?_; refine S_region ?_; refine S_val E (pk_assign rfl rfl) rfl rfl rfl ?_; clear E a; intro a E; refine hK14 _ _ ?_; refine wp_ret ?_
              repeat (first | refine then_ret ?_ | refine block_ret ?_)
              refine ret1 rfl E (resT rfl) ?_
              exact ⟨by rw [show sameB ⟨ep, log, wait, nx⟩ ⟨ep2, log2, wait2, nx2⟩ = false from decide_eq_false fun h => hd (by have h4 : wait = wait2 := h.2.2.2; subst h4; rfl)], H.keepLR (L := []) (R := [])⟩
            · skip
              clear E; intro c52 E
              have hd : wait[k] = wait2[k]'(by omega) := by
                rw [Bool.not_eq_false', decide_eq_true_eq] at c52
                exact c52
              refine S_else E rfl ?_; refine wp_skip ?_; refine hK11 _ _ ?_; refine S_region ?_; refine S_val E (pk_intw rfl rfl rfl rfl (wI64 (by omega) (by omega))) rfl rfl rfl ?_; clear E a; intro a E; refine S_val E (pk_move rfl rfl) rfl rfl rfl ?_; clear E a; intro a E; refine loop_end ?_
              exact ⟨k + 1, ⟨E.to (by repeat (first | exact trivial | refine ⟨rfl, ?_⟩)), H, ⟨by omega, fun i x y hi hx hy => by rcases Nat.lt_succ_iff_lt_or_eq.1 hi with h | h; exact hφ.2 i x y h hx hy; subst h; rw [hx0] at hx; rw [hy0] at hy; obtain rfl := Option.some.inj hx; obtain rfl := Option.some.inj hy; exact hd⟩⟩, by omega⟩
          · skip
            clear E; intro c39 E
            have hk : ¬ k < wait.length := by simpa using c39
            refine S_else E rfl ?_; refine wp_exit ?_
            repeat (first | refine then_exit ?_ | refine block_hit ?_ | refine block_miss (by decide) ?_)
            refine hK7 _ _ ?_; refine wp_seq_k fun K15 hK15 => ?_; refine S_region ?_; refine S_val E (pk_assign rfl rfl) rfl rfl rfl ?_; clear E a; intro a E; refine hK15 _ _ ?_; refine wp_ret ?_
            repeat (first | refine then_ret ?_ | refine block_ret ?_)
            refine ret1 rfl E (resT rfl) ?_
            exact ⟨by rw [show sameB ⟨ep, log, wait, nx⟩ ⟨ep2, log2, wait2, nx2⟩ = true from decide_eq_true ⟨q1, q2, q3, list_same hlen fun i x y hx hy => hφ.2 i x y (by have : i < wait.length := (List.getElem?_eq_some_iff.1 hx).1; omega) hx hy⟩], H.keepLR (L := []) (R := [])⟩
set_option maxRecDepth 100000 in
set_option maxHeartbeats 4000000 in
theorem RCopy_any {ep nx : Int} {LA WA : Option Addr} {lc wc : Nat} {log : List (List Nat)} {wait : List Ltr} {lm : Nat → TextT.μ} {wm : Nat → LtrT.μ} (hl1 : log.length ≤ 1000000) (hl2 : wait.length ≤ 1000000) {X : List Nat} {w0 : World} (hX : ∀ k ∈ X, k < w0.heap.size) (hL : St (LiF TextT LA lc log lm) w0 X) (hW : St (LiF LtrT WA wc wait wm) w0 X) :
    Calls Try.prog 17 #[.agg (ca [.one (.int .u64 ep), .one (.slice LA log.length lc), .one (.slice WA wait.length wc), .one (.int .i64 nx)])] w0 fun e w' => ∃ LA' lc' WA' wc' ds es, ds.map Prod.fst = log ∧ es.map Prod.fst = wait ∧ e = .returned (.agg (ca [.one (.int .u64 ep), .one (.slice LA' ds.length lc'), .one (.slice WA' es.length wc'), .one (.int .i64 nx)])) ∧ Sep X [] w0 w' [.row (.slice WA' es.length wc') 49 3 es.length (rowC LtrT (es)), .row (.slice LA' ds.length lc') 23 1 ds.length (rowC TextT (ds))] [NestF LtrT es, NestF TextT ds] := by
  refine calls_env Try.ntmps17 Try.func17 rfl rfl fun a E => ?_; replace E : Env a _ [(0, _)] := E
  have H : Sep X [] w0 w0 [] [(LiF TextT LA lc log lm), (LiF LtrT WA wc wait wm)] := Sep.start hX (List.forall_mem_cons.2 ⟨hL, List.forall_mem_cons.2 ⟨hW, fun _ h => by cases h⟩⟩)
  refine wp_seq_k fun K0 hK0 => ?_; refine S_region ?_; refine S_eff E rfl (fun K hK => ?_); refine eff_box E H rfl rfl rfl ?_; clear H; intro b1 w H _; refine hK _ _ ?_; clear hK K; refine S_put E rfl rfl ?_; clear E a; intro a E; refine S_eff E rfl (fun K hK => ?_); refine eff_alloc (z := [.one (.int .u64 0), .one (.slice none 0 0), .one (.slice none 0 0), .one (.int .i64 0)]) H rfl (by kernel_rfl) ?_; clear H; intro b2 w H _; refine hK _ _ ?_; clear hK K; refine S_put E rfl rfl ?_; clear E a; intro a E; refine hK0 _ _ ?_; refine wp_seq_k fun K1 hK1 => ?_; refine S_region ?_; refine S_val E (pk_fieldAddr (off := 1) rfl rfl (by kernel_rfl)) rfl rfl rfl ?_; clear E a; intro a E; refine S_val E (pk_load1 H 1 rfl rfl rfl trivial rfl (by kernel_rfl)) rfl rfl rfl ?_; clear E a; intro a E; refine S_val E (pk_assign rfl rfl) rfl rfl rfl ?_; clear E a; intro a E; refine hK1 _ _ ?_
  refine wp_seq_k fun K2 hK2 => ?_; refine S_region ?_; refine S_val E (pk_fieldAddr (off := 1) rfl rfl (by kernel_rfl)) rfl rfl rfl ?_; clear E a; intro a E; refine S_eff E rfl (fun K hK => ?_); refine eff_store 1 (new := [.one _]) E H rfl rfl rfl rfl rfl (by repeat (first | exact trivial | refine ⟨rfl, ?_⟩ | refine ⟨fun _ _ => rfl, ?_⟩)) rfl (by kernel_rfl) rfl ?_; clear H; intro w H _; replace H : Sep _ _ _ _ [_, _] _ := H; refine hK _ _ ?_; clear hK K; refine S_put0 rfl ?_; refine hK2 _ _ ?_; refine wp_seq_k fun K3 hK3 => ?_; refine wp_seq_k fun K4 hK4 => ?_; refine S_region ?_; refine S_val E (pk_move rfl rfl) rfl rfl rfl ?_; clear E a; intro a E; refine S_val E (pk_len rfl rfl (by kernel_rfl)) rfl rfl rfl ?_; clear E a; intro a E; refine S_val E (pk_move rfl rfl) rfl rfl rfl ?_; clear E a; intro a E; refine hK4 _ _ ?_; refine wp_block ?_
  refine S_loopI (γ := Option Addr × Nat × List (List Nat × TextT.μ)) [1, 2, 12, 13] (fun g => [(14, .int .i64 (g.2.2.length : Int))]) (fun g => [.row (.slice g.1 g.2.2.length g.2.1) 23 1 g.2.2.length (rowC TextT (g.2.2)), .blk b2 (ca [.one (.int .u64 0), .one (.slice none 0 0), .one (.slice none 0 0), .one (.int .i64 0)]) 30, .blk b1 (ca [.one (.int .u64 ep), .one (.slice g.1 g.2.2.length g.2.1), .one (.slice WA wait.length wc), .one (.int .i64 nx)]) 30]) (fun g => [NestF TextT g.2.2, LiF TextT LA lc log lm, LiF LtrT WA wc wait wm]) (fun g => g.2.2.length ≤ log.length ∧ g.2.2.map Prod.fst = log.take g.2.2.length) (fun g => log.length - g.2.2.length) ((none, 0, [])) E ((H.rownil _ _).know nest_nil) (by repeat (first | exact trivial | refine ⟨rfl, ?_⟩)) (⟨Nat.zero_le _, rfl⟩) ?_; clear E H; intro g a w E H hφ
  replace E : Env a _ [(14, _), (1, _), (2, _), (12, _), (13, _)] := E; replace H : Sep _ _ _ _ [_, _, _] [_, _, _] := H; refine wp_seq_k fun K5 hK5 => ?_; refine S_region ?_; refine S_val E (pk_int rfl rfl rfl rfl) rfl rfl rfl ?_; clear E a; intro a E; refine hK5 _ _ ?_; refine wp_seq_k fun K6 hK6 => ?_; refine env_split (d := 15) E rfl ?_ ?_
  · skip
    clear E; intro c15 E
    have hk : g.2.2.length < log.length := by simpa using c15
    have hx0 : log[g.2.2.length]? = some log[g.2.2.length] := List.getElem?_eq_getElem hk
    refine S_then E rfl ?_; refine wp_skip ?_; refine hK6 _ _ ?_; refine wp_seq_k fun K7 hK7 => ?_; refine wp_block ?_; refine wp_seq_k fun K8 hK8 => ?_; refine S_region ?_
    obtain ⟨ad16, hA16, hc16, hn16⟩ := LiF.get (A := LA) (T := TextT) (i := g.2.2.length) (x := log[g.2.2.length]) (by exact H.fact 1 rfl) hx0
    refine S_val E (pk_elA (sz := 1) hA16 rfl (by kernel_rfl) rfl rfl rfl (by omega)) rfl rfl rfl ?_; clear E a; intro a E
    replace H := (H.know hn16).know hc16
    clear hn16 hc16; replace H : Sep _ _ _ _ _ [_, _, _, _, _] := H; refine S_val E (pk_loadE1 (H.fact 0 rfl) (fun _ _ _ => trivial) rfl rfl rfl (by kernel_rfl)) rfl rfl rfl ?_; clear E a; intro a E; refine S_val E (pk_assign rfl rfl) rfl rfl rfl ?_; clear E a; intro a E; refine hK8 _ _ ?_; refine C_region E H [] 5 [(0, false), (1, false), (2, false), (3, true), (4, true)] (by kernel_rfl) (by kernel_rfl) (fun w HS => ?_)
    (simp only [canOps, List.getElem?_cons_zero, List.getElem?_cons_succ, List.drop_succ_cons, List.drop_zero])
    clear H
    have H := HS
    have hsz : w.heap.size ≤ w.heap.size := Nat.le_refl _
    have HK : CanB.Keep (fun k => k < w.heap.size ∧ k ∉ []) w w := CanB.Keep.refl _ _
    refine C_val E HK (pk_fieldAddr (off := 1) rfl rfl (by kernel_rfl)) rfl rfl rfl (fun _ _ _ _ h => h) ?_; clear E a; intro a E; refine C_val E HK (pk_load1 HS 2 rfl rfl rfl (HS.inS 2 rfl (by simp)) rfl (by kernel_rfl)) rfl rfl rfl (fun _ _ _ _ h => h) ?_; clear E a; intro a E; refine C_val E HK (pk_move rfl rfl) rfl rfl rfl (fun _ _ _ _ h => h) ?_; clear E a; intro a E; refine C_eff E rfl (fun K hK => ?_); refine eff_call E rfl rfl rfl (by kernel_rfl) ?_; refine (copy_sep H.xk (by first | exact H.fact 0 rfl | exact H.fact 1 rfl | exact H.fact 2 rfl)).mono ?_; rintro e w ⟨A21, c21, rfl, H1⟩
    have F := H1.frm
    replace H := H.call H1
    clear H1; replace H : Sep _ _ _ _ [_, _, _] [_, _, _, _, _, _] := H
    have hk := keep_frm (D := []) F hsz (by simp)
    refine hK _ _ hk ?_; clear hK K
    replace HK := HK.trans hk
    replace hsz := Nat.le_trans hsz (F).size
    clear hk; refine C_put E rfl rfl ?_; clear E a; intro a E; clear F; refine C_eff E rfl (fun K hK => ?_); refine eff_bslice (sz := 1) (z := [.one (.slice none 0 0)]) E H rfl Try.underlying22 (by kernel_rfl) (by decide) (by kernel_rfl) ⟨_, [.one _], 0, _, rfl, rfl, rfl, rfl, rfl⟩ ?_; clear H; intro b22 w H F
    have hk := keep_frm (D := []) F hsz (by simp)
    refine hK _ _ hk ?_; clear hK K
    replace HK := HK.trans hk
    replace hsz := Nat.le_trans hsz (F).size
    clear hk; refine C_put E rfl rfl ?_; clear E a; intro a E; clear F; refine CanB.wpCan_nil ?_
    try (simp only [List.take_succ_cons, List.take_zero, List.drop_succ_cons, List.drop_zero])
    clear HS HK hsz; refine S_eff E rfl (fun K hK => ?_); refine eff_app1 (T := TextT) (q := ((log[g.2.2.length], (A21, c21)) : List Nat × TextT.μ)) (its := g.2.2) 1 0 (by_ := 24) E H rfl rfl rfl rfl rfl rfl ⟨Try.underlying22, by kernel_rfl⟩ (by omega) (by omega) ?_; clear H; intro A23 c23 w hcap23 H F; replace H : Sep _ _ _ _ [_, _, _, _] _ := H; refine hK _ _ ?_; clear hK K; refine S_put E rfl rfl ?_; clear E a; intro a E; clear F; refine S_val E (pk_fieldAddr (off := 1) rfl rfl (by kernel_rfl)) rfl rfl rfl ?_; clear E a; intro a E; refine S_eff E rfl (fun K hK => ?_); refine eff_store 3 (new := [.one _]) E H rfl rfl rfl rfl rfl (by repeat (first | exact trivial | refine ⟨rfl, ?_⟩ | refine ⟨fun _ _ => rfl, ?_⟩)) rfl (by kernel_rfl) rfl ?_; clear H; intro w H _; replace H : Sep _ _ _ _ [_, _, _, _] _ := H; refine hK _ _ ?_; clear hK K; refine S_put0 rfl ?_
    refine hK7 _ _ ?_; refine S_region ?_; refine S_val E (pk_intw rfl rfl rfl rfl (wI64 (by omega) (by omega))) rfl rfl rfl ?_; clear E a; intro a E; refine S_val E (pk_move rfl rfl) rfl rfl rfl ?_; clear E a; intro a E
    replace H := (H.refacts (List.forall_mem_cons.2 ⟨nest_snoc (q := ((log[g.2.2.length], (A21, c21)) : List Nat × TextT.μ)) (H.fact 3 rfl) (H.fact 0 rfl), List.forall_mem_cons.2 ⟨H.fact 4 rfl, List.forall_mem_cons.2 ⟨H.fact 5 rfl, List.forall_mem_nil _⟩⟩⟩)).popL
    refine loop_end ?_
    exact ⟨(A23, c23, g.2.2 ++ [((log[g.2.2.length], (A21, c21)) : List Nat × TextT.μ)]), ⟨E.to (by simp only [List.length_append, List.length_singleton]; repeat (first | exact trivial | refine ⟨rfl, ?_⟩)), H, ⟨by simp only [List.length_append, List.length_singleton]; omega, take_done hφ.2 hx0⟩⟩, by simp only [List.length_append, List.length_singleton]; omega⟩
  · skip
    clear E; intro c15 E
    have hk : ¬ g.2.2.length < log.length := by simpa using c15
    obtain ⟨gA, gc, ds⟩ := g
    simp only at E H hφ hk
    have hds : ds.map Prod.fst = log := by rw [hφ.2, show ds.length = log.length by omega, List.take_length]
    clear c15; refine S_else E rfl ?_; refine wp_exit ?_
    repeat (first | refine then_exit ?_ | refine block_hit ?_ | refine block_miss (by decide) ?_)
    refine hK3 _ _ ?_; refine wp_seq_k fun K9 hK9 => ?_; refine S_region ?_; refine S_val E (pk_fieldAddr (off := 2) rfl rfl (by kernel_rfl)) rfl rfl rfl ?_; clear E a; intro a E; refine S_val E (pk_load1 H 2 rfl rfl rfl trivial rfl (by kernel_rfl)) rfl rfl rfl ?_; clear E a; intro a E; refine S_val E (pk_assign rfl rfl) rfl rfl rfl ?_; clear E a; intro a E; refine hK9 _ _ ?_; refine wp_seq_k fun K10 hK10 => ?_; refine S_region ?_; refine S_val E (pk_fieldAddr (off := 2) rfl rfl (by kernel_rfl)) rfl rfl rfl ?_; clear E a; intro a E; refine S_eff E rfl (fun K hK => ?_); refine eff_store 2 (new := [.one _]) E H rfl rfl rfl rfl rfl (by repeat (first | exact trivial | refine ⟨rfl, ?_⟩ | refine ⟨fun _ _ => rfl, ?_⟩)) rfl (by kernel_rfl) rfl ?_; clear H; intro w H _; replace H : Sep _ _ _ _ [_, _, _] _ := H; refine hK _ _ ?_; clear hK K; refine S_put0 rfl ?_; refine hK10 _ _ ?_
    refine wp_seq_k fun K11 hK11 => ?_; refine wp_seq_k fun K12 hK12 => ?_; refine S_region ?_; refine S_val E (pk_move rfl rfl) rfl rfl rfl ?_; clear E a; intro a E; refine S_val E (pk_len rfl rfl (by kernel_rfl)) rfl rfl rfl ?_; clear E a; intro a E; refine S_val E (pk_move rfl rfl) rfl rfl rfl ?_; clear E a; intro a E; refine hK12 _ _ ?_; refine wp_block ?_
    refine S_loopI (γ := Option Addr × Nat × List (Ltr × LtrT.μ)) [1, 2, 29, 30] (fun g => [(31, .int .i64 (g.2.2.length : Int))]) (fun g => [.row (.slice g.1 g.2.2.length g.2.1) 49 3 g.2.2.length (rowC LtrT (g.2.2)), .row (.slice gA ds.length gc) 23 1 ds.length (rowC TextT (ds)), .blk b2 (ca [.one (.int .u64 0), .one (.slice none 0 0), .one (.slice none 0 0), .one (.int .i64 0)]) 30, .blk b1 (ca [.one (.int .u64 ep), .one (.slice gA ds.length gc), .one (.slice g.1 g.2.2.length g.2.1), .one (.int .i64 nx)]) 30]) (fun g => [NestF LtrT g.2.2, NestF TextT ds, LiF TextT LA lc log lm, LiF LtrT WA wc wait wm]) (fun g => g.2.2.length ≤ wait.length ∧ g.2.2.map Prod.fst = wait.take g.2.2.length) (fun g => wait.length - g.2.2.length) ((none, 0, [])) E ((H.rownil _ _).know nest_nil) (by repeat (first | exact trivial | refine ⟨rfl, ?_⟩)) (⟨Nat.zero_le _, rfl⟩) ?_
    clear E H; intro g a w E H hφ; replace E : Env a _ [(31, _), (1, _), (2, _), (29, _), (30, _)] := E; replace H : Sep _ _ _ _ [_, _, _, _] [_, _, _, _] := H; refine wp_seq_k fun K13 hK13 => ?_; refine S_region ?_; refine S_val E (pk_int rfl rfl rfl rfl) rfl rfl rfl ?_; clear E a; intro a E; refine hK13 _ _ ?_; refine wp_seq_k fun K14 hK14 => ?_; refine env_split (d := 32) E rfl ?_ ?_
    · skip
      clear E; intro c32 E
      have hk : g.2.2.length < wait.length := by simpa using c32
      have hx0 : wait[g.2.2.length]? = some wait[g.2.2.length] := List.getElem?_eq_getElem hk
      refine S_then E rfl ?_; refine wp_skip ?_; refine hK14 _ _ ?_; refine wp_seq_k fun K15 hK15 => ?_; refine wp_block ?_; refine wp_seq_k fun K16 hK16 => ?_; refine S_region ?_
      obtain ⟨ad33, hA33, hc33, hn33⟩ := LiF.get (A := WA) (T := LtrT) (i := g.2.2.length) (x := wait[g.2.2.length]) (by exact H.fact 3 rfl) hx0
      refine S_val E (pk_elA (sz := 3) hA33 rfl (by kernel_rfl) rfl rfl rfl (by omega)) rfl rfl rfl ?_; clear E a; intro a E
      replace H := (H.know hn33).know hc33
      clear hn33 hc33; replace H : Sep _ _ _ _ _ [_, _, _, _, _, _] := H; refine S_val E (pk_loadE (n := 3) (H.fact 0 rfl) (fun _ _ _ => trivial) rfl rfl rfl (by kernel_rfl)) rfl rfl rfl ?_; clear E a; intro a E; refine S_eff E rfl (fun K hK => ?_); refine eff_alloc (z := [.one (.int .i64 0), .one (.int .i64 0), .one (.slice none 0 0)]) H rfl (by kernel_rfl) ?_; clear H; intro b8 w H _; refine hK _ _ ?_; clear hK K; refine S_put E rfl rfl ?_; clear E a; intro a E; refine S_eff E rfl (fun K hK => ?_); refine eff_store 0 E H rfl rfl rfl rfl rfl (by repeat (first | exact trivial | refine ⟨rfl, ?_⟩ | refine ⟨fun _ _ => rfl, ?_⟩)) rfl (by kernel_rfl) rfl ?_; clear H; intro w H _; replace H : Sep _ _ _ _ [_, _, _, _, _] _ := H; refine hK _ _ ?_; clear hK K; refine S_put0 rfl ?_; refine hK16 _ _ ?_; refine wp_seq_k fun K17 hK17 => ?_; refine S_region ?_
      refine S_val E (pk_fieldAddr (off := 2) rfl rfl (by kernel_rfl)) rfl rfl rfl ?_; clear E a; intro a E; refine S_val E (pk_load1 H 0 rfl rfl rfl trivial rfl (by kernel_rfl)) rfl rfl rfl ?_; clear E a; intro a E; refine S_eff E rfl (fun K hK => ?_); refine eff_call E rfl rfl rfl (by kernel_rfl) ?_; refine (copy_sep H.xk (by first | exact H.fact 0 rfl | exact H.fact 1 rfl | exact H.fact 2 rfl)).mono ?_; rintro e w ⟨A37, c37, rfl, H1⟩
      replace H := H.call H1
      clear H1; replace H : Sep _ _ _ _ [_, _, _, _, _] [_, _, _, _, _, _, _] := H; refine hK _ _ ?_; clear hK K; refine S_put E rfl rfl ?_; clear E a; intro a E; refine S_val E (pk_fieldAddr (off := 2) rfl rfl (by kernel_rfl)) rfl rfl rfl ?_; clear E a; intro a E; refine S_eff E rfl (fun K hK => ?_); refine eff_store 0 (new := [.one _]) E H rfl rfl rfl rfl rfl (by repeat (first | exact trivial | refine ⟨rfl, ?_⟩ | refine ⟨fun _ _ => rfl, ?_⟩)) rfl (by kernel_rfl) rfl ?_; clear H; intro w H _; replace H : Sep _ _ _ _ [_, _, _, _, _] _ := H; refine hK _ _ ?_; clear hK K; refine S_put0 rfl ?_; refine hK17 _ _ ?_; refine S_region ?_; refine S_val E (pk_fieldAddr (off := 2) rfl rfl (by kernel_rfl)) rfl rfl rfl ?_; clear E a; intro a E; refine S_val E (pk_load1 H 4 rfl rfl rfl trivial rfl (by kernel_rfl)) rfl rfl rfl ?_; clear E a; intro a E
      refine S_val E (pk_load (n := 3) H 0 rfl rfl rfl trivial rfl (by kernel_rfl)) rfl rfl rfl ?_; clear E a; intro a E; refine S_eff E rfl (fun K hK => ?_); refine eff_bslice (sz := 3) (z := [.one (.int .i64 0), .one (.int .i64 0), .one (.slice none 0 0)]) E H rfl Try.underlying28 (by kernel_rfl) (by decide) (by kernel_rfl) ⟨_, _, 0, _, rfl, rfl, rfl, rfl, rfl⟩ ?_; clear H; intro b42 w H _; refine hK _ _ ?_; clear hK K; refine S_put E rfl rfl ?_; clear E a; intro a E; refine S_eff E rfl (fun K hK => ?_); refine eff_app1 (T := LtrT) (q := (((⟨wait[g.2.2.length].no, wait[g.2.2.length].rc, wait[g.2.2.length].text⟩ : Ltr), (A37, c37)) : Ltr × LtrT.μ)) (its := g.2.2) 2 0 (by_ := 40) E H rfl rfl rfl rfl rfl rfl ⟨Try.underlying28, by kernel_rfl⟩ (by omega) (by omega) ?_; clear H; intro A43 c43 w hcap43 H F; replace H : Sep _ _ _ _ [_, _, _, _, _, _] _ := H
      refine hK _ _ ?_; clear hK K; refine S_put E rfl rfl ?_; clear E a; intro a E; clear F; refine S_val E (pk_fieldAddr (off := 2) rfl rfl (by kernel_rfl)) rfl rfl rfl ?_; clear E a; intro a E; refine S_eff E rfl (fun K hK => ?_); refine eff_store 5 (new := [.one _]) E H rfl rfl rfl rfl rfl (by repeat (first | exact trivial | refine ⟨rfl, ?_⟩ | refine ⟨fun _ _ => rfl, ?_⟩)) rfl (by kernel_rfl) rfl ?_; clear H; intro w H _; replace H : Sep _ _ _ _ [_, _, _, _, _, _] _ := H; refine hK _ _ ?_; clear hK K; refine S_put0 rfl ?_; refine hK15 _ _ ?_; refine S_region ?_; refine S_val E (pk_intw rfl rfl rfl rfl (wI64 (by omega) (by omega))) rfl rfl rfl ?_; clear E a; intro a E; refine S_val E (pk_move rfl rfl) rfl rfl rfl ?_; clear E a; intro a E
      replace H := (H.refacts (List.forall_mem_cons.2 ⟨nest_snoc (q := (((⟨wait[g.2.2.length].no, wait[g.2.2.length].rc, wait[g.2.2.length].text⟩ : Ltr), (A37, c37)) : Ltr × LtrT.μ)) (H.fact 3 rfl) (H.fact 0 rfl), List.forall_mem_cons.2 ⟨H.fact 4 rfl, List.forall_mem_cons.2 ⟨H.fact 5 rfl, List.forall_mem_cons.2 ⟨H.fact 6 rfl, List.forall_mem_nil _⟩⟩⟩⟩)).popL.popL
      refine loop_end ?_
      exact ⟨(A43, c43, g.2.2 ++ [(((⟨wait[g.2.2.length].no, wait[g.2.2.length].rc, wait[g.2.2.length].text⟩ : Ltr), (A37, c37)) : Ltr × LtrT.μ)]), ⟨E.to (by simp only [List.length_append, List.length_singleton]; repeat (first | exact trivial | refine ⟨rfl, ?_⟩)), H, ⟨by simp only [List.length_append, List.length_singleton]; omega, take_done hφ.2 hx0⟩⟩, by simp only [List.length_append, List.length_singleton]; omega⟩
    · skip
      clear E; intro c32 E
      have hk : ¬ g.2.2.length < wait.length := by simpa using c32
      refine S_else E rfl ?_; refine wp_exit ?_
      repeat (first | refine then_exit ?_ | refine block_hit ?_ | refine block_miss (by decide) ?_)
      refine hK11 _ _ ?_; refine wp_seq_k fun K18 hK18 => ?_; refine S_region ?_; refine S_val E (pk_load (n := 4) H 3 rfl rfl rfl trivial rfl (by kernel_rfl)) rfl rfl rfl ?_; clear E a; intro a E; refine S_eff E rfl (fun K hK => ?_); refine eff_store 2 E H rfl rfl rfl rfl rfl (by repeat (first | exact trivial | refine ⟨rfl, ?_⟩ | refine ⟨fun _ _ => rfl, ?_⟩)) rfl (by kernel_rfl) rfl ?_; clear H; intro w H _; replace H : Sep _ _ _ _ [_, _, _, _] _ := H; refine hK _ _ ?_; clear hK K; refine S_put0 rfl ?_; refine hK18 _ _ ?_; refine wp_ret ?_
      repeat (first | refine then_ret ?_ | refine block_ret ?_)
      refine ret1 rfl E (by exact resC (n := 4) H 2 rfl rfl rfl (by kernel_rfl)) ?_
      exact ⟨gA, gc, g.1, g.2.1, ds, g.2.2, hds, by rw [hφ.2, show g.2.2.length = wait.length by omega, List.take_length], rfl, H.keepLR (L := [_, _]) (R := [_, _])⟩
end Go.Proofs.Yteefhbpmeajbfaa
namespace Go.Proofs.Yteefhbpmeajbfaa
set_option linter.unusedSimpArgs false
set_option linter.unusedVariables false
open Go.RowKit
attribute [local irreducible] cmV wlV frV
set_option maxRecDepth 100000 in
set_option maxHeartbeats 4000000 in
theorem Rid_any {x : Int} {X : List Nat} {w0 : World} (hX : ∀ k ∈ X, k < w0.heap.size) :
    Calls Try.prog 54 #[.int .i64 x] w0 fun e w' => e = .returned (.bool (!farB x)) ∧ w0 = w' := by
  refine calls_env Try.ntmps54 Try.func54 rfl rfl fun a E => ?_; replace E : Env a _ [(0, _)] := E
  have H : Sep X [] w0 w0 [] [] := Sep.start hX (fun _ h => by cases h)
  refine wp_seq_k fun K0 hK0 => ?_; refine S_region ?_; refine S_val E (pk_assign rfl rfl) rfl rfl rfl ?_; clear E a; intro a E; refine hK0 _ _ ?_; refine wp_seq_k fun K1 hK1 => ?_; refine S_region ?_; refine S_val E (pk_move rfl rfl) rfl rfl rfl ?_; clear E a; intro a E; refine S_val E (pk_int rfl rfl rfl rfl) rfl rfl rfl ?_; clear E a; intro a E; refine S_val E (pk_move rfl rfl) rfl rfl rfl ?_; clear E a; intro a E; refine env_split (d := 5) E rfl ?_ ?_
  · skip
    clear E; intro c5 E; refine S_val E (pk_move rfl rfl) rfl rfl rfl ?_; clear E a; intro a E; refine S_val E (pk_int rfl rfl rfl rfl) rfl rfl rfl ?_; clear E a; intro a E; refine S_val E (pk_pick rfl rfl rfl) rfl rfl rfl ?_; clear E a; intro a E; refine S_val E (pk_assign rfl rfl) rfl rfl rfl ?_; clear E a; intro a E; refine hK1 _ _ ?_; refine wp_ret ?_
    repeat (first | refine then_ret ?_ | refine block_ret ?_)
    refine ret1 rfl E (resT rfl) ?_; refine ⟨?_, rfl⟩
    simp_all [farB]
    try (rw [Bool.eq_iff_iff]; simp; omega)
  · skip
    clear E; intro c5 E; refine S_skip E rfl rfl rfl ?_; clear E a; intro a E; refine S_skip E rfl rfl rfl ?_; clear E a; intro a E; refine S_val E (pk_pick rfl rfl rfl) rfl rfl rfl ?_; clear E a; intro a E; refine S_val E (pk_assign rfl rfl) rfl rfl rfl ?_; clear E a; intro a E; refine hK1 _ _ ?_; refine wp_ret ?_
    repeat (first | refine then_ret ?_ | refine block_ret ?_)
    refine ret1 rfl E (resT rfl) ?_; refine ⟨?_, rfl⟩
    simp_all [farB]
    try (rw [Bool.eq_iff_iff]; simp; omega)
set_option maxRecDepth 100000 in
set_option maxHeartbeats 4000000 in
theorem Rletter_any {ep nx no rc : Int} {LA WA TA : Option Addr} {ln lc wn wc tn tc : Nat} {X : List Nat} {w0 : World} (hX : ∀ k ∈ X, k < w0.heap.size) :
    Calls Try.prog 58 #[.agg (ca [.one (.int .u64 ep), .one (.slice LA ln lc), .one (.slice WA wn wc), .one (.int .i64 nx)]), .agg (ca [.one (.int .i64 no), .one (.int .i64 rc), .one (.slice TA tn tc)])] w0 fun e w' => e = .returned (.bool (!oddB nx no rc)) ∧ Sep X [] w0 w' [] [] := by
  refine calls_env Try.ntmps58 Try.func58 rfl rfl fun a E => ?_; replace E : Env a _ [(0, _), (1, _)] := E
  have H : Sep X [] w0 w0 [] [] := Sep.start hX (fun _ h => by cases h)
  refine wp_seq_k fun K0 hK0 => ?_; refine S_region ?_; refine S_eff E rfl (fun K hK => ?_); refine eff_box E H rfl rfl rfl ?_; clear H; intro b2 w H _; refine hK _ _ ?_; clear hK K; refine S_put E rfl rfl ?_; clear E a; intro a E; refine S_eff E rfl (fun K hK => ?_); refine eff_box E H rfl rfl rfl ?_; clear H; intro b3 w H _; refine hK _ _ ?_; clear hK K; refine S_put E rfl rfl ?_; clear E a; intro a E; refine S_val E (pk_assign rfl rfl) rfl rfl rfl ?_; clear E a; intro a E; refine hK0 _ _ ?_; refine wp_seq_k fun K1 hK1 => ?_; refine S_region ?_; refine S_val E (pk_fieldAddr (off := 0) rfl rfl (by kernel_rfl)) rfl rfl rfl ?_; clear E a; intro a E; refine S_val E (pk_load1 H 0 rfl rfl rfl trivial rfl (by kernel_rfl)) rfl rfl rfl ?_; clear E a; intro a E; refine S_val E (pk_int rfl rfl rfl rfl) rfl rfl rfl ?_; clear E a; intro a E; refine S_val E (pk_move rfl rfl) rfl rfl rfl ?_; clear E a
  intro a E; refine env_split (d := 8) E rfl ?_ ?_
  · skip
    clear E; intro c8 E; refine S_val E (pk_fieldAddr (off := 0) rfl rfl (by kernel_rfl)) rfl rfl rfl ?_; clear E a; intro a E; refine S_val E (pk_load1 H 0 rfl rfl rfl trivial rfl (by kernel_rfl)) rfl rfl rfl ?_; clear E a; intro a E; refine S_val E (pk_fieldAddr (off := 3) rfl rfl (by kernel_rfl)) rfl rfl rfl ?_; clear E a; intro a E; refine S_val E (pk_load1 H 1 rfl rfl rfl trivial rfl (by kernel_rfl)) rfl rfl rfl ?_; clear E a; intro a E; refine S_val E (pk_int rfl rfl rfl rfl) rfl rfl rfl ?_; clear E a; intro a E; refine S_val E (pk_pick rfl rfl rfl) rfl rfl rfl ?_; clear E a; intro a E; refine S_val E (pk_move rfl rfl) rfl rfl rfl ?_; clear E a; intro a E; refine env_split (d := 15) E rfl ?_ ?_
    · skip
      clear E; intro c15 E; refine S_val E (pk_fieldAddr (off := 1) rfl rfl (by kernel_rfl)) rfl rfl rfl ?_; clear E a; intro a E; refine S_val E (pk_load1 H 0 rfl rfl rfl trivial rfl (by kernel_rfl)) rfl rfl rfl ?_; clear E a; intro a E; refine S_eff E rfl (fun K hK => ?_); refine eff_call E rfl rfl rfl (by kernel_rfl) ?_; refine (Rid_any H.xk).mono ?_; rintro e w ⟨rfl, rfl⟩; refine hK _ _ ?_; clear hK K; refine S_put E rfl rfl ?_; clear E a; intro a E; refine S_val E (pk_pick rfl rfl rfl) rfl rfl rfl ?_; clear E a; intro a E; refine S_val E (pk_assign rfl rfl) rfl rfl rfl ?_; clear E a; intro a E; refine hK1 _ _ ?_; refine wp_ret ?_
      repeat (first | refine then_ret ?_ | refine block_ret ?_)
      refine ret1 rfl E (resT rfl) ?_; refine ⟨?_, H.keepLR (L := []) (R := [])⟩
      simp_all [oddB]
      try omega
      try (rw [Bool.eq_iff_iff]; simp; omega)
    · skip
      clear E; intro c15 E; refine S_skip E rfl rfl rfl ?_; clear E a; intro a E; refine S_skip E rfl rfl rfl ?_; clear E a; intro a E; refine S_skip E rfl rfl rfl ?_; clear E a; intro a E; refine S_val E (pk_pick rfl rfl rfl) rfl rfl rfl ?_; clear E a; intro a E; refine S_val E (pk_assign rfl rfl) rfl rfl rfl ?_; clear E a; intro a E; refine hK1 _ _ ?_; refine wp_ret ?_
      repeat (first | refine then_ret ?_ | refine block_ret ?_)
      refine ret1 rfl E (resT rfl) ?_; refine ⟨?_, H.keepLR (L := []) (R := [])⟩
      simp_all [oddB]
      try omega
      try (rw [Bool.eq_iff_iff]; simp; omega)
  · skip
    clear E; intro c8 E; refine S_skip E rfl rfl rfl ?_; clear E a; intro a E; refine S_skip E rfl rfl rfl ?_; clear E a; intro a E; refine S_skip E rfl rfl rfl ?_; clear E a; intro a E; refine S_skip E rfl rfl rfl ?_; clear E a; intro a E; refine S_skip E rfl rfl rfl ?_; clear E a; intro a E; refine S_val E (pk_pick rfl rfl rfl) rfl rfl rfl ?_; clear E a; intro a E; refine S_val E (pk_move rfl rfl) rfl rfl rfl ?_; clear E a; intro a E; refine S_skip E rfl rfl rfl ?_; clear E a; intro a E; refine S_skip E rfl rfl rfl ?_; clear E a; intro a E; refine S_skip E rfl rfl rfl ?_; clear E a; intro a E; refine S_val E (pk_pick rfl rfl rfl) rfl rfl rfl ?_; clear E a; intro a E; refine S_val E (pk_assign rfl rfl) rfl rfl rfl ?_; clear E a; intro a E; refine hK1 _ _ ?_; refine wp_ret ?_
    repeat (first | refine then_ret ?_ | refine block_ret ?_)
    refine ret1 rfl E (resT rfl) ?_; refine ⟨?_, H.keepLR (L := []) (R := [])⟩
    simp_all [oddB]
    try omega
    try (rw [Bool.eq_iff_iff]; simp; omega)
attribute [local irreducible] farB oddB
set_option maxRecDepth 100000 in
set_option maxHeartbeats 4000000 in
theorem RSCheck_any {ep nx : Int} {LA WA : Option Addr} {lc wc : Nat} {log : List (List Nat)} {wait : List Ltr} {lm : Nat → TextT.μ} {wm : Nat → LtrT.μ} {X : List Nat} {w0 : World} (hX : ∀ k ∈ X, k < w0.heap.size) (hL : St (LiF TextT LA lc log lm) w0 X) (hW : St (LiF LtrT WA wc wait wm) w0 X) :
    Calls Try.prog 21 #[.agg (ca [.one (.int .u64 ep), .one (.slice LA log.length lc), .one (.slice WA wait.length wc), .one (.int .i64 nx)])] w0 fun e w' => e = .returned (.int .i64 (if okS ⟨ep, log, wait, nx⟩ then 0 else 1)) ∧ Sep X [] w0 w' [] [] := by
  have hLb := hL.now.big
  have hWb := hW.now.big
  refine calls_env Try.ntmps21 Try.func21 rfl rfl fun a E => ?_; replace E : Env a _ [(0, _)] := E
  have H : Sep X [] w0 w0 [] [(LiF TextT LA lc log lm), (LiF LtrT WA wc wait wm)] := Sep.start hX (List.forall_mem_cons.2 ⟨hL, List.forall_mem_cons.2 ⟨hW, fun _ h => by cases h⟩⟩)
  refine wp_seq_k fun K0 hK0 => ?_; refine S_region ?_; refine S_eff E rfl (fun K hK => ?_); refine eff_box E H rfl rfl rfl ?_; clear H; intro b1 w H _; refine hK _ _ ?_; clear hK K; refine S_put E rfl rfl ?_; clear E a; intro a E; refine S_val E (pk_assign rfl rfl) rfl rfl rfl ?_; clear E a; intro a E; refine hK0 _ _ ?_; refine wp_seq_k fun K1 hK1 => ?_; refine wp_seq_k fun K2 hK2 => ?_; refine S_region ?_; refine S_val E (pk_fieldAddr (off := 0) rfl rfl (by kernel_rfl)) rfl rfl rfl ?_; clear E a; intro a E; refine S_val E (pk_load1 H 0 rfl rfl rfl trivial rfl (by kernel_rfl)) rfl rfl rfl ?_; clear E a; intro a E; refine S_val E (pk_fieldAddr (off := 1) rfl rfl (by kernel_rfl)) rfl rfl rfl ?_; clear E a; intro a E; refine S_val E (pk_load1 H 0 rfl rfl rfl trivial rfl (by kernel_rfl)) rfl rfl rfl ?_; clear E a; intro a E; refine S_val E (pk_len rfl rfl (by kernel_rfl)) rfl rfl rfl ?_
  clear E a; intro a E; refine S_val E (pk_convw rfl rfl (by kernel_rfl) (by kernel_rfl) (wU64 (by omega) (by omega))) rfl rfl rfl ?_; clear E a; intro a E; refine S_val E (pk_int rfl rfl rfl rfl) rfl rfl rfl ?_; clear E a; intro a E; refine S_val E (pk_move rfl rfl) rfl rfl rfl ?_; clear E a; intro a E; refine env_split (d := 12) E rfl ?_ ?_
  · skip
    clear E; intro c12 E; refine S_skip E rfl rfl rfl ?_; clear E a; intro a E; refine S_skip E rfl rfl rfl ?_; clear E a; intro a E; refine S_skip E rfl rfl rfl ?_; clear E a; intro a E; refine S_skip E rfl rfl rfl ?_; clear E a; intro a E; refine S_val E (pk_pick rfl rfl rfl) rfl rfl rfl ?_; clear E a; intro a E; refine S_val E (pk_move rfl rfl) rfl rfl rfl ?_; clear E a; intro a E; refine S_skip E rfl rfl rfl ?_; clear E a; intro a E; refine S_skip E rfl rfl rfl ?_; clear E a; intro a E; refine S_skip E rfl rfl rfl ?_; clear E a; intro a E; refine S_skip E rfl rfl rfl ?_; clear E a; intro a E; refine S_val E (pk_pick rfl rfl rfl) rfl rfl rfl ?_; clear E a; intro a E; refine S_val E (pk_move rfl rfl) rfl rfl rfl ?_; clear E a; intro a E; refine S_skip E rfl rfl rfl ?_; clear E a; intro a E; refine S_skip E rfl rfl rfl ?_; clear E a; intro a E; refine S_skip E rfl rfl rfl ?_; clear E a
    intro a E; refine S_val E (pk_pick rfl rfl rfl) rfl rfl rfl ?_; clear E a; intro a E; refine S_val E (pk_move rfl rfl) rfl rfl rfl ?_; clear E a; intro a E; refine S_skip E rfl rfl rfl ?_; clear E a; intro a E; refine S_skip E rfl rfl rfl ?_; clear E a; intro a E; refine S_skip E rfl rfl rfl ?_; clear E a; intro a E; refine S_val E (pk_pick rfl rfl rfl) rfl rfl rfl ?_; clear E a; intro a E; refine hK2 _ _ ?_; refine S_then E rfl ?_; refine wp_seq_k fun K3 hK3 => ?_; refine S_region ?_; refine S_val E (pk_assign rfl rfl) rfl rfl rfl ?_; clear E a; intro a E; refine hK3 _ _ ?_; refine wp_ret ?_
    repeat (first | refine then_ret ?_ | refine block_ret ?_)
    refine ret1 rfl E (resT rfl) ?_; refine ⟨?_, H.keepLR (L := []) (R := [])⟩
    rw [if_neg]
    simp only [okS, Bool.and_eq_true, decide_eq_true_eq, Bool.not_eq_true', bne_iff_ne, ne_eq] at *
    omega
  · skip
    clear E; intro c12 E; refine S_val E (pk_fieldAddr (off := 1) rfl rfl (by kernel_rfl)) rfl rfl rfl ?_; clear E a; intro a E; refine S_val E (pk_load1 H 0 rfl rfl rfl trivial rfl (by kernel_rfl)) rfl rfl rfl ?_; clear E a; intro a E; refine S_val E (pk_len rfl rfl (by kernel_rfl)) rfl rfl rfl ?_; clear E a; intro a E; refine S_val E (pk_int rfl rfl rfl rfl) rfl rfl rfl ?_; clear E a; intro a E; refine S_val E (pk_pick rfl rfl rfl) rfl rfl rfl ?_; clear E a; intro a E; refine S_val E (pk_move rfl rfl) rfl rfl rfl ?_; clear E a; intro a E; refine env_split (d := 18) E rfl ?_ ?_
    · skip
      clear E; intro c18 E; refine S_skip E rfl rfl rfl ?_; clear E a; intro a E; refine S_skip E rfl rfl rfl ?_; clear E a; intro a E; refine S_skip E rfl rfl rfl ?_; clear E a; intro a E; refine S_skip E rfl rfl rfl ?_; clear E a; intro a E; refine S_val E (pk_pick rfl rfl rfl) rfl rfl rfl ?_; clear E a; intro a E; refine S_val E (pk_move rfl rfl) rfl rfl rfl ?_; clear E a; intro a E; refine S_skip E rfl rfl rfl ?_; clear E a; intro a E; refine S_skip E rfl rfl rfl ?_; clear E a; intro a E; refine S_skip E rfl rfl rfl ?_; clear E a; intro a E; refine S_val E (pk_pick rfl rfl rfl) rfl rfl rfl ?_; clear E a; intro a E; refine S_val E (pk_move rfl rfl) rfl rfl rfl ?_; clear E a; intro a E; refine S_skip E rfl rfl rfl ?_; clear E a; intro a E; refine S_skip E rfl rfl rfl ?_; clear E a; intro a E; refine S_skip E rfl rfl rfl ?_; clear E a; intro a E
      refine S_val E (pk_pick rfl rfl rfl) rfl rfl rfl ?_; clear E a; intro a E; refine hK2 _ _ ?_; refine S_then E rfl ?_; refine wp_seq_k fun K4 hK4 => ?_; refine S_region ?_; refine S_val E (pk_assign rfl rfl) rfl rfl rfl ?_; clear E a; intro a E; refine hK4 _ _ ?_; refine wp_ret ?_
      repeat (first | refine then_ret ?_ | refine block_ret ?_)
      refine ret1 rfl E (resT rfl) ?_; refine ⟨?_, H.keepLR (L := []) (R := [])⟩
      rw [if_neg]
      simp only [okS, Bool.and_eq_true, decide_eq_true_eq, Bool.not_eq_true', bne_iff_ne, ne_eq] at *
      omega
    · skip
      clear E; intro c18 E; refine S_val E (pk_fieldAddr (off := 2) rfl rfl (by kernel_rfl)) rfl rfl rfl ?_; clear E a; intro a E; refine S_val E (pk_load1 H 0 rfl rfl rfl trivial rfl (by kernel_rfl)) rfl rfl rfl ?_; clear E a; intro a E; refine S_val E (pk_len rfl rfl (by kernel_rfl)) rfl rfl rfl ?_; clear E a; intro a E; refine S_val E (pk_int rfl rfl rfl rfl) rfl rfl rfl ?_; clear E a; intro a E; refine S_val E (pk_pick rfl rfl rfl) rfl rfl rfl ?_; clear E a; intro a E; refine S_val E (pk_move rfl rfl) rfl rfl rfl ?_; clear E a; intro a E; refine env_split (d := 24) E rfl ?_ ?_
      · skip
        clear E; intro c24 E; refine S_skip E rfl rfl rfl ?_; clear E a; intro a E; refine S_skip E rfl rfl rfl ?_; clear E a; intro a E; refine S_skip E rfl rfl rfl ?_; clear E a; intro a E; refine S_val E (pk_pick rfl rfl rfl) rfl rfl rfl ?_; clear E a; intro a E; refine S_val E (pk_move rfl rfl) rfl rfl rfl ?_; clear E a; intro a E; refine S_skip E rfl rfl rfl ?_; clear E a; intro a E; refine S_skip E rfl rfl rfl ?_; clear E a; intro a E; refine S_skip E rfl rfl rfl ?_; clear E a; intro a E; refine S_val E (pk_pick rfl rfl rfl) rfl rfl rfl ?_; clear E a; intro a E; refine hK2 _ _ ?_; refine S_then E rfl ?_; refine wp_seq_k fun K5 hK5 => ?_; refine S_region ?_; refine S_val E (pk_assign rfl rfl) rfl rfl rfl ?_; clear E a; intro a E; refine hK5 _ _ ?_; refine wp_ret ?_
        repeat (first | refine then_ret ?_ | refine block_ret ?_)
        refine ret1 rfl E (resT rfl) ?_; refine ⟨?_, H.keepLR (L := []) (R := [])⟩
        rw [if_neg]
        simp only [okS, Bool.and_eq_true, decide_eq_true_eq, Bool.not_eq_true', bne_iff_ne, ne_eq] at *
        omega
      · skip
        clear E; intro c24 E; refine S_val E (pk_fieldAddr (off := 3) rfl rfl (by kernel_rfl)) rfl rfl rfl ?_; clear E a; intro a E; refine S_val E (pk_load1 H 0 rfl rfl rfl trivial rfl (by kernel_rfl)) rfl rfl rfl ?_; clear E a; intro a E; refine S_val E (pk_int rfl rfl rfl rfl) rfl rfl rfl ?_; clear E a; intro a E; refine S_val E (pk_pick rfl rfl rfl) rfl rfl rfl ?_; clear E a; intro a E; refine S_val E (pk_move rfl rfl) rfl rfl rfl ?_; clear E a; intro a E; refine env_split (d := 29) E rfl ?_ ?_
        · skip
          clear E; intro c29 E; refine S_skip E rfl rfl rfl ?_; clear E a; intro a E; refine S_skip E rfl rfl rfl ?_; clear E a; intro a E; refine S_skip E rfl rfl rfl ?_; clear E a; intro a E; refine S_val E (pk_pick rfl rfl rfl) rfl rfl rfl ?_; clear E a; intro a E; refine hK2 _ _ ?_; refine S_then E rfl ?_; refine wp_seq_k fun K6 hK6 => ?_; refine S_region ?_; refine S_val E (pk_assign rfl rfl) rfl rfl rfl ?_; clear E a; intro a E; refine hK6 _ _ ?_; refine wp_ret ?_
          repeat (first | refine then_ret ?_ | refine block_ret ?_)
          refine ret1 rfl E (resT rfl) ?_; refine ⟨?_, H.keepLR (L := []) (R := [])⟩
          rw [if_neg]
          simp only [okS, Bool.and_eq_true, decide_eq_true_eq, Bool.not_eq_true', bne_iff_ne, ne_eq] at *
          omega
        · skip
          clear E; intro c29 E; refine S_val E (pk_fieldAddr (off := 3) rfl rfl (by kernel_rfl)) rfl rfl rfl ?_; clear E a; intro a E; refine S_val E (pk_load1 H 0 rfl rfl rfl trivial rfl (by kernel_rfl)) rfl rfl rfl ?_; clear E a; intro a E; refine S_val E (pk_int rfl rfl rfl rfl) rfl rfl rfl ?_; clear E a; intro a E; refine S_val E (pk_pick rfl rfl rfl) rfl rfl rfl ?_; clear E a; intro a E; refine hK2 _ _ ?_; refine env_split (d := 33) E rfl ?_ ?_
          · skip
            clear E; intro c33 E; refine S_then E rfl ?_; refine wp_seq_k fun K7 hK7 => ?_; refine S_region ?_; refine S_val E (pk_assign rfl rfl) rfl rfl rfl ?_; clear E a; intro a E; refine hK7 _ _ ?_; refine wp_ret ?_
            repeat (first | refine then_ret ?_ | refine block_ret ?_)
            refine ret1 rfl E (resT rfl) ?_; refine ⟨?_, H.keepLR (L := []) (R := [])⟩
            rw [if_neg]
            simp only [okS, Bool.and_eq_true, decide_eq_true_eq, Bool.not_eq_true', bne_iff_ne, ne_eq] at *
            omega
          · skip
            clear E; intro c33 E; refine S_else E rfl ?_; refine wp_skip ?_; refine hK1 _ _ ?_; refine wp_seq_k fun K8 hK8 => ?_; refine wp_seq_k fun K9 hK9 => ?_; refine S_region ?_; refine S_val E (pk_fieldAddr (off := 2) rfl rfl (by kernel_rfl)) rfl rfl rfl ?_; clear E a; intro a E; refine S_val E (pk_load1 H 0 rfl rfl rfl trivial rfl (by kernel_rfl)) rfl rfl rfl ?_; clear E a; intro a E; refine S_val E (pk_len rfl rfl (by kernel_rfl)) rfl rfl rfl ?_; clear E a; intro a E; refine S_val E (pk_move rfl rfl) rfl rfl rfl ?_; clear E a; intro a E; refine hK9 _ _ ?_; refine wp_block ?_
            refine S_loopK (γ := Nat) [1, 35, 36] (fun k => [(37, .int .i64 (k : Int))]) (fun k => k ≤ wait.length ∧ ∀ (i : Nat) x, i < k → wait[i]? = some x → oddB nx x.no x.rc = false) (fun k => wait.length - k) (0) E H (by repeat (first | exact trivial | refine ⟨rfl, ?_⟩)) (⟨Nat.zero_le _, fun i x hi => absurd hi (Nat.not_lt_zero _)⟩) ?_; clear E H; intro k a w E H hφ; replace E : Env a _ [(37, _), (1, _), (35, _), (36, _)] := E; replace H : Sep _ _ _ _ [_] [_, _] := H; refine wp_seq_k fun K10 hK10 => ?_; refine S_region ?_; refine S_val E (pk_int rfl rfl rfl rfl) rfl rfl rfl ?_; clear E a; intro a E; refine hK10 _ _ ?_; refine wp_seq_k fun K11 hK11 => ?_; refine env_split (d := 38) E rfl ?_ ?_
            · skip
              clear E; intro c38 E
              have hk : k < wait.length := by simpa using c38
              have hx0 : wait[k]? = some wait[k] := List.getElem?_eq_getElem hk
              refine S_then E rfl ?_; refine wp_skip ?_; refine hK11 _ _ ?_; refine wp_seq_k fun K12 hK12 => ?_; refine wp_block ?_; refine wp_seq_k fun K13 hK13 => ?_; refine S_region ?_
              obtain ⟨ad39, hA39, hc39, hn39⟩ := LiF.get (A := WA) (T := LtrT) (i := k) (x := wait[k]) (by exact H.fact 1 rfl) hx0
              refine S_val E (pk_elA (sz := 3) hA39 rfl (by kernel_rfl) rfl rfl rfl (by omega)) rfl rfl rfl ?_; clear E a; intro a E
              replace H := (H.know hn39).know hc39
              clear hn39 hc39; replace H : Sep _ _ _ _ _ [_, _, _, _] := H; refine S_val E (pk_loadE (n := 3) (H.fact 0 rfl) (fun _ _ _ => trivial) rfl rfl rfl (by kernel_rfl)) rfl rfl rfl ?_; clear E a; intro a E; refine S_eff E rfl (fun K hK => ?_); refine eff_alloc (z := [.one (.int .i64 0), .one (.int .i64 0), .one (.slice none 0 0)]) H rfl (by kernel_rfl) ?_; clear H; intro b4 w H _; refine hK _ _ ?_; clear hK K; refine S_put E rfl rfl ?_; clear E a; intro a E; refine S_eff E rfl (fun K hK => ?_); refine eff_store 0 E H rfl rfl rfl rfl rfl (by repeat (first | exact trivial | refine ⟨rfl, ?_⟩ | refine ⟨fun _ _ => rfl, ?_⟩)) rfl (by kernel_rfl) rfl ?_; clear H; intro w H _; replace H : Sep _ _ _ _ [_, _] _ := H; refine hK _ _ ?_; clear hK K; refine S_put0 rfl ?_; refine hK13 _ _ ?_; refine wp_seq_k fun K14 hK14 => ?_; refine S_region ?_
              refine S_val E (pk_load (n := 4) H 1 rfl rfl rfl trivial rfl (by kernel_rfl)) rfl rfl rfl ?_; clear E a; intro a E; refine S_val E (pk_load (n := 3) H 0 rfl rfl rfl trivial rfl (by kernel_rfl)) rfl rfl rfl ?_; clear E a; intro a E; refine S_eff E rfl (fun K hK => ?_); refine eff_call E rfl rfl rfl (by kernel_rfl) ?_; refine (Rletter_any H.xk).mono ?_; rintro e w ⟨rfl, H1⟩
              replace H := H.call H1
              clear H1; replace H : Sep _ _ _ _ [_, _] [_, _, _, _] := H; refine hK _ _ ?_; clear hK K; refine S_put E rfl rfl ?_; clear E a; intro a E; refine S_val E (pk_not rfl rfl) rfl rfl rfl ?_; clear E a; intro a E; refine hK14 _ _ ?_; refine env_split (d := 44) E rfl ?_ ?_
              · skip
                clear E; intro c44 E
                have hod : oddB nx wait[k].no wait[k].rc = true := by simpa using c44
                refine S_then E rfl ?_; refine wp_seq_k fun K15 hK15 => ?_; refine S_region ?_; refine S_val E (pk_assign rfl rfl) rfl rfl rfl ?_; clear E a; intro a E; refine hK15 _ _ ?_; refine wp_ret ?_
                repeat (first | refine then_ret ?_ | refine block_ret ?_)
                refine ret1 rfl E (resT rfl) ?_; refine ⟨?_, H.keepLR (L := []) (R := [])⟩
                rw [if_neg]
                have : wait.any (fun x => oddB nx x.no x.rc) = true := List.any_eq_true.2 ⟨_, List.mem_of_getElem? hx0, hod⟩
                unfold okS
                rw [this]
                simp
              · skip
                clear E; intro c44 E
                have hod : oddB nx wait[k].no wait[k].rc = false := by simpa using c44
                refine S_else E rfl ?_; refine wp_skip ?_; refine hK12 _ _ ?_; refine S_region ?_; refine S_val E (pk_intw rfl rfl rfl rfl (wI64 (by omega) (by omega))) rfl rfl rfl ?_; clear E a; intro a E; refine S_val E (pk_move rfl rfl) rfl rfl rfl ?_; clear E a; intro a E; refine loop_end ?_
                exact ⟨k + 1, ⟨E.to (by repeat (first | exact trivial | refine ⟨rfl, ?_⟩)), H.popL.pop.pop, ⟨by omega, fun i x hi hx => by rcases Nat.lt_succ_iff_lt_or_eq.1 hi with h | h; exact hφ.2 i x h hx; subst h; rw [hx0] at hx; obtain rfl := Option.some.inj hx; exact hod⟩⟩, by omega⟩
            · skip
              clear E; intro c38 E
              have hk : ¬ k < wait.length := by simpa using c38
              refine S_else E rfl ?_; refine wp_exit ?_
              repeat (first | refine then_exit ?_ | refine block_hit ?_ | refine block_miss (by decide) ?_)
              refine hK8 _ _ ?_; refine wp_seq_k fun K16 hK16 => ?_; refine S_region ?_; refine S_val E (pk_assign rfl rfl) rfl rfl rfl ?_; clear E a; intro a E; refine hK16 _ _ ?_; refine wp_ret ?_
              repeat (first | refine then_ret ?_ | refine block_ret ?_)
              refine ret1 rfl E (resT rfl) ?_; refine ⟨?_, H.keepLR (L := []) (R := [])⟩
              rw [if_pos]
              have : wait.any (fun x => oddB nx x.no x.rc) = false := List.any_eq_false.2 fun x hx => by
                obtain ⟨i, hi⟩ := List.mem_iff_getElem?.1 hx
                have := hφ.2 i x (by have := (List.getElem?_eq_some_iff.1 hi).1; omega) hi
                simpa using this
              unfold okS
              rw [this]
              simp at *
              omega
set_option maxRecDepth 100000 in
set_option maxHeartbeats 4000000 in
theorem RKind_any {TA : Option Addr} {tc : Nat} {text : List Nat} (hn : text.length ≤ 4000) {X : List Nat} {w0 : World} (hX : ∀ k ∈ X, k < w0.heap.size) (hT : St (TxF TA tc text) w0 X) :
    Calls Try.prog 20 #[.slice TA text.length tc] w0 fun e w' => e = .returned (.int .i64 (kindV text)) ∧ Sep X [] w0 w' [] [] := by
  refine calls_env Try.ntmps20 Try.func20 rfl rfl fun a E => ?_; replace E : Env a _ [(0, _)] := E
  have H : Sep X [] w0 w0 [] [(TxF TA tc text)] := Sep.start hX (List.forall_mem_cons.2 ⟨hT, fun _ h => by cases h⟩)
  refine wp_seq_k fun K0 hK0 => ?_; refine S_region ?_; refine S_val E (pk_assign rfl rfl) rfl rfl rfl ?_; clear E a; intro a E; refine hK0 _ _ ?_; refine wp_seq_k fun K1 hK1 => ?_; refine wp_seq_k fun K2 hK2 => ?_; refine S_region ?_; refine S_val E (pk_move rfl rfl) rfl rfl rfl ?_; clear E a; intro a E; refine S_eff E rfl (fun K hK => ?_); refine eff_call E rfl rfl rfl (by kernel_rfl) ?_; refine (rreadCommit_sep hn H.xk (H.fact 0 rfl)).mono ?_; rintro e w ⟨at4, rfl, hok, H1⟩
  replace H := H.call H1
  clear H1; replace H : Sep _ _ _ _ [] [_] := H; refine hK _ _ ?_; clear hK K; refine S_put E rfl rfl ?_; clear E a; intro a E; refine S_val E (pk_move rfl rfl) rfl rfl rfl ?_; clear E a; intro a E; refine S_val E (pk_extract rfl rfl rfl) rfl rfl rfl ?_; clear E a; intro a E; refine S_val E (pk_extract rfl rfl rfl) rfl rfl rfl ?_; clear E a; intro a E; refine S_eff E rfl (fun K hK => ?_); refine eff_alloc (z := [.one (.int .u64 0), .one (.int .i64 0), .one (.slice none 0 0), .key [], .one (.slice none 0 0), .one (.slice none 0 0), .one (.slice none 0 0), .key []]) H rfl (by kernel_rfl) ?_; clear H; intro b3 w H _; refine hK _ _ ?_; clear hK K; refine S_put E rfl rfl ?_; clear E a; intro a E; refine S_eff E rfl (fun K hK => ?_); refine eff_store 0 E H rfl rfl rfl rfl rfl (by repeat (first | exact trivial | refine ⟨rfl, ?_⟩ | refine ⟨fun _ _ => rfl, ?_⟩)) rfl (by kernel_rfl) rfl ?_; clear H
  intro w H _; replace H : Sep _ _ _ _ [_] _ := H; refine hK _ _ ?_; clear hK K; refine S_put0 rfl ?_; refine S_val E (pk_assign rfl rfl) rfl rfl rfl ?_; clear E a; intro a E; refine hK2 _ _ ?_; refine wp_seq_k fun K3 hK3 => ?_; refine S_region ?_; refine S_val E (pk_move rfl rfl) rfl rfl rfl ?_; clear E a; intro a E; refine S_val E (pk_int rfl rfl rfl rfl) rfl rfl rfl ?_; clear E a; intro a E; refine hK3 _ _ ?_; refine env_split (d := 15) E rfl ?_ ?_
  · skip
    clear E; intro c15 E; refine S_then E rfl ?_; refine wp_seq_k fun K4 hK4 => ?_; refine S_region ?_; refine S_val E (pk_assign rfl rfl) rfl rfl rfl ?_; clear E a; intro a E; refine hK4 _ _ ?_; refine wp_ret ?_
    repeat (first | refine then_ret ?_ | refine block_ret ?_)
    refine ret1 rfl E (resT rfl) ?_
    have c := eq_of_beq c15
    exact ⟨by unfold kindV; rw [if_pos c], H.keepLR (L := []) (R := [])⟩
  · skip
    clear E; intro c15 E; refine S_else E rfl ?_; refine wp_skip ?_; refine hK1 _ _ ?_; refine wp_seq_k fun K5 hK5 => ?_; refine wp_seq_k fun K6 hK6 => ?_; refine S_region ?_; refine S_val E (pk_move rfl rfl) rfl rfl rfl ?_; clear E a; intro a E; refine S_eff E rfl (fun K hK => ?_); refine eff_call E rfl rfl rfl (by kernel_rfl) ?_; refine (rreadWelcome_sep H.xk (H.fact 0 rfl)).mono ?_; rintro e w ⟨wA, wc, rfl, H1⟩
    replace H := H.call H1
    clear H1; replace H : Sep _ _ _ _ [_] [_] := H; refine hK _ _ ?_; clear hK K; refine S_put E rfl rfl ?_; clear E a; intro a E; refine S_val E (pk_move rfl rfl) rfl rfl rfl ?_; clear E a; intro a E; refine S_val E (pk_extract rfl rfl rfl) rfl rfl rfl ?_; clear E a; intro a E; refine S_val E (pk_extract rfl rfl rfl) rfl rfl rfl ?_; clear E a; intro a E; refine S_eff E rfl (fun K hK => ?_); refine eff_alloc (z := [.one (.int .i64 0), .one (.slice none 0 0), .one (.slice none 0 0), .one (.slice none 0 0)]) H rfl (by kernel_rfl) ?_; clear H; intro b5 w H _; refine hK _ _ ?_; clear hK K; refine S_put E rfl rfl ?_; clear E a; intro a E; refine S_eff E rfl (fun K hK => ?_); refine eff_store 0 E H rfl rfl rfl rfl rfl (by repeat (first | exact trivial | refine ⟨rfl, ?_⟩ | refine ⟨fun _ _ => rfl, ?_⟩)) rfl (by kernel_rfl) rfl ?_; clear H; intro w H _; replace H : Sep _ _ _ _ [_, _] _ := H
    refine hK _ _ ?_; clear hK K; refine S_put0 rfl ?_; refine S_val E (pk_assign rfl rfl) rfl rfl rfl ?_; clear E a; intro a E; refine hK6 _ _ ?_; refine wp_seq_k fun K7 hK7 => ?_; refine S_region ?_; refine S_val E (pk_move rfl rfl) rfl rfl rfl ?_; clear E a; intro a E; refine S_val E (pk_int rfl rfl rfl rfl) rfl rfl rfl ?_; clear E a; intro a E; refine hK7 _ _ ?_; refine env_split (d := 22) E rfl ?_ ?_
    · skip
      clear E; intro c22 E; refine S_then E rfl ?_; refine wp_seq_k fun K8 hK8 => ?_; refine S_region ?_; refine S_val E (pk_assign rfl rfl) rfl rfl rfl ?_; clear E a; intro a E; refine hK8 _ _ ?_; refine wp_ret ?_
      repeat (first | refine then_ret ?_ | refine block_ret ?_)
      refine ret1 rfl E (resT rfl) ?_
      have c := ne_of_beq_false c15
      have d := eq_of_beq c22
      exact ⟨by unfold kindV; rw [if_neg c, if_pos d], H.keepLR (L := []) (R := [])⟩
    · skip
      clear E; intro c22 E; refine S_else E rfl ?_; refine wp_skip ?_; refine hK5 _ _ ?_; refine wp_seq_k fun K9 hK9 => ?_; refine wp_seq_k fun K10 hK10 => ?_; refine S_region ?_; refine S_val E (pk_move rfl rfl) rfl rfl rfl ?_; clear E a; intro a E; refine S_eff E rfl (fun K hK => ?_); refine eff_call E rfl rfl rfl (by kernel_rfl) ?_; refine (rreadFrame_sep H.xk (H.fact 0 rfl)).mono ?_; rintro e w ⟨fA, fc, rfl, H1⟩
      replace H := H.call H1
      clear H1; replace H : Sep _ _ _ _ [_, _] [_] := H; refine hK _ _ ?_; clear hK K; refine S_put E rfl rfl ?_; clear E a; intro a E; refine S_val E (pk_move rfl rfl) rfl rfl rfl ?_; clear E a; intro a E; refine S_val E (pk_extract rfl rfl rfl) rfl rfl rfl ?_; clear E a; intro a E; refine S_val E (pk_extract rfl rfl rfl) rfl rfl rfl ?_; clear E a; intro a E; refine S_eff E rfl (fun K hK => ?_); refine eff_alloc (z := [.one (.int .u64 0), .one (.int .i64 0), .one (.int .u64 0), .one (.slice none 0 0)]) H rfl (by kernel_rfl) ?_; clear H; intro b7 w H _; refine hK _ _ ?_; clear hK K; refine S_put E rfl rfl ?_; clear E a; intro a E; refine S_eff E rfl (fun K hK => ?_); refine eff_store 0 E H rfl rfl rfl rfl rfl (by repeat (first | exact trivial | refine ⟨rfl, ?_⟩ | refine ⟨fun _ _ => rfl, ?_⟩)) rfl (by kernel_rfl) rfl ?_; clear H; intro w H _; replace H : Sep _ _ _ _ [_, _, _] _ := H
      refine hK _ _ ?_; clear hK K; refine S_put0 rfl ?_; refine S_val E (pk_assign rfl rfl) rfl rfl rfl ?_; clear E a; intro a E; refine hK10 _ _ ?_; refine wp_seq_k fun K11 hK11 => ?_; refine S_region ?_; refine S_val E (pk_move rfl rfl) rfl rfl rfl ?_; clear E a; intro a E; refine S_val E (pk_int rfl rfl rfl rfl) rfl rfl rfl ?_; clear E a; intro a E; refine hK11 _ _ ?_; refine env_split (d := 29) E rfl ?_ ?_
      · skip
        clear E; intro c29 E; refine S_then E rfl ?_; refine wp_seq_k fun K12 hK12 => ?_; refine S_region ?_; refine S_val E (pk_assign rfl rfl) rfl rfl rfl ?_; clear E a; intro a E; refine hK12 _ _ ?_; refine wp_ret ?_
        repeat (first | refine then_ret ?_ | refine block_ret ?_)
        refine ret1 rfl E (resT rfl) ?_
        have c := ne_of_beq_false c15
        have d := ne_of_beq_false c22
        have f := eq_of_beq c29
        exact ⟨by unfold kindV; rw [if_neg c, if_neg d, if_pos f], H.keepLR (L := []) (R := [])⟩
      · skip
        clear E; intro c29 E; refine S_else E rfl ?_; refine wp_skip ?_; refine hK9 _ _ ?_; refine wp_seq_k fun K13 hK13 => ?_; refine S_region ?_; refine S_val E (pk_assign rfl rfl) rfl rfl rfl ?_; clear E a; intro a E; refine hK13 _ _ ?_; refine wp_ret ?_
        repeat (first | refine then_ret ?_ | refine block_ret ?_)
        refine ret1 rfl E (resT rfl) ?_
        have c := ne_of_beq_false c15
        have d := ne_of_beq_false c22
        have f := ne_of_beq_false c29
        exact ⟨by unfold kindV; rw [if_neg c, if_neg d, if_neg f], H.keepLR (L := []) (R := [])⟩
end Go.Proofs.Yteefhbpmeajbfaa
namespace Go.Proofs.Yteefhbpmeajbfaa
set_option linter.unusedSimpArgs false
set_option linter.unusedVariables false
open Go.RowKit
attribute [local irreducible] farB oddB cmV wlV frV
theorem ne_of_bne {a b : Int} (h : (a != b) = true) : a ≠ b := by simpa using h
theorem eq_of_nbne {a b : Int} (h : (a != b) = false) : a = b := by simpa using h
theorem epV_of {t : List Nat} (h : kindV t = 1) : epV t = (((cmV t).1.ep : Nat) : Int) := by
  unfold kindV at h
  unfold epV
  by_cases hc : (cmV t).2 = 0
  · rw [if_pos hc]
  · rw [if_neg hc] at h
    revert h
    repeat' split
    all_goals omega
set_option maxRecDepth 100000 in
set_option maxHeartbeats 4000000 in
theorem RPost_any {ep nx : Int} {LA WA : Option Addr} {lc wc : Nat} {log : List (List Nat)} {wait : List Ltr} {lm : Nat → TextT.μ} {wm : Nat → LtrT.μ} {TA OA : Option Addr} {tc oc : Nat} {text : List Nat} {tos : List Int} {om : Nat → IntT.μ} (hn : text.length ≤ 4000) (hto : tos.length ≤ 1000000) {X : List Nat} {w0 : World} (hX : ∀ k ∈ X, k < w0.heap.size) (hL : St (LiF TextT LA lc log lm) w0 X) (hW : St (LiF LtrT WA wc wait wm) w0 X) (hT : St (TxF TA tc text) w0 X) (hO : St (LiF IntT OA oc tos om) w0 X) :
    Calls Try.prog 18 #[.agg (ca [.one (.int .u64 ep), .one (.slice LA log.length lc), .one (.slice WA wait.length wc), .one (.int .i64 nx)]), .slice TA text.length tc, .slice OA tos.length oc] w0 fun e w' => ∃ LA' lc' lm' WA' wc' wm', e = .returned (.tuple #[.agg (ca [.one (.int .u64 (postV ⟨ep, log, wait, nx⟩ text tos).1.ep), .one (.slice LA' (postV ⟨ep, log, wait, nx⟩ text tos).1.log.length lc'), .one (.slice WA' (postV ⟨ep, log, wait, nx⟩ text tos).1.wait.length wc'), .one (.int .i64 (postV ⟨ep, log, wait, nx⟩ text tos).1.nx)]), .int .i64 (postV ⟨ep, log, wait, nx⟩ text tos).2]) ∧ Sep X [] w0 w' [] [LiF TextT LA' lc' (postV ⟨ep, log, wait, nx⟩ text tos).1.log lm', LiF LtrT WA' wc' (postV ⟨ep, log, wait, nx⟩ text tos).1.wait wm'] := by
  have hLb := hL.now.big
  have hWb := hW.now.big
  have hkr := kindV_ran text
  refine calls_env Try.ntmps18 Try.func18 rfl rfl fun a E => ?_; replace E : Env a _ [(0, _), (1, _), (2, _)] := E
  have H : Sep X [] w0 w0 [] [(LiF TextT LA lc log lm), (LiF LtrT WA wc wait wm), (TxF TA tc text), (LiF IntT OA oc tos om)] := Sep.start hX (List.forall_mem_cons.2 ⟨hL, List.forall_mem_cons.2 ⟨hW, List.forall_mem_cons.2 ⟨hT, List.forall_mem_cons.2 ⟨hO, fun _ h => by cases h⟩⟩⟩⟩)
  refine wp_seq_k fun K0 hK0 => ?_; refine S_region ?_; refine S_eff E rfl (fun K hK => ?_); refine eff_box E H rfl rfl rfl ?_; clear H; intro b3 w H _; refine hK _ _ ?_; clear hK K; refine S_put E rfl rfl ?_; clear E a; intro a E; refine S_eff E rfl (fun K hK => ?_); refine eff_alloc (z := [.one (.int .u64 0), .one (.slice none 0 0), .one (.slice none 0 0), .one (.int .i64 0)]) H rfl (by kernel_rfl) ?_; clear H; intro b6 w H _; refine hK _ _ ?_; clear hK K; refine S_put E rfl rfl ?_; clear E a; intro a E; refine S_val E (pk_assign rfl rfl) rfl rfl rfl ?_; clear E a; intro a E; refine hK0 _ _ ?_; refine wp_seq_k fun K1 hK1 => ?_; refine wp_seq_k fun K2 hK2 => ?_; refine S_region ?_; refine S_val E (pk_load (n := 4) H 1 rfl rfl rfl trivial rfl (by kernel_rfl)) rfl rfl rfl ?_; clear E a; intro a E; refine S_eff E rfl (fun K hK => ?_); refine eff_call E rfl rfl rfl (by kernel_rfl) ?_
  refine (RSCheck_any H.xk (H.fact 0 rfl) (H.fact 1 rfl)).mono ?_; rintro e w ⟨rfl, H1⟩
  replace H := H.call H1
  clear H1; replace H : Sep _ _ _ _ [_, _] [_, _, _, _] := H; refine hK _ _ ?_; clear hK K; refine S_put E rfl rfl ?_; clear E a; intro a E; refine S_val E (pk_int rfl rfl rfl rfl) rfl rfl rfl ?_; clear E a; intro a E; refine hK2 _ _ ?_; refine env_split (d := 17) E rfl ?_ ?_
  · skip
    clear E; intro c17 E
    have hok : okS ⟨ep, log, wait, nx⟩ = false := by simpa using ok_ne c17
    refine S_then E rfl ?_; refine wp_seq_k fun K3 hK3 => ?_; refine S_region ?_; refine S_val E (pk_build (z := [.one (.int .u64 0), .one (.slice none 0 0), .one (.slice none 0 0), .one (.int .i64 0)]) rfl (by kernel_rfl) (by kernel_rfl) rfl) rfl rfl rfl ?_; clear E a; intro a E; refine S_eff E rfl (fun K hK => ?_); refine eff_store 0 E H rfl rfl rfl rfl rfl (by repeat (first | exact trivial | refine ⟨rfl, ?_⟩ | refine ⟨fun _ _ => rfl, ?_⟩)) rfl (by kernel_rfl) rfl ?_; clear H; intro w H _; replace H : Sep _ _ _ _ [_, _] _ := H; refine hK _ _ ?_; clear hK K; refine S_put0 rfl ?_; refine S_val E (pk_assign rfl rfl) rfl rfl rfl ?_; clear E a; intro a E; refine hK3 _ _ ?_; refine wp_ret ?_
    repeat (first | refine then_ret ?_ | refine block_ret ?_)
    refine ret2 rfl E (by exact resC (n := 4) H 0 rfl rfl rfl (by kernel_rfl)) (resT rfl) ?_
    have hP : postV ⟨ep, log, wait, nx⟩ text tos = (noSrv, 1) := by
      unfold postV; exact if_pos (Or.inl hok)
    rw [hP]
    exact ⟨none, 0, fun _ => TextT.dft, none, 0, fun _ => LtrT.dft, rfl, ((H.keepLR (L := []) (R := [])).know liF_nil).know liF_nil⟩
  · skip
    clear E; intro c17 E
    have hok : okS ⟨ep, log, wait, nx⟩ = true := by simpa using ok_ne c17
    obtain ⟨k1, k2, k3, k4, k5, k6⟩ := okS_of hok
    simp only at k1 k2 k3 k4 k5 k6
    refine S_else E rfl ?_; refine wp_skip ?_; refine hK1 _ _ ?_; refine wp_seq_k fun K4 hK4 => ?_; refine wp_seq_k fun K5 hK5 => ?_; refine S_region ?_; refine S_val E (pk_move rfl rfl) rfl rfl rfl ?_; clear E a; intro a E; refine S_val E (pk_len rfl rfl (by kernel_rfl)) rfl rfl rfl ?_; clear E a; intro a E; refine S_val E (pk_move rfl rfl) rfl rfl rfl ?_; clear E a; intro a E; refine hK5 _ _ ?_; refine wp_block ?_; refine S_loopK (γ := Nat) [1, 2, 3, 6, 19, 20] (fun k => [(21, .int .i64 (k : Int))]) (fun k => k ≤ tos.length ∧ ∀ (i : Nat) x, i < k → tos[i]? = some x → farB x = false) (fun k => tos.length - k) (0) E H (by repeat (first | exact trivial | refine ⟨rfl, ?_⟩)) (⟨Nat.zero_le _, fun i x hi => absurd hi (Nat.not_lt_zero _)⟩) ?_; clear E H; intro k a w E H hφ; replace E : Env a _ [(21, _), (1, _), (2, _), (3, _), (6, _), (19, _), (20, _)] := E
    replace H : Sep _ _ _ _ [_, _] [_, _, _, _] := H; refine wp_seq_k fun K6 hK6 => ?_; refine S_region ?_; refine S_val E (pk_int rfl rfl rfl rfl) rfl rfl rfl ?_; clear E a; intro a E; refine hK6 _ _ ?_; refine wp_seq_k fun K7 hK7 => ?_; refine env_split (d := 22) E rfl ?_ ?_
    · skip
      clear E; intro c22 E
      have hk : k < tos.length := by simpa using c22
      have hx0 : tos[k]? = some tos[k] := List.getElem?_eq_getElem hk
      refine S_then E rfl ?_; refine wp_skip ?_; refine hK7 _ _ ?_; refine wp_seq_k fun K8 hK8 => ?_; refine wp_block ?_; refine wp_seq_k fun K9 hK9 => ?_; refine S_region ?_
      obtain ⟨ad23, hA23, hc23, hn23⟩ := LiF.get (A := OA) (T := IntT) (i := k) (x := tos[k]) (by exact H.fact 3 rfl) hx0
      refine S_val E (pk_elA (sz := 1) hA23 rfl (by kernel_rfl) rfl rfl rfl (by omega)) rfl rfl rfl ?_; clear E a; intro a E
      replace H := (H.know hn23).know hc23
      clear hn23 hc23; replace H : Sep _ _ _ _ _ [_, _, _, _, _, _] := H; refine S_val E (pk_loadE1 (H.fact 0 rfl) (fun _ _ _ => trivial) rfl rfl rfl (by kernel_rfl)) rfl rfl rfl ?_; clear E a; intro a E; refine S_val E (pk_assign rfl rfl) rfl rfl rfl ?_; clear E a; intro a E; refine hK9 _ _ ?_; refine wp_seq_k fun K10 hK10 => ?_; refine S_region ?_; refine S_val E (pk_move rfl rfl) rfl rfl rfl ?_; clear E a; intro a E; refine S_eff E rfl (fun K hK => ?_); refine eff_call E rfl rfl rfl (by kernel_rfl) ?_; refine (Rid_any H.xk).mono ?_; rintro e w ⟨rfl, rfl⟩; refine hK _ _ ?_; clear hK K; refine S_put E rfl rfl ?_; clear E a; intro a E; refine S_val E (pk_not rfl rfl) rfl rfl rfl ?_; clear E a; intro a E; refine hK10 _ _ ?_; refine env_split (d := 27) E rfl ?_ ?_
      · skip
        clear E; intro c27 E
        have hfr : farB tos[k] = true := by simpa using c27
        refine S_then E rfl ?_; refine wp_seq_k fun K11 hK11 => ?_; refine S_region ?_; refine S_val E (pk_build (z := [.one (.int .u64 0), .one (.slice none 0 0), .one (.slice none 0 0), .one (.int .i64 0)]) rfl (by kernel_rfl) (by kernel_rfl) rfl) rfl rfl rfl ?_; clear E a; intro a E; refine S_eff E rfl (fun K hK => ?_); refine eff_store 0 E H rfl rfl rfl rfl rfl (by repeat (first | exact trivial | refine ⟨rfl, ?_⟩ | refine ⟨fun _ _ => rfl, ?_⟩)) rfl (by kernel_rfl) rfl ?_; clear H; intro w H _; replace H : Sep _ _ _ _ [_, _] _ := H; refine hK _ _ ?_; clear hK K; refine S_put0 rfl ?_; refine S_val E (pk_assign rfl rfl) rfl rfl rfl ?_; clear E a; intro a E; refine hK11 _ _ ?_; refine wp_ret ?_
        repeat (first | refine then_ret ?_ | refine block_ret ?_)
        refine ret2 rfl E (by exact resC (n := 4) H 0 rfl rfl rfl (by kernel_rfl)) (resT rfl) ?_
        have hP : postV ⟨ep, log, wait, nx⟩ text tos = (noSrv, 1) := by
          unfold postV; exact if_pos (Or.inr (List.any_eq_true.2 ⟨_, List.mem_of_getElem? hx0, hfr⟩))
        rw [hP]
        exact ⟨none, 0, fun _ => TextT.dft, none, 0, fun _ => LtrT.dft, rfl, ((H.keepLR (L := []) (R := [])).know liF_nil).know liF_nil⟩
      · skip
        clear E; intro c27 E
        have hfr : farB tos[k] = false := by simpa using c27
        refine S_else E rfl ?_; refine wp_skip ?_; refine hK8 _ _ ?_; refine S_region ?_; refine S_val E (pk_intw rfl rfl rfl rfl (wI64 (by omega) (by omega))) rfl rfl rfl ?_; clear E a; intro a E; refine S_val E (pk_move rfl rfl) rfl rfl rfl ?_; clear E a; intro a E; refine loop_end ?_
        exact ⟨k + 1, ⟨E.to (by repeat (first | exact trivial | refine ⟨rfl, ?_⟩)), H.pop.pop, ⟨by omega, fun i x hi hx => by rcases Nat.lt_succ_iff_lt_or_eq.1 hi with h | h; exact hφ.2 i x h hx; subst h; rw [hx0] at hx; obtain rfl := Option.some.inj hx; exact hfr⟩⟩, by omega⟩
    · skip
      clear E; intro c22 E
      have hk : ¬ k < tos.length := by simpa using c22
      have hfar : tos.any farB = false := List.any_eq_false.2 fun x hx => by
        obtain ⟨i, hi⟩ := List.mem_iff_getElem?.1 hx
        have := hφ.2 i x (by have := (List.getElem?_eq_some_iff.1 hi).1; omega) hi
        simpa using this
      refine S_else E rfl ?_; refine wp_exit ?_
      repeat (first | refine then_exit ?_ | refine block_hit ?_ | refine block_miss (by decide) ?_)
      refine hK4 _ _ ?_; refine wp_seq_k fun K12 hK12 => ?_; refine S_region ?_; refine S_val E (pk_move rfl rfl) rfl rfl rfl ?_; clear E a; intro a E; refine S_eff E rfl (fun K hK => ?_); refine eff_call E rfl rfl rfl (by kernel_rfl) ?_; refine (RKind_any hn H.xk (H.fact 2 rfl)).mono ?_; rintro e w ⟨rfl, H1⟩
      replace H := H.call H1
      clear H1; replace H : Sep _ _ _ _ [_, _] [_, _, _, _] := H; refine hK _ _ ?_; clear hK K; refine S_put E rfl rfl ?_; clear E a; intro a E; refine S_val E (pk_assign rfl rfl) rfl rfl rfl ?_; clear E a; intro a E; refine hK12 _ _ ?_; refine wp_seq_k fun K13 hK13 => ?_; refine wp_seq_k fun K14 hK14 => ?_; refine S_region ?_; refine S_val E (pk_move rfl rfl) rfl rfl rfl ?_; clear E a; intro a E; refine S_val E (pk_int rfl rfl rfl rfl) rfl rfl rfl ?_; clear E a; intro a E; refine hK14 _ _ ?_; refine env_split (d := 33) E rfl ?_ ?_
      · skip
        clear E; intro c33 E
        have hk0 : kindV text = 0 := eq_of_beq c33
        refine S_then E rfl ?_; refine wp_seq_k fun K15 hK15 => ?_; refine S_region ?_; refine S_val E (pk_build (z := [.one (.int .u64 0), .one (.slice none 0 0), .one (.slice none 0 0), .one (.int .i64 0)]) rfl (by kernel_rfl) (by kernel_rfl) rfl) rfl rfl rfl ?_; clear E a; intro a E; refine S_eff E rfl (fun K hK => ?_); refine eff_store 0 E H rfl rfl rfl rfl rfl (by repeat (first | exact trivial | refine ⟨rfl, ?_⟩ | refine ⟨fun _ _ => rfl, ?_⟩)) rfl (by kernel_rfl) rfl ?_; clear H; intro w H _; replace H : Sep _ _ _ _ [_, _] _ := H; refine hK _ _ ?_; clear hK K; refine S_put0 rfl ?_; refine S_val E (pk_assign rfl rfl) rfl rfl rfl ?_; clear E a; intro a E; refine hK15 _ _ ?_; refine wp_ret ?_
        repeat (first | refine then_ret ?_ | refine block_ret ?_)
        refine ret2 rfl E (by exact resC (n := 4) H 0 rfl rfl rfl (by kernel_rfl)) (resT rfl) ?_
        have hP : postV ⟨ep, log, wait, nx⟩ text tos = (noSrv, 3) := by
          unfold postV; rw [if_neg (show ¬(okS ⟨ep, log, wait, nx⟩ = false ∨ tos.any farB = true) by rw [hok, hfar]; simp)]; exact if_pos hk0
        rw [hP]
        exact ⟨none, 0, fun _ => TextT.dft, none, 0, fun _ => LtrT.dft, rfl, ((H.keepLR (L := []) (R := [])).know liF_nil).know liF_nil⟩
      · skip
        clear E; intro c33 E
        have hk0 : ¬ kindV text = 0 := ne_of_beq_false c33
        refine S_else E rfl ?_; refine wp_skip ?_; refine hK13 _ _ ?_; refine wp_seq_k fun K16 hK16 => ?_; refine S_region ?_; refine S_val E (pk_move rfl rfl) rfl rfl rfl ?_; clear E a; intro a E; refine S_eff E rfl (fun K hK => ?_); refine eff_call E rfl rfl rfl (by kernel_rfl) ?_; refine (rreadCommit_sep hn H.xk (H.fact 2 rfl)).mono ?_; rintro e w ⟨at4, rfl, _, H1⟩
        replace H := H.call H1
        clear H1; replace H : Sep _ _ _ _ [_, _] [_, _, _, _] := H; refine hK _ _ ?_; clear hK K; refine S_put E rfl rfl ?_; clear E a; intro a E; refine S_val E (pk_move rfl rfl) rfl rfl rfl ?_; clear E a; intro a E; refine S_val E (pk_extract rfl rfl rfl) rfl rfl rfl ?_; clear E a; intro a E; refine S_val E (pk_extract rfl rfl rfl) rfl rfl rfl ?_; clear E a; intro a E; refine S_eff E rfl (fun K hK => ?_); refine eff_alloc (z := [.one (.int .u64 0), .one (.int .i64 0), .one (.slice none 0 0), .key [], .one (.slice none 0 0), .one (.slice none 0 0), .one (.slice none 0 0), .key []]) H rfl (by kernel_rfl) ?_; clear H; intro b11 w H _; refine hK _ _ ?_; clear hK K; refine S_put E rfl rfl ?_; clear E a; intro a E; refine S_eff E rfl (fun K hK => ?_)
        refine eff_store 0 E H rfl rfl rfl rfl rfl (by repeat (first | exact trivial | refine ⟨rfl, ?_⟩ | refine ⟨fun _ _ => rfl, ?_⟩)) rfl (by kernel_rfl) rfl ?_; clear H; intro w H _; replace H : Sep _ _ _ _ [_, _, _] _ := H; refine hK _ _ ?_; clear hK K; refine S_put0 rfl ?_; refine S_val E (pk_assign rfl rfl) rfl rfl rfl ?_; clear E a; intro a E; refine hK16 _ _ ?_; refine wp_seq_k fun K17 hK17 => ?_; refine wp_seq_k fun K18 hK18 => ?_; refine S_region ?_; refine S_val E (pk_move rfl rfl) rfl rfl rfl ?_; clear E a; intro a E; refine S_val E (pk_int rfl rfl rfl rfl) rfl rfl rfl ?_; clear E a; intro a E; refine S_val E (pk_move rfl rfl) rfl rfl rfl ?_; clear E a; intro a E; refine env_split (d := 42) E rfl ?_ ?_
        · skip
          clear E; intro c42 E
          have hcm : kindV text = 1 := eq_of_beq c42
          have hep := epV_of hcm
          refine S_val E (pk_fieldAddr (off := 0) rfl rfl (by kernel_rfl)) rfl rfl rfl ?_; clear E a; intro a E; refine S_val E (pk_load1 H 0 rfl rfl rfl trivial rfl (by kernel_rfl)) rfl rfl rfl ?_; clear E a; intro a E; refine S_val E (pk_fieldAddr (off := 0) rfl rfl (by kernel_rfl)) rfl rfl rfl ?_; clear E a; intro a E; refine S_val E (pk_load1 H 2 rfl rfl rfl trivial rfl (by kernel_rfl)) rfl rfl rfl ?_; clear E a; intro a E; refine S_val E (pk_int rfl rfl rfl rfl) rfl rfl rfl ?_; clear E a; intro a E; refine S_val E (pk_pick rfl rfl rfl) rfl rfl rfl ?_; clear E a; intro a E; refine hK18 _ _ ?_; refine env_split (d := 48) E rfl ?_ ?_
          · skip
            clear E; intro c48 E
            have hne : epV text ≠ ep := by rw [hep]; exact ne_of_bne c48
            refine S_then E rfl ?_; refine wp_seq_k fun K19 hK19 => ?_; refine S_region ?_; refine S_val E (pk_build (z := [.one (.int .u64 0), .one (.slice none 0 0), .one (.slice none 0 0), .one (.int .i64 0)]) rfl (by kernel_rfl) (by kernel_rfl) rfl) rfl rfl rfl ?_; clear E a; intro a E; refine S_eff E rfl (fun K hK => ?_); refine eff_store 1 E H rfl rfl rfl rfl rfl (by repeat (first | exact trivial | refine ⟨rfl, ?_⟩ | refine ⟨fun _ _ => rfl, ?_⟩)) rfl (by kernel_rfl) rfl ?_; clear H; intro w H _; replace H : Sep _ _ _ _ [_, _, _] _ := H; refine hK _ _ ?_; clear hK K; refine S_put0 rfl ?_; refine S_val E (pk_assign rfl rfl) rfl rfl rfl ?_; clear E a; intro a E; refine hK19 _ _ ?_; refine wp_ret ?_
            repeat (first | refine then_ret ?_ | refine block_ret ?_)
            refine ret2 rfl E (by exact resC (n := 4) H 1 rfl rfl rfl (by kernel_rfl)) (resT rfl) ?_
            have hP : postV ⟨ep, log, wait, nx⟩ text tos = (noSrv, 9) := by
              unfold postV; rw [if_neg (show ¬(okS ⟨ep, log, wait, nx⟩ = false ∨ tos.any farB = true) by rw [hok, hfar]; simp)]; rw [if_neg hk0]; exact if_pos ⟨hcm, hne⟩
            rw [hP]
            exact ⟨none, 0, fun _ => TextT.dft, none, 0, fun _ => LtrT.dft, rfl, ((H.keepLR (L := []) (R := [])).know liF_nil).know liF_nil⟩
          · skip
            clear E; intro c48 E
            have hee : epV text = ep := by rw [hep]; exact eq_of_nbne c48
            refine S_else E rfl ?_; refine wp_skip ?_; refine hK17 _ _ ?_; refine wp_seq_k fun K20 hK20 => ?_; refine wp_seq_k fun K21 hK21 => ?_; refine S_region ?_; refine S_val E (pk_move rfl rfl) rfl rfl rfl ?_; clear E a; intro a E; refine S_val E (pk_int rfl rfl rfl rfl) rfl rfl rfl ?_; clear E a; intro a E; refine S_val E (pk_move rfl rfl) rfl rfl rfl ?_; clear E a; intro a E; refine env_split (d := 52) E rfl ?_ ?_
            · skip
              clear E; intro c52 E; refine S_val E (pk_fieldAddr (off := 1) rfl rfl (by kernel_rfl)) rfl rfl rfl ?_; clear E a; intro a E; refine S_val E (pk_load1 H 2 rfl rfl rfl trivial rfl (by kernel_rfl)) rfl rfl rfl ?_; clear E a; intro a E; refine S_val E (pk_len rfl rfl (by kernel_rfl)) rfl rfl rfl ?_; clear E a; intro a E; refine S_val E (pk_int rfl rfl rfl rfl) rfl rfl rfl ?_; clear E a; intro a E; refine S_val E (pk_pick rfl rfl rfl) rfl rfl rfl ?_; clear E a; intro a E; refine S_val E (pk_move rfl rfl) rfl rfl rfl ?_; clear E a; intro a E; refine env_split (d := 58) E rfl ?_ ?_
              · skip
                clear E; intro c58 E; refine S_skip E rfl rfl rfl ?_; clear E a; intro a E; refine S_skip E rfl rfl rfl ?_; clear E a; intro a E; refine S_skip E rfl rfl rfl ?_; clear E a; intro a E; refine S_skip E rfl rfl rfl ?_; clear E a; intro a E; refine S_skip E rfl rfl rfl ?_; clear E a; intro a E; refine S_skip E rfl rfl rfl ?_; clear E a; intro a E; refine S_skip E rfl rfl rfl ?_; clear E a; intro a E; refine S_val E (pk_pick rfl rfl rfl) rfl rfl rfl ?_; clear E a; intro a E; refine S_val E (pk_move rfl rfl) rfl rfl rfl ?_; clear E a; intro a E; refine S_skip E rfl rfl rfl ?_; clear E a; intro a E; refine S_skip E rfl rfl rfl ?_; clear E a; intro a E; refine S_skip E rfl rfl rfl ?_; clear E a; intro a E; refine S_skip E rfl rfl rfl ?_; clear E a; intro a E; refine S_skip E rfl rfl rfl ?_; clear E a; intro a E; refine S_skip E rfl rfl rfl ?_; clear E a; intro a E
                refine S_val E (pk_pick rfl rfl rfl) rfl rfl rfl ?_; clear E a; intro a E; refine hK21 _ _ ?_; refine S_then E rfl ?_; refine wp_seq_k fun K22 hK22 => ?_; refine S_region ?_; refine S_val E (pk_build (z := [.one (.int .u64 0), .one (.slice none 0 0), .one (.slice none 0 0), .one (.int .i64 0)]) rfl (by kernel_rfl) (by kernel_rfl) rfl) rfl rfl rfl ?_; clear E a; intro a E; refine S_eff E rfl (fun K hK => ?_); refine eff_store 1 E H rfl rfl rfl rfl rfl (by repeat (first | exact trivial | refine ⟨rfl, ?_⟩ | refine ⟨fun _ _ => rfl, ?_⟩)) rfl (by kernel_rfl) rfl ?_; clear H; intro w H _; replace H : Sep _ _ _ _ [_, _, _] _ := H; refine hK _ _ ?_; clear hK K; refine S_put0 rfl ?_; refine S_val E (pk_assign rfl rfl) rfl rfl rfl ?_; clear E a; intro a E; refine hK22 _ _ ?_; refine wp_ret ?_
                repeat (first | refine then_ret ?_ | refine block_ret ?_)
                refine ret2 rfl E (by exact resC (n := 4) H 1 rfl rfl rfl (by kernel_rfl)) (resT rfl) ?_
                have hP : postV ⟨ep, log, wait, nx⟩ text tos = (noSrv, 8) := by
                  unfold postV; rw [if_neg (show ¬(okS ⟨ep, log, wait, nx⟩ = false ∨ tos.any farB = true) by rw [hok, hfar]; simp)]; rw [if_neg hk0]; rw [if_neg (show ¬(kindV text = 1 ∧ epV text ≠ (⟨ep, log, wait, nx⟩ : Srv).ep) by rintro ⟨_, h⟩; exact h hee)]; exact if_pos (by simp only; simp only [decide_eq_true_eq, beq_iff_eq] at *; omega)
                rw [hP]
                exact ⟨none, 0, fun _ => TextT.dft, none, 0, fun _ => LtrT.dft, rfl, ((H.keepLR (L := []) (R := [])).know liF_nil).know liF_nil⟩
              · skip
                clear E; intro c58 E; refine S_val E (pk_fieldAddr (off := 2) rfl rfl (by kernel_rfl)) rfl rfl rfl ?_; clear E a; intro a E; refine S_val E (pk_load1 H 2 rfl rfl rfl trivial rfl (by kernel_rfl)) rfl rfl rfl ?_; clear E a; intro a E; refine S_val E (pk_len rfl rfl (by kernel_rfl)) rfl rfl rfl ?_; clear E a; intro a E; refine S_val E (pk_move rfl rfl) rfl rfl rfl ?_; clear E a; intro a E; refine S_val E (pk_len rfl rfl (by kernel_rfl)) rfl rfl rfl ?_; clear E a; intro a E; refine S_val E (pk_intw rfl rfl rfl rfl (wI64 (by omega) (by omega))) rfl rfl rfl ?_; clear E a; intro a E; refine S_val E (pk_int rfl rfl rfl rfl) rfl rfl rfl ?_; clear E a; intro a E; refine S_val E (pk_pick rfl rfl rfl) rfl rfl rfl ?_; clear E a; intro a E; refine S_val E (pk_move rfl rfl) rfl rfl rfl ?_; clear E a; intro a E; refine env_split (d := 67) E rfl ?_ ?_
                · skip
                  clear E; intro c67 E; refine S_skip E rfl rfl rfl ?_; clear E a; intro a E; refine S_skip E rfl rfl rfl ?_; clear E a; intro a E; refine S_skip E rfl rfl rfl ?_; clear E a; intro a E; refine S_skip E rfl rfl rfl ?_; clear E a; intro a E; refine S_skip E rfl rfl rfl ?_; clear E a; intro a E; refine S_skip E rfl rfl rfl ?_; clear E a; intro a E; refine S_val E (pk_pick rfl rfl rfl) rfl rfl rfl ?_; clear E a; intro a E; refine hK21 _ _ ?_; refine S_then E rfl ?_; refine wp_seq_k fun K23 hK23 => ?_; refine S_region ?_; refine S_val E (pk_build (z := [.one (.int .u64 0), .one (.slice none 0 0), .one (.slice none 0 0), .one (.int .i64 0)]) rfl (by kernel_rfl) (by kernel_rfl) rfl) rfl rfl rfl ?_; clear E a; intro a E; refine S_eff E rfl (fun K hK => ?_)
                  refine eff_store 1 E H rfl rfl rfl rfl rfl (by repeat (first | exact trivial | refine ⟨rfl, ?_⟩ | refine ⟨fun _ _ => rfl, ?_⟩)) rfl (by kernel_rfl) rfl ?_; clear H; intro w H _; replace H : Sep _ _ _ _ [_, _, _] _ := H; refine hK _ _ ?_; clear hK K; refine S_put0 rfl ?_; refine S_val E (pk_assign rfl rfl) rfl rfl rfl ?_; clear E a; intro a E; refine hK23 _ _ ?_; refine wp_ret ?_
                  repeat (first | refine then_ret ?_ | refine block_ret ?_)
                  refine ret2 rfl E (by exact resC (n := 4) H 1 rfl rfl rfl (by kernel_rfl)) (resT rfl) ?_
                  have hP : postV ⟨ep, log, wait, nx⟩ text tos = (noSrv, 8) := by
                    unfold postV; rw [if_neg (show ¬(okS ⟨ep, log, wait, nx⟩ = false ∨ tos.any farB = true) by rw [hok, hfar]; simp)]; rw [if_neg hk0]; rw [if_neg (show ¬(kindV text = 1 ∧ epV text ≠ (⟨ep, log, wait, nx⟩ : Srv).ep) by rintro ⟨_, h⟩; exact h hee)]; exact if_pos (by simp only; simp only [decide_eq_true_eq, beq_iff_eq] at *; omega)
                  rw [hP]
                  exact ⟨none, 0, fun _ => TextT.dft, none, 0, fun _ => LtrT.dft, rfl, ((H.keepLR (L := []) (R := [])).know liF_nil).know liF_nil⟩
                · skip
                  clear E; intro c67 E; refine S_val E (pk_fieldAddr (off := 3) rfl rfl (by kernel_rfl)) rfl rfl rfl ?_; clear E a; intro a E; refine S_val E (pk_load1 H 2 rfl rfl rfl trivial rfl (by kernel_rfl)) rfl rfl rfl ?_; clear E a; intro a E; refine S_val E (pk_move rfl rfl) rfl rfl rfl ?_; clear E a; intro a E; refine S_val E (pk_len rfl rfl (by kernel_rfl)) rfl rfl rfl ?_; clear E a; intro a E; refine S_val E (pk_intw rfl rfl rfl rfl (wI64 (by omega) (by omega))) rfl rfl rfl ?_; clear E a; intro a E; refine S_val E (pk_int rfl rfl rfl rfl) rfl rfl rfl ?_; clear E a; intro a E; refine S_val E (pk_pick rfl rfl rfl) rfl rfl rfl ?_; clear E a; intro a E; refine hK21 _ _ ?_; refine env_split (d := 74) E rfl ?_ ?_
                  · skip
                    clear E; intro c74 E; refine S_then E rfl ?_; refine wp_seq_k fun K24 hK24 => ?_; refine S_region ?_; refine S_val E (pk_build (z := [.one (.int .u64 0), .one (.slice none 0 0), .one (.slice none 0 0), .one (.int .i64 0)]) rfl (by kernel_rfl) (by kernel_rfl) rfl) rfl rfl rfl ?_; clear E a; intro a E; refine S_eff E rfl (fun K hK => ?_); refine eff_store 1 E H rfl rfl rfl rfl rfl (by repeat (first | exact trivial | refine ⟨rfl, ?_⟩ | refine ⟨fun _ _ => rfl, ?_⟩)) rfl (by kernel_rfl) rfl ?_; clear H; intro w H _; replace H : Sep _ _ _ _ [_, _, _] _ := H; refine hK _ _ ?_; clear hK K; refine S_put0 rfl ?_; refine S_val E (pk_assign rfl rfl) rfl rfl rfl ?_; clear E a; intro a E; refine hK24 _ _ ?_; refine wp_ret ?_
                    repeat (first | refine then_ret ?_ | refine block_ret ?_)
                    refine ret2 rfl E (by exact resC (n := 4) H 1 rfl rfl rfl (by kernel_rfl)) (resT rfl) ?_
                    have hP : postV ⟨ep, log, wait, nx⟩ text tos = (noSrv, 8) := by
                      unfold postV; rw [if_neg (show ¬(okS ⟨ep, log, wait, nx⟩ = false ∨ tos.any farB = true) by rw [hok, hfar]; simp)]; rw [if_neg hk0]; rw [if_neg (show ¬(kindV text = 1 ∧ epV text ≠ (⟨ep, log, wait, nx⟩ : Srv).ep) by rintro ⟨_, h⟩; exact h hee)]; exact if_pos (by simp only; simp only [decide_eq_true_eq, beq_iff_eq] at *; omega)
                    rw [hP]
                    exact ⟨none, 0, fun _ => TextT.dft, none, 0, fun _ => LtrT.dft, rfl, ((H.keepLR (L := []) (R := [])).know liF_nil).know liF_nil⟩
                  · skip
                    clear E; intro c74 E; refine S_else E rfl ?_; refine wp_skip ?_; refine hK20 _ _ ?_; refine wp_seq_k fun K25 hK25 => ?_
                    have hold : ¬(kindV text = 1 ∧ epV text ≠ (⟨ep, log, wait, nx⟩ : Srv).ep) := by rintro ⟨_, h⟩; exact h hee
                    have hfull : ¬((kindV text = 1 ∧ (⟨ep, log, wait, nx⟩ : Srv).log.length = 2000) ∨ 20000 < (⟨ep, log, wait, nx⟩ : Srv).wait.length + tos.length ∨ 1099511627776 < (⟨ep, log, wait, nx⟩ : Srv).nx + (tos.length : Int)) := by
                      simp only
                      simp only [decide_eq_false_iff_not, beq_eq_false_iff_ne, ne_eq] at *
                      omega
                    replace H := H.popL
                    refine S_region ?_; refine S_val E (pk_load (n := 4) H 1 rfl rfl rfl trivial rfl (by kernel_rfl)) rfl rfl rfl ?_; clear E a; intro a E; refine S_eff E rfl (fun K hK => ?_); refine eff_call E rfl rfl rfl (by kernel_rfl) ?_; refine (RCopy_any (by omega) (by omega) H.xk (H.fact 0 rfl) (H.fact 1 rfl)).mono ?_; rintro e w ⟨LA9, lc9, WA9, wc9, ds, es, hds, hes, rfl, H1⟩
                    replace H := H.call H1
                    clear H1; replace H : Sep _ _ _ _ [_, _, _, _] [_, _, _, _, _, _] := H; refine hK _ _ ?_; clear hK K; refine S_put E rfl rfl ?_; clear E a; intro a E
                    have hds2 : ds.length = log.length := by rw [← hds, List.length_map]
                    have hes2 : es.length = wait.length := by rw [← hes, List.length_map]
                    refine S_eff E rfl (fun K hK => ?_); refine eff_store 3 E H rfl rfl rfl rfl rfl (by repeat (first | exact trivial | refine ⟨rfl, ?_⟩ | refine ⟨fun _ _ => rfl, ?_⟩)) rfl (by kernel_rfl) rfl ?_; clear H; intro w H _; replace H : Sep _ _ _ _ [_, _, _, _] _ := H; refine hK _ _ ?_; clear hK K; refine S_put0 rfl ?_; refine hK25 _ _ ?_; refine wp_seq_k fun K26 hK26 => ?_; refine wp_seq_k fun K27 hK27 => ?_; refine S_region ?_; refine S_val E (pk_move rfl rfl) rfl rfl rfl ?_; clear E a; intro a E; refine S_val E (pk_int rfl rfl rfl rfl) rfl rfl rfl ?_; clear E a; intro a E; refine hK27 _ _ ?_; refine env_split (d := 79) E rfl ?_ ?_
                    · skip
                      clear E; intro c79 E; refine S_then E rfl ?_; refine wp_seq_k fun K28 hK28 => ?_; refine C_region E H [] 5 [(0, false), (1, false), (2, false), (3, true), (4, true)] (by kernel_rfl) (by kernel_rfl) (fun w HS => ?_)
                      (simp only [canOps, List.getElem?_cons_zero, List.getElem?_cons_succ, List.drop_succ_cons, List.drop_zero])
                      clear H
                      have H := HS
                      have hsz : w.heap.size ≤ w.heap.size := Nat.le_refl _
                      have HK : CanB.Keep (fun k => k < w.heap.size ∧ k ∉ []) w w := CanB.Keep.refl _ _
                      refine C_val E HK (pk_fieldAddr (off := 1) rfl rfl (by kernel_rfl)) rfl rfl rfl (fun _ _ _ _ h => h) ?_; clear E a; intro a E; refine C_val E HK (pk_load1 HS 3 rfl rfl rfl (HS.inS 3 rfl (by simp)) rfl (by kernel_rfl)) rfl rfl rfl (fun _ _ _ _ h => h) ?_; clear E a; intro a E; refine C_val E HK (pk_move rfl rfl) rfl rfl rfl (fun _ _ _ _ h => h) ?_; clear E a; intro a E; refine C_eff E rfl (fun K hK => ?_); refine eff_call E rfl rfl rfl (by kernel_rfl) ?_; refine (copy_sep H.xk (H.fact 4 rfl)).mono ?_; rintro e w ⟨A83, c83, rfl, H1⟩
                      have F := H1.frm
                      replace H := H.call H1
                      clear H1; replace H : Sep _ _ _ _ [_, _, _, _] [_, _, _, _, _, _, _] := H
                      have hk := keep_frm (D := []) F hsz (by simp)
                      refine hK _ _ hk ?_; clear hK K
                      replace HK := HK.trans hk
                      replace hsz := Nat.le_trans hsz (F).size
                      clear hk; refine C_put E rfl rfl ?_; clear E a; intro a E; clear F; refine C_eff E rfl (fun K hK => ?_); refine eff_bslice (sz := 1) (z := [.one (.slice none 0 0)]) E H rfl Try.underlying22 (by kernel_rfl) (by decide) (by kernel_rfl) ⟨_, [.one _], 0, _, rfl, rfl, rfl, rfl, rfl⟩ ?_; clear H; intro b84 w H F
                      have hk := keep_frm (D := []) F hsz (by simp)
                      refine hK _ _ hk ?_; clear hK K
                      replace HK := HK.trans hk
                      replace hsz := Nat.le_trans hsz (F).size
                      clear hk; refine C_put E rfl rfl ?_; clear E a; intro a E; clear F; refine CanB.wpCan_nil ?_
                      try (simp only [List.take_succ_cons, List.take_zero, List.drop_succ_cons, List.drop_zero])
                      clear HS HK hsz; refine S_eff E rfl (fun K hK => ?_); refine eff_app1 (T := TextT) (q := ((text, (A83, c83)) : List Nat × TextT.μ)) (its := ds) 2 0 (by_ := 24) E H rfl rfl rfl rfl rfl rfl ⟨Try.underlying22, by kernel_rfl⟩ (by omega) (by omega) ?_; clear H; intro A85 c85 w hcap85 H F; replace H : Sep _ _ _ _ [_, _, _, _, _] _ := H; refine hK _ _ ?_; clear hK K; refine S_put E rfl rfl ?_; clear E a; intro a E; clear F; refine S_val E (pk_fieldAddr (off := 1) rfl rfl (by kernel_rfl)) rfl rfl rfl ?_; clear E a; intro a E; refine S_eff E rfl (fun K hK => ?_); refine eff_store 4 (new := [.one _]) E H rfl rfl rfl rfl rfl (by repeat (first | exact trivial | refine ⟨rfl, ?_⟩ | refine ⟨fun _ _ => rfl, ?_⟩)) rfl (by kernel_rfl) rfl ?_; clear H; intro w H _; replace H : Sep _ _ _ _ [_, _, _, _, _] _ := H; refine hK _ _ ?_; clear hK K; refine S_put0 rfl ?_
                      refine hK28 _ _ ?_; refine S_region ?_; refine S_val E (pk_fieldAddr (off := 0) rfl rfl (by kernel_rfl)) rfl rfl rfl ?_; clear E a; intro a E; refine S_val E (pk_load1 H 4 rfl rfl rfl trivial rfl (by kernel_rfl)) rfl rfl rfl ?_; clear E a; intro a E; refine S_val E (pk_intw rfl rfl rfl rfl (wU64 (by omega) (by omega))) rfl rfl rfl ?_; clear E a; intro a E; refine S_val E (pk_fieldAddr (off := 0) rfl rfl (by kernel_rfl)) rfl rfl rfl ?_; clear E a; intro a E; refine S_eff E rfl (fun K hK => ?_); refine eff_store 4 (new := [.one _]) E H rfl rfl rfl rfl rfl (by repeat (first | exact trivial | refine ⟨rfl, ?_⟩ | refine ⟨fun _ _ => rfl, ?_⟩)) rfl (by kernel_rfl) rfl ?_; clear H; intro w H _; replace H : Sep _ _ _ _ [_, _, _, _, _] _ := H; refine hK _ _ ?_; clear hK K; refine S_put0 rfl ?_
                      replace H := H.popL
                      refine hK26 _ _ ?_; refine wp_seq_k fun K29 hK29 => ?_; refine wp_seq_k fun K30 hK30 => ?_; refine S_region ?_; refine S_val E (pk_move rfl rfl) rfl rfl rfl ?_; clear E a; intro a E; refine S_val E (pk_len rfl rfl (by kernel_rfl)) rfl rfl rfl ?_; clear E a; intro a E; refine S_val E (pk_move rfl rfl) rfl rfl rfl ?_; clear E a; intro a E; refine hK30 _ _ ?_; refine wp_block ?_
                      have H0 : Sep X [] w0 w [.row (.slice WA9 (es).length wc9) 49 3 (es).length (rowC LtrT (es)), .row (.slice A85 (ds ++ [((text, (A83, c83)) : List Nat × TextT.μ)]).length c85) 23 1 (ds ++ [((text, (A83, c83)) : List Nat × TextT.μ)]).length (rowC TextT ((ds ++ [((text, (A83, c83)) : List Nat × TextT.μ)]))), .blk b6 (ca [.one (.int .u64 0), .one (.slice none 0 0), .one (.slice none 0 0), .one (.int .i64 0)]) 30, .blk b3 (ca [.one (.int .u64 (ep + 1)), .one (.slice A85 (ds ++ [((text, (A83, c83)) : List Nat × TextT.μ)]).length c85), .one (.slice WA9 (es).length wc9), .one (.int .i64 nx)]) 30] [NestF LtrT (es), NestF TextT (ds ++ [((text, (A83, c83)) : List Nat × TextT.μ)]), LiF TextT LA lc log lm, LiF LtrT WA wc wait wm, TxF TA tc text, LiF IntT OA oc tos om] := H.refacts (List.forall_mem_cons.2 ⟨H.fact 1 rfl, List.forall_mem_cons.2 ⟨nest_snoc (q := ((text, (A83, c83)) : List Nat × TextT.μ)) (H.fact 2 rfl) (H.fact 0 rfl), List.forall_mem_cons.2 ⟨H.fact 3 rfl, List.forall_mem_cons.2 ⟨H.fact 4 rfl, List.forall_mem_cons.2 ⟨H.fact 5 rfl, List.forall_mem_cons.2 ⟨H.fact 6 rfl, List.forall_mem_nil _⟩⟩⟩⟩⟩⟩)
                      refine S_loopI (γ := Option Addr × Nat × List (Ltr × LtrT.μ)) [1, 3, 6, 91, 92] (fun g => [(93, .int .i64 (g.2.2.length : Int))]) (fun g => [.row (.slice g.1 (es ++ g.2.2).length g.2.1) 49 3 (es ++ g.2.2).length (rowC LtrT (es ++ g.2.2)), .row (.slice A85 (ds ++ [((text, (A83, c83)) : List Nat × TextT.μ)]).length c85) 23 1 (ds ++ [((text, (A83, c83)) : List Nat × TextT.μ)]).length (rowC TextT ((ds ++ [((text, (A83, c83)) : List Nat × TextT.μ)]))), .blk b6 (ca [.one (.int .u64 0), .one (.slice none 0 0), .one (.slice none 0 0), .one (.int .i64 0)]) 30, .blk b3 (ca [.one (.int .u64 (ep + 1)), .one (.slice A85 (ds ++ [((text, (A83, c83)) : List Nat × TextT.μ)]).length c85), .one (.slice g.1 (es ++ g.2.2).length g.2.1), .one (.int .i64 (nx + (g.2.2.length : Int)))]) 30]) (fun g => [NestF LtrT (es ++ g.2.2), NestF TextT (ds ++ [((text, (A83, c83)) : List Nat × TextT.μ)]), LiF TextT LA lc log lm, LiF LtrT WA wc wait wm, TxF TA tc text, LiF IntT OA oc tos om]) (fun g => g.2.2.length ≤ tos.length ∧ g.2.2.map Prod.fst = (lettersV nx tos text).take g.2.2.length) (fun g => tos.length - g.2.2.length) ((WA9, wc9, [])) E (by simpa using H0) (by repeat (first | exact trivial | refine ⟨rfl, ?_⟩)) (⟨Nat.zero_le _, rfl⟩) ?_
                      clear E H; intro g a w E H hφ; replace E : Env a _ [(93, _), (1, _), (3, _), (6, _), (91, _), (92, _)] := E; replace H : Sep _ _ _ _ [_, _, _, _] [_, _, _, _, _, _] := H
                      obtain ⟨gA, gc, ns⟩ := g
                      simp only at E H hφ ⊢
                      refine wp_seq_k fun K31 hK31 => ?_; refine S_region ?_; refine S_val E (pk_int rfl rfl rfl rfl) rfl rfl rfl ?_; clear E a; intro a E; refine hK31 _ _ ?_; refine wp_seq_k fun K32 hK32 => ?_; refine env_split (d := 94) E rfl ?_ ?_
                      · skip
                        clear E; intro c94 E
                        have hk2 : ns.length < tos.length := by simpa using c94
                        have hx0 : tos[ns.length]? = some tos[ns.length] := List.getElem?_eq_getElem hk2
                        have hx1 : (lettersV nx tos text)[ns.length]? = some ⟨nx + (ns.length : Int), tos[ns.length], text⟩ := by simp [lettersV, hx0]
                        refine S_then E rfl ?_; refine wp_skip ?_; refine hK32 _ _ ?_; refine wp_seq_k fun K33 hK33 => ?_; refine wp_block ?_; refine wp_seq_k fun K34 hK34 => ?_; refine S_region ?_
                        obtain ⟨ad95, hA95, hc95, hn95⟩ := LiF.get (A := OA) (T := IntT) (i := ns.length) (x := tos[ns.length]) (by exact H.fact 5 rfl) hx0
                        refine S_val E (pk_elA (sz := 1) hA95 rfl (by kernel_rfl) rfl rfl rfl (by omega)) rfl rfl rfl ?_; clear E a; intro a E
                        replace H := (H.know hn95).know hc95
                        clear hn95 hc95; replace H : Sep _ _ _ _ _ [_, _, _, _, _, _, _, _] := H; refine S_val E (pk_loadE1 (H.fact 0 rfl) (fun _ _ _ => trivial) rfl rfl rfl (by kernel_rfl)) rfl rfl rfl ?_; clear E a; intro a E; refine S_val E (pk_assign rfl rfl) rfl rfl rfl ?_; clear E a; intro a E; refine hK34 _ _ ?_; refine wp_seq_k fun K35 hK35 => ?_; refine C_region E H [] 9 [(0, false), (1, false), (2, false), (3, false), (4, false), (5, false), (6, true), (7, false), (8, true)] (by kernel_rfl) (by kernel_rfl) (fun w HS => ?_)
                        (simp only [canOps, List.getElem?_cons_zero, List.getElem?_cons_succ, List.drop_succ_cons, List.drop_zero])
                        clear H
                        have H := HS
                        have hsz : w.heap.size ≤ w.heap.size := Nat.le_refl _
                        have HK : CanB.Keep (fun k => k < w.heap.size ∧ k ∉ []) w w := CanB.Keep.refl _ _
                        refine C_val E HK (pk_fieldAddr (off := 2) rfl rfl (by kernel_rfl)) rfl rfl rfl (fun _ _ _ _ h => h) ?_; clear E a; intro a E; refine C_val E HK (pk_load1 HS 3 rfl rfl rfl (HS.inS 3 rfl (by simp)) rfl (by kernel_rfl)) rfl rfl rfl (fun _ _ _ _ h => h) ?_; clear E a; intro a E; refine C_val E HK (pk_fieldAddr (off := 3) rfl rfl (by kernel_rfl)) rfl rfl rfl (fun _ _ _ _ h => h) ?_; clear E a; intro a E; refine C_val E HK (pk_load1 HS 3 rfl rfl rfl (HS.inS 3 rfl (by simp)) rfl (by kernel_rfl)) rfl rfl rfl (fun _ _ _ _ h => h) ?_; clear E a; intro a E; refine C_val E HK (pk_move rfl rfl) rfl rfl rfl (fun _ _ _ _ h => h) ?_; clear E a; intro a E; refine C_val E HK (pk_move rfl rfl) rfl rfl rfl (fun _ _ _ _ h => h) ?_; clear E a; intro a E; refine C_eff E rfl (fun K hK => ?_); refine eff_call E rfl rfl rfl (by kernel_rfl) ?_; refine (copy_sep H.xk (H.fact 6 rfl)).mono ?_
                        rintro e w ⟨A103, c103, rfl, H1⟩
                        have F := H1.frm
                        replace H := H.call H1
                        clear H1; replace H : Sep _ _ _ _ [_, _, _, _] [_, _, _, _, _, _, _, _, _] := H
                        have hk := keep_frm (D := []) F hsz (by simp)
                        refine hK _ _ hk ?_; clear hK K
                        replace HK := HK.trans hk
                        replace hsz := Nat.le_trans hsz (F).size
                        clear hk; refine C_put E rfl rfl ?_; clear E a; intro a E; clear F; refine C_val E HK (pk_build (z := [.one (.int .i64 0), .one (.int .i64 0), .one (.slice none 0 0)]) rfl (by kernel_rfl) (by kernel_rfl) ⟨_, [.one _], 0, _, rfl, rfl, (by kernel_rfl), rfl, ⟨_, [.one _], 1, _, rfl, rfl, (by kernel_rfl), rfl, ⟨_, [.one _], 2, _, rfl, rfl, (by kernel_rfl), rfl, rfl⟩⟩⟩) rfl rfl rfl (fun _ _ _ _ h => h) ?_; clear E a; intro a E; refine C_eff E rfl (fun K hK => ?_); refine eff_bslice (sz := 3) (z := [.one (.int .i64 0), .one (.int .i64 0), .one (.slice none 0 0)]) E H rfl Try.underlying28 (by kernel_rfl) (by decide) (by kernel_rfl) ⟨_, _, 0, _, rfl, rfl, rfl, rfl, rfl⟩ ?_; clear H; intro b105 w H F
                        have hk := keep_frm (D := []) F hsz (by simp)
                        refine hK _ _ hk ?_; clear hK K
                        replace HK := HK.trans hk
                        replace hsz := Nat.le_trans hsz (F).size
                        clear hk; refine C_put E rfl rfl ?_; clear E a; intro a E; clear F; refine CanB.wpCan_nil ?_
                        try (simp only [List.take_succ_cons, List.take_zero, List.drop_succ_cons, List.drop_zero])
                        clear HS HK hsz; refine S_eff E rfl (fun K hK => ?_); refine eff_app1 (T := LtrT) (q := (((⟨nx + (ns.length : Int), tos[ns.length], text⟩ : Ltr), (A103, c103)) : Ltr × LtrT.μ)) (its := es ++ ns) 1 0 (by_ := 40) E H rfl rfl rfl rfl rfl rfl ⟨Try.underlying28, by kernel_rfl⟩ (by simp only [List.length_append]; omega) (by simp only [List.length_append]; omega) ?_; clear H; intro A106 c106 w hcap106 H F; replace H : Sep _ _ _ _ [_, _, _, _, _] _ := H; refine hK _ _ ?_; clear hK K; refine S_put E rfl rfl ?_; clear E a; intro a E; clear F; refine S_val E (pk_fieldAddr (off := 2) rfl rfl (by kernel_rfl)) rfl rfl rfl ?_; clear E a; intro a E; refine S_eff E rfl (fun K hK => ?_); refine eff_store 4 (new := [.one _]) E H rfl rfl rfl rfl rfl (by repeat (first | exact trivial | refine ⟨rfl, ?_⟩ | refine ⟨fun _ _ => rfl, ?_⟩)) rfl (by kernel_rfl) rfl ?_
                        clear H; intro w H _; replace H : Sep _ _ _ _ [_, _, _, _, _] _ := H; refine hK _ _ ?_; clear hK K; refine S_put0 rfl ?_; refine hK35 _ _ ?_; refine S_region ?_; refine S_val E (pk_fieldAddr (off := 3) rfl rfl (by kernel_rfl)) rfl rfl rfl ?_; clear E a; intro a E; refine S_val E (pk_load1 H 4 rfl rfl rfl trivial rfl (by kernel_rfl)) rfl rfl rfl ?_; clear E a; intro a E; refine S_val E (pk_intw rfl rfl rfl rfl (wI64 (by omega) (by omega))) rfl rfl rfl ?_; clear E a; intro a E; refine S_val E (pk_fieldAddr (off := 3) rfl rfl (by kernel_rfl)) rfl rfl rfl ?_; clear E a; intro a E; refine S_eff E rfl (fun K hK => ?_); refine eff_store 4 (new := [.one _]) E H rfl rfl rfl rfl rfl (by repeat (first | exact trivial | refine ⟨rfl, ?_⟩ | refine ⟨fun _ _ => rfl, ?_⟩)) rfl (by kernel_rfl) rfl ?_; clear H; intro w H _; replace H : Sep _ _ _ _ [_, _, _, _, _] _ := H
                        refine hK _ _ ?_; clear hK K; refine S_put0 rfl ?_; refine hK33 _ _ ?_; refine S_region ?_; refine S_val E (pk_intw rfl rfl rfl rfl (wI64 (by omega) (by omega))) rfl rfl rfl ?_; clear E a; intro a E; refine S_val E (pk_move rfl rfl) rfl rfl rfl ?_; clear E a; intro a E
                        replace H := (H.refacts (List.forall_mem_cons.2 ⟨nest_snoc (q := (((⟨nx + (ns.length : Int), tos[ns.length], text⟩ : Ltr), (A103, c103)) : Ltr × LtrT.μ)) (H.fact 3 rfl) (H.fact 0 rfl), List.forall_mem_cons.2 ⟨H.fact 4 rfl, List.forall_mem_cons.2 ⟨H.fact 5 rfl, List.forall_mem_cons.2 ⟨H.fact 6 rfl, List.forall_mem_cons.2 ⟨H.fact 7 rfl, List.forall_mem_cons.2 ⟨H.fact 8 rfl, List.forall_mem_nil _⟩⟩⟩⟩⟩⟩)).popL
                        rw [List.append_assoc, show nx + (ns.length : Int) + 1 = nx + ((ns ++ [(((⟨nx + (ns.length : Int), tos[ns.length], text⟩ : Ltr), (A103, c103)) : Ltr × LtrT.μ)]).length : Int) by rw [List.length_append]; simp; omega] at H
                        refine loop_end ?_
                        exact ⟨(A106, c106, ns ++ [(((⟨nx + (ns.length : Int), tos[ns.length], text⟩ : Ltr), (A103, c103)) : Ltr × LtrT.μ)]), ⟨E.to (by simp only [List.length_append, List.length_singleton]; repeat (first | exact trivial | refine ⟨rfl, ?_⟩)), H, ⟨by simp only [List.length_append, List.length_singleton]; omega, take_done hφ.2 hx1⟩⟩, by simp only [List.length_append, List.length_singleton]; omega⟩
                      · skip
                        clear E; intro c94 E
                        have hk2 : ¬ ns.length < tos.length := by simpa using c94
                        refine S_else E rfl ?_; refine wp_exit ?_
                        repeat (first | refine then_exit ?_ | refine block_hit ?_ | refine block_miss (by decide) ?_)
                        refine hK29 _ _ ?_; refine wp_seq_k fun K36 hK36 => ?_; refine S_region ?_; refine S_val E (pk_load (n := 4) H 3 rfl rfl rfl trivial rfl (by kernel_rfl)) rfl rfl rfl ?_; clear E a; intro a E; refine S_eff E rfl (fun K hK => ?_); refine eff_store 2 E H rfl rfl rfl rfl rfl (by repeat (first | exact trivial | refine ⟨rfl, ?_⟩ | refine ⟨fun _ _ => rfl, ?_⟩)) rfl (by kernel_rfl) rfl ?_; clear H; intro w H _; replace H : Sep _ _ _ _ [_, _, _, _] _ := H; refine hK _ _ ?_; clear hK K; refine S_put0 rfl ?_; refine S_val E (pk_assign rfl rfl) rfl rfl rfl ?_; clear E a; intro a E; refine hK36 _ _ ?_; refine wp_ret ?_
                        repeat (first | refine then_ret ?_ | refine block_ret ?_)
                        refine ret2 rfl E (by exact resC (n := 4) H 2 rfl rfl rfl (by kernel_rfl)) (resT rfl) ?_
                        have hns : ns.length = tos.length := by omega
                        have hnm : ns.map Prod.fst = lettersV nx tos text := by rw [hφ.2, hns, show tos.length = (lettersV nx tos text).length by simp [lettersV], List.take_length]
                        have hP : postV ⟨ep, log, wait, nx⟩ text tos = (⟨ep + 1, log ++ [text], wait ++ lettersV nx tos text, nx + (tos.length : Int)⟩, 0) := by
                          unfold postV; rw [if_neg (show ¬(okS ⟨ep, log, wait, nx⟩ = false ∨ tos.any farB = true) by rw [hok, hfar]; simp)]; rw [if_neg hk0]; rw [if_neg hold]; rw [if_neg hfull]; rw [if_pos hcm, if_pos hcm]
                        obtain ⟨wm2, HW⟩ := (H.at_ 0 _ rfl).freezeL (xs := wait ++ lettersV nx tos text) rfl (by simp) (by rw [List.map_append, hes, hnm])
                        obtain ⟨lm2, HL⟩ := (HW.at_ 0 _ rfl).freezeL (xs := log ++ [text]) rfl (by simp) (by rw [List.map_append, hds]; rfl)
                        have e1 : (ds ++ [((text, (A83, c83)) : List Nat × TextT.μ)]).length = (log ++ [text]).length := by rw [List.length_append, List.length_append, ← hds, List.length_map]; rfl
                        have e2 : (es ++ ns).length = (wait ++ lettersV nx tos text).length := by rw [← hes, ← hnm, ← List.map_append, List.length_map]
                        rw [hP]
                        refine ⟨A85, c85, lm2, gA, gc, wm2, ?_, HL.keepLR (L := []) (R := [_, _])⟩
                        rw [e1, e2, hns]
                    · skip
                      clear E; intro c79 E
                      exact absurd hcm (ne_of_beq_false c79) --done
            · skip
              clear E; intro c52 E
              exact absurd hcm (ne_of_beq_false c52) --done
        · skip
          clear E; intro c42 E
          have hcm : ¬ kindV text = 1 := ne_of_beq_false c42
          refine S_skip E rfl rfl rfl ?_; clear E a; intro a E; refine S_skip E rfl rfl rfl ?_; clear E a; intro a E; refine S_skip E rfl rfl rfl ?_; clear E a; intro a E; refine S_skip E rfl rfl rfl ?_; clear E a; intro a E; refine S_skip E rfl rfl rfl ?_; clear E a; intro a E; refine S_val E (pk_pick rfl rfl rfl) rfl rfl rfl ?_; clear E a; intro a E; refine hK18 _ _ ?_; refine S_else E rfl ?_; refine wp_skip ?_; refine hK17 _ _ ?_; refine wp_seq_k fun K37 hK37 => ?_; refine wp_seq_k fun K38 hK38 => ?_; refine S_region ?_; refine S_val E (pk_move rfl rfl) rfl rfl rfl ?_; clear E a; intro a E; refine S_val E (pk_int rfl rfl rfl rfl) rfl rfl rfl ?_; clear E a; intro a E; refine S_val E (pk_move rfl rfl) rfl rfl rfl ?_; clear E a; intro a E; refine env_split (d := 52) E rfl ?_ ?_
          · skip
            clear E; intro c52 E
            exact absurd (eq_of_beq c52) hcm --done
          · skip
            clear E; intro c52 E; refine S_skip E rfl rfl rfl ?_; clear E a; intro a E; refine S_skip E rfl rfl rfl ?_; clear E a; intro a E; refine S_skip E rfl rfl rfl ?_; clear E a; intro a E; refine S_skip E rfl rfl rfl ?_; clear E a; intro a E; refine S_val E (pk_pick rfl rfl rfl) rfl rfl rfl ?_; clear E a; intro a E; refine S_val E (pk_move rfl rfl) rfl rfl rfl ?_; clear E a; intro a E; refine S_val E (pk_fieldAddr (off := 2) rfl rfl (by kernel_rfl)) rfl rfl rfl ?_; clear E a; intro a E; refine S_val E (pk_load1 H 2 rfl rfl rfl trivial rfl (by kernel_rfl)) rfl rfl rfl ?_; clear E a; intro a E; refine S_val E (pk_len rfl rfl (by kernel_rfl)) rfl rfl rfl ?_; clear E a; intro a E; refine S_val E (pk_move rfl rfl) rfl rfl rfl ?_; clear E a; intro a E; refine S_val E (pk_len rfl rfl (by kernel_rfl)) rfl rfl rfl ?_; clear E a; intro a E
            refine S_val E (pk_intw rfl rfl rfl rfl (wI64 (by omega) (by omega))) rfl rfl rfl ?_; clear E a; intro a E; refine S_val E (pk_int rfl rfl rfl rfl) rfl rfl rfl ?_; clear E a; intro a E; refine S_val E (pk_pick rfl rfl rfl) rfl rfl rfl ?_; clear E a; intro a E; refine S_val E (pk_move rfl rfl) rfl rfl rfl ?_; clear E a; intro a E; refine env_split (d := 67) E rfl ?_ ?_
            · skip
              clear E; intro c67 E; refine S_skip E rfl rfl rfl ?_; clear E a; intro a E; refine S_skip E rfl rfl rfl ?_; clear E a; intro a E; refine S_skip E rfl rfl rfl ?_; clear E a; intro a E; refine S_skip E rfl rfl rfl ?_; clear E a; intro a E; refine S_skip E rfl rfl rfl ?_; clear E a; intro a E; refine S_skip E rfl rfl rfl ?_; clear E a; intro a E; refine S_val E (pk_pick rfl rfl rfl) rfl rfl rfl ?_; clear E a; intro a E; refine hK38 _ _ ?_; refine S_then E rfl ?_; refine wp_seq_k fun K39 hK39 => ?_; refine S_region ?_; refine S_val E (pk_build (z := [.one (.int .u64 0), .one (.slice none 0 0), .one (.slice none 0 0), .one (.int .i64 0)]) rfl (by kernel_rfl) (by kernel_rfl) rfl) rfl rfl rfl ?_; clear E a; intro a E; refine S_eff E rfl (fun K hK => ?_)
              refine eff_store 1 E H rfl rfl rfl rfl rfl (by repeat (first | exact trivial | refine ⟨rfl, ?_⟩ | refine ⟨fun _ _ => rfl, ?_⟩)) rfl (by kernel_rfl) rfl ?_; clear H; intro w H _; replace H : Sep _ _ _ _ [_, _, _] _ := H; refine hK _ _ ?_; clear hK K; refine S_put0 rfl ?_; refine S_val E (pk_assign rfl rfl) rfl rfl rfl ?_; clear E a; intro a E; refine hK39 _ _ ?_; refine wp_ret ?_
              repeat (first | refine then_ret ?_ | refine block_ret ?_)
              refine ret2 rfl E (by exact resC (n := 4) H 1 rfl rfl rfl (by kernel_rfl)) (resT rfl) ?_
              have hP : postV ⟨ep, log, wait, nx⟩ text tos = (noSrv, 8) := by
                unfold postV; rw [if_neg (show ¬(okS ⟨ep, log, wait, nx⟩ = false ∨ tos.any farB = true) by rw [hok, hfar]; simp)]; rw [if_neg hk0]; rw [if_neg (show ¬(kindV text = 1 ∧ epV text ≠ (⟨ep, log, wait, nx⟩ : Srv).ep) by rintro ⟨h, _⟩; exact hcm h)]; exact if_pos (by simp only; simp only [decide_eq_true_eq, beq_iff_eq] at *; omega)
              rw [hP]
              exact ⟨none, 0, fun _ => TextT.dft, none, 0, fun _ => LtrT.dft, rfl, ((H.keepLR (L := []) (R := [])).know liF_nil).know liF_nil⟩
            · skip
              clear E; intro c67 E; refine S_val E (pk_fieldAddr (off := 3) rfl rfl (by kernel_rfl)) rfl rfl rfl ?_; clear E a; intro a E; refine S_val E (pk_load1 H 2 rfl rfl rfl trivial rfl (by kernel_rfl)) rfl rfl rfl ?_; clear E a; intro a E; refine S_val E (pk_move rfl rfl) rfl rfl rfl ?_; clear E a; intro a E; refine S_val E (pk_len rfl rfl (by kernel_rfl)) rfl rfl rfl ?_; clear E a; intro a E; refine S_val E (pk_intw rfl rfl rfl rfl (wI64 (by omega) (by omega))) rfl rfl rfl ?_; clear E a; intro a E; refine S_val E (pk_int rfl rfl rfl rfl) rfl rfl rfl ?_; clear E a; intro a E; refine S_val E (pk_pick rfl rfl rfl) rfl rfl rfl ?_; clear E a; intro a E; refine hK38 _ _ ?_; refine env_split (d := 74) E rfl ?_ ?_
              · skip
                clear E; intro c74 E; refine S_then E rfl ?_; refine wp_seq_k fun K40 hK40 => ?_; refine S_region ?_; refine S_val E (pk_build (z := [.one (.int .u64 0), .one (.slice none 0 0), .one (.slice none 0 0), .one (.int .i64 0)]) rfl (by kernel_rfl) (by kernel_rfl) rfl) rfl rfl rfl ?_; clear E a; intro a E; refine S_eff E rfl (fun K hK => ?_); refine eff_store 1 E H rfl rfl rfl rfl rfl (by repeat (first | exact trivial | refine ⟨rfl, ?_⟩ | refine ⟨fun _ _ => rfl, ?_⟩)) rfl (by kernel_rfl) rfl ?_; clear H; intro w H _; replace H : Sep _ _ _ _ [_, _, _] _ := H; refine hK _ _ ?_; clear hK K; refine S_put0 rfl ?_; refine S_val E (pk_assign rfl rfl) rfl rfl rfl ?_; clear E a; intro a E; refine hK40 _ _ ?_; refine wp_ret ?_
                repeat (first | refine then_ret ?_ | refine block_ret ?_)
                refine ret2 rfl E (by exact resC (n := 4) H 1 rfl rfl rfl (by kernel_rfl)) (resT rfl) ?_
                have hP : postV ⟨ep, log, wait, nx⟩ text tos = (noSrv, 8) := by
                  unfold postV; rw [if_neg (show ¬(okS ⟨ep, log, wait, nx⟩ = false ∨ tos.any farB = true) by rw [hok, hfar]; simp)]; rw [if_neg hk0]; rw [if_neg (show ¬(kindV text = 1 ∧ epV text ≠ (⟨ep, log, wait, nx⟩ : Srv).ep) by rintro ⟨h, _⟩; exact hcm h)]; exact if_pos (by simp only; simp only [decide_eq_true_eq, beq_iff_eq] at *; omega)
                rw [hP]
                exact ⟨none, 0, fun _ => TextT.dft, none, 0, fun _ => LtrT.dft, rfl, ((H.keepLR (L := []) (R := [])).know liF_nil).know liF_nil⟩
              · skip
                clear E; intro c74 E; refine S_else E rfl ?_; refine wp_skip ?_; refine hK37 _ _ ?_; refine wp_seq_k fun K41 hK41 => ?_
                have hold : ¬(kindV text = 1 ∧ epV text ≠ (⟨ep, log, wait, nx⟩ : Srv).ep) := by rintro ⟨h, _⟩; exact hcm h
                have hfull : ¬((kindV text = 1 ∧ (⟨ep, log, wait, nx⟩ : Srv).log.length = 2000) ∨ 20000 < (⟨ep, log, wait, nx⟩ : Srv).wait.length + tos.length ∨ 1099511627776 < (⟨ep, log, wait, nx⟩ : Srv).nx + (tos.length : Int)) := by
                  simp only
                  simp only [decide_eq_false_iff_not, beq_eq_false_iff_ne, ne_eq] at *
                  omega
                replace H := H.popL
                refine S_region ?_; refine S_val E (pk_load (n := 4) H 1 rfl rfl rfl trivial rfl (by kernel_rfl)) rfl rfl rfl ?_; clear E a; intro a E; refine S_eff E rfl (fun K hK => ?_); refine eff_call E rfl rfl rfl (by kernel_rfl) ?_; refine (RCopy_any (by omega) (by omega) H.xk (H.fact 0 rfl) (H.fact 1 rfl)).mono ?_; rintro e w ⟨LA9, lc9, WA9, wc9, ds, es, hds, hes, rfl, H1⟩
                replace H := H.call H1
                clear H1; replace H : Sep _ _ _ _ [_, _, _, _] [_, _, _, _, _, _] := H; refine hK _ _ ?_; clear hK K; refine S_put E rfl rfl ?_; clear E a; intro a E
                have hds2 : ds.length = log.length := by rw [← hds, List.length_map]
                have hes2 : es.length = wait.length := by rw [← hes, List.length_map]
                refine S_eff E rfl (fun K hK => ?_); refine eff_store 3 E H rfl rfl rfl rfl rfl (by repeat (first | exact trivial | refine ⟨rfl, ?_⟩ | refine ⟨fun _ _ => rfl, ?_⟩)) rfl (by kernel_rfl) rfl ?_; clear H; intro w H _; replace H : Sep _ _ _ _ [_, _, _, _] _ := H; refine hK _ _ ?_; clear hK K; refine S_put0 rfl ?_; refine hK41 _ _ ?_; refine wp_seq_k fun K42 hK42 => ?_; refine wp_seq_k fun K43 hK43 => ?_; refine S_region ?_; refine S_val E (pk_move rfl rfl) rfl rfl rfl ?_; clear E a; intro a E; refine S_val E (pk_int rfl rfl rfl rfl) rfl rfl rfl ?_; clear E a; intro a E; refine hK43 _ _ ?_; refine env_split (d := 79) E rfl ?_ ?_
                · skip
                  clear E; intro c79 E
                  exact absurd (eq_of_beq c79) hcm --done
                · skip
                  clear E; intro c79 E; refine S_else E rfl ?_; refine wp_skip ?_; refine hK42 _ _ ?_; refine wp_seq_k fun K44 hK44 => ?_; refine wp_seq_k fun K45 hK45 => ?_; refine S_region ?_; refine S_val E (pk_move rfl rfl) rfl rfl rfl ?_; clear E a; intro a E; refine S_val E (pk_len rfl rfl (by kernel_rfl)) rfl rfl rfl ?_; clear E a; intro a E; refine S_val E (pk_move rfl rfl) rfl rfl rfl ?_; clear E a; intro a E; refine hK45 _ _ ?_; refine wp_block ?_
                  have H0 : Sep X [] w0 w [.row (.slice WA9 (es).length wc9) 49 3 (es).length (rowC LtrT (es)), .row (.slice LA9 ds.length lc9) 23 1 ds.length (rowC TextT (ds)), .blk b6 (ca [.one (.int .u64 0), .one (.slice none 0 0), .one (.slice none 0 0), .one (.int .i64 0)]) 30, .blk b3 (ca [.one (.int .u64 ep), .one (.slice LA9 ds.length lc9), .one (.slice WA9 (es).length wc9), .one (.int .i64 nx)]) 30] [NestF LtrT (es), NestF TextT ds, LiF TextT LA lc log lm, LiF LtrT WA wc wait wm, TxF TA tc text, LiF IntT OA oc tos om] := H
                  refine S_loopI (γ := Option Addr × Nat × List (Ltr × LtrT.μ)) [1, 3, 6, 91, 92] (fun g => [(93, .int .i64 (g.2.2.length : Int))]) (fun g => [.row (.slice g.1 (es ++ g.2.2).length g.2.1) 49 3 (es ++ g.2.2).length (rowC LtrT (es ++ g.2.2)), .row (.slice LA9 ds.length lc9) 23 1 ds.length (rowC TextT (ds)), .blk b6 (ca [.one (.int .u64 0), .one (.slice none 0 0), .one (.slice none 0 0), .one (.int .i64 0)]) 30, .blk b3 (ca [.one (.int .u64 ep), .one (.slice LA9 ds.length lc9), .one (.slice g.1 (es ++ g.2.2).length g.2.1), .one (.int .i64 (nx + (g.2.2.length : Int)))]) 30]) (fun g => [NestF LtrT (es ++ g.2.2), NestF TextT ds, LiF TextT LA lc log lm, LiF LtrT WA wc wait wm, TxF TA tc text, LiF IntT OA oc tos om]) (fun g => g.2.2.length ≤ tos.length ∧ g.2.2.map Prod.fst = (lettersV nx tos text).take g.2.2.length) (fun g => tos.length - g.2.2.length) ((WA9, wc9, [])) E (by simpa using H0) (by repeat (first | exact trivial | refine ⟨rfl, ?_⟩)) (⟨Nat.zero_le _, rfl⟩) ?_
                  clear E H; intro g a w E H hφ; replace E : Env a _ [(93, _), (1, _), (3, _), (6, _), (91, _), (92, _)] := E; replace H : Sep _ _ _ _ [_, _, _, _] [_, _, _, _, _, _] := H
                  obtain ⟨gA, gc, ns⟩ := g
                  simp only at E H hφ ⊢
                  refine wp_seq_k fun K46 hK46 => ?_; refine S_region ?_; refine S_val E (pk_int rfl rfl rfl rfl) rfl rfl rfl ?_; clear E a; intro a E; refine hK46 _ _ ?_; refine wp_seq_k fun K47 hK47 => ?_; refine env_split (d := 94) E rfl ?_ ?_
                  · skip
                    clear E; intro c94 E
                    have hk2 : ns.length < tos.length := by simpa using c94
                    have hx0 : tos[ns.length]? = some tos[ns.length] := List.getElem?_eq_getElem hk2
                    have hx1 : (lettersV nx tos text)[ns.length]? = some ⟨nx + (ns.length : Int), tos[ns.length], text⟩ := by simp [lettersV, hx0]
                    refine S_then E rfl ?_; refine wp_skip ?_; refine hK47 _ _ ?_; refine wp_seq_k fun K48 hK48 => ?_; refine wp_block ?_; refine wp_seq_k fun K49 hK49 => ?_; refine S_region ?_
                    obtain ⟨ad95, hA95, hc95, hn95⟩ := LiF.get (A := OA) (T := IntT) (i := ns.length) (x := tos[ns.length]) (by exact H.fact 5 rfl) hx0
                    refine S_val E (pk_elA (sz := 1) hA95 rfl (by kernel_rfl) rfl rfl rfl (by omega)) rfl rfl rfl ?_; clear E a; intro a E
                    replace H := (H.know hn95).know hc95
                    clear hn95 hc95; replace H : Sep _ _ _ _ _ [_, _, _, _, _, _, _, _] := H; refine S_val E (pk_loadE1 (H.fact 0 rfl) (fun _ _ _ => trivial) rfl rfl rfl (by kernel_rfl)) rfl rfl rfl ?_; clear E a; intro a E; refine S_val E (pk_assign rfl rfl) rfl rfl rfl ?_; clear E a; intro a E; refine hK49 _ _ ?_; refine wp_seq_k fun K50 hK50 => ?_; refine C_region E H [] 9 [(0, false), (1, false), (2, false), (3, false), (4, false), (5, false), (6, true), (7, false), (8, true)] (by kernel_rfl) (by kernel_rfl) (fun w HS => ?_)
                    (simp only [canOps, List.getElem?_cons_zero, List.getElem?_cons_succ, List.drop_succ_cons, List.drop_zero])
                    clear H
                    have H := HS
                    have hsz : w.heap.size ≤ w.heap.size := Nat.le_refl _
                    have HK : CanB.Keep (fun k => k < w.heap.size ∧ k ∉ []) w w := CanB.Keep.refl _ _
                    refine C_val E HK (pk_fieldAddr (off := 2) rfl rfl (by kernel_rfl)) rfl rfl rfl (fun _ _ _ _ h => h) ?_; clear E a; intro a E; refine C_val E HK (pk_load1 HS 3 rfl rfl rfl (HS.inS 3 rfl (by simp)) rfl (by kernel_rfl)) rfl rfl rfl (fun _ _ _ _ h => h) ?_; clear E a; intro a E; refine C_val E HK (pk_fieldAddr (off := 3) rfl rfl (by kernel_rfl)) rfl rfl rfl (fun _ _ _ _ h => h) ?_; clear E a; intro a E; refine C_val E HK (pk_load1 HS 3 rfl rfl rfl (HS.inS 3 rfl (by simp)) rfl (by kernel_rfl)) rfl rfl rfl (fun _ _ _ _ h => h) ?_; clear E a; intro a E; refine C_val E HK (pk_move rfl rfl) rfl rfl rfl (fun _ _ _ _ h => h) ?_; clear E a; intro a E; refine C_val E HK (pk_move rfl rfl) rfl rfl rfl (fun _ _ _ _ h => h) ?_; clear E a; intro a E; refine C_eff E rfl (fun K hK => ?_); refine eff_call E rfl rfl rfl (by kernel_rfl) ?_; refine (copy_sep H.xk (H.fact 6 rfl)).mono ?_
                    rintro e w ⟨A103, c103, rfl, H1⟩
                    have F := H1.frm
                    replace H := H.call H1
                    clear H1; replace H : Sep _ _ _ _ [_, _, _, _] [_, _, _, _, _, _, _, _, _] := H
                    have hk := keep_frm (D := []) F hsz (by simp)
                    refine hK _ _ hk ?_; clear hK K
                    replace HK := HK.trans hk
                    replace hsz := Nat.le_trans hsz (F).size
                    clear hk; refine C_put E rfl rfl ?_; clear E a; intro a E; clear F; refine C_val E HK (pk_build (z := [.one (.int .i64 0), .one (.int .i64 0), .one (.slice none 0 0)]) rfl (by kernel_rfl) (by kernel_rfl) ⟨_, [.one _], 0, _, rfl, rfl, (by kernel_rfl), rfl, ⟨_, [.one _], 1, _, rfl, rfl, (by kernel_rfl), rfl, ⟨_, [.one _], 2, _, rfl, rfl, (by kernel_rfl), rfl, rfl⟩⟩⟩) rfl rfl rfl (fun _ _ _ _ h => h) ?_; clear E a; intro a E; refine C_eff E rfl (fun K hK => ?_); refine eff_bslice (sz := 3) (z := [.one (.int .i64 0), .one (.int .i64 0), .one (.slice none 0 0)]) E H rfl Try.underlying28 (by kernel_rfl) (by decide) (by kernel_rfl) ⟨_, _, 0, _, rfl, rfl, rfl, rfl, rfl⟩ ?_; clear H; intro b105 w H F
                    have hk := keep_frm (D := []) F hsz (by simp)
                    refine hK _ _ hk ?_; clear hK K
                    replace HK := HK.trans hk
                    replace hsz := Nat.le_trans hsz (F).size
                    clear hk; refine C_put E rfl rfl ?_; clear E a; intro a E; clear F; refine CanB.wpCan_nil ?_
                    try (simp only [List.take_succ_cons, List.take_zero, List.drop_succ_cons, List.drop_zero])
                    clear HS HK hsz; refine S_eff E rfl (fun K hK => ?_); refine eff_app1 (T := LtrT) (q := (((⟨nx + (ns.length : Int), tos[ns.length], text⟩ : Ltr), (A103, c103)) : Ltr × LtrT.μ)) (its := es ++ ns) 1 0 (by_ := 40) E H rfl rfl rfl rfl rfl rfl ⟨Try.underlying28, by kernel_rfl⟩ (by simp only [List.length_append]; omega) (by simp only [List.length_append]; omega) ?_; clear H; intro A106 c106 w hcap106 H F; replace H : Sep _ _ _ _ [_, _, _, _, _] _ := H; refine hK _ _ ?_; clear hK K; refine S_put E rfl rfl ?_; clear E a; intro a E; clear F; refine S_val E (pk_fieldAddr (off := 2) rfl rfl (by kernel_rfl)) rfl rfl rfl ?_; clear E a; intro a E; refine S_eff E rfl (fun K hK => ?_); refine eff_store 4 (new := [.one _]) E H rfl rfl rfl rfl rfl (by repeat (first | exact trivial | refine ⟨rfl, ?_⟩ | refine ⟨fun _ _ => rfl, ?_⟩)) rfl (by kernel_rfl) rfl ?_; clear H
                    intro w H _; replace H : Sep _ _ _ _ [_, _, _, _, _] _ := H; refine hK _ _ ?_; clear hK K; refine S_put0 rfl ?_; refine hK50 _ _ ?_; refine S_region ?_; refine S_val E (pk_fieldAddr (off := 3) rfl rfl (by kernel_rfl)) rfl rfl rfl ?_; clear E a; intro a E; refine S_val E (pk_load1 H 4 rfl rfl rfl trivial rfl (by kernel_rfl)) rfl rfl rfl ?_; clear E a; intro a E; refine S_val E (pk_intw rfl rfl rfl rfl (wI64 (by omega) (by omega))) rfl rfl rfl ?_; clear E a; intro a E; refine S_val E (pk_fieldAddr (off := 3) rfl rfl (by kernel_rfl)) rfl rfl rfl ?_; clear E a; intro a E; refine S_eff E rfl (fun K hK => ?_); refine eff_store 4 (new := [.one _]) E H rfl rfl rfl rfl rfl (by repeat (first | exact trivial | refine ⟨rfl, ?_⟩ | refine ⟨fun _ _ => rfl, ?_⟩)) rfl (by kernel_rfl) rfl ?_; clear H; intro w H _; replace H : Sep _ _ _ _ [_, _, _, _, _] _ := H; refine hK _ _ ?_
                    clear hK K; refine S_put0 rfl ?_; refine hK48 _ _ ?_; refine S_region ?_; refine S_val E (pk_intw rfl rfl rfl rfl (wI64 (by omega) (by omega))) rfl rfl rfl ?_; clear E a; intro a E; refine S_val E (pk_move rfl rfl) rfl rfl rfl ?_; clear E a; intro a E
                    replace H := (H.refacts (List.forall_mem_cons.2 ⟨nest_snoc (q := (((⟨nx + (ns.length : Int), tos[ns.length], text⟩ : Ltr), (A103, c103)) : Ltr × LtrT.μ)) (H.fact 3 rfl) (H.fact 0 rfl), List.forall_mem_cons.2 ⟨H.fact 4 rfl, List.forall_mem_cons.2 ⟨H.fact 5 rfl, List.forall_mem_cons.2 ⟨H.fact 6 rfl, List.forall_mem_cons.2 ⟨H.fact 7 rfl, List.forall_mem_cons.2 ⟨H.fact 8 rfl, List.forall_mem_nil _⟩⟩⟩⟩⟩⟩)).popL
                    rw [List.append_assoc, show nx + (ns.length : Int) + 1 = nx + ((ns ++ [(((⟨nx + (ns.length : Int), tos[ns.length], text⟩ : Ltr), (A103, c103)) : Ltr × LtrT.μ)]).length : Int) by rw [List.length_append]; simp; omega] at H
                    refine loop_end ?_
                    exact ⟨(A106, c106, ns ++ [(((⟨nx + (ns.length : Int), tos[ns.length], text⟩ : Ltr), (A103, c103)) : Ltr × LtrT.μ)]), ⟨E.to (by simp only [List.length_append, List.length_singleton]; repeat (first | exact trivial | refine ⟨rfl, ?_⟩)), H, ⟨by simp only [List.length_append, List.length_singleton]; omega, take_done hφ.2 hx1⟩⟩, by simp only [List.length_append, List.length_singleton]; omega⟩
                  · skip
                    clear E; intro c94 E
                    have hk2 : ¬ ns.length < tos.length := by simpa using c94
                    refine S_else E rfl ?_; refine wp_exit ?_
                    repeat (first | refine then_exit ?_ | refine block_hit ?_ | refine block_miss (by decide) ?_)
                    refine hK44 _ _ ?_; refine wp_seq_k fun K51 hK51 => ?_; refine S_region ?_; refine S_val E (pk_load (n := 4) H 3 rfl rfl rfl trivial rfl (by kernel_rfl)) rfl rfl rfl ?_; clear E a; intro a E; refine S_eff E rfl (fun K hK => ?_); refine eff_store 2 E H rfl rfl rfl rfl rfl (by repeat (first | exact trivial | refine ⟨rfl, ?_⟩ | refine ⟨fun _ _ => rfl, ?_⟩)) rfl (by kernel_rfl) rfl ?_; clear H; intro w H _; replace H : Sep _ _ _ _ [_, _, _, _] _ := H; refine hK _ _ ?_; clear hK K; refine S_put0 rfl ?_; refine S_val E (pk_assign rfl rfl) rfl rfl rfl ?_; clear E a; intro a E; refine hK51 _ _ ?_; refine wp_ret ?_
                    repeat (first | refine then_ret ?_ | refine block_ret ?_)
                    refine ret2 rfl E (by exact resC (n := 4) H 2 rfl rfl rfl (by kernel_rfl)) (resT rfl) ?_
                    have hns : ns.length = tos.length := by omega
                    have hnm : ns.map Prod.fst = lettersV nx tos text := by rw [hφ.2, hns, show tos.length = (lettersV nx tos text).length by simp [lettersV], List.take_length]
                    have hP : postV ⟨ep, log, wait, nx⟩ text tos = (⟨ep, log, wait ++ lettersV nx tos text, nx + (tos.length : Int)⟩, 0) := by
                      unfold postV; rw [if_neg (show ¬(okS ⟨ep, log, wait, nx⟩ = false ∨ tos.any farB = true) by rw [hok, hfar]; simp)]; rw [if_neg hk0]; rw [if_neg hold]; rw [if_neg hfull]; rw [if_neg hcm, if_neg hcm]
                    obtain ⟨wm2, HW⟩ := (H.at_ 0 _ rfl).freezeL (xs := wait ++ lettersV nx tos text) rfl (by simp) (by rw [List.map_append, hes, hnm])
                    obtain ⟨lm2, HL⟩ := (HW.at_ 0 _ rfl).freezeL (xs := log) rfl (by simp) (by exact hds)
                    have e1 : ds.length = (log).length := by rw [← hds, List.length_map]
                    have e2 : (es ++ ns).length = (wait ++ lettersV nx tos text).length := by rw [← hes, ← hnm, ← List.map_append, List.length_map]
                    rw [hP]
                    refine ⟨LA9, lc9, lm2, gA, gc, wm2, ?_, HL.keepLR (L := []) (R := [_, _])⟩
                    rw [e1, e2, hns]
end Go.Proofs.Yteefhbpmeajbfaa
namespace Go.Proofs.Yteefhbpmeajbfaa
set_option linter.unusedSimpArgs false
set_option linter.unusedVariables false
open Go.RowKit
attribute [local irreducible] farB oddB cmV wlV frV
/-- Lengths, each cut off, together. -/
def cutN (xs : List Nat) : Nat := (xs.map (min · 70000)).sum
theorem cutN_take {xs : List Nat} {k x : Nat} (h : xs[k]? = some x) : cutN (xs.take (k + 1)) = cutN (xs.take k) + min x 70000 := by
  unfold cutN
  rw [List.take_add_one, h, List.map_append, List.sum_append]
  simp
theorem cutN_le (xs : List Nat) : cutN xs ≤ 70000 * xs.length := by
  unfold cutN
  induction xs with
  | nil => simp
  | cons a l ih => simp only [List.map_cons, List.sum_cons, List.length_cons]; omega
theorem cut_step {xs : List Nat} {k : Nat} {z : Int} (hk : k < xs.length) (hz : xs.length ≤ 200 → z = (cutN (xs.take k) : Int)) :
    xs.length ≤ 200 → IntKind.i64.wrap (z + min ((xs[k] : Nat) : Int) 70000) = (cutN (xs.take (k + 1)) : Int) := by
  intro h
  have h1 := cutN_le (xs.take k)
  rw [List.length_take] at h1
  rw [hz h, cutN_take (List.getElem?_eq_getElem hk), wI64 (by omega) (by omega)]
  omega
def fewT (xs : List (List Nat)) : Bool := decide (xs.length ≤ 200) && decide (cutN (xs.map List.length) ≤ 140000)
def fewS (s : Srv) : Bool := decide (s.log.length ≤ 60) && fewT s.log && decide (s.wait.length ≤ 200) && decide (cutN (s.wait.map fun x => x.text.length) ≤ 140000)
set_option maxRecDepth 100000 in
set_option maxHeartbeats 4000000 in
theorem rFew_any {LA : Option Addr} {lc : Nat} {xs : List (List Nat)} {lm : Nat → TextT.μ} {X : List Nat} {w0 : World} (hX : ∀ k ∈ X, k < w0.heap.size) (hL : St (LiF TextT LA lc xs lm) w0 X) :
    Calls Try.prog 9 #[.slice LA xs.length lc] w0 fun e w' => e = .returned (.bool (fewT xs)) ∧ Sep X [] w0 w' [] [] := by
  have hLb := hL.now.big
  refine calls_env Try.ntmps9 Try.func9 rfl rfl fun a E => ?_; replace E : Env a _ [(0, _)] := E
  have H : Sep X [] w0 w0 [] [(LiF TextT LA lc xs lm)] := Sep.start hX (List.forall_mem_cons.2 ⟨hL, fun _ h => by cases h⟩)
  refine wp_seq_k fun K0 hK0 => ?_; refine S_region ?_; refine S_val E (pk_assign rfl rfl) rfl rfl rfl ?_; clear E a; intro a E; refine hK0 _ _ ?_; refine wp_seq_k fun K1 hK1 => ?_; refine S_region ?_; refine S_val E (pk_assign rfl rfl) rfl rfl rfl ?_; clear E a; intro a E; refine hK1 _ _ ?_; refine wp_seq_k fun K2 hK2 => ?_; refine wp_seq_k fun K3 hK3 => ?_; refine S_region ?_; refine S_val E (pk_move rfl rfl) rfl rfl rfl ?_; clear E a; intro a E; refine S_val E (pk_len rfl rfl (by kernel_rfl)) rfl rfl rfl ?_; clear E a; intro a E; refine S_val E (pk_move rfl rfl) rfl rfl rfl ?_; clear E a; intro a E; refine hK3 _ _ ?_; refine wp_block ?_
  refine S_loopK (γ := Nat × Int) [0, 6, 7] (fun g => [(3, .int .i64 g.2), (8, .int .i64 (g.1 : Int))]) (fun g => g.1 ≤ xs.length ∧ ((xs.map List.length).length ≤ 200 → g.2 = (cutN ((xs.map List.length).take g.1) : Int))) (fun g => xs.length - g.1) ((0, 0)) E H (by repeat (first | exact trivial | refine ⟨rfl, ?_⟩)) (⟨Nat.zero_le _, fun _ => rfl⟩) ?_; clear E H; intro g a w E H hφ; replace E : Env a _ [(3, _), (8, _), (0, _), (6, _), (7, _)] := E; replace H : Sep _ _ _ _ [] [_] := H; refine wp_seq_k fun K4 hK4 => ?_; refine S_region ?_; refine S_val E (pk_int rfl rfl rfl rfl) rfl rfl rfl ?_; clear E a; intro a E; refine hK4 _ _ ?_; refine wp_seq_k fun K5 hK5 => ?_; refine env_split (d := 9) E rfl ?_ ?_
  · skip
    clear E; intro c9 E
    have hk : g.1 < xs.length := by simpa using c9
    have hx0 : xs[g.1]? = some xs[g.1] := List.getElem?_eq_getElem hk
    refine S_then E rfl ?_; refine wp_skip ?_; refine hK5 _ _ ?_; refine wp_seq_k fun K6 hK6 => ?_; refine wp_block ?_; refine wp_seq_k fun K7 hK7 => ?_; refine S_region ?_
    obtain ⟨ad10, hA10, hc10, hn10⟩ := LiF.get (A := LA) (T := TextT) (i := g.1) (x := xs[g.1]) (by exact H.fact 0 rfl) hx0
    refine S_val E (pk_elA (sz := 1) hA10 rfl (by kernel_rfl) rfl rfl rfl (by omega)) rfl rfl rfl ?_; clear E a; intro a E
    replace H := (H.know hn10).know hc10
    clear hn10 hc10; replace H : Sep _ _ _ _ _ [_, _, _] := H; refine S_val E (pk_loadE1 (H.fact 0 rfl) (fun _ _ _ => trivial) rfl rfl rfl (by kernel_rfl)) rfl rfl rfl ?_; clear E a; intro a E; refine S_val E (pk_assign rfl rfl) rfl rfl rfl ?_; clear E a; intro a E; refine hK7 _ _ ?_; refine S_region ?_; refine S_val E (pk_move rfl rfl) rfl rfl rfl ?_; clear E a; intro a E; refine S_val E (pk_move rfl rfl) rfl rfl rfl ?_; clear E a; intro a E; refine S_val E (pk_len rfl rfl (by kernel_rfl)) rfl rfl rfl ?_; clear E a; intro a E; refine S_val E (pk_min rfl rfl rfl) rfl rfl rfl ?_; clear E a; intro a E; refine S_val E (pk_int rfl rfl rfl rfl) rfl rfl rfl ?_; clear E a; intro a E; refine S_val E (pk_assign rfl rfl) rfl rfl rfl ?_; clear E a; intro a E; refine hK6 _ _ ?_; refine S_region ?_; refine S_val E (pk_intw rfl rfl rfl rfl (wI64 (by omega) (by omega))) rfl rfl rfl ?_; clear E a
    intro a E; refine S_val E (pk_move rfl rfl) rfl rfl rfl ?_; clear E a; intro a E; refine loop_end ?_
    exact ⟨(g.1 + 1, IntKind.i64.wrap (g.2 + min ((xs[g.1].length : Nat) : Int) 70000)), ⟨E.to (by repeat (first | exact trivial | refine ⟨rfl, ?_⟩)), H.pop.pop, ⟨by omega, fun h => by have := cut_step (xs := (xs.map List.length)) (k := g.1) (by rw [List.length_map]; omega) hφ.2 h; rw [List.getElem_map] at this; exact this⟩⟩, by omega⟩
  · skip
    clear E; intro c9 E
    have hk : ¬ g.1 < xs.length := by simpa using c9
    refine S_else E rfl ?_; refine wp_exit ?_
    repeat (first | refine then_exit ?_ | refine block_hit ?_ | refine block_miss (by decide) ?_)
    refine hK2 _ _ ?_; refine wp_seq_k fun K8 hK8 => ?_; refine S_region ?_; refine S_val E (pk_move rfl rfl) rfl rfl rfl ?_; clear E a; intro a E; refine S_val E (pk_len rfl rfl (by kernel_rfl)) rfl rfl rfl ?_; clear E a; intro a E; refine S_val E (pk_int rfl rfl rfl rfl) rfl rfl rfl ?_; clear E a; intro a E; refine S_val E (pk_move rfl rfl) rfl rfl rfl ?_; clear E a; intro a E; refine env_split (d := 21) E rfl ?_ ?_
    · skip
      clear E; intro c21 E; refine S_val E (pk_move rfl rfl) rfl rfl rfl ?_; clear E a; intro a E; refine S_val E (pk_int rfl rfl rfl rfl) rfl rfl rfl ?_; clear E a; intro a E; refine S_val E (pk_pick rfl rfl rfl) rfl rfl rfl ?_; clear E a; intro a E; refine S_val E (pk_assign rfl rfl) rfl rfl rfl ?_; clear E a; intro a E; refine hK8 _ _ ?_; refine wp_ret ?_
      repeat (first | refine then_ret ?_ | refine block_ret ?_)
      refine ret1 rfl E (resT rfl) ?_; refine ⟨?_, H.keepLR (L := []) (R := [])⟩
      have hg : g.1 = xs.length := by omega
      have hz := hφ.2
      rw [hg, ← List.length_map (f := List.length), List.take_length, List.length_map] at hz
      have e : fewT xs = (decide (xs.length ≤ 200) && decide (g.2 ≤ 140000)) := by
        unfold fewT
        by_cases h : xs.length ≤ 200
        · rw [hz h]; congr 1; rw [Bool.eq_iff_iff]; simp; omega
        · rw [decide_eq_false h, Bool.false_and, Bool.false_and]
      rw [e]
      clear e hz hφ
      simp_all
      try omega
    · skip
      clear E; intro c21 E; refine S_skip E rfl rfl rfl ?_; clear E a; intro a E; refine S_skip E rfl rfl rfl ?_; clear E a; intro a E; refine S_val E (pk_pick rfl rfl rfl) rfl rfl rfl ?_; clear E a; intro a E; refine S_val E (pk_assign rfl rfl) rfl rfl rfl ?_; clear E a; intro a E; refine hK8 _ _ ?_; refine wp_ret ?_
      repeat (first | refine then_ret ?_ | refine block_ret ?_)
      refine ret1 rfl E (resT rfl) ?_; refine ⟨?_, H.keepLR (L := []) (R := [])⟩
      have hg : g.1 = xs.length := by omega
      have hz := hφ.2
      rw [hg, ← List.length_map (f := List.length), List.take_length, List.length_map] at hz
      have e : fewT xs = (decide (xs.length ≤ 200) && decide (g.2 ≤ 140000)) := by
        unfold fewT
        by_cases h : xs.length ≤ 200
        · rw [hz h]; congr 1; rw [Bool.eq_iff_iff]; simp; omega
        · rw [decide_eq_false h, Bool.false_and, Bool.false_and]
      rw [e]
      clear e hz hφ
      simp_all
      try omega
set_option maxRecDepth 100000 in
set_option maxHeartbeats 4000000 in
theorem RFew_any {ep nx : Int} {LA WA : Option Addr} {lc wc : Nat} {log : List (List Nat)} {wait : List Ltr} {lm : Nat → TextT.μ} {wm : Nat → LtrT.μ} {X : List Nat} {w0 : World} (hX : ∀ k ∈ X, k < w0.heap.size) (hL : St (LiF TextT LA lc log lm) w0 X) (hW : St (LiF LtrT WA wc wait wm) w0 X) :
    Calls Try.prog 16 #[.agg (ca [.one (.int .u64 ep), .one (.slice LA log.length lc), .one (.slice WA wait.length wc), .one (.int .i64 nx)])] w0 fun e w' => e = .returned (.bool (fewS ⟨ep, log, wait, nx⟩)) ∧ Sep X [] w0 w' [] [] := by
  have hLb := hL.now.big
  have hWb := hW.now.big
  refine calls_env Try.ntmps16 Try.func16 rfl rfl fun a E => ?_; replace E : Env a _ [(0, _)] := E
  have H : Sep X [] w0 w0 [] [(LiF TextT LA lc log lm), (LiF LtrT WA wc wait wm)] := Sep.start hX (List.forall_mem_cons.2 ⟨hL, List.forall_mem_cons.2 ⟨hW, fun _ h => by cases h⟩⟩)
  refine wp_seq_k fun K0 hK0 => ?_; refine S_region ?_; refine S_eff E rfl (fun K hK => ?_); refine eff_box E H rfl rfl rfl ?_; clear H; intro b1 w H _; refine hK _ _ ?_; clear hK K; refine S_put E rfl rfl ?_; clear E a; intro a E; refine S_val E (pk_assign rfl rfl) rfl rfl rfl ?_; clear E a; intro a E; refine hK0 _ _ ?_; refine wp_seq_k fun K1 hK1 => ?_; refine S_region ?_; refine S_val E (pk_assign rfl rfl) rfl rfl rfl ?_; clear E a; intro a E; refine hK1 _ _ ?_; refine wp_seq_k fun K2 hK2 => ?_; refine wp_seq_k fun K3 hK3 => ?_; refine S_region ?_; refine S_val E (pk_fieldAddr (off := 2) rfl rfl (by kernel_rfl)) rfl rfl rfl ?_; clear E a; intro a E; refine S_val E (pk_load1 H 0 rfl rfl rfl trivial rfl (by kernel_rfl)) rfl rfl rfl ?_; clear E a; intro a E; refine S_val E (pk_len rfl rfl (by kernel_rfl)) rfl rfl rfl ?_; clear E a; intro a E
  refine S_val E (pk_move rfl rfl) rfl rfl rfl ?_; clear E a; intro a E; refine hK3 _ _ ?_; refine wp_block ?_; refine S_loopK (γ := Nat × Int) [1, 7, 8] (fun g => [(3, .int .i64 g.2), (9, .int .i64 (g.1 : Int))]) (fun g => g.1 ≤ wait.length ∧ ((wait.map fun x => x.text.length).length ≤ 200 → g.2 = (cutN ((wait.map fun x => x.text.length).take g.1) : Int))) (fun g => wait.length - g.1) ((0, 0)) E H (by repeat (first | exact trivial | refine ⟨rfl, ?_⟩)) (⟨Nat.zero_le _, fun _ => rfl⟩) ?_; clear E H; intro g a w E H hφ; replace E : Env a _ [(3, _), (9, _), (1, _), (7, _), (8, _)] := E; replace H : Sep _ _ _ _ [_] [_, _] := H; refine wp_seq_k fun K4 hK4 => ?_; refine S_region ?_; refine S_val E (pk_int rfl rfl rfl rfl) rfl rfl rfl ?_; clear E a; intro a E; refine hK4 _ _ ?_; refine wp_seq_k fun K5 hK5 => ?_; refine env_split (d := 10) E rfl ?_ ?_
  · skip
    clear E; intro c10 E
    have hk : g.1 < wait.length := by simpa using c10
    have hx0 : wait[g.1]? = some wait[g.1] := List.getElem?_eq_getElem hk
    refine S_then E rfl ?_; refine wp_skip ?_; refine hK5 _ _ ?_; refine wp_seq_k fun K6 hK6 => ?_; refine wp_block ?_; refine wp_seq_k fun K7 hK7 => ?_; refine S_region ?_
    obtain ⟨ad11, hA11, hc11, hn11⟩ := LiF.get (A := WA) (T := LtrT) (i := g.1) (x := wait[g.1]) (by exact H.fact 1 rfl) hx0
    refine S_val E (pk_elA (sz := 3) hA11 rfl (by kernel_rfl) rfl rfl rfl (by omega)) rfl rfl rfl ?_; clear E a; intro a E
    replace H := (H.know hn11).know hc11
    clear hn11 hc11; replace H : Sep _ _ _ _ _ [_, _, _, _] := H; refine S_val E (pk_loadE (n := 3) (H.fact 0 rfl) (fun _ _ _ => trivial) rfl rfl rfl (by kernel_rfl)) rfl rfl rfl ?_; clear E a; intro a E; refine S_eff E rfl (fun K hK => ?_); refine eff_alloc (z := [.one (.int .i64 0), .one (.int .i64 0), .one (.slice none 0 0)]) H rfl (by kernel_rfl) ?_; clear H; intro b5 w H _; refine hK _ _ ?_; clear hK K; refine S_put E rfl rfl ?_; clear E a; intro a E; refine S_eff E rfl (fun K hK => ?_); refine eff_store 0 E H rfl rfl rfl rfl rfl (by repeat (first | exact trivial | refine ⟨rfl, ?_⟩ | refine ⟨fun _ _ => rfl, ?_⟩)) rfl (by kernel_rfl) rfl ?_; clear H; intro w H _; replace H : Sep _ _ _ _ [_, _] _ := H; refine hK _ _ ?_; clear hK K; refine S_put0 rfl ?_; refine hK7 _ _ ?_; refine S_region ?_; refine S_val E (pk_move rfl rfl) rfl rfl rfl ?_; clear E a; intro a E
    refine S_val E (pk_fieldAddr (off := 2) rfl rfl (by kernel_rfl)) rfl rfl rfl ?_; clear E a; intro a E; refine S_val E (pk_load1 H 0 rfl rfl rfl trivial rfl (by kernel_rfl)) rfl rfl rfl ?_; clear E a; intro a E; refine S_val E (pk_len rfl rfl (by kernel_rfl)) rfl rfl rfl ?_; clear E a; intro a E; refine S_val E (pk_min rfl rfl rfl) rfl rfl rfl ?_; clear E a; intro a E; refine S_val E (pk_int rfl rfl rfl rfl) rfl rfl rfl ?_; clear E a; intro a E; refine S_val E (pk_assign rfl rfl) rfl rfl rfl ?_; clear E a; intro a E; refine hK6 _ _ ?_; refine S_region ?_; refine S_val E (pk_intw rfl rfl rfl rfl (wI64 (by omega) (by omega))) rfl rfl rfl ?_; clear E a; intro a E; refine S_val E (pk_move rfl rfl) rfl rfl rfl ?_; clear E a; intro a E; refine loop_end ?_
    exact ⟨(g.1 + 1, IntKind.i64.wrap (g.2 + min ((wait[g.1].text.length : Nat) : Int) 70000)), ⟨E.to (by repeat (first | exact trivial | refine ⟨rfl, ?_⟩)), H.popL.pop.pop, ⟨by omega, fun h => by have := cut_step (xs := (wait.map fun x => x.text.length)) (k := g.1) (by rw [List.length_map]; omega) hφ.2 h; rw [List.getElem_map] at this; exact this⟩⟩, by omega⟩
  · skip
    clear E; intro c10 E
    have hk : ¬ g.1 < wait.length := by simpa using c10
    refine S_else E rfl ?_; refine wp_exit ?_
    repeat (first | refine then_exit ?_ | refine block_hit ?_ | refine block_miss (by decide) ?_)
    refine hK2 _ _ ?_; refine wp_seq_k fun K8 hK8 => ?_; refine S_region ?_; refine S_val E (pk_fieldAddr (off := 1) rfl rfl (by kernel_rfl)) rfl rfl rfl ?_; clear E a; intro a E; refine S_val E (pk_load1 H 0 rfl rfl rfl trivial rfl (by kernel_rfl)) rfl rfl rfl ?_; clear E a; intro a E; refine S_val E (pk_len rfl rfl (by kernel_rfl)) rfl rfl rfl ?_; clear E a; intro a E; refine S_val E (pk_int rfl rfl rfl rfl) rfl rfl rfl ?_; clear E a; intro a E; refine S_val E (pk_move rfl rfl) rfl rfl rfl ?_; clear E a; intro a E; refine env_split (d := 24) E rfl ?_ ?_
    · skip
      clear E; intro c24 E; refine S_val E (pk_fieldAddr (off := 1) rfl rfl (by kernel_rfl)) rfl rfl rfl ?_; clear E a; intro a E; refine S_val E (pk_load1 H 0 rfl rfl rfl trivial rfl (by kernel_rfl)) rfl rfl rfl ?_; clear E a; intro a E; refine S_eff E rfl (fun K hK => ?_); refine eff_call E rfl rfl rfl (by kernel_rfl) ?_; refine (rFew_any H.xk (by first | exact H.fact 0 rfl | exact H.fact 1 rfl | exact H.fact 2 rfl)).mono ?_; rintro e w ⟨rfl, H1⟩
      replace H := H.call H1
      clear H1; replace H : Sep _ _ _ _ [_] [_, _] := H; refine hK _ _ ?_; clear hK K; refine S_put E rfl rfl ?_; clear E a; intro a E; refine S_val E (pk_pick rfl rfl rfl) rfl rfl rfl ?_; clear E a; intro a E; refine S_val E (pk_move rfl rfl) rfl rfl rfl ?_; clear E a; intro a E; refine env_split (d := 29) E rfl ?_ ?_
      · skip
        clear E; intro c29 E; refine S_val E (pk_fieldAddr (off := 2) rfl rfl (by kernel_rfl)) rfl rfl rfl ?_; clear E a; intro a E; refine S_val E (pk_load1 H 0 rfl rfl rfl trivial rfl (by kernel_rfl)) rfl rfl rfl ?_; clear E a; intro a E; refine S_val E (pk_len rfl rfl (by kernel_rfl)) rfl rfl rfl ?_; clear E a; intro a E; refine S_val E (pk_int rfl rfl rfl rfl) rfl rfl rfl ?_; clear E a; intro a E; refine S_val E (pk_pick rfl rfl rfl) rfl rfl rfl ?_; clear E a; intro a E; refine S_val E (pk_move rfl rfl) rfl rfl rfl ?_; clear E a; intro a E; refine env_split (d := 35) E rfl ?_ ?_
        · skip
          clear E; intro c35 E; refine S_val E (pk_move rfl rfl) rfl rfl rfl ?_; clear E a; intro a E; refine S_val E (pk_int rfl rfl rfl rfl) rfl rfl rfl ?_; clear E a; intro a E; refine S_val E (pk_pick rfl rfl rfl) rfl rfl rfl ?_; clear E a; intro a E; refine S_val E (pk_assign rfl rfl) rfl rfl rfl ?_; clear E a; intro a E; refine hK8 _ _ ?_; refine wp_ret ?_
          repeat (first | refine then_ret ?_ | refine block_ret ?_)
          refine ret1 rfl E (resT rfl) ?_; refine ⟨?_, H.keepLR (L := []) (R := [])⟩
          have hg : g.1 = wait.length := by omega
          have hz := hφ.2
          rw [hg, ← List.length_map (f := fun x : Ltr => x.text.length), List.take_length, List.length_map] at hz
          have e : fewS ⟨ep, log, wait, nx⟩ = (decide (log.length ≤ 60) && fewT log && decide (wait.length ≤ 200) && decide (g.2 ≤ 140000)) := by
            unfold fewS
            simp only
            by_cases h : wait.length ≤ 200
            · rw [hz h]; congr 1; rw [Bool.eq_iff_iff]; simp; omega
            · rw [decide_eq_false h, Bool.and_false, Bool.false_and, Bool.false_and]
          rw [e]
          clear e hz hφ
          simp_all
          try omega
        · skip
          clear E; intro c35 E; refine S_skip E rfl rfl rfl ?_; clear E a; intro a E; refine S_skip E rfl rfl rfl ?_; clear E a; intro a E; refine S_val E (pk_pick rfl rfl rfl) rfl rfl rfl ?_; clear E a; intro a E; refine S_val E (pk_assign rfl rfl) rfl rfl rfl ?_; clear E a; intro a E; refine hK8 _ _ ?_; refine wp_ret ?_
          repeat (first | refine then_ret ?_ | refine block_ret ?_)
          refine ret1 rfl E (resT rfl) ?_; refine ⟨?_, H.keepLR (L := []) (R := [])⟩
          have hg : g.1 = wait.length := by omega
          have hz := hφ.2
          rw [hg, ← List.length_map (f := fun x : Ltr => x.text.length), List.take_length, List.length_map] at hz
          have e : fewS ⟨ep, log, wait, nx⟩ = (decide (log.length ≤ 60) && fewT log && decide (wait.length ≤ 200) && decide (g.2 ≤ 140000)) := by
            unfold fewS
            simp only
            by_cases h : wait.length ≤ 200
            · rw [hz h]; congr 1; rw [Bool.eq_iff_iff]; simp; omega
            · rw [decide_eq_false h, Bool.and_false, Bool.false_and, Bool.false_and]
          rw [e]
          clear e hz hφ
          simp_all
          try omega
      · skip
        clear E; intro c29 E; refine S_skip E rfl rfl rfl ?_; clear E a; intro a E; refine S_skip E rfl rfl rfl ?_; clear E a; intro a E; refine S_skip E rfl rfl rfl ?_; clear E a; intro a E; refine S_skip E rfl rfl rfl ?_; clear E a; intro a E; refine S_val E (pk_pick rfl rfl rfl) rfl rfl rfl ?_; clear E a; intro a E; refine S_val E (pk_move rfl rfl) rfl rfl rfl ?_; clear E a; intro a E; refine S_skip E rfl rfl rfl ?_; clear E a; intro a E; refine S_skip E rfl rfl rfl ?_; clear E a; intro a E; refine S_val E (pk_pick rfl rfl rfl) rfl rfl rfl ?_; clear E a; intro a E; refine S_val E (pk_assign rfl rfl) rfl rfl rfl ?_; clear E a; intro a E; refine hK8 _ _ ?_; refine wp_ret ?_
        repeat (first | refine then_ret ?_ | refine block_ret ?_)
        refine ret1 rfl E (resT rfl) ?_; refine ⟨?_, H.keepLR (L := []) (R := [])⟩
        have hg : g.1 = wait.length := by omega
        have hz := hφ.2
        rw [hg, ← List.length_map (f := fun x : Ltr => x.text.length), List.take_length, List.length_map] at hz
        have e : fewS ⟨ep, log, wait, nx⟩ = (decide (log.length ≤ 60) && fewT log && decide (wait.length ≤ 200) && decide (g.2 ≤ 140000)) := by
          unfold fewS
          simp only
          by_cases h : wait.length ≤ 200
          · rw [hz h]; congr 1; rw [Bool.eq_iff_iff]; simp; omega
          · rw [decide_eq_false h, Bool.and_false, Bool.false_and, Bool.false_and]
        rw [e]
        clear e hz hφ
        simp_all
        try omega
    · skip
      clear E; intro c24 E; refine S_skip E rfl rfl rfl ?_; clear E a; intro a E; refine S_skip E rfl rfl rfl ?_; clear E a; intro a E; refine S_skip E rfl rfl rfl ?_; clear E a; intro a E; refine S_val E (pk_pick rfl rfl rfl) rfl rfl rfl ?_; clear E a; intro a E; refine S_val E (pk_move rfl rfl) rfl rfl rfl ?_; clear E a; intro a E; refine S_skip E rfl rfl rfl ?_; clear E a; intro a E; refine S_skip E rfl rfl rfl ?_; clear E a; intro a E; refine S_skip E rfl rfl rfl ?_; clear E a; intro a E; refine S_skip E rfl rfl rfl ?_; clear E a; intro a E; refine S_val E (pk_pick rfl rfl rfl) rfl rfl rfl ?_; clear E a; intro a E; refine S_val E (pk_move rfl rfl) rfl rfl rfl ?_; clear E a; intro a E; refine S_skip E rfl rfl rfl ?_; clear E a; intro a E; refine S_skip E rfl rfl rfl ?_; clear E a; intro a E; refine S_val E (pk_pick rfl rfl rfl) rfl rfl rfl ?_; clear E a; intro a E
      refine S_val E (pk_assign rfl rfl) rfl rfl rfl ?_; clear E a; intro a E; refine hK8 _ _ ?_; refine wp_ret ?_
      repeat (first | refine then_ret ?_ | refine block_ret ?_)
      refine ret1 rfl E (resT rfl) ?_; refine ⟨?_, H.keepLR (L := []) (R := [])⟩
      have hg : g.1 = wait.length := by omega
      have hz := hφ.2
      rw [hg, ← List.length_map (f := fun x : Ltr => x.text.length), List.take_length, List.length_map] at hz
      have e : fewS ⟨ep, log, wait, nx⟩ = (decide (log.length ≤ 60) && fewT log && decide (wait.length ≤ 200) && decide (g.2 ≤ 140000)) := by
        unfold fewS
        simp only
        by_cases h : wait.length ≤ 200
        · rw [hz h]; congr 1; rw [Bool.eq_iff_iff]; simp; omega
        · rw [decide_eq_false h, Bool.and_false, Bool.false_and, Bool.false_and]
      rw [e]
      clear e hz hφ
      simp_all
      try omega
end Go.Proofs.Yteefhbpmeajbfaa
namespace Go.Proofs.Yteefhbpmeajbfaa
set_option linter.unusedSimpArgs false
set_option linter.unusedVariables false
open Go.RowKit

/-- A commit of an epoch and a member alone. -/
def emC (ep : Nat) (by_ : Int) : Com := { ep := ep, by_ := by_, PA := none, pn := 0, pc := 0, kind := fun _ => 0, id := fun _ => 0, ppt := fun _ _ => 0, pt := fun _ => 0, SA := none, sn := 0, sc := 0, node := fun _ => 0, frm := fun _ => 0, DA := fun _ => none, dn := fun _ => 0, dc := fun _ => 0, dv := fun _ _ => 0, KA := none, kn := 0, kc := 0, key := fun _ _ => 0, BA := none, bn := 0, bc := 0, XA := fun _ => none, xn := fun _ => 0, xc := fun _ => 0, bx := fun _ => [] }
theorem emC_ok {ep : Nat} {by_ : Int} (h1 : ep ≤ 1099511627776) (h2 : 0 ≤ by_) (h3 : by_ ≤ 1048576) : OkCom (emC ep by_) :=
  ⟨⟨h1, h2, h3⟩, ⟨Nat.zero_le _, fun i hi => absurd hi (Nat.not_lt_zero i)⟩, ⟨Nat.zero_le _, rfl, fun i hi => absurd hi (Nat.not_lt_zero i)⟩, rfl, fun i hi => absurd hi (Nat.not_lt_zero i)⟩
theorem emC_few (ep : Nat) (by_ : Int) : FewC (emC ep by_) := ⟨fun i hi => absurd hi (Nat.not_lt_zero i), Nat.zero_le _, Nat.zero_le _, Nat.zero_le _, Nat.zero_le _⟩
theorem els_nil {w : World} {B sz : Nat} {A : Option Addr} {f : Nat → Nat → Value} : Els w B A 0 sz f := ⟨fun h => absurd h (Nat.lt_irrefl 0)⟩
theorem emC_at (ep : Nat) (by_ : Int) (w : World) (B : Nat) : ComOk w B (emC ep by_) :=
  ⟨els_nil, els_nil, fun i hi => absurd hi (Nat.not_lt_zero i), els_nil, els_nil, fun i hi => absurd hi (Nat.not_lt_zero i)⟩
theorem emC_b {ep : Nat} {by_ : Int} (h1 : ep ≤ 1099511627776) : ComB (emC ep by_) :=
  ⟨Nat.lt_of_le_of_lt h1 (by decide), fun i hi => absurd hi (Nat.not_lt_zero i), fun j hj => (by decide : (0 : Nat) < 256), fun i hi => absurd hi (Nat.not_lt_zero i), fun i hi => absurd hi (Nat.not_lt_zero i)⟩
/-- .. as a text. -/
def wrL (ep : Nat) (by_ : Int) : List Nat := lT (emC ep by_) fun _ => 0
theorem wrL_len {ep : Nat} {by_ : Int} (h1 : ep ≤ 1099511627776) (h2 : 0 ≤ by_) (h3 : by_ ≤ 1048576) : (wrL ep by_).length ≤ 2000000 := by
  have h := (emC_few ep by_).mid.ln (emC_ok h1 h2 h3) fun i hi => absurd hi (Nat.not_lt_zero i)
  unfold wrL lT
  rw [if_pos (emC_ok h1 h2 h3), List.length_append, keyL_len]
  omega
theorem wrL_cm {ep : Nat} {by_ : Int} (h1 : ep ≤ 1099511627776) (h2 : 0 ≤ by_) (h3 : by_ ≤ 1048576) : cmV (wrL ep by_) = (toP (emC ep by_) (fun _ => 0), 0) :=
  cm_back (emC_ok h1 h2 h3) (fun i hi => absurd hi (Nat.not_lt_zero i)) (emC_few ep by_).mid
theorem wrL_kind {ep : Nat} {by_ : Int} (h1 : ep ≤ 1099511627776) (h2 : 0 ≤ by_) (h3 : by_ ≤ 1048576) : kindV (wrL ep by_) = 1 := by
  unfold kindV
  rw [if_pos (by rw [wrL_cm h1 h2 h3])]
theorem wrL_ep {ep : Nat} {by_ : Int} (h1 : ep ≤ 1099511627776) (h2 : 0 ≤ by_) (h3 : by_ ≤ 1048576) : epV (wrL ep by_) = (ep : Int) := by
  unfold epV
  rw [if_pos (by rw [wrL_cm h1 h2 h3]), wrL_cm h1 h2 h3]
  rfl
theorem emC_v (ep : Nat) (by_ : Int) : ca [.one (.int .u64 ((ep : Nat) : Int)), .one (.int .i64 by_), .one (.slice none 0 0), .key [], .one (.slice none 0 0), .one (.slice none 0 0), .one (.slice none 0 0), .key []] = arrV 70 (comV (emC ep by_) fun _ => 0) := by kernel_rfl
section
variable {X : List Nat} {w0 w' : World}
theorem writeCommit_em {ep : Nat} {by_ : Int} (h1 : ep ≤ 1099511627776) (h2 : 0 ≤ by_) (h3 : by_ ≤ 1048576) (hX : ∀ k ∈ X, k < w0.heap.size) :
    Calls Try.prog 10 #[.agg (ca [.one (.int .u64 ((ep : Nat) : Int)), .one (.int .i64 by_), .one (.slice none 0 0), .key [], .one (.slice none 0 0), .one (.slice none 0 0), .one (.slice none 0 0), .key []])] w0 fun e w' => ∃ A c, e = .returned (.tuple #[.slice A (wrL ep by_).length c, .int .i64 0]) ∧ Sep X [] w0 w' [] [TxF A c (wrL ep by_)] := by
  rw [emC_v]
  refine (WriteCommit_any (emC ep by_) (fun _ => 0) w0.heap.size w0 (emC_at ep by_ _ _) (Nat.le_refl _) (emC_few ep by_).mid).mono ?_
  rintro e w' ⟨A, n, c, rfl, ho, hb⟩
  rw [chk_yes (emC_ok h1 h2 h3)]
  obtain ⟨A', c', e2, hs⟩ := own_txF hX ho (by have := wrL_len h1 h2 h3; unfold wrL at this; omega) (lT_lt _ _ (emC_b h1) fun j hj => by decide)
  injection e2 with e2 e3 e4
  subst e2 e3 e4
  exact ⟨A, c, rfl, (sep_below hX hb).know (hs.mono (by simp [keysR]))⟩
end
/-- Integers that stand side by side in a block. -/
theorem St.ints {b : Nat} {xs : List Int} {Y : List Nat} {w : World} {cs : List Chunk} (h : St (AtC ⟨b, 0, none⟩ cs) w Y) (hc : cl cs = xs.map (.int .i64 ·)) (hn : xs.length ≤ 9223372036854775807) : St (LiF IntT (some ⟨b, 0, none⟩) xs.length xs (fun _ => ())) w Y := h.imp fun w h =>
  ⟨Nat.le_refl _, hn, fun h => (by cases h), fun ad e i x hx => by
    obtain rfl := Option.some.inj e
    refine ⟨fun j u hu => ?_, trivial⟩
    have : j = 0 ∧ u = .int .i64 x := by
      cases j with
      | zero => exact ⟨rfl, (Option.some.inj hu).symm⟩
      | succ j => cases hu
    obtain ⟨rfl, rfl⟩ := this
    rw [Addr.add_add]
    refine h (i * 1 + 0) _ ?_
    rw [hc, Nat.mul_one, Nat.add_zero, List.getElem?_map, hx]
    rfl⟩
theorem sameB_self (s : Srv) : sameB s s = true := decide_eq_true ⟨rfl, rfl, rfl, rfl⟩
def exL : List Nat := wrL 0 0
theorem exL_is : wrL 0 0 = exL := rfl
theorem ex_post : postV ⟨0, [], [], 0⟩ exL [1, 2] = (⟨1, [exL], [⟨0, 1, exL⟩, ⟨1, 2, exL⟩], 2⟩, 0) := by
  unfold postV
  have h1 : kindV exL = 1 := wrL_kind (by decide) (by decide) (by decide)
  have h2 : epV exL = 0 := wrL_ep (by decide) (by decide) (by decide)
  rw [if_neg (by decide), if_neg (by rw [h1]; decide), if_neg (by rw [h1, h2]; decide), if_neg (by rw [h1]; decide)]
  simp only [h1, if_true]
  rfl
theorem ex_old : postV ⟨1, [exL], [⟨0, 1, exL⟩, ⟨1, 2, exL⟩], 2⟩ exL [3] = (noSrv, 9) := by
  unfold postV
  have h1 : kindV exL = 1 := wrL_kind (by decide) (by decide) (by decide)
  have h2 : epV exL = 0 := wrL_ep (by decide) (by decide) (by decide)
  rw [if_neg (by simp [okS, oddB, farB]), if_neg (by rw [h1]; decide), if_pos (by rw [h1, h2]; decide)]
attribute [local irreducible] farB oddB cmV wlV frV exL
set_option maxRecDepth 100000 in
set_option maxHeartbeats 4000000 in
theorem liveS_any  {X : List Nat} {w0 : World} (hX : ∀ k ∈ X, k < w0.heap.size) :
    Calls Try.prog 8 #[] w0 fun e w' => e = .returned (.bool true) ∧ Sep X [] w0 w' [] [] := by
  refine calls_env Try.ntmps8 Try.func8 rfl rfl fun a E => ?_; replace E : Env a _ [] := E
  have H : Sep X [] w0 w0 [] [] := Sep.start hX (fun _ h => by cases h)
  refine wp_seq_k fun K0 hK0 => ?_; refine S_region ?_; refine S_val E (pk_assign rfl rfl) rfl rfl rfl ?_; clear E a; intro a E; refine hK0 _ _ ?_; refine wp_seq_k fun K1 hK1 => ?_; refine S_region ?_; refine S_val E (pk_build (z := [.one (.int .u64 0), .one (.int .i64 0), .one (.slice none 0 0), .key [], .one (.slice none 0 0), .one (.slice none 0 0), .one (.slice none 0 0), .key []]) rfl (by kernel_rfl) (by kernel_rfl) rfl) rfl rfl rfl ?_; clear E a; intro a E; refine S_eff E rfl (fun K hK => ?_); refine eff_call E rfl rfl rfl (by kernel_rfl) ?_; refine (writeCommit_em (ep := 0) (by_ := 0) (by decide) (by decide) (by decide) H.xk).mono ?_; rintro e w ⟨cA, cc, rfl, H1⟩
  replace H := H.call H1
  clear H1; replace H : Sep _ _ _ _ [] [_] := H; refine hK _ _ ?_; clear hK K; refine S_put E rfl rfl ?_; clear E a; intro a E
  rw [exL_is] at E H
  refine S_val E (pk_move rfl rfl) rfl rfl rfl ?_; clear E a; intro a E; refine S_val E (pk_extract rfl rfl rfl) rfl rfl rfl ?_; clear E a; intro a E; refine S_val E (pk_extract rfl rfl rfl) rfl rfl rfl ?_; clear E a; intro a E; refine S_val E (pk_assign rfl rfl) rfl rfl rfl ?_; clear E a; intro a E; refine S_val E (pk_assign rfl rfl) rfl rfl rfl ?_; clear E a; intro a E; refine hK1 _ _ ?_; refine wp_seq_k fun K2 hK2 => ?_; refine S_region ?_; refine S_val E (pk_build (z := [.one (.int .u64 0), .one (.slice none 0 0), .one (.slice none 0 0), .one (.int .i64 0)]) rfl (by kernel_rfl) (by kernel_rfl) rfl) rfl rfl rfl ?_; clear E a; intro a E; refine S_val E (pk_move rfl rfl) rfl rfl rfl ?_; clear E a; intro a E; refine S_eff E rfl (fun K hK => ?_)
  refine eff_bslice (sz := 1) (z := [.one (.int .i64 0), .one (.int .i64 0)]) E H rfl Try.underlying24 (by kernel_rfl) (by decide) (by kernel_rfl) ⟨_, [.one _], 0, _, rfl, rfl, rfl, rfl, ⟨_, [.one _], 1, _, rfl, rfl, rfl, rfl, rfl⟩⟩ ?_; clear H; intro b15 w H _; refine hK _ _ ?_; clear hK K; refine S_put E rfl rfl ?_; clear E a; intro a E; refine S_eff E rfl (fun K hK => ?_); refine eff_call E rfl rfl rfl (by kernel_rfl) ?_
  replace H := H.lend 0 rfl
  replace H := H.know ((H.fact 0 rfl).ints (xs := [1, 2]) rfl (by decide))
  refine (Post_any H.xk (liF_nil (m := fun _ => TextT.dft)) (liF_nil (m := fun _ => LtrT.dft)) (H.fact 2 rfl) (H.fact 0 rfl)).mono ?_; rintro e w ⟨LA1, lc1, lm1, WA1, wc1, wm1, rfl, H1⟩
  replace H := H.call H1
  clear H1; replace H : Sep _ _ _ _ [] [_, _, _, _, _] := H; refine hK _ _ ?_; clear hK K; refine S_put E rfl rfl ?_; clear E a; intro a E
  rw [ex_post] at E H
  dsimp only at E H
  refine S_val E (pk_move rfl rfl) rfl rfl rfl ?_; clear E a; intro a E; refine S_val E (pk_extract rfl rfl rfl) rfl rfl rfl ?_; clear E a; intro a E; refine S_val E (pk_extract rfl rfl rfl) rfl rfl rfl ?_; clear E a; intro a E; refine S_eff E rfl (fun K hK => ?_); refine eff_alloc (z := [.one (.int .u64 0), .one (.slice none 0 0), .one (.slice none 0 0), .one (.int .i64 0)]) H rfl (by kernel_rfl) ?_; clear H; intro b3 w H _; refine hK _ _ ?_; clear hK K; refine S_put E rfl rfl ?_; clear E a; intro a E; refine S_eff E rfl (fun K hK => ?_); refine eff_store 0 E H rfl rfl rfl rfl rfl (by repeat (first | exact trivial | refine ⟨rfl, ?_⟩ | refine ⟨fun _ _ => rfl, ?_⟩)) rfl (by kernel_rfl) rfl ?_; clear H; intro w H _; replace H : Sep _ _ _ _ [_] _ := H; refine hK _ _ ?_; clear hK K; refine S_put0 rfl ?_; refine S_val E (pk_assign rfl rfl) rfl rfl rfl ?_; clear E a; intro a E
  refine hK2 _ _ ?_; refine wp_seq_k fun K3 hK3 => ?_; refine S_region ?_; refine S_val E (pk_load (n := 4) H 0 rfl rfl rfl trivial rfl (by kernel_rfl)) rfl rfl rfl ?_; clear E a; intro a E; refine S_val E (pk_move rfl rfl) rfl rfl rfl ?_; clear E a; intro a E; refine S_eff E rfl (fun K hK => ?_); refine eff_bslice (sz := 1) (z := [.one (.int .i64 0)]) E H rfl Try.underlying24 (by kernel_rfl) (by decide) (by kernel_rfl) ⟨_, [.one _], 0, _, rfl, rfl, rfl, rfl, rfl⟩ ?_; clear H; intro b22 w H _; refine hK _ _ ?_; clear hK K; refine S_put E rfl rfl ?_; clear E a; intro a E; refine S_eff E rfl (fun K hK => ?_); refine eff_call E rfl rfl rfl (by kernel_rfl) ?_
  replace H := H.lend 0 rfl
  replace H := H.know ((H.fact 0 rfl).ints (xs := [3]) rfl (by decide))
  refine (Post_any H.xk (H.fact 2 rfl) (H.fact 3 rfl) (H.fact 6 rfl) (H.fact 0 rfl)).mono ?_; rintro e w ⟨LA2, lc2, lm2, WA2, wc2, wm2, rfl, H1⟩
  replace H := H.call H1
  clear H1; replace H : Sep _ _ _ _ [_] [_, _, _, _, _, _, _, _, _] := H; refine hK _ _ ?_; clear hK K; refine S_put E rfl rfl ?_; clear E a; intro a E
  rw [ex_old] at E H
  dsimp only at E H
  refine S_val E (pk_move rfl rfl) rfl rfl rfl ?_; clear E a; intro a E; refine S_val E (pk_extract rfl rfl rfl) rfl rfl rfl ?_; clear E a; intro a E; refine S_val E (pk_extract rfl rfl rfl) rfl rfl rfl ?_; clear E a; intro a E; refine S_eff E rfl (fun K hK => ?_); refine eff_alloc (z := [.one (.int .u64 0), .one (.slice none 0 0), .one (.slice none 0 0), .one (.int .i64 0)]) H rfl (by kernel_rfl) ?_; clear H; intro b5 w H _; refine hK _ _ ?_; clear hK K; refine S_put E rfl rfl ?_; clear E a; intro a E; refine S_eff E rfl (fun K hK => ?_); refine eff_store 0 E H rfl rfl rfl rfl rfl (by repeat (first | exact trivial | refine ⟨rfl, ?_⟩ | refine ⟨fun _ _ => rfl, ?_⟩)) rfl (by kernel_rfl) rfl ?_; clear H; intro w H _; replace H : Sep _ _ _ _ [_, _] _ := H; refine hK _ _ ?_; clear hK K; refine S_put0 rfl ?_; refine S_val E (pk_assign rfl rfl) rfl rfl rfl ?_; clear E a; intro a E
  refine hK3 _ _ ?_; refine wp_seq_k fun K4 hK4 => ?_; refine S_region ?_; refine S_val E (pk_move rfl rfl) rfl rfl rfl ?_; clear E a; intro a E; refine S_val E (pk_int (v := .bool true) rfl rfl rfl (by rfl)) rfl rfl rfl ?_; clear E a; intro a E; refine S_val E (pk_move rfl rfl) rfl rfl rfl ?_; clear E a; intro a E; refine S_val E (pk_move rfl rfl) rfl rfl rfl ?_; clear E a; intro a E; refine S_val E (pk_int (v := .bool true) rfl rfl rfl (by rfl)) rfl rfl rfl ?_; clear E a; intro a E; refine S_val E (pk_pick rfl rfl rfl) rfl rfl rfl ?_; clear E a; intro a E; refine S_val E (pk_move rfl rfl) rfl rfl rfl ?_; clear E a; intro a E; refine S_val E (pk_move rfl rfl) rfl rfl rfl ?_; clear E a; intro a E; refine S_val E (pk_int (v := .bool true) rfl rfl rfl (by rfl)) rfl rfl rfl ?_; clear E a; intro a E; refine S_val E (pk_pick rfl rfl rfl) rfl rfl rfl ?_; clear E a; intro a E
  refine S_val E (pk_move rfl rfl) rfl rfl rfl ?_; clear E a; intro a E; refine S_val E (pk_fieldAddr (off := 0) rfl rfl (by kernel_rfl)) rfl rfl rfl ?_; clear E a; intro a E; refine S_val E (pk_load1 H 1 rfl rfl rfl trivial rfl (by kernel_rfl)) rfl rfl rfl ?_; clear E a; intro a E; refine S_val E (pk_int (v := .bool true) rfl rfl rfl (by rfl)) rfl rfl rfl ?_; clear E a; intro a E; refine S_val E (pk_pick rfl rfl rfl) rfl rfl rfl ?_; clear E a; intro a E; refine S_val E (pk_move rfl rfl) rfl rfl rfl ?_; clear E a; intro a E; refine S_val E (pk_fieldAddr (off := 2) rfl rfl (by kernel_rfl)) rfl rfl rfl ?_; clear E a; intro a E; refine S_val E (pk_load1 H 1 rfl rfl rfl trivial rfl (by kernel_rfl)) rfl rfl rfl ?_; clear E a; intro a E; refine S_val E (pk_len rfl rfl (by kernel_rfl)) rfl rfl rfl ?_; clear E a; intro a E
  refine S_val E (pk_int (v := .bool true) rfl rfl rfl (by rfl)) rfl rfl rfl ?_; clear E a; intro a E; refine S_val E (pk_pick rfl rfl rfl) rfl rfl rfl ?_; clear E a; intro a E; refine S_val E (pk_move rfl rfl) rfl rfl rfl ?_; clear E a; intro a E; refine S_val E (pk_fieldAddr (off := 2) rfl rfl (by kernel_rfl)) rfl rfl rfl ?_; clear E a; intro a E; refine S_val E (pk_load1 H 1 rfl rfl rfl trivial rfl (by kernel_rfl)) rfl rfl rfl ?_; clear E a; intro a E
  obtain ⟨ad50, hA50, hc50, hn50⟩ := LiF.get (A := WA1) (T := LtrT) (i := 1) (x := ⟨1, 2, exL⟩) (by exact H.fact 5 rfl) rfl
  refine S_val E (pk_elA (sz := 3) hA50 rfl (by kernel_rfl) rfl rfl rfl (by decide)) rfl rfl rfl ?_; clear E a; intro a E
  replace H := (H.know hn50).know hc50
  clear hn50 hc50; replace H : Sep _ _ _ _ _ [_, _, _, _, _, _, _, _, _, _, _] := H; refine S_val E (pk_fieldAddr (off := 1) rfl rfl (by kernel_rfl)) rfl rfl rfl ?_; clear E a; intro a E; refine S_val E (pk_loadF1 (H.fact 0 rfl) (fun _ _ _ => trivial) rfl rfl rfl (by kernel_rfl)) rfl rfl rfl ?_; clear E a; intro a E; refine S_val E (pk_int (v := .bool true) rfl rfl rfl (by rfl)) rfl rfl rfl ?_; clear E a; intro a E; refine S_val E (pk_pick rfl rfl rfl) rfl rfl rfl ?_; clear E a; intro a E; refine S_val E (pk_assign rfl rfl) rfl rfl rfl ?_; clear E a; intro a E; refine hK4 _ _ ?_; refine wp_ret ?_
  repeat (first | refine then_ret ?_ | refine block_ret ?_)
  refine ret1 rfl E (resT rfl) ?_
  exact ⟨rfl, H.keepLR (L := []) (R := [])⟩
end Go.Proofs.Yteefhbpmeajbfaa
namespace Go.Proofs.Yteefhbpmeajbfaa
set_option linter.unusedSimpArgs false
set_option linter.unusedVariables false
open Go.RowKit
attribute [local irreducible] farB oddB cmV wlV frV exL
section
variable {X : List Nat} {w0 w' : World} {ep nx : Int} {LA WA LA2 WA2 : Option Addr} {lc wc lc2 wc2 : Nat} {log : List (List Nat)} {wait : List Ltr} {lm lm2 : Nat → TextT.μ} {wm wm2 : Nat → LtrT.μ}
theorem RSame_self (hX : ∀ k ∈ X, k < w0.heap.size) (hL : St (LiF TextT LA lc log lm) w0 X) (hW : St (LiF LtrT WA wc wait wm) w0 X) (hL2 : St (LiF TextT LA2 lc2 log lm2) w0 X) (hW2 : St (LiF LtrT WA2 wc2 wait wm2) w0 X) :
    Calls Try.prog 19 #[.agg (ca [.one (.int .u64 ep), .one (.slice LA log.length lc), .one (.slice WA wait.length wc), .one (.int .i64 nx)]), .agg (ca [.one (.int .u64 ep), .one (.slice LA2 log.length lc2), .one (.slice WA2 wait.length wc2), .one (.int .i64 nx)])] w0 fun e w' => e = .returned (.bool true) ∧ Sep X [] w0 w' [] [] :=
  (RSame_any hX hL hW hL2 hW2).mono fun e w' h => ⟨by rw [h.1, sameB_self], h.2⟩
theorem RCopy_fz (hl1 : log.length ≤ 1000000) (hl2 : wait.length ≤ 1000000) (hX : ∀ k ∈ X, k < w0.heap.size) (hL : St (LiF TextT LA lc log lm) w0 X) (hW : St (LiF LtrT WA wc wait wm) w0 X) :
    Calls Try.prog 17 #[.agg (ca [.one (.int .u64 ep), .one (.slice LA log.length lc), .one (.slice WA wait.length wc), .one (.int .i64 nx)])] w0 fun e w' => ∃ LA' lc' lm' WA' wc' wm', e = .returned (.agg (ca [.one (.int .u64 ep), .one (.slice LA' log.length lc'), .one (.slice WA' wait.length wc'), .one (.int .i64 nx)])) ∧ Sep X [] w0 w' [] [LiF TextT LA' lc' log lm', LiF LtrT WA' wc' wait wm'] := by
  refine (RCopy_any hl1 hl2 hX hL hW).mono ?_
  rintro e w' ⟨LA', lc', WA', wc', ds, es, hds, hes, rfl, H⟩
  obtain ⟨wm2, HW⟩ := (H.at_ 0 _ rfl).freezeL (xs := wait) rfl (by simp) hes
  obtain ⟨lm2, HL⟩ := (HW.at_ 0 _ rfl).freezeL (xs := log) rfl (by simp) hds
  have hds2 : ds.length = log.length := by rw [← hds, List.length_map]
  have hes2 : es.length = wait.length := by rw [← hes, List.length_map]
  exact ⟨LA', lc', lm2, WA', wc', wm2, by rw [hds2, hes2], HL.keepLR (L := []) (R := [_, _])⟩
end
theorem fewS_of {s : Srv} (h : fewS s = true) : s.log.length ≤ 60 ∧ s.wait.length ≤ 200 := by
  simp only [fewS, Bool.and_eq_true, decide_eq_true_eq] at h
  exact ⟨h.1.1.1, h.1.2⟩
end Go.Proofs.Yteefhbpmeajbfaa
