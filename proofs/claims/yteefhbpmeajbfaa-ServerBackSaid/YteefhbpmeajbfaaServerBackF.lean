/- What layer 22's laws share: a commit that is written; its example. The law ServerTakes: whatever the server, the number and the letter, it answers true. The law ServerDrains: whatever the server, it answers true. The law ServerBack: whatever the server and the number, it answers true. Arguments that come in, opened: rows of integers by value. No program is in sight. Arguments that come in, opened: texts, and structs of four with texts. No program is in sight. Arguments that come in, opened: whatever is made of integers, texts, keys, structs and slices. No program is in sight. Layer 22's arguments, opened. -/
import Derived.Test.YteefhbpmeajbfaaServerBackE
import Derived.WalkKit
import Derived.WalkSpells
import Derived.WalkLawsBesides
import Derived.Deep.QuietTactic
import Derived.BigQuiet
import Derived.StillTailTactics
import Derived.Lib.Hide
import Derived.Deep.LoopGhost
import Derived.Outline
import Derived.Deep.DeepFit
import Derived.Deep.RegionHeld3
import Derived.Deep.RegionLaw
import Derived.OrdersHeld
import Derived.Laws.StructEq
import Derived.Maps.AppendAt
import Derived.Deep.AppendLies
import Derived.Deep.Draws
import Derived.Laws.OwnMore
import Derived.Laws.AppendOwnNone
import Derived.OwnWalk
import Derived.Below
import Derived.Deep.Cut
import Derived.Deep.CutBlock
import Derived.Deep.CutRange
import Derived.DataElems
import Derived.Great.BuildSlice
import Derived.Laws.Entries
import Derived.Laws.Tables
import Derived.SizedLaws
import Derived.Lib.SliceRun
import Derived.Laws.Small
import Derived.Great.Walk
import Derived.Test.YteefhbpmeajbfaaRows
import Derived.Laws.IdiomStrings
import Derived.Lib.Tables
import Derived.Lib.BitFns
import Derived.Laws.Bits64b
import Derived.ProofKit
import Derived.OpenShut
import Derived.ShutString
import Derived.ChangeOld
import Derived.ChangeSlices
import Derived.Lib.SmallJoins
namespace Go.Proofs.Yteefhbpmeajbfaa
set_option linter.unusedSimpArgs false
set_option linter.unusedVariables false
open Go.RowKit

/-- A commit of an epoch and a member alone. -/
def emC (ep : Nat) (by_ : Int) : Com := { ep := ep, by_ := by_, PA := none, pn := 0, pc := 0, kind := fun _ => 0, id := fun _ => 0, ppt := fun _ _ => 0, pt := fun _ => 0, SA := none, sn := 0, sc := 0, node := fun _ => 0, frm := fun _ => 0, DA := fun _ => none, dn := fun _ => 0, dc := fun _ => 0, dv := fun _ _ => 0, KA := none, kn := 0, kc := 0, key := fun _ _ => 0, BA := none, bn := 0, bc := 0, XA := fun _ => none, xn := fun _ => 0, xc := fun _ => 0, bx := fun _ => [] }
theorem emC_ok {ep : Nat} {by_ : Int} (h1 : ep ≤ 1099511627776) (h2 : 0 ≤ by_) (h3 : by_ ≤ 1048576) : OkCom (emC ep by_) :=
  ⟨⟨h1, h2, h3⟩, ⟨Nat.zero_le _, fun i hi => absurd hi (Nat.not_lt_zero i)⟩, ⟨Nat.zero_le _, rfl, fun i hi => absurd hi (Nat.not_lt_zero i)⟩, rfl, fun i hi => absurd hi (Nat.not_lt_zero i)⟩
theorem emC_few (ep : Nat) (by_ : Int) : FewC (emC ep by_) := ⟨fun i hi => absurd hi (Nat.not_lt_zero i), Nat.zero_le _, Nat.zero_le _, Nat.zero_le _, Nat.zero_le _⟩
theorem els_nil {w : World} {B sz : Nat} {A : Option Addr} {f : Nat → Nat → Value} : Els w B A 0 sz f := ⟨fun h => absurd h (Nat.lt_irrefl 0)⟩
theorem emC_at (ep : Nat) (by_ : Int) (w : World) (B : Nat) : ComOk w B (emC ep by_) :=
  ⟨els_nil, els_nil, fun i hi => absurd hi (Nat.not_lt_zero i), els_nil, els_nil, fun i hi => absurd hi (Nat.not_lt_zero i)⟩
theorem emC_b {ep : Nat} {by_ : Int} (h1 : ep ≤ 1099511627776) : ComB (emC ep by_) :=
  ⟨Nat.lt_of_le_of_lt h1 (by decide), fun i hi => absurd hi (Nat.not_lt_zero i), fun j hj => (by decide : (0 : Nat) < 256), fun i hi => absurd hi (Nat.not_lt_zero i), fun i hi => absurd hi (Nat.not_lt_zero i)⟩
/-- .. as a text. -/
def wrL (ep : Nat) (by_ : Int) : List Nat := lT (emC ep by_) fun _ => 0
theorem wrL_len {ep : Nat} {by_ : Int} (h1 : ep ≤ 1099511627776) (h2 : 0 ≤ by_) (h3 : by_ ≤ 1048576) : (wrL ep by_).length ≤ 2000000 := by
  have h := (emC_few ep by_).mid.ln (emC_ok h1 h2 h3) fun i hi => absurd hi (Nat.not_lt_zero i)
  unfold wrL lT
  rw [if_pos (emC_ok h1 h2 h3), List.length_append, keyL_len]
  omega
theorem wrL_cm {ep : Nat} {by_ : Int} (h1 : ep ≤ 1099511627776) (h2 : 0 ≤ by_) (h3 : by_ ≤ 1048576) : cmV (wrL ep by_) = (toP (emC ep by_) (fun _ => 0), 0) :=
  cm_back (emC_ok h1 h2 h3) (fun i hi => absurd hi (Nat.not_lt_zero i)) (emC_few ep by_).mid
theorem wrL_kind {ep : Nat} {by_ : Int} (h1 : ep ≤ 1099511627776) (h2 : 0 ≤ by_) (h3 : by_ ≤ 1048576) : kindV (wrL ep by_) = 1 := by
  unfold kindV
  rw [if_pos (by rw [wrL_cm h1 h2 h3])]
theorem wrL_ep {ep : Nat} {by_ : Int} (h1 : ep ≤ 1099511627776) (h2 : 0 ≤ by_) (h3 : by_ ≤ 1048576) : epV (wrL ep by_) = (ep : Int) := by
  unfold epV
  rw [if_pos (by rw [wrL_cm h1 h2 h3]), wrL_cm h1 h2 h3]
  rfl
theorem emC_v (ep : Nat) (by_ : Int) : ca [.one (.int .u64 ((ep : Nat) : Int)), .one (.int .i64 by_), .one (.slice none 0 0), .key [], .one (.slice none 0 0), .one (.slice none 0 0), .one (.slice none 0 0), .key []] = arrV 70 (comV (emC ep by_) fun _ => 0) := by kernel_rfl
section
variable {X : List Nat} {w0 w' : World}
theorem writeCommit_em {ep : Nat} {by_ : Int} (h1 : ep ≤ 1099511627776) (h2 : 0 ≤ by_) (h3 : by_ ≤ 1048576) (hX : ∀ k ∈ X, k < w0.heap.size) :
    Calls Try.prog 10 #[.agg (ca [.one (.int .u64 ((ep : Nat) : Int)), .one (.int .i64 by_), .one (.slice none 0 0), .key [], .one (.slice none 0 0), .one (.slice none 0 0), .one (.slice none 0 0), .key []])] w0 fun e w' => ∃ A c, e = .returned (.tuple #[.slice A (wrL ep by_).length c, .int .i64 0]) ∧ Sep X [] w0 w' [] [TxF A c (wrL ep by_)] := by
  rw [emC_v]
  refine (WriteCommit_any (emC ep by_) (fun _ => 0) w0.heap.size w0 (emC_at ep by_ _ _) (Nat.le_refl _) (emC_few ep by_).mid).mono ?_
  rintro e w' ⟨A, n, c, rfl, ho, hb⟩
  rw [chk_yes (emC_ok h1 h2 h3)]
  obtain ⟨A', c', e2, hs⟩ := own_txF hX ho (by have := wrL_len h1 h2 h3; unfold wrL at this; omega) (lT_lt _ _ (emC_b h1) fun j hj => by decide)
  injection e2 with e2 e3 e4
  subst e2 e3 e4
  exact ⟨A, c, rfl, (sep_below hX hb).know (hs.mono (by simp [keysR]))⟩
end
/-- Integers that stand side by side in a block. -/
theorem St.ints {b : Nat} {xs : List Int} {Y : List Nat} {w : World} {cs : List Chunk} (h : St (AtC ⟨b, 0, none⟩ cs) w Y) (hc : cl cs = xs.map (.int .i64 ·)) (hn : xs.length ≤ 9223372036854775807) : St (LiF IntT (some ⟨b, 0, none⟩) xs.length xs (fun _ => ())) w Y := h.imp fun w h =>
  ⟨Nat.le_refl _, hn, fun h => (by cases h), fun ad e i x hx => by
    obtain rfl := Option.some.inj e
    refine ⟨fun j u hu => ?_, trivial⟩
    have : j = 0 ∧ u = .int .i64 x := by
      cases j with
      | zero => exact ⟨rfl, (Option.some.inj hu).symm⟩
      | succ j => cases hu
    obtain ⟨rfl, rfl⟩ := this
    rw [Addr.add_add]
    refine h (i * 1 + 0) _ ?_
    rw [hc, Nat.mul_one, Nat.add_zero, List.getElem?_map, hx]
    rfl⟩
def exL : List Nat := wrL 0 0
theorem exL_is : wrL 0 0 = exL := rfl
theorem ex_post : postV ⟨0, [], [], 0⟩ exL [1, 2] = (⟨1, [exL], [⟨0, 1, exL⟩, ⟨1, 2, exL⟩], 2⟩, 0) := by
  unfold postV
  have h1 : kindV exL = 1 := wrL_kind (by decide) (by decide) (by decide)
  have h2 : epV exL = 0 := wrL_ep (by decide) (by decide) (by decide)
  rw [if_neg (by decide), if_neg (by rw [h1]; decide), if_neg (by rw [h1, h2]; decide), if_neg (by rw [h1]; decide)]
  simp only [h1, if_true]
  rfl
theorem ex_old : postV ⟨1, [exL], [⟨0, 1, exL⟩, ⟨1, 2, exL⟩], 2⟩ exL [3] = (noSrv, 9) := by
  unfold postV
  have h1 : kindV exL = 1 := wrL_kind (by decide) (by decide) (by decide)
  have h2 : epV exL = 0 := wrL_ep (by decide) (by decide) (by decide)
  rw [if_neg (by simp [okS, oddB, farB]), if_neg (by rw [h1]; decide), if_pos (by rw [h1, h2]; decide)]
attribute [local irreducible] farB oddB cmV wlV frV exL
set_option maxRecDepth 100000 in
set_option maxHeartbeats 4000000 in
theorem liveS_any  {X : List Nat} {w0 : World} (hX : ∀ k ∈ X, k < w0.heap.size) :
    Calls Try.prog 8 #[] w0 fun e w' => e = .returned (.bool true) ∧ Sep X [] w0 w' [] [] := by
  refine calls_env Try.ntmps8 Try.func8 rfl rfl fun a E => ?_; replace E : Env a _ [] := E
  have H : Sep X [] w0 w0 [] [] := Sep.start hX (fun _ h => by cases h)
  refine wp_seq_k fun K0 hK0 => ?_; refine S_region ?_; refine S_val E (pk_assign rfl rfl) rfl rfl rfl ?_; clear E a; intro a E; refine hK0 _ _ ?_; refine wp_seq_k fun K1 hK1 => ?_; refine S_region ?_; refine S_val E (pk_build (z := [.one (.int .u64 0), .one (.int .i64 0), .one (.slice none 0 0), .key [], .one (.slice none 0 0), .one (.slice none 0 0), .one (.slice none 0 0), .key []]) rfl (by kernel_rfl) (by kernel_rfl) rfl) rfl rfl rfl ?_; clear E a; intro a E; refine S_eff E rfl (fun K hK => ?_); refine eff_call E rfl rfl rfl (by kernel_rfl) ?_; refine (writeCommit_em (ep := 0) (by_ := 0) (by decide) (by decide) (by decide) H.xk).mono ?_; rintro e w ⟨cA, cc, rfl, H1⟩
  replace H := H.call H1
  clear H1; replace H : Sep _ _ _ _ [] [_] := H; refine hK _ _ ?_; clear hK K; refine S_put E rfl rfl ?_; clear E a; intro a E
  rw [exL_is] at E H
  refine S_val E (pk_move rfl rfl) rfl rfl rfl ?_; clear E a; intro a E; refine S_val E (pk_extract rfl rfl rfl) rfl rfl rfl ?_; clear E a; intro a E; refine S_val E (pk_extract rfl rfl rfl) rfl rfl rfl ?_; clear E a; intro a E; refine S_val E (pk_assign rfl rfl) rfl rfl rfl ?_; clear E a; intro a E; refine S_val E (pk_assign rfl rfl) rfl rfl rfl ?_; clear E a; intro a E; refine hK1 _ _ ?_; refine wp_seq_k fun K2 hK2 => ?_; refine S_region ?_; refine S_val E (pk_build (z := [.one (.int .u64 0), .one (.slice none 0 0), .one (.slice none 0 0), .one (.int .i64 0)]) rfl (by kernel_rfl) (by kernel_rfl) rfl) rfl rfl rfl ?_; clear E a; intro a E; refine S_val E (pk_move rfl rfl) rfl rfl rfl ?_; clear E a; intro a E; refine S_eff E rfl (fun K hK => ?_)
  refine eff_bslice (sz := 1) (z := [.one (.int .i64 0), .one (.int .i64 0)]) E H rfl Try.underlying24 (by kernel_rfl) (by decide) (by kernel_rfl) ⟨_, [.one _], 0, _, rfl, rfl, rfl, rfl, ⟨_, [.one _], 1, _, rfl, rfl, rfl, rfl, rfl⟩⟩ ?_; clear H; intro b15 w H _; refine hK _ _ ?_; clear hK K; refine S_put E rfl rfl ?_; clear E a; intro a E; refine S_eff E rfl (fun K hK => ?_); refine eff_call E rfl rfl rfl (by kernel_rfl) ?_
  replace H := H.lend 0 rfl
  replace H := H.know ((H.fact 0 rfl).ints (xs := [1, 2]) rfl (by decide))
  refine (Post_any H.xk (liF_nil (m := fun _ => TextT.dft)) (liF_nil (m := fun _ => LtrT.dft)) (H.fact 2 rfl) (H.fact 0 rfl)).mono ?_; rintro e w ⟨LA1, lc1, lm1, WA1, wc1, wm1, rfl, H1⟩
  replace H := H.call H1
  clear H1; replace H : Sep _ _ _ _ [] [_, _, _, _, _] := H; refine hK _ _ ?_; clear hK K; refine S_put E rfl rfl ?_; clear E a; intro a E
  rw [ex_post] at E H
  dsimp only at E H
  refine S_val E (pk_move rfl rfl) rfl rfl rfl ?_; clear E a; intro a E; refine S_val E (pk_extract rfl rfl rfl) rfl rfl rfl ?_; clear E a; intro a E; refine S_val E (pk_extract rfl rfl rfl) rfl rfl rfl ?_; clear E a; intro a E; refine S_eff E rfl (fun K hK => ?_); refine eff_alloc (z := [.one (.int .u64 0), .one (.slice none 0 0), .one (.slice none 0 0), .one (.int .i64 0)]) H rfl (by kernel_rfl) ?_; clear H; intro b3 w H _; refine hK _ _ ?_; clear hK K; refine S_put E rfl rfl ?_; clear E a; intro a E; refine S_eff E rfl (fun K hK => ?_); refine eff_store 0 E H rfl rfl rfl rfl rfl (by repeat (first | exact trivial | refine ⟨rfl, ?_⟩ | refine ⟨fun _ _ => rfl, ?_⟩)) rfl (by kernel_rfl) rfl ?_; clear H; intro w H _; replace H : Sep _ _ _ _ [_] _ := H; refine hK _ _ ?_; clear hK K; refine S_put0 rfl ?_; refine S_val E (pk_assign rfl rfl) rfl rfl rfl ?_; clear E a; intro a E
  refine hK2 _ _ ?_; refine wp_seq_k fun K3 hK3 => ?_; refine S_region ?_; refine S_val E (pk_load (n := 4) H 0 rfl rfl rfl trivial rfl (by kernel_rfl)) rfl rfl rfl ?_; clear E a; intro a E; refine S_val E (pk_move rfl rfl) rfl rfl rfl ?_; clear E a; intro a E; refine S_eff E rfl (fun K hK => ?_); refine eff_bslice (sz := 1) (z := [.one (.int .i64 0)]) E H rfl Try.underlying24 (by kernel_rfl) (by decide) (by kernel_rfl) ⟨_, [.one _], 0, _, rfl, rfl, rfl, rfl, rfl⟩ ?_; clear H; intro b22 w H _; refine hK _ _ ?_; clear hK K; refine S_put E rfl rfl ?_; clear E a; intro a E; refine S_eff E rfl (fun K hK => ?_); refine eff_call E rfl rfl rfl (by kernel_rfl) ?_
  replace H := H.lend 0 rfl
  replace H := H.know ((H.fact 0 rfl).ints (xs := [3]) rfl (by decide))
  refine (Post_any H.xk (H.fact 2 rfl) (H.fact 3 rfl) (H.fact 6 rfl) (H.fact 0 rfl)).mono ?_; rintro e w ⟨LA2, lc2, lm2, WA2, wc2, wm2, rfl, H1⟩
  replace H := H.call H1
  clear H1; replace H : Sep _ _ _ _ [_] [_, _, _, _, _, _, _, _, _] := H; refine hK _ _ ?_; clear hK K; refine S_put E rfl rfl ?_; clear E a; intro a E
  rw [ex_old] at E H
  dsimp only at E H
  refine S_val E (pk_move rfl rfl) rfl rfl rfl ?_; clear E a; intro a E; refine S_val E (pk_extract rfl rfl rfl) rfl rfl rfl ?_; clear E a; intro a E; refine S_val E (pk_extract rfl rfl rfl) rfl rfl rfl ?_; clear E a; intro a E; refine S_eff E rfl (fun K hK => ?_); refine eff_alloc (z := [.one (.int .u64 0), .one (.slice none 0 0), .one (.slice none 0 0), .one (.int .i64 0)]) H rfl (by kernel_rfl) ?_; clear H; intro b5 w H _; refine hK _ _ ?_; clear hK K; refine S_put E rfl rfl ?_; clear E a; intro a E; refine S_eff E rfl (fun K hK => ?_); refine eff_store 0 E H rfl rfl rfl rfl rfl (by repeat (first | exact trivial | refine ⟨rfl, ?_⟩ | refine ⟨fun _ _ => rfl, ?_⟩)) rfl (by kernel_rfl) rfl ?_; clear H; intro w H _; replace H : Sep _ _ _ _ [_, _] _ := H; refine hK _ _ ?_; clear hK K; refine S_put0 rfl ?_; refine S_val E (pk_assign rfl rfl) rfl rfl rfl ?_; clear E a; intro a E
  refine hK3 _ _ ?_; refine wp_seq_k fun K4 hK4 => ?_; refine S_region ?_; refine S_val E (pk_move rfl rfl) rfl rfl rfl ?_; clear E a; intro a E; refine S_val E (pk_int (v := .bool true) rfl rfl rfl (by rfl)) rfl rfl rfl ?_; clear E a; intro a E; refine S_val E (pk_move rfl rfl) rfl rfl rfl ?_; clear E a; intro a E; refine S_val E (pk_move rfl rfl) rfl rfl rfl ?_; clear E a; intro a E; refine S_val E (pk_int (v := .bool true) rfl rfl rfl (by rfl)) rfl rfl rfl ?_; clear E a; intro a E; refine S_val E (pk_pick rfl rfl rfl) rfl rfl rfl ?_; clear E a; intro a E; refine S_val E (pk_move rfl rfl) rfl rfl rfl ?_; clear E a; intro a E; refine S_val E (pk_move rfl rfl) rfl rfl rfl ?_; clear E a; intro a E; refine S_val E (pk_int (v := .bool true) rfl rfl rfl (by rfl)) rfl rfl rfl ?_; clear E a; intro a E; refine S_val E (pk_pick rfl rfl rfl) rfl rfl rfl ?_; clear E a; intro a E
  refine S_val E (pk_move rfl rfl) rfl rfl rfl ?_; clear E a; intro a E; refine S_val E (pk_fieldAddr (off := 0) rfl rfl (by kernel_rfl)) rfl rfl rfl ?_; clear E a; intro a E; refine S_val E (pk_load1 H 1 rfl rfl rfl trivial rfl (by kernel_rfl)) rfl rfl rfl ?_; clear E a; intro a E; refine S_val E (pk_int (v := .bool true) rfl rfl rfl (by rfl)) rfl rfl rfl ?_; clear E a; intro a E; refine S_val E (pk_pick rfl rfl rfl) rfl rfl rfl ?_; clear E a; intro a E; refine S_val E (pk_move rfl rfl) rfl rfl rfl ?_; clear E a; intro a E; refine S_val E (pk_fieldAddr (off := 2) rfl rfl (by kernel_rfl)) rfl rfl rfl ?_; clear E a; intro a E; refine S_val E (pk_load1 H 1 rfl rfl rfl trivial rfl (by kernel_rfl)) rfl rfl rfl ?_; clear E a; intro a E; refine S_val E (pk_len rfl rfl (by kernel_rfl)) rfl rfl rfl ?_; clear E a; intro a E
  refine S_val E (pk_int (v := .bool true) rfl rfl rfl (by rfl)) rfl rfl rfl ?_; clear E a; intro a E; refine S_val E (pk_pick rfl rfl rfl) rfl rfl rfl ?_; clear E a; intro a E; refine S_val E (pk_move rfl rfl) rfl rfl rfl ?_; clear E a; intro a E; refine S_val E (pk_fieldAddr (off := 2) rfl rfl (by kernel_rfl)) rfl rfl rfl ?_; clear E a; intro a E; refine S_val E (pk_load1 H 1 rfl rfl rfl trivial rfl (by kernel_rfl)) rfl rfl rfl ?_; clear E a; intro a E
  obtain ⟨ad50, hA50, hc50, hn50⟩ := LiF.get (A := WA1) (T := LtrT) (i := 1) (x := ⟨1, 2, exL⟩) (by exact H.fact 5 rfl) rfl
  refine S_val E (pk_elA (sz := 3) hA50 rfl (by kernel_rfl) rfl rfl rfl (by decide)) rfl rfl rfl ?_; clear E a; intro a E
  replace H := (H.know hn50).know hc50
  clear hn50 hc50; replace H : Sep _ _ _ _ _ [_, _, _, _, _, _, _, _, _, _, _] := H; refine S_val E (pk_fieldAddr (off := 1) rfl rfl (by kernel_rfl)) rfl rfl rfl ?_; clear E a; intro a E; refine S_val E (pk_loadF1 (H.fact 0 rfl) (fun _ _ _ => trivial) rfl rfl rfl (by kernel_rfl)) rfl rfl rfl ?_; clear E a; intro a E; refine S_val E (pk_int (v := .bool true) rfl rfl rfl (by rfl)) rfl rfl rfl ?_; clear E a; intro a E; refine S_val E (pk_pick rfl rfl rfl) rfl rfl rfl ?_; clear E a; intro a E; refine S_val E (pk_assign rfl rfl) rfl rfl rfl ?_; clear E a; intro a E; refine hK4 _ _ ?_; refine wp_ret ?_
  repeat (first | refine then_ret ?_ | refine block_ret ?_)
  refine ret1 rfl E (resT rfl) ?_
  exact ⟨rfl, H.keepLR (L := []) (R := [])⟩
end Go.Proofs.Yteefhbpmeajbfaa
namespace Go.Proofs.Yteefhbpmeajbfaa
set_option linter.unusedSimpArgs false
set_option linter.unusedVariables false
open Go.RowKit
attribute [local irreducible] farB oddB cmV wlV frV exL
section
variable {X : List Nat} {w0 w' : World} {ep nx : Int} {LA WA LA2 WA2 : Option Addr} {lc wc lc2 wc2 : Nat} {log : List (List Nat)} {wait : List Ltr} {lm lm2 : Nat → TextT.μ} {wm wm2 : Nat → LtrT.μ}
theorem RSameLetter_self {x1 x2 : Int} {xA yA : Option Addr} {xc yc : Nat} {xt : List Nat} (hX : ∀ k ∈ X, k < w0.heap.size) (hx : St (TxF xA xc xt) w0 X) (hy : St (TxF yA yc xt) w0 X) :
    Calls Try.prog 26 #[.agg (ca [.one (.int .i64 x1), .one (.int .i64 x2), .one (.slice xA xt.length xc)]), .agg (ca [.one (.int .i64 x1), .one (.int .i64 x2), .one (.slice yA xt.length yc)])] w0 fun e w' => e = .returned (.bool true) ∧ Sep X [] w0 w' [] [] :=
  (RSameLetter_any hX hx hy).mono fun e w' h => ⟨by rw [h.1, decide_eq_true rfl], h.2⟩
end
theorem fewS_of {s : Srv} (h : fewS s = true) : s.log.length ≤ 60 ∧ s.wait.length ≤ 200 := by
  simp only [fewS, Bool.and_eq_true, decide_eq_true_eq] at h
  exact ⟨h.1.1.1, h.1.2⟩
end Go.Proofs.Yteefhbpmeajbfaa
namespace Go.Proofs.Yteefhbpmeajbfaa
set_option linter.unusedSimpArgs false
set_option linter.unusedVariables false
open Go.RowKit

theorem ok_erase {s : Srv} (hok : okS s = true) (j : Nat) : okS ⟨s.ep, s.log, s.wait.eraseIdx j, s.nx⟩ = true := by
  obtain ⟨k1, k2, k3, k4, k5, k6⟩ := okS_of hok
  have h1 := List.length_eraseIdx_le s.wait j
  have h2 : ((s.wait.eraseIdx j).any fun x => oddB s.nx x.no x.rc) = false := List.any_eq_false.2 fun x hx => by
    have := List.any_eq_false.1 k6 x (List.mem_of_mem_eraseIdx hx)
    exact this
  simp only [okS, Bool.and_eq_true, decide_eq_true_eq, Bool.not_eq_true']
  exact ⟨⟨⟨⟨⟨k1, k2⟩, by omega⟩, k4⟩, k5⟩, h2⟩
attribute [local irreducible] farB oddB cmV wlV frV exL takeV
section
variable {X : List Nat} {w0 w' : World} {ep nx : Int} {LA WA : Option Addr} {lc wc : Nat} {log : List (List Nat)} {wait : List Ltr} {lm : Nat → TextT.μ} {wm : Nat → LtrT.μ}
end
end Go.Proofs.Yteefhbpmeajbfaa
namespace Go.Proofs.Yteefhbpmeajbfaa
set_option linter.unusedSimpArgs false
set_option linter.unusedVariables false
open Go.RowKit

theorem take_yes {s : Srv} {k : Int} (h : (takeV s k).2.2 = 0) : okS s = true ∧ s.wait.length ≠ 0 := by
  unfold takeV at h
  split at h
  · cases h
  · split at h
    · cases h
    · rename_i h1 h2
      exact ⟨by simpa using h1, h2⟩
theorem twice_err {s : Srv} {k : Int} (h : (takeV s k).2.2 ≠ 0) : (twiceV s k).2 = (takeV s k).2.2 := by
  unfold takeV at h
  unfold takeV twiceV
  split
  · rfl
  · split
    · rfl
    · rename_i h1 h2
      rw [if_neg h1, if_neg h2] at h
      exact absurd rfl h
theorem take_err {s : Srv} {k : Int} (h : (takeV s k).2.2 ≠ 0) : (((takeV s k).2.2 == 6) == ((if okS s then (0 : Int) else 1) == 0)) = true := by
  unfold takeV at h
  unfold takeV
  split
  · rename_i h1
    rw [h1]
    rfl
  · rename_i h1
    split
    · rw [show okS s = true by simpa using h1]
      rfl
    · rename_i h2
      rw [if_neg h1, if_neg h2] at h
      exact absurd rfl h
theorem take_spec {s : Srv} (hok : okS s = true) (h0 : s.wait.length ≠ 0) (hl : s.wait.length ≤ 200) (k : Int) : ∃ p, ∃ hp : p < s.wait.length, takeV s k = (s.wait[p], ⟨s.ep, s.log, s.wait.eraseIdx p, s.nx⟩, 0) ∧ twiceV s k = (⟨s.ep, s.log, s.wait ++ [s.wait[p]], s.nx⟩, 0) ∧
    backV ⟨s.ep, s.log, s.wait.eraseIdx p, s.nx⟩ ⟨s.wait[p].no, s.wait[p].rc, s.wait[p].text⟩ = (⟨s.ep, s.log, s.wait.eraseIdx p ++ [s.wait[p]], s.nx⟩, 0) := by
  have hp := placeV_lt k (n := s.wait.length) (by omega)
  have hd : s.wait.getD (placeV s.wait.length k) noLtr = s.wait[placeV s.wait.length k] := by rw [List.getD_eq_getElem?_getD, List.getElem?_eq_getElem hp]; rfl
  obtain ⟨k1, k2, k3, k4, k5, k6⟩ := okS_of hok
  have hod := List.any_eq_false.1 k6 _ (List.getElem_mem hp)
  have hoe := ok_erase hok (placeV s.wait.length k)
  have hle := List.length_eraseIdx_le s.wait (placeV s.wait.length k)
  refine ⟨_, hp, ?_, ?_, ?_⟩
  · unfold takeV
    rw [if_neg (by rw [hok]; decide), if_neg h0, hd]
  · unfold twiceV
    rw [if_neg (by rw [hok]; decide), if_neg h0, hd]
    unfold backV
    rw [if_neg (by simp only [hok]; simpa using hod), if_neg (by omega)]
  · unfold backV
    rw [if_neg (by simp only [hoe]; simpa using hod), if_neg (by show ¬ (s.wait.eraseIdx _).length = 20000; omega)]
def InvB (wait : List Ltr) (p i : Nat) (met : Bool) : Prop := i ≤ wait.length ∧ (met = true → p < i) ∧ (met = false → p < i → wait[i]? = wait[p]?)
section
variable {wait : List Ltr} {p i : Nat}
theorem inv_0 : InvB wait p 0 false := ⟨Nat.zero_le _, fun h => (by cases h), fun _ h => absurd h (Nat.not_lt_zero _)⟩
theorem inv_A (hi : i < wait.length) (hv : InvB wait p i false) (he : wait[i]? = (wait.eraseIdx p)[i]?) : InvB wait p (i + 1) false := by
  refine ⟨hi, fun h => (by cases h), fun _ h => ?_⟩
  rw [List.getElem?_eraseIdx_of_ge (by omega)] at he
  rw [← he]
  rcases Nat.lt_or_ge p i with h1 | h1
  · exact hv.2.2 rfl h1
  · rw [show i = p by omega]
theorem inv_B (hi : i < wait.length) (hn : wait[i]? ≠ (wait.eraseIdx p)[i]?) : InvB wait p (i + 1) true := by
  refine ⟨hi, fun _ => ?_, fun h => by cases h⟩
  rcases Nat.lt_or_ge i p with h1 | h1
  · exact absurd (List.getElem?_eraseIdx_of_lt h1).symm hn
  · omega
theorem inv_B2 (hv : InvB wait p i false) (hn : wait[i]? ≠ (wait.eraseIdx p)[i]?) : wait[i]? = wait[p]? := by
  rcases Nat.lt_or_ge i p with h1 | h1
  · exact absurd (List.getElem?_eraseIdx_of_lt h1).symm hn
  · rcases Nat.lt_or_ge p i with h2 | h2
    · exact hv.2.2 rfl h2
    · rw [show i = p by omega]
theorem inv_C (hv : InvB wait p i true) : wait[i]? = (wait.eraseIdx p)[i - 1]? := by
  have := hv.2.1 rfl
  rw [List.getElem?_eraseIdx_of_ge (by omega), show i - 1 + 1 = i by omega]
theorem inv_C2 (hi : i < wait.length) (hv : InvB wait p i true) : InvB wait p (i + 1) true := by
  have := hv.2.1 rfl
  exact ⟨hi, fun _ => by omega, fun h => by cases h⟩
theorem inv_end {met : Bool} (hp : p < wait.length) (hi : ¬ i < wait.length) (hv : InvB wait p i met) : met = true := by
  cases met with
  | true => rfl
  | false =>
    have h1 := hv.1
    have := hv.2.2 rfl (by omega)
    rw [List.getElem?_eq_none (by omega), List.getElem?_eq_getElem hp] at this
    cases this
end
attribute [local irreducible] farB oddB cmV wlV frV exL takeV twiceV backV InvB
section
variable {X : List Nat} {w0 w' : World} {LA LA2 : Option Addr} {lc lc2 : Nat} {log : List (List Nat)} {lm lm2 : Nat → TextT.μ}
theorem RSameAll_self (hX : ∀ k ∈ X, k < w0.heap.size) (hL : St (LiF TextT LA lc log lm) w0 X) (hL2 : St (LiF TextT LA2 lc2 log lm2) w0 X) :
    Calls Try.prog 14 #[.slice LA log.length lc, .slice LA2 log.length lc2] w0 fun e w' => e = .returned (.bool true) ∧ Sep X [] w0 w' [] [] :=
  (RSameAll_any hX hL hL2).mono fun e w' h => ⟨by rw [h.1, decide_eq_true rfl], h.2⟩
end
set_option maxRecDepth 100000 in
set_option maxHeartbeats 4000000 in
theorem ServerBack_any {ep nx : Int} {LA WA : Option Addr} {lc wc : Nat} {log : List (List Nat)} {wait : List Ltr} {lm : Nat → TextT.μ} {wm : Nat → LtrT.μ} {k : Int} (hk : -9223372036854775808 ≤ k ∧ k ≤ 9223372036854775807) {X : List Nat} {w0 : World} (hX : ∀ k ∈ X, k < w0.heap.size) (hL : St (LiF TextT LA lc log lm) w0 X) (hW : St (LiF LtrT WA wc wait wm) w0 X) :
    Calls Try.prog 5 #[.agg (ca [.one (.int .u64 ep), .one (.slice LA log.length lc), .one (.slice WA wait.length wc), .one (.int .i64 nx)]), .int .i64 k] w0 fun e w' => e = .returned (.bool true) ∧ Sep X [] w0 w' [] [] := by
  have hLb := hL.now.big
  have hWb := hW.now.big
  refine calls_env Try.ntmps5 Try.func5 rfl rfl fun a E => ?_; replace E : Env a _ [(0, _), (1, _)] := E
  have H : Sep X [] w0 w0 [] [(LiF TextT LA lc log lm), (LiF LtrT WA wc wait wm)] := Sep.start hX (List.forall_mem_cons.2 ⟨hL, List.forall_mem_cons.2 ⟨hW, fun _ h => by cases h⟩⟩)
  refine wp_seq_k fun K0 hK0 => ?_; refine S_region ?_; refine S_eff E rfl (fun K hK => ?_); refine eff_box E H rfl rfl rfl ?_; clear H; intro b2 w H _; refine hK _ _ ?_; clear hK K; refine S_put E rfl rfl ?_; clear E a; intro a E; refine S_val E (pk_assign rfl rfl) rfl rfl rfl ?_; clear E a; intro a E; refine hK0 _ _ ?_; refine wp_seq_k fun K1 hK1 => ?_; refine S_region ?_; refine S_eff E rfl (fun K hK => ?_); refine eff_call E rfl rfl rfl (by kernel_rfl) ?_; refine (liveS_any H.xk).mono ?_; rintro e w ⟨rfl, H1⟩
  replace H := H.call H1
  clear H1; replace H : Sep _ _ _ _ [_] [_, _] := H; refine hK _ _ ?_; clear hK K; refine S_put E rfl rfl ?_; clear E a; intro a E; refine S_val E (pk_assign rfl rfl) rfl rfl rfl ?_; clear E a; intro a E; refine hK1 _ _ ?_; refine wp_seq_k fun K2 hK2 => ?_; refine wp_seq_k fun K3 hK3 => ?_; refine S_region ?_; refine S_val E (pk_load (n := 4) H 0 rfl rfl rfl trivial rfl (by kernel_rfl)) rfl rfl rfl ?_; clear E a; intro a E; refine S_eff E rfl (fun K hK => ?_); refine eff_call E rfl rfl rfl (by kernel_rfl) ?_; refine (RFew_any H.xk (by exact H.fact 0 rfl) (by exact H.fact 1 rfl)).mono ?_; rintro e w ⟨rfl, H1⟩
  replace H := H.call H1
  clear H1; replace H : Sep _ _ _ _ [_] [_, _] := H; refine hK _ _ ?_; clear hK K; refine S_put E rfl rfl ?_; clear E a; intro a E; refine S_val E (pk_not rfl rfl) rfl rfl rfl ?_; clear E a; intro a E; refine hK3 _ _ ?_; refine env_split (d := 21) E rfl ?_ ?_
  · skip
    clear E; intro c21 E; refine S_then E rfl ?_; refine wp_seq_k fun K4 hK4 => ?_; refine S_region ?_; refine S_val E (pk_move rfl rfl) rfl rfl rfl ?_; clear E a; intro a E; refine S_val E (pk_assign rfl rfl) rfl rfl rfl ?_; clear E a; intro a E; refine hK4 _ _ ?_; refine wp_ret ?_
    repeat (first | refine then_ret ?_ | refine block_ret ?_)
    refine ret1 rfl E (resT rfl) ?_
    exact ⟨rfl, H.keepLR (L := []) (R := [])⟩
  · skip
    clear E; intro c21 E
    have hfew := fewS_of (by simpa using c21)
    simp only at hfew
    obtain ⟨q1, q2⟩ := hfew
    refine S_else E rfl ?_; refine wp_skip ?_; refine hK2 _ _ ?_; refine wp_seq_k fun K5 hK5 => ?_; refine S_region ?_; refine S_val E (pk_load (n := 4) H 0 rfl rfl rfl trivial rfl (by kernel_rfl)) rfl rfl rfl ?_; clear E a; intro a E; refine S_val E (pk_move rfl rfl) rfl rfl rfl ?_; clear E a; intro a E; refine S_eff E rfl (fun K hK => ?_); refine eff_call E rfl rfl rfl (by kernel_rfl) ?_; refine (Take_any hk H.xk (by exact H.fact 0 rfl) (by exact H.fact 1 rfl)).mono ?_; rintro e w ⟨TA1, tc1, LA1, lc1, lm1, WA1, wc1, wm1, rfl, H1⟩
    replace H := H.call H1
    clear H1; replace H : Sep _ _ _ _ [_] [_, _, _, _, _] := H; refine hK _ _ ?_; clear hK K; refine S_put E rfl rfl ?_; clear E a; intro a E; refine S_val E (pk_move rfl rfl) rfl rfl rfl ?_; clear E a; intro a E; refine S_val E (pk_extract rfl rfl rfl) rfl rfl rfl ?_; clear E a; intro a E; refine S_val E (pk_extract rfl rfl rfl) rfl rfl rfl ?_; clear E a; intro a E; refine S_val E (pk_extract rfl rfl rfl) rfl rfl rfl ?_; clear E a; intro a E; refine S_eff E rfl (fun K hK => ?_); refine eff_alloc (z := [.one (.int .i64 0), .one (.int .i64 0), .one (.slice none 0 0)]) H rfl (by kernel_rfl) ?_; clear H; intro b6 w H _; refine hK _ _ ?_; clear hK K; refine S_put E rfl rfl ?_; clear E a; intro a E; refine S_eff E rfl (fun K hK => ?_); refine eff_alloc (z := [.one (.int .u64 0), .one (.slice none 0 0), .one (.slice none 0 0), .one (.int .i64 0)]) H rfl (by kernel_rfl) ?_; clear H
    intro b7 w H _; refine hK _ _ ?_; clear hK K; refine S_put E rfl rfl ?_; clear E a; intro a E; refine S_eff E rfl (fun K hK => ?_); refine eff_store 1 E H rfl rfl rfl rfl rfl (by repeat (first | exact trivial | refine ⟨rfl, ?_⟩ | refine ⟨fun _ _ => rfl, ?_⟩)) rfl (by kernel_rfl) rfl ?_; clear H; intro w H _; replace H : Sep _ _ _ _ [_, _, _] _ := H; refine hK _ _ ?_; clear hK K; refine S_put0 rfl ?_; refine S_eff E rfl (fun K hK => ?_); refine eff_store 0 E H rfl rfl rfl rfl rfl (by repeat (first | exact trivial | refine ⟨rfl, ?_⟩ | refine ⟨fun _ _ => rfl, ?_⟩)) rfl (by kernel_rfl) rfl ?_; clear H; intro w H _; replace H : Sep _ _ _ _ [_, _, _] _ := H; refine hK _ _ ?_; clear hK K; refine S_put0 rfl ?_; refine S_val E (pk_assign rfl rfl) rfl rfl rfl ?_; clear E a; intro a E; refine hK5 _ _ ?_; refine wp_seq_k fun K6 hK6 => ?_; refine wp_seq_k fun K7 hK7 => ?_; refine S_region ?_
    refine S_val E (pk_move rfl rfl) rfl rfl rfl ?_; clear E a; intro a E; refine S_val E (pk_int rfl rfl rfl rfl) rfl rfl rfl ?_; clear E a; intro a E; refine hK7 _ _ ?_; refine env_split (d := 31) E rfl ?_ ?_
    · skip
      clear E; intro c31 E
      have hne : (takeV (⟨ep, log, wait, nx⟩ : Srv) k).2.2 ≠ 0 := ne_of_bne c31
      refine S_then E rfl ?_; refine wp_seq_k fun K8 hK8 => ?_; refine S_region ?_; refine S_val E (pk_load (n := 4) H 2 rfl rfl rfl trivial rfl (by kernel_rfl)) rfl rfl rfl ?_; clear E a; intro a E; refine S_val E (pk_move rfl rfl) rfl rfl rfl ?_; clear E a; intro a E; refine S_eff E rfl (fun K hK => ?_); refine eff_call E rfl rfl rfl (by kernel_rfl) ?_; refine (Twice_any hk H.xk (by exact H.fact 3 rfl) (by exact H.fact 4 rfl)).mono ?_; rintro e w ⟨LA3, lc3, lm3, WA3, wc3, wm3, rfl, H1⟩
      replace H := H.call H1
      clear H1; replace H : Sep _ _ _ _ [_, _, _] [_, _, _, _, _, _, _] := H; refine hK _ _ ?_; clear hK K; refine S_put E rfl rfl ?_; clear E a; intro a E; refine S_val E (pk_move rfl rfl) rfl rfl rfl ?_; clear E a; intro a E; refine S_val E (pk_extract rfl rfl rfl) rfl rfl rfl ?_; clear E a; intro a E; refine S_val E (pk_extract rfl rfl rfl) rfl rfl rfl ?_; clear E a; intro a E; refine S_eff E rfl (fun K hK => ?_); refine eff_alloc (z := [.one (.int .u64 0), .one (.slice none 0 0), .one (.slice none 0 0), .one (.int .i64 0)]) H rfl (by kernel_rfl) ?_; clear H; intro b9 w H _; refine hK _ _ ?_; clear hK K; refine S_put E rfl rfl ?_; clear E a; intro a E; refine S_eff E rfl (fun K hK => ?_); refine eff_store 0 E H rfl rfl rfl rfl rfl (by repeat (first | exact trivial | refine ⟨rfl, ?_⟩ | refine ⟨fun _ _ => rfl, ?_⟩)) rfl (by kernel_rfl) rfl ?_; clear H; intro w H _
      replace H : Sep _ _ _ _ [_, _, _, _] _ := H; refine hK _ _ ?_; clear hK K; refine S_put0 rfl ?_; refine S_val E (pk_assign rfl rfl) rfl rfl rfl ?_; clear E a; intro a E; refine hK8 _ _ ?_; refine wp_seq_k fun K9 hK9 => ?_; refine S_region ?_; refine S_val E (pk_move rfl rfl) rfl rfl rfl ?_; clear E a; intro a E; refine S_val E (pk_move rfl rfl) rfl rfl rfl ?_; clear E a; intro a E; refine S_val E (pk_move rfl rfl) rfl rfl rfl ?_; clear E a; intro a E; refine S_val E (pk_move rfl rfl) rfl rfl rfl ?_; clear E a; intro a E; refine S_val E (pk_int rfl rfl rfl rfl) rfl rfl rfl ?_; clear E a; intro a E
      rw [show ((twiceV (⟨ep, log, wait, nx⟩ : Srv) k).2 == (takeV (⟨ep, log, wait, nx⟩ : Srv) k).2.2) = true from by rw [twice_err hne]; exact beq_self_eq_true _] at E
      refine S_val E (pk_pick rfl rfl rfl) rfl rfl rfl ?_; clear E a; intro a E; refine S_val E (pk_move rfl rfl) rfl rfl rfl ?_; clear E a; intro a E; refine S_val E (pk_move rfl rfl) rfl rfl rfl ?_; clear E a; intro a E; refine S_val E (pk_int rfl rfl rfl rfl) rfl rfl rfl ?_; clear E a; intro a E; refine S_val E (pk_load (n := 4) H 3 rfl rfl rfl trivial rfl (by kernel_rfl)) rfl rfl rfl ?_; clear E a; intro a E; refine S_eff E rfl (fun K hK => ?_); refine eff_call E rfl rfl rfl (by kernel_rfl) ?_; refine (Check_any H.xk (by exact H.fact 5 rfl) (by exact H.fact 6 rfl)).mono ?_; rintro e w ⟨rfl, H1⟩
      replace H := H.call H1
      clear H1; replace H : Sep _ _ _ _ [_, _, _, _] [_, _, _, _, _, _, _] := H; refine hK _ _ ?_; clear hK K; refine S_put E rfl rfl ?_; clear E a; intro a E; refine S_val E (pk_int rfl rfl rfl rfl) rfl rfl rfl ?_; clear E a; intro a E; refine S_val E (pk_eqbool rfl rfl rfl (by kernel_rfl)) rfl rfl rfl ?_; clear E a; intro a E
      rw [show (((takeV (⟨ep, log, wait, nx⟩ : Srv) k).2.2 == 6) == ((if okS (⟨ep, log, wait, nx⟩ : Srv) then (0 : Int) else 1) == 0)) = true from take_err hne] at E
      refine S_val E (pk_pick rfl rfl rfl) rfl rfl rfl ?_; clear E a; intro a E; refine S_val E (pk_assign rfl rfl) rfl rfl rfl ?_; clear E a; intro a E; refine hK9 _ _ ?_; refine wp_ret ?_
      repeat (first | refine then_ret ?_ | refine block_ret ?_)
      refine ret1 rfl E (resT rfl) ?_
      exact ⟨rfl, H.keepLR (L := []) (R := [])⟩
    · skip
      clear E; intro c31 E
      obtain ⟨hok, h0⟩ := take_yes (eq_of_nbne c31)
      obtain ⟨p, hp, hT, hD, hB⟩ := take_spec hok h0 q2 k
      dsimp only at hp hT hD hB
      rw [hT] at E H
      dsimp only at E H
      have hel : (wait.eraseIdx p).length = wait.length - 1 := List.length_eraseIdx_of_lt hp
      have hx1 : ((wait.eraseIdx p) ++ [wait[p]])[wait.length - 1]? = some wait[p] := by rw [← hel]; simp
      have hx2 : (wait ++ [wait[p]])[wait.length]? = some wait[p] := by simp
      have hbl : (wait.eraseIdx p ++ [wait[p]]).length = wait.length := by rw [List.length_append, hel]; simp; omega
      refine S_else E rfl ?_; refine wp_skip ?_; refine hK6 _ _ ?_; refine wp_seq_k fun K10 hK10 => ?_; refine S_region ?_; refine S_val E (pk_load (n := 4) H 0 rfl rfl rfl trivial rfl (by kernel_rfl)) rfl rfl rfl ?_; clear E a; intro a E; refine S_val E (pk_load (n := 3) H 1 rfl rfl rfl trivial rfl (by kernel_rfl)) rfl rfl rfl ?_; clear E a; intro a E; refine S_eff E rfl (fun K hK => ?_); refine eff_call E rfl rfl rfl (by kernel_rfl) ?_; refine (Back_any H.xk (by exact H.fact 1 rfl) (by exact H.fact 2 rfl) (by exact H.fact 0 rfl)).mono ?_; rintro e w ⟨LA5, lc5, lm5, WA5, wc5, wm5, rfl, H1⟩
      replace H := H.call H1
      clear H1; replace H : Sep _ _ _ _ [_, _, _] [_, _, _, _, _, _, _] := H; refine hK _ _ ?_; clear hK K; refine S_put E rfl rfl ?_; clear E a; intro a E
      rw [hB] at E H
      dsimp only at E H
      refine S_val E (pk_move rfl rfl) rfl rfl rfl ?_; clear E a; intro a E; refine S_val E (pk_extract rfl rfl rfl) rfl rfl rfl ?_; clear E a; intro a E; refine S_val E (pk_extract rfl rfl rfl) rfl rfl rfl ?_; clear E a; intro a E; refine S_eff E rfl (fun K hK => ?_); refine eff_alloc (z := [.one (.int .u64 0), .one (.slice none 0 0), .one (.slice none 0 0), .one (.int .i64 0)]) H rfl (by kernel_rfl) ?_; clear H; intro b11 w H _; refine hK _ _ ?_; clear hK K; refine S_put E rfl rfl ?_; clear E a; intro a E; refine S_eff E rfl (fun K hK => ?_); refine eff_store 0 E H rfl rfl rfl rfl rfl (by repeat (first | exact trivial | refine ⟨rfl, ?_⟩ | refine ⟨fun _ _ => rfl, ?_⟩)) rfl (by kernel_rfl) rfl ?_; clear H; intro w H _; replace H : Sep _ _ _ _ [_, _, _, _] _ := H; refine hK _ _ ?_; clear hK K; refine S_put0 rfl ?_; refine S_val E (pk_assign rfl rfl) rfl rfl rfl ?_; clear E a; intro a E
      refine hK10 _ _ ?_; refine wp_seq_k fun K11 hK11 => ?_; refine S_region ?_; refine S_val E (pk_load (n := 4) H 3 rfl rfl rfl trivial rfl (by kernel_rfl)) rfl rfl rfl ?_; clear E a; intro a E; refine S_val E (pk_move rfl rfl) rfl rfl rfl ?_; clear E a; intro a E; refine S_eff E rfl (fun K hK => ?_); refine eff_call E rfl rfl rfl (by kernel_rfl) ?_; refine (Twice_any hk H.xk (by exact H.fact 5 rfl) (by exact H.fact 6 rfl)).mono ?_; rintro e w ⟨LA4, lc4, lm4, WA4, wc4, wm4, rfl, H1⟩
      replace H := H.call H1
      clear H1; replace H : Sep _ _ _ _ [_, _, _, _] [_, _, _, _, _, _, _, _, _] := H; refine hK _ _ ?_; clear hK K; refine S_put E rfl rfl ?_; clear E a; intro a E
      rw [hD] at E H
      dsimp only at E H
      refine S_val E (pk_move rfl rfl) rfl rfl rfl ?_; clear E a; intro a E; refine S_val E (pk_extract rfl rfl rfl) rfl rfl rfl ?_; clear E a; intro a E; refine S_val E (pk_extract rfl rfl rfl) rfl rfl rfl ?_; clear E a; intro a E; refine S_eff E rfl (fun K hK => ?_); refine eff_alloc (z := [.one (.int .u64 0), .one (.slice none 0 0), .one (.slice none 0 0), .one (.int .i64 0)]) H rfl (by kernel_rfl) ?_; clear H; intro b13 w H _; refine hK _ _ ?_; clear hK K; refine S_put E rfl rfl ?_; clear E a; intro a E; refine S_eff E rfl (fun K hK => ?_); refine eff_store 0 E H rfl rfl rfl rfl rfl (by repeat (first | exact trivial | refine ⟨rfl, ?_⟩ | refine ⟨fun _ _ => rfl, ?_⟩)) rfl (by kernel_rfl) rfl ?_; clear H; intro w H _; replace H : Sep _ _ _ _ [_, _, _, _, _] _ := H; refine hK _ _ ?_; clear hK K; refine S_put0 rfl ?_; refine S_val E (pk_assign rfl rfl) rfl rfl rfl ?_; clear E a; intro a E
      refine hK11 _ _ ?_; refine wp_seq_k fun K12 hK12 => ?_; refine wp_seq_k fun K13 hK13 => ?_; refine C_region E H [] 39 [(0, false), (1, false), (2, false), (3, false), (4, false), (5, false), (6, false), (7, false), (8, false), (9, false), (10, false), (11, false), (12, false), (13, false), (14, false), (15, false), (16, false), (17, false), (18, false), (19, false), (20, false), (21, false), (22, false), (23, false), (24, false), (25, false), (26, false), (27, false), (28, false), (29, false), (30, false), (31, false), (32, false), (33, false), (34, false), (35, false), (36, false), (37, false), (38, false)] (by kernel_rfl) (by kernel_rfl) (fun w HS => ?_)
      (simp only [canOps, List.getElem?_cons_zero, List.getElem?_cons_succ, List.drop_succ_cons, List.drop_zero])
      clear H
      have H := HS
      have hsz : w.heap.size ≤ w.heap.size := Nat.le_refl _
      have HK : CanB.Keep (fun k => k < w.heap.size ∧ k ∉ []) w w := CanB.Keep.refl _ _
      refine C_val E HK (pk_move rfl rfl) rfl rfl rfl (fun _ _ _ _ h => h) ?_; clear E a; intro a E; refine C_val E HK (pk_int (v := .bool false) rfl rfl rfl (by rfl)) rfl rfl rfl (fun _ _ _ _ h => h) ?_; clear E a; intro a E; refine C_val E HK (pk_move rfl rfl) rfl rfl rfl (fun _ _ _ _ h => h) ?_; clear E a; intro a E; refine C_val E HK (pk_move rfl rfl) rfl rfl rfl (fun _ _ _ _ h => h) ?_; clear E a; intro a E; refine C_val E HK (pk_int (v := .bool false) rfl rfl rfl (by rfl)) rfl rfl rfl (fun _ _ _ _ h => h) ?_; clear E a; intro a E; refine C_val E HK (pk_move rfl rfl) rfl rfl rfl (fun _ _ _ _ h => h) ?_; clear E a; intro a E; refine C_skip E rfl rfl rfl (fun _ _ _ _ h => h) ?_; clear E a; intro a E; refine C_skip E rfl rfl rfl (fun _ _ _ _ h => h) ?_; clear E a; intro a E; refine C_val E HK (pk_pick rfl rfl rfl) rfl rfl rfl (fun _ _ _ _ h => h) ?_; clear E a; intro a E
      refine C_val E HK (pk_pick rfl rfl rfl) rfl rfl rfl (fun _ _ _ _ h => h) ?_; clear E a; intro a E; refine C_val E HK (pk_move rfl rfl) rfl rfl rfl (fun _ _ _ _ h => h) ?_; clear E a; intro a E; refine C_val E HK (pk_fieldAddr (off := 2) rfl rfl (by kernel_rfl)) rfl rfl rfl (fun _ _ _ _ h => h) ?_; clear E a; intro a E; refine C_val E HK (pk_load1 HS 2 rfl rfl rfl (HS.inS 2 rfl (by simp)) rfl (by kernel_rfl)) rfl rfl rfl (fun _ _ _ _ h => h) ?_; clear E a; intro a E; refine C_val E HK (pk_len rfl rfl (by kernel_rfl)) rfl rfl rfl (fun _ _ _ _ h => h) ?_; clear E a; intro a E; refine C_val E HK (pk_fieldAddr (off := 2) rfl rfl (by kernel_rfl)) rfl rfl rfl (fun _ _ _ _ h => h) ?_; clear E a; intro a E; refine C_val E HK (pk_load1 HS 4 rfl rfl rfl (HS.inS 4 rfl (by simp)) rfl (by kernel_rfl)) rfl rfl rfl (fun _ _ _ _ h => h) ?_; clear E a; intro a E
      refine C_val E HK (pk_len rfl rfl (by kernel_rfl)) rfl rfl rfl (fun _ _ _ _ h => h) ?_; clear E a; intro a E; refine C_val E HK (pk_intw rfl rfl rfl rfl (wI64 (by omega) (by omega))) rfl rfl rfl (fun _ _ _ _ h => h) ?_; clear E a; intro a E; refine C_val E HK (pk_int rfl rfl rfl rfl) rfl rfl rfl (fun _ _ _ _ h => h) ?_; clear E a; intro a E
      rw [show ((((wait.eraseIdx p).length : Nat) : Int) != ((wait.length : Nat) : Int) - 1) = false from by rw [bne_eq_false_iff_eq]; omega] at E
      refine C_val E HK (pk_pick rfl rfl rfl) rfl rfl rfl (fun _ _ _ _ h => h) ?_; clear E a; intro a E; refine C_val E HK (pk_move rfl rfl) rfl rfl rfl (fun _ _ _ _ h => h) ?_; clear E a; intro a E; refine C_val E HK (pk_fieldAddr (off := 2) rfl rfl (by kernel_rfl)) rfl rfl rfl (fun _ _ _ _ h => h) ?_; clear E a; intro a E; refine C_val E HK (pk_load1 HS 1 rfl rfl rfl (HS.inS 1 rfl (by simp)) rfl (by kernel_rfl)) rfl rfl rfl (fun _ _ _ _ h => h) ?_; clear E a; intro a E; refine C_val E HK (pk_len rfl rfl (by kernel_rfl)) rfl rfl rfl (fun _ _ _ _ h => h) ?_; clear E a; intro a E; refine C_val E HK (pk_fieldAddr (off := 2) rfl rfl (by kernel_rfl)) rfl rfl rfl (fun _ _ _ _ h => h) ?_; clear E a; intro a E; refine C_val E HK (pk_load1 HS 4 rfl rfl rfl (HS.inS 4 rfl (by simp)) rfl (by kernel_rfl)) rfl rfl rfl (fun _ _ _ _ h => h) ?_; clear E a; intro a E
      refine C_val E HK (pk_len rfl rfl (by kernel_rfl)) rfl rfl rfl (fun _ _ _ _ h => h) ?_; clear E a; intro a E; refine C_val E HK (pk_int rfl rfl rfl rfl) rfl rfl rfl (fun _ _ _ _ h => h) ?_; clear E a; intro a E
      rw [show (((((wait.eraseIdx p) ++ [wait[p]]).length : Nat) : Int) != ((wait.length : Nat) : Int)) = false from by rw [bne_eq_false_iff_eq, List.length_append, hel]; simp; omega] at E
      refine C_val E HK (pk_pick rfl rfl rfl) rfl rfl rfl (fun _ _ _ _ h => h) ?_; clear E a; intro a E; refine C_val E HK (pk_move rfl rfl) rfl rfl rfl (fun _ _ _ _ h => h) ?_; clear E a; intro a E; refine C_val E HK (pk_fieldAddr (off := 2) rfl rfl (by kernel_rfl)) rfl rfl rfl (fun _ _ _ _ h => h) ?_; clear E a; intro a E; refine C_val E HK (pk_load1 HS 1 rfl rfl rfl (HS.inS 1 rfl (by simp)) rfl (by kernel_rfl)) rfl rfl rfl (fun _ _ _ _ h => h) ?_; clear E a; intro a E; refine C_val E HK (pk_fieldAddr (off := 2) rfl rfl (by kernel_rfl)) rfl rfl rfl (fun _ _ _ _ h => h) ?_; clear E a; intro a E; refine C_val E HK (pk_load1 HS 1 rfl rfl rfl (HS.inS 1 rfl (by simp)) rfl (by kernel_rfl)) rfl rfl rfl (fun _ _ _ _ h => h) ?_; clear E a; intro a E; refine C_val E HK (pk_len rfl rfl (by kernel_rfl)) rfl rfl rfl (fun _ _ _ _ h => h) ?_; clear E a; intro a E
      refine C_val E HK (pk_intw rfl rfl rfl rfl (wI64 (by omega) (by omega))) rfl rfl rfl (fun _ _ _ _ h => h) ?_; clear E a; intro a E
      rw [show ((((wait.eraseIdx p) ++ [wait[p]]).length : Nat) : Int) - 1 = ((wait.length - 1 : Nat) : Int) from by rw [hbl]; omega] at E
      obtain ⟨ad100, hA100, hc100, hn100⟩ := LiF.get (A := WA5) (T := LtrT) (i := wait.length - 1) (x := wait[p]) (by exact HS.fact 3 rfl) hx1
      refine C_val E HK (pk_elA (sz := 3) hA100 rfl (by kernel_rfl) rfl rfl rfl (by rw [List.length_append, hel]; simp)) rfl rfl rfl (fun _ _ _ _ h => h) ?_; clear E a; intro a E; refine C_val E HK (pk_loadE (n := 3) hc100 (fun k h _ => ⟨h, by simp⟩) rfl rfl rfl (by kernel_rfl)) rfl rfl rfl (fun _ _ _ _ h => h) ?_; clear E a; intro a E; refine C_val E HK (pk_load (n := 3) HS 3 rfl rfl rfl (HS.inS 3 rfl (by simp)) rfl (by kernel_rfl)) rfl rfl rfl (fun _ _ _ _ h => h) ?_; clear E a; intro a E; refine CanB.wpCan_nil ?_
      try (simp only [List.take_succ_cons, List.take_zero, List.drop_succ_cons, List.drop_zero])
      clear HS HK hsz; refine S_eff E rfl (fun K hK => ?_); refine eff_call E rfl rfl rfl (by kernel_rfl) ?_; refine (RSameLetter_self H.xk hn100 (by exact H.fact 4 rfl)).mono ?_; rintro e w ⟨rfl, H1⟩
      replace H := H.call H1
      clear H1; replace H : Sep _ _ _ _ [_, _, _, _, _] [_, _, _, _, _, _, _, _, _] := H; refine hK _ _ ?_; clear hK K; refine S_put E rfl rfl ?_; clear E a; intro a E; refine S_val E (pk_not rfl rfl) rfl rfl rfl ?_; clear E a; intro a E; refine S_val E (pk_pick rfl rfl rfl) rfl rfl rfl ?_; clear E a; intro a E; refine hK13 _ _ ?_; refine S_else E rfl ?_; refine wp_skip ?_; refine hK12 _ _ ?_; refine wp_seq_k fun K14 hK14 => ?_; refine wp_seq_k fun K15 hK15 => ?_; refine C_region E H [] 20 [(0, false), (1, false), (2, false), (3, false), (4, false), (5, false), (6, false), (7, false), (8, false), (9, false), (10, false), (11, false), (12, false), (13, false), (14, false), (15, false), (16, false), (17, false), (18, false), (19, false)] (by kernel_rfl) (by kernel_rfl) (fun w HS => ?_)
      (simp only [canOps, List.getElem?_cons_zero, List.getElem?_cons_succ, List.drop_succ_cons, List.drop_zero])
      clear H
      have H := HS
      have hsz : w.heap.size ≤ w.heap.size := Nat.le_refl _
      have HK : CanB.Keep (fun k => k < w.heap.size ∧ k ∉ []) w w := CanB.Keep.refl _ _
      refine C_val E HK (pk_move rfl rfl) rfl rfl rfl (fun _ _ _ _ h => h) ?_; clear E a; intro a E; refine C_val E HK (pk_int (v := .bool true) rfl rfl rfl (by rfl)) rfl rfl rfl (fun _ _ _ _ h => h) ?_; clear E a; intro a E; refine C_val E HK (pk_move rfl rfl) rfl rfl rfl (fun _ _ _ _ h => h) ?_; clear E a; intro a E; refine C_val E HK (pk_fieldAddr (off := 2) rfl rfl (by kernel_rfl)) rfl rfl rfl (fun _ _ _ _ h => h) ?_; clear E a; intro a E; refine C_val E HK (pk_load1 HS 0 rfl rfl rfl (HS.inS 0 rfl (by simp)) rfl (by kernel_rfl)) rfl rfl rfl (fun _ _ _ _ h => h) ?_; clear E a; intro a E; refine C_val E HK (pk_len rfl rfl (by kernel_rfl)) rfl rfl rfl (fun _ _ _ _ h => h) ?_; clear E a; intro a E; refine C_val E HK (pk_fieldAddr (off := 2) rfl rfl (by kernel_rfl)) rfl rfl rfl (fun _ _ _ _ h => h) ?_; clear E a; intro a E
      refine C_val E HK (pk_load1 HS 4 rfl rfl rfl (HS.inS 4 rfl (by simp)) rfl (by kernel_rfl)) rfl rfl rfl (fun _ _ _ _ h => h) ?_; clear E a; intro a E; refine C_val E HK (pk_len rfl rfl (by kernel_rfl)) rfl rfl rfl (fun _ _ _ _ h => h) ?_; clear E a; intro a E; refine C_val E HK (pk_intw rfl rfl rfl rfl (wI64 (by omega) (by omega))) rfl rfl rfl (fun _ _ _ _ h => h) ?_; clear E a; intro a E; refine C_val E HK (pk_int rfl rfl rfl rfl) rfl rfl rfl (fun _ _ _ _ h => h) ?_; clear E a; intro a E
      rw [show ((((wait ++ [wait[p]]).length : Nat) : Int) != ((wait.length : Nat) : Int) + 1) = false from by rw [bne_eq_false_iff_eq, List.length_append]; simp] at E
      refine C_val E HK (pk_move rfl rfl) rfl rfl rfl (fun _ _ _ _ h => h) ?_; clear E a; intro a E; refine C_val E HK (pk_fieldAddr (off := 2) rfl rfl (by kernel_rfl)) rfl rfl rfl (fun _ _ _ _ h => h) ?_; clear E a; intro a E; refine C_val E HK (pk_load1 HS 0 rfl rfl rfl (HS.inS 0 rfl (by simp)) rfl (by kernel_rfl)) rfl rfl rfl (fun _ _ _ _ h => h) ?_; clear E a; intro a E; refine C_val E HK (pk_fieldAddr (off := 2) rfl rfl (by kernel_rfl)) rfl rfl rfl (fun _ _ _ _ h => h) ?_; clear E a; intro a E; refine C_val E HK (pk_load1 HS 4 rfl rfl rfl (HS.inS 4 rfl (by simp)) rfl (by kernel_rfl)) rfl rfl rfl (fun _ _ _ _ h => h) ?_; clear E a; intro a E; refine C_val E HK (pk_len rfl rfl (by kernel_rfl)) rfl rfl rfl (fun _ _ _ _ h => h) ?_; clear E a; intro a E
      obtain ⟨ad123, hA123, hc123, hn123⟩ := LiF.get (A := WA4) (T := LtrT) (i := wait.length) (x := wait[p]) (by exact HS.fact 1 rfl) hx2
      refine C_val E HK (pk_elA (sz := 3) hA123 rfl (by kernel_rfl) rfl rfl rfl (by simp)) rfl rfl rfl (fun _ _ _ _ h => h) ?_; clear E a; intro a E; refine C_val E HK (pk_loadE (n := 3) hc123 (fun k h _ => ⟨h, by simp⟩) rfl rfl rfl (by kernel_rfl)) rfl rfl rfl (fun _ _ _ _ h => h) ?_; clear E a; intro a E; refine C_val E HK (pk_load (n := 3) HS 3 rfl rfl rfl (HS.inS 3 rfl (by simp)) rfl (by kernel_rfl)) rfl rfl rfl (fun _ _ _ _ h => h) ?_; clear E a; intro a E; refine CanB.wpCan_nil ?_
      try (simp only [List.take_succ_cons, List.take_zero, List.drop_succ_cons, List.drop_zero])
      clear HS HK hsz; refine S_eff E rfl (fun K hK => ?_); refine eff_call E rfl rfl rfl (by kernel_rfl) ?_; refine (RSameLetter_self H.xk hn123 (by exact H.fact 4 rfl)).mono ?_; rintro e w ⟨rfl, H1⟩
      replace H := H.call H1
      clear H1; replace H : Sep _ _ _ _ [_, _, _, _, _] [_, _, _, _, _, _, _, _, _] := H; refine hK _ _ ?_; clear hK K; refine S_put E rfl rfl ?_; clear E a; intro a E; refine S_val E (pk_not rfl rfl) rfl rfl rfl ?_; clear E a; intro a E; refine S_val E (pk_pick rfl rfl rfl) rfl rfl rfl ?_; clear E a; intro a E; refine S_val E (pk_pick rfl rfl rfl) rfl rfl rfl ?_; clear E a; intro a E; refine hK15 _ _ ?_; refine S_else E rfl ?_; refine wp_skip ?_; refine hK14 _ _ ?_; refine wp_seq_k fun K16 hK16 => ?_; refine S_region ?_; refine S_val E (pk_assign rfl rfl) rfl rfl rfl ?_; clear E a; intro a E; refine hK16 _ _ ?_; refine wp_seq_k fun K17 hK17 => ?_; refine wp_seq_k fun K18 hK18 => ?_; refine S_region ?_; refine S_val E (pk_fieldAddr (off := 2) rfl rfl (by kernel_rfl)) rfl rfl rfl ?_; clear E a; intro a E; refine S_val E (pk_load1 H 4 rfl rfl rfl trivial rfl (by kernel_rfl)) rfl rfl rfl ?_
      clear E a; intro a E; refine S_val E (pk_len rfl rfl (by kernel_rfl)) rfl rfl rfl ?_; clear E a; intro a E; refine S_val E (pk_move rfl rfl) rfl rfl rfl ?_; clear E a; intro a E; refine hK18 _ _ ?_; refine wp_block ?_; refine S_loopK (γ := Nat × Bool) [2, 5, 6, 7, 131, 132] (fun g => [(15, .bool g.2), (133, .int .i64 (g.1 : Int))]) (fun g => InvB wait p g.1 g.2) (fun g => wait.length - g.1) ((0, false)) E H (by repeat (first | exact trivial | refine ⟨rfl, ?_⟩)) (inv_0) ?_; clear E H; intro g a w E H hφ; replace E : Env a _ [(15, _), (133, _), (2, _), (5, _), (6, _), (7, _), (131, _), (132, _)] := E; replace H : Sep _ _ _ _ [_, _, _, _, _] [_, _, _, _, _, _, _, _, _] := H
      obtain ⟨i, met⟩ := g
      simp only at E hφ ⊢
      refine wp_seq_k fun K19 hK19 => ?_; refine S_region ?_; refine S_val E (pk_int rfl rfl rfl rfl) rfl rfl rfl ?_; clear E a; intro a E; refine hK19 _ _ ?_; refine wp_seq_k fun K20 hK20 => ?_; refine env_split (d := 134) E rfl ?_ ?_
      · skip
        clear E; intro c134 E
        have hk1 : i < wait.length := by simpa using c134
        have hxi : wait[i]? = some wait[i] := List.getElem?_eq_getElem hk1
        refine S_then E rfl ?_; refine wp_skip ?_; refine hK20 _ _ ?_; refine wp_seq_k fun K21 hK21 => ?_; refine wp_block ?_; refine wp_seq_k fun K22 hK22 => ?_; refine S_region ?_; refine S_val E (pk_move rfl rfl) rfl rfl rfl ?_; clear E a; intro a E
        obtain ⟨ad136, hA136, hc136, hn136⟩ := LiF.get (A := WA) (T := LtrT) (i := i) (x := wait[i]) (by exact H.fact 8 rfl) hxi
        refine S_val E (pk_elA (sz := 3) hA136 rfl (by kernel_rfl) rfl rfl rfl (by omega)) rfl rfl rfl ?_; clear E a; intro a E
        replace H := (H.know hn136).know hc136
        clear hn136 hc136; replace H : Sep _ _ _ _ _ [_, _, _, _, _, _, _, _, _, _, _] := H; refine S_val E (pk_loadE (n := 3) (H.fact 0 rfl) (fun _ _ _ => trivial) rfl rfl rfl (by kernel_rfl)) rfl rfl rfl ?_; clear E a; intro a E; refine S_eff E rfl (fun K hK => ?_); refine eff_alloc (z := [.one (.int .i64 0), .one (.int .i64 0), .one (.slice none 0 0)]) H rfl (by kernel_rfl) ?_; clear H; intro b17 w H _; refine hK _ _ ?_; clear hK K; refine S_put E rfl rfl ?_; clear E a; intro a E; refine S_val E (pk_assign rfl rfl) rfl rfl rfl ?_; clear E a; intro a E; refine S_eff E rfl (fun K hK => ?_); refine eff_store 0 E H rfl rfl rfl rfl rfl (by repeat (first | exact trivial | refine ⟨rfl, ?_⟩ | refine ⟨fun _ _ => rfl, ?_⟩)) rfl (by kernel_rfl) rfl ?_; clear H; intro w H _; replace H : Sep _ _ _ _ [_, _, _, _, _, _] _ := H; refine hK _ _ ?_; clear hK K; refine S_put0 rfl ?_
        refine env_split (d := 15) E rfl ?_ ?_
        · skip
          clear E; intro c15 E; refine hK22 _ _ ?_; refine wp_block ?_; refine wp_seq_k fun K23 hK23 => ?_; refine C_region E H [] 16 [(0, false), (1, false), (2, false), (3, false), (4, false), (5, false), (6, false), (7, false), (8, false), (9, false), (10, false), (11, false), (12, false), (13, false), (14, false), (15, false)] (by kernel_rfl) (by kernel_rfl) (fun w HS => ?_)
          (simp only [canOps, List.getElem?_cons_zero, List.getElem?_cons_succ, List.drop_succ_cons, List.drop_zero])
          clear H
          have H := HS
          have hsz : w.heap.size ≤ w.heap.size := Nat.le_refl _
          have HK : CanB.Keep (fun k => k < w.heap.size ∧ k ∉ []) w w := CanB.Keep.refl _ _
          refine C_val E HK (pk_move rfl rfl) rfl rfl rfl (fun _ _ _ _ h => h) ?_; clear E a; intro a E; refine C_val E HK (pk_not rfl rfl) rfl rfl rfl (fun _ _ _ _ h => h) ?_; clear E a; intro a E; refine C_val E HK (pk_move rfl rfl) rfl rfl rfl (fun _ _ _ _ h => h) ?_; clear E a; intro a E; refine C_skip E rfl rfl rfl (fun _ _ _ _ h => h) ?_; clear E a; intro a E; refine C_skip E rfl rfl rfl (fun _ _ _ _ h => h) ?_; clear E a; intro a E; refine C_skip E rfl rfl rfl (fun _ _ _ _ h => h) ?_; clear E a; intro a E; refine C_skip E rfl rfl rfl (fun _ _ _ _ h => h) ?_; clear E a; intro a E; refine C_skip E rfl rfl rfl (fun _ _ _ _ h => h) ?_; clear E a; intro a E; refine C_val E HK (pk_pick rfl rfl rfl) rfl rfl rfl (fun _ _ _ _ h => h) ?_; clear E a; intro a E; refine C_val E HK (pk_move rfl rfl) rfl rfl rfl (fun _ _ _ _ h => h) ?_; clear E a; intro a E
          refine C_skip E rfl rfl rfl (fun _ _ _ _ h => h) ?_; clear E a; intro a E; refine C_skip E rfl rfl rfl (fun _ _ _ _ h => h) ?_; clear E a; intro a E; refine C_skip E rfl rfl rfl (fun _ _ _ _ h => h) ?_; clear E a; intro a E; refine C_skip E rfl rfl rfl (fun _ _ _ _ h => h) ?_; clear E a; intro a E; refine C_skip E rfl rfl rfl (fun _ _ _ _ h => h) ?_; clear E a; intro a E; refine C_skip E rfl rfl rfl (fun _ _ _ _ h => h) ?_; clear E a; intro a E; refine CanB.wpCan_nil ?_
          try (simp only [List.take_succ_cons, List.take_zero, List.drop_succ_cons, List.drop_zero])
          clear HS HK hsz; refine S_skip E rfl rfl rfl ?_; clear E a; intro a E; refine S_val E (pk_pick rfl rfl rfl) rfl rfl rfl ?_; clear E a; intro a E; refine S_val E (pk_assign rfl rfl) rfl rfl rfl ?_; clear E a; intro a E; refine hK23 _ _ ?_; refine S_else E rfl ?_; refine wp_seq_k fun K24 hK24 => ?_; refine S_region ?_; refine S_val E (pk_move rfl rfl) rfl rfl rfl ?_; clear E a; intro a E; refine S_val E (pk_not rfl rfl) rfl rfl rfl ?_; clear E a; intro a E; refine S_val E (pk_move rfl rfl) rfl rfl rfl ?_; clear E a; intro a E; refine S_skip E rfl rfl rfl ?_; clear E a; intro a E; refine S_skip E rfl rfl rfl ?_; clear E a; intro a E; refine S_skip E rfl rfl rfl ?_; clear E a; intro a E; refine S_val E (pk_pick rfl rfl rfl) rfl rfl rfl ?_; clear E a; intro a E; refine S_val E (pk_assign rfl rfl) rfl rfl rfl ?_; clear E a; intro a E; refine hK24 _ _ ?_; refine S_else E rfl ?_
          refine wp_seq_k fun K25 hK25 => ?_; refine C_region E H [] 9 [(0, false), (1, false), (2, false), (3, false), (4, false), (5, false), (6, false), (7, false), (8, false)] (by kernel_rfl) (by kernel_rfl) (fun w HS => ?_)
          (simp only [canOps, List.getElem?_cons_zero, List.getElem?_cons_succ, List.drop_succ_cons, List.drop_zero])
          clear H
          have H := HS
          have hsz : w.heap.size ≤ w.heap.size := Nat.le_refl _
          have HK : CanB.Keep (fun k => k < w.heap.size ∧ k ∉ []) w w := CanB.Keep.refl _ _
          refine C_val E HK (pk_move rfl rfl) rfl rfl rfl (fun _ _ _ _ h => h) ?_; clear E a; intro a E; refine C_val E HK (pk_move rfl rfl) rfl rfl rfl (fun _ _ _ _ h => h) ?_; clear E a; intro a E; refine C_val E HK (pk_load (n := 3) HS 0 rfl rfl rfl (HS.inS 0 rfl (by simp)) rfl (by kernel_rfl)) rfl rfl rfl (fun _ _ _ _ h => h) ?_; clear E a; intro a E; refine C_val E HK (pk_fieldAddr (off := 2) rfl rfl (by kernel_rfl)) rfl rfl rfl (fun _ _ _ _ h => h) ?_; clear E a; intro a E; refine C_val E HK (pk_load1 HS 3 rfl rfl rfl (HS.inS 3 rfl (by simp)) rfl (by kernel_rfl)) rfl rfl rfl (fun _ _ _ _ h => h) ?_; clear E a; intro a E; refine C_val E HK (pk_move rfl rfl) rfl rfl rfl (fun _ _ _ _ h => h) ?_; clear E a; intro a E
          have hpi : p < i := by have h1 : InvB wait p i true := c15 ▸ hφ; unfold InvB at h1; exact h1.2.1 rfl
          have hke : i - 1 < (wait.eraseIdx p).length := by omega
          have hxe : (wait.eraseIdx p)[i - 1]? = some (wait.eraseIdx p)[i - 1] := List.getElem?_eq_getElem hke
          refine C_val E HK (pk_intw rfl rfl rfl rfl (wI64 (by omega) (by omega))) rfl rfl rfl (fun _ _ _ _ h => h) ?_; clear E a; intro a E
          rw [show ((i : Nat) : Int) - 1 = ((i - 1 : Nat) : Int) from by omega] at E
          obtain ⟨ad173, hA173, hc173, hn173⟩ := LiF.get (A := WA1) (T := LtrT) (i := i - 1) (x := (wait.eraseIdx p)[i - 1]) (by exact HS.fact 8 rfl) hxe
          refine C_val E HK (pk_elA (sz := 3) hA173 rfl (by kernel_rfl) rfl rfl rfl (by omega)) rfl rfl rfl (fun _ _ _ _ h => h) ?_; clear E a; intro a E; refine C_val E HK (pk_loadE (n := 3) hc173 (fun k h _ => ⟨h, by simp⟩) rfl rfl rfl (by kernel_rfl)) rfl rfl rfl (fun _ _ _ _ h => h) ?_; clear E a; intro a E; refine CanB.wpCan_nil ?_
          try (simp only [List.take_succ_cons, List.take_zero, List.drop_succ_cons, List.drop_zero])
          clear HS HK hsz; refine S_eff E rfl (fun K hK => ?_); refine eff_call E rfl rfl rfl (by kernel_rfl) ?_; refine (RSameLetter_any H.xk (by exact H.fact 1 rfl) hn173).mono ?_; rintro e w ⟨rfl, H1⟩
          replace H := H.call H1
          clear H1; replace H : Sep _ _ _ _ [_, _, _, _, _, _] [_, _, _, _, _, _, _, _, _, _, _] := H; refine hK _ _ ?_; clear hK K; refine S_put E rfl rfl ?_; clear E a; intro a E; refine S_val E (pk_pick rfl rfl rfl) rfl rfl rfl ?_; clear E a; intro a E; refine S_val E (pk_assign rfl rfl) rfl rfl rfl ?_; clear E a; intro a E; refine hK25 _ _ ?_; refine env_split (d := 165) E rfl ?_ ?_
          · skip
            clear E; intro c165 E; refine S_then E rfl ?_; refine wp_skip ?_; refine hK21 _ _ ?_; refine S_region ?_; refine S_val E (pk_intw rfl rfl rfl rfl (wI64 (by omega) (by omega))) rfl rfl rfl ?_; clear E a; intro a E; refine S_val E (pk_move rfl rfl) rfl rfl rfl ?_; clear E a; intro a E; refine loop_end ?_
            exact ⟨(i + 1, true), ⟨E.to (by repeat (first | exact trivial | refine ⟨rfl, ?_⟩)), H.popL.pop.pop, inv_C2 hk1 (c15 ▸ hφ)⟩, by show wait.length - (i + 1) < wait.length - i; omega⟩
          · skip
            clear E; intro c165 E
            exfalso
            have := inv_C (c15 ▸ hφ)
            rw [hxi, hxe] at this
            exact of_decide_eq_false c165 (Option.some.inj this) --done
        · skip
          clear E; intro c15 E; refine hK22 _ _ ?_; refine wp_block ?_; refine wp_seq_k fun K26 hK26 => ?_; refine C_region E H [] 16 [(0, false), (1, false), (2, false), (3, false), (4, false), (5, false), (6, false), (7, false), (8, false), (9, false), (10, false), (11, false), (12, false), (13, false), (14, false), (15, false)] (by kernel_rfl) (by kernel_rfl) (fun w HS => ?_)
          (simp only [canOps, List.getElem?_cons_zero, List.getElem?_cons_succ, List.drop_succ_cons, List.drop_zero])
          clear H
          have H := HS
          have hsz : w.heap.size ≤ w.heap.size := Nat.le_refl _
          have HK : CanB.Keep (fun k => k < w.heap.size ∧ k ∉ []) w w := CanB.Keep.refl _ _
          refine C_val E HK (pk_move rfl rfl) rfl rfl rfl (fun _ _ _ _ h => h) ?_; clear E a; intro a E; refine C_val E HK (pk_not rfl rfl) rfl rfl rfl (fun _ _ _ _ h => h) ?_; clear E a; intro a E; refine C_val E HK (pk_move rfl rfl) rfl rfl rfl (fun _ _ _ _ h => h) ?_; clear E a; intro a E; refine C_val E HK (pk_move rfl rfl) rfl rfl rfl (fun _ _ _ _ h => h) ?_; clear E a; intro a E; refine C_val E HK (pk_fieldAddr (off := 2) rfl rfl (by kernel_rfl)) rfl rfl rfl (fun _ _ _ _ h => h) ?_; clear E a; intro a E; refine C_val E HK (pk_load1 HS 3 rfl rfl rfl (HS.inS 3 rfl (by simp)) rfl (by kernel_rfl)) rfl rfl rfl (fun _ _ _ _ h => h) ?_; clear E a; intro a E; refine C_val E HK (pk_len rfl rfl (by kernel_rfl)) rfl rfl rfl (fun _ _ _ _ h => h) ?_; clear E a; intro a E; refine C_val E HK (pk_int rfl rfl rfl rfl) rfl rfl rfl (fun _ _ _ _ h => h) ?_; clear E a; intro a E
          refine C_val E HK (pk_pick rfl rfl rfl) rfl rfl rfl (fun _ _ _ _ h => h) ?_; clear E a; intro a E; refine C_val E HK (pk_move rfl rfl) rfl rfl rfl (fun _ _ _ _ h => h) ?_; clear E a; intro a E; refine env_split (d := 148) E rfl ?_ ?_
          · skip
            clear E; intro c148 E
            have hke : i < (wait.eraseIdx p).length := by simpa using c148
            have hxe : (wait.eraseIdx p)[i]? = some (wait.eraseIdx p)[i] := List.getElem?_eq_getElem hke
            refine C_val E HK (pk_load (n := 3) HS 0 rfl rfl rfl (HS.inS 0 rfl (by simp)) rfl (by kernel_rfl)) rfl rfl rfl (fun _ _ _ _ h => h) ?_; clear E a; intro a E; refine C_val E HK (pk_fieldAddr (off := 2) rfl rfl (by kernel_rfl)) rfl rfl rfl (fun _ _ _ _ h => h) ?_; clear E a; intro a E; refine C_val E HK (pk_load1 HS 3 rfl rfl rfl (HS.inS 3 rfl (by simp)) rfl (by kernel_rfl)) rfl rfl rfl (fun _ _ _ _ h => h) ?_; clear E a; intro a E; refine C_val E HK (pk_move rfl rfl) rfl rfl rfl (fun _ _ _ _ h => h) ?_; clear E a; intro a E
            obtain ⟨ad153, hA153, hc153, hn153⟩ := LiF.get (A := WA1) (T := LtrT) (i := i) (x := (wait.eraseIdx p)[i]) (by exact HS.fact 8 rfl) hxe
            refine C_val E HK (pk_elA (sz := 3) hA153 rfl (by kernel_rfl) rfl rfl rfl (by omega)) rfl rfl rfl (fun _ _ _ _ h => h) ?_; clear E a; intro a E; refine C_val E HK (pk_loadE (n := 3) hc153 (fun k h _ => ⟨h, by simp⟩) rfl rfl rfl (by kernel_rfl)) rfl rfl rfl (fun _ _ _ _ h => h) ?_; clear E a; intro a E; refine CanB.wpCan_nil ?_
            try (simp only [List.take_succ_cons, List.take_zero, List.drop_succ_cons, List.drop_zero])
            clear HS HK hsz; refine S_eff E rfl (fun K hK => ?_); refine eff_call E rfl rfl rfl (by kernel_rfl) ?_; refine (RSameLetter_any H.xk (by exact H.fact 1 rfl) hn153).mono ?_; rintro e w ⟨rfl, H1⟩
            replace H := H.call H1
            clear H1; replace H : Sep _ _ _ _ [_, _, _, _, _, _] [_, _, _, _, _, _, _, _, _, _, _] := H; refine hK _ _ ?_; clear hK K; refine S_put E rfl rfl ?_; clear E a; intro a E; refine S_val E (pk_pick rfl rfl rfl) rfl rfl rfl ?_; clear E a; intro a E; refine S_val E (pk_assign rfl rfl) rfl rfl rfl ?_; clear E a; intro a E; refine hK26 _ _ ?_; refine env_split (d := 138) E rfl ?_ ?_
            · skip
              clear E; intro c138 E
              have hA : wait[i]? = (wait.eraseIdx p)[i]? := by rw [hxi, hxe]; exact congrArg some (of_decide_eq_true c138)
              refine S_then E rfl ?_; refine wp_skip ?_; refine hK21 _ _ ?_; refine S_region ?_; refine S_val E (pk_intw rfl rfl rfl rfl (wI64 (by omega) (by omega))) rfl rfl rfl ?_; clear E a; intro a E; refine S_val E (pk_move rfl rfl) rfl rfl rfl ?_; clear E a; intro a E; refine loop_end ?_
              exact ⟨(i + 1, false), ⟨E.to (by repeat (first | exact trivial | refine ⟨rfl, ?_⟩)), H.popL.pop.pop, inv_A hk1 (c15 ▸ hφ) hA⟩, by show wait.length - (i + 1) < wait.length - i; omega⟩
            · skip
              clear E; intro c138 E
              have hnA : wait[i]? ≠ (wait.eraseIdx p)[i]? := by rw [hxi, hxe]; intro h; exact of_decide_eq_false c138 (Option.some.inj h)
              refine S_else E rfl ?_; refine wp_seq_k fun K27 hK27 => ?_; refine S_region ?_; refine S_val E (pk_move rfl rfl) rfl rfl rfl ?_; clear E a; intro a E; refine S_val E (pk_not rfl rfl) rfl rfl rfl ?_; clear E a; intro a E; refine S_val E (pk_move rfl rfl) rfl rfl rfl ?_; clear E a; intro a E; refine S_val E (pk_load (n := 3) H 0 rfl rfl rfl trivial rfl (by kernel_rfl)) rfl rfl rfl ?_; clear E a; intro a E; refine S_val E (pk_load (n := 3) H 4 rfl rfl rfl trivial rfl (by kernel_rfl)) rfl rfl rfl ?_; clear E a; intro a E; refine S_eff E rfl (fun K hK => ?_); refine eff_call E rfl rfl rfl (by kernel_rfl) ?_; refine (RSameLetter_any H.xk (by exact H.fact 1 rfl) (by exact H.fact 6 rfl)).mono ?_; rintro e w ⟨rfl, H1⟩
              replace H := H.call H1
              clear H1; replace H : Sep _ _ _ _ [_, _, _, _, _, _] [_, _, _, _, _, _, _, _, _, _, _] := H; refine hK _ _ ?_; clear hK K; refine S_put E rfl rfl ?_; clear E a; intro a E; refine S_val E (pk_pick rfl rfl rfl) rfl rfl rfl ?_; clear E a; intro a E; refine S_val E (pk_assign rfl rfl) rfl rfl rfl ?_; clear E a; intro a E; refine hK27 _ _ ?_; refine env_split (d := 157) E rfl ?_ ?_
              · skip
                clear E; intro c157 E; refine S_then E rfl ?_; refine S_region ?_; refine S_val E (pk_assign rfl rfl) rfl rfl rfl ?_; clear E a; intro a E; refine hK21 _ _ ?_; refine S_region ?_; refine S_val E (pk_intw rfl rfl rfl rfl (wI64 (by omega) (by omega))) rfl rfl rfl ?_; clear E a; intro a E; refine S_val E (pk_move rfl rfl) rfl rfl rfl ?_; clear E a; intro a E; refine loop_end ?_
                exact ⟨(i + 1, true), ⟨E.to (by repeat (first | exact trivial | refine ⟨rfl, ?_⟩)), H.popL.pop.pop, inv_B hk1 hnA⟩, by show wait.length - (i + 1) < wait.length - i; omega⟩
              · skip
                clear E; intro c157 E
                exfalso
                have hpx : wait[p]? = some wait[p] := List.getElem?_eq_getElem hp
                have := inv_B2 (c15 ▸ hφ) hnA
                rw [hxi, hpx] at this
                exact of_decide_eq_false c157 (Option.some.inj this) --done
          · skip
            clear E; intro c148 E
            have hke : ¬ i < (wait.eraseIdx p).length := by simpa using c148
            have hnA : wait[i]? ≠ (wait.eraseIdx p)[i]? := by rw [hxi, List.getElem?_eq_none (by omega)]; intro h; cases h
            refine C_skip E rfl rfl rfl (fun _ _ _ _ h => h) ?_; clear E a; intro a E; refine C_skip E rfl rfl rfl (fun _ _ _ _ h => h) ?_; clear E a; intro a E; refine C_skip E rfl rfl rfl (fun _ _ _ _ h => h) ?_; clear E a; intro a E; refine C_skip E rfl rfl rfl (fun _ _ _ _ h => h) ?_; clear E a; intro a E; refine C_skip E rfl rfl rfl (fun _ _ _ _ h => h) ?_; clear E a; intro a E; refine C_skip E rfl rfl rfl (fun _ _ _ _ h => h) ?_; clear E a; intro a E; refine CanB.wpCan_nil ?_
            try (simp only [List.take_succ_cons, List.take_zero, List.drop_succ_cons, List.drop_zero])
            clear HS HK hsz; refine S_skip E rfl rfl rfl ?_; clear E a; intro a E; refine S_val E (pk_pick rfl rfl rfl) rfl rfl rfl ?_; clear E a; intro a E; refine S_val E (pk_assign rfl rfl) rfl rfl rfl ?_; clear E a; intro a E; refine hK26 _ _ ?_; refine S_else E rfl ?_; refine wp_seq_k fun K28 hK28 => ?_; refine S_region ?_; refine S_val E (pk_move rfl rfl) rfl rfl rfl ?_; clear E a; intro a E; refine S_val E (pk_not rfl rfl) rfl rfl rfl ?_; clear E a; intro a E; refine S_val E (pk_move rfl rfl) rfl rfl rfl ?_; clear E a; intro a E; refine S_val E (pk_load (n := 3) H 0 rfl rfl rfl trivial rfl (by kernel_rfl)) rfl rfl rfl ?_; clear E a; intro a E; refine S_val E (pk_load (n := 3) H 4 rfl rfl rfl trivial rfl (by kernel_rfl)) rfl rfl rfl ?_; clear E a; intro a E; refine S_eff E rfl (fun K hK => ?_); refine eff_call E rfl rfl rfl (by kernel_rfl) ?_
            refine (RSameLetter_any H.xk (by exact H.fact 1 rfl) (by exact H.fact 6 rfl)).mono ?_; rintro e w ⟨rfl, H1⟩
            replace H := H.call H1
            clear H1; replace H : Sep _ _ _ _ [_, _, _, _, _, _] [_, _, _, _, _, _, _, _, _, _, _] := H; refine hK _ _ ?_; clear hK K; refine S_put E rfl rfl ?_; clear E a; intro a E; refine S_val E (pk_pick rfl rfl rfl) rfl rfl rfl ?_; clear E a; intro a E; refine S_val E (pk_assign rfl rfl) rfl rfl rfl ?_; clear E a; intro a E; refine hK28 _ _ ?_; refine env_split (d := 157) E rfl ?_ ?_
            · skip
              clear E; intro c157 E; refine S_then E rfl ?_; refine S_region ?_; refine S_val E (pk_assign rfl rfl) rfl rfl rfl ?_; clear E a; intro a E; refine hK21 _ _ ?_; refine S_region ?_; refine S_val E (pk_intw rfl rfl rfl rfl (wI64 (by omega) (by omega))) rfl rfl rfl ?_; clear E a; intro a E; refine S_val E (pk_move rfl rfl) rfl rfl rfl ?_; clear E a; intro a E; refine loop_end ?_
              exact ⟨(i + 1, true), ⟨E.to (by repeat (first | exact trivial | refine ⟨rfl, ?_⟩)), H.popL.pop.pop, inv_B hk1 hnA⟩, by show wait.length - (i + 1) < wait.length - i; omega⟩
            · skip
              clear E; intro c157 E
              exfalso
              have hpx : wait[p]? = some wait[p] := List.getElem?_eq_getElem hp
              have := inv_B2 (c15 ▸ hφ) hnA
              rw [hxi, hpx] at this
              exact of_decide_eq_false c157 (Option.some.inj this) --done
      · skip
        clear E; intro c134 E
        have hk1 : ¬ i < wait.length := by simpa using c134
        obtain rfl := inv_end hp hk1 hφ
        refine S_else E rfl ?_; refine wp_exit ?_
        repeat (first | refine then_exit ?_ | refine block_hit ?_ | refine block_miss (by decide) ?_)
        refine hK17 _ _ ?_; refine wp_seq_k fun K29 hK29 => ?_; refine C_region E H [] 41 [(0, false), (1, false), (2, false), (3, false), (4, false), (5, false), (6, false), (7, false), (8, false), (9, false), (10, false), (11, false), (12, false), (13, false), (14, false), (15, false), (16, false), (17, false), (18, false), (19, true), (20, false), (21, false), (22, false), (23, false), (24, false), (25, false), (26, false), (27, true), (28, false), (29, false), (30, false), (31, false), (32, false), (33, false), (34, false), (35, false), (36, false), (37, false), (38, false), (39, false), (40, false)] (by kernel_rfl) (by kernel_rfl) (fun w HS => ?_)
        (simp only [canOps, List.getElem?_cons_zero, List.getElem?_cons_succ, List.drop_succ_cons, List.drop_zero])
        clear H
        have H := HS
        have hsz : w.heap.size ≤ w.heap.size := Nat.le_refl _
        have HK : CanB.Keep (fun k => k < w.heap.size ∧ k ∉ []) w w := CanB.Keep.refl _ _
        refine C_val E HK (pk_move rfl rfl) rfl rfl rfl (fun _ _ _ _ h => h) ?_; clear E a; intro a E; refine C_val E HK (pk_move rfl rfl) rfl rfl rfl (fun _ _ _ _ h => h) ?_; clear E a; intro a E; refine C_val E HK (pk_move rfl rfl) rfl rfl rfl (fun _ _ _ _ h => h) ?_; clear E a; intro a E; refine C_val E HK (pk_move rfl rfl) rfl rfl rfl (fun _ _ _ _ h => h) ?_; clear E a; intro a E; refine C_skip E rfl rfl rfl (fun _ _ _ _ h => h) ?_; clear E a; intro a E; refine C_skip E rfl rfl rfl (fun _ _ _ _ h => h) ?_; clear E a; intro a E; refine C_skip E rfl rfl rfl (fun _ _ _ _ h => h) ?_; clear E a; intro a E; refine C_skip E rfl rfl rfl (fun _ _ _ _ h => h) ?_; clear E a; intro a E; refine C_val E HK (pk_pick rfl rfl rfl) rfl rfl rfl (fun _ _ _ _ h => h) ?_; clear E a; intro a E; refine C_val E HK (pk_move rfl rfl) rfl rfl rfl (fun _ _ _ _ h => h) ?_; clear E a; intro a E
        refine C_skip E rfl rfl rfl (fun _ _ _ _ h => h) ?_; clear E a; intro a E; refine C_skip E rfl rfl rfl (fun _ _ _ _ h => h) ?_; clear E a; intro a E; refine C_skip E rfl rfl rfl (fun _ _ _ _ h => h) ?_; clear E a; intro a E; refine C_skip E rfl rfl rfl (fun _ _ _ _ h => h) ?_; clear E a; intro a E; refine C_skip E rfl rfl rfl (fun _ _ _ _ h => h) ?_; clear E a; intro a E; refine C_skip E rfl rfl rfl (fun _ _ _ _ h => h) ?_; clear E a; intro a E; refine C_skip E rfl rfl rfl (fun _ _ _ _ h => h) ?_; clear E a; intro a E; refine C_skip E rfl rfl rfl (fun _ _ _ _ h => h) ?_; clear E a; intro a E; refine C_skip E rfl rfl rfl (fun _ _ _ _ h => h) ?_; clear E a; intro a E; refine C_skip_e E rfl rfl rfl ?_; clear E a; intro a E; refine C_val E HK (pk_pick rfl rfl rfl) rfl rfl rfl (fun _ _ _ _ h => h) ?_; clear E a; intro a E
        refine C_val E HK (pk_pick rfl rfl rfl) rfl rfl rfl (fun _ _ _ _ h => h) ?_; clear E a; intro a E; refine C_val E HK (pk_move rfl rfl) rfl rfl rfl (fun _ _ _ _ h => h) ?_; clear E a; intro a E; refine C_val E HK (pk_fieldAddr (off := 1) rfl rfl (by kernel_rfl)) rfl rfl rfl (fun _ _ _ _ h => h) ?_; clear E a; intro a E; refine C_val E HK (pk_load1 HS 2 rfl rfl rfl (HS.inS 2 rfl (by simp)) rfl (by kernel_rfl)) rfl rfl rfl (fun _ _ _ _ h => h) ?_; clear E a; intro a E; refine C_val E HK (pk_fieldAddr (off := 1) rfl rfl (by kernel_rfl)) rfl rfl rfl (fun _ _ _ _ h => h) ?_; clear E a; intro a E; refine C_val E HK (pk_load1 HS 4 rfl rfl rfl (HS.inS 4 rfl (by simp)) rfl (by kernel_rfl)) rfl rfl rfl (fun _ _ _ _ h => h) ?_; clear E a; intro a E; refine C_eff E rfl (fun K hK => ?_); refine eff_call E rfl rfl rfl (by kernel_rfl) ?_
        refine (RSameAll_self H.xk (by exact H.fact 5 rfl) (by exact H.fact 7 rfl)).mono ?_; rintro e w ⟨rfl, H1⟩
        have F := H1.frm
        replace H := H.call H1
        clear H1; replace H : Sep _ _ _ _ [_, _, _, _, _] [_, _, _, _, _, _, _, _, _] := H
        have hk := keep_frm (D := []) F hsz (by simp)
        refine hK _ _ hk ?_; clear hK K
        replace HK := HK.trans hk
        replace hsz := Nat.le_trans hsz (F).size
        clear hk; refine C_put E rfl rfl ?_; clear E a; intro a E; clear F; refine C_val E HK (pk_pick rfl rfl rfl) rfl rfl rfl (fun _ _ _ _ h => h) ?_; clear E a; intro a E; refine C_val E HK (pk_move rfl rfl) rfl rfl rfl (fun _ _ _ _ h => h) ?_; clear E a; intro a E; refine C_val E HK (pk_fieldAddr (off := 0) rfl rfl (by kernel_rfl)) rfl rfl rfl (fun _ _ _ _ h => h) ?_; clear E a; intro a E; refine C_val E HK (pk_load1 HS 2 rfl rfl rfl (HS.inS 2 rfl (by simp)) rfl (by kernel_rfl)) rfl rfl rfl (fun _ _ _ _ h => h) ?_; clear E a; intro a E; refine C_val E HK (pk_fieldAddr (off := 0) rfl rfl (by kernel_rfl)) rfl rfl rfl (fun _ _ _ _ h => h) ?_; clear E a; intro a E; refine C_val E HK (pk_load1 HS 4 rfl rfl rfl (HS.inS 4 rfl (by simp)) rfl (by kernel_rfl)) rfl rfl rfl (fun _ _ _ _ h => h) ?_; clear E a; intro a E
        refine C_val E HK (pk_int rfl rfl rfl rfl) rfl rfl rfl (fun _ _ _ _ h => h) ?_; clear E a; intro a E
        simp only [beq_self_eq_true, decide_true] at E
        refine C_val E HK (pk_pick rfl rfl rfl) rfl rfl rfl (fun _ _ _ _ h => h) ?_; clear E a; intro a E; refine C_val E HK (pk_move rfl rfl) rfl rfl rfl (fun _ _ _ _ h => h) ?_; clear E a; intro a E; refine C_val E HK (pk_fieldAddr (off := 3) rfl rfl (by kernel_rfl)) rfl rfl rfl (fun _ _ _ _ h => h) ?_; clear E a; intro a E; refine C_val E HK (pk_load1 HS 2 rfl rfl rfl (HS.inS 2 rfl (by simp)) rfl (by kernel_rfl)) rfl rfl rfl (fun _ _ _ _ h => h) ?_; clear E a; intro a E; refine C_val E HK (pk_fieldAddr (off := 3) rfl rfl (by kernel_rfl)) rfl rfl rfl (fun _ _ _ _ h => h) ?_; clear E a; intro a E; refine C_val E HK (pk_load1 HS 4 rfl rfl rfl (HS.inS 4 rfl (by simp)) rfl (by kernel_rfl)) rfl rfl rfl (fun _ _ _ _ h => h) ?_; clear E a; intro a E; refine CanB.wpCan_nil ?_
        try (simp only [List.take_succ_cons, List.take_zero, List.drop_succ_cons, List.drop_zero])
        clear HS HK hsz; refine S_val E (pk_int rfl rfl rfl rfl) rfl rfl rfl ?_; clear E a; intro a E
        simp only [beq_self_eq_true, decide_true] at E
        refine S_val E (pk_pick rfl rfl rfl) rfl rfl rfl ?_; clear E a; intro a E; refine S_val E (pk_assign rfl rfl) rfl rfl rfl ?_; clear E a; intro a E; refine hK29 _ _ ?_; refine wp_ret ?_
        repeat (first | refine then_ret ?_ | refine block_ret ?_)
        refine ret1 rfl E (resT rfl) ?_
        exact ⟨rfl, H.keepLR (L := []) (R := [])⟩
end Go.Proofs.Yteefhbpmeajbfaa
namespace Go.Proofs.Yteefhbpmeajbfaa
set_option linter.unusedSimpArgs false
set_option linter.unusedVariables false
open Go.ChangeShapes Go.WideShapes Go.ChangeAt Go.RowKit

section
variable {H : Type} {enc : TypeId × Value → H} {P : Program} {w : World} {base : Nat} {spare : Nat → Bool} {held : Bool} {t e : TypeId} {v : Value} {d : DataW H} {p : List MemPlace} {r : Reach}
end
theorem wfb_u8 {n : Int} (h : (Lit.int .u8 n).wf = true) : 0 ≤ n ∧ n < 256 := by
  simp [Lit.wf, IntKind.min, IntKind.max, IntKind.signed, IntKind.bits] at h
  omega
theorem wfb_i64 {n : Int} (h : (Lit.int .i64 n).wf = true) : -9223372036854775808 ≤ n ∧ n < 9223372036854775808 := by
  simp [Lit.wf, IntKind.min, IntKind.max, IntKind.signed, IntKind.bits] at h
  omega
end Go.Proofs.Yteefhbpmeajbfaa
namespace Go.Proofs.Yteefhbpmeajbfaa
set_option linter.unusedSimpArgs false
set_option linter.unusedVariables false
open Go.ChangeShapes Go.WideShapes Go.ChangeAt Go.RowKit

section
variable {H : Type} {enc : TypeId × Value → H} {P : Program} {w : World} {base : Nat} {spare : Nat → Bool} {held : Bool} {t e : TypeId} {v : Value} {fuel : Nat} {x : DataW H × List MemPlace}
/-- A text that comes in. -/
theorem open_txt (hT : ByteT P t e) (hc : P.cellsOf e = 1) (h : DataW.trod enc P w base spare held fuel t [v] = some x) :
    ∃ (A : Option Addr) (n c : Nat) (m : List Nat), v = .slice A n c ∧ n ≤ 9223372036854775807 ∧ Txt w w.heap.size A n c m ∧ ∀ y ∈ m, y < 256 := by
  rcases Go.ChangeShapes.open_ints hT.sl hT.el hc h with ⟨h1, _⟩ | ⟨a, len, cap, zs, h1, hb, hl, hm, hz, _, hcell, hwf⟩
  · exact ⟨none, 0, 0, [], by simpa using h1, by omega, Txt.nil_, by simp⟩
  · have hle : len ≤ zs.length := by rw [hz]; split <;> omega
    have hw : ∀ n ∈ zs, 0 ≤ n ∧ n < 256 := fun n hn => wfb_u8 (hwf n hn)
    have hm' : cap ≤ 9223372036854775807 := hm
    refine ⟨some a, len, cap, (zs.take len).map Int.toNat, by simpa using h1, by omega, ⟨by simp; omega, (fun he => by cases he), fun hn => ?_⟩, ?_⟩
    · refine ⟨a, rfl, ?_, fun i y hy => ?_⟩
      · have h0 := World.block_lt_of_cell? _ _ (hcell 0 (by omega))
        rwa [add_block] at h0
      · rw [List.getElem?_map, Option.map_eq_some_iff] at hy
        obtain ⟨z, hz1, rfl⟩ := hy
        have hi : i < len := by
          have := (List.getElem?_eq_some_iff.1 hz1).1
          simp at this
          omega
        rw [List.getElem?_take_of_lt hi] at hz1
        have hz2 := hw z (List.mem_of_getElem? hz1)
        rw [hcell i (by omega), List.getD_eq_getElem?_getD, hz1]
        unfold bv
        rw [Int.toNat_of_nonneg hz2.1]
        rfl
    · intro y hy
      obtain ⟨z, hz1, rfl⟩ := List.mem_map.1 hy
      have := hw z (List.mem_of_mem_take hz1)
      omega
end
end Go.Proofs.Yteefhbpmeajbfaa
namespace Go.Proofs.Yteefhbpmeajbfaa
set_option linter.unusedSimpArgs false
set_option linter.unusedVariables false
open Go.ChangeShapes Go.WideShapes Go.ChangeAt Go.RowKit

/-- No part weighs more than memory holds. -/
def Light {H : Type} (P : Program) (t : TypeId) (d : DataW H) : Prop := ∀ n ∈ d.weights P t, n ≤ reachBytes
theorem light_of {H : Type} {P : Program} {ts : List TypeId} {ds : List (DataW H)} (hz : (DataW.weightsEach P ts ds).all (· ≤ reachBytes) = true) {j : Nat} {t : TypeId} {d : DataW H} (ht : ts[j]? = some t) (hd : ds[j]? = some d) : Light P t d := fun n hn => by
  have := List.all_eq_true.1 hz n (DataW.weights_mem_each ht hd n hn)
  simpa using this
/-- What a type's data come to. -/
def Opn (P : Program) (t : TypeId) (φ : List Value → World → Prop) : Prop :=
  ∀ (H : Type) (enc : TypeId × Value → H) (w : World) (base : Nat) (spare : Nat → Bool) (held : Bool) (fuel : Nat) (x : DataW H × List MemPlace) (cs : List Value), DataW.trod enc P w base spare held fuel t cs = some x → Light P t x.1 → φ cs w
theorem Opn.imp {P : Program} {t : TypeId} {φ ψ : List Value → World → Prop} (o : Opn P t φ) (h : ∀ cs w, φ cs w → ψ cs w) : Opn P t ψ := fun H enc w base spare held fuel x cs h1 h2 => h cs w (o H enc w base spare held fuel x cs h1 h2)
theorem weights_mem_all {H : Type} {P : Program} {e : TypeId} : ∀ {ds : List (DataW H)} {d : DataW H}, d ∈ ds → ∀ n ∈ d.weights P e, n ∈ DataW.weightsAll P e ds
  | d0 :: ds, d, hd, n, hn => by
    rw [DataW.weightsAll, List.mem_append]
    rcases List.mem_cons.1 hd with rfl | hd
    · exact .inl hn
    · exact .inr (weights_mem_all hd n hn)
theorem cell_keep {w w' : World} {p : Addr} {u : Value} (hk : ∀ k, k < w.heap.size → k ∉ ([] : List Nat) → w'.heap[k]? = w.heap[k]?) (h : w.cell? p = some u) : w'.cell? p = some u := by
  rw [← h]
  have := hk _ (World.block_lt_of_cell? _ _ h) (by simp)
  unfold World.cell?
  rw [this]
section
variable {P : Program} {t e : TypeId}
theorem opn_int {k : IntKind} (ht : P.underlying t = some (.int k)) : Opn P t fun cs w => ∃ z : Int, cs = [.int k z] ∧ (Lit.int k z).wf = true := fun H enc w base spare held fuel x cs h _ => by
  obtain ⟨n, h1, _, hw⟩ := DataW.trod_int ht h
  exact ⟨n, h1, hw⟩
theorem opn_txt (hT : ByteT P t e) (hc : P.cellsOf e = 1) (hbt : P.bytesOf e = 1) : Opn P t fun cs w => ∃ A c l, cs = [.slice A l.length c] ∧ St (TxF A c l) w [] := fun H enc w base spare held fuel x cs h hl => by
  obtain ⟨v, rfl⟩ : ∃ v, cs = [v] := by
    rcases DataW.trod_slice hT.sl h with ⟨h1, _⟩ | ⟨a, len, cap, elems, rest, n, _, h1, _⟩
    · exact ⟨_, h1⟩
    · exact ⟨_, h1⟩
  obtain ⟨A, n, c, m, rfl, _, htx, hm⟩ := open_txt hT hc h
  have hn := htx.len
  subst hn
  refine ⟨A, c, m, rfl, txF_of htx ?_ ?_ hm⟩
  · rcases DataW.trod_slice hT.sl h with ⟨h1, _⟩ | ⟨a, len, cap, elems, rest, n, _, h1, _, _, h2, _⟩
    · injection h1 with h1
      injection h1 with _ h1 h3
      omega
    · injection h1 with h1
      injection h1 with _ h1 h3
      omega
  · rcases DataW.trod_slice hT.sl h with ⟨h1, _⟩ | ⟨a, len, cap, elems, rest, n, _, h1, hx, _, h2, _, hlen, _⟩
    · injection h1 with h1
      injection h1 with _ h1 h3
      omega
    · injection h1 with h1
      injection h1 with _ h1 h3
      have := hl ((elems.length + rest.length) * P.bytesOf e) (by rw [hx]; simp [DataW.weights, hT.sl])
      rw [hbt] at this
      have hr : reachBytes < 140737488355328 := by decide
      omega
/-- A struct's part. -/
theorem opn_field {fs : Array Field} {H : Type} {enc : TypeId × Value → H} {w : World} {base : Nat} {spare : Nat → Bool} {held : Bool} {fuel : Nat} {x : DataW H × List MemPlace} {cs : List Value} (ht : P.underlying t = some (.struct fs)) (h : DataW.trod enc P w base spare held fuel t cs = some x) (hl : Light P t x.1) (i : Nat) {ty off n : Nat}
    (hf : (fs[i]?).map (fun f => (f.type, f.offset)) = some (ty, off)) (hn : P.cellsOf ty = n) {φ : List Value → World → Prop} (o : Opn P ty φ) : φ ((cs.drop off).take n) w := by
  obtain ⟨xs, m, _, hx, _, hxl, hall⟩ := DataW.trod_struct ht h
  obtain ⟨f, hff, he⟩ := Option.map_eq_some_iff.1 hf
  injection he with h1 h2
  have h3 := hall i f hff
  rw [h1, h2, hn] at h3
  have hi : i < xs.length := by
    rw [hxl]
    rcases Nat.lt_or_ge i fs.size with h | h
    · exact h
    · rw [Array.getElem?_eq_none h] at hff; cases hff
  rw [List.getElem?_eq_getElem hi] at h3
  refine o H enc w base spare held m _ _ h3 fun k hk => hl k ?_
  rw [hx]
  simp only [DataW.weights, ht]
  refine DataW.weights_mem_each (j := i) (t := ty) (d := xs[i].1) ?_ ?_ k hk
  · rw [List.getElem?_map, Array.getElem?_toList, hff]; simp [h1]
  · rw [List.getElem?_map, List.getElem?_eq_getElem hi]; rfl
theorem cut_one (off n : Nat) (cs : List Value) : cs.drop off = (cs.drop off).take n ++ cs.drop (off + n) := by
  rw [← List.drop_drop, List.take_append_drop]
theorem cut_end {off : Nat} {cs : List Value} (h : cs.length = off) : cs.drop off = [] := by rw [← h]; exact List.drop_length
theorem opn_len {fs : Array Field} {H : Type} {enc : TypeId × Value → H} {w : World} {base : Nat} {spare : Nat → Bool} {held : Bool} {fuel : Nat} {x : DataW H × List MemPlace} {cs : List Value} (ht : P.underlying t = some (.struct fs)) (h : DataW.trod enc P w base spare held fuel t cs = some x) {n : Nat} (hn : P.cellsOf t = n) : cs.length = n := by
  obtain ⟨xs, m, _, _, hl, _, _⟩ := DataW.trod_struct ht h
  rw [hl, hn]
/-- A slice. -/
theorem opn_slice {α : Type} (T : Ty α) (good : α → Prop) (ht : P.underlying t = some (.slice e)) (hc : P.cellsOf e = T.sz) (o : Opn P e fun cs w => cs.length = T.sz → ∃ v m, cs = cl (T.ch v m) ∧ St (T.nest v m) w [] ∧ good v) :
    Opn P t fun cs w => ∃ A c xs m, cs = [.slice A xs.length c] ∧ St (LiF T A c xs m) w [] ∧ ∀ x ∈ xs, good x := fun H enc w base spare held fuel x cs h hl => by
  rcases DataW.trod_slice ht h with ⟨h1, _⟩ | ⟨a, len, cap, elems, rest, n, _, h1, hx, hb, h2, hm, hlen, hel, _⟩
  · exact ⟨none, 0, [], fun _ => T.dft, h1, liF_nil, fun x hx => by cases hx⟩
  · have key : ∀ i : Fin len, ∃ vm : α × T.μ, (∀ j u, (cl (T.ch vm.1 vm.2))[j]? = some u → w.cell? ((a.add (i.1 * T.sz)).add j) = some u) ∧ St (T.nest vm.1 vm.2) w [] ∧ good vm.1 := fun i => by
      have h3 := hel i.1 i.2
      rw [hc, List.getElem?_eq_getElem (by omega)] at h3
      obtain ⟨c, hcs, htr⟩ := Option.bind_eq_some_iff.1 h3
      obtain ⟨_, hcl, hcell⟩ := World.cells?_some hcs
      obtain ⟨v, m, e1, e2, e3⟩ := o H enc w base spare held n _ _ htr (fun k hk => hl k (by
        rw [hx]
        simp only [DataW.weights, ht, List.mem_cons, List.mem_append]
        exact .inr (.inl (weights_mem_all (List.mem_map.2 ⟨_, List.getElem_mem _, rfl⟩) k hk)))) hcl
      refine ⟨(v, m), fun j u hu => ?_, e2, e3⟩
      have hu' : c[j]? = some u := by rw [e1]; exact hu
      have hj : j < T.sz := by rw [← hcl]; exact (List.getElem?_eq_some_iff.1 hu').1
      rw [← hu']
      exact hcell j hj
    obtain ⟨f, hf⟩ := Classical.axiomOfChoice key
    have hm' : cap ≤ 9223372036854775807 := hm
    refine ⟨some a, cap, List.ofFn fun i => (f i).1, fun i => if h : i < len then (f ⟨i, h⟩).2 else T.dft, by rw [List.length_ofFn]; exact h1, fun w' hk => ?_, fun y hy => ?_⟩
    · refine ⟨by rw [List.length_ofFn]; exact h2, by rw [List.length_ofFn]; omega, fun h => (by cases h), fun ad hA i y hy => ?_⟩
      obtain rfl := Option.some.inj hA
      have hi : i < len := by
        have := (List.getElem?_eq_some_iff.1 hy).1
        rwa [List.length_ofFn] at this
      rw [List.getElem?_ofFn, dif_pos hi] at hy
      obtain rfl := Option.some.inj hy
      rw [dif_pos hi]
      obtain ⟨g1, g2, _⟩ := hf ⟨i, hi⟩
      exact ⟨fun j u hu => cell_keep hk (g1 j u hu), g2 w' hk⟩
    · obtain ⟨i, rfl⟩ := List.mem_ofFn.1 hy
      exact (hf i).2.2
/-- An argument. -/
theorem opn_arg {φ : List Value → World → Prop} (o : Opn P t φ) {H : Type} {enc : TypeId × Value → H} {w : World} {base : Nat} {spare : Nat → Bool} {held : Bool} {v : Value} {d : DataW H} {p : List MemPlace} (h : DataW.Trod enc P w base spare held t v d p) (hl : Light P t d) : φ v.cells.toList w := by
  obtain ⟨fuel, hf⟩ := h
  exact o H enc w base spare held fuel _ _ hf hl
theorem agg_of {cs : Array Value} {X : List Chunk} (e : (Value.agg cs).cells.toList = cl X) : cs = ca X := by
  have e' : cs.toList = cl X := e
  exact Array.ext' (by rw [e']; rfl)
end
end Go.Proofs.Yteefhbpmeajbfaa
namespace Go.Proofs.Yteefhbpmeajbfaa
set_option linter.unusedSimpArgs false
set_option linter.unusedVariables false
open Go.ChangeShapes Go.WideShapes Go.ChangeAt Go.RowKit

theorem opn_bytes : Opn Try.prog 23 fun cs w => ∃ A c l, cs = [.slice A l.length c] ∧ St (TxF A c l) w [] := opn_txt ⟨Try.underlying23, Try.underlying5, by kernel_rfl⟩ (by kernel_rfl) (by kernel_rfl)
theorem opn_texts : Opn Try.prog 22 fun cs w => ∃ A c xs m, cs = [.slice A xs.length c] ∧ St (LiF TextT A c xs m) w [] ∧ ∀ x ∈ xs, True :=
  opn_slice TextT (fun _ => True) Try.underlying22 (by kernel_rfl) (opn_bytes.imp fun cs w ⟨A, c, l, e, s⟩ _ => ⟨l, (A, c), e, s, trivial⟩)
theorem opn_ltr : Opn Try.prog 49 fun cs w => cs.length = LtrT.sz → ∃ v m, cs = cl (LtrT.ch v m) ∧ St (LtrT.nest v m) w [] ∧ True := fun H enc w base spare held fuel x cs h hl hn => by
  obtain ⟨z0, e0, _⟩ := opn_field (off := 0) (n := 1) Try.underlying49 h hl 0 rfl (by kernel_rfl) (opn_int Try.underlying3)
  have q0 := cut_one 0 1 cs
  obtain ⟨z1, e1, _⟩ := opn_field (off := 1) (n := 1) Try.underlying49 h hl 1 rfl (by kernel_rfl) (opn_int Try.underlying3)
  have q1 := cut_one 1 1 cs
  obtain ⟨A2, c2, l2, e2, s2⟩ := opn_field (off := 2) (n := 1) Try.underlying49 h hl 2 rfl (by kernel_rfl) opn_bytes
  have q2 := cut_one 2 1 cs
  have qe := cut_end (off := 3) hn
  refine ⟨⟨z0, z1, l2⟩, (A2, c2), ?_, s2, trivial⟩
  show cs.drop 0 = _
  rw [q0, e0, q1, e1, q2, e2, qe]
  rfl
theorem opn_ltrs : Opn Try.prog 28 fun cs w => ∃ A c xs m, cs = [.slice A xs.length c] ∧ St (LiF LtrT A c xs m) w [] ∧ ∀ x ∈ xs, True :=
  opn_slice LtrT (fun _ => True) Try.underlying28 (by kernel_rfl) opn_ltr
theorem opn_srv : Opn Try.prog 30 fun cs w => ∃ ep nx : Int, ∃ LA lc log lm WA wc wait wm, cs = cl [.one (.int .u64 ep), .one (.slice LA log.length lc), .one (.slice WA wait.length wc), .one (.int .i64 nx)] ∧ St (LiF TextT LA lc log lm) w [] ∧ St (LiF LtrT WA wc wait wm) w [] ∧ (Lit.int .u64 ep).wf = true ∧ (Lit.int .i64 nx).wf = true := fun H enc w base spare held fuel x cs h hl => by
  obtain ⟨ep, e0, w0⟩ := opn_field (off := 0) (n := 1) Try.underlying30 h hl 0 rfl (by kernel_rfl) (opn_int Try.underlying27)
  have q0 := cut_one 0 1 cs
  obtain ⟨LA, lc, log, lm, e1, sL, _⟩ := opn_field (off := 1) (n := 1) Try.underlying30 h hl 1 rfl (by kernel_rfl) opn_texts
  have q1 := cut_one 1 1 cs
  obtain ⟨WA, wc, wait, wm, e2, sW, _⟩ := opn_field (off := 2) (n := 1) Try.underlying30 h hl 2 rfl (by kernel_rfl) opn_ltrs
  have q2 := cut_one 2 1 cs
  obtain ⟨nx, e3, w3⟩ := opn_field (off := 3) (n := 1) Try.underlying30 h hl 3 rfl (by kernel_rfl) (opn_int Try.underlying3)
  have q3 := cut_one 3 1 cs
  have qe := cut_end (off := 4) (opn_len Try.underlying30 h (by kernel_rfl))
  refine ⟨ep, nx, LA, lc, log, lm, WA, wc, wait, wm, ?_, sL, sW, w0, w3⟩
  show cs.drop 0 = _
  rw [q0, e0, q1, e1, q2, e2, q3, e3, qe]
  rfl
end Go.Proofs.Yteefhbpmeajbfaa
