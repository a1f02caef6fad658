/- The law ServerDrains: whatever the server, it answers true. Arguments that come in, opened: rows of integers by value. No program is in sight. Arguments that come in, opened: texts, and structs of four with texts. No program is in sight. Arguments that come in, opened: whatever is made of integers, texts, keys, structs and slices. No program is in sight. Layer 22's arguments, opened. -/
import Derived.Test.YteefhbpmeajbfaaServerDrainsE
import Derived.WalkKit
import Derived.WalkSpells
import Derived.WalkLawsBesides
import Derived.Deep.QuietTactic
import Derived.BigQuiet
import Derived.StillTailTactics
import Derived.Lib.Hide
import Derived.Deep.LoopGhost
import Derived.Outline
import Derived.Deep.DeepFit
import Derived.Deep.RegionHeld3
import Derived.Deep.RegionLaw
import Derived.OrdersHeld
import Derived.Laws.StructEq
import Derived.Maps.AppendAt
import Derived.Deep.AppendLies
import Derived.Deep.Draws
import Derived.Laws.OwnMore
import Derived.Laws.AppendOwnNone
import Derived.OwnWalk
import Derived.Below
import Derived.Deep.Cut
import Derived.Deep.CutBlock
import Derived.Deep.CutRange
import Derived.DataElems
import Derived.Great.BuildSlice
import Derived.Laws.Entries
import Derived.Laws.Tables
import Derived.SizedLaws
import Derived.Lib.SliceRun
import Derived.Laws.Small
import Derived.Great.Walk
import Derived.Test.YteefhbpmeajbfaaRows
import Derived.Laws.IdiomStrings
import Derived.Lib.Tables
import Derived.Lib.BitFns
import Derived.Laws.Bits64b
import Derived.ProofKit
import Derived.OpenShut
import Derived.ShutString
import Derived.ChangeOld
import Derived.ChangeSlices
import Derived.Lib.SmallJoins
namespace Go.Proofs.Yteefhbpmeajbfaa
set_option linter.unusedSimpArgs false
set_option linter.unusedVariables false
open Go.RowKit

theorem min_ex : ∀ l : List Ltr, l.length ≠ 0 → ∃ x ∈ l, ∀ y ∈ l, x.no ≤ y.no
  | [], h => absurd rfl h
  | a :: l, _ => by
    by_cases hl : l.length = 0
    · obtain rfl := List.length_eq_zero_iff.1 hl
      exact ⟨a, by simp, fun y hy => by simp at hy; rw [hy]; exact Int.le_refl _⟩
    · obtain ⟨x, hx, hm⟩ := min_ex l hl
      by_cases hc : a.no ≤ x.no
      · exact ⟨a, by simp, fun y hy => by
          rcases List.mem_cons.1 hy with rfl | hy
          · exact Int.le_refl _
          · exact Int.le_trans hc (hm y hy)⟩
      · exact ⟨x, List.mem_cons_of_mem _ hx, fun y hy => by
          rcases List.mem_cons.1 hy with rfl | hy
          · omega
          · exact hm y hy⟩
theorem first_spec {s : Srv} (hok : okS s = true) (h0 : s.wait.length ≠ 0) : ∃ j, ∃ hj : j < s.wait.length, firstV s = ((j : Int), true) ∧ ∀ y ∈ s.wait, s.wait[j].no ≤ y.no := by
  unfold firstV
  rw [if_neg (by simp only [hok]; simpa using h0)]
  unfold idxI
  cases h : s.wait.findIdx? (minL s.wait) with
  | none =>
    obtain ⟨x, hx, hm⟩ := min_ex s.wait h0
    have := List.findIdx?_eq_none_iff.1 h x hx
    unfold minL at this
    rw [List.all_eq_false] at this
    obtain ⟨y, hy, hn⟩ := this
    exact absurd (hm y hy) (by simpa using hn)
  | some j =>
    obtain ⟨hj, hp, _⟩ := List.findIdx?_eq_some_iff_getElem.1 h
    refine ⟨j, hj, rfl, fun y hy => ?_⟩
    unfold minL at hp
    have := List.all_eq_true.1 hp y hy
    simpa using this
theorem first_no {s : Srv} (h : (firstV s).2 = false) : okS s = false ∨ s.wait.length = 0 := by
  unfold firstV at h
  split at h
  · assumption
  · cases h
theorem first_yes {s : Srv} (h : (firstV s).2 = true) : okS s = true ∧ s.wait.length ≠ 0 := by
  unfold firstV at h
  split at h
  · cases h
  · rename_i h'
    exact ⟨by cases hq : okS s with
      | true => rfl
      | false => exact absurd (.inl hq) h', fun h0 => h' (.inr h0)⟩
theorem first_nil {s : Srv} (h : s.wait.length = 0) : firstV s = (0, false) := if_pos (.inr h)
theorem place_at {n j : Nat} (h : j < n) : placeV n (j : Int) = j := by
  unfold placeV
  rw [Int.emod_eq_of_lt (by omega) (by omega)]
  rfl
theorem take_at {s : Srv} (hok : okS s = true) {j : Nat} (hj : j < s.wait.length) : takeV s (j : Int) = (s.wait[j], ⟨s.ep, s.log, s.wait.eraseIdx j, s.nx⟩, 0) := by
  unfold takeV
  rw [if_neg (by rw [hok]; decide), if_neg (by omega), place_at hj]
  simp [List.getD_eq_getElem?_getD, hj]
theorem ok_no {s : Srv} (hok : okS s = true) : ∀ y ∈ s.wait, -1 ≤ y.no := fun y hy => by
  obtain ⟨k1, k2, k3, k4, k5, k6⟩ := okS_of hok
  have := List.any_eq_false.1 k6 y hy
  simp only [oddB, Bool.or_eq_true, decide_eq_true_eq, not_or] at this
  omega
attribute [local irreducible] farB oddB cmV wlV frV exL firstV takeV
section
variable {X : List Nat} {w0 w' : World} {ep nx : Int} {LA WA : Option Addr} {lc wc : Nat} {log : List (List Nat)} {wait : List Ltr} {lm : Nat → TextT.μ} {wm : Nat → LtrT.μ}
theorem Check_no (hok : okS ⟨ep, log, wait, nx⟩ = false) (hX : ∀ k ∈ X, k < w0.heap.size) (hL : St (LiF TextT LA lc log lm) w0 X) (hW : St (LiF LtrT WA wc wait wm) w0 X) :
    Calls Try.prog 13 #[.agg (ca [.one (.int .u64 ep), .one (.slice LA log.length lc), .one (.slice WA wait.length wc), .one (.int .i64 nx)])] w0 fun e w' => e = .returned (.int .i64 1) ∧ Sep X [] w0 w' [] [] :=
  (Check_any hX hL hW).mono fun e w' h => ⟨by rw [h.1, hok]; rfl, h.2⟩
end
set_option maxRecDepth 100000 in
set_option maxHeartbeats 4000000 in
theorem ServerDrains_any {ep nx : Int} {LA WA : Option Addr} {lc wc : Nat} {log : List (List Nat)} {wait : List Ltr} {lm : Nat → TextT.μ} {wm : Nat → LtrT.μ} {X : List Nat} {w0 : World} (hX : ∀ k ∈ X, k < w0.heap.size) (hL : St (LiF TextT LA lc log lm) w0 X) (hW : St (LiF LtrT WA wc wait wm) w0 X) :
    Calls Try.prog 6 #[.agg (ca [.one (.int .u64 ep), .one (.slice LA log.length lc), .one (.slice WA wait.length wc), .one (.int .i64 nx)])] w0 fun e w' => e = .returned (.bool true) ∧ Sep X [] w0 w' [] [] := by
  have hLb := hL.now.big
  have hWb := hW.now.big
  refine calls_env Try.ntmps6 Try.func6 rfl rfl fun a E => ?_; replace E : Env a _ [(0, _)] := E
  have H : Sep X [] w0 w0 [] [(LiF TextT LA lc log lm), (LiF LtrT WA wc wait wm)] := Sep.start hX (List.forall_mem_cons.2 ⟨hL, List.forall_mem_cons.2 ⟨hW, fun _ h => by cases h⟩⟩)
  refine wp_seq_k fun K0 hK0 => ?_; refine S_region ?_; refine S_eff E rfl (fun K hK => ?_); refine eff_box E H rfl rfl rfl ?_; clear H; intro b1 w H _; refine hK _ _ ?_; clear hK K; refine S_put E rfl rfl ?_; clear E a; intro a E; refine S_val E (pk_assign rfl rfl) rfl rfl rfl ?_; clear E a; intro a E; refine hK0 _ _ ?_; refine wp_seq_k fun K1 hK1 => ?_; refine S_region ?_; refine S_eff E rfl (fun K hK => ?_); refine eff_call E rfl rfl rfl (by kernel_rfl) ?_; refine (liveS_any H.xk).mono ?_; rintro e w ⟨rfl, H1⟩
  replace H := H.call H1
  clear H1; replace H : Sep _ _ _ _ [_] [_, _] := H; refine hK _ _ ?_; clear hK K; refine S_put E rfl rfl ?_; clear E a; intro a E; refine S_val E (pk_assign rfl rfl) rfl rfl rfl ?_; clear E a; intro a E; refine hK1 _ _ ?_; refine wp_seq_k fun K2 hK2 => ?_; refine wp_seq_k fun K3 hK3 => ?_; refine S_region ?_; refine S_val E (pk_load (n := 4) H 0 rfl rfl rfl trivial rfl (by kernel_rfl)) rfl rfl rfl ?_; clear E a; intro a E; refine S_eff E rfl (fun K hK => ?_); refine eff_call E rfl rfl rfl (by kernel_rfl) ?_; refine (RFew_any H.xk (by exact H.fact 0 rfl) (by exact H.fact 1 rfl)).mono ?_; rintro e w ⟨rfl, H1⟩
  replace H := H.call H1
  clear H1; replace H : Sep _ _ _ _ [_] [_, _] := H; refine hK _ _ ?_; clear hK K; refine S_put E rfl rfl ?_; clear E a; intro a E; refine S_val E (pk_not rfl rfl) rfl rfl rfl ?_; clear E a; intro a E; refine S_val E (pk_move rfl rfl) rfl rfl rfl ?_; clear E a; intro a E; refine env_split (d := 17) E rfl ?_ ?_
  · skip
    clear E; intro c17 E; refine S_skip E rfl rfl rfl ?_; clear E a; intro a E; refine S_skip E rfl rfl rfl ?_; clear E a; intro a E; refine S_skip E rfl rfl rfl ?_; clear E a; intro a E; refine S_skip E rfl rfl rfl ?_; clear E a; intro a E; refine S_val E (pk_pick rfl rfl rfl) rfl rfl rfl ?_; clear E a; intro a E; refine hK3 _ _ ?_; refine S_then E rfl ?_; refine wp_seq_k fun K4 hK4 => ?_; refine S_region ?_; refine S_val E (pk_move rfl rfl) rfl rfl rfl ?_; clear E a; intro a E; refine S_val E (pk_assign rfl rfl) rfl rfl rfl ?_; clear E a; intro a E; refine hK4 _ _ ?_; refine wp_ret ?_
    repeat (first | refine then_ret ?_ | refine block_ret ?_)
    refine ret1 rfl E (resT rfl) ?_
    exact ⟨rfl, H.keepLR (L := []) (R := [])⟩
  · skip
    clear E; intro c17 E; refine S_val E (pk_fieldAddr (off := 2) rfl rfl (by kernel_rfl)) rfl rfl rfl ?_; clear E a; intro a E; refine S_val E (pk_load1 H 0 rfl rfl rfl trivial rfl (by kernel_rfl)) rfl rfl rfl ?_; clear E a; intro a E; refine S_val E (pk_len rfl rfl (by kernel_rfl)) rfl rfl rfl ?_; clear E a; intro a E; refine S_val E (pk_int rfl rfl rfl rfl) rfl rfl rfl ?_; clear E a; intro a E; refine S_val E (pk_pick rfl rfl rfl) rfl rfl rfl ?_; clear E a; intro a E; refine hK3 _ _ ?_; refine env_split (d := 22) E rfl ?_ ?_
    · skip
      clear E; intro c22 E; refine S_then E rfl ?_; refine wp_seq_k fun K5 hK5 => ?_; refine S_region ?_; refine S_val E (pk_move rfl rfl) rfl rfl rfl ?_; clear E a; intro a E; refine S_val E (pk_assign rfl rfl) rfl rfl rfl ?_; clear E a; intro a E; refine hK5 _ _ ?_; refine wp_ret ?_
      repeat (first | refine then_ret ?_ | refine block_ret ?_)
      refine ret1 rfl E (resT rfl) ?_
      exact ⟨rfl, H.keepLR (L := []) (R := [])⟩
    · skip
      clear E; intro c22 E
      have q1 : wait.length ≤ 40 := by have := c22; simp only [decide_eq_false_iff_not] at this; omega
      refine S_else E rfl ?_; refine wp_skip ?_; refine hK2 _ _ ?_; refine wp_seq_k fun K6 hK6 => ?_; refine S_region ?_; refine S_val E (pk_fieldAddr (off := 2) rfl rfl (by kernel_rfl)) rfl rfl rfl ?_; clear E a; intro a E; refine S_val E (pk_load1 H 0 rfl rfl rfl trivial rfl (by kernel_rfl)) rfl rfl rfl ?_; clear E a; intro a E; refine S_val E (pk_len rfl rfl (by kernel_rfl)) rfl rfl rfl ?_; clear E a; intro a E; refine S_val E (pk_assign rfl rfl) rfl rfl rfl ?_; clear E a; intro a E; refine hK6 _ _ ?_; refine wp_seq_k fun K7 hK7 => ?_; refine S_region ?_; refine S_val E (pk_assign rfl rfl) rfl rfl rfl ?_; clear E a; intro a E; refine hK7 _ _ ?_; refine wp_seq_k fun K8 hK8 => ?_; refine wp_seq_k fun K9 hK9 => ?_; refine S_region ?_; refine S_val E (pk_move rfl rfl) rfl rfl rfl ?_; clear E a; intro a E; refine S_val E (pk_move rfl rfl) rfl rfl rfl ?_; clear E a; intro a E
      refine hK9 _ _ ?_; refine wp_block ?_; refine S_loopI (γ := Nat × Int × Srv × (Option Addr × Nat × (Nat → TextT.μ)) × (Option Addr × Nat × (Nat → LtrT.μ))) [1, 3, 27] (fun g => [(5, .int .i64 g.2.1), (28, .int .i64 (g.1 : Int))]) (fun g => [.blk b1 (ca [.one (.int .u64 g.2.2.1.ep), .one (.slice g.2.2.2.1.1 g.2.2.1.log.length g.2.2.2.1.2.1), .one (.slice g.2.2.2.2.1 g.2.2.1.wait.length g.2.2.2.2.2.1), .one (.int .i64 g.2.2.1.nx)]) 30]) (fun g => [LiF TextT g.2.2.2.1.1 g.2.2.2.1.2.1 g.2.2.1.log g.2.2.2.1.2.2, LiF LtrT g.2.2.2.2.1 g.2.2.2.2.2.1 g.2.2.1.wait g.2.2.2.2.2.2]) (fun g => g.1 + g.2.2.1.wait.length = wait.length ∧ (okS g.2.2.1 = true → ∀ y ∈ g.2.2.1.wait, g.2.1 ≤ y.no)) (fun g => wait.length - g.1) ((0, -1, ⟨ep, log, wait, nx⟩, (LA, lc, lm), (WA, wc, wm))) E H (by repeat (first | exact trivial | refine ⟨rfl, ?_⟩)) (⟨Nat.zero_add _, fun h => ok_no h⟩) ?_
      clear E H; intro g a w E H hφ; replace E : Env a _ [(5, _), (28, _), (1, _), (3, _), (27, _)] := E; replace H : Sep _ _ _ _ [_] [_, _] := H
      obtain ⟨n, last, ⟨ep1, log1, wait1, nx1⟩, ⟨LA1, lc1, lm1⟩, ⟨WA1, wc1, wm1⟩⟩ := g
      simp only at E H hφ ⊢
      refine wp_seq_k fun K10 hK10 => ?_; refine S_region ?_; refine S_val E (pk_int rfl rfl rfl rfl) rfl rfl rfl ?_; clear E a; intro a E; refine hK10 _ _ ?_; refine wp_seq_k fun K11 hK11 => ?_; refine env_split (d := 29) E rfl ?_ ?_
      · skip
        clear E; intro c29 E
        have hk : n < wait.length := by simpa using c29
        refine S_then E rfl ?_; refine wp_skip ?_; refine hK11 _ _ ?_; refine wp_seq_k fun K12 hK12 => ?_; refine wp_block ?_; refine wp_seq_k fun K13 hK13 => ?_; refine S_region ?_; refine S_val E (pk_load (n := 4) H 0 rfl rfl rfl trivial rfl (by kernel_rfl)) rfl rfl rfl ?_; clear E a; intro a E; refine S_eff E rfl (fun K hK => ?_); refine eff_call E rfl rfl rfl (by kernel_rfl) ?_; refine (First_any H.xk (by exact H.fact 0 rfl) (by exact H.fact 1 rfl)).mono ?_; rintro e w ⟨rfl, H1⟩
        replace H := H.call H1
        clear H1; replace H : Sep _ _ _ _ [_] [_, _] := H; refine hK _ _ ?_; clear hK K; refine S_put E rfl rfl ?_; clear E a; intro a E; refine S_val E (pk_move rfl rfl) rfl rfl rfl ?_; clear E a; intro a E; refine S_val E (pk_extract rfl rfl rfl) rfl rfl rfl ?_; clear E a; intro a E; refine S_val E (pk_extract rfl rfl rfl) rfl rfl rfl ?_; clear E a; intro a E; refine S_val E (pk_assign rfl rfl) rfl rfl rfl ?_; clear E a; intro a E; refine S_val E (pk_assign rfl rfl) rfl rfl rfl ?_; clear E a; intro a E; refine hK13 _ _ ?_; refine wp_seq_k fun K14 hK14 => ?_; refine wp_seq_k fun K15 hK15 => ?_; refine S_region ?_; refine S_val E (pk_move rfl rfl) rfl rfl rfl ?_; clear E a; intro a E; refine S_val E (pk_not rfl rfl) rfl rfl rfl ?_; clear E a; intro a E; refine hK15 _ _ ?_; refine env_split (d := 36) E rfl ?_ ?_
        · skip
          clear E; intro c36 E
          have hok : okS (⟨ep1, log1, wait1, nx1⟩ : Srv) = false := by
            rcases first_no (by simpa using c36) with h | h
            · exact h
            · exact absurd h (show ¬ wait1.length = 0 by omega)
          refine S_then E rfl ?_; refine wp_seq_k fun K16 hK16 => ?_; refine S_region ?_; refine S_val E (pk_move rfl rfl) rfl rfl rfl ?_; clear E a; intro a E; refine S_val E (pk_move rfl rfl) rfl rfl rfl ?_; clear E a; intro a E; refine S_val E (pk_load (n := 4) H 0 rfl rfl rfl trivial rfl (by kernel_rfl)) rfl rfl rfl ?_; clear E a; intro a E; refine S_eff E rfl (fun K hK => ?_); refine eff_call E rfl rfl rfl (by kernel_rfl) ?_; refine (Check_no hok H.xk (by exact H.fact 0 rfl) (by exact H.fact 1 rfl)).mono ?_; rintro e w ⟨rfl, H1⟩
          replace H := H.call H1
          clear H1; replace H : Sep _ _ _ _ [_] [_, _] := H; refine hK _ _ ?_; clear hK K; refine S_put E rfl rfl ?_; clear E a; intro a E; refine S_val E (pk_int (v := .bool true) rfl rfl rfl (by rfl)) rfl rfl rfl ?_; clear E a; intro a E; refine S_val E (pk_pick rfl rfl rfl) rfl rfl rfl ?_; clear E a; intro a E; refine S_val E (pk_assign rfl rfl) rfl rfl rfl ?_; clear E a; intro a E; refine hK16 _ _ ?_; refine wp_ret ?_
          repeat (first | refine then_ret ?_ | refine block_ret ?_)
          refine ret1 rfl E (resT rfl) ?_
          exact ⟨rfl, H.keepLR (L := []) (R := [])⟩
        · skip
          clear E; intro c36 E
          have hok := first_yes (s := ⟨ep1, log1, wait1, nx1⟩) (by simpa using c36)
          obtain ⟨j, hj, hf, hmin⟩ := first_spec hok.1 hok.2
          dsimp only at hj hmin
          rw [hf] at E
          dsimp only at E
          have hel : (wait1.eraseIdx j).length = wait1.length - 1 := List.length_eraseIdx_of_lt hj
          have hla : last ≤ wait1[j].no := hφ.2 hok.1 _ (List.getElem_mem hj)
          refine S_else E rfl ?_; refine wp_skip ?_; refine hK14 _ _ ?_; refine wp_seq_k fun K17 hK17 => ?_; refine S_region ?_; refine S_val E (pk_load (n := 4) H 0 rfl rfl rfl trivial rfl (by kernel_rfl)) rfl rfl rfl ?_; clear E a; intro a E; refine S_val E (pk_move rfl rfl) rfl rfl rfl ?_; clear E a; intro a E; refine S_eff E rfl (fun K hK => ?_); refine eff_call E rfl rfl rfl (by kernel_rfl) ?_; refine (Take_any (by omega) H.xk (by exact H.fact 0 rfl) (by exact H.fact 1 rfl)).mono ?_; rintro e w ⟨TA2, tc2, LA2, lc2, lm2, WA2, wc2, wm2, rfl, H1⟩
          replace H := H.call H1
          clear H1; replace H : Sep _ _ _ _ [_] [_, _, _, _, _] := H; refine hK _ _ ?_; clear hK K; refine S_put E rfl rfl ?_; clear E a; intro a E
          rw [take_at hok.1 hj] at E H
          dsimp only at E H
          refine S_val E (pk_move rfl rfl) rfl rfl rfl ?_; clear E a; intro a E; refine S_val E (pk_extract rfl rfl rfl) rfl rfl rfl ?_; clear E a; intro a E; refine S_val E (pk_extract rfl rfl rfl) rfl rfl rfl ?_; clear E a; intro a E; refine S_val E (pk_extract rfl rfl rfl) rfl rfl rfl ?_; clear E a; intro a E; refine S_eff E rfl (fun K hK => ?_); refine eff_alloc (z := [.one (.int .i64 0), .one (.int .i64 0), .one (.slice none 0 0)]) H rfl (by kernel_rfl) ?_; clear H; intro b8 w H _; refine hK _ _ ?_; clear hK K; refine S_put E rfl rfl ?_; clear E a; intro a E; refine S_eff E rfl (fun K hK => ?_); refine eff_alloc (z := [.one (.int .u64 0), .one (.slice none 0 0), .one (.slice none 0 0), .one (.int .i64 0)]) H rfl (by kernel_rfl) ?_; clear H; intro b9 w H _; refine hK _ _ ?_; clear hK K; refine S_put E rfl rfl ?_; clear E a; intro a E; refine S_eff E rfl (fun K hK => ?_)
          refine eff_store 1 E H rfl rfl rfl rfl rfl (by repeat (first | exact trivial | refine ⟨rfl, ?_⟩ | refine ⟨fun _ _ => rfl, ?_⟩)) rfl (by kernel_rfl) rfl ?_; clear H; intro w H _; replace H : Sep _ _ _ _ [_, _, _] _ := H; refine hK _ _ ?_; clear hK K; refine S_put0 rfl ?_; refine S_eff E rfl (fun K hK => ?_); refine eff_store 0 E H rfl rfl rfl rfl rfl (by repeat (first | exact trivial | refine ⟨rfl, ?_⟩ | refine ⟨fun _ _ => rfl, ?_⟩)) rfl (by kernel_rfl) rfl ?_; clear H; intro w H _; replace H : Sep _ _ _ _ [_, _, _] _ := H; refine hK _ _ ?_; clear hK K; refine S_put0 rfl ?_; refine S_val E (pk_assign rfl rfl) rfl rfl rfl ?_; clear E a; intro a E; refine hK17 _ _ ?_; refine wp_seq_k fun K18 hK18 => ?_; refine wp_seq_k fun K19 hK19 => ?_; refine S_region ?_; refine S_val E (pk_move rfl rfl) rfl rfl rfl ?_; clear E a; intro a E
          refine S_val E (pk_int (v := .bool false) rfl rfl rfl (by rfl)) rfl rfl rfl ?_; clear E a; intro a E; refine S_val E (pk_move rfl rfl) rfl rfl rfl ?_; clear E a; intro a E; refine S_val E (pk_fieldAddr (off := 0) rfl rfl (by kernel_rfl)) rfl rfl rfl ?_; clear E a; intro a E; refine S_val E (pk_load1 H 1 rfl rfl rfl trivial rfl (by kernel_rfl)) rfl rfl rfl ?_; clear E a; intro a E; refine S_val E (pk_move rfl rfl) rfl rfl rfl ?_; clear E a; intro a E; refine S_val E (pk_int rfl rfl rfl rfl) rfl rfl rfl ?_; clear E a; intro a E
          rw [show decide (wait1[j].no < last) = false from decide_eq_false (by omega)] at E
          refine S_val E (pk_pick rfl rfl rfl) rfl rfl rfl ?_; clear E a; intro a E; refine S_val E (pk_move rfl rfl) rfl rfl rfl ?_; clear E a; intro a E; refine S_val E (pk_fieldAddr (off := 2) rfl rfl (by kernel_rfl)) rfl rfl rfl ?_; clear E a; intro a E; refine S_val E (pk_load1 H 0 rfl rfl rfl trivial rfl (by kernel_rfl)) rfl rfl rfl ?_; clear E a; intro a E; refine S_val E (pk_len rfl rfl (by kernel_rfl)) rfl rfl rfl ?_; clear E a; intro a E; refine S_val E (pk_fieldAddr (off := 2) rfl rfl (by kernel_rfl)) rfl rfl rfl ?_; clear E a; intro a E; refine S_val E (pk_load1 H 2 rfl rfl rfl trivial rfl (by kernel_rfl)) rfl rfl rfl ?_; clear E a; intro a E; refine S_val E (pk_len rfl rfl (by kernel_rfl)) rfl rfl rfl ?_; clear E a; intro a E; refine S_val E (pk_intw rfl rfl rfl rfl (wI64 (by omega) (by omega))) rfl rfl rfl ?_; clear E a; intro a E
          refine S_val E (pk_int rfl rfl rfl rfl) rfl rfl rfl ?_; clear E a; intro a E
          rw [show ((((wait1.eraseIdx j).length : Nat) : Int) != ((wait1.length : Nat) : Int) - 1) = false from by rw [bne_eq_false_iff_eq]; omega] at E
          refine S_val E (pk_pick rfl rfl rfl) rfl rfl rfl ?_; clear E a; intro a E; refine hK19 _ _ ?_; refine S_else E rfl ?_; refine wp_skip ?_; refine hK18 _ _ ?_; refine wp_seq_k fun K20 hK20 => ?_; refine S_region ?_; refine S_val E (pk_fieldAddr (off := 0) rfl rfl (by kernel_rfl)) rfl rfl rfl ?_; clear E a; intro a E; refine S_val E (pk_load1 H 1 rfl rfl rfl trivial rfl (by kernel_rfl)) rfl rfl rfl ?_; clear E a; intro a E; refine S_val E (pk_assign rfl rfl) rfl rfl rfl ?_; clear E a; intro a E; refine hK20 _ _ ?_; refine S_region ?_; refine S_val E (pk_load (n := 4) H 0 rfl rfl rfl trivial rfl (by kernel_rfl)) rfl rfl rfl ?_; clear E a; intro a E; refine S_eff E rfl (fun K hK => ?_); refine eff_store 2 E H rfl rfl rfl rfl rfl (by repeat (first | exact trivial | refine ⟨rfl, ?_⟩ | refine ⟨fun _ _ => rfl, ?_⟩)) rfl (by kernel_rfl) rfl ?_; clear H; intro w H _
          replace H : Sep _ _ _ _ [_, _, _] _ := H; refine hK _ _ ?_; clear hK K; refine S_put0 rfl ?_; refine hK12 _ _ ?_; refine S_region ?_; refine S_val E (pk_intw rfl rfl rfl rfl (wI64 (by omega) (by omega))) rfl rfl rfl ?_; clear E a; intro a E; refine S_val E (pk_move rfl rfl) rfl rfl rfl ?_; clear E a; intro a E
          replace H := (H.refacts (List.forall_mem_cons.2 ⟨H.fact 1 rfl, List.forall_mem_cons.2 ⟨H.fact 2 rfl, List.forall_mem_nil _⟩⟩)).popL.popL
          refine loop_end ?_
          exact ⟨(n + 1, wait1[j].no, ⟨ep1, log1, wait1.eraseIdx j, nx1⟩, (LA2, lc2, lm2), (WA2, wc2, wm2)), ⟨E.to (by repeat (first | exact trivial | refine ⟨rfl, ?_⟩)), H, ⟨by show n + 1 + (wait1.eraseIdx j).length = wait.length; omega, fun _ y hy => hmin y (List.mem_of_mem_eraseIdx hy)⟩⟩, by show wait.length - (n + 1) < wait.length - n; omega⟩
      · skip
        clear E; intro c29 E
        have hk : ¬ n < wait.length := by simpa using c29
        refine S_else E rfl ?_; refine wp_exit ?_
        repeat (first | refine then_exit ?_ | refine block_hit ?_ | refine block_miss (by decide) ?_)
        refine hK8 _ _ ?_; refine wp_seq_k fun K21 hK21 => ?_; refine S_region ?_; refine S_val E (pk_load (n := 4) H 0 rfl rfl rfl trivial rfl (by kernel_rfl)) rfl rfl rfl ?_; clear E a; intro a E; refine S_eff E rfl (fun K hK => ?_); refine eff_call E rfl rfl rfl (by kernel_rfl) ?_; refine (First_any H.xk (by exact H.fact 0 rfl) (by exact H.fact 1 rfl)).mono ?_; rintro e w ⟨rfl, H1⟩
        replace H := H.call H1
        clear H1; replace H : Sep _ _ _ _ [_] [_, _] := H; refine hK _ _ ?_; clear hK K; refine S_put E rfl rfl ?_; clear E a; intro a E
        have hf0 : firstV (⟨ep1, log1, wait1, nx1⟩ : Srv) = (0, false) := first_nil (show wait1.length = 0 by omega)
        rw [hf0] at E
        dsimp only at E
        refine S_val E (pk_move rfl rfl) rfl rfl rfl ?_; clear E a; intro a E; refine S_val E (pk_extract rfl rfl rfl) rfl rfl rfl ?_; clear E a; intro a E; refine S_val E (pk_extract rfl rfl rfl) rfl rfl rfl ?_; clear E a; intro a E; refine S_val E (pk_assign rfl rfl) rfl rfl rfl ?_; clear E a; intro a E; refine S_val E (pk_assign rfl rfl) rfl rfl rfl ?_; clear E a; intro a E; refine hK21 _ _ ?_; refine wp_seq_k fun K22 hK22 => ?_; refine S_region ?_; refine S_val E (pk_move rfl rfl) rfl rfl rfl ?_; clear E a; intro a E; refine S_val E (pk_move rfl rfl) rfl rfl rfl ?_; clear E a; intro a E; refine S_val E (pk_move rfl rfl) rfl rfl rfl ?_; clear E a; intro a E; refine S_val E (pk_not rfl rfl) rfl rfl rfl ?_; clear E a; intro a E; refine S_val E (pk_pick rfl rfl rfl) rfl rfl rfl ?_; clear E a; intro a E; refine S_val E (pk_move rfl rfl) rfl rfl rfl ?_; clear E a; intro a E
        refine S_val E (pk_fieldAddr (off := 2) rfl rfl (by kernel_rfl)) rfl rfl rfl ?_; clear E a; intro a E; refine S_val E (pk_load1 H 0 rfl rfl rfl trivial rfl (by kernel_rfl)) rfl rfl rfl ?_; clear E a; intro a E; refine S_val E (pk_len rfl rfl (by kernel_rfl)) rfl rfl rfl ?_; clear E a; intro a E; refine S_val E (pk_int rfl rfl rfl rfl) rfl rfl rfl ?_; clear E a; intro a E
        rw [show (((wait1.length : Nat) : Int) == 0) = true from by rw [beq_iff_eq]; omega] at E
        refine S_val E (pk_pick rfl rfl rfl) rfl rfl rfl ?_; clear E a; intro a E; refine S_val E (pk_assign rfl rfl) rfl rfl rfl ?_; clear E a; intro a E; refine hK22 _ _ ?_; refine wp_ret ?_
        repeat (first | refine then_ret ?_ | refine block_ret ?_)
        refine ret1 rfl E (resT rfl) ?_
        exact ⟨rfl, H.keepLR (L := []) (R := [])⟩
end Go.Proofs.Yteefhbpmeajbfaa
namespace Go.Proofs.Yteefhbpmeajbfaa
set_option linter.unusedSimpArgs false
set_option linter.unusedVariables false
open Go.ChangeShapes Go.WideShapes Go.ChangeAt Go.RowKit

section
variable {H : Type} {enc : TypeId × Value → H} {P : Program} {w : World} {base : Nat} {spare : Nat → Bool} {held : Bool} {t e : TypeId} {v : Value} {d : DataW H} {p : List MemPlace} {r : Reach}
end
theorem wfb_u8 {n : Int} (h : (Lit.int .u8 n).wf = true) : 0 ≤ n ∧ n < 256 := by
  simp [Lit.wf, IntKind.min, IntKind.max, IntKind.signed, IntKind.bits] at h
  omega
end Go.Proofs.Yteefhbpmeajbfaa
namespace Go.Proofs.Yteefhbpmeajbfaa
set_option linter.unusedSimpArgs false
set_option linter.unusedVariables false
open Go.ChangeShapes Go.WideShapes Go.ChangeAt Go.RowKit

section
variable {H : Type} {enc : TypeId × Value → H} {P : Program} {w : World} {base : Nat} {spare : Nat → Bool} {held : Bool} {t e : TypeId} {v : Value} {fuel : Nat} {x : DataW H × List MemPlace}
/-- A text that comes in. -/
theorem open_txt (hT : ByteT P t e) (hc : P.cellsOf e = 1) (h : DataW.trod enc P w base spare held fuel t [v] = some x) :
    ∃ (A : Option Addr) (n c : Nat) (m : List Nat), v = .slice A n c ∧ n ≤ 9223372036854775807 ∧ Txt w w.heap.size A n c m ∧ ∀ y ∈ m, y < 256 := by
  rcases Go.ChangeShapes.open_ints hT.sl hT.el hc h with ⟨h1, _⟩ | ⟨a, len, cap, zs, h1, hb, hl, hm, hz, _, hcell, hwf⟩
  · exact ⟨none, 0, 0, [], by simpa using h1, by omega, Txt.nil_, by simp⟩
  · have hle : len ≤ zs.length := by rw [hz]; split <;> omega
    have hw : ∀ n ∈ zs, 0 ≤ n ∧ n < 256 := fun n hn => wfb_u8 (hwf n hn)
    have hm' : cap ≤ 9223372036854775807 := hm
    refine ⟨some a, len, cap, (zs.take len).map Int.toNat, by simpa using h1, by omega, ⟨by simp; omega, (fun he => by cases he), fun hn => ?_⟩, ?_⟩
    · refine ⟨a, rfl, ?_, fun i y hy => ?_⟩
      · have h0 := World.block_lt_of_cell? _ _ (hcell 0 (by omega))
        rwa [add_block] at h0
      · rw [List.getElem?_map, Option.map_eq_some_iff] at hy
        obtain ⟨z, hz1, rfl⟩ := hy
        have hi : i < len := by
          have := (List.getElem?_eq_some_iff.1 hz1).1
          simp at this
          omega
        rw [List.getElem?_take_of_lt hi] at hz1
        have hz2 := hw z (List.mem_of_getElem? hz1)
        rw [hcell i (by omega), List.getD_eq_getElem?_getD, hz1]
        unfold bv
        rw [Int.toNat_of_nonneg hz2.1]
        rfl
    · intro y hy
      obtain ⟨z, hz1, rfl⟩ := List.mem_map.1 hy
      have := hw z (List.mem_of_mem_take hz1)
      omega
end
end Go.Proofs.Yteefhbpmeajbfaa
namespace Go.Proofs.Yteefhbpmeajbfaa
set_option linter.unusedSimpArgs false
set_option linter.unusedVariables false
open Go.ChangeShapes Go.WideShapes Go.ChangeAt Go.RowKit

/-- No part weighs more than memory holds. -/
def Light {H : Type} (P : Program) (t : TypeId) (d : DataW H) : Prop := ∀ n ∈ d.weights P t, n ≤ reachBytes
theorem light_of {H : Type} {P : Program} {ts : List TypeId} {ds : List (DataW H)} (hz : (DataW.weightsEach P ts ds).all (· ≤ reachBytes) = true) {j : Nat} {t : TypeId} {d : DataW H} (ht : ts[j]? = some t) (hd : ds[j]? = some d) : Light P t d := fun n hn => by
  have := List.all_eq_true.1 hz n (DataW.weights_mem_each ht hd n hn)
  simpa using this
/-- What a type's data come to. -/
def Opn (P : Program) (t : TypeId) (φ : List Value → World → Prop) : Prop :=
  ∀ (H : Type) (enc : TypeId × Value → H) (w : World) (base : Nat) (spare : Nat → Bool) (held : Bool) (fuel : Nat) (x : DataW H × List MemPlace) (cs : List Value), DataW.trod enc P w base spare held fuel t cs = some x → Light P t x.1 → φ cs w
theorem Opn.imp {P : Program} {t : TypeId} {φ ψ : List Value → World → Prop} (o : Opn P t φ) (h : ∀ cs w, φ cs w → ψ cs w) : Opn P t ψ := fun H enc w base spare held fuel x cs h1 h2 => h cs w (o H enc w base spare held fuel x cs h1 h2)
theorem weights_mem_all {H : Type} {P : Program} {e : TypeId} : ∀ {ds : List (DataW H)} {d : DataW H}, d ∈ ds → ∀ n ∈ d.weights P e, n ∈ DataW.weightsAll P e ds
  | d0 :: ds, d, hd, n, hn => by
    rw [DataW.weightsAll, List.mem_append]
    rcases List.mem_cons.1 hd with rfl | hd
    · exact .inl hn
    · exact .inr (weights_mem_all hd n hn)
theorem cell_keep {w w' : World} {p : Addr} {u : Value} (hk : ∀ k, k < w.heap.size → k ∉ ([] : List Nat) → w'.heap[k]? = w.heap[k]?) (h : w.cell? p = some u) : w'.cell? p = some u := by
  rw [← h]
  have := hk _ (World.block_lt_of_cell? _ _ h) (by simp)
  unfold World.cell?
  rw [this]
section
variable {P : Program} {t e : TypeId}
theorem opn_int {k : IntKind} (ht : P.underlying t = some (.int k)) : Opn P t fun cs w => ∃ z : Int, cs = [.int k z] ∧ (Lit.int k z).wf = true := fun H enc w base spare held fuel x cs h _ => by
  obtain ⟨n, h1, _, hw⟩ := DataW.trod_int ht h
  exact ⟨n, h1, hw⟩
theorem opn_txt (hT : ByteT P t e) (hc : P.cellsOf e = 1) (hbt : P.bytesOf e = 1) : Opn P t fun cs w => ∃ A c l, cs = [.slice A l.length c] ∧ St (TxF A c l) w [] := fun H enc w base spare held fuel x cs h hl => by
  obtain ⟨v, rfl⟩ : ∃ v, cs = [v] := by
    rcases DataW.trod_slice hT.sl h with ⟨h1, _⟩ | ⟨a, len, cap, elems, rest, n, _, h1, _⟩
    · exact ⟨_, h1⟩
    · exact ⟨_, h1⟩
  obtain ⟨A, n, c, m, rfl, _, htx, hm⟩ := open_txt hT hc h
  have hn := htx.len
  subst hn
  refine ⟨A, c, m, rfl, txF_of htx ?_ ?_ hm⟩
  · rcases DataW.trod_slice hT.sl h with ⟨h1, _⟩ | ⟨a, len, cap, elems, rest, n, _, h1, _, _, h2, _⟩
    · injection h1 with h1
      injection h1 with _ h1 h3
      omega
    · injection h1 with h1
      injection h1 with _ h1 h3
      omega
  · rcases DataW.trod_slice hT.sl h with ⟨h1, _⟩ | ⟨a, len, cap, elems, rest, n, _, h1, hx, _, h2, _, hlen, _⟩
    · injection h1 with h1
      injection h1 with _ h1 h3
      omega
    · injection h1 with h1
      injection h1 with _ h1 h3
      have := hl ((elems.length + rest.length) * P.bytesOf e) (by rw [hx]; simp [DataW.weights, hT.sl])
      rw [hbt] at this
      have hr : reachBytes < 140737488355328 := by decide
      omega
/-- A struct's part. -/
theorem opn_field {fs : Array Field} {H : Type} {enc : TypeId × Value → H} {w : World} {base : Nat} {spare : Nat → Bool} {held : Bool} {fuel : Nat} {x : DataW H × List MemPlace} {cs : List Value} (ht : P.underlying t = some (.struct fs)) (h : DataW.trod enc P w base spare held fuel t cs = some x) (hl : Light P t x.1) (i : Nat) {ty off n : Nat}
    (hf : (fs[i]?).map (fun f => (f.type, f.offset)) = some (ty, off)) (hn : P.cellsOf ty = n) {φ : List Value → World → Prop} (o : Opn P ty φ) : φ ((cs.drop off).take n) w := by
  obtain ⟨xs, m, _, hx, _, hxl, hall⟩ := DataW.trod_struct ht h
  obtain ⟨f, hff, he⟩ := Option.map_eq_some_iff.1 hf
  injection he with h1 h2
  have h3 := hall i f hff
  rw [h1, h2, hn] at h3
  have hi : i < xs.length := by
    rw [hxl]
    rcases Nat.lt_or_ge i fs.size with h | h
    · exact h
    · rw [Array.getElem?_eq_none h] at hff; cases hff
  rw [List.getElem?_eq_getElem hi] at h3
  refine o H enc w base spare held m _ _ h3 fun k hk => hl k ?_
  rw [hx]
  simp only [DataW.weights, ht]
  refine DataW.weights_mem_each (j := i) (t := ty) (d := xs[i].1) ?_ ?_ k hk
  · rw [List.getElem?_map, Array.getElem?_toList, hff]; simp [h1]
  · rw [List.getElem?_map, List.getElem?_eq_getElem hi]; rfl
theorem cut_one (off n : Nat) (cs : List Value) : cs.drop off = (cs.drop off).take n ++ cs.drop (off + n) := by
  rw [← List.drop_drop, List.take_append_drop]
theorem cut_end {off : Nat} {cs : List Value} (h : cs.length = off) : cs.drop off = [] := by rw [← h]; exact List.drop_length
theorem opn_len {fs : Array Field} {H : Type} {enc : TypeId × Value → H} {w : World} {base : Nat} {spare : Nat → Bool} {held : Bool} {fuel : Nat} {x : DataW H × List MemPlace} {cs : List Value} (ht : P.underlying t = some (.struct fs)) (h : DataW.trod enc P w base spare held fuel t cs = some x) {n : Nat} (hn : P.cellsOf t = n) : cs.length = n := by
  obtain ⟨xs, m, _, _, hl, _, _⟩ := DataW.trod_struct ht h
  rw [hl, hn]
/-- A slice. -/
theorem opn_slice {α : Type} (T : Ty α) (good : α → Prop) (ht : P.underlying t = some (.slice e)) (hc : P.cellsOf e = T.sz) (o : Opn P e fun cs w => cs.length = T.sz → ∃ v m, cs = cl (T.ch v m) ∧ St (T.nest v m) w [] ∧ good v) :
    Opn P t fun cs w => ∃ A c xs m, cs = [.slice A xs.length c] ∧ St (LiF T A c xs m) w [] ∧ ∀ x ∈ xs, good x := fun H enc w base spare held fuel x cs h hl => by
  rcases DataW.trod_slice ht h with ⟨h1, _⟩ | ⟨a, len, cap, elems, rest, n, _, h1, hx, hb, h2, hm, hlen, hel, _⟩
  · exact ⟨none, 0, [], fun _ => T.dft, h1, liF_nil, fun x hx => by cases hx⟩
  · have key : ∀ i : Fin len, ∃ vm : α × T.μ, (∀ j u, (cl (T.ch vm.1 vm.2))[j]? = some u → w.cell? ((a.add (i.1 * T.sz)).add j) = some u) ∧ St (T.nest vm.1 vm.2) w [] ∧ good vm.1 := fun i => by
      have h3 := hel i.1 i.2
      rw [hc, List.getElem?_eq_getElem (by omega)] at h3
      obtain ⟨c, hcs, htr⟩ := Option.bind_eq_some_iff.1 h3
      obtain ⟨_, hcl, hcell⟩ := World.cells?_some hcs
      obtain ⟨v, m, e1, e2, e3⟩ := o H enc w base spare held n _ _ htr (fun k hk => hl k (by
        rw [hx]
        simp only [DataW.weights, ht, List.mem_cons, List.mem_append]
        exact .inr (.inl (weights_mem_all (List.mem_map.2 ⟨_, List.getElem_mem _, rfl⟩) k hk)))) hcl
      refine ⟨(v, m), fun j u hu => ?_, e2, e3⟩
      have hu' : c[j]? = some u := by rw [e1]; exact hu
      have hj : j < T.sz := by rw [← hcl]; exact (List.getElem?_eq_some_iff.1 hu').1
      rw [← hu']
      exact hcell j hj
    obtain ⟨f, hf⟩ := Classical.axiomOfChoice key
    have hm' : cap ≤ 9223372036854775807 := hm
    refine ⟨some a, cap, List.ofFn fun i => (f i).1, fun i => if h : i < len then (f ⟨i, h⟩).2 else T.dft, by rw [List.length_ofFn]; exact h1, fun w' hk => ?_, fun y hy => ?_⟩
    · refine ⟨by rw [List.length_ofFn]; exact h2, by rw [List.length_ofFn]; omega, fun h => (by cases h), fun ad hA i y hy => ?_⟩
      obtain rfl := Option.some.inj hA
      have hi : i < len := by
        have := (List.getElem?_eq_some_iff.1 hy).1
        rwa [List.length_ofFn] at this
      rw [List.getElem?_ofFn, dif_pos hi] at hy
      obtain rfl := Option.some.inj hy
      rw [dif_pos hi]
      obtain ⟨g1, g2, _⟩ := hf ⟨i, hi⟩
      exact ⟨fun j u hu => cell_keep hk (g1 j u hu), g2 w' hk⟩
    · obtain ⟨i, rfl⟩ := List.mem_ofFn.1 hy
      exact (hf i).2.2
/-- An argument. -/
theorem opn_arg {φ : List Value → World → Prop} (o : Opn P t φ) {H : Type} {enc : TypeId × Value → H} {w : World} {base : Nat} {spare : Nat → Bool} {held : Bool} {v : Value} {d : DataW H} {p : List MemPlace} (h : DataW.Trod enc P w base spare held t v d p) (hl : Light P t d) : φ v.cells.toList w := by
  obtain ⟨fuel, hf⟩ := h
  exact o H enc w base spare held fuel _ _ hf hl
theorem agg_of {cs : Array Value} {X : List Chunk} (e : (Value.agg cs).cells.toList = cl X) : cs = ca X := by
  have e' : cs.toList = cl X := e
  exact Array.ext' (by rw [e']; rfl)
end
end Go.Proofs.Yteefhbpmeajbfaa
namespace Go.Proofs.Yteefhbpmeajbfaa
set_option linter.unusedSimpArgs false
set_option linter.unusedVariables false
open Go.ChangeShapes Go.WideShapes Go.ChangeAt Go.RowKit

theorem opn_bytes : Opn Try.prog 23 fun cs w => ∃ A c l, cs = [.slice A l.length c] ∧ St (TxF A c l) w [] := opn_txt ⟨Try.underlying23, Try.underlying5, by kernel_rfl⟩ (by kernel_rfl) (by kernel_rfl)
theorem opn_texts : Opn Try.prog 22 fun cs w => ∃ A c xs m, cs = [.slice A xs.length c] ∧ St (LiF TextT A c xs m) w [] ∧ ∀ x ∈ xs, True :=
  opn_slice TextT (fun _ => True) Try.underlying22 (by kernel_rfl) (opn_bytes.imp fun cs w ⟨A, c, l, e, s⟩ _ => ⟨l, (A, c), e, s, trivial⟩)
theorem opn_ltr : Opn Try.prog 49 fun cs w => cs.length = LtrT.sz → ∃ v m, cs = cl (LtrT.ch v m) ∧ St (LtrT.nest v m) w [] ∧ True := fun H enc w base spare held fuel x cs h hl hn => by
  obtain ⟨z0, e0, _⟩ := opn_field (off := 0) (n := 1) Try.underlying49 h hl 0 rfl (by kernel_rfl) (opn_int Try.underlying3)
  have q0 := cut_one 0 1 cs
  obtain ⟨z1, e1, _⟩ := opn_field (off := 1) (n := 1) Try.underlying49 h hl 1 rfl (by kernel_rfl) (opn_int Try.underlying3)
  have q1 := cut_one 1 1 cs
  obtain ⟨A2, c2, l2, e2, s2⟩ := opn_field (off := 2) (n := 1) Try.underlying49 h hl 2 rfl (by kernel_rfl) opn_bytes
  have q2 := cut_one 2 1 cs
  have qe := cut_end (off := 3) hn
  refine ⟨⟨z0, z1, l2⟩, (A2, c2), ?_, s2, trivial⟩
  show cs.drop 0 = _
  rw [q0, e0, q1, e1, q2, e2, qe]
  rfl
theorem opn_ltrs : Opn Try.prog 28 fun cs w => ∃ A c xs m, cs = [.slice A xs.length c] ∧ St (LiF LtrT A c xs m) w [] ∧ ∀ x ∈ xs, True :=
  opn_slice LtrT (fun _ => True) Try.underlying28 (by kernel_rfl) opn_ltr
theorem opn_srv : Opn Try.prog 30 fun cs w => ∃ ep nx : Int, ∃ LA lc log lm WA wc wait wm, cs = cl [.one (.int .u64 ep), .one (.slice LA log.length lc), .one (.slice WA wait.length wc), .one (.int .i64 nx)] ∧ St (LiF TextT LA lc log lm) w [] ∧ St (LiF LtrT WA wc wait wm) w [] ∧ (Lit.int .u64 ep).wf = true ∧ (Lit.int .i64 nx).wf = true := fun H enc w base spare held fuel x cs h hl => by
  obtain ⟨ep, e0, w0⟩ := opn_field (off := 0) (n := 1) Try.underlying30 h hl 0 rfl (by kernel_rfl) (opn_int Try.underlying27)
  have q0 := cut_one 0 1 cs
  obtain ⟨LA, lc, log, lm, e1, sL, _⟩ := opn_field (off := 1) (n := 1) Try.underlying30 h hl 1 rfl (by kernel_rfl) opn_texts
  have q1 := cut_one 1 1 cs
  obtain ⟨WA, wc, wait, wm, e2, sW, _⟩ := opn_field (off := 2) (n := 1) Try.underlying30 h hl 2 rfl (by kernel_rfl) opn_ltrs
  have q2 := cut_one 2 1 cs
  obtain ⟨nx, e3, w3⟩ := opn_field (off := 3) (n := 1) Try.underlying30 h hl 3 rfl (by kernel_rfl) (opn_int Try.underlying3)
  have q3 := cut_one 3 1 cs
  have qe := cut_end (off := 4) (opn_len Try.underlying30 h (by kernel_rfl))
  refine ⟨ep, nx, LA, lc, log, lm, WA, wc, wait, wm, ?_, sL, sW, w0, w3⟩
  show cs.drop 0 = _
  rw [q0, e0, q1, e1, q2, e2, q3, e3, qe]
  rfl
end Go.Proofs.Yteefhbpmeajbfaa
