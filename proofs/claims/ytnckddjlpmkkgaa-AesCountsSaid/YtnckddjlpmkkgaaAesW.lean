/- The walks of layer 4: what each function of package aes gives. -/
import Derived.Test.YtnckddjlpmkkgaaRows
import Derived.Test.YtnckddjlpmkkgaaAesG
import Derived.Test.YtnckddjlpmkkgaaCan
import Derived.Deep.LoopGhost
import Derived.Outline
namespace Go.Proofs.Ytnckddjlpmkkgaa
set_option linter.unusedSimpArgs false
set_option linter.unusedVariables false
open Go.RowKit

attribute [local irreducible] sboxI

theorem RTBlock : RowT Try.prog 23 16 := ⟨_, Try.underlying23, rfl, by kernel_rfl⟩
theorem RTBoxes : RowT Try.prog 47 256 := ⟨_, Try.underlying47, rfl, by kernel_rfl⟩

theorem ZTBoxes : ZeroT Try.prog 47 .u8 256 := by unfold ZeroT; kernel_rfl
set_option maxHeartbeats 400000 in
theorem twice_any (x : Int) (h0 : 0 ≤ x) (h1 : x < 256) (w : World) :
    Calls Try.prog 29 #[.int .u8 x] w fun e w' => e = .returned (.int .u8 (twiceI x)) ∧ w = w' := by
  go_enter Try.func29, Try.ntmps29
  go_wp2
  go_ret
  exact ⟨rfl, rfl⟩

set_option maxHeartbeats 400000 in
theorem turn_nat (x : Int) (n : Nat) (h8 : n ≤ 8) (w : World) :
    Calls Try.prog 31 #[.int .u8 x, .int .i64 n] w fun e w' => e = .returned (.int .u8 (turnI x n)) ∧ ∃ m, w' = w.drewN m := by
  go_enter Try.func31, Try.ntmps31
  go_wp2
  go_quiet (fail)
  go_wp2
  go_ret
  exact ⟨rfl, _, rfl⟩
theorem turn_any (x n : Int) (h0 : 0 ≤ n) (h8 : n ≤ 8) (w : World) :
    Calls Try.prog 31 #[.int .u8 x, .int .i64 n] w fun e w' => e = .returned (.int .u8 (turnI x n.toNat)) ∧ ∃ m, w' = w.drewN m := by
  obtain ⟨k, rfl⟩ := Int.eq_ofNat_of_zero_le h0
  exact turn_nat x k (by omega) w

set_option maxHeartbeats 400000 in
theorem step_any (p q : Int) (h0 : 0 ≤ p) (h1 : p < 256) (h2 : 0 ≤ q) (h3 : q < 256) (w : World) :
    Calls Try.prog 30 #[.int .u8 p, .int .u8 q] w fun e w' => e = .returned (.tuple #[.int .u8 (stepP p), .int .u8 (stepQ q)]) ∧ w = w' := by
  go_enter Try.func30, Try.ntmps30
  go_wp2_with (go_at_call 29; refine (twice_any _ (by omega) (by omega) _).mono ?_; rintro e w' ⟨rfl, rfl⟩)
  go_ret2
  exact ⟨rfl, rfl⟩

set_option maxHeartbeats 1000000 in
theorem boxes_any (w : World) :
    Calls Try.prog 23 #[] w fun e w' => e = .returned (.agg (arr .u8 256 sboxI)) ∧ Below w.heap.size w w' := by
  go_enter Try.func23, Try.ntmps23
  go_wp2_with (refine wpList_alloc_arr rfl rfl ZTBoxes ?_)
  obtain ⟨h0, -, hb⟩ := alloc1 w (.cells (arr .u8 256 fun _ => 0) 47)
  revert h0 hb
  generalize w.alloc (.cells (arr .u8 256 fun _ => 0) 47) = w0
  intro h0 hb
  go_loopg [2, 3, 4] 255 (fun k p q m wr => ∃ r : Nat, r + k = 255 ∧ p = .int .u8 (threesL.getD r 0) ∧ q = .int .u8 (invL.getD r 0) ∧ m = .bool (decide (r < 255)) ∧
      wr.heap[w.heap.size]? = some (.cells (arr .u8 256 (boxK r)) 47 (0, 0)) ∧ Below w.heap.size w wr ∧ 0 ≤ threesL.getD r 0 ∧ threesL.getD r 0 < 256 ∧ 0 ≤ invL.getD r 0 ∧ invL.getD r 0 < 256)
  case atStart =>
    exact ⟨0, by omega, rfl, rfl, rfl, blk_congr h0 (fun i _ => (boxK_zero i).symm), hb, by decide, by decide, by decide, by decide⟩
  case round =>
    obtain ⟨r, hr, rfl, rfl, rfl, g0, hB, a1, a2, a3, a4⟩ := hrel
    clear h0 hb
    by_cases hlt : r < 255
    · have hs := Lib.hid (threes_step r hlt)
      have hk := Lib.hid (boxK_step r hlt)
      have hd : decide (r < 255) = true := by simpa using hlt
      rw [hd]
      have b1 := hs.out.2.2.2.1
      have b2 := hs.out.2.2.2.2.1
      have b3 := hs.out.2.2.2.2.2.1
      have b4 := hs.out.2.2.2.2.2.2.1
      rw [← hs.out.1] at b1 b2
      rw [← hs.out.2.1] at b3 b4
      have hr' := Lib.hid hr
      clear hr hd
      generalize hP : threesL.getD r 0 = p at *
      generalize hQ : invL.getD r 0 = q at *
      have hP' := Lib.hid hP
      have hQ' := Lib.hid hQ
      clear hP hQ
      have c0 := cell_arr g0 (stepP p).toNat (by omega)
      have fz := free_arr g0 (stepP p).toNat
      go_wp2_with (first | (go_at_call 30; (with_reducible refine (step_any _ _ (by omega) (by omega) (by omega) (by omega) _).mono ?_); rintro e w' ⟨rfl, rfl⟩) | (go_at_call 31; (with_reducible refine (turn_any _ _ (by omega) (by omega) _).mono ?_); rintro e w' ⟨rfl, m1, rfl⟩))
      have hs' := hs.out
      have e3 := hs'.2.2.1
      have e8 := hs'.2.2.2.2.2.2.2
      have hr'' := hr'.out
      have hk' := hk.out
      rw [← e3, ← hs'.1, ← hs'.2.1] at hk'
      go_roundg (gk - 1)
      case measure => omega
      case rel =>
        refine ⟨r + 1, by omega, by rw [← hs'.1], by rw [← hs'.2.1], by rw [← e8, ← hs'.1], blk_congr (set_arr g0 (stepP p).toNat _) (fun i _ => ?_), (below_drewN hB _).setCell (Nat.le_refl _) _, by rw [← hs'.1]; exact Int.le_of_lt b1, by rw [← hs'.1]; exact b2, by rw [← hs'.2.1]; exact b3, by rw [← hs'.2.1]; exact b4⟩
        rw [← hk' i]; rfl
    · have h255 : r = 255 := by omega
      subst h255
      have c0 := cell_arr g0 0 (by omega)
      have fz := free_arr g0 0
      have g1 := blk_congr (set_arr g0 0 99) (fun i hi => boxK_all i hi)
      clear g0
      go_wp2_with (first | (refine wpList_load_arr rfl rfl rfl RTBoxes (by assumption) ?_) | (refine wpList_store_arr rfl rfl rfl rfl RTBoxes (by assumption) ?_))
      exact bodyPost_ret (results_arr rfl rfl RTBoxes (row_self g1)) rfl ⟨rfl, row_below (hB.setCell (Nat.le_refl _) _) (by omega) _⟩
theorem FTCipher0 : FieldT Try.prog 49 0 := ⟨_, _, 255, Try.underlying49, rfl, by kernel_rfl⟩
theorem FTCipher1 : FieldT Try.prog 49 1 := ⟨_, _, 175, Try.underlying49, rfl, by kernel_rfl⟩
theorem RTCipher : RowT Try.prog 49 432 := ⟨_, Try.underlying49, rfl, by kernel_rfl⟩
theorem ZTBlock : ZeroT Try.prog 23 .u8 16 := by unfold ZeroT; kernel_rfl
theorem built_cipher : Try.prog.built 49 [(0, .agg (arr .u8 256 sboxI))] = some (arr .u8 432 fun i => if i < 256 then sboxI i else 0) := by kernel_rfl

end Go.Proofs.Ytnckddjlpmkkgaa
