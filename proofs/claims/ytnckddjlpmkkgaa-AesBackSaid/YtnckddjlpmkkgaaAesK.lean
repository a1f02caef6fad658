/- The walks of layer 4: Box, Keys, and the law's beginning. -/
import Derived.Test.YtnckddjlpmkkgaaAesX
namespace Go.Proofs.Ytnckddjlpmkkgaa
set_option linter.unusedSimpArgs false
set_option linter.unusedVariables false
open Go.RowKit
attribute [local irreducible] sboxI

theorem RTKeys : RowT Try.prog 25 176 := ⟨_, Try.underlying25, rfl, by kernel_rfl⟩
theorem ZTKeys : ZeroT Try.prog 25 .u8 176 := by unfold ZeroT; kernel_rfl

set_option maxHeartbeats 400000 in
theorem Box_any (x : Int) (h0 : 0 ≤ x) (h1 : x < 256) (w : World) :
    Calls Try.prog 11 #[.int .u8 x] w fun e w' => e = .returned (.int .u8 (sboxI x.toNat)) ∧ Below w.heap.size w w' := by
  go_enter Try.func11, Try.ntmps11
  go_wp2_with fail
  refine (boxes_any _).mono ?_
  rintro e w1 ⟨rfl, hb1⟩
  have gB := row_self (w := w1.alloc _) (c' := arr .u8 256 sboxI) (heap_alloc_new w1 (.cells (arr .u8 256 fun _ => 0) 47))
  have c0 := cell_arr gB x.toNat (by omega)
  go_wp2_with (first | (refine wpList_alloc_arr rfl rfl ZTBoxes ?_) | (refine wpList_store_arr rfl rfl rfl rfl RTBoxes (heap_alloc_new _ _) ?_))
  go_ret
  exact ⟨rfl, row_below (hb1.alloc hb1.size _) hb1.size _⟩

set_option maxHeartbeats 400000 in
theorem Keys_any (k : Nat → Int) (hk : ∀ i, i < 16 → 0 ≤ k i ∧ k i < 256) (w : World) :
    Calls Try.prog 10 #[.agg (arr .u8 16 k)] w fun e w' => e = .returned (.agg (arr .u8 176 fun i => keyK k (i / 16) (i % 16))) ∧ Below w.heap.size w w' := by
  go_enter Try.func10, Try.ntmps10
  have g0 := heap_alloc2_old w (.cells (arr .u8 16 k) 23) (.cells (arr .u8 176 fun _ => 0) 25)
  have g1 := heap_alloc2_new w (.cells (arr .u8 16 k) 23) (.cells (arr .u8 176 fun _ => 0) 25)
  have hb := (alloc2 w (.cells (arr .u8 16 k) 23) (.cells (arr .u8 176 fun _ => 0) 25)).2.2.2
  go_wp2_with (first | (refine wpList_alloc_arr rfl rfl ZTKeys ?_) | (refine wpList_load_arr rfl rfl rfl RTBlock (by assumption) ?_) | (go_at_call 22; fail))
  refine (of_any k hk _).mono ?_
  rintro e w1 ⟨C, rfl, hC, gC, hb1⟩
  have g1' := (hb1.block _ (by simp)).trans g1
  have hb' := hb.trans (hb1.mono (by simp; omega))
  simp only [World.size_alloc] at hC
  go_wp2_with (first | (refine wpList_load_sub rfl rfl rfl RTKeys gC (by omega) ?_) | (refine wpList_store_arr rfl rfl rfl rfl RTKeys g1' ?_))
  refine bodyPost_ret (results_arr rfl rfl RTKeys (row_self g1')) rfl ⟨?_, row_below hb' (by omega) _⟩
  rw [arr_ext fun i hi => ?_]
  exact cipK_key' k 10 i (by omega)

set_option maxHeartbeats 400000 in
theorem live_any (w : World) :
    Calls Try.prog 9 #[] w fun e w' => e = .returned (.bool true) ∧ Below w.heap.size w w' := by
  go_enter Try.func9, Try.ntmps9
  go_wp2_with fail
  refine (Box_any _ (by omega) (by omega) _).mono ?_
  rintro e w1 ⟨rfl, hb1⟩
  have e0 : sboxI (0 : Int).toNat = 99 := by kernel_rfl
  rw [e0]
  go_wp2_with fail
  refine (Box_any _ (by omega) (by omega) _).mono ?_
  rintro e w2 ⟨rfl, hb2⟩
  have e1 : sboxI (83 : Int).toNat = 237 := by kernel_rfl
  rw [e1]
  go_wp2
  go_ret
  exact ⟨rfl, hb1.trans (hb2.mono hb1.size)⟩

end Go.Proofs.Ytnckddjlpmkkgaa
