/- The walks of layer 6: a number clamped, by the program and by the reference. -/
import Derived.Test.YthgjhipfgdlbnaaLadF
import Derived.Test.YthgjhipfgdlbnaaFeT
namespace Go.Proofs.Ythgjhipfgdlbnaa
set_option linter.unusedSimpArgs false
set_option linter.unusedVariables false
open Go.RowKit
attribute [local irreducible] accN byteN prodN carN diffN sqN sumN difN oneF valN bytesN invN ofN

theorem clamp_lt {k : Nat → Nat} (hk : ∀ i, i < 32 → k i < 256) (i : Nat) (hi : i < 32) : clampN k i < 256 := by
  have := hk i hi
  have := hk 0 (by omega)
  unfold clampN
  split
  · omega
  · split
    · omega
    · omega
def half (k : Nat → Nat) (i : Nat) : Nat := if i = 0 then k 0 / 8 * 8 else k i
theorem off7 (x : Nat) (h : x < 256) : bits .andNot .u8 (x : Int) 7 = ((x / 8 * 8 : Nat) : Int) := by
  have : ∀ x : Nat, x < 256 → bits .andNot .u8 (x : Int) 7 = ((x / 8 * 8 : Nat) : Int) := by decide +kernel
  exact this x h
theorem on64 (x : Nat) (h : x < 256) : bits .or .u8 ((x : Int) % 64) 64 = ((x % 64 + 64 : Nat) : Int) := by
  have : ∀ x : Nat, x < 256 → bits .or .u8 ((x : Int) % 64) 64 = ((x % 64 + 64 : Nat) : Int) := by decide +kernel
  exact this x h

set_option maxRecDepth 100000 in
set_option maxHeartbeats 1000000 in
theorem Clamp_any (k : Nat → Nat) (hk : ∀ i, i < 32 → k i < 256) (w : World) :
    Calls Try.prog 9 #[.agg (arr .u8 32 fun i => ((k i : Nat) : Int))] w fun e w' => e = .returned (.agg (arr .u8 32 fun i => ((clampN k i : Nat) : Int))) ∧ Below w.heap.size w w' := by
  obtain ⟨x, hx⟩ : ∃ x, k 0 = x := ⟨_, rfl⟩
  obtain ⟨y, hy⟩ : ∃ x, k 31 = x := ⟨_, rfl⟩
  have lx : x < 256 := hx ▸ hk 0 (by omega)
  have ly : y < 256 := hy ▸ hk 31 (by omega)
  have o7 := Lib.hid (off7 x lx)
  have o64 := Lib.hid (on64 y ly)
  clear hk
  go_enter Try.func9, Try.ntmps9
  obtain ⟨h0, h1, hsz, hb⟩ := alloc2 w (.cells (arr .u8 32 fun i => ((k i : Nat) : Int)) 23) (.cells (arr .u8 32 fun _ => 0) 23)
  go_upto_region 1 with (refine wpList_alloc_arr rfl rfl ZTKey ?_)
  generalize (w.alloc (.cells (arr .u8 32 fun i => ((k i : Nat) : Int)) 23)).alloc (.cells (arr .u8 32 fun _ => 0) 23) = wa at *
  (try simp only [Act.put, List.setIfInBounds_toArray, List.set_cons_zero, List.set_cons_succ])
  simp only [World.size_alloc]
  clear hsz
  have c0 : wa.cell? ⟨w.heap.size, 0, none⟩ = some (.int .u8 (x : Int)) := by rw [cell_arr h0 0 (by omega), hx]
  have f0 := free_arr h0
  go_upto_region 2 with (fail)
  simp only [o7.out]
  have h0' := set_arr h0 0 ((x / 8 * 8 : Nat) : Int)
  have h1' := keep_arr (C := w.heap.size) h1 0 (.int .u8 ((x / 8 * 8 : Nat) : Int)) (by omega)
  have hb' := hb.setCell (p := ⟨w.heap.size, 0, none⟩) (Nat.le_refl _) (.int .u8 ((x / 8 * 8 : Nat) : Int))
  clear c0 f0 h0 h1 hb
  generalize wa.setCell ⟨w.heap.size, 0, none⟩ (.int .u8 ((x / 8 * 8 : Nat) : Int)) = wb at *
  have c1 : wb.cell? ⟨w.heap.size, 31, none⟩ = some (.int .u8 (y : Int)) := by rw [cell_arr h0' 31 (by omega)]; unfold upd; rw [if_neg (by omega)]; dsimp only; rw [hy]
  have f1 := free_arr h0'
  go_upto_region 3 with (fail)
  simp only [o64.out]
  have h0 := set_arr h0' 31 ((y % 64 + 64 : Nat) : Int)
  have h1 := keep_arr (C := w.heap.size) h1' 31 (.int .u8 ((y % 64 + 64 : Nat) : Int)) (by omega)
  have hb := hb'.setCell (p := ⟨w.heap.size, 31, none⟩) (Nat.le_refl _) (.int .u8 ((y % 64 + 64 : Nat) : Int))
  clear c1 f1 h0' h1' hb'
  generalize wb.setCell ⟨w.heap.size, 31, none⟩ (.int .u8 ((y % 64 + 64 : Nat) : Int)) = wc at *
  replace h0 := blk_congr (f' := fun i => ((clampN k i : Nat) : Int)) h0 (fun i hi => by
    unfold upd clampN
    dsimp only
    rw [hx, hy]
    by_cases e1 : i = 31
    · rw [if_pos e1, if_neg (by omega), if_pos e1]
    · rw [if_neg e1]
      by_cases e2 : i = 0
      · rw [if_pos e2, if_pos e2]
      · rw [if_neg e2, if_neg e2, if_neg e1])
  go_wp2_with (first | (refine wpList_load_arr rfl rfl rfl RTKey h0 ?_) | (refine wpList_store_arr rfl rfl rfl rfl RTKey h1 ?_))
  exact bodyPost_ret (results_arr rfl rfl RTKey (row_self h1)) rfl ⟨rfl, row_below hb (by omega) _⟩

set_option maxRecDepth 100000 in
set_option maxHeartbeats 1000000 in
theorem RClamp_any (k : Nat → Nat) (hk : ∀ i, i < 32 → k i < 256) (w : World) :
    Calls Try.prog 10 #[.agg (arr .u8 32 fun i => ((k i : Nat) : Int))] w fun e w' => e = .returned (.agg (arr .u8 32 fun i => ((clampN k i : Nat) : Int))) ∧ Below w.heap.size w w' := by
  obtain ⟨x, hx⟩ : ∃ x, k 0 = x := ⟨_, rfl⟩
  obtain ⟨y, hy⟩ : ∃ x, k 31 = x := ⟨_, rfl⟩
  have lx : x < 256 := hx ▸ hk 0 (by omega)
  have ly : y < 256 := hy ▸ hk 31 (by omega)
  have o7 := Lib.hid (off7 x lx)
  have o64 := Lib.hid (on64 y ly)
  clear hk
  go_enter Try.func10, Try.ntmps10
  obtain ⟨h0, h1, hsz, hb⟩ := alloc2 w (.cells (arr .u8 32 fun i => ((k i : Nat) : Int)) 23) (.cells (arr .u8 32 fun _ => 0) 23)
  go_upto_region 1 with (refine wpList_alloc_arr rfl rfl ZTKey ?_)
  generalize (w.alloc (.cells (arr .u8 32 fun i => ((k i : Nat) : Int)) 23)).alloc (.cells (arr .u8 32 fun _ => 0) 23) = wa at *
  (try simp only [Act.put, List.setIfInBounds_toArray, List.set_cons_zero, List.set_cons_succ])
  simp only [World.size_alloc]
  clear hsz
  have c0 : wa.cell? ⟨w.heap.size, 0, none⟩ = some (.int .u8 (x : Int)) := by rw [cell_arr h0 0 (by omega), hx]
  have f0 := free_arr h0
  go_upto_region 2 with (fail)
  simp only [show ((x : Int) / 8 * 8) = ((x / 8 * 8 : Nat) : Int) from by omega]
  have h0' := set_arr h0 0 ((x / 8 * 8 : Nat) : Int)
  have h1' := keep_arr (C := w.heap.size) h1 0 (.int .u8 ((x / 8 * 8 : Nat) : Int)) (by omega)
  have hb' := hb.setCell (p := ⟨w.heap.size, 0, none⟩) (Nat.le_refl _) (.int .u8 ((x / 8 * 8 : Nat) : Int))
  clear c0 f0 h0 h1 hb
  generalize wa.setCell ⟨w.heap.size, 0, none⟩ (.int .u8 ((x / 8 * 8 : Nat) : Int)) = wb at *
  have c1 : wb.cell? ⟨w.heap.size, 31, none⟩ = some (.int .u8 (y : Int)) := by rw [cell_arr h0' 31 (by omega)]; unfold upd; rw [if_neg (by omega)]; dsimp only; rw [hy]
  have f1 := free_arr h0'
  go_upto_region 3 with (fail)
  simp only [show ((y : Int) % 64 + 64) = ((y % 64 + 64 : Nat) : Int) from by omega]
  have h0 := set_arr h0' 31 ((y % 64 + 64 : Nat) : Int)
  have h1 := keep_arr (C := w.heap.size) h1' 31 (.int .u8 ((y % 64 + 64 : Nat) : Int)) (by omega)
  have hb := hb'.setCell (p := ⟨w.heap.size, 31, none⟩) (Nat.le_refl _) (.int .u8 ((y % 64 + 64 : Nat) : Int))
  clear c1 f1 h0' h1' hb'
  generalize wb.setCell ⟨w.heap.size, 31, none⟩ (.int .u8 ((y % 64 + 64 : Nat) : Int)) = wc at *
  replace h0 := blk_congr (f' := fun i => ((clampN k i : Nat) : Int)) h0 (fun i hi => by
    unfold upd clampN
    dsimp only
    rw [hx, hy]
    by_cases e1 : i = 31
    · rw [if_pos e1, if_neg (by omega), if_pos e1]
    · rw [if_neg e1]
      by_cases e2 : i = 0
      · rw [if_pos e2, if_pos e2]
      · rw [if_neg e2, if_neg e2, if_neg e1])
  go_wp2_with (first | (refine wpList_load_arr rfl rfl rfl RTKey h0 ?_) | (refine wpList_store_arr rfl rfl rfl rfl RTKey h1 ?_))
  exact bodyPost_ret (results_arr rfl rfl RTKey (row_self h1)) rfl ⟨rfl, row_below hb (by omega) _⟩
end Go.Proofs.Ythgjhipfgdlbnaa
