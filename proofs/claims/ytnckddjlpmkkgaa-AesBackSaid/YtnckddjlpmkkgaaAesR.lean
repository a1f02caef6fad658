/- The walks of layer 4: a block's rounds. -/
import Derived.Test.YtnckddjlpmkkgaaAesK
import Derived.Test.YtnckddjlpmkkgaaAesP
import Derived.Test.YtnckddjlpmkkgaaNew
namespace Go.Proofs.Ytnckddjlpmkkgaa
set_option linter.unusedSimpArgs false
set_option linter.unusedVariables false
open Go.RowKit
attribute [local irreducible] sboxI

theorem RTCol : RowT Try.prog 54 4 := ⟨_, Try.underlying54, rfl, by kernel_rfl⟩
theorem ZTCol : ZeroT Try.prog 54 .u8 4 := by unfold ZeroT; kernel_rfl

set_option maxHeartbeats 1000000 in
theorem add_any (f g : Nat → Int) (w : World) :
    Calls Try.prog 32 #[.agg (arr .u8 16 f), .agg (arr .u8 16 g)] w fun e w' => e = .returned (.agg (arr .u8 16 (xorI f g))) ∧ Below w.heap.size w w' := by
  go_enter Try.func32, Try.ntmps32
  go_wp2_with (refine wpList_alloc_arr rfl rfl ZTBlock ?_)
  obtain ⟨h0, h1, h2, hsz, hb⟩ := alloc3 w (.cells (arr .u8 16 f) 23) (.cells (arr .u8 16 g) 23) (.cells (arr .u8 16 fun _ => 0) 23)
  go_loopg [6] 16 (fun n i wr => ∃ m : Nat, m + n = 16 ∧ i = .int .i64 m ∧ wr.heap[w.heap.size]? = some (.cells (arr .u8 16 fun i => if i < m then xorI f g i else f i) 23 (0, 0)) ∧
    wr.heap[w.heap.size + 1]? = some (.cells (arr .u8 16 g) 23 (0, 0)) ∧ wr.heap[w.heap.size + 1 + 1]? = some (.cells (arr .u8 16 fun _ => 0) 23 (0, 0)) ∧ Below w.heap.size w wr)
  case atStart => exact ⟨0, rfl, rfl, by simpa using h0, h1, h2, hb⟩
  case round =>
    obtain ⟨m, hm, rfl, g0, g1, g2, hB⟩ := hrel
    have hm' := Lib.hid hm
    clear h0 h1 h2 hsz hb hm
    by_cases hlt : m < 16
    · have c0 := cell_arr g0 m hlt
      have c1 := cell_arr g1 m hlt
      have fz := free_arr g0 m
      simp only [Nat.lt_irrefl, if_false] at c0
      go_wp2
      refine wp_region_tail 8 (by kernel_rfl) (by kernel_rfl) ?_
      (simp only [List.take_succ_cons, List.take_zero, List.drop_succ_cons, List.drop_zero])
      repeat (refine wpStill_step (fun K hK => ?_); go_simp; (try (simp only [↓IntWalk.iteOmega]; go_simp)); (try go_bits); refine hK _ ?_; clear hK K)
      refine wpStill_nil ?_
      go_wp2
      go_roundg (gk - 1)
      case measure => have := hm'.out; omega
      case rel =>
        have hm'' := hm'.out
        exact ⟨m + 1, by omega, by go_num, blk_congr (set_arr g0 m _) (fun i _ => fill_step f (xorI f g) m i), keep_arr g1 _ _ (by omega), keep_arr g2 _ _ (by omega), (hB.setCell (Nat.le_refl _) _).drew⟩
    · obtain rfl : m = 16 := by have := hm'.out; omega
      have g0' := blk_congr (f' := xorI f g) g0 (fun i hi => if_pos hi)
      clear g0
      go_wp2_with (first | (refine wpList_load_arr rfl rfl rfl RTBlock g0' ?_) | (refine wpList_store_arr rfl rfl rfl rfl RTBlock g2 ?_))
      exact bodyPost_ret (results_arr rfl rfl RTBlock (row_self g2)) rfl ⟨rfl, row_below hB (by omega) _⟩

set_option maxHeartbeats 1000000 in
theorem column_any (x : Nat → Int) (w : World) :
    Calls Try.prog 35 #[.agg (arr .u8 4 x)] w fun e w' => e = .returned (.agg (arr .u8 4 (colI x))) ∧ Below w.heap.size w w' := by
  go_enter Try.func35, Try.ntmps35
  obtain ⟨h0, h1, hsz, hb⟩ := alloc2 w (.cells (arr .u8 4 x) 54) (.cells (arr .u8 4 fun _ => 0) 54)
  have c0 := cell_arr h0 0 (by omega)
  have c1 := cell_arr h0 1 (by omega)
  have c2 := cell_arr h0 2 (by omega)
  have c3 := cell_arr h0 3 (by omega)
  go_wp2_with (refine wpList_alloc_arr rfl rfl ZTCol ?_)
  clear c0 c1 c2 c3
  go_loopg [16] 4 (fun n i wr => ∃ m : Nat, m + n = 4 ∧ i = .int .i64 m ∧ wr.heap[w.heap.size]? = some (.cells (arr .u8 4 x) 54 (0, 0)) ∧
    wr.heap[w.heap.size + 1]? = some (.cells (arr .u8 4 fun i => if i < m then colI x i else 0) 54 (0, 0)) ∧ Below w.heap.size w wr)
  case atStart => exact ⟨0, rfl, rfl, h0, by simpa using h1, hb⟩
  case round =>
    obtain ⟨m, hm, rfl, g0, g1, hB⟩ := hrel
    have hm' := Lib.hid hm
    clear h0 h1 hsz hb hm
    have hl0 := lt_of_block g0
    have hl1 := lt_of_block g1
    by_cases hlt : m < 4
    · have c0 := cell_arr g0 m hlt
      have c1 := cell_arr g0 ((m + 1) % 4) (by omega)
      have c2 := cell_arr g1 m hlt
      have fz := free_arr g1 m
      have tb := bits_u8 .xor (x m) (x ((m + 1) % 4))
      go_wp2
      refine wp_region_can wr.heap.size 18 [(0, false), (1, false), (2, false), (3, false), (4, false), (5, false), (6, false), (7, false), (8, false), (9, false), (10, false), (11, false), (12, false), (13, false), (14, false), (15, true), (16, false), (17, false)] (by kernel_rfl) (by kernel_rfl) ?_
      (simp only [canOps, List.getElem?_cons_zero, List.getElem?_cons_succ, List.drop_succ_cons, List.drop_zero])
      iterate 15 (first | (refine wpCan_move rfl rfl (fun _ _ _ _ h => h) ?_; (simp only [Act.put, Act.eval, Array.getD_eq_getD_getElem?, List.getElem?_toArray, List.getElem?_cons_zero, List.getElem?_cons_succ, Option.getD_some, List.setIfInBounds_toArray, List.set_cons_zero, List.set_cons_succ])) | (refine wpCan_assign rfl rfl (fun _ _ _ _ h => h) ?_; (simp only [Act.put, Act.eval, Array.getD_eq_getD_getElem?, List.getElem?_toArray, List.getElem?_cons_zero, List.getElem?_cons_succ, Option.getD_some, List.setIfInBounds_toArray, List.set_cons_zero, List.set_cons_succ])) | (refine wpCan_nilCheck rfl rfl rfl (fun _ _ _ _ h => h) ?_; (simp only [Act.put, List.setIfInBounds_toArray, List.set_cons_zero, List.set_cons_succ])) | (refine wpCan_q rfl rfl (fun _ _ _ _ h => h) (by first | exact .bin rfl rfl rfl | exact .indexAddr rfl | exact .un rfl | exact .extract rfl | exact .index rfl | exact .field rfl | exact .slice rfl | exact .load rfl rfl hl0 g0) (fun K hK => ?_); go_simp; (try (simp only [↓IntWalk.iteOmega]; go_simp)); (try go_bits); refine hK _ ?_; clear hK K))
      refine wpCan_e rfl (fun K hK => ?_)
      go_simp
      refine (twice_any _ (by omega) (by omega) _).mono ?_
      rintro e w9 ⟨rfl, rfl⟩
      refine hK _ _ (Keep.refl _ _) ?_
      clear hK K
      (try simp only [Act.put, List.setIfInBounds_toArray, List.set_cons_zero, List.set_cons_succ])
      iterate 2 (first | (refine wpCan_move rfl rfl (fun _ _ _ _ h => h) ?_; (simp only [Act.put, Act.eval, Array.getD_eq_getD_getElem?, List.getElem?_toArray, List.getElem?_cons_zero, List.getElem?_cons_succ, Option.getD_some, List.setIfInBounds_toArray, List.set_cons_zero, List.set_cons_succ])) | (refine wpCan_assign rfl rfl (fun _ _ _ _ h => h) ?_; (simp only [Act.put, Act.eval, Array.getD_eq_getD_getElem?, List.getElem?_toArray, List.getElem?_cons_zero, List.getElem?_cons_succ, Option.getD_some, List.setIfInBounds_toArray, List.set_cons_zero, List.set_cons_succ])) | (refine wpCan_nilCheck rfl rfl rfl (fun _ _ _ _ h => h) ?_; (simp only [Act.put, List.setIfInBounds_toArray, List.set_cons_zero, List.set_cons_succ])) | (refine wpCan_q rfl rfl (fun _ _ _ _ h => h) (by first | exact .bin rfl rfl rfl | exact .indexAddr rfl | exact .un rfl | exact .extract rfl | exact .index rfl | exact .field rfl | exact .slice rfl) (fun K hK => ?_); go_simp; (try (simp only [↓IntWalk.iteOmega]; go_simp)); (try go_bits); refine hK _ ?_; clear hK K))
      refine wpCan_nil ?_
      go_wp2
      go_roundg (gk - 1)
      case measure => have := hm'.out; omega
      case rel =>
        have hm'' := hm'.out
        exact ⟨m + 1, by omega, by go_num, keep_arr g0 _ _ (by omega), blk_congr (set_arr g1 m _) (fun i _ => fill_zero (colI x) m i), (hB.setCell (Nat.le_add_right _ _) _).drew⟩
    · obtain rfl : m = 4 := by have := hm'.out; omega
      have g1' := blk_congr (f' := colI x) g1 (fun i hi => if_pos hi)
      clear g1
      go_wp2_with (first | (refine wpList_load_arr rfl rfl rfl RTCol g1' ?_) | (refine wpList_store_arr rfl rfl rfl rfl RTCol g1' ?_))
      exact bodyPost_ret (results_arr rfl rfl RTCol (row_self g1')) rfl ⟨rfl, row_below hB (by omega) _⟩
end Go.Proofs.Ytnckddjlpmkkgaa
