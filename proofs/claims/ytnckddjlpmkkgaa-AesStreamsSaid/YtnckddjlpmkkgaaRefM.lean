/- The walks of the reference for layer 4: the columns mixed. -/
import Derived.Test.YtnckddjlpmkkgaaRefW
namespace Go.Proofs.Ytnckddjlpmkkgaa
set_option linter.unusedSimpArgs false
set_option linter.unusedVariables false
open Go.RowKit
attribute [local irreducible] sboxI mulN

def bmixI (s : Nat → Int) (q : Nat) : Int := mixI s (q / 4) (q % 4)
set_option maxHeartbeats 1000000 in
theorem mixed_any (s : Nat → Int) (hs : ∀ i, i < 16 → 0 ≤ s i ∧ s i < 256) (w : World) :
    Calls Try.prog 28 #[.agg (arr .u8 16 s)] w fun e w' => e = .returned (.agg (arr .u8 16 (bmixI s))) ∧ Below w.heap.size w w' := by
  go_enter Try.func28, Try.ntmps28
  go_wp2_with (refine wpList_alloc_arr rfl rfl ZTBlock ?_)
  obtain ⟨h0, h1, h2, hsz, hb⟩ := alloc3 w (.cells (arr .u8 16 s) 23) (.cells (arr .u8 16 fun _ => 0) 23) (.cells (arr .u8 16 fun _ => 0) 23)
  have hs' := Lib.hid hs
  clear hs
  go_loopg [6] 4 (fun n i wr => ∃ m : Nat, m + n = 4 ∧ i = .int .i64 m ∧ wr.heap[w.heap.size]? = some (.cells (arr .u8 16 s) 23 (0, 0)) ∧
    wr.heap[w.heap.size + 1]? = some (.cells (arr .u8 16 fun _ => 0) 23 (0, 0)) ∧ wr.heap[w.heap.size + 1 + 1]? = some (.cells (arr .u8 16 fun i => if i < 4 * m then bmixI s i else 0) 23 (0, 0)) ∧ Below w.heap.size w wr)
  case atStart => exact ⟨0, rfl, rfl, h0, h1, blk_congr h2 (fun i _ => (if_neg (by omega)).symm), hb⟩
  case round =>
    obtain ⟨m, hm, rfl, g0, g1, g2, hB⟩ := hrel
    obtain ⟨go1, rfl⟩ : ∃ x, x = gk := ⟨_, rfl⟩
    have hm' := Lib.hid hm
    clear h0 h1 h2 hsz hb hm
    by_cases hlt : m < 4
    · go_upto_region 5 with (fail)
      (try simp only [Act.put, List.setIfInBounds_toArray, List.set_cons_zero, List.set_cons_succ])
      rw [show decide ((m : Int) < 4) = true from decide_eq_true (by omega)]
      go_wp2
      go_loopg [9] 4 (fun n i wr => ∃ r : Nat, r + n = 4 ∧ i = .int .i64 r ∧ wr.heap[w.heap.size]? = some (.cells (arr .u8 16 s) 23 (0, 0)) ∧
        wr.heap[w.heap.size + 1]? = some (.cells (arr .u8 16 fun _ => 0) 23 (0, 0)) ∧ wr.heap[w.heap.size + 1 + 1]? = some (.cells (arr .u8 16 fun i => if i < 4 * m + r then bmixI s i else 0) 23 (0, 0)) ∧ Below w.heap.size w wr)
      case atStart => exact ⟨0, rfl, rfl, g0, g1, g2, hB⟩
      case round =>
        clear g0 g1 g2 hB
        obtain ⟨r, hr, rfl, g0, g1, g2, hB⟩ := hrel
        have hr' := Lib.hid hr
        clear hr
        by_cases hlr : r < 4
        · have hsb := hs'.out (4 * m + r % 4) (by omega)
          have hsc := hs'.out (4 * m + (r + 1) % 4) (by omega)
          have hl0 := lt_of_block g0
          have hl1 := lt_of_block g1
          have hl2 := lt_of_block g2
          go_upto_region 8 with (fail)
          (try simp only [Act.put, List.setIfInBounds_toArray, List.set_cons_zero, List.set_cons_succ])
          refine wp_region_can wr.heap.size 29 [(0, false), (1, false), (2, false), (3, false), (4, false), (5, false), (6, false), (9, false), (10, false), (11, false), (12, false), (16, false), (17, false), (18, false), (19, false), (22, false), (23, false), (24, false), (25, false), (7, true), (8, true), (13, true), (14, true), (15, false), (20, true), (21, false), (26, true), (27, false), (28, false)] (by kernel_rfl) (by kernel_rfl) ?_
          (simp only [canOps, List.getElem?_cons_zero, List.getElem?_cons_succ, List.drop_succ_cons, List.drop_zero])
          iterate 4 (first | (refine wpCan_move rfl rfl (fun _ _ _ _ h => h) ?_; (simp only [Act.put, Act.eval, Array.getD_eq_getD_getElem?, List.getElem?_toArray, List.getElem?_cons_zero, List.getElem?_cons_succ, Option.getD_some, List.setIfInBounds_toArray, List.set_cons_zero, List.set_cons_succ])) | (refine wpCan_assign rfl rfl (fun _ _ _ _ h => h) ?_; (simp only [Act.put, Act.eval, Array.getD_eq_getD_getElem?, List.getElem?_toArray, List.getElem?_cons_zero, List.getElem?_cons_succ, Option.getD_some, List.setIfInBounds_toArray, List.set_cons_zero, List.set_cons_succ])) | (refine wpCan_nilCheck rfl rfl rfl (fun _ _ _ _ h => h) ?_; (simp only [Act.put, List.setIfInBounds_toArray, List.set_cons_zero, List.set_cons_succ])) | (refine wpCan_q rfl rfl (fun _ _ _ _ h => h) (by first | exact .bin rfl rfl rfl | exact .indexAddr rfl | exact .un rfl | exact .extract rfl | exact .index rfl | exact .field rfl | exact .slice rfl) (fun K hK => ?_); go_simp; (try (simp only [↓IntWalk.iteOmega]; go_simp)); (try go_bits); refine hK _ ?_; clear hK K))
          refine wpCan_load_arr rfl rfl rfl (fun _ _ _ _ h => h) RTBlock hl0 g0 ?_
          (try simp only [Act.put, List.setIfInBounds_toArray, List.set_cons_zero, List.set_cons_succ])
          iterate 2 (first | (refine wpCan_move rfl rfl (fun _ _ _ _ h => h) ?_; (simp only [Act.put, Act.eval, Array.getD_eq_getD_getElem?, List.getElem?_toArray, List.getElem?_cons_zero, List.getElem?_cons_succ, Option.getD_some, List.setIfInBounds_toArray, List.set_cons_zero, List.set_cons_succ])) | (refine wpCan_assign rfl rfl (fun _ _ _ _ h => h) ?_; (simp only [Act.put, Act.eval, Array.getD_eq_getD_getElem?, List.getElem?_toArray, List.getElem?_cons_zero, List.getElem?_cons_succ, Option.getD_some, List.setIfInBounds_toArray, List.set_cons_zero, List.set_cons_succ])) | (refine wpCan_nilCheck rfl rfl rfl (fun _ _ _ _ h => h) ?_; (simp only [Act.put, List.setIfInBounds_toArray, List.set_cons_zero, List.set_cons_succ])) | (refine wpCan_q rfl rfl (fun _ _ _ _ h => h) (by first | exact .bin rfl rfl rfl | exact .indexAddr rfl | exact .un rfl | exact .extract rfl | exact .index rfl | exact .field rfl | exact .slice rfl) (fun K hK => ?_); go_simp; (try (simp only [↓IntWalk.iteOmega]; go_simp)); (try go_bits); refine hK _ ?_; clear hK K))
          refine wpCan_load_arr rfl rfl rfl (fun _ _ _ _ h => h) RTBlock hl0 g0 ?_
          (try simp only [Act.put, List.setIfInBounds_toArray, List.set_cons_zero, List.set_cons_succ])
          iterate 3 (first | (refine wpCan_move rfl rfl (fun _ _ _ _ h => h) ?_; (simp only [Act.put, Act.eval, Array.getD_eq_getD_getElem?, List.getElem?_toArray, List.getElem?_cons_zero, List.getElem?_cons_succ, Option.getD_some, List.setIfInBounds_toArray, List.set_cons_zero, List.set_cons_succ])) | (refine wpCan_assign rfl rfl (fun _ _ _ _ h => h) ?_; (simp only [Act.put, Act.eval, Array.getD_eq_getD_getElem?, List.getElem?_toArray, List.getElem?_cons_zero, List.getElem?_cons_succ, Option.getD_some, List.setIfInBounds_toArray, List.set_cons_zero, List.set_cons_succ])) | (refine wpCan_nilCheck rfl rfl rfl (fun _ _ _ _ h => h) ?_; (simp only [Act.put, List.setIfInBounds_toArray, List.set_cons_zero, List.set_cons_succ])) | (refine wpCan_q rfl rfl (fun _ _ _ _ h => h) (by first | exact .bin rfl rfl rfl | exact .indexAddr rfl | exact .un rfl | exact .extract rfl | exact .index rfl | exact .field rfl | exact .slice rfl) (fun K hK => ?_); go_simp; (try (simp only [↓IntWalk.iteOmega]; go_simp)); (try go_bits); refine hK _ ?_; clear hK K))
          refine wpCan_load_arr rfl rfl rfl (fun _ _ _ _ h => h) RTBlock hl0 g0 ?_
          (try simp only [Act.put, List.setIfInBounds_toArray, List.set_cons_zero, List.set_cons_succ])
          iterate 3 (first | (refine wpCan_move rfl rfl (fun _ _ _ _ h => h) ?_; (simp only [Act.put, Act.eval, Array.getD_eq_getD_getElem?, List.getElem?_toArray, List.getElem?_cons_zero, List.getElem?_cons_succ, Option.getD_some, List.setIfInBounds_toArray, List.set_cons_zero, List.set_cons_succ])) | (refine wpCan_assign rfl rfl (fun _ _ _ _ h => h) ?_; (simp only [Act.put, Act.eval, Array.getD_eq_getD_getElem?, List.getElem?_toArray, List.getElem?_cons_zero, List.getElem?_cons_succ, Option.getD_some, List.setIfInBounds_toArray, List.set_cons_zero, List.set_cons_succ])) | (refine wpCan_nilCheck rfl rfl rfl (fun _ _ _ _ h => h) ?_; (simp only [Act.put, List.setIfInBounds_toArray, List.set_cons_zero, List.set_cons_succ])) | (refine wpCan_q rfl rfl (fun _ _ _ _ h => h) (by first | exact .bin rfl rfl rfl | exact .indexAddr rfl | exact .un rfl | exact .extract rfl | exact .index rfl | exact .field rfl | exact .slice rfl) (fun K hK => ?_); go_simp; (try (simp only [↓IntWalk.iteOmega]; go_simp)); (try go_bits); refine hK _ ?_; clear hK K))
          refine wpCan_load_arr rfl rfl rfl (fun _ _ _ _ h => h) RTBlock hl0 g0 ?_
          (try simp only [Act.put, List.setIfInBounds_toArray, List.set_cons_zero, List.set_cons_succ])
          iterate 3 (first | (refine wpCan_move rfl rfl (fun _ _ _ _ h => h) ?_; (simp only [Act.put, Act.eval, Array.getD_eq_getD_getElem?, List.getElem?_toArray, List.getElem?_cons_zero, List.getElem?_cons_succ, Option.getD_some, List.setIfInBounds_toArray, List.set_cons_zero, List.set_cons_succ])) | (refine wpCan_assign rfl rfl (fun _ _ _ _ h => h) ?_; (simp only [Act.put, Act.eval, Array.getD_eq_getD_getElem?, List.getElem?_toArray, List.getElem?_cons_zero, List.getElem?_cons_succ, Option.getD_some, List.setIfInBounds_toArray, List.set_cons_zero, List.set_cons_succ])) | (refine wpCan_nilCheck rfl rfl rfl (fun _ _ _ _ h => h) ?_; (simp only [Act.put, List.setIfInBounds_toArray, List.set_cons_zero, List.set_cons_succ])) | (refine wpCan_q rfl rfl (fun _ _ _ _ h => h) (by first | exact .bin rfl rfl rfl | exact .indexAddr rfl | exact .un rfl | exact .extract rfl | exact .index rfl | exact .field rfl | exact .slice rfl) (fun K hK => ?_); go_simp; (try (simp only [↓IntWalk.iteOmega]; go_simp)); (try go_bits); refine hK _ ?_; clear hK K))
          refine wpCan_e rfl (fun K hK => ?_)
          go_simp
          refine (at_any s m r hlt (by omega) _).mono ?_
          rintro e w4 ⟨rfl, b4⟩
          refine hK _ _ (Keep.of_below b4 (Nat.le_refl _)) ?_
          clear hK K
          (try simp only [Act.put, List.setIfInBounds_toArray, List.set_cons_zero, List.set_cons_succ])
          refine wpCan_e rfl (fun K hK => ?_)
          go_simp
          refine (Mul_two' _ hsb _).mono ?_
          rintro e w5 ⟨rfl, rfl⟩
          refine hK _ _ (Keep.refl _ _) ?_
          clear hK K
          (try simp only [Act.put, List.setIfInBounds_toArray, List.set_cons_zero, List.set_cons_succ])
          refine wpCan_e rfl (fun K hK => ?_)
          go_simp
          refine (at_any s m (r + 1) hlt (by omega) _).mono ?_
          rintro e w6 ⟨rfl, b6⟩
          refine hK _ _ (Keep.of_below b6 b4.size) ?_
          clear hK K
          (try simp only [Act.put, List.setIfInBounds_toArray, List.set_cons_zero, List.set_cons_succ])
          refine wpCan_e rfl (fun K hK => ?_)
          go_simp
          refine (Mul_three _ hsc _).mono ?_
          rintro e w7 ⟨rfl, rfl⟩
          refine hK _ _ (Keep.refl _ _) ?_
          clear hK K
          (try simp only [Act.put, List.setIfInBounds_toArray, List.set_cons_zero, List.set_cons_succ])
          (first | (refine wpCan_move rfl rfl (fun _ _ _ _ h => h) ?_; (simp only [Act.put, Act.eval, Array.getD_eq_getD_getElem?, List.getElem?_toArray, List.getElem?_cons_zero, List.getElem?_cons_succ, Option.getD_some, List.setIfInBounds_toArray, List.set_cons_zero, List.set_cons_succ])) | (refine wpCan_assign rfl rfl (fun _ _ _ _ h => h) ?_; (simp only [Act.put, Act.eval, Array.getD_eq_getD_getElem?, List.getElem?_toArray, List.getElem?_cons_zero, List.getElem?_cons_succ, Option.getD_some, List.setIfInBounds_toArray, List.set_cons_zero, List.set_cons_succ])) | (refine wpCan_nilCheck rfl rfl rfl (fun _ _ _ _ h => h) ?_; (simp only [Act.put, List.setIfInBounds_toArray, List.set_cons_zero, List.set_cons_succ])) | (refine wpCan_q rfl rfl (fun _ _ _ _ h => h) (by first | exact .bin rfl rfl rfl | exact .indexAddr rfl | exact .un rfl | exact .extract rfl | exact .index rfl | exact .field rfl | exact .slice rfl) (fun K hK => ?_); go_simp; (try (simp only [↓IntWalk.iteOmega]; go_simp)); (try go_bits); refine hK _ ?_; clear hK K))
          refine wpCan_e rfl (fun K hK => ?_)
          go_simp
          refine (at_any s m (r + 2) hlt (by omega) _).mono ?_
          rintro e w8 ⟨rfl, b8w⟩
          refine hK _ _ (Keep.of_below b8w (Nat.le_trans b4.size b6.size)) ?_
          clear hK K
          (try simp only [Act.put, List.setIfInBounds_toArray, List.set_cons_zero, List.set_cons_succ])
          (first | (refine wpCan_move rfl rfl (fun _ _ _ _ h => h) ?_; (simp only [Act.put, Act.eval, Array.getD_eq_getD_getElem?, List.getElem?_toArray, List.getElem?_cons_zero, List.getElem?_cons_succ, Option.getD_some, List.setIfInBounds_toArray, List.set_cons_zero, List.set_cons_succ])) | (refine wpCan_assign rfl rfl (fun _ _ _ _ h => h) ?_; (simp only [Act.put, Act.eval, Array.getD_eq_getD_getElem?, List.getElem?_toArray, List.getElem?_cons_zero, List.getElem?_cons_succ, Option.getD_some, List.setIfInBounds_toArray, List.set_cons_zero, List.set_cons_succ])) | (refine wpCan_nilCheck rfl rfl rfl (fun _ _ _ _ h => h) ?_; (simp only [Act.put, List.setIfInBounds_toArray, List.set_cons_zero, List.set_cons_succ])) | (refine wpCan_q rfl rfl (fun _ _ _ _ h => h) (by first | exact .bin rfl rfl rfl | exact .indexAddr rfl | exact .un rfl | exact .extract rfl | exact .index rfl | exact .field rfl | exact .slice rfl) (fun K hK => ?_); go_simp; (try (simp only [↓IntWalk.iteOmega]; go_simp)); (try go_bits); refine hK _ ?_; clear hK K))
          refine wpCan_e rfl (fun K hK => ?_)
          go_simp
          refine (at_any s m (r + 3) hlt (by omega) _).mono ?_
          rintro e w9 ⟨rfl, b9⟩
          refine hK _ _ (Keep.of_below b9 (Nat.le_trans b4.size (Nat.le_trans b6.size b8w.size))) ?_
          clear hK K
          (try simp only [Act.put, List.setIfInBounds_toArray, List.set_cons_zero, List.set_cons_succ])
          iterate 2 (first | (refine wpCan_move rfl rfl (fun _ _ _ _ h => h) ?_; (simp only [Act.put, Act.eval, Array.getD_eq_getD_getElem?, List.getElem?_toArray, List.getElem?_cons_zero, List.getElem?_cons_succ, Option.getD_some, List.setIfInBounds_toArray, List.set_cons_zero, List.set_cons_succ])) | (refine wpCan_assign rfl rfl (fun _ _ _ _ h => h) ?_; (simp only [Act.put, Act.eval, Array.getD_eq_getD_getElem?, List.getElem?_toArray, List.getElem?_cons_zero, List.getElem?_cons_succ, Option.getD_some, List.setIfInBounds_toArray, List.set_cons_zero, List.set_cons_succ])) | (refine wpCan_nilCheck rfl rfl rfl (fun _ _ _ _ h => h) ?_; (simp only [Act.put, List.setIfInBounds_toArray, List.set_cons_zero, List.set_cons_succ])) | (refine wpCan_q rfl rfl (fun _ _ _ _ h => h) (by first | exact .bin rfl rfl rfl | exact .indexAddr rfl | exact .un rfl | exact .extract rfl | exact .index rfl | exact .field rfl | exact .slice rfl) (fun K hK => ?_); go_simp; (try (simp only [↓IntWalk.iteOmega]; go_simp)); (try go_bits); refine hK _ ?_; clear hK K))
          refine wpCan_nil ?_
          have b5 := b4.trans (b6.mono b4.size)
          have b7 := b5.trans (b8w.mono b5.size)
          have b10 := b7.trans (b9.mono b7.size)
          have e0 := keep_below (w := wr.drew) b10 hl0 g0
          have e1 := keep_below (w := wr.drew) b10 hl1 g1
          have e2 := keep_below (w := wr.drew) b10 hl2 g2
          have hBq := hB.drew.trans (b10.mono hB.size)
          clear b4 b5 b6 b7 b8w b9 b10 g0 g1 g2 hB hsb hsc hl0 hl1 hl2
          have c2 := cell_arr e2 (4 * m + r) (by omega)
          have fz := free_arr e2 (4 * m + r)
          simp only [Nat.lt_irrefl, if_false] at c2
          go_wp2
          go_roundg (gk - 1)
          case measure => have := hr'.out; omega
          case rel =>
            have hr'' := hr'.out
            refine ⟨r + 1, by omega, by go_num, keep_arr e0 _ _ (by omega), keep_arr e1 _ _ (by omega), blk_congr (set_arr e2 _ _) (fun i _ => ?_), hBq.setCell (by show w.heap.size ≤ w.heap.size + 1 + 1; omega) _⟩
            have := fill_zero (bmixI s) (4 * m + r) i
            rw [show bmixI s (4 * m + r) = mixI s m r from by unfold bmixI; rw [show (4 * m + r) / 4 = m from by omega, show (4 * m + r) % 4 = r from by omega]] at this
            exact this
        · obtain rfl : r = 4 := by have := hr'.out; omega
          go_wp2
          go_roundg (go1 - 1)
          case measure => have := hm'.out; omega
          case rel =>
            have hm'' := hm'.out
            exact ⟨m + 1, by omega, by go_num, g0, g1, blk_congr g2 (fun i _ => by rw [show 4 * (m + 1) = 4 * m + 4 from by omega]), hB⟩
    · obtain rfl : m = 4 := by have := hm'.out; omega
      have g2' := blk_congr (f' := bmixI s) g2 (fun i hi => if_pos (by omega))
      clear g2
      go_wp2_with (first | (refine wpList_load_arr rfl rfl rfl RTBlock g2' ?_) | (refine wpList_store_arr rfl rfl rfl rfl RTBlock g1 ?_))
      exact bodyPost_ret (results_arr rfl rfl RTBlock (row_self g1)) rfl ⟨rfl, row_below hB (by omega) _⟩
end Go.Proofs.Ytnckddjlpmkkgaa
