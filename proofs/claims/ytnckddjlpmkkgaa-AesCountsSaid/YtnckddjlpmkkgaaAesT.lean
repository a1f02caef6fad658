/- The walks of layer 4: a block encrypted. -/
import Derived.Test.YtnckddjlpmkkgaaAesS
namespace Go.Proofs.Ytnckddjlpmkkgaa
set_option linter.unusedSimpArgs false
set_option linter.unusedVariables false
open Go.RowKit
attribute [local irreducible] sboxI

theorem cipK_at (k : Nat → Int) (j i : Nat) (hj : j ≤ 10) (hi : i < 16) : cipK k 10 (256 + j * 16 + i) = keyK k j i := by
  rw [Nat.mul_comm]; exact cipK_key k 10 j i hj hi

set_option maxRecDepth 100000 in
set_option maxHeartbeats 1000000 in
theorem encrypt_any (k s : Nat → Int) (C : Nat) (hs : ∀ i, i < 16 → 0 ≤ s i ∧ s i < 256) (w : World) (hC : w.heap[C]? = some (.cells (arr .u8 432 (cipK k 10)) 49 (0, 0))) :
    Calls Try.prog 24 #[.pointer (some ⟨C, 0, none⟩), .agg (arr .u8 16 s)] w fun e w' => e = .returned (.agg (arr .u8 16 (encI k s))) ∧ Below w.heap.size w w' := by
  go_enter Try.func24, Try.ntmps24
  obtain ⟨h0, h1, hsz, hb⟩ := alloc2 w (.cells (arr .u8 16 s) 23) (.cells (arr .u8 16 fun _ => 0) 23)
  have hCl := lt_of_block hC
  have hC1 := keep_below hb hCl hC
  clear hC
  go_wp2_with (refine wpList_alloc_arr rfl rfl ZTBlock ?_)
  refine wp_cut (fun w' => w'.heap[w.heap.size]? = some (.cells (arr .u8 16 s) 23 (0, 0)) ∧ w'.heap[w.heap.size + 1]? = some (.cells (arr .u8 16 fun _ => 0) 23 (0, 0)) ∧ w'.heap[C]? = some (.cells (arr .u8 432 (cipK k 10)) 49 (0, 0)) ∧ Below w.heap.size w w') ⟨h0, h1, hC1, hb⟩ ?_
  clear h0 h1 hsz hb hC1
  rintro w1 ⟨h0, h1, hC1, hb⟩
  have hl0 := lt_of_block h0
  have hl1 := lt_of_block h1
  have hlC := lt_of_block hC1
  refine wp_region_can w1.heap.size 7 [(0, false), (1, false), (2, false), (3, false), (4, false), (5, false), (6, true)] (by kernel_rfl) (by kernel_rfl) ?_
  (simp only [canOps, List.getElem?_cons_zero, List.getElem?_cons_succ, List.drop_succ_cons, List.drop_zero])
  refine wpCan_load_arr rfl rfl rfl (fun _ _ _ _ h => h) RTBlock hl0 h0 ?_
  (try simp only [Act.put, List.setIfInBounds_toArray, List.set_cons_zero, List.set_cons_succ])
  iterate 4 (first | (refine wpCan_move rfl rfl (fun _ _ _ _ h => h) ?_; (simp only [Act.put, Act.eval, Array.getD_eq_getD_getElem?, List.getElem?_toArray, List.getElem?_cons_zero, List.getElem?_cons_succ, Option.getD_some, List.setIfInBounds_toArray, List.set_cons_zero, List.set_cons_succ])) | (refine wpCan_assign rfl rfl (fun _ _ _ _ h => h) ?_; (simp only [Act.put, Act.eval, Array.getD_eq_getD_getElem?, List.getElem?_toArray, List.getElem?_cons_zero, List.getElem?_cons_succ, Option.getD_some, List.setIfInBounds_toArray, List.set_cons_zero, List.set_cons_succ])) | (refine wpCan_nilCheck rfl rfl rfl (fun _ _ _ _ h => h) ?_; (simp only [Act.put, List.setIfInBounds_toArray, List.set_cons_zero, List.set_cons_succ])) | (refine wpCan_q rfl rfl (fun _ _ _ _ h => h) (by first | exact .bin rfl rfl rfl | exact .indexAddr rfl | exact .un rfl | exact .extract rfl | exact .index rfl | exact .field rfl | exact .slice rfl | exact .fieldT rfl FTCipher1) (fun K hK => ?_); go_simp; (try (simp only [↓IntWalk.iteOmega]; go_simp)); (try go_bits); refine hK _ ?_; clear hK K))
  refine wpCan_load_as (off := 256 + 0 * 16) (keyK k 0) rfl rfl rfl (fun _ _ _ _ h => h) RTBlock hlC hC1 (by omega) (fun i hi => cipK_at k 0 i (by omega) hi) ?_
  (try simp only [Act.put, List.setIfInBounds_toArray, List.set_cons_zero, List.set_cons_succ])
  refine wpCan_e rfl (fun K hK => ?_)
  go_simp
  refine (add_any _ _ _).mono ?_
  rintro e w2 ⟨rfl, b2⟩
  refine hK _ _ (Keep.of_below b2 (Nat.le_refl _)) ?_
  clear hK K
  (try simp only [Act.put, List.setIfInBounds_toArray, List.set_cons_zero, List.set_cons_succ])
  refine wpCan_nil ?_
  have e0 := keep_below (w := w1.drew) b2 hl0 h0
  have e1 := row_keep (w := w2) (c' := arr .u8 16 (xorI s (keyK k 0))) (g := w.heap.size) (keep_below (w := w1.drew) b2 hl1 h1) (by omega)
  have eC := row_keep (w := w2) (c' := arr .u8 16 (xorI s (keyK k 0))) (g := w.heap.size) (keep_below (w := w1.drew) b2 hlC hC1) (by omega)
  have e2 := row_self (w := w2) (c' := arr .u8 16 (xorI s (keyK k 0))) e0
  have eB := row_below (hb.drew.trans (b2.mono hb.size)) (g := w.heap.size) (Nat.le_refl _) (arr .u8 16 (xorI s (keyK k 0)))
  go_wp2_with (refine wpList_store_arr rfl rfl rfl rfl RTBlock e0 ?_)
  clear h0 h1 hC1 hb hl0 hl1 hlC b2 e0
  go_loopg [5] 10 (fun n i wr => ∃ j : Nat, j + n = 10 ∧ i = .int .i64 ((j : Int) + 1) ∧ wr.heap[w.heap.size]? = some (.cells (arr .u8 16 (encJ k s j)) 23 (0, 0)) ∧ wr.heap[w.heap.size + 1]? = some (.cells (arr .u8 16 fun _ => 0) 23 (0, 0)) ∧
      wr.heap[C]? = some (.cells (arr .u8 432 (cipK k 10)) 49 (0, 0)) ∧ Below w.heap.size w wr)
  case atStart => exact ⟨0, rfl, rfl, e2, e1, eC, eB⟩
  case round =>
    clear e1 e2 eC eB
    obtain ⟨j, hj, rfl, g0, g1, gC, hB⟩ := hrel
    have hj' := Lib.hid hj
    clear hj
    have hl0 := lt_of_block g0
    have hl1 := lt_of_block g1
    have hlC := lt_of_block gC
    by_cases hlt : j < 10
    · go_upto_region 5 with (fail)
      (try simp only [Act.put, List.setIfInBounds_toArray, List.set_cons_zero, List.set_cons_succ])
      rw [show decide ((j : Int) + 1 ≤ 10) = true from decide_eq_true (by omega)]
      refine wp_region_can wr.heap.size 12 [(0, false), (1, false), (2, false), (3, false), (5, false), (6, false), (7, false), (8, false), (9, false), (10, false), (4, true), (11, true)] (by kernel_rfl) (by kernel_rfl) ?_
      (simp only [canOps, List.getElem?_cons_zero, List.getElem?_cons_succ, List.drop_succ_cons, List.drop_zero])
      (first | (refine wpCan_move rfl rfl (fun _ _ _ _ h => h) ?_; (simp only [Act.put, Act.eval, Array.getD_eq_getD_getElem?, List.getElem?_toArray, List.getElem?_cons_zero, List.getElem?_cons_succ, Option.getD_some, List.setIfInBounds_toArray, List.set_cons_zero, List.set_cons_succ])) | (refine wpCan_assign rfl rfl (fun _ _ _ _ h => h) ?_; (simp only [Act.put, Act.eval, Array.getD_eq_getD_getElem?, List.getElem?_toArray, List.getElem?_cons_zero, List.getElem?_cons_succ, Option.getD_some, List.setIfInBounds_toArray, List.set_cons_zero, List.set_cons_succ])) | (refine wpCan_nilCheck rfl rfl rfl (fun _ _ _ _ h => h) ?_; (simp only [Act.put, List.setIfInBounds_toArray, List.set_cons_zero, List.set_cons_succ])) | (refine wpCan_q rfl rfl (fun _ _ _ _ h => h) (by first | exact .bin rfl rfl rfl | exact .indexAddr rfl | exact .un rfl | exact .extract rfl | exact .index rfl | exact .field rfl | exact .slice rfl) (fun K hK => ?_); go_simp; (try (simp only [↓IntWalk.iteOmega]; go_simp)); (try go_bits); refine hK _ ?_; clear hK K))
      refine wpCan_load_arr rfl rfl rfl (fun _ _ _ _ h => h) RTBlock hl0 g0 ?_
      (try simp only [Act.put, List.setIfInBounds_toArray, List.set_cons_zero, List.set_cons_succ])
      iterate 7 (first | (refine wpCan_move rfl rfl (fun _ _ _ _ h => h) ?_; (simp only [Act.put, Act.eval, Array.getD_eq_getD_getElem?, List.getElem?_toArray, List.getElem?_cons_zero, List.getElem?_cons_succ, Option.getD_some, List.setIfInBounds_toArray, List.set_cons_zero, List.set_cons_succ])) | (refine wpCan_assign rfl rfl (fun _ _ _ _ h => h) ?_; (simp only [Act.put, Act.eval, Array.getD_eq_getD_getElem?, List.getElem?_toArray, List.getElem?_cons_zero, List.getElem?_cons_succ, Option.getD_some, List.setIfInBounds_toArray, List.set_cons_zero, List.set_cons_succ])) | (refine wpCan_nilCheck rfl rfl rfl (fun _ _ _ _ h => h) ?_; (simp only [Act.put, List.setIfInBounds_toArray, List.set_cons_zero, List.set_cons_succ])) | (refine wpCan_q rfl rfl (fun _ _ _ _ h => h) (by first | exact .bin rfl rfl rfl | exact .indexAddr rfl | exact .un rfl | exact .extract rfl | exact .index rfl | exact .field rfl | exact .slice rfl | exact .fieldT rfl FTCipher1) (fun K hK => ?_); go_simp; (try (simp only [↓IntWalk.iteOmega]; go_simp)); (try go_bits); refine hK _ ?_; clear hK K))
      refine wpCan_load_as (off := 256 + (j + 1) * 16) (keyK k (j + 1)) rfl rfl rfl (fun _ _ _ _ h => h) RTBlock hlC gC (by omega) (fun i hi => cipK_at k (j + 1) i (by omega) hi) ?_
      (try simp only [Act.put, List.setIfInBounds_toArray, List.set_cons_zero, List.set_cons_succ])
      refine wpCan_e rfl (fun K hK => ?_)
      go_simp
      refine (round_any k (encJ k s j) (fun i _ => encJ_byte k s j i) _ C _ (by exact gC)).mono ?_
      rintro e w4 ⟨rfl, b4⟩
      refine hK _ _ (Keep.of_below b4 (Nat.le_refl _)) ?_
      clear hK K
      (try simp only [Act.put, List.setIfInBounds_toArray, List.set_cons_zero, List.set_cons_succ])
      refine wpCan_e rfl (fun K hK => ?_)
      go_simp
      refine (add_any _ _ _).mono ?_
      rintro e w5 ⟨rfl, b5⟩
      refine hK _ _ (Keep.of_below b5 b4.size) ?_
      clear hK K
      (try simp only [Act.put, List.setIfInBounds_toArray, List.set_cons_zero, List.set_cons_succ])
      refine wpCan_nil ?_
      have b6 := b4.trans (b5.mono b4.size)
      have q0 := keep_below (w := wr.drew) b6 hl0 g0
      have q1 := keep_below (w := wr.drew) b6 hl1 g1
      have qC := keep_below (w := wr.drew) b6 hlC gC
      have hBq := hB.drew.trans (b6.mono hB.size)
      clear b4 b5 b6 g0 g1 gC hB
      go_wp2_with (refine wpList_store_arr rfl rfl rfl rfl RTBlock q0 ?_)
      go_roundg (gk - 1)
      case measure => have := hj'.out; omega
      case rel =>
        have hj'' := hj'.out
        refine ⟨j + 1, by omega, by go_num, blk_congr (row_self q0) (fun i _ => ?_), row_keep q1 (by omega), row_keep qC (by omega), row_below hBq (Nat.le_refl _) _⟩
        rw [last_test]
        rfl
    · obtain rfl : j = 10 := by have := hj'.out; omega
      go_wp2_with (first | (refine wpList_load_arr rfl rfl rfl RTBlock g0 ?_) | (refine wpList_store_arr rfl rfl rfl rfl RTBlock g1 ?_))
      exact bodyPost_ret (results_arr rfl rfl RTBlock (row_self g1)) rfl ⟨rfl, row_below hB (Nat.le_add_right _ _) _⟩

set_option maxRecDepth 100000 in
set_option maxHeartbeats 1000000 in
theorem Encrypt_any (k s : Nat → Int) (hk : ∀ i, i < 16 → 0 ≤ k i ∧ k i < 256) (hs : ∀ i, i < 16 → 0 ≤ s i ∧ s i < 256) (w : World) :
    Calls Try.prog 13 #[.agg (arr .u8 16 k), .agg (arr .u8 16 s)] w fun e w' => e = .returned (.agg (arr .u8 16 (encI k s))) ∧ Below w.heap.size w w' := by
  go_enter Try.func13, Try.ntmps13
  obtain ⟨h0, h1, h2, hsz, hb⟩ := alloc3 w (.cells (arr .u8 16 k) 23) (.cells (arr .u8 16 s) 23) (.cells (arr .u8 16 fun _ => 0) 23)
  go_wp2_with (refine wpList_alloc_arr rfl rfl ZTBlock ?_)
  refine wp_cut (fun w' => w'.heap[w.heap.size]? = some (.cells (arr .u8 16 k) 23 (0, 0)) ∧ w'.heap[w.heap.size + 1]? = some (.cells (arr .u8 16 s) 23 (0, 0)) ∧ w'.heap[w.heap.size + 1 + 1]? = some (.cells (arr .u8 16 fun _ => 0) 23 (0, 0)) ∧ Below w.heap.size w w') ⟨h0, h1, h2, hb⟩ ?_
  clear h0 h1 h2 hsz hb
  rintro w1 ⟨h0, h1, h2, hb⟩
  have hl0 := lt_of_block h0
  have hl1 := lt_of_block h1
  have hl2 := lt_of_block h2
  refine wp_region_can w1.heap.size 4 [(0, false), (2, false), (1, true), (3, true)] (by kernel_rfl) (by kernel_rfl) ?_
  (simp only [canOps, List.getElem?_cons_zero, List.getElem?_cons_succ, List.drop_succ_cons, List.drop_zero])
  refine wpCan_load_arr rfl rfl rfl (fun _ _ _ _ h => h) RTBlock hl0 h0 ?_
  (try simp only [Act.put, List.setIfInBounds_toArray, List.set_cons_zero, List.set_cons_succ])
  refine wpCan_load_arr rfl rfl rfl (fun _ _ _ _ h => h) RTBlock hl1 h1 ?_
  (try simp only [Act.put, List.setIfInBounds_toArray, List.set_cons_zero, List.set_cons_succ])
  refine wpCan_e rfl (fun K hK => ?_)
  go_simp
  refine (of_any k hk _).mono ?_
  rintro e w4 ⟨C, rfl, hC, gC, b4⟩
  refine hK _ _ (Keep.of_below b4 (Nat.le_refl _)) ?_
  clear hK K
  (try simp only [Act.put, List.setIfInBounds_toArray, List.set_cons_zero, List.set_cons_succ])
  refine wpCan_e rfl (fun K hK => ?_)
  go_simp
  refine (encrypt_any k s C hs _ gC).mono ?_
  rintro e w5 ⟨rfl, b5⟩
  refine hK _ _ (Keep.of_below b5 b4.size) ?_
  clear hK K
  (try simp only [Act.put, List.setIfInBounds_toArray, List.set_cons_zero, List.set_cons_succ])
  refine wpCan_nil ?_
  have b6 := b4.trans (b5.mono b4.size)
  have q2 := keep_below (w := w1.drew) b6 hl2 h2
  have hBq := hb.drew.trans (b6.mono hb.size)
  go_wp2_with (refine wpList_store_arr rfl rfl rfl rfl RTBlock q2 ?_)
  exact bodyPost_ret (results_arr rfl rfl RTBlock (row_self q2)) rfl ⟨rfl, row_below hBq (by omega) _⟩
end Go.Proofs.Ytnckddjlpmkkgaa
