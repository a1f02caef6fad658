/- The walk of the reference for layer 4: a block encrypted. -/
import Derived.Test.YtnckddjlpmkkgaaRefK
namespace Go.Proofs.Ytnckddjlpmkkgaa
set_option linter.unusedSimpArgs false
set_option linter.unusedVariables false
open Go.RowKit
attribute [local irreducible] sboxI mulN

theorem round_ref (s : Nat → Int) (hs : ∀ i, i < 16 → 0 ≤ s i ∧ s i < 256) (q : Nat) (hq : q < 16) : bmixI (bturnI s) q = roundI s false q := by
  unfold bmixI
  rw [mix_col (rowI s (q / 4)) (bturnI s) (q / 4) (fun i hi => rowI_byte s hs _ _ hi) (fun i hi => by unfold bturnI; rw [show (4 * (q / 4) + i) / 4 = q / 4 from by omega, show (4 * (q / 4) + i) % 4 = i from by omega]) (q % 4) (by omega)]
  unfold roundI
  rw [if_neg Bool.false_ne_true]
theorem bturnI_byte (s : Nat → Int) (hs : ∀ i, i < 16 → 0 ≤ s i ∧ s i < 256) (q : Nat) : 0 ≤ bturnI s q ∧ bturnI s q < 256 := rowI_byte s hs _ _ (by omega)
theorem encJ_succ (k s : Nat → Int) (j : Nat) : encJ k s (j + 1) = xorI (roundI (encJ k s j) (decide (j + 1 = 10))) (keyK k (j + 1)) := rfl
theorem encJ_mid (k s : Nat → Int) (j i : Nat) (hj : j + 1 < 10) (hi : i < 16) : xorI (bmixI (bturnI (encJ k s j))) (keyK k (j + 1)) i = encJ k s (j + 1) i := by
  rw [encJ_succ]
  unfold xorI
  rw [round_ref _ (fun i _ => encJ_byte k s j i) i hi, show decide (j + 1 = 10) = false from decide_eq_false (by omega)]
theorem encJ_last (k s : Nat → Int) (j i : Nat) (hj : ¬ j + 1 < 10) (hj' : j < 10) : xorI (bturnI (encJ k s j)) (keyK k (j + 1)) i = encJ k s (j + 1) i := by
  rw [encJ_succ]
  unfold xorI
  rw [show decide (j + 1 = 10) = true from decide_eq_true (by omega)]
  rfl

set_option maxRecDepth 100000 in
set_option maxHeartbeats 1000000 in
theorem refEncrypt_any (k s : Nat → Int) (hk : ∀ i, i < 16 → 0 ≤ k i ∧ k i < 256) (hs : ∀ i, i < 16 → 0 ≤ s i ∧ s i < 256) (w : World) :
    Calls Try.prog 16 #[.agg (arr .u8 16 k), .agg (arr .u8 16 s)] w fun e w' => e = .returned (.agg (arr .u8 16 (encI k s))) ∧ Below w.heap.size w w' := by
  go_enter Try.func16, Try.ntmps16
  obtain ⟨h0, h1, h2, hsz, hb⟩ := alloc3 w (.cells (arr .u8 16 k) 23) (.cells (arr .u8 16 s) 23) (.cells (arr .u8 16 fun _ => 0) 23)
  go_wp2_with (first | (refine wpList_alloc_arr rfl rfl ZTBlock ?_) | (refine wpList_load_arr rfl rfl rfl RTBlock h0 ?_) | (go_at_call 15; fail))
  refine (refKeys_any k hk _).mono ?_
  rintro e w1 ⟨rfl, b1⟩
  have g1 := keep_below b1 (by omega) h1
  have g2 := keep_below b1 (by omega) h2
  have hB1 := hb.trans (b1.mono (by omega))
  clear h0 h1 h2 hsz hb b1
  go_upto_region 2 with (refine wpList_new_arr rfl rfl rfl rfl ZTKeys RTKeys rfl rfl ?_; intro w2 g3 b2 hs2)
  have f1 := keep_below b2 (lt_of_block g1) g1
  have f2 := keep_below b2 (lt_of_block g2) g2
  have hB2 := hB1.trans (b2.mono hB1.size)
  have l2 := lt_of_block g2
  clear g1 g2 b2 hs2 hB1
  generalize w1.heap.size = BK at *
  (try simp only [Act.put, List.setIfInBounds_toArray, List.set_cons_zero, List.set_cons_succ])
  go_wp2_with (first | (refine wpList_load_arr rfl rfl rfl RTBlock f1 ?_) | (refine wpList_load_as (off := 0 * 16) (keyK k 0) rfl rfl rfl RTBlock g3 (by omega) (fun i hi => keys_at k 0 i hi) ?_) | (go_at_call 26; fail))
  refine (refXor_any _ _ _).mono ?_
  rintro e w3 ⟨rfl, b3⟩
  have m2 := keep_below b3 (lt_of_block f2) f2
  have m3 := keep_below b3 (lt_of_block g3) g3
  have hB3 := hB2.trans (b3.mono hB2.size)
  have l3 := lt_of_block m3
  clear f1 f2 g3 b3 hB2
  go_upto_region 3 with (refine wpList_new_arr rfl rfl rfl rfl ZTBlock RTBlock rfl rfl ?_; intro w4 m4 b4 hs4)
  have q2 := keep_below b4 (lt_of_block m2) m2
  have q3 := keep_below b4 l3 m3
  have hB4 := hB3.trans (b4.mono hB3.size)
  clear m2 m3 b4 hs4 hB3
  generalize w3.heap.size = BX at *
  (try simp only [Act.put, List.setIfInBounds_toArray, List.set_cons_zero, List.set_cons_succ])
  go_wp2
  go_loopg [7] 10 (fun n i wr => ∃ j : Nat, j + n = 10 ∧ i = .int .i64 ((j : Int) + 1) ∧ wr.heap[w.heap.size + 1 + 1]? = some (.cells (arr .u8 16 fun _ => 0) 23 (0, 0)) ∧
      wr.heap[BK]? = some (.cells (arr .u8 176 fun i => keyK k (i / 16) (i % 16)) 25 (0, 0)) ∧ wr.heap[BX]? = some (.cells (arr .u8 16 (encJ k s j)) 23 (0, 0)) ∧ Below w.heap.size w wr)
  case atStart => exact ⟨0, rfl, rfl, q2, q3, m4, hB4⟩
  case round =>
    clear q2 q3 m4 hB4
    obtain ⟨j, hj, rfl, g2, g3, g4, hB⟩ := hrel
    have hj' := Lib.hid hj
    clear hj
    by_cases hlt : j < 10
    · go_upto_region 7 with (first | (refine wpList_load_arr rfl rfl rfl RTBlock g4 ?_) | (go_at_call 27; refine (turned_any _ (fun i _ => encJ_byte k s j i) _).mono ?_; rintro e w5 ⟨rfl, b5⟩; have e4 := keep_below b5 (lt_of_block g4) g4) | (refine wpList_store_arr rfl rfl rfl rfl RTBlock e4 ?_))
      have q2 := row_keep (w := w5) (c' := arr .u8 16 (bturnI (encJ k s j))) (g := BX) (keep_below b5 (lt_of_block g2) g2) (by omega)
      have q3 := row_keep (w := w5) (c' := arr .u8 16 (bturnI (encJ k s j))) (g := BX) (keep_below b5 (lt_of_block g3) g3) (by omega)
      have q4 := row_self (w := w5) (c' := arr .u8 16 (bturnI (encJ k s j))) e4
      have hBq := row_below (hB.trans (b5.mono hB.size)) (g := BX) (by omega) (arr .u8 16 (bturnI (encJ k s j)))
      clear e4 b5 g2 g3 g4 hB
      generalize w5.setRow BX (arr .u8 16 (bturnI (encJ k s j))) = wz at *
      (try simp only [Act.put, List.setIfInBounds_toArray, List.set_cons_zero, List.set_cons_succ])
      by_cases hc : j + 1 < 10
      · go_upto_region 9 with (first | (refine wpList_load_arr rfl rfl rfl RTBlock q4 ?_) | (go_at_call 28; refine (mixed_any _ (fun i _ => bturnI_byte _ (fun i _ => encJ_byte k s j i) i) _).mono ?_; rintro e w6 ⟨rfl, b6⟩; have e4 := keep_below b6 (lt_of_block q4) q4) | (refine wpList_store_arr rfl rfl rfl rfl RTBlock e4 ?_))
        have e2 := row_keep (w := w6) (c' := arr .u8 16 (bmixI (bturnI (encJ k s j)))) (g := BX) (keep_below b6 (lt_of_block q2) q2) (by omega)
        have e3 := row_keep (w := w6) (c' := arr .u8 16 (bmixI (bturnI (encJ k s j)))) (g := BX) (keep_below b6 (lt_of_block q3) q3) (by omega)
        have e5 := row_self (w := w6) (c' := arr .u8 16 (bmixI (bturnI (encJ k s j)))) e4
        have hBe := row_below (hBq.trans (b6.mono hBq.size)) (g := BX) (by omega) (arr .u8 16 (bmixI (bturnI (encJ k s j))))
        clear e4 b6 q2 q3 q4 hBq
        generalize w6.setRow BX (arr .u8 16 (bmixI (bturnI (encJ k s j)))) = wz at *
        have q2 := e2
        have q3 := e3
        have q4 := e5
        have hBq := hBe
        clear e2 e3 e5 hBe
        (try simp only [Act.put, List.setIfInBounds_toArray, List.set_cons_zero, List.set_cons_succ])
        refine wp_region_can wz.heap.size 5 [(0, false), (1, false), (2, false), (3, false), (4, true)] (by kernel_rfl) (by kernel_rfl) ?_
        (simp only [canOps, List.getElem?_cons_zero, List.getElem?_cons_succ, List.drop_succ_cons, List.drop_zero])
        refine wpCan_load_arr rfl rfl rfl (fun _ _ _ _ h => h) RTBlock (lt_of_block q4) q4 ?_
        (try simp only [Act.put, List.setIfInBounds_toArray, List.set_cons_zero, List.set_cons_succ])
        iterate 2 (first | (refine wpCan_move rfl rfl (fun _ _ _ _ h => h) ?_; (simp only [Act.put, Act.eval, Array.getD_eq_getD_getElem?, List.getElem?_toArray, List.getElem?_cons_zero, List.getElem?_cons_succ, Option.getD_some, List.setIfInBounds_toArray, List.set_cons_zero, List.set_cons_succ])) | (refine wpCan_assign rfl rfl (fun _ _ _ _ h => h) ?_; (simp only [Act.put, Act.eval, Array.getD_eq_getD_getElem?, List.getElem?_toArray, List.getElem?_cons_zero, List.getElem?_cons_succ, Option.getD_some, List.setIfInBounds_toArray, List.set_cons_zero, List.set_cons_succ])) | (refine wpCan_nilCheck rfl rfl rfl (fun _ _ _ _ h => h) ?_; (simp only [Act.put, List.setIfInBounds_toArray, List.set_cons_zero, List.set_cons_succ])) | (refine wpCan_q rfl rfl (fun _ _ _ _ h => h) (by first | exact .bin rfl rfl rfl | exact .indexAddr rfl | exact .un rfl | exact .extract rfl | exact .index rfl | exact .field rfl | exact .slice rfl) (fun K hK => ?_); go_simp; (try (simp only [↓IntWalk.iteOmega]; go_simp)); (try go_bits); refine hK _ ?_; clear hK K))
        refine wpCan_load_as (off := (j + 1) * 16) (keyK k (j + 1)) rfl rfl rfl (fun _ _ _ _ h => h) RTBlock (lt_of_block q3) q3 (by omega) (fun i hi => keys_at k (j + 1) i hi) ?_
        (try simp only [Act.put, List.setIfInBounds_toArray, List.set_cons_zero, List.set_cons_succ])
        refine wpCan_e rfl (fun K hK => ?_)
        go_simp
        refine (refXor_any _ _ _).mono ?_
        rintro e w9 ⟨rfl, b9⟩
        refine hK _ _ (Keep.of_below b9 (Nat.le_refl _)) ?_
        clear hK K
        (try simp only [Act.put, List.setIfInBounds_toArray, List.set_cons_zero, List.set_cons_succ])
        refine wpCan_nil ?_
        have e2 := keep_below (w := wz.drew) b9 (lt_of_block q2) q2
        have e3 := keep_below (w := wz.drew) b9 (lt_of_block q3) q3
        have e4 := keep_below (w := wz.drew) b9 (lt_of_block q4) q4
        have hBe := hBq.drew.trans (b9.mono hBq.size)
        clear q2 q3 q4 hBq b9
        go_wp2_with (refine wpList_store_arr rfl rfl rfl rfl RTBlock e4 ?_)
        go_roundg (gk - 1)
        case measure => have := hj'.out; omega
        case rel =>
          have hj'' := hj'.out
          refine ⟨j + 1, by omega, by go_num, row_keep e2 (by omega), row_keep e3 (by omega), blk_congr (row_self e4) (fun i hi => ?_), row_below hBe (by omega) _⟩
          exact encJ_mid k s j i hc hi
      · go_upto_region 9 with (fail)
        (try simp only [Act.put, List.setIfInBounds_toArray, List.set_cons_zero, List.set_cons_succ])
        refine wp_region_can wz.heap.size 5 [(0, false), (1, false), (2, false), (3, false), (4, true)] (by kernel_rfl) (by kernel_rfl) ?_
        (simp only [canOps, List.getElem?_cons_zero, List.getElem?_cons_succ, List.drop_succ_cons, List.drop_zero])
        refine wpCan_load_arr rfl rfl rfl (fun _ _ _ _ h => h) RTBlock (lt_of_block q4) q4 ?_
        (try simp only [Act.put, List.setIfInBounds_toArray, List.set_cons_zero, List.set_cons_succ])
        iterate 2 (first | (refine wpCan_move rfl rfl (fun _ _ _ _ h => h) ?_; (simp only [Act.put, Act.eval, Array.getD_eq_getD_getElem?, List.getElem?_toArray, List.getElem?_cons_zero, List.getElem?_cons_succ, Option.getD_some, List.setIfInBounds_toArray, List.set_cons_zero, List.set_cons_succ])) | (refine wpCan_assign rfl rfl (fun _ _ _ _ h => h) ?_; (simp only [Act.put, Act.eval, Array.getD_eq_getD_getElem?, List.getElem?_toArray, List.getElem?_cons_zero, List.getElem?_cons_succ, Option.getD_some, List.setIfInBounds_toArray, List.set_cons_zero, List.set_cons_succ])) | (refine wpCan_nilCheck rfl rfl rfl (fun _ _ _ _ h => h) ?_; (simp only [Act.put, List.setIfInBounds_toArray, List.set_cons_zero, List.set_cons_succ])) | (refine wpCan_q rfl rfl (fun _ _ _ _ h => h) (by first | exact .bin rfl rfl rfl | exact .indexAddr rfl | exact .un rfl | exact .extract rfl | exact .index rfl | exact .field rfl | exact .slice rfl) (fun K hK => ?_); go_simp; (try (simp only [↓IntWalk.iteOmega]; go_simp)); (try go_bits); refine hK _ ?_; clear hK K))
        refine wpCan_load_as (off := (j + 1) * 16) (keyK k (j + 1)) rfl rfl rfl (fun _ _ _ _ h => h) RTBlock (lt_of_block q3) q3 (by omega) (fun i hi => keys_at k (j + 1) i hi) ?_
        (try simp only [Act.put, List.setIfInBounds_toArray, List.set_cons_zero, List.set_cons_succ])
        refine wpCan_e rfl (fun K hK => ?_)
        go_simp
        refine (refXor_any _ _ _).mono ?_
        rintro e w9 ⟨rfl, b9⟩
        refine hK _ _ (Keep.of_below b9 (Nat.le_refl _)) ?_
        clear hK K
        (try simp only [Act.put, List.setIfInBounds_toArray, List.set_cons_zero, List.set_cons_succ])
        refine wpCan_nil ?_
        have e2 := keep_below (w := wz.drew) b9 (lt_of_block q2) q2
        have e3 := keep_below (w := wz.drew) b9 (lt_of_block q3) q3
        have e4 := keep_below (w := wz.drew) b9 (lt_of_block q4) q4
        have hBe := hBq.drew.trans (b9.mono hBq.size)
        clear q2 q3 q4 hBq b9
        go_wp2_with (refine wpList_store_arr rfl rfl rfl rfl RTBlock e4 ?_)
        go_roundg (gk - 1)
        case measure => have := hj'.out; omega
        case rel =>
          have hj'' := hj'.out
          refine ⟨j + 1, by omega, by go_num, row_keep e2 (by omega), row_keep e3 (by omega), blk_congr (row_self e4) (fun i hi => ?_), row_below hBe (by omega) _⟩
          exact encJ_last k s j i hc hlt
    · obtain rfl : j = 10 := by have := hj'.out; omega
      go_wp2_with (first | (refine wpList_load_arr rfl rfl rfl RTBlock g4 ?_) | (refine wpList_store_arr rfl rfl rfl rfl RTBlock g2 ?_))
      exact bodyPost_ret (results_arr rfl rfl RTBlock (row_self g2)) rfl ⟨rfl, row_below hB (by omega) _⟩
end Go.Proofs.Ytnckddjlpmkkgaa
