/- The law CurveBits: whatever the number and the point, it answers true. -/
import Derived.Test.YthgjhipfgdlbnaaCurB
namespace Go.Proofs.Ythgjhipfgdlbnaa
set_option linter.unusedSimpArgs false
set_option linter.unusedVariables false
open Go.RowKit
attribute [local irreducible] pN valN byteN bytesN invN ofN powN kvN clampN multV keyU topN
set_option maxRecDepth 100000 in
set_option maxHeartbeats 1000000 in
theorem CurveBits_nat (k : Nat → Nat) (hk : ∀ i, i < 32 → k i < 256) (u : Nat → Nat) (hu : ∀ i, i < 32 → u i < 256) (w : World) :
    Calls Try.prog 5 #[.agg (arr .u8 32 fun i => ((k i : Nat) : Int)), .agg (arr .u8 32 fun i => ((u i : Nat) : Int))] w fun e w' => e = .returned (.bool true) ∧ Below w.heap.size w w' := by
  have Hk := Lib.hid hk
  have Hu := Lib.hid hu
  clear hk hu
  have e8 := clamp_low k
  have e64 := clamp_top k (Hk.out 31 (by omega))
  obtain ⟨ca, hca⟩ : ∃ x, x = clampN k 0 := ⟨_, rfl⟩
  obtain ⟨cb31, hcb⟩ : ∃ x, x = clampN k 31 := ⟨_, rfl⟩
  have la : ca < 256 := hca ▸ clamp_lt Hk.out 0 (by omega)
  have lb : cb31 < 256 := hcb ▸ clamp_lt Hk.out 31 (by omega)
  rw [← hca] at e8
  rw [← hcb] at e64
  have E8 := Lib.hid e8
  have E64 := Lib.hid e64
  have CA := Lib.hid hca
  have CB := Lib.hid hcb
  clear e8 e64 hca hcb
  go_enter Try.func5, Try.ntmps5
  obtain ⟨h0, h1, hsz, hb⟩ := alloc2 w (.cells (arr .u8 32 fun i => ((k i : Nat) : Int)) 23) (.cells (arr .u8 32 fun i => ((u i : Nat) : Int)) 23)
  go_wp2_with (go_at_call 8; fail)
  refine (live06_any _).mono ?_
  rintro e w4 ⟨rfl, b4⟩
  replace h0 := keep_below b4 (by omega) h0
  replace h1 := keep_below b4 (by omega) h1
  replace hb := hb.trans (b4.mono (by omega))
  clear b4 hsz
  go_wp2_with (first | (refine wpList_load_arr rfl rfl rfl RTKey h0 ?_) | (go_at_call 9; fail))
  refine (Clamp_any k Hk.out _).mono ?_
  rintro e w4 ⟨rfl, b4⟩
  replace h0 := keep_below b4 (lt_of_block h0) h0
  replace h1 := keep_below b4 (lt_of_block h1) h1
  replace hb := hb.trans (b4.mono hb.size)
  clear b4
  go_upto_region 5 with (refine wpList_new_arr rfl rfl rfl rfl ZTKey RTKey rfl rfl ?_; intro w8 h2 b8 hs8)
  have l0 := lt_of_block h0
  replace h0 := keep_below b8 (lt_of_block h0) h0
  replace h1 := keep_below b8 (lt_of_block h1) h1
  replace hb := hb.trans (b8.mono hb.size)
  clear b8 hs8
  obtain ⟨Bh2, hBh2⟩ : ∃ B, B = w4.heap.size := ⟨_, rfl⟩
  rw [← hBh2] at l0 h2 ⊢
  clear hBh2
  (try simp only [Act.put, List.setIfInBounds_toArray, List.set_cons_zero, List.set_cons_succ])
  go_upto_region 6 with (first | (refine wpList_load_arr rfl rfl rfl RTKey h1 ?_) | (refine wpList_new_arr rfl rfl rfl rfl ZTKey RTKey rfl rfl ?_; intro w9 h3 b9 hs9))
  obtain ⟨Bh3, hBh3⟩ : ∃ B, B = w8.heap.size := ⟨_, rfl⟩
  have l3 : w.heap.size ≤ w8.heap.size := hb.size
  have l_h0 := lt_of_block h0
  have l_h1 := lt_of_block h1
  have l_h2 := lt_of_block h2
  replace h0 := keep_below b9 (lt_of_block h0) h0
  replace h1 := keep_below b9 (lt_of_block h1) h1
  replace h2 := keep_below b9 (lt_of_block h2) h2
  replace hb := hb.trans (b9.mono hb.size)
  clear b9 hs9
  rw [← hBh3] at h3 l3 l_h0 l_h1 l_h2 ⊢
  clear hBh3 w8
  obtain ⟨w8, rfl⟩ : ∃ x, x = w9 := ⟨_, rfl⟩
  (try simp only [Act.put, List.setIfInBounds_toArray, List.set_cons_zero, List.set_cons_succ])
  obtain ⟨y, hy⟩ : ∃ y, u 31 = y := ⟨_, rfl⟩
  have ly : y < 256 := hy ▸ Hu.out 31 (by omega)
  have c3 : w8.cell? ⟨Bh3, 31, none⟩ = some (.int .u8 (y : Int)) := by rw [cell_arr h3 31 (by omega), hy]
  have f3 := free_arr h3
  have xt := u8_xor_nat y 128 ly (by omega)
  have XT := Lib.hid xt
  clear xt
  go_upto_region 7 with (fail)
  rw [show bits .xor .u8 (y : Int) 128 = ((y ^^^ 128 : Nat) : Int) from XT.out]
  have h3' := set_arr h3 31 ((y ^^^ 128 : Nat) : Int)
  replace h0 := keep_arr (C := Bh3) h0 31 (.int .u8 ((y ^^^ 128 : Nat) : Int)) (Nat.ne_of_lt l_h0)
  replace h1 := keep_arr (C := Bh3) h1 31 (.int .u8 ((y ^^^ 128 : Nat) : Int)) (Nat.ne_of_lt l_h1)
  replace h2 := keep_arr (C := Bh3) h2 31 (.int .u8 ((y ^^^ 128 : Nat) : Int)) (Nat.ne_of_lt l_h2)
  replace hb := hb.setCell (p := ⟨Bh3, 31, none⟩) l3 (.int .u8 ((y ^^^ 128 : Nat) : Int))
  clear c3 f3 h3 l_h0 l_h1 l_h2 l3
  generalize w8.setCell ⟨Bh3, 31, none⟩ (.int .u8 ((y ^^^ 128 : Nat) : Int)) = wv at *
  have h3 := blk_congr (f' := fun i => ((topN u i : Nat) : Int)) h3' (fun i hi => by
    unfold upd topN
    dsimp only
    by_cases h : i = 31
    · rw [if_pos h, if_pos h, hy]
    · rw [if_neg h, if_neg h])
  clear h3'
  (try simp only [Act.put, List.setIfInBounds_toArray, List.set_cons_zero, List.set_cons_succ])
  go_wp2_with (first | (refine wpList_load_arr rfl rfl rfl RTKey h1 ?_) | (go_at_call 14; fail))
  refine (Of_any u Hu.out _).mono ?_
  rintro e w4 ⟨rfl, b4⟩
  replace h0 := keep_below b4 (lt_of_block h0) h0
  replace h1 := keep_below b4 (lt_of_block h1) h1
  replace h2 := keep_below b4 (lt_of_block h2) h2
  replace h3 := keep_below b4 (lt_of_block h3) h3
  replace hb := hb.trans (b4.mono hb.size)
  clear b4
  go_wp2_with (go_at_call 13; fail)
  refine (Bytes_yes (ofN u) (ofN_ok u) _).mono ?_
  rintro e w4 ⟨rfl, b4⟩
  replace h0 := keep_below b4 (lt_of_block h0) h0
  replace h1 := keep_below b4 (lt_of_block h1) h1
  replace h2 := keep_below b4 (lt_of_block h2) h2
  replace h3 := keep_below b4 (lt_of_block h3) h3
  replace hb := hb.trans (b4.mono hb.size)
  clear b4
  rw [show (arr .u8 32 fun j => ((bytesN (ofN u) j : Nat) : Int)) = arr .u8 32 fun i => ((byteN (keyU u) i : Nat) : Int) from arr_ext fun i _ => by rw [bytes_ofU u Hu.out i]]
  go_upto_region 8 with (refine wpList_new_arr rfl rfl rfl rfl ZTKey RTKey rfl rfl ?_; intro w8 h4 b8 hs8)
  have l0 := lt_of_block h0
  replace h0 := keep_below b8 (lt_of_block h0) h0
  replace h1 := keep_below b8 (lt_of_block h1) h1
  replace h2 := keep_below b8 (lt_of_block h2) h2
  replace h3 := keep_below b8 (lt_of_block h3) h3
  replace hb := hb.trans (b8.mono hb.size)
  clear b8 hs8
  obtain ⟨Bh4, hBh4⟩ : ∃ B, B = w4.heap.size := ⟨_, rfl⟩
  rw [← hBh4] at l0 h4 ⊢
  clear hBh4
  (try simp only [Act.put, List.setIfInBounds_toArray, List.set_cons_zero, List.set_cons_succ])
  go_wp2_with (first | (refine wpList_load_arr rfl rfl rfl RTKey h0 ?_) | (refine wpList_load_arr rfl rfl rfl RTKey h1 ?_) | (go_at_call 11; fail))
  refine (Mult_any k u Hk.out Hu.out _).mono ?_
  rintro e w4 ⟨rfl, b4⟩
  replace h0 := keep_below b4 (lt_of_block h0) h0
  replace h1 := keep_below b4 (lt_of_block h1) h1
  replace h2 := keep_below b4 (lt_of_block h2) h2
  replace h3 := keep_below b4 (lt_of_block h3) h3
  replace h4 := keep_below b4 (lt_of_block h4) h4
  replace hb := hb.trans (b4.mono hb.size)
  clear b4
  go_upto_region 9 with (refine wpList_new_arr rfl rfl rfl rfl ZTKey RTKey rfl rfl ?_; intro w8 h5 b8 hs8)
  have l0 := lt_of_block h0
  replace h0 := keep_below b8 (lt_of_block h0) h0
  replace h1 := keep_below b8 (lt_of_block h1) h1
  replace h2 := keep_below b8 (lt_of_block h2) h2
  replace h3 := keep_below b8 (lt_of_block h3) h3
  replace h4 := keep_below b8 (lt_of_block h4) h4
  replace hb := hb.trans (b8.mono hb.size)
  clear b8 hs8
  obtain ⟨Bh5, hBh5⟩ : ∃ B, B = w4.heap.size := ⟨_, rfl⟩
  rw [← hBh5] at l0 h5 ⊢
  clear hBh5
  (try simp only [Act.put, List.setIfInBounds_toArray, List.set_cons_zero, List.set_cons_succ])
  go_wp2_with (first | (refine wpList_load_arr rfl rfl rfl RTKey h5 ?_) | (go_at_call 14; fail))
  refine (Of_any (byteN (multV k (keyU u))) (fun i _ => byteN_lt _ i) _).mono ?_
  rintro e w4 ⟨rfl, b4⟩
  replace h0 := keep_below b4 (lt_of_block h0) h0
  replace h1 := keep_below b4 (lt_of_block h1) h1
  replace h2 := keep_below b4 (lt_of_block h2) h2
  replace h3 := keep_below b4 (lt_of_block h3) h3
  replace h4 := keep_below b4 (lt_of_block h4) h4
  replace h5 := keep_below b4 (lt_of_block h5) h5
  replace hb := hb.trans (b4.mono hb.size)
  clear b4
  go_wp2_with (go_at_call 13; fail)
  refine (Bytes_yes (ofN (byteN (multV k (keyU u)))) (ofN_ok _) _).mono ?_
  rintro e w4 ⟨rfl, b4⟩
  replace h0 := keep_below b4 (lt_of_block h0) h0
  replace h1 := keep_below b4 (lt_of_block h1) h1
  replace h2 := keep_below b4 (lt_of_block h2) h2
  replace h3 := keep_below b4 (lt_of_block h3) h3
  replace h4 := keep_below b4 (lt_of_block h4) h4
  replace h5 := keep_below b4 (lt_of_block h5) h5
  replace hb := hb.trans (b4.mono hb.size)
  clear b4
  rw [show (arr .u8 32 fun j => ((bytesN (ofN (byteN (multV k (keyU u)))) j : Nat) : Int)) = arr .u8 32 fun i => ((byteN (keyU (byteN (multV k (keyU u)))) i : Nat) : Int) from arr_ext fun i _ => by rw [bytes_ofU (byteN (multV k (keyU u))) (fun i _ => byteN_lt _ i) i]]
  go_upto_region 10 with (refine wpList_new_arr rfl rfl rfl rfl ZTKey RTKey rfl rfl ?_; intro w8 h6 b8 hs8)
  have l0 := lt_of_block h0
  replace h0 := keep_below b8 (lt_of_block h0) h0
  replace h1 := keep_below b8 (lt_of_block h1) h1
  replace h2 := keep_below b8 (lt_of_block h2) h2
  replace h3 := keep_below b8 (lt_of_block h3) h3
  replace h4 := keep_below b8 (lt_of_block h4) h4
  replace h5 := keep_below b8 (lt_of_block h5) h5
  replace hb := hb.trans (b8.mono hb.size)
  clear b8 hs8
  obtain ⟨Bh6, hBh6⟩ : ∃ B, B = w4.heap.size := ⟨_, rfl⟩
  rw [← hBh6] at l0 h6 ⊢
  clear hBh6
  (try simp only [Act.put, List.setIfInBounds_toArray, List.set_cons_zero, List.set_cons_succ])
  go_upto_region 10 with (fail)
  (try simp only [Act.put, List.setIfInBounds_toArray, List.set_cons_zero, List.set_cons_succ])
  obtain ⟨wr, rfl⟩ : ∃ x, x = w8 := ⟨_, rfl⟩
  refine wp_region_can wr.heap.size 53 [(0, false), (1, false), (2, false), (4, false), (3, true), (5, false), (6, false), (7, false), (8, false), (9, false), (10, false), (11, false), (12, false), (13, false), (14, false), (15, false), (16, false), (17, false), (18, false), (19, false), (20, false), (21, false), (22, false), (23, true), (24, false), (25, false), (26, false), (27, false), (28, false), (29, false), (30, true), (31, false), (32, false), (33, false), (34, false), (35, false), (36, false), (37, false), (38, false), (39, false), (40, false), (41, true), (42, false), (43, false), (44, false), (45, false), (46, false), (47, false), (48, false), (49, false), (50, false), (51, false), (52, false)] (by kernel_rfl) (by kernel_rfl) ?_
  (simp only [canOps, List.getElem?_cons_zero, List.getElem?_cons_succ, List.drop_succ_cons, List.drop_zero])
  iterate 2 (first | (refine wpCan_move rfl rfl (fun _ _ _ _ h => h) ?_; (simp only [Act.put, Act.eval, Array.getD_eq_getD_getElem?, List.getElem?_toArray, List.getElem?_cons_zero, List.getElem?_cons_succ, Option.getD_some, List.setIfInBounds_toArray, List.set_cons_zero, List.set_cons_succ])) | (refine wpCan_assign rfl rfl (fun _ _ _ _ h => h) ?_; (simp only [Act.put, Act.eval, Array.getD_eq_getD_getElem?, List.getElem?_toArray, List.getElem?_cons_zero, List.getElem?_cons_succ, Option.getD_some, List.setIfInBounds_toArray, List.set_cons_zero, List.set_cons_succ])) | (refine wpCan_nilCheck rfl rfl rfl (fun _ _ _ _ h => h) ?_; (simp only [Act.put, List.setIfInBounds_toArray, List.set_cons_zero, List.set_cons_succ])) | (refine wpCan_q rfl rfl (fun _ _ _ _ h => h) (by first | exact .bin rfl rfl rfl | exact .indexAddr rfl | exact .un rfl | exact .extract rfl | exact .index rfl | exact .field rfl | exact .slice rfl) (fun K hK => ?_); go_simp; (try (simp only [↓IntWalk.iteOmega]; go_simp)); (try go_bits); refine hK _ ?_; clear hK K))
  refine wpCan_load_arr rfl rfl rfl (fun _ _ _ _ h => h) RTKey (lt_of_block (w := wr) h2) h2 ?_
  (try simp only [Act.put, List.setIfInBounds_toArray, List.set_cons_zero, List.set_cons_succ])
  refine wpCan_load_arr rfl rfl rfl (fun _ _ _ _ h => h) RTKey (lt_of_block (w := wr) h2) h2 ?_
  (try simp only [Act.put, List.setIfInBounds_toArray, List.set_cons_zero, List.set_cons_succ])
  refine wpCan_e rfl (fun K hK => ?_)
  go_simp
  refine (Clamp_any (clampN k) (clamp_lt Hk.out) _).mono ?_
  rintro e v1 ⟨rfl, b1⟩
  refine hK _ _ (Keep.of_below b1 (Nat.le_refl _)) ?_
  clear hK K
  (try simp only [Act.put, List.setIfInBounds_toArray, List.set_cons_zero, List.set_cons_succ])
  have cb := b1
  clear b1
  refine wpCan_all rfl (fun _ _ _ _ h => h) (fun w' => run_op_eqArr (op := .eql) rfl ITKey rfl rfl) ?_
  rw [sameTo_true (fun i _ => by rw [clamp_clamp])]
  (try simp only [Act.put, List.setIfInBounds_toArray, List.set_cons_zero, List.set_cons_succ])
  refine wpCan_pick rfl rfl rfl (fun _ _ _ _ h => h) ?_
  simp only [if_true]
  (try simp only [Act.put, List.setIfInBounds_toArray, List.set_cons_zero, List.set_cons_succ])
  iterate 2 (first | (refine wpCan_move rfl rfl (fun _ _ _ _ h => h) ?_; (simp only [Act.put, Act.eval, Array.getD_eq_getD_getElem?, List.getElem?_toArray, List.getElem?_cons_zero, List.getElem?_cons_succ, Option.getD_some, List.setIfInBounds_toArray, List.set_cons_zero, List.set_cons_succ])) | (refine wpCan_assign rfl rfl (fun _ _ _ _ h => h) ?_; (simp only [Act.put, Act.eval, Array.getD_eq_getD_getElem?, List.getElem?_toArray, List.getElem?_cons_zero, List.getElem?_cons_succ, Option.getD_some, List.setIfInBounds_toArray, List.set_cons_zero, List.set_cons_succ])) | (refine wpCan_nilCheck rfl rfl rfl (fun _ _ _ _ h => h) ?_; (simp only [Act.put, List.setIfInBounds_toArray, List.set_cons_zero, List.set_cons_succ])) | (refine wpCan_q rfl rfl (fun _ _ _ _ h => h) (by first | exact .bin rfl rfl rfl | exact .indexAddr rfl | exact .un rfl | exact .extract rfl | exact .index rfl | exact .field rfl | exact .slice rfl) (fun K hK => ?_); go_simp; (try (simp only [↓IntWalk.iteOmega]; go_simp)); (try go_bits); refine hK _ ?_; clear hK K))
  have cA := keep_below (w := wr.drew) cb (lt_of_block (w := wr) h2) h2
  have dA := cell_arr cA 0 (by omega)
  rw [← CA.out] at dA
  have e8 := E8.out
  iterate 1 (first | (refine wpCan_move rfl rfl (fun _ _ _ _ h => h) ?_; (simp only [Act.put, Act.eval, Array.getD_eq_getD_getElem?, List.getElem?_toArray, List.getElem?_cons_zero, List.getElem?_cons_succ, Option.getD_some, List.setIfInBounds_toArray, List.set_cons_zero, List.set_cons_succ])) | (refine wpCan_assign rfl rfl (fun _ _ _ _ h => h) ?_; (simp only [Act.put, Act.eval, Array.getD_eq_getD_getElem?, List.getElem?_toArray, List.getElem?_cons_zero, List.getElem?_cons_succ, Option.getD_some, List.setIfInBounds_toArray, List.set_cons_zero, List.set_cons_succ])) | (refine wpCan_nilCheck rfl rfl rfl (fun _ _ _ _ h => h) ?_; (simp only [Act.put, List.setIfInBounds_toArray, List.set_cons_zero, List.set_cons_succ])) | (refine wpCan_q rfl rfl (fun _ _ _ _ h => h) (by first | exact .bin rfl rfl rfl | exact .indexAddr rfl | exact .un rfl | exact .extract rfl | exact .index rfl | exact .field rfl | exact .slice rfl | exact .load rfl rfl (lt_of_block (w := wr) h2) cA) (fun K hK => ?_); go_simp; (try (simp only [↓IntWalk.iteOmega]; go_simp)); (try go_bits); refine hK _ ?_; clear hK K))
  iterate 2 (first | (refine wpCan_move rfl rfl (fun _ _ _ _ h => h) ?_; (simp only [Act.put, Act.eval, Array.getD_eq_getD_getElem?, List.getElem?_toArray, List.getElem?_cons_zero, List.getElem?_cons_succ, Option.getD_some, List.setIfInBounds_toArray, List.set_cons_zero, List.set_cons_succ])) | (refine wpCan_assign rfl rfl (fun _ _ _ _ h => h) ?_; (simp only [Act.put, Act.eval, Array.getD_eq_getD_getElem?, List.getElem?_toArray, List.getElem?_cons_zero, List.getElem?_cons_succ, Option.getD_some, List.setIfInBounds_toArray, List.set_cons_zero, List.set_cons_succ])) | (refine wpCan_nilCheck rfl rfl rfl (fun _ _ _ _ h => h) ?_; (simp only [Act.put, List.setIfInBounds_toArray, List.set_cons_zero, List.set_cons_succ])) | (refine wpCan_q rfl rfl (fun _ _ _ _ h => h) (by first | exact .bin rfl rfl rfl | exact .indexAddr rfl | exact .un rfl | exact .extract rfl | exact .index rfl | exact .field rfl | exact .slice rfl) (fun K hK => ?_); go_simp; (try (simp only [↓IntWalk.iteOmega]; go_simp)); (try go_bits); refine hK _ ?_; clear hK K))
  refine wpCan_pick rfl rfl rfl (fun _ _ _ _ h => h) ?_
  simp only [if_true]
  (try simp only [Act.put, List.setIfInBounds_toArray, List.set_cons_zero, List.set_cons_succ])
  iterate 2 (first | (refine wpCan_move rfl rfl (fun _ _ _ _ h => h) ?_; (simp only [Act.put, Act.eval, Array.getD_eq_getD_getElem?, List.getElem?_toArray, List.getElem?_cons_zero, List.getElem?_cons_succ, Option.getD_some, List.setIfInBounds_toArray, List.set_cons_zero, List.set_cons_succ])) | (refine wpCan_assign rfl rfl (fun _ _ _ _ h => h) ?_; (simp only [Act.put, Act.eval, Array.getD_eq_getD_getElem?, List.getElem?_toArray, List.getElem?_cons_zero, List.getElem?_cons_succ, Option.getD_some, List.setIfInBounds_toArray, List.set_cons_zero, List.set_cons_succ])) | (refine wpCan_nilCheck rfl rfl rfl (fun _ _ _ _ h => h) ?_; (simp only [Act.put, List.setIfInBounds_toArray, List.set_cons_zero, List.set_cons_succ])) | (refine wpCan_q rfl rfl (fun _ _ _ _ h => h) (by first | exact .bin rfl rfl rfl | exact .indexAddr rfl | exact .un rfl | exact .extract rfl | exact .index rfl | exact .field rfl | exact .slice rfl) (fun K hK => ?_); go_simp; (try (simp only [↓IntWalk.iteOmega]; go_simp)); (try go_bits); refine hK _ ?_; clear hK K))
  have dB := cell_arr cA 31 (by omega)
  rw [← CB.out] at dB
  have e64 := E64.out
  iterate 1 (first | (refine wpCan_move rfl rfl (fun _ _ _ _ h => h) ?_; (simp only [Act.put, Act.eval, Array.getD_eq_getD_getElem?, List.getElem?_toArray, List.getElem?_cons_zero, List.getElem?_cons_succ, Option.getD_some, List.setIfInBounds_toArray, List.set_cons_zero, List.set_cons_succ])) | (refine wpCan_assign rfl rfl (fun _ _ _ _ h => h) ?_; (simp only [Act.put, Act.eval, Array.getD_eq_getD_getElem?, List.getElem?_toArray, List.getElem?_cons_zero, List.getElem?_cons_succ, Option.getD_some, List.setIfInBounds_toArray, List.set_cons_zero, List.set_cons_succ])) | (refine wpCan_nilCheck rfl rfl rfl (fun _ _ _ _ h => h) ?_; (simp only [Act.put, List.setIfInBounds_toArray, List.set_cons_zero, List.set_cons_succ])) | (refine wpCan_q rfl rfl (fun _ _ _ _ h => h) (by first | exact .bin rfl rfl rfl | exact .indexAddr rfl | exact .un rfl | exact .extract rfl | exact .index rfl | exact .field rfl | exact .slice rfl | exact .load rfl rfl (lt_of_block (w := wr) h2) cA) (fun K hK => ?_); go_simp; (try (simp only [↓IntWalk.iteOmega]; go_simp)); (try go_bits); refine hK _ ?_; clear hK K))
  iterate 2 (first | (refine wpCan_move rfl rfl (fun _ _ _ _ h => h) ?_; (simp only [Act.put, Act.eval, Array.getD_eq_getD_getElem?, List.getElem?_toArray, List.getElem?_cons_zero, List.getElem?_cons_succ, Option.getD_some, List.setIfInBounds_toArray, List.set_cons_zero, List.set_cons_succ])) | (refine wpCan_assign rfl rfl (fun _ _ _ _ h => h) ?_; (simp only [Act.put, Act.eval, Array.getD_eq_getD_getElem?, List.getElem?_toArray, List.getElem?_cons_zero, List.getElem?_cons_succ, Option.getD_some, List.setIfInBounds_toArray, List.set_cons_zero, List.set_cons_succ])) | (refine wpCan_nilCheck rfl rfl rfl (fun _ _ _ _ h => h) ?_; (simp only [Act.put, List.setIfInBounds_toArray, List.set_cons_zero, List.set_cons_succ])) | (refine wpCan_q rfl rfl (fun _ _ _ _ h => h) (by first | exact .bin rfl rfl rfl | exact .indexAddr rfl | exact .un rfl | exact .extract rfl | exact .index rfl | exact .field rfl | exact .slice rfl) (fun K hK => ?_); go_simp; (try (simp only [↓IntWalk.iteOmega]; go_simp)); (try go_bits); refine hK _ ?_; clear hK K))
  refine wpCan_pick rfl rfl rfl (fun _ _ _ _ h => h) ?_
  simp only [if_true]
  (try simp only [Act.put, List.setIfInBounds_toArray, List.set_cons_zero, List.set_cons_succ])
  iterate 1 (first | (refine wpCan_move rfl rfl (fun _ _ _ _ h => h) ?_; (simp only [Act.put, Act.eval, Array.getD_eq_getD_getElem?, List.getElem?_toArray, List.getElem?_cons_zero, List.getElem?_cons_succ, Option.getD_some, List.setIfInBounds_toArray, List.set_cons_zero, List.set_cons_succ])) | (refine wpCan_assign rfl rfl (fun _ _ _ _ h => h) ?_; (simp only [Act.put, Act.eval, Array.getD_eq_getD_getElem?, List.getElem?_toArray, List.getElem?_cons_zero, List.getElem?_cons_succ, Option.getD_some, List.setIfInBounds_toArray, List.set_cons_zero, List.set_cons_succ])) | (refine wpCan_nilCheck rfl rfl rfl (fun _ _ _ _ h => h) ?_; (simp only [Act.put, List.setIfInBounds_toArray, List.set_cons_zero, List.set_cons_succ])) | (refine wpCan_q rfl rfl (fun _ _ _ _ h => h) (by first | exact .bin rfl rfl rfl | exact .indexAddr rfl | exact .un rfl | exact .extract rfl | exact .index rfl | exact .field rfl | exact .slice rfl) (fun K hK => ?_); go_simp; (try (simp only [↓IntWalk.iteOmega]; go_simp)); (try go_bits); refine hK _ ?_; clear hK K))
  refine wpCan_load_arr rfl rfl rfl (fun _ _ _ _ h => h) RTKey (lt_of_block (w := wr) h5) (keep_below (w := wr.drew) cb (lt_of_block (w := wr) h5) h5) ?_
  (try simp only [Act.put, List.setIfInBounds_toArray, List.set_cons_zero, List.set_cons_succ])
  refine wpCan_load_arr rfl rfl rfl (fun _ _ _ _ h => h) RTKey (lt_of_block (w := wr) h2) (keep_below (w := wr.drew) cb (lt_of_block (w := wr) h2) h2) ?_
  (try simp only [Act.put, List.setIfInBounds_toArray, List.set_cons_zero, List.set_cons_succ])
  refine wpCan_load_arr rfl rfl rfl (fun _ _ _ _ h => h) RTKey (lt_of_block (w := wr) h1) (keep_below (w := wr.drew) cb (lt_of_block (w := wr) h1) h1) ?_
  (try simp only [Act.put, List.setIfInBounds_toArray, List.set_cons_zero, List.set_cons_succ])
  refine wpCan_e rfl (fun K hK => ?_)
  go_simp
  refine (Mult_any (clampN k) u (clamp_lt Hk.out) Hu.out _).mono ?_
  rintro e v2 ⟨rfl, b2⟩
  refine hK _ _ (Keep.of_below b2 cb.size) ?_
  clear hK K
  (try simp only [Act.put, List.setIfInBounds_toArray, List.set_cons_zero, List.set_cons_succ])
  replace cb := cb.trans (b2.mono cb.size)
  clear b2
  refine wpCan_all rfl (fun _ _ _ _ h => h) (fun w' => run_op_eqArr (op := .eql) rfl ITKey rfl rfl) ?_
  rw [sameTo_true (fun i _ => by rw [mult_clamp])]
  (try simp only [Act.put, List.setIfInBounds_toArray, List.set_cons_zero, List.set_cons_succ])
  refine wpCan_pick rfl rfl rfl (fun _ _ _ _ h => h) ?_
  simp only [if_true]
  (try simp only [Act.put, List.setIfInBounds_toArray, List.set_cons_zero, List.set_cons_succ])
  iterate 1 (first | (refine wpCan_move rfl rfl (fun _ _ _ _ h => h) ?_; (simp only [Act.put, Act.eval, Array.getD_eq_getD_getElem?, List.getElem?_toArray, List.getElem?_cons_zero, List.getElem?_cons_succ, Option.getD_some, List.setIfInBounds_toArray, List.set_cons_zero, List.set_cons_succ])) | (refine wpCan_assign rfl rfl (fun _ _ _ _ h => h) ?_; (simp only [Act.put, Act.eval, Array.getD_eq_getD_getElem?, List.getElem?_toArray, List.getElem?_cons_zero, List.getElem?_cons_succ, Option.getD_some, List.setIfInBounds_toArray, List.set_cons_zero, List.set_cons_succ])) | (refine wpCan_nilCheck rfl rfl rfl (fun _ _ _ _ h => h) ?_; (simp only [Act.put, List.setIfInBounds_toArray, List.set_cons_zero, List.set_cons_succ])) | (refine wpCan_q rfl rfl (fun _ _ _ _ h => h) (by first | exact .bin rfl rfl rfl | exact .indexAddr rfl | exact .un rfl | exact .extract rfl | exact .index rfl | exact .field rfl | exact .slice rfl) (fun K hK => ?_); go_simp; (try (simp only [↓IntWalk.iteOmega]; go_simp)); (try go_bits); refine hK _ ?_; clear hK K))
  refine wpCan_load_arr rfl rfl rfl (fun _ _ _ _ h => h) RTKey (lt_of_block (w := wr) h5) (keep_below (w := wr.drew) cb (lt_of_block (w := wr) h5) h5) ?_
  (try simp only [Act.put, List.setIfInBounds_toArray, List.set_cons_zero, List.set_cons_succ])
  refine wpCan_load_arr rfl rfl rfl (fun _ _ _ _ h => h) RTKey (lt_of_block (w := wr) h0) (keep_below (w := wr.drew) cb (lt_of_block (w := wr) h0) h0) ?_
  (try simp only [Act.put, List.setIfInBounds_toArray, List.set_cons_zero, List.set_cons_succ])
  refine wpCan_load_arr rfl rfl rfl (fun _ _ _ _ h => h) RTKey (lt_of_block (w := wr) h3) (keep_below (w := wr.drew) cb (lt_of_block (w := wr) h3) h3) ?_
  (try simp only [Act.put, List.setIfInBounds_toArray, List.set_cons_zero, List.set_cons_succ])
  refine wpCan_e rfl (fun K hK => ?_)
  go_simp
  refine (Mult_any k (topN u) Hk.out (topN_lt Hu.out) _).mono ?_
  rintro e v3 ⟨rfl, b3⟩
  refine hK _ _ (Keep.of_below b3 cb.size) ?_
  clear hK K
  (try simp only [Act.put, List.setIfInBounds_toArray, List.set_cons_zero, List.set_cons_succ])
  replace cb := cb.trans (b3.mono cb.size)
  clear b3
  refine wpCan_all rfl (fun _ _ _ _ h => h) (fun w' => run_op_eqArr (op := .eql) rfl ITKey rfl rfl) ?_
  rw [sameTo_true (fun i _ => by rw [keyU_top Hu.out])]
  (try simp only [Act.put, List.setIfInBounds_toArray, List.set_cons_zero, List.set_cons_succ])
  refine wpCan_pick rfl rfl rfl (fun _ _ _ _ h => h) ?_
  simp only [if_true]
  (try simp only [Act.put, List.setIfInBounds_toArray, List.set_cons_zero, List.set_cons_succ])
  iterate 3 (first | (refine wpCan_move rfl rfl (fun _ _ _ _ h => h) ?_; (simp only [Act.put, Act.eval, Array.getD_eq_getD_getElem?, List.getElem?_toArray, List.getElem?_cons_zero, List.getElem?_cons_succ, Option.getD_some, List.setIfInBounds_toArray, List.set_cons_zero, List.set_cons_succ])) | (refine wpCan_assign rfl rfl (fun _ _ _ _ h => h) ?_; (simp only [Act.put, Act.eval, Array.getD_eq_getD_getElem?, List.getElem?_toArray, List.getElem?_cons_zero, List.getElem?_cons_succ, Option.getD_some, List.setIfInBounds_toArray, List.set_cons_zero, List.set_cons_succ])) | (refine wpCan_nilCheck rfl rfl rfl (fun _ _ _ _ h => h) ?_; (simp only [Act.put, List.setIfInBounds_toArray, List.set_cons_zero, List.set_cons_succ])) | (refine wpCan_q rfl rfl (fun _ _ _ _ h => h) (by first | exact .bin rfl rfl rfl | exact .indexAddr rfl | exact .un rfl | exact .extract rfl | exact .index rfl | exact .field rfl | exact .slice rfl) (fun K hK => ?_); go_simp; (try (simp only [↓IntWalk.iteOmega]; go_simp)); (try go_bits); refine hK _ ?_; clear hK K))
  refine wpCan_pick rfl rfl rfl (fun _ _ _ _ h => h) ?_
  simp only [if_true]
  (try simp only [Act.put, List.setIfInBounds_toArray, List.set_cons_zero, List.set_cons_succ])
  iterate 1 (first | (refine wpCan_move rfl rfl (fun _ _ _ _ h => h) ?_; (simp only [Act.put, Act.eval, Array.getD_eq_getD_getElem?, List.getElem?_toArray, List.getElem?_cons_zero, List.getElem?_cons_succ, Option.getD_some, List.setIfInBounds_toArray, List.set_cons_zero, List.set_cons_succ])) | (refine wpCan_assign rfl rfl (fun _ _ _ _ h => h) ?_; (simp only [Act.put, Act.eval, Array.getD_eq_getD_getElem?, List.getElem?_toArray, List.getElem?_cons_zero, List.getElem?_cons_succ, Option.getD_some, List.setIfInBounds_toArray, List.set_cons_zero, List.set_cons_succ])) | (refine wpCan_nilCheck rfl rfl rfl (fun _ _ _ _ h => h) ?_; (simp only [Act.put, List.setIfInBounds_toArray, List.set_cons_zero, List.set_cons_succ])) | (refine wpCan_q rfl rfl (fun _ _ _ _ h => h) (by first | exact .bin rfl rfl rfl | exact .indexAddr rfl | exact .un rfl | exact .extract rfl | exact .index rfl | exact .field rfl | exact .slice rfl) (fun K hK => ?_); go_simp; (try (simp only [↓IntWalk.iteOmega]; go_simp)); (try go_bits); refine hK _ ?_; clear hK K))
  refine wpCan_load_arr rfl rfl rfl (fun _ _ _ _ h => h) RTKey (lt_of_block (w := wr) h5) (keep_below (w := wr.drew) cb (lt_of_block (w := wr) h5) h5) ?_
  (try simp only [Act.put, List.setIfInBounds_toArray, List.set_cons_zero, List.set_cons_succ])
  refine wpCan_load_arr rfl rfl rfl (fun _ _ _ _ h => h) RTKey (lt_of_block (w := wr) h0) (keep_below (w := wr.drew) cb (lt_of_block (w := wr) h0) h0) ?_
  (try simp only [Act.put, List.setIfInBounds_toArray, List.set_cons_zero, List.set_cons_succ])
  refine wpCan_load_arr rfl rfl rfl (fun _ _ _ _ h => h) RTKey (lt_of_block (w := wr) h4) (keep_below (w := wr.drew) cb (lt_of_block (w := wr) h4) h4) ?_
  (try simp only [Act.put, List.setIfInBounds_toArray, List.set_cons_zero, List.set_cons_succ])
  refine wpCan_e rfl (fun K hK => ?_)
  go_simp
  refine (Mult_any k (byteN (keyU u)) Hk.out (fun i _ => byteN_lt _ i) _).mono ?_
  rintro e v4 ⟨rfl, b4⟩
  refine hK _ _ (Keep.of_below b4 cb.size) ?_
  clear hK K
  (try simp only [Act.put, List.setIfInBounds_toArray, List.set_cons_zero, List.set_cons_succ])
  replace cb := cb.trans (b4.mono cb.size)
  clear b4
  refine wpCan_all rfl (fun _ _ _ _ h => h) (fun w' => run_op_eqArr (op := .eql) rfl ITKey rfl rfl) ?_
  rw [sameTo_true (fun i _ => by rw [keyU_byte _ (keyU_lt u)])]
  (try simp only [Act.put, List.setIfInBounds_toArray, List.set_cons_zero, List.set_cons_succ])
  refine wpCan_pick rfl rfl rfl (fun _ _ _ _ h => h) ?_
  simp only [if_true]
  (try simp only [Act.put, List.setIfInBounds_toArray, List.set_cons_zero, List.set_cons_succ])
  iterate 3 (first | (refine wpCan_move rfl rfl (fun _ _ _ _ h => h) ?_; (simp only [Act.put, Act.eval, Array.getD_eq_getD_getElem?, List.getElem?_toArray, List.getElem?_cons_zero, List.getElem?_cons_succ, Option.getD_some, List.setIfInBounds_toArray, List.set_cons_zero, List.set_cons_succ])) | (refine wpCan_assign rfl rfl (fun _ _ _ _ h => h) ?_; (simp only [Act.put, Act.eval, Array.getD_eq_getD_getElem?, List.getElem?_toArray, List.getElem?_cons_zero, List.getElem?_cons_succ, Option.getD_some, List.setIfInBounds_toArray, List.set_cons_zero, List.set_cons_succ])) | (refine wpCan_nilCheck rfl rfl rfl (fun _ _ _ _ h => h) ?_; (simp only [Act.put, List.setIfInBounds_toArray, List.set_cons_zero, List.set_cons_succ])) | (refine wpCan_q rfl rfl (fun _ _ _ _ h => h) (by first | exact .bin rfl rfl rfl | exact .indexAddr rfl | exact .un rfl | exact .extract rfl | exact .index rfl | exact .field rfl | exact .slice rfl) (fun K hK => ?_); go_simp; (try (simp only [↓IntWalk.iteOmega]; go_simp)); (try go_bits); refine hK _ ?_; clear hK K))
  refine wpCan_pick rfl rfl rfl (fun _ _ _ _ h => h) ?_
  simp only [if_true]
  (try simp only [Act.put, List.setIfInBounds_toArray, List.set_cons_zero, List.set_cons_succ])
  iterate 1 (first | (refine wpCan_move rfl rfl (fun _ _ _ _ h => h) ?_; (simp only [Act.put, Act.eval, Array.getD_eq_getD_getElem?, List.getElem?_toArray, List.getElem?_cons_zero, List.getElem?_cons_succ, Option.getD_some, List.setIfInBounds_toArray, List.set_cons_zero, List.set_cons_succ])) | (refine wpCan_assign rfl rfl (fun _ _ _ _ h => h) ?_; (simp only [Act.put, Act.eval, Array.getD_eq_getD_getElem?, List.getElem?_toArray, List.getElem?_cons_zero, List.getElem?_cons_succ, Option.getD_some, List.setIfInBounds_toArray, List.set_cons_zero, List.set_cons_succ])) | (refine wpCan_nilCheck rfl rfl rfl (fun _ _ _ _ h => h) ?_; (simp only [Act.put, List.setIfInBounds_toArray, List.set_cons_zero, List.set_cons_succ])) | (refine wpCan_q rfl rfl (fun _ _ _ _ h => h) (by first | exact .bin rfl rfl rfl | exact .indexAddr rfl | exact .un rfl | exact .extract rfl | exact .index rfl | exact .field rfl | exact .slice rfl) (fun K hK => ?_); go_simp; (try (simp only [↓IntWalk.iteOmega]; go_simp)); (try go_bits); refine hK _ ?_; clear hK K))
  refine wpCan_load_arr rfl rfl rfl (fun _ _ _ _ h => h) RTKey (lt_of_block (w := wr) h6) (keep_below (w := wr.drew) cb (lt_of_block (w := wr) h6) h6) ?_
  (try simp only [Act.put, List.setIfInBounds_toArray, List.set_cons_zero, List.set_cons_succ])
  refine wpCan_load_arr rfl rfl rfl (fun _ _ _ _ h => h) RTKey (lt_of_block (w := wr) h5) (keep_below (w := wr.drew) cb (lt_of_block (w := wr) h5) h5) ?_
  (try simp only [Act.put, List.setIfInBounds_toArray, List.set_cons_zero, List.set_cons_succ])
  refine wpCan_all rfl (fun _ _ _ _ h => h) (fun w' => run_op_eqArr (op := .eql) rfl ITKey rfl rfl) ?_
  rw [sameTo_true (fun i _ => by rw [keyU_byte _ (mult_lt k (keyU u))])]
  (try simp only [Act.put, List.setIfInBounds_toArray, List.set_cons_zero, List.set_cons_succ])
  refine wpCan_pick rfl rfl rfl (fun _ _ _ _ h => h) ?_
  simp only [if_true]
  (try simp only [Act.put, List.setIfInBounds_toArray, List.set_cons_zero, List.set_cons_succ])
  refine wpCan_nil ?_
  go_wp2
  go_ret
  exact ⟨rfl, hb.drew.trans (cb.mono hb.size)⟩
theorem CurveBits_any (k : Nat → Int) (hk : ∀ i, i < 32 → 0 ≤ k i ∧ k i < 256) (u : Nat → Int) (hu : ∀ i, i < 32 → 0 ≤ u i ∧ u i < 256) (w : World) :
    Calls Try.prog 5 #[.agg (arr .u8 32 k), .agg (arr .u8 32 u)] w fun e w' => e = .returned (.bool true) ∧ Below w.heap.size w w' := by
  rw [show arr .u8 32 k = arr .u8 32 fun i => (((fun i => (k i).toNat) i : Nat) : Int) from arr_ext fun i hi => by have := hk i hi; dsimp only; omega]
  rw [show arr .u8 32 u = arr .u8 32 fun i => (((fun i => (u i).toNat) i : Nat) : Int) from arr_ext fun i hi => by have := hu i hi; dsimp only; omega]
  exact CurveBits_nat (fun i => (k i).toNat) (fun i hi => by have := hk i hi; show (k i).toNat < 256; omega) (fun i => (u i).toNat) (fun i hi => by have := hu i hi; show (u i).toNat < 256; omega) w
end Go.Proofs.Ythgjhipfgdlbnaa
