/- The law FeReckons: whatever the numbers and the bytes, it answers true. -/
import Derived.Test.YtjabpamcpeaboaaFeT
namespace Go.Proofs.Ytjabpamcpeaboaa
set_option linter.unusedSimpArgs false
set_option linter.unusedVariables false
open Go.RowKit
theorem cut_val (k : Nat → Nat) (hk : ∀ i, i < 32 → k i < 256) : kvN (cutB k) 32 = kvN k 32 % 57896044618658097711785492504343953926634992332820282019728792003956564819968 := by
  have e1 : kvN (cutB k) 31 = kvN k 31 := kvN_congr _ _ 31 (fun i hi => by unfold cutB; rw [if_neg (by omega)])
  have e2 : kvN (cutB k) 32 = kvN (cutB k) 31 + cutB k 31 * 2 ^ (8 * 31) := rfl
  have e3 : kvN k 32 = kvN k 31 + k 31 * 2 ^ (8 * 31) := rfl
  have h1 := kvN_lt k 31 (fun i hi => hk i (by omega)) 31 (Nat.le_refl _)
  have h2 : cutB k 31 = k 31 % 128 := by unfold cutB; rw [if_pos rfl]
  rw [e2, e3, e1, h2]
  generalize kvN k 31 = v at *
  generalize k 31 = x at *
  rw [show (2 : Nat) ^ (8 * 31) = 452312848583266388373324160190187140051835877600158453279131187530910662656 from rfl] at *
  omega
theorem of_fits (k : Nat → Nat) (hk : ∀ i, i < 32 → k i < 256) : valN (ofN k) 5 % pN = kvN (cutB k) 32 % pN := by
  have e : valN (ofN k) 5 = valN (digN (kvN k 32)) 5 := by
    rw [valN_five, valN_five]
    simp only [ofN_dig]
  rw [e, val_dig, cut_val k hk]
theorem num_same (a b : Nat) (ha : a < 2 ^ 256) (hb : b < 2 ^ 256) : sameTo (fun i => ((partN a i : Nat) : Int)) (fun i => ((partN b i : Nat) : Int)) 16 0 = decide (a = b) := by
  by_cases h : a = b
  · rw [h, decide_eq_true rfl]
    exact sameTo_true fun _ _ => rfl
  · rw [decide_eq_false h]
    rw [← Bool.not_eq_true]
    intro hs
    have h1 := sameTo_all hs
    apply h
    have h2 : val16 (partN a) 16 = val16 (partN b) 16 := val16_congr _ _ 16 (fun i hi => by have := h1 i hi; omega)
    rwa [part_val, part_val, Nat.mod_eq_of_lt ha, Nat.mod_eq_of_lt hb] at h2
attribute [local irreducible] val16 ovR loR partN boN passN pN plusL accR valN byteN bytesN sqM invM accN prodN carN diffN sqN sumN difN oneF invN sameN powN ofN kvN cutB

theorem zero_arr {H : Nat → Nat} (h : ∀ i, H i = 0) : (arr .u64 5 fun k => ((H k : Nat) : Int)) = arr .u64 5 fun _ => 0 := arr_ext fun i _ => by rw [h i]; rfl
theorem Add_no (F G : Nat → Nat) (hF : ∀ i, i < 5 → F i < 18446744073709551616) (hG : ∀ i, i < 5 → G i < 18446744073709551616) (h : ¬ (okF F 5 ∧ okF G 5)) (w : World) : Calls Try.prog 19 #[.agg (arr .u64 5 fun i => ((F i : Nat) : Int)), .agg (arr .u64 5 fun i => ((G i : Nat) : Int))] w fun e w' => e = .returned (.tuple #[.agg (arr .u64 5 fun _ => 0), .int .i64 1]) ∧ Below w.heap.size w w' :=
  (Add_any F G hF hG w).mono fun e w' hh => by
    rw [if_neg h, zero_arr (H := addN F G) (fun i => by unfold addN; rw [if_neg h])] at hh
    exact hh
theorem Mul_no (F G : Nat → Nat) (hF : ∀ i, i < 5 → F i < 18446744073709551616) (hG : ∀ i, i < 5 → G i < 18446744073709551616) (h : ¬ (okF F 5 ∧ okF G 5)) (w : World) : Calls Try.prog 18 #[.agg (arr .u64 5 fun i => ((F i : Nat) : Int)), .agg (arr .u64 5 fun i => ((G i : Nat) : Int))] w fun e w' => e = .returned (.tuple #[.agg (arr .u64 5 fun _ => 0), .int .i64 1]) ∧ Below w.heap.size w w' :=
  (Mul_any F G hF hG w).mono fun e w' hh => by
    unfold mulN at hh
    rw [if_neg h, told2_no h] at hh
    exact hh
theorem Sub_no (F G : Nat → Nat) (hF : ∀ i, i < 5 → F i < 18446744073709551616) (hG : ∀ i, i < 5 → G i < 18446744073709551616) (h : ¬ (okF F 5 ∧ okF G 5)) (w : World) : Calls Try.prog 20 #[.agg (arr .u64 5 fun i => ((F i : Nat) : Int)), .agg (arr .u64 5 fun i => ((G i : Nat) : Int))] w fun e w' => e = .returned (.tuple #[.agg (arr .u64 5 fun _ => 0), .int .i64 1]) ∧ Below w.heap.size w w' :=
  (Sub_any F G hF hG w).mono fun e w' hh => by
    unfold subN at hh
    rw [if_neg h, told2_no h] at hh
    exact hh
theorem Same_is (F G : Nat → Nat) (hF : okF F 5) (hG : okF G 5) {b : Bool} (h : sameN F G = b) (w : World) : Calls Try.prog 14 #[.agg (arr .u64 5 fun i => ((F i : Nat) : Int)), .agg (arr .u64 5 fun i => ((G i : Nat) : Int))] w fun e w' => e = .returned (.bool b) ∧ Below w.heap.size w w' :=
  (Same_any F G (ok_big hF) (ok_big hG) w).mono fun e w' hh => by rw [h] at hh; exact hh
theorem Same_none (F G : Nat → Nat) (hF : ∀ i, i < 5 → F i < 18446744073709551616) (hG : ∀ i, i < 5 → G i < 18446744073709551616) (h : ¬ (okF F 5 ∧ okF G 5)) (w : World) : Calls Try.prog 14 #[.agg (arr .u64 5 fun i => ((F i : Nat) : Int)), .agg (arr .u64 5 fun i => ((G i : Nat) : Int))] w fun e w' => e = .returned (.bool false) ∧ Below w.heap.size w w' :=
  (Same_any F G hF hG w).mono fun e w' hh => by
    rw [show sameN F G = false from by unfold sameN; rw [decide_eq_false h]; rfl] at hh
    exact hh
set_option maxRecDepth 100000 in
set_option maxHeartbeats 8000000 in
theorem FeReckons_nat (F : Nat → Nat) (hF : ∀ i, i < 5 → F i < 18446744073709551616) (G : Nat → Nat) (hG : ∀ i, i < 5 → G i < 18446744073709551616) (k : Nat → Nat) (hk : ∀ i, i < 32 → k i < 256) (w : World) :
    Calls Try.prog 8 #[.agg (arr .u64 5 fun i => ((F i : Nat) : Int)), .agg (arr .u64 5 fun i => ((G i : Nat) : Int)), .agg (arr .u8 32 fun i => ((k i : Nat) : Int))] w fun e w' => e = .returned (.bool true) ∧ Below w.heap.size w w' := by
  have kf := Lib.hid (of_fits k hk)
  have hk2 := Lib.hid hk
  go_enter Try.func8, Try.ntmps8
  obtain ⟨h0, h1, h2, hsz, hb⟩ := alloc3 w (.cells (arr .u64 5 fun i => ((F i : Nat) : Int)) 24) (.cells (arr .u64 5 fun i => ((G i : Nat) : Int)) 24) (.cells (arr .u8 32 fun i => ((k i : Nat) : Int)) 26)
  go_wp2_with (go_at_call 11; fail)
  refine (live_any _).mono ?_
  rintro e w4 ⟨rfl, b4⟩
  replace h0 := keep_below b4 (by omega) h0
  replace h1 := keep_below b4 (by omega) h1
  replace h2 := keep_below b4 (by omega) h2
  replace hb := hb.trans (b4.mono (by omega))
  clear b4 hsz hk
  go_upto_region 2 with (fail)
  obtain ⟨wr, rfl⟩ : ∃ x, x = w4 := ⟨_, rfl⟩
  refine wp_region_can wr.heap.size 5 [(0, false), (2, false), (1, true), (3, true), (4, true)] (by kernel_rfl) (by kernel_rfl) ?_
  (simp only [canOps, List.getElem?_cons_zero, List.getElem?_cons_succ, List.drop_succ_cons, List.drop_zero])
  refine wpCan_load_arr rfl rfl rfl (fun _ _ _ _ h => h) RTKey (lt_of_block (w := wr) h2) h2 ?_
  (try simp only [Act.put, List.setIfInBounds_toArray, List.set_cons_zero, List.set_cons_succ])
  refine wpCan_load_arr rfl rfl rfl (fun _ _ _ _ h => h) RTKey (lt_of_block (w := wr) h2) h2 ?_
  (try simp only [Act.put, List.setIfInBounds_toArray, List.set_cons_zero, List.set_cons_succ])
  refine wpCan_e rfl (fun K hK => ?_)
  go_simp
  refine (Of_any k hk2.out _).mono ?_
  rintro e v1 ⟨rfl, b1⟩
  refine hK _ _ (Keep.of_below b1 (Nat.le_refl _)) ?_
  clear hK K
  (try simp only [Act.put, List.setIfInBounds_toArray, List.set_cons_zero, List.set_cons_succ])
  have cb := b1
  clear b1
  refine wpCan_e rfl (fun K hK => ?_)
  go_simp
  refine (RFromKey_any k hk2.out _).mono ?_
  rintro e v2 ⟨rfl, b2⟩
  refine hK _ _ (Keep.of_below b2 cb.size) ?_
  clear hK K
  (try simp only [Act.put, List.setIfInBounds_toArray, List.set_cons_zero, List.set_cons_succ])
  replace cb := cb.trans (b2.mono cb.size)
  clear b2
  refine wpCan_e rfl (fun K hK => ?_)
  go_simp
  refine (stands_yes (ofN k) (ofN_ok k) _ kf.out _).mono ?_
  rintro e v3 ⟨rfl, b3⟩
  refine hK _ _ (Keep.of_below b3 cb.size) ?_
  clear hK K
  (try simp only [Act.put, List.setIfInBounds_toArray, List.set_cons_zero, List.set_cons_succ])
  replace cb := cb.trans (b3.mono cb.size)
  clear b3
  refine wpCan_nil ?_
  replace h0 := keep_below (w := wr.drew) cb (lt_of_block (w := wr) h0) h0
  replace h1 := keep_below (w := wr.drew) cb (lt_of_block (w := wr) h1) h1
  replace h2 := keep_below (w := wr.drew) cb (lt_of_block (w := wr) h2) h2
  replace hb := hb.drew.trans (cb.mono hb.size)
  clear cb
  clear h2
  by_cases hq : okF F 5 ∧ okF G 5
  · skip
    obtain ⟨oF, oG⟩ := hq
    obtain ⟨vF, hvF⟩ : ∃ v, v = valN F 5 % pN := ⟨_, rfl⟩
    obtain ⟨vG, hvG⟩ : ∃ v, v = valN G 5 % pN := ⟨_, rfl⟩
    have lF : vF < pN := by rw [hvF]; exact Nat.mod_lt _ pN_pos
    have lG : vG < pN := by rw [hvG]; exact Nat.mod_lt _ pN_pos
    have fF : Fits F vF := ⟨oF, by rw [hvF, Nat.mod_mod]⟩
    have fG : Fits G vG := ⟨oG, by rw [hvG, Nat.mod_mod]⟩
    have sF := Lib.hid hvF.symm
    have sG := Lib.hid hvG.symm
    have fS := sum_fits fF fG
    have fD := dif_fits (c := vF + (pN - vG)) fF fG (by rw [Nat.add_assoc, Nat.sub_add_cancel (Nat.le_of_lt lG), Nat.add_mod_right])
    have fP := prod_fits fF fG
    have eq1 : sameN F G = decide (vF = vG) := by
      rw [hvF, hvG, Bool.eq_iff_iff, same_iff F G oF oG, decide_eq_true_eq]
    have eq2 := num_same vF vG (Nat.lt_trans lF pN_lt) (Nat.lt_trans lG pN_lt)
    generalize decide (vF = vG) = beta at eq1 eq2
    have EQ1 := Lib.hid eq1
    have EQ2 := Lib.hid eq2
    have LF := Lib.hid lF
    have LG := Lib.hid lG
    have FS := Lib.hid fS
    have FD := Lib.hid fD
    have FP := Lib.hid fP
    have OF := Lib.hid oF
    have OG := Lib.hid oG
    clear hvF hvG eq1 eq2 lF lG fS fD fP oF oG fF fG
    go_wp2_with (first | (refine wpList_load_arr rfl rfl rfl RTFe h0 ?_) | (refine wpList_load_arr rfl rfl rfl RTFe h1 ?_) | (go_at_call 19; fail))
    refine (Add_yes F G OF.out OG.out _).mono ?_
    rintro e w4 ⟨rfl, b4⟩
    replace h0 := keep_below b4 (lt_of_block h0) h0
    replace h1 := keep_below b4 (lt_of_block h1) h1
    replace hb := hb.trans (b4.mono hb.size)
    clear b4
    go_upto_region 5 with (refine wpList_new_arr rfl rfl rfl rfl ZTFe RTFe rfl rfl ?_; intro w8 gx b8 hs8)
    have l0 := lt_of_block h0
    replace h0 := keep_below b8 (lt_of_block h0) h0
    replace h1 := keep_below b8 (lt_of_block h1) h1
    replace hb := hb.trans (b8.mono hb.size)
    clear b8 hs8
    obtain ⟨Bgx, hBgx⟩ : ∃ B, B = w4.heap.size := ⟨_, rfl⟩
    rw [← hBgx] at l0 gx ⊢
    clear hBgx
    (try simp only [Act.put, List.setIfInBounds_toArray, List.set_cons_zero, List.set_cons_succ])
    go_wp2_with (first | (refine wpList_load_arr rfl rfl rfl RTFe h0 ?_) | (refine wpList_load_arr rfl rfl rfl RTFe h1 ?_) | (go_at_call 20; fail))
    refine (Sub_yes F G OF.out OG.out _).mono ?_
    rintro e w4 ⟨rfl, b4⟩
    replace h0 := keep_below b4 (lt_of_block h0) h0
    replace h1 := keep_below b4 (lt_of_block h1) h1
    replace gx := keep_below b4 (lt_of_block gx) gx
    replace hb := hb.trans (b4.mono hb.size)
    clear b4
    go_upto_region 6 with (refine wpList_new_arr rfl rfl rfl rfl ZTFe RTFe rfl rfl ?_; intro w8 gy b8 hs8)
    have l0 := lt_of_block h0
    replace h0 := keep_below b8 (lt_of_block h0) h0
    replace h1 := keep_below b8 (lt_of_block h1) h1
    replace gx := keep_below b8 (lt_of_block gx) gx
    replace hb := hb.trans (b8.mono hb.size)
    clear b8 hs8
    obtain ⟨Bgy, hBgy⟩ : ∃ B, B = w4.heap.size := ⟨_, rfl⟩
    rw [← hBgy] at l0 gy ⊢
    clear hBgy
    (try simp only [Act.put, List.setIfInBounds_toArray, List.set_cons_zero, List.set_cons_succ])
    go_wp2_with (first | (refine wpList_load_arr rfl rfl rfl RTFe h0 ?_) | (refine wpList_load_arr rfl rfl rfl RTFe h1 ?_) | (go_at_call 18; fail))
    refine (Mul_yes F G OF.out OG.out _).mono ?_
    rintro e w4 ⟨rfl, b4⟩
    replace h0 := keep_below b4 (lt_of_block h0) h0
    replace h1 := keep_below b4 (lt_of_block h1) h1
    replace gx := keep_below b4 (lt_of_block gx) gx
    replace gy := keep_below b4 (lt_of_block gy) gy
    replace hb := hb.trans (b4.mono hb.size)
    clear b4
    go_upto_region 7 with (refine wpList_new_arr rfl rfl rfl rfl ZTFe RTFe rfl rfl ?_; intro w8 gz b8 hs8)
    have l0 := lt_of_block h0
    replace h0 := keep_below b8 (lt_of_block h0) h0
    replace h1 := keep_below b8 (lt_of_block h1) h1
    replace gx := keep_below b8 (lt_of_block gx) gx
    replace gy := keep_below b8 (lt_of_block gy) gy
    replace hb := hb.trans (b8.mono hb.size)
    clear b8 hs8
    obtain ⟨Bgz, hBgz⟩ : ∃ B, B = w4.heap.size := ⟨_, rfl⟩
    rw [← hBgz] at l0 gz ⊢
    clear hBgz
    (try simp only [Act.put, List.setIfInBounds_toArray, List.set_cons_zero, List.set_cons_succ])
    go_wp2_with (first | (refine wpList_load_arr rfl rfl rfl RTFe h0 ?_) | (go_at_call 16; fail))
    refine (May_yes F OF.out _).mono ?_
    rintro e w4 ⟨rfl, b4⟩
    replace h0 := keep_below b4 (lt_of_block h0) h0
    replace h1 := keep_below b4 (lt_of_block h1) h1
    replace gx := keep_below b4 (lt_of_block gx) gx
    replace gy := keep_below b4 (lt_of_block gy) gy
    replace gz := keep_below b4 (lt_of_block gz) gz
    replace hb := hb.trans (b4.mono hb.size)
    clear b4
    go_wp2_with (first | (refine wpList_val_w rfl (run_op_load rfl rfl (run_loadVar_arr0 RTFe h1)) ?_) | (go_at_call 16; fail))
    refine (May_yes G OG.out _).mono ?_
    rintro e w4 ⟨rfl, b4⟩
    replace h0 := keep_below b4 (lt_of_block h0) h0
    replace h1 := keep_below b4 (lt_of_block h1) h1
    replace gx := keep_below b4 (lt_of_block gx) gx
    replace gy := keep_below b4 (lt_of_block gy) gy
    replace gz := keep_below b4 (lt_of_block gz) gz
    replace hb := hb.trans (b4.mono hb.size)
    clear b4
    go_wp2_with (first | (refine wpList_load_arr rfl rfl rfl RTFe h0 ?_) | (go_at_call 24; fail))
    refine (ROf_any F OF.out _).mono ?_
    rintro e w4 ⟨rfl, b4⟩
    replace h0 := keep_below b4 (lt_of_block h0) h0
    replace h1 := keep_below b4 (lt_of_block h1) h1
    replace gx := keep_below b4 (lt_of_block gx) gx
    replace gy := keep_below b4 (lt_of_block gy) gy
    replace gz := keep_below b4 (lt_of_block gz) gz
    replace hb := hb.trans (b4.mono hb.size)
    clear b4
    rw [sF.out]
    go_upto_region 10 with (refine wpList_new_arr rfl rfl rfl rfl ZTNum RTNum rfl rfl ?_; intro w8 ga b8 hs8)
    have l0 := lt_of_block h0
    replace h0 := keep_below b8 (lt_of_block h0) h0
    replace h1 := keep_below b8 (lt_of_block h1) h1
    replace gx := keep_below b8 (lt_of_block gx) gx
    replace gy := keep_below b8 (lt_of_block gy) gy
    replace gz := keep_below b8 (lt_of_block gz) gz
    replace hb := hb.trans (b8.mono hb.size)
    clear b8 hs8
    obtain ⟨Bga, hBga⟩ : ∃ B, B = w4.heap.size := ⟨_, rfl⟩
    rw [← hBga] at l0 ga ⊢
    clear hBga
    (try simp only [Act.put, List.setIfInBounds_toArray, List.set_cons_zero, List.set_cons_succ])
    go_wp2_with (first | (refine wpList_load_arr rfl rfl rfl RTFe h1 ?_) | (go_at_call 24; fail))
    refine (ROf_any G OG.out _).mono ?_
    rintro e w4 ⟨rfl, b4⟩
    replace h0 := keep_below b4 (lt_of_block h0) h0
    replace h1 := keep_below b4 (lt_of_block h1) h1
    replace gx := keep_below b4 (lt_of_block gx) gx
    replace gy := keep_below b4 (lt_of_block gy) gy
    replace gz := keep_below b4 (lt_of_block gz) gz
    replace ga := keep_below b4 (lt_of_block ga) ga
    replace hb := hb.trans (b4.mono hb.size)
    clear b4
    rw [sG.out]
    go_upto_region 11 with (refine wpList_new_arr rfl rfl rfl rfl ZTNum RTNum rfl rfl ?_; intro w8 gb b8 hs8)
    have l0 := lt_of_block h0
    replace h0 := keep_below b8 (lt_of_block h0) h0
    replace h1 := keep_below b8 (lt_of_block h1) h1
    replace gx := keep_below b8 (lt_of_block gx) gx
    replace gy := keep_below b8 (lt_of_block gy) gy
    replace gz := keep_below b8 (lt_of_block gz) gz
    replace ga := keep_below b8 (lt_of_block ga) ga
    replace hb := hb.trans (b8.mono hb.size)
    clear b8 hs8
    obtain ⟨Bgb, hBgb⟩ : ∃ B, B = w4.heap.size := ⟨_, rfl⟩
    rw [← hBgb] at l0 gb ⊢
    clear hBgb
    (try simp only [Act.put, List.setIfInBounds_toArray, List.set_cons_zero, List.set_cons_succ])
    obtain ⟨wr, rfl⟩ : ∃ x, x = w8 := ⟨_, rfl⟩
    refine wp_region_can wr.heap.size 39 [(0, false), (1, false), (2, false), (3, false), (4, true), (5, false), (6, false), (7, false), (8, false), (9, false), (10, false), (11, true), (12, true), (13, false), (14, false), (15, false), (16, false), (17, false), (18, false), (19, true), (20, true), (21, false), (22, false), (23, false), (24, false), (25, false), (26, false), (27, true), (28, true), (29, false), (30, false), (31, false), (32, false), (34, false), (35, false), (36, false), (33, true), (37, false), (38, false)] (by kernel_rfl) (by kernel_rfl) ?_
    (simp only [canOps, List.getElem?_cons_zero, List.getElem?_cons_succ, List.drop_succ_cons, List.drop_zero])
    iterate 2 (first | (refine wpCan_move rfl rfl (fun _ _ _ _ h => h) ?_; (simp only [Act.put, Act.eval, Array.getD_eq_getD_getElem?, List.getElem?_toArray, List.getElem?_cons_zero, List.getElem?_cons_succ, Option.getD_some, List.setIfInBounds_toArray, List.set_cons_zero, List.set_cons_succ])) | (refine wpCan_assign rfl rfl (fun _ _ _ _ h => h) ?_; (simp only [Act.put, Act.eval, Array.getD_eq_getD_getElem?, List.getElem?_toArray, List.getElem?_cons_zero, List.getElem?_cons_succ, Option.getD_some, List.setIfInBounds_toArray, List.set_cons_zero, List.set_cons_succ])) | (refine wpCan_nilCheck rfl rfl rfl (fun _ _ _ _ h => h) ?_; (simp only [Act.put, List.setIfInBounds_toArray, List.set_cons_zero, List.set_cons_succ])) | (refine wpCan_q rfl rfl (fun _ _ _ _ h => h) (by first | exact .bin rfl rfl rfl | exact .indexAddr rfl | exact .un rfl | exact .extract rfl | exact .index rfl | exact .field rfl | exact .slice rfl) (fun K hK => ?_); go_simp; (try (simp only [↓IntWalk.iteOmega]; go_simp)); (try go_bits); refine hK _ ?_; clear hK K))
    refine wpCan_load_arr rfl rfl rfl (fun _ _ _ _ h => h) RTFe (lt_of_block (w := wr) h0) h0 ?_
    (try simp only [Act.put, List.setIfInBounds_toArray, List.set_cons_zero, List.set_cons_succ])
    refine wpCan_load_arr rfl rfl rfl (fun _ _ _ _ h => h) RTNum (lt_of_block (w := wr) ga) ga ?_
    (try simp only [Act.put, List.setIfInBounds_toArray, List.set_cons_zero, List.set_cons_succ])
    refine wpCan_e rfl (fun K hK => ?_)
    go_simp
    refine (stands_yes F OF.out vF sF.out _).mono ?_
    rintro e v1 ⟨rfl, b1⟩
    refine hK _ _ (Keep.of_below b1 (Nat.le_refl _)) ?_
    clear hK K
    (try simp only [Act.put, List.setIfInBounds_toArray, List.set_cons_zero, List.set_cons_succ])
    have cb := b1
    clear b1
    refine wpCan_pick rfl rfl rfl (fun _ _ _ _ h => h) ?_
    simp only [if_true]
    (try simp only [Act.put, List.setIfInBounds_toArray, List.set_cons_zero, List.set_cons_succ])
    iterate 1 (first | (refine wpCan_move rfl rfl (fun _ _ _ _ h => h) ?_; (simp only [Act.put, Act.eval, Array.getD_eq_getD_getElem?, List.getElem?_toArray, List.getElem?_cons_zero, List.getElem?_cons_succ, Option.getD_some, List.setIfInBounds_toArray, List.set_cons_zero, List.set_cons_succ])) | (refine wpCan_assign rfl rfl (fun _ _ _ _ h => h) ?_; (simp only [Act.put, Act.eval, Array.getD_eq_getD_getElem?, List.getElem?_toArray, List.getElem?_cons_zero, List.getElem?_cons_succ, Option.getD_some, List.setIfInBounds_toArray, List.set_cons_zero, List.set_cons_succ])) | (refine wpCan_nilCheck rfl rfl rfl (fun _ _ _ _ h => h) ?_; (simp only [Act.put, List.setIfInBounds_toArray, List.set_cons_zero, List.set_cons_succ])) | (refine wpCan_q rfl rfl (fun _ _ _ _ h => h) (by first | exact .bin rfl rfl rfl | exact .indexAddr rfl | exact .un rfl | exact .extract rfl | exact .index rfl | exact .field rfl | exact .slice rfl) (fun K hK => ?_); go_simp; (try (simp only [↓IntWalk.iteOmega]; go_simp)); (try go_bits); refine hK _ ?_; clear hK K))
    refine wpCan_load_arr rfl rfl rfl (fun _ _ _ _ h => h) RTFe (lt_of_block (w := wr) gx) (keep_below (w := wr.drew) cb (lt_of_block (w := wr) gx) gx) ?_
    (try simp only [Act.put, List.setIfInBounds_toArray, List.set_cons_zero, List.set_cons_succ])
    iterate 1 (first | (refine wpCan_move rfl rfl (fun _ _ _ _ h => h) ?_; (simp only [Act.put, Act.eval, Array.getD_eq_getD_getElem?, List.getElem?_toArray, List.getElem?_cons_zero, List.getElem?_cons_succ, Option.getD_some, List.setIfInBounds_toArray, List.set_cons_zero, List.set_cons_succ])) | (refine wpCan_assign rfl rfl (fun _ _ _ _ h => h) ?_; (simp only [Act.put, Act.eval, Array.getD_eq_getD_getElem?, List.getElem?_toArray, List.getElem?_cons_zero, List.getElem?_cons_succ, Option.getD_some, List.setIfInBounds_toArray, List.set_cons_zero, List.set_cons_succ])) | (refine wpCan_nilCheck rfl rfl rfl (fun _ _ _ _ h => h) ?_; (simp only [Act.put, List.setIfInBounds_toArray, List.set_cons_zero, List.set_cons_succ])) | (refine wpCan_q rfl rfl (fun _ _ _ _ h => h) (by first | exact .bin rfl rfl rfl | exact .indexAddr rfl | exact .un rfl | exact .extract rfl | exact .index rfl | exact .field rfl | exact .slice rfl) (fun K hK => ?_); go_simp; (try (simp only [↓IntWalk.iteOmega]; go_simp)); (try go_bits); refine hK _ ?_; clear hK K))
    refine wpCan_load_arr rfl rfl rfl (fun _ _ _ _ h => h) RTNum (lt_of_block (w := wr) ga) (keep_below (w := wr.drew) cb (lt_of_block (w := wr) ga) ga) ?_
    (try simp only [Act.put, List.setIfInBounds_toArray, List.set_cons_zero, List.set_cons_succ])
    refine wpCan_load_arr rfl rfl rfl (fun _ _ _ _ h => h) RTNum (lt_of_block (w := wr) gb) (keep_below (w := wr.drew) cb (lt_of_block (w := wr) gb) gb) ?_
    (try simp only [Act.put, List.setIfInBounds_toArray, List.set_cons_zero, List.set_cons_succ])
    refine wpCan_e rfl (fun K hK => ?_)
    go_simp
    refine (RAdd_any vF vG (Nat.lt_trans LF.out pN_lt) (Nat.lt_trans LG.out pN_lt) _).mono ?_
    rintro e v2 ⟨rfl, b2⟩
    refine hK _ _ (Keep.of_below b2 cb.size) ?_
    clear hK K
    (try simp only [Act.put, List.setIfInBounds_toArray, List.set_cons_zero, List.set_cons_succ])
    replace cb := cb.trans (b2.mono cb.size)
    clear b2
    refine wpCan_e rfl (fun K hK => ?_)
    go_simp
    refine (stands_yes (sumN F G) FS.out.1 _ FS.out.2 _).mono ?_
    rintro e v3 ⟨rfl, b3⟩
    refine hK _ _ (Keep.of_below b3 cb.size) ?_
    clear hK K
    (try simp only [Act.put, List.setIfInBounds_toArray, List.set_cons_zero, List.set_cons_succ])
    replace cb := cb.trans (b3.mono cb.size)
    clear b3
    refine wpCan_pick rfl rfl rfl (fun _ _ _ _ h => h) ?_
    simp only [if_true]
    (try simp only [Act.put, List.setIfInBounds_toArray, List.set_cons_zero, List.set_cons_succ])
    iterate 1 (first | (refine wpCan_move rfl rfl (fun _ _ _ _ h => h) ?_; (simp only [Act.put, Act.eval, Array.getD_eq_getD_getElem?, List.getElem?_toArray, List.getElem?_cons_zero, List.getElem?_cons_succ, Option.getD_some, List.setIfInBounds_toArray, List.set_cons_zero, List.set_cons_succ])) | (refine wpCan_assign rfl rfl (fun _ _ _ _ h => h) ?_; (simp only [Act.put, Act.eval, Array.getD_eq_getD_getElem?, List.getElem?_toArray, List.getElem?_cons_zero, List.getElem?_cons_succ, Option.getD_some, List.setIfInBounds_toArray, List.set_cons_zero, List.set_cons_succ])) | (refine wpCan_nilCheck rfl rfl rfl (fun _ _ _ _ h => h) ?_; (simp only [Act.put, List.setIfInBounds_toArray, List.set_cons_zero, List.set_cons_succ])) | (refine wpCan_q rfl rfl (fun _ _ _ _ h => h) (by first | exact .bin rfl rfl rfl | exact .indexAddr rfl | exact .un rfl | exact .extract rfl | exact .index rfl | exact .field rfl | exact .slice rfl) (fun K hK => ?_); go_simp; (try (simp only [↓IntWalk.iteOmega]; go_simp)); (try go_bits); refine hK _ ?_; clear hK K))
    refine wpCan_load_arr rfl rfl rfl (fun _ _ _ _ h => h) RTFe (lt_of_block (w := wr) gy) (keep_below (w := wr.drew) cb (lt_of_block (w := wr) gy) gy) ?_
    (try simp only [Act.put, List.setIfInBounds_toArray, List.set_cons_zero, List.set_cons_succ])
    iterate 1 (first | (refine wpCan_move rfl rfl (fun _ _ _ _ h => h) ?_; (simp only [Act.put, Act.eval, Array.getD_eq_getD_getElem?, List.getElem?_toArray, List.getElem?_cons_zero, List.getElem?_cons_succ, Option.getD_some, List.setIfInBounds_toArray, List.set_cons_zero, List.set_cons_succ])) | (refine wpCan_assign rfl rfl (fun _ _ _ _ h => h) ?_; (simp only [Act.put, Act.eval, Array.getD_eq_getD_getElem?, List.getElem?_toArray, List.getElem?_cons_zero, List.getElem?_cons_succ, Option.getD_some, List.setIfInBounds_toArray, List.set_cons_zero, List.set_cons_succ])) | (refine wpCan_nilCheck rfl rfl rfl (fun _ _ _ _ h => h) ?_; (simp only [Act.put, List.setIfInBounds_toArray, List.set_cons_zero, List.set_cons_succ])) | (refine wpCan_q rfl rfl (fun _ _ _ _ h => h) (by first | exact .bin rfl rfl rfl | exact .indexAddr rfl | exact .un rfl | exact .extract rfl | exact .index rfl | exact .field rfl | exact .slice rfl) (fun K hK => ?_); go_simp; (try (simp only [↓IntWalk.iteOmega]; go_simp)); (try go_bits); refine hK _ ?_; clear hK K))
    refine wpCan_load_arr rfl rfl rfl (fun _ _ _ _ h => h) RTNum (lt_of_block (w := wr) ga) (keep_below (w := wr.drew) cb (lt_of_block (w := wr) ga) ga) ?_
    (try simp only [Act.put, List.setIfInBounds_toArray, List.set_cons_zero, List.set_cons_succ])
    refine wpCan_load_arr rfl rfl rfl (fun _ _ _ _ h => h) RTNum (lt_of_block (w := wr) gb) (keep_below (w := wr.drew) cb (lt_of_block (w := wr) gb) gb) ?_
    (try simp only [Act.put, List.setIfInBounds_toArray, List.set_cons_zero, List.set_cons_succ])
    refine wpCan_e rfl (fun K hK => ?_)
    go_simp
    refine (RSub_any vF vG (Nat.lt_trans LF.out pN_lt) LG.out _).mono ?_
    rintro e v4 ⟨rfl, b4⟩
    refine hK _ _ (Keep.of_below b4 cb.size) ?_
    clear hK K
    (try simp only [Act.put, List.setIfInBounds_toArray, List.set_cons_zero, List.set_cons_succ])
    replace cb := cb.trans (b4.mono cb.size)
    clear b4
    refine wpCan_e rfl (fun K hK => ?_)
    go_simp
    refine (stands_yes (difN F G) FD.out.1 _ FD.out.2 _).mono ?_
    rintro e v5 ⟨rfl, b5⟩
    refine hK _ _ (Keep.of_below b5 cb.size) ?_
    clear hK K
    (try simp only [Act.put, List.setIfInBounds_toArray, List.set_cons_zero, List.set_cons_succ])
    replace cb := cb.trans (b5.mono cb.size)
    clear b5
    refine wpCan_pick rfl rfl rfl (fun _ _ _ _ h => h) ?_
    simp only [if_true]
    (try simp only [Act.put, List.setIfInBounds_toArray, List.set_cons_zero, List.set_cons_succ])
    iterate 1 (first | (refine wpCan_move rfl rfl (fun _ _ _ _ h => h) ?_; (simp only [Act.put, Act.eval, Array.getD_eq_getD_getElem?, List.getElem?_toArray, List.getElem?_cons_zero, List.getElem?_cons_succ, Option.getD_some, List.setIfInBounds_toArray, List.set_cons_zero, List.set_cons_succ])) | (refine wpCan_assign rfl rfl (fun _ _ _ _ h => h) ?_; (simp only [Act.put, Act.eval, Array.getD_eq_getD_getElem?, List.getElem?_toArray, List.getElem?_cons_zero, List.getElem?_cons_succ, Option.getD_some, List.setIfInBounds_toArray, List.set_cons_zero, List.set_cons_succ])) | (refine wpCan_nilCheck rfl rfl rfl (fun _ _ _ _ h => h) ?_; (simp only [Act.put, List.setIfInBounds_toArray, List.set_cons_zero, List.set_cons_succ])) | (refine wpCan_q rfl rfl (fun _ _ _ _ h => h) (by first | exact .bin rfl rfl rfl | exact .indexAddr rfl | exact .un rfl | exact .extract rfl | exact .index rfl | exact .field rfl | exact .slice rfl) (fun K hK => ?_); go_simp; (try (simp only [↓IntWalk.iteOmega]; go_simp)); (try go_bits); refine hK _ ?_; clear hK K))
    refine wpCan_load_arr rfl rfl rfl (fun _ _ _ _ h => h) RTFe (lt_of_block (w := wr) gz) (keep_below (w := wr.drew) cb (lt_of_block (w := wr) gz) gz) ?_
    (try simp only [Act.put, List.setIfInBounds_toArray, List.set_cons_zero, List.set_cons_succ])
    iterate 1 (first | (refine wpCan_move rfl rfl (fun _ _ _ _ h => h) ?_; (simp only [Act.put, Act.eval, Array.getD_eq_getD_getElem?, List.getElem?_toArray, List.getElem?_cons_zero, List.getElem?_cons_succ, Option.getD_some, List.setIfInBounds_toArray, List.set_cons_zero, List.set_cons_succ])) | (refine wpCan_assign rfl rfl (fun _ _ _ _ h => h) ?_; (simp only [Act.put, Act.eval, Array.getD_eq_getD_getElem?, List.getElem?_toArray, List.getElem?_cons_zero, List.getElem?_cons_succ, Option.getD_some, List.setIfInBounds_toArray, List.set_cons_zero, List.set_cons_succ])) | (refine wpCan_nilCheck rfl rfl rfl (fun _ _ _ _ h => h) ?_; (simp only [Act.put, List.setIfInBounds_toArray, List.set_cons_zero, List.set_cons_succ])) | (refine wpCan_q rfl rfl (fun _ _ _ _ h => h) (by first | exact .bin rfl rfl rfl | exact .indexAddr rfl | exact .un rfl | exact .extract rfl | exact .index rfl | exact .field rfl | exact .slice rfl) (fun K hK => ?_); go_simp; (try (simp only [↓IntWalk.iteOmega]; go_simp)); (try go_bits); refine hK _ ?_; clear hK K))
    refine wpCan_load_arr rfl rfl rfl (fun _ _ _ _ h => h) RTNum (lt_of_block (w := wr) ga) (keep_below (w := wr.drew) cb (lt_of_block (w := wr) ga) ga) ?_
    (try simp only [Act.put, List.setIfInBounds_toArray, List.set_cons_zero, List.set_cons_succ])
    refine wpCan_load_arr rfl rfl rfl (fun _ _ _ _ h => h) RTNum (lt_of_block (w := wr) gb) (keep_below (w := wr.drew) cb (lt_of_block (w := wr) gb) gb) ?_
    (try simp only [Act.put, List.setIfInBounds_toArray, List.set_cons_zero, List.set_cons_succ])
    refine wpCan_e rfl (fun K hK => ?_)
    go_simp
    refine (RMul_any vF vG (Nat.lt_trans LF.out pN_lt) (Nat.lt_trans LG.out pN_lt) _).mono ?_
    rintro e v6 ⟨rfl, b6⟩
    refine hK _ _ (Keep.of_below b6 cb.size) ?_
    clear hK K
    (try simp only [Act.put, List.setIfInBounds_toArray, List.set_cons_zero, List.set_cons_succ])
    replace cb := cb.trans (b6.mono cb.size)
    clear b6
    refine wpCan_e rfl (fun K hK => ?_)
    go_simp
    refine (stands_yes (prodN F G) FP.out.1 _ FP.out.2 _).mono ?_
    rintro e v7 ⟨rfl, b7⟩
    refine hK _ _ (Keep.of_below b7 cb.size) ?_
    clear hK K
    (try simp only [Act.put, List.setIfInBounds_toArray, List.set_cons_zero, List.set_cons_succ])
    replace cb := cb.trans (b7.mono cb.size)
    clear b7
    refine wpCan_pick rfl rfl rfl (fun _ _ _ _ h => h) ?_
    simp only [if_true]
    (try simp only [Act.put, List.setIfInBounds_toArray, List.set_cons_zero, List.set_cons_succ])
    iterate 1 (first | (refine wpCan_move rfl rfl (fun _ _ _ _ h => h) ?_; (simp only [Act.put, Act.eval, Array.getD_eq_getD_getElem?, List.getElem?_toArray, List.getElem?_cons_zero, List.getElem?_cons_succ, Option.getD_some, List.setIfInBounds_toArray, List.set_cons_zero, List.set_cons_succ])) | (refine wpCan_assign rfl rfl (fun _ _ _ _ h => h) ?_; (simp only [Act.put, Act.eval, Array.getD_eq_getD_getElem?, List.getElem?_toArray, List.getElem?_cons_zero, List.getElem?_cons_succ, Option.getD_some, List.setIfInBounds_toArray, List.set_cons_zero, List.set_cons_succ])) | (refine wpCan_nilCheck rfl rfl rfl (fun _ _ _ _ h => h) ?_; (simp only [Act.put, List.setIfInBounds_toArray, List.set_cons_zero, List.set_cons_succ])) | (refine wpCan_q rfl rfl (fun _ _ _ _ h => h) (by first | exact .bin rfl rfl rfl | exact .indexAddr rfl | exact .un rfl | exact .extract rfl | exact .index rfl | exact .field rfl | exact .slice rfl) (fun K hK => ?_); go_simp; (try (simp only [↓IntWalk.iteOmega]; go_simp)); (try go_bits); refine hK _ ?_; clear hK K))
    refine wpCan_load_arr rfl rfl rfl (fun _ _ _ _ h => h) RTFe (lt_of_block (w := wr) h0) (keep_below (w := wr.drew) cb (lt_of_block (w := wr) h0) h0) ?_
    (try simp only [Act.put, List.setIfInBounds_toArray, List.set_cons_zero, List.set_cons_succ])
    refine wpCan_load_arr rfl rfl rfl (fun _ _ _ _ h => h) RTFe (lt_of_block (w := wr) h1) (keep_below (w := wr.drew) cb (lt_of_block (w := wr) h1) h1) ?_
    (try simp only [Act.put, List.setIfInBounds_toArray, List.set_cons_zero, List.set_cons_succ])
    refine wpCan_load_arr rfl rfl rfl (fun _ _ _ _ h => h) RTNum (lt_of_block (w := wr) ga) (keep_below (w := wr.drew) cb (lt_of_block (w := wr) ga) ga) ?_
    (try simp only [Act.put, List.setIfInBounds_toArray, List.set_cons_zero, List.set_cons_succ])
    refine wpCan_load_arr rfl rfl rfl (fun _ _ _ _ h => h) RTNum (lt_of_block (w := wr) gb) (keep_below (w := wr.drew) cb (lt_of_block (w := wr) gb) gb) ?_
    (try simp only [Act.put, List.setIfInBounds_toArray, List.set_cons_zero, List.set_cons_succ])
    refine wpCan_all rfl (fun _ _ _ _ h => h) (fun w' => run_op_eqArr (op := .eql) rfl ITNum rfl rfl) ?_
    rw [EQ2.out]
    (try simp only [Act.put, List.setIfInBounds_toArray, List.set_cons_zero, List.set_cons_succ])
    refine wpCan_e rfl (fun K hK => ?_)
    go_simp
    refine (Same_is F G OF.out OG.out EQ1.out _).mono ?_
    rintro e v8 ⟨rfl, b8⟩
    refine hK _ _ (Keep.of_below b8 cb.size) ?_
    clear hK K
    (try simp only [Act.put, List.setIfInBounds_toArray, List.set_cons_zero, List.set_cons_succ])
    replace cb := cb.trans (b8.mono cb.size)
    clear b8
    refine wpCan_eqb (op := .eql) rfl rfl rfl rfl Try.underlying4 (fun _ _ _ _ h => h) ?_
    rw [show (beta == beta) = true from by cases beta <;> rfl]
    (try simp only [Act.put, List.setIfInBounds_toArray, List.set_cons_zero, List.set_cons_succ])
    refine wpCan_pick rfl rfl rfl (fun _ _ _ _ h => h) ?_
    simp only [if_true]
    (try simp only [Act.put, List.setIfInBounds_toArray, List.set_cons_zero, List.set_cons_succ])
    refine wpCan_nil ?_
    go_wp2
    go_ret
    exact ⟨rfl, hb.drew.trans (cb.mono hb.size)⟩
  · skip
    have HQ := Lib.hid hq
    have HF := Lib.hid hF
    have HG := Lib.hid hG
    clear hq hF hG
    go_wp2_with (first | (refine wpList_load_arr rfl rfl rfl RTFe h0 ?_) | (refine wpList_load_arr rfl rfl rfl RTFe h1 ?_) | (go_at_call 19; fail))
    refine (Add_no F G HF.out HG.out HQ.out _).mono ?_
    rintro e w4 ⟨rfl, b4⟩
    replace h0 := keep_below b4 (lt_of_block h0) h0
    replace h1 := keep_below b4 (lt_of_block h1) h1
    replace hb := hb.trans (b4.mono hb.size)
    clear b4
    go_upto_region 5 with (refine wpList_new_arr rfl rfl rfl rfl ZTFe RTFe rfl rfl ?_; intro w8 gx b8 hs8)
    have l0 := lt_of_block h0
    replace h0 := keep_below b8 (lt_of_block h0) h0
    replace h1 := keep_below b8 (lt_of_block h1) h1
    replace hb := hb.trans (b8.mono hb.size)
    clear b8 hs8
    obtain ⟨Bgx, hBgx⟩ : ∃ B, B = w4.heap.size := ⟨_, rfl⟩
    rw [← hBgx] at l0 gx ⊢
    clear hBgx
    (try simp only [Act.put, List.setIfInBounds_toArray, List.set_cons_zero, List.set_cons_succ])
    go_wp2_with (first | (refine wpList_load_arr rfl rfl rfl RTFe h0 ?_) | (refine wpList_load_arr rfl rfl rfl RTFe h1 ?_) | (go_at_call 20; fail))
    refine (Sub_no F G HF.out HG.out HQ.out _).mono ?_
    rintro e w4 ⟨rfl, b4⟩
    replace h0 := keep_below b4 (lt_of_block h0) h0
    replace h1 := keep_below b4 (lt_of_block h1) h1
    replace gx := keep_below b4 (lt_of_block gx) gx
    replace hb := hb.trans (b4.mono hb.size)
    clear b4
    go_upto_region 6 with (refine wpList_new_arr rfl rfl rfl rfl ZTFe RTFe rfl rfl ?_; intro w8 gy b8 hs8)
    have l0 := lt_of_block h0
    replace h0 := keep_below b8 (lt_of_block h0) h0
    replace h1 := keep_below b8 (lt_of_block h1) h1
    replace gx := keep_below b8 (lt_of_block gx) gx
    replace hb := hb.trans (b8.mono hb.size)
    clear b8 hs8
    obtain ⟨Bgy, hBgy⟩ : ∃ B, B = w4.heap.size := ⟨_, rfl⟩
    rw [← hBgy] at l0 gy ⊢
    clear hBgy
    (try simp only [Act.put, List.setIfInBounds_toArray, List.set_cons_zero, List.set_cons_succ])
    go_wp2_with (first | (refine wpList_load_arr rfl rfl rfl RTFe h0 ?_) | (refine wpList_load_arr rfl rfl rfl RTFe h1 ?_) | (go_at_call 18; fail))
    refine (Mul_no F G HF.out HG.out HQ.out _).mono ?_
    rintro e w4 ⟨rfl, b4⟩
    replace h0 := keep_below b4 (lt_of_block h0) h0
    replace h1 := keep_below b4 (lt_of_block h1) h1
    replace gx := keep_below b4 (lt_of_block gx) gx
    replace gy := keep_below b4 (lt_of_block gy) gy
    replace hb := hb.trans (b4.mono hb.size)
    clear b4
    go_upto_region 7 with (refine wpList_new_arr rfl rfl rfl rfl ZTFe RTFe rfl rfl ?_; intro w8 gz b8 hs8)
    have l0 := lt_of_block h0
    replace h0 := keep_below b8 (lt_of_block h0) h0
    replace h1 := keep_below b8 (lt_of_block h1) h1
    replace gx := keep_below b8 (lt_of_block gx) gx
    replace gy := keep_below b8 (lt_of_block gy) gy
    replace hb := hb.trans (b8.mono hb.size)
    clear b8 hs8
    obtain ⟨Bgz, hBgz⟩ : ∃ B, B = w4.heap.size := ⟨_, rfl⟩
    rw [← hBgz] at l0 gz ⊢
    clear hBgz
    (try simp only [Act.put, List.setIfInBounds_toArray, List.set_cons_zero, List.set_cons_succ])
    by_cases oF : okF F 5
    · skip
      have OF := Lib.hid oF
      clear oF
      go_wp2_with (first | (refine wpList_load_arr rfl rfl rfl RTFe h0 ?_) | (go_at_call 16; fail))
      refine (May_yes F OF.out _).mono ?_
      rintro e w4 ⟨rfl, b4⟩
      replace h0 := keep_below b4 (lt_of_block h0) h0
      replace h1 := keep_below b4 (lt_of_block h1) h1
      replace gx := keep_below b4 (lt_of_block gx) gx
      replace gy := keep_below b4 (lt_of_block gy) gy
      replace gz := keep_below b4 (lt_of_block gz) gz
      replace hb := hb.trans (b4.mono hb.size)
      clear b4
      go_wp2_with (first | (refine wpList_val_w rfl (run_op_load rfl rfl (run_loadVar_arr0 RTFe h1)) ?_) | (go_at_call 16; fail))
      refine (May_no G HG.out (fun oG => HQ.out ⟨OF.out, oG⟩) _).mono ?_
      rintro e w4 ⟨rfl, b4⟩
      replace h0 := keep_below b4 (lt_of_block h0) h0
      replace h1 := keep_below b4 (lt_of_block h1) h1
      replace gx := keep_below b4 (lt_of_block gx) gx
      replace gy := keep_below b4 (lt_of_block gy) gy
      replace gz := keep_below b4 (lt_of_block gz) gz
      replace hb := hb.trans (b4.mono hb.size)
      clear b4
      go_wp2_with (first | (refine wpList_val_w rfl (run_op_load rfl rfl (run_loadVar_arr0 RTFe gx)) ?_) | (go_at_call 23; fail))
      refine (none_yes _).mono ?_
      rintro e w4 ⟨rfl, b4⟩
      replace h0 := keep_below b4 (lt_of_block h0) h0
      replace h1 := keep_below b4 (lt_of_block h1) h1
      replace gx := keep_below b4 (lt_of_block gx) gx
      replace gy := keep_below b4 (lt_of_block gy) gy
      replace gz := keep_below b4 (lt_of_block gz) gz
      replace hb := hb.trans (b4.mono hb.size)
      clear b4
      go_wp2_with (first | (refine wpList_val_w rfl (run_op_load rfl rfl (run_loadVar_arr0 RTFe gy)) ?_) | (go_at_call 23; fail))
      refine (none_yes _).mono ?_
      rintro e w4 ⟨rfl, b4⟩
      replace h0 := keep_below b4 (lt_of_block h0) h0
      replace h1 := keep_below b4 (lt_of_block h1) h1
      replace gx := keep_below b4 (lt_of_block gx) gx
      replace gy := keep_below b4 (lt_of_block gy) gy
      replace gz := keep_below b4 (lt_of_block gz) gz
      replace hb := hb.trans (b4.mono hb.size)
      clear b4
      go_wp2_with (first | (refine wpList_val_w rfl (run_op_load rfl rfl (run_loadVar_arr0 RTFe gz)) ?_) | (go_at_call 23; fail))
      refine (none_yes _).mono ?_
      rintro e w4 ⟨rfl, b4⟩
      replace h0 := keep_below b4 (lt_of_block h0) h0
      replace h1 := keep_below b4 (lt_of_block h1) h1
      replace gx := keep_below b4 (lt_of_block gx) gx
      replace gy := keep_below b4 (lt_of_block gy) gy
      replace gz := keep_below b4 (lt_of_block gz) gz
      replace hb := hb.trans (b4.mono hb.size)
      clear b4
      go_wp2_with (first | (refine wpList_val_w rfl (run_op_load rfl rfl (run_loadVar_arr0 RTFe h0)) ?_) | (refine wpList_val_w rfl (run_op_load rfl rfl (run_loadVar_arr0 RTFe h1)) ?_) | (go_at_call 14; fail))
      refine (Same_none F G HF.out HG.out HQ.out _).mono ?_
      rintro e w4 ⟨rfl, b4⟩
      replace h0 := keep_below b4 (lt_of_block h0) h0
      replace h1 := keep_below b4 (lt_of_block h1) h1
      replace gx := keep_below b4 (lt_of_block gx) gx
      replace gy := keep_below b4 (lt_of_block gy) gy
      replace gz := keep_below b4 (lt_of_block gz) gz
      replace hb := hb.trans (b4.mono hb.size)
      clear b4
      go_wp2
      go_ret
      exact ⟨rfl, hb⟩
    · skip
      have OF := Lib.hid oF
      clear oF
      go_wp2_with (first | (refine wpList_load_arr rfl rfl rfl RTFe h0 ?_) | (go_at_call 16; fail))
      refine (May_no F HF.out OF.out _).mono ?_
      rintro e w4 ⟨rfl, b4⟩
      replace h0 := keep_below b4 (lt_of_block h0) h0
      replace h1 := keep_below b4 (lt_of_block h1) h1
      replace gx := keep_below b4 (lt_of_block gx) gx
      replace gy := keep_below b4 (lt_of_block gy) gy
      replace gz := keep_below b4 (lt_of_block gz) gz
      replace hb := hb.trans (b4.mono hb.size)
      clear b4
      go_wp2_with (first | (refine wpList_val_w rfl (run_op_load rfl rfl (run_loadVar_arr0 RTFe gx)) ?_) | (go_at_call 23; fail))
      refine (none_yes _).mono ?_
      rintro e w4 ⟨rfl, b4⟩
      replace h0 := keep_below b4 (lt_of_block h0) h0
      replace h1 := keep_below b4 (lt_of_block h1) h1
      replace gx := keep_below b4 (lt_of_block gx) gx
      replace gy := keep_below b4 (lt_of_block gy) gy
      replace gz := keep_below b4 (lt_of_block gz) gz
      replace hb := hb.trans (b4.mono hb.size)
      clear b4
      go_wp2_with (first | (refine wpList_val_w rfl (run_op_load rfl rfl (run_loadVar_arr0 RTFe gy)) ?_) | (go_at_call 23; fail))
      refine (none_yes _).mono ?_
      rintro e w4 ⟨rfl, b4⟩
      replace h0 := keep_below b4 (lt_of_block h0) h0
      replace h1 := keep_below b4 (lt_of_block h1) h1
      replace gx := keep_below b4 (lt_of_block gx) gx
      replace gy := keep_below b4 (lt_of_block gy) gy
      replace gz := keep_below b4 (lt_of_block gz) gz
      replace hb := hb.trans (b4.mono hb.size)
      clear b4
      go_wp2_with (first | (refine wpList_val_w rfl (run_op_load rfl rfl (run_loadVar_arr0 RTFe gz)) ?_) | (go_at_call 23; fail))
      refine (none_yes _).mono ?_
      rintro e w4 ⟨rfl, b4⟩
      replace h0 := keep_below b4 (lt_of_block h0) h0
      replace h1 := keep_below b4 (lt_of_block h1) h1
      replace gx := keep_below b4 (lt_of_block gx) gx
      replace gy := keep_below b4 (lt_of_block gy) gy
      replace gz := keep_below b4 (lt_of_block gz) gz
      replace hb := hb.trans (b4.mono hb.size)
      clear b4
      go_wp2_with (first | (refine wpList_val_w rfl (run_op_load rfl rfl (run_loadVar_arr0 RTFe h0)) ?_) | (refine wpList_val_w rfl (run_op_load rfl rfl (run_loadVar_arr0 RTFe h1)) ?_) | (go_at_call 14; fail))
      refine (Same_none F G HF.out HG.out HQ.out _).mono ?_
      rintro e w4 ⟨rfl, b4⟩
      replace h0 := keep_below b4 (lt_of_block h0) h0
      replace h1 := keep_below b4 (lt_of_block h1) h1
      replace gx := keep_below b4 (lt_of_block gx) gx
      replace gy := keep_below b4 (lt_of_block gy) gy
      replace gz := keep_below b4 (lt_of_block gz) gz
      replace hb := hb.trans (b4.mono hb.size)
      clear b4
      go_wp2
      go_ret
      exact ⟨rfl, hb⟩
theorem FeReckons_any (f : Nat → Int) (hf : ∀ i, i < 5 → 0 ≤ f i ∧ f i < 18446744073709551616) (g : Nat → Int) (hg : ∀ i, i < 5 → 0 ≤ g i ∧ g i < 18446744073709551616) (k : Nat → Int) (hk : ∀ i, i < 32 → 0 ≤ k i ∧ k i < 256) (w : World) :
    Calls Try.prog 8 #[.agg (arr .u64 5 f), .agg (arr .u64 5 g), .agg (arr .u8 32 k)] w fun e w' => e = .returned (.bool true) ∧ Below w.heap.size w w' := by
  rw [arr_nat (b := 18446744073709551616) hf, arr_nat (b := 18446744073709551616) hg, arr_nat (b := 256) hk]
  exact FeReckons_nat _ (nat_lt (b := 18446744073709551616) hf) _ (nat_lt (b := 18446744073709551616) hg) _ (nat_lt (b := 256) hk) w
end Go.Proofs.Ytjabpamcpeaboaa
