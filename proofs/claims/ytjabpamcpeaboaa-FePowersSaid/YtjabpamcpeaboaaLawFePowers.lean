/- The law FePowers: whatever the number and how often, it answers true. -/
import Derived.Test.YtjabpamcpeaboaaLawFeReckons
namespace Go.Proofs.Ytjabpamcpeaboaa
set_option linter.unusedSimpArgs false
set_option linter.unusedVariables false
open Go.RowKit
theorem bytes_zero {F : Nat → Nat} (h : ¬ okF F 5) : (arr .u8 32 fun k => ((bytesN F k : Nat) : Int)) = arr .u8 32 fun _ => 0 := arr_ext fun i _ => by unfold bytesN; rw [if_neg h]; rfl
theorem Bytes_no (F : Nat → Nat) (hF : ∀ i, i < 5 → F i < 18446744073709551616) (h : ¬ okF F 5) (w : World) : Calls Try.prog 12 #[.agg (arr .u64 5 fun i => ((F i : Nat) : Int))] w fun e w' => e = .returned (.tuple #[.agg (arr .u8 32 fun _ => 0), .int .i64 1]) ∧ Below w.heap.size w w' :=
  (Bytes_any F hF w).mono fun e w' hh => by rw [if_neg h, bytes_zero h] at hh; exact hh
theorem Check_no (F : Nat → Nat) (hF : ∀ i, i < 5 → F i < 18446744073709551616) (h : ¬ okF F 5) (w : World) : Calls Try.prog 13 #[.agg (arr .u64 5 fun i => ((F i : Nat) : Int))] w fun e w' => e = .returned (.int .i64 1) ∧ Below w.heap.size w w' :=
  (Check_any F hF w).mono fun e w' hh => by rw [if_neg h] at hh; exact hh
theorem Invert_no (F : Nat → Nat) (hF : ∀ i, i < 5 → F i < 18446744073709551616) (h : ¬ okF F 5) (w : World) : Calls Try.prog 28 #[.agg (arr .u64 5 fun i => ((F i : Nat) : Int))] w fun e w' => e = .returned (.tuple #[.agg (arr .u64 5 fun _ => 0), .int .i64 1]) ∧ Below w.heap.size w w' :=
  (Invert_any F hF w).mono fun e w' hh => by rw [if_neg h, told1_no h] at hh; exact hh
theorem sq_stands {F : Nat → Nat} {v : Nat} (hF : Fits F v) (hv : v < pN) (n : Nat) : valN (sqN F n) 5 % pN = sqM v n := by
  rw [(sq_fits hF n).2, ← sqM_val v n, Nat.mod_eq_of_lt (sqM_lt v hv n)]
theorem inv_stands {F : Nat → Nat} {v : Nat} (hF : Fits F v) : valN (invN F) 5 % pN = invM v 255 := by
  have h := invM_all v
  rw [Nat.mod_eq_of_lt (invM_lt v 255)] at h
  rw [(inv_fits hF).2, h]
  unfold pN
  rfl
attribute [local irreducible] val16 ovR loR partN boN passN pN plusL accR valN byteN bytesN sqM invM accN prodN carN diffN sqN sumN difN oneF invN sameN powN ofN kvN cutB
set_option maxRecDepth 100000 in
set_option maxHeartbeats 8000000 in
theorem FePowers_Ay (F : Nat → Nat) (hF : ∀ i, i < 5 → F i < 18446744073709551616) (oF : okF F 5) (m : Nat) (h1 : 20 < m) (h2 : m ≤ 300) (w : World) :
    Calls Try.prog 10 #[.agg (arr .u64 5 fun i => ((F i : Nat) : Int)), .int .i64 (m : Int)] w fun e w' => e = .returned (.bool true) ∧ Below w.heap.size w w' := by
  obtain ⟨r, hr⟩ : ∃ r, r = m % 20 := ⟨_, rfl⟩
  have er : (m : Int) % 20 = (r : Int) := by omega
  have br : r < 20 := by omega
  clear hr
  obtain ⟨vF, hvF⟩ : ∃ v, v = valN F 5 % pN := ⟨_, rfl⟩
  have lF : vF < pN := by rw [hvF]; exact Nat.mod_lt _ pN_pos
  have fF : Fits F vF := ⟨oF, by rw [hvF, Nat.mod_mod]⟩
  have sF := Lib.hid hvF.symm
  have LF := Lib.hid lF
  have SI := Lib.hid (inv_stands fF)
  have FF := Lib.hid fF
  have OF := Lib.hid oF
  clear hvF lF fF oF
  have SS := Lib.hid (sq_stands FF.out LF.out r)
  have HF := Lib.hid hF
  clear hF
  go_enter Try.func10, Try.ntmps10
  obtain ⟨h0, hsz, hb⟩ := alloc1 w (.cells (arr .u64 5 fun i => ((F i : Nat) : Int)) 24)
  go_wp2_with (go_at_call 11; fail)
  refine (live_any _).mono ?_
  rintro e w4 ⟨rfl, b4⟩
  replace h0 := keep_below b4 (by omega) h0
  replace hb := hb.trans (b4.mono (by omega))
  clear b4 hsz
  go_wp2_with (first | (refine wpList_load_arr rfl rfl rfl RTFe h0 ?_) | (go_at_call 17; fail))
  refine (Square_yes F OF.out r (by omega) _).mono ?_
  rintro e w4 ⟨rfl, b4⟩
  replace h0 := keep_below b4 (lt_of_block h0) h0
  replace hb := hb.trans (b4.mono hb.size)
  clear b4
  go_upto_region 7 with (refine wpList_new_arr rfl rfl rfl rfl ZTFe RTFe rfl rfl ?_; intro w8 gx b8 hs8)
  have l0 := lt_of_block h0
  replace h0 := keep_below b8 (lt_of_block h0) h0
  replace hb := hb.trans (b8.mono hb.size)
  clear b8 hs8
  obtain ⟨Bgx, hBgx⟩ : ∃ B, B = w4.heap.size := ⟨_, rfl⟩
  rw [← hBgx] at l0 gx ⊢
  clear hBgx
  (try simp only [Act.put, List.setIfInBounds_toArray, List.set_cons_zero, List.set_cons_succ])
  go_wp2_with (first | (refine wpList_load_arr rfl rfl rfl RTFe h0 ?_) | (go_at_call 28; fail))
  refine (Invert_yes F OF.out _).mono ?_
  rintro e w4 ⟨rfl, b4⟩
  replace h0 := keep_below b4 (lt_of_block h0) h0
  replace gx := keep_below b4 (lt_of_block gx) gx
  replace hb := hb.trans (b4.mono hb.size)
  clear b4
  go_upto_region 8 with (refine wpList_new_arr rfl rfl rfl rfl ZTFe RTFe rfl rfl ?_; intro w8 gy b8 hs8)
  have l0 := lt_of_block h0
  replace h0 := keep_below b8 (lt_of_block h0) h0
  replace gx := keep_below b8 (lt_of_block gx) gx
  replace hb := hb.trans (b8.mono hb.size)
  clear b8 hs8
  obtain ⟨Bgy, hBgy⟩ : ∃ B, B = w4.heap.size := ⟨_, rfl⟩
  rw [← hBgy] at l0 gy ⊢
  clear hBgy
  (try simp only [Act.put, List.setIfInBounds_toArray, List.set_cons_zero, List.set_cons_succ])
  go_wp2_with (first | (refine wpList_load_arr rfl rfl rfl RTFe h0 ?_) | (go_at_call 16; fail))
  refine (May_yes F OF.out _).mono ?_
  rintro e w4 ⟨rfl, b4⟩
  replace h0 := keep_below b4 (lt_of_block h0) h0
  replace gx := keep_below b4 (lt_of_block gx) gx
  replace gy := keep_below b4 (lt_of_block gy) gy
  replace hb := hb.trans (b4.mono hb.size)
  clear b4
  go_wp2_with (first | (refine wpList_load_arr rfl rfl rfl RTFe h0 ?_) | (go_at_call 24; fail))
  refine (ROf_any F OF.out _).mono ?_
  rintro e w4 ⟨rfl, b4⟩
  replace h0 := keep_below b4 (lt_of_block h0) h0
  replace gx := keep_below b4 (lt_of_block gx) gx
  replace gy := keep_below b4 (lt_of_block gy) gy
  replace hb := hb.trans (b4.mono hb.size)
  clear b4
  rw [sF.out]
  go_upto_region 12 with (refine wpList_new_arr rfl rfl rfl rfl ZTNum RTNum rfl rfl ?_; intro w8 ga b8 hs8)
  have l0 := lt_of_block h0
  replace h0 := keep_below b8 (lt_of_block h0) h0
  replace gx := keep_below b8 (lt_of_block gx) gx
  replace gy := keep_below b8 (lt_of_block gy) gy
  replace hb := hb.trans (b8.mono hb.size)
  clear b8 hs8
  obtain ⟨Bga, hBga⟩ : ∃ B, B = w4.heap.size := ⟨_, rfl⟩
  rw [← hBga] at l0 ga ⊢
  clear hBga
  (try simp only [Act.put, List.setIfInBounds_toArray, List.set_cons_zero, List.set_cons_succ])
  go_upto_region 14 with (fail)
  obtain ⟨wr, rfl⟩ : ∃ x, x = w8 := ⟨_, rfl⟩
  refine wp_region_can wr.heap.size 16 [(0, false), (1, false), (2, false), (3, false), (4, false), (5, false), (6, true), (7, true), (8, false), (9, false), (10, false), (11, false), (12, false), (13, true), (14, true), (15, false)] (by kernel_rfl) (by kernel_rfl) ?_
  (simp only [canOps, List.getElem?_cons_zero, List.getElem?_cons_succ, List.drop_succ_cons, List.drop_zero])
  iterate 2 (first | (refine wpCan_move rfl rfl (fun _ _ _ _ h => h) ?_; (simp only [Act.put, Act.eval, Array.getD_eq_getD_getElem?, List.getElem?_toArray, List.getElem?_cons_zero, List.getElem?_cons_succ, Option.getD_some, List.setIfInBounds_toArray, List.set_cons_zero, List.set_cons_succ])) | (refine wpCan_assign rfl rfl (fun _ _ _ _ h => h) ?_; (simp only [Act.put, Act.eval, Array.getD_eq_getD_getElem?, List.getElem?_toArray, List.getElem?_cons_zero, List.getElem?_cons_succ, Option.getD_some, List.setIfInBounds_toArray, List.set_cons_zero, List.set_cons_succ])) | (refine wpCan_nilCheck rfl rfl rfl (fun _ _ _ _ h => h) ?_; (simp only [Act.put, List.setIfInBounds_toArray, List.set_cons_zero, List.set_cons_succ])) | (refine wpCan_q rfl rfl (fun _ _ _ _ h => h) (by first | exact .bin rfl rfl rfl | exact .indexAddr rfl | exact .un rfl | exact .extract rfl | exact .index rfl | exact .field rfl | exact .slice rfl) (fun K hK => ?_); go_simp; (try (simp only [↓IntWalk.iteOmega]; go_simp)); (try go_bits); refine hK _ ?_; clear hK K))
  refine wpCan_load_arr rfl rfl rfl (fun _ _ _ _ h => h) RTFe (lt_of_block (w := wr) gx) gx ?_
  (try simp only [Act.put, List.setIfInBounds_toArray, List.set_cons_zero, List.set_cons_succ])
  iterate 1 (first | (refine wpCan_move rfl rfl (fun _ _ _ _ h => h) ?_; (simp only [Act.put, Act.eval, Array.getD_eq_getD_getElem?, List.getElem?_toArray, List.getElem?_cons_zero, List.getElem?_cons_succ, Option.getD_some, List.setIfInBounds_toArray, List.set_cons_zero, List.set_cons_succ])) | (refine wpCan_assign rfl rfl (fun _ _ _ _ h => h) ?_; (simp only [Act.put, Act.eval, Array.getD_eq_getD_getElem?, List.getElem?_toArray, List.getElem?_cons_zero, List.getElem?_cons_succ, Option.getD_some, List.setIfInBounds_toArray, List.set_cons_zero, List.set_cons_succ])) | (refine wpCan_nilCheck rfl rfl rfl (fun _ _ _ _ h => h) ?_; (simp only [Act.put, List.setIfInBounds_toArray, List.set_cons_zero, List.set_cons_succ])) | (refine wpCan_q rfl rfl (fun _ _ _ _ h => h) (by first | exact .bin rfl rfl rfl | exact .indexAddr rfl | exact .un rfl | exact .extract rfl | exact .index rfl | exact .field rfl | exact .slice rfl) (fun K hK => ?_); go_simp; (try (simp only [↓IntWalk.iteOmega]; go_simp)); (try go_bits); refine hK _ ?_; clear hK K))
  refine wpCan_load_arr rfl rfl rfl (fun _ _ _ _ h => h) RTNum (lt_of_block (w := wr) ga) ga ?_
  (try simp only [Act.put, List.setIfInBounds_toArray, List.set_cons_zero, List.set_cons_succ])
  iterate 1 (first | (refine wpCan_move rfl rfl (fun _ _ _ _ h => h) ?_; (simp only [Act.put, Act.eval, Array.getD_eq_getD_getElem?, List.getElem?_toArray, List.getElem?_cons_zero, List.getElem?_cons_succ, Option.getD_some, List.setIfInBounds_toArray, List.set_cons_zero, List.set_cons_succ])) | (refine wpCan_assign rfl rfl (fun _ _ _ _ h => h) ?_; (simp only [Act.put, Act.eval, Array.getD_eq_getD_getElem?, List.getElem?_toArray, List.getElem?_cons_zero, List.getElem?_cons_succ, Option.getD_some, List.setIfInBounds_toArray, List.set_cons_zero, List.set_cons_succ])) | (refine wpCan_nilCheck rfl rfl rfl (fun _ _ _ _ h => h) ?_; (simp only [Act.put, List.setIfInBounds_toArray, List.set_cons_zero, List.set_cons_succ])) | (refine wpCan_q rfl rfl (fun _ _ _ _ h => h) (by first | exact .bin rfl rfl rfl | exact .indexAddr rfl | exact .un rfl | exact .extract rfl | exact .index rfl | exact .field rfl | exact .slice rfl) (fun K hK => ?_); go_simp; (try (simp only [↓IntWalk.iteOmega]; go_simp)); (try go_bits); refine hK _ ?_; clear hK K))
  refine wpCan_e rfl (fun K hK => ?_)
  go_simp
  refine (RSquare_any vF LF.out r (by omega) _).mono ?_
  rintro e v1 ⟨rfl, b1⟩
  refine hK _ _ (Keep.of_below b1 (Nat.le_refl _)) ?_
  clear hK K
  (try simp only [Act.put, List.setIfInBounds_toArray, List.set_cons_zero, List.set_cons_succ])
  have cb := b1
  clear b1
  refine wpCan_e rfl (fun K hK => ?_)
  go_simp
  refine (stands_yes (sqN F r) (sq_ok F OF.out r) _ SS.out _).mono ?_
  rintro e v2 ⟨rfl, b2⟩
  refine hK _ _ (Keep.of_below b2 cb.size) ?_
  clear hK K
  (try simp only [Act.put, List.setIfInBounds_toArray, List.set_cons_zero, List.set_cons_succ])
  replace cb := cb.trans (b2.mono cb.size)
  clear b2
  refine wpCan_pick rfl rfl rfl (fun _ _ _ _ h => h) ?_
  simp only [if_true]
  (try simp only [Act.put, List.setIfInBounds_toArray, List.set_cons_zero, List.set_cons_succ])
  iterate 1 (first | (refine wpCan_move rfl rfl (fun _ _ _ _ h => h) ?_; (simp only [Act.put, Act.eval, Array.getD_eq_getD_getElem?, List.getElem?_toArray, List.getElem?_cons_zero, List.getElem?_cons_succ, Option.getD_some, List.setIfInBounds_toArray, List.set_cons_zero, List.set_cons_succ])) | (refine wpCan_assign rfl rfl (fun _ _ _ _ h => h) ?_; (simp only [Act.put, Act.eval, Array.getD_eq_getD_getElem?, List.getElem?_toArray, List.getElem?_cons_zero, List.getElem?_cons_succ, Option.getD_some, List.setIfInBounds_toArray, List.set_cons_zero, List.set_cons_succ])) | (refine wpCan_nilCheck rfl rfl rfl (fun _ _ _ _ h => h) ?_; (simp only [Act.put, List.setIfInBounds_toArray, List.set_cons_zero, List.set_cons_succ])) | (refine wpCan_q rfl rfl (fun _ _ _ _ h => h) (by first | exact .bin rfl rfl rfl | exact .indexAddr rfl | exact .un rfl | exact .extract rfl | exact .index rfl | exact .field rfl | exact .slice rfl) (fun K hK => ?_); go_simp; (try (simp only [↓IntWalk.iteOmega]; go_simp)); (try go_bits); refine hK _ ?_; clear hK K))
  refine wpCan_load_arr rfl rfl rfl (fun _ _ _ _ h => h) RTFe (lt_of_block (w := wr) gy) (keep_below (w := wr.drew) cb (lt_of_block (w := wr) gy) gy) ?_
  (try simp only [Act.put, List.setIfInBounds_toArray, List.set_cons_zero, List.set_cons_succ])
  iterate 1 (first | (refine wpCan_move rfl rfl (fun _ _ _ _ h => h) ?_; (simp only [Act.put, Act.eval, Array.getD_eq_getD_getElem?, List.getElem?_toArray, List.getElem?_cons_zero, List.getElem?_cons_succ, Option.getD_some, List.setIfInBounds_toArray, List.set_cons_zero, List.set_cons_succ])) | (refine wpCan_assign rfl rfl (fun _ _ _ _ h => h) ?_; (simp only [Act.put, Act.eval, Array.getD_eq_getD_getElem?, List.getElem?_toArray, List.getElem?_cons_zero, List.getElem?_cons_succ, Option.getD_some, List.setIfInBounds_toArray, List.set_cons_zero, List.set_cons_succ])) | (refine wpCan_nilCheck rfl rfl rfl (fun _ _ _ _ h => h) ?_; (simp only [Act.put, List.setIfInBounds_toArray, List.set_cons_zero, List.set_cons_succ])) | (refine wpCan_q rfl rfl (fun _ _ _ _ h => h) (by first | exact .bin rfl rfl rfl | exact .indexAddr rfl | exact .un rfl | exact .extract rfl | exact .index rfl | exact .field rfl | exact .slice rfl) (fun K hK => ?_); go_simp; (try (simp only [↓IntWalk.iteOmega]; go_simp)); (try go_bits); refine hK _ ?_; clear hK K))
  refine wpCan_load_arr rfl rfl rfl (fun _ _ _ _ h => h) RTNum (lt_of_block (w := wr) ga) (keep_below (w := wr.drew) cb (lt_of_block (w := wr) ga) ga) ?_
  (try simp only [Act.put, List.setIfInBounds_toArray, List.set_cons_zero, List.set_cons_succ])
  refine wpCan_e rfl (fun K hK => ?_)
  go_simp
  refine (RInvert_any vF LF.out _).mono ?_
  rintro e v3 ⟨rfl, b3⟩
  refine hK _ _ (Keep.of_below b3 cb.size) ?_
  clear hK K
  (try simp only [Act.put, List.setIfInBounds_toArray, List.set_cons_zero, List.set_cons_succ])
  replace cb := cb.trans (b3.mono cb.size)
  clear b3
  refine wpCan_e rfl (fun K hK => ?_)
  go_simp
  refine (stands_yes (invN F) (ok_inv OF.out) _ SI.out _).mono ?_
  rintro e v4 ⟨rfl, b4⟩
  refine hK _ _ (Keep.of_below b4 cb.size) ?_
  clear hK K
  (try simp only [Act.put, List.setIfInBounds_toArray, List.set_cons_zero, List.set_cons_succ])
  replace cb := cb.trans (b4.mono cb.size)
  clear b4
  refine wpCan_pick rfl rfl rfl (fun _ _ _ _ h => h) ?_
  simp only [if_true]
  (try simp only [Act.put, List.setIfInBounds_toArray, List.set_cons_zero, List.set_cons_succ])
  refine wpCan_nil ?_
  go_wp2
  go_ret
  exact ⟨rfl, hb.drew.trans (cb.mono hb.size)⟩
set_option maxRecDepth 100000 in
set_option maxHeartbeats 8000000 in
theorem FePowers_An (F : Nat → Nat) (hF : ∀ i, i < 5 → F i < 18446744073709551616) (oF : ¬ okF F 5) (m : Nat) (h1 : 20 < m) (h2 : m ≤ 300) (w : World) :
    Calls Try.prog 10 #[.agg (arr .u64 5 fun i => ((F i : Nat) : Int)), .int .i64 (m : Int)] w fun e w' => e = .returned (.bool true) ∧ Below w.heap.size w w' := by
  obtain ⟨r, hr⟩ : ∃ r, r = m % 20 := ⟨_, rfl⟩
  have er : (m : Int) % 20 = (r : Int) := by omega
  have br : r < 20 := by omega
  clear hr
  have OF := Lib.hid oF
  clear oF
  have HF := Lib.hid hF
  clear hF
  go_enter Try.func10, Try.ntmps10
  obtain ⟨h0, hsz, hb⟩ := alloc1 w (.cells (arr .u64 5 fun i => ((F i : Nat) : Int)) 24)
  go_wp2_with (go_at_call 11; fail)
  refine (live_any _).mono ?_
  rintro e w4 ⟨rfl, b4⟩
  replace h0 := keep_below b4 (by omega) h0
  replace hb := hb.trans (b4.mono (by omega))
  clear b4 hsz
  go_wp2_with (first | (refine wpList_load_arr rfl rfl rfl RTFe h0 ?_) | (go_at_call 17; fail))
  refine (Square_no F HF.out (r : Int) (by omega) (fun h => OF.out h.1) _).mono ?_
  rintro e w4 ⟨rfl, b4⟩
  replace h0 := keep_below b4 (lt_of_block h0) h0
  replace hb := hb.trans (b4.mono hb.size)
  clear b4
  go_upto_region 7 with (refine wpList_new_arr rfl rfl rfl rfl ZTFe RTFe rfl rfl ?_; intro w8 gx b8 hs8)
  have l0 := lt_of_block h0
  replace h0 := keep_below b8 (lt_of_block h0) h0
  replace hb := hb.trans (b8.mono hb.size)
  clear b8 hs8
  obtain ⟨Bgx, hBgx⟩ : ∃ B, B = w4.heap.size := ⟨_, rfl⟩
  rw [← hBgx] at l0 gx ⊢
  clear hBgx
  (try simp only [Act.put, List.setIfInBounds_toArray, List.set_cons_zero, List.set_cons_succ])
  go_wp2_with (first | (refine wpList_load_arr rfl rfl rfl RTFe h0 ?_) | (go_at_call 28; fail))
  refine (Invert_no F HF.out OF.out _).mono ?_
  rintro e w4 ⟨rfl, b4⟩
  replace h0 := keep_below b4 (lt_of_block h0) h0
  replace gx := keep_below b4 (lt_of_block gx) gx
  replace hb := hb.trans (b4.mono hb.size)
  clear b4
  go_upto_region 8 with (refine wpList_new_arr rfl rfl rfl rfl ZTFe RTFe rfl rfl ?_; intro w8 gy b8 hs8)
  have l0 := lt_of_block h0
  replace h0 := keep_below b8 (lt_of_block h0) h0
  replace gx := keep_below b8 (lt_of_block gx) gx
  replace hb := hb.trans (b8.mono hb.size)
  clear b8 hs8
  obtain ⟨Bgy, hBgy⟩ : ∃ B, B = w4.heap.size := ⟨_, rfl⟩
  rw [← hBgy] at l0 gy ⊢
  clear hBgy
  (try simp only [Act.put, List.setIfInBounds_toArray, List.set_cons_zero, List.set_cons_succ])
  go_wp2_with (first | (refine wpList_load_arr rfl rfl rfl RTFe h0 ?_) | (go_at_call 16; fail))
  refine (May_no F HF.out OF.out _).mono ?_
  rintro e w4 ⟨rfl, b4⟩
  replace h0 := keep_below b4 (lt_of_block h0) h0
  replace gx := keep_below b4 (lt_of_block gx) gx
  replace gy := keep_below b4 (lt_of_block gy) gy
  replace hb := hb.trans (b4.mono hb.size)
  clear b4
  go_wp2_with (first | (refine wpList_load_arr rfl rfl rfl RTFe h0 ?_) | (go_at_call 12; fail))
  refine (Bytes_no F HF.out OF.out _).mono ?_
  rintro e w4 ⟨rfl, b4⟩
  replace h0 := keep_below b4 (lt_of_block h0) h0
  replace gx := keep_below b4 (lt_of_block gx) gx
  replace gy := keep_below b4 (lt_of_block gy) gy
  replace hb := hb.trans (b4.mono hb.size)
  clear b4
  go_upto_region 10 with (refine wpList_new_arr rfl rfl rfl rfl ZTKey RTKey rfl rfl ?_; intro w8 gk b8 hs8)
  have l0 := lt_of_block h0
  replace h0 := keep_below b8 (lt_of_block h0) h0
  replace gx := keep_below b8 (lt_of_block gx) gx
  replace gy := keep_below b8 (lt_of_block gy) gy
  replace hb := hb.trans (b8.mono hb.size)
  clear b8 hs8
  obtain ⟨Bgk, hBgk⟩ : ∃ B, B = w4.heap.size := ⟨_, rfl⟩
  rw [← hBgk] at l0 gk ⊢
  clear hBgk
  (try simp only [Act.put, List.setIfInBounds_toArray, List.set_cons_zero, List.set_cons_succ])
  go_wp2_with (first | (refine wpList_val_w rfl (run_op_load rfl rfl (run_loadVar_arr0 RTFe gx)) ?_) | (go_at_call 23; fail))
  refine (none_yes _).mono ?_
  rintro e w4 ⟨rfl, b4⟩
  replace h0 := keep_below b4 (lt_of_block h0) h0
  replace gx := keep_below b4 (lt_of_block gx) gx
  replace gy := keep_below b4 (lt_of_block gy) gy
  replace gk := keep_below b4 (lt_of_block gk) gk
  replace hb := hb.trans (b4.mono hb.size)
  clear b4
  go_wp2_with (first | (refine wpList_val_w rfl (run_op_load rfl rfl (run_loadVar_arr0 RTFe gy)) ?_) | (go_at_call 23; fail))
  refine (none_yes _).mono ?_
  rintro e w4 ⟨rfl, b4⟩
  replace h0 := keep_below b4 (lt_of_block h0) h0
  replace gx := keep_below b4 (lt_of_block gx) gx
  replace gy := keep_below b4 (lt_of_block gy) gy
  replace gk := keep_below b4 (lt_of_block gk) gk
  replace hb := hb.trans (b4.mono hb.size)
  clear b4
  go_wp2_with (first | (refine wpList_val_w rfl (run_op_load rfl rfl (run_loadVar_arr0 RTFe h0)) ?_) | (go_at_call 13; fail))
  refine (Check_no F HF.out OF.out _).mono ?_
  rintro e w4 ⟨rfl, b4⟩
  replace h0 := keep_below b4 (lt_of_block h0) h0
  replace gx := keep_below b4 (lt_of_block gx) gx
  replace gy := keep_below b4 (lt_of_block gy) gy
  replace gk := keep_below b4 (lt_of_block gk) gk
  replace hb := hb.trans (b4.mono hb.size)
  clear b4
  go_wp2
  go_ret
  exact ⟨rfl, hb⟩
set_option maxRecDepth 100000 in
set_option maxHeartbeats 8000000 in
theorem FePowers_By (F : Nat → Nat) (hF : ∀ i, i < 5 → F i < 18446744073709551616) (oF : okF F 5) (m : Nat) (h1 : m ≤ 20) (w : World) :
    Calls Try.prog 10 #[.agg (arr .u64 5 fun i => ((F i : Nat) : Int)), .int .i64 (m : Int)] w fun e w' => e = .returned (.bool true) ∧ Below w.heap.size w w' := by
  obtain ⟨vF, hvF⟩ : ∃ v, v = valN F 5 % pN := ⟨_, rfl⟩
  have lF : vF < pN := by rw [hvF]; exact Nat.mod_lt _ pN_pos
  have fF : Fits F vF := ⟨oF, by rw [hvF, Nat.mod_mod]⟩
  have sF := Lib.hid hvF.symm
  have LF := Lib.hid lF
  have SI := Lib.hid (inv_stands fF)
  have FF := Lib.hid fF
  have OF := Lib.hid oF
  clear hvF lF fF oF
  have SS := Lib.hid (sq_stands FF.out LF.out m)
  have HF := Lib.hid hF
  clear hF
  go_enter Try.func10, Try.ntmps10
  obtain ⟨h0, hsz, hb⟩ := alloc1 w (.cells (arr .u64 5 fun i => ((F i : Nat) : Int)) 24)
  go_wp2_with (go_at_call 11; fail)
  refine (live_any _).mono ?_
  rintro e w4 ⟨rfl, b4⟩
  replace h0 := keep_below b4 (by omega) h0
  replace hb := hb.trans (b4.mono (by omega))
  clear b4 hsz
  go_wp2_with (first | (refine wpList_load_arr rfl rfl rfl RTFe h0 ?_) | (go_at_call 17; fail))
  refine (Square_yes F OF.out m (by omega) _).mono ?_
  rintro e w4 ⟨rfl, b4⟩
  replace h0 := keep_below b4 (lt_of_block h0) h0
  replace hb := hb.trans (b4.mono hb.size)
  clear b4
  go_upto_region 7 with (refine wpList_new_arr rfl rfl rfl rfl ZTFe RTFe rfl rfl ?_; intro w8 gx b8 hs8)
  have l0 := lt_of_block h0
  replace h0 := keep_below b8 (lt_of_block h0) h0
  replace hb := hb.trans (b8.mono hb.size)
  clear b8 hs8
  obtain ⟨Bgx, hBgx⟩ : ∃ B, B = w4.heap.size := ⟨_, rfl⟩
  rw [← hBgx] at l0 gx ⊢
  clear hBgx
  (try simp only [Act.put, List.setIfInBounds_toArray, List.set_cons_zero, List.set_cons_succ])
  go_wp2_with (first | (refine wpList_load_arr rfl rfl rfl RTFe h0 ?_) | (go_at_call 28; fail))
  refine (Invert_yes F OF.out _).mono ?_
  rintro e w4 ⟨rfl, b4⟩
  replace h0 := keep_below b4 (lt_of_block h0) h0
  replace gx := keep_below b4 (lt_of_block gx) gx
  replace hb := hb.trans (b4.mono hb.size)
  clear b4
  go_upto_region 8 with (refine wpList_new_arr rfl rfl rfl rfl ZTFe RTFe rfl rfl ?_; intro w8 gy b8 hs8)
  have l0 := lt_of_block h0
  replace h0 := keep_below b8 (lt_of_block h0) h0
  replace gx := keep_below b8 (lt_of_block gx) gx
  replace hb := hb.trans (b8.mono hb.size)
  clear b8 hs8
  obtain ⟨Bgy, hBgy⟩ : ∃ B, B = w4.heap.size := ⟨_, rfl⟩
  rw [← hBgy] at l0 gy ⊢
  clear hBgy
  (try simp only [Act.put, List.setIfInBounds_toArray, List.set_cons_zero, List.set_cons_succ])
  go_wp2_with (first | (refine wpList_load_arr rfl rfl rfl RTFe h0 ?_) | (go_at_call 16; fail))
  refine (May_yes F OF.out _).mono ?_
  rintro e w4 ⟨rfl, b4⟩
  replace h0 := keep_below b4 (lt_of_block h0) h0
  replace gx := keep_below b4 (lt_of_block gx) gx
  replace gy := keep_below b4 (lt_of_block gy) gy
  replace hb := hb.trans (b4.mono hb.size)
  clear b4
  go_wp2_with (first | (refine wpList_load_arr rfl rfl rfl RTFe h0 ?_) | (go_at_call 24; fail))
  refine (ROf_any F OF.out _).mono ?_
  rintro e w4 ⟨rfl, b4⟩
  replace h0 := keep_below b4 (lt_of_block h0) h0
  replace gx := keep_below b4 (lt_of_block gx) gx
  replace gy := keep_below b4 (lt_of_block gy) gy
  replace hb := hb.trans (b4.mono hb.size)
  clear b4
  rw [sF.out]
  go_upto_region 12 with (refine wpList_new_arr rfl rfl rfl rfl ZTNum RTNum rfl rfl ?_; intro w8 ga b8 hs8)
  have l0 := lt_of_block h0
  replace h0 := keep_below b8 (lt_of_block h0) h0
  replace gx := keep_below b8 (lt_of_block gx) gx
  replace gy := keep_below b8 (lt_of_block gy) gy
  replace hb := hb.trans (b8.mono hb.size)
  clear b8 hs8
  obtain ⟨Bga, hBga⟩ : ∃ B, B = w4.heap.size := ⟨_, rfl⟩
  rw [← hBga] at l0 ga ⊢
  clear hBga
  (try simp only [Act.put, List.setIfInBounds_toArray, List.set_cons_zero, List.set_cons_succ])
  go_upto_region 14 with (fail)
  obtain ⟨wr, rfl⟩ : ∃ x, x = w8 := ⟨_, rfl⟩
  refine wp_region_can wr.heap.size 16 [(0, false), (1, false), (2, false), (3, false), (4, false), (5, false), (6, true), (7, true), (8, false), (9, false), (10, false), (11, false), (12, false), (13, true), (14, true), (15, false)] (by kernel_rfl) (by kernel_rfl) ?_
  (simp only [canOps, List.getElem?_cons_zero, List.getElem?_cons_succ, List.drop_succ_cons, List.drop_zero])
  iterate 2 (first | (refine wpCan_move rfl rfl (fun _ _ _ _ h => h) ?_; (simp only [Act.put, Act.eval, Array.getD_eq_getD_getElem?, List.getElem?_toArray, List.getElem?_cons_zero, List.getElem?_cons_succ, Option.getD_some, List.setIfInBounds_toArray, List.set_cons_zero, List.set_cons_succ])) | (refine wpCan_assign rfl rfl (fun _ _ _ _ h => h) ?_; (simp only [Act.put, Act.eval, Array.getD_eq_getD_getElem?, List.getElem?_toArray, List.getElem?_cons_zero, List.getElem?_cons_succ, Option.getD_some, List.setIfInBounds_toArray, List.set_cons_zero, List.set_cons_succ])) | (refine wpCan_nilCheck rfl rfl rfl (fun _ _ _ _ h => h) ?_; (simp only [Act.put, List.setIfInBounds_toArray, List.set_cons_zero, List.set_cons_succ])) | (refine wpCan_q rfl rfl (fun _ _ _ _ h => h) (by first | exact .bin rfl rfl rfl | exact .indexAddr rfl | exact .un rfl | exact .extract rfl | exact .index rfl | exact .field rfl | exact .slice rfl) (fun K hK => ?_); go_simp; (try (simp only [↓IntWalk.iteOmega]; go_simp)); (try go_bits); refine hK _ ?_; clear hK K))
  refine wpCan_load_arr rfl rfl rfl (fun _ _ _ _ h => h) RTFe (lt_of_block (w := wr) gx) gx ?_
  (try simp only [Act.put, List.setIfInBounds_toArray, List.set_cons_zero, List.set_cons_succ])
  iterate 1 (first | (refine wpCan_move rfl rfl (fun _ _ _ _ h => h) ?_; (simp only [Act.put, Act.eval, Array.getD_eq_getD_getElem?, List.getElem?_toArray, List.getElem?_cons_zero, List.getElem?_cons_succ, Option.getD_some, List.setIfInBounds_toArray, List.set_cons_zero, List.set_cons_succ])) | (refine wpCan_assign rfl rfl (fun _ _ _ _ h => h) ?_; (simp only [Act.put, Act.eval, Array.getD_eq_getD_getElem?, List.getElem?_toArray, List.getElem?_cons_zero, List.getElem?_cons_succ, Option.getD_some, List.setIfInBounds_toArray, List.set_cons_zero, List.set_cons_succ])) | (refine wpCan_nilCheck rfl rfl rfl (fun _ _ _ _ h => h) ?_; (simp only [Act.put, List.setIfInBounds_toArray, List.set_cons_zero, List.set_cons_succ])) | (refine wpCan_q rfl rfl (fun _ _ _ _ h => h) (by first | exact .bin rfl rfl rfl | exact .indexAddr rfl | exact .un rfl | exact .extract rfl | exact .index rfl | exact .field rfl | exact .slice rfl) (fun K hK => ?_); go_simp; (try (simp only [↓IntWalk.iteOmega]; go_simp)); (try go_bits); refine hK _ ?_; clear hK K))
  refine wpCan_load_arr rfl rfl rfl (fun _ _ _ _ h => h) RTNum (lt_of_block (w := wr) ga) ga ?_
  (try simp only [Act.put, List.setIfInBounds_toArray, List.set_cons_zero, List.set_cons_succ])
  iterate 1 (first | (refine wpCan_move rfl rfl (fun _ _ _ _ h => h) ?_; (simp only [Act.put, Act.eval, Array.getD_eq_getD_getElem?, List.getElem?_toArray, List.getElem?_cons_zero, List.getElem?_cons_succ, Option.getD_some, List.setIfInBounds_toArray, List.set_cons_zero, List.set_cons_succ])) | (refine wpCan_assign rfl rfl (fun _ _ _ _ h => h) ?_; (simp only [Act.put, Act.eval, Array.getD_eq_getD_getElem?, List.getElem?_toArray, List.getElem?_cons_zero, List.getElem?_cons_succ, Option.getD_some, List.setIfInBounds_toArray, List.set_cons_zero, List.set_cons_succ])) | (refine wpCan_nilCheck rfl rfl rfl (fun _ _ _ _ h => h) ?_; (simp only [Act.put, List.setIfInBounds_toArray, List.set_cons_zero, List.set_cons_succ])) | (refine wpCan_q rfl rfl (fun _ _ _ _ h => h) (by first | exact .bin rfl rfl rfl | exact .indexAddr rfl | exact .un rfl | exact .extract rfl | exact .index rfl | exact .field rfl | exact .slice rfl) (fun K hK => ?_); go_simp; (try (simp only [↓IntWalk.iteOmega]; go_simp)); (try go_bits); refine hK _ ?_; clear hK K))
  refine wpCan_e rfl (fun K hK => ?_)
  go_simp
  refine (RSquare_any vF LF.out m (by omega) _).mono ?_
  rintro e v1 ⟨rfl, b1⟩
  refine hK _ _ (Keep.of_below b1 (Nat.le_refl _)) ?_
  clear hK K
  (try simp only [Act.put, List.setIfInBounds_toArray, List.set_cons_zero, List.set_cons_succ])
  have cb := b1
  clear b1
  refine wpCan_e rfl (fun K hK => ?_)
  go_simp
  refine (stands_yes (sqN F m) (sq_ok F OF.out m) _ SS.out _).mono ?_
  rintro e v2 ⟨rfl, b2⟩
  refine hK _ _ (Keep.of_below b2 cb.size) ?_
  clear hK K
  (try simp only [Act.put, List.setIfInBounds_toArray, List.set_cons_zero, List.set_cons_succ])
  replace cb := cb.trans (b2.mono cb.size)
  clear b2
  refine wpCan_pick rfl rfl rfl (fun _ _ _ _ h => h) ?_
  simp only [if_true]
  (try simp only [Act.put, List.setIfInBounds_toArray, List.set_cons_zero, List.set_cons_succ])
  iterate 1 (first | (refine wpCan_move rfl rfl (fun _ _ _ _ h => h) ?_; (simp only [Act.put, Act.eval, Array.getD_eq_getD_getElem?, List.getElem?_toArray, List.getElem?_cons_zero, List.getElem?_cons_succ, Option.getD_some, List.setIfInBounds_toArray, List.set_cons_zero, List.set_cons_succ])) | (refine wpCan_assign rfl rfl (fun _ _ _ _ h => h) ?_; (simp only [Act.put, Act.eval, Array.getD_eq_getD_getElem?, List.getElem?_toArray, List.getElem?_cons_zero, List.getElem?_cons_succ, Option.getD_some, List.setIfInBounds_toArray, List.set_cons_zero, List.set_cons_succ])) | (refine wpCan_nilCheck rfl rfl rfl (fun _ _ _ _ h => h) ?_; (simp only [Act.put, List.setIfInBounds_toArray, List.set_cons_zero, List.set_cons_succ])) | (refine wpCan_q rfl rfl (fun _ _ _ _ h => h) (by first | exact .bin rfl rfl rfl | exact .indexAddr rfl | exact .un rfl | exact .extract rfl | exact .index rfl | exact .field rfl | exact .slice rfl) (fun K hK => ?_); go_simp; (try (simp only [↓IntWalk.iteOmega]; go_simp)); (try go_bits); refine hK _ ?_; clear hK K))
  refine wpCan_load_arr rfl rfl rfl (fun _ _ _ _ h => h) RTFe (lt_of_block (w := wr) gy) (keep_below (w := wr.drew) cb (lt_of_block (w := wr) gy) gy) ?_
  (try simp only [Act.put, List.setIfInBounds_toArray, List.set_cons_zero, List.set_cons_succ])
  iterate 1 (first | (refine wpCan_move rfl rfl (fun _ _ _ _ h => h) ?_; (simp only [Act.put, Act.eval, Array.getD_eq_getD_getElem?, List.getElem?_toArray, List.getElem?_cons_zero, List.getElem?_cons_succ, Option.getD_some, List.setIfInBounds_toArray, List.set_cons_zero, List.set_cons_succ])) | (refine wpCan_assign rfl rfl (fun _ _ _ _ h => h) ?_; (simp only [Act.put, Act.eval, Array.getD_eq_getD_getElem?, List.getElem?_toArray, List.getElem?_cons_zero, List.getElem?_cons_succ, Option.getD_some, List.setIfInBounds_toArray, List.set_cons_zero, List.set_cons_succ])) | (refine wpCan_nilCheck rfl rfl rfl (fun _ _ _ _ h => h) ?_; (simp only [Act.put, List.setIfInBounds_toArray, List.set_cons_zero, List.set_cons_succ])) | (refine wpCan_q rfl rfl (fun _ _ _ _ h => h) (by first | exact .bin rfl rfl rfl | exact .indexAddr rfl | exact .un rfl | exact .extract rfl | exact .index rfl | exact .field rfl | exact .slice rfl) (fun K hK => ?_); go_simp; (try (simp only [↓IntWalk.iteOmega]; go_simp)); (try go_bits); refine hK _ ?_; clear hK K))
  refine wpCan_load_arr rfl rfl rfl (fun _ _ _ _ h => h) RTNum (lt_of_block (w := wr) ga) (keep_below (w := wr.drew) cb (lt_of_block (w := wr) ga) ga) ?_
  (try simp only [Act.put, List.setIfInBounds_toArray, List.set_cons_zero, List.set_cons_succ])
  refine wpCan_e rfl (fun K hK => ?_)
  go_simp
  refine (RInvert_any vF LF.out _).mono ?_
  rintro e v3 ⟨rfl, b3⟩
  refine hK _ _ (Keep.of_below b3 cb.size) ?_
  clear hK K
  (try simp only [Act.put, List.setIfInBounds_toArray, List.set_cons_zero, List.set_cons_succ])
  replace cb := cb.trans (b3.mono cb.size)
  clear b3
  refine wpCan_e rfl (fun K hK => ?_)
  go_simp
  refine (stands_yes (invN F) (ok_inv OF.out) _ SI.out _).mono ?_
  rintro e v4 ⟨rfl, b4⟩
  refine hK _ _ (Keep.of_below b4 cb.size) ?_
  clear hK K
  (try simp only [Act.put, List.setIfInBounds_toArray, List.set_cons_zero, List.set_cons_succ])
  replace cb := cb.trans (b4.mono cb.size)
  clear b4
  refine wpCan_pick rfl rfl rfl (fun _ _ _ _ h => h) ?_
  simp only [if_true]
  (try simp only [Act.put, List.setIfInBounds_toArray, List.set_cons_zero, List.set_cons_succ])
  refine wpCan_nil ?_
  go_wp2
  go_ret
  exact ⟨rfl, hb.drew.trans (cb.mono hb.size)⟩
set_option maxRecDepth 100000 in
set_option maxHeartbeats 8000000 in
theorem FePowers_Bn (F : Nat → Nat) (hF : ∀ i, i < 5 → F i < 18446744073709551616) (oF : ¬ okF F 5) (m : Nat) (h1 : m ≤ 20) (w : World) :
    Calls Try.prog 10 #[.agg (arr .u64 5 fun i => ((F i : Nat) : Int)), .int .i64 (m : Int)] w fun e w' => e = .returned (.bool true) ∧ Below w.heap.size w w' := by
  have OF := Lib.hid oF
  clear oF
  have HF := Lib.hid hF
  clear hF
  go_enter Try.func10, Try.ntmps10
  obtain ⟨h0, hsz, hb⟩ := alloc1 w (.cells (arr .u64 5 fun i => ((F i : Nat) : Int)) 24)
  go_wp2_with (go_at_call 11; fail)
  refine (live_any _).mono ?_
  rintro e w4 ⟨rfl, b4⟩
  replace h0 := keep_below b4 (by omega) h0
  replace hb := hb.trans (b4.mono (by omega))
  clear b4 hsz
  go_wp2_with (first | (refine wpList_load_arr rfl rfl rfl RTFe h0 ?_) | (go_at_call 17; fail))
  refine (Square_no F HF.out (m : Int) (by omega) (fun h => OF.out h.1) _).mono ?_
  rintro e w4 ⟨rfl, b4⟩
  replace h0 := keep_below b4 (lt_of_block h0) h0
  replace hb := hb.trans (b4.mono hb.size)
  clear b4
  go_upto_region 7 with (refine wpList_new_arr rfl rfl rfl rfl ZTFe RTFe rfl rfl ?_; intro w8 gx b8 hs8)
  have l0 := lt_of_block h0
  replace h0 := keep_below b8 (lt_of_block h0) h0
  replace hb := hb.trans (b8.mono hb.size)
  clear b8 hs8
  obtain ⟨Bgx, hBgx⟩ : ∃ B, B = w4.heap.size := ⟨_, rfl⟩
  rw [← hBgx] at l0 gx ⊢
  clear hBgx
  (try simp only [Act.put, List.setIfInBounds_toArray, List.set_cons_zero, List.set_cons_succ])
  go_wp2_with (first | (refine wpList_load_arr rfl rfl rfl RTFe h0 ?_) | (go_at_call 28; fail))
  refine (Invert_no F HF.out OF.out _).mono ?_
  rintro e w4 ⟨rfl, b4⟩
  replace h0 := keep_below b4 (lt_of_block h0) h0
  replace gx := keep_below b4 (lt_of_block gx) gx
  replace hb := hb.trans (b4.mono hb.size)
  clear b4
  go_upto_region 8 with (refine wpList_new_arr rfl rfl rfl rfl ZTFe RTFe rfl rfl ?_; intro w8 gy b8 hs8)
  have l0 := lt_of_block h0
  replace h0 := keep_below b8 (lt_of_block h0) h0
  replace gx := keep_below b8 (lt_of_block gx) gx
  replace hb := hb.trans (b8.mono hb.size)
  clear b8 hs8
  obtain ⟨Bgy, hBgy⟩ : ∃ B, B = w4.heap.size := ⟨_, rfl⟩
  rw [← hBgy] at l0 gy ⊢
  clear hBgy
  (try simp only [Act.put, List.setIfInBounds_toArray, List.set_cons_zero, List.set_cons_succ])
  go_wp2_with (first | (refine wpList_load_arr rfl rfl rfl RTFe h0 ?_) | (go_at_call 16; fail))
  refine (May_no F HF.out OF.out _).mono ?_
  rintro e w4 ⟨rfl, b4⟩
  replace h0 := keep_below b4 (lt_of_block h0) h0
  replace gx := keep_below b4 (lt_of_block gx) gx
  replace gy := keep_below b4 (lt_of_block gy) gy
  replace hb := hb.trans (b4.mono hb.size)
  clear b4
  go_wp2_with (first | (refine wpList_load_arr rfl rfl rfl RTFe h0 ?_) | (go_at_call 12; fail))
  refine (Bytes_no F HF.out OF.out _).mono ?_
  rintro e w4 ⟨rfl, b4⟩
  replace h0 := keep_below b4 (lt_of_block h0) h0
  replace gx := keep_below b4 (lt_of_block gx) gx
  replace gy := keep_below b4 (lt_of_block gy) gy
  replace hb := hb.trans (b4.mono hb.size)
  clear b4
  go_upto_region 10 with (refine wpList_new_arr rfl rfl rfl rfl ZTKey RTKey rfl rfl ?_; intro w8 gk b8 hs8)
  have l0 := lt_of_block h0
  replace h0 := keep_below b8 (lt_of_block h0) h0
  replace gx := keep_below b8 (lt_of_block gx) gx
  replace gy := keep_below b8 (lt_of_block gy) gy
  replace hb := hb.trans (b8.mono hb.size)
  clear b8 hs8
  obtain ⟨Bgk, hBgk⟩ : ∃ B, B = w4.heap.size := ⟨_, rfl⟩
  rw [← hBgk] at l0 gk ⊢
  clear hBgk
  (try simp only [Act.put, List.setIfInBounds_toArray, List.set_cons_zero, List.set_cons_succ])
  go_wp2_with (first | (refine wpList_val_w rfl (run_op_load rfl rfl (run_loadVar_arr0 RTFe gx)) ?_) | (go_at_call 23; fail))
  refine (none_yes _).mono ?_
  rintro e w4 ⟨rfl, b4⟩
  replace h0 := keep_below b4 (lt_of_block h0) h0
  replace gx := keep_below b4 (lt_of_block gx) gx
  replace gy := keep_below b4 (lt_of_block gy) gy
  replace gk := keep_below b4 (lt_of_block gk) gk
  replace hb := hb.trans (b4.mono hb.size)
  clear b4
  go_wp2_with (first | (refine wpList_val_w rfl (run_op_load rfl rfl (run_loadVar_arr0 RTFe gy)) ?_) | (go_at_call 23; fail))
  refine (none_yes _).mono ?_
  rintro e w4 ⟨rfl, b4⟩
  replace h0 := keep_below b4 (lt_of_block h0) h0
  replace gx := keep_below b4 (lt_of_block gx) gx
  replace gy := keep_below b4 (lt_of_block gy) gy
  replace gk := keep_below b4 (lt_of_block gk) gk
  replace hb := hb.trans (b4.mono hb.size)
  clear b4
  go_wp2_with (first | (refine wpList_val_w rfl (run_op_load rfl rfl (run_loadVar_arr0 RTFe h0)) ?_) | (go_at_call 13; fail))
  refine (Check_no F HF.out OF.out _).mono ?_
  rintro e w4 ⟨rfl, b4⟩
  replace h0 := keep_below b4 (lt_of_block h0) h0
  replace gx := keep_below b4 (lt_of_block gx) gx
  replace gy := keep_below b4 (lt_of_block gy) gy
  replace gk := keep_below b4 (lt_of_block gk) gk
  replace hb := hb.trans (b4.mono hb.size)
  clear b4
  go_wp2
  go_ret
  exact ⟨rfl, hb⟩
set_option maxRecDepth 100000 in
set_option maxHeartbeats 8000000 in
theorem FePowers_Cy (F : Nat → Nat) (hF : ∀ i, i < 5 → F i < 18446744073709551616) (oF : okF F 5) (n : Int) (h1 : n < 0) (h2 : -9223372036854775808 ≤ n) (w : World) :
    Calls Try.prog 10 #[.agg (arr .u64 5 fun i => ((F i : Nat) : Int)), .int .i64 n] w fun e w' => e = .returned (.bool true) ∧ Below w.heap.size w w' := by
  obtain ⟨vF, hvF⟩ : ∃ v, v = valN F 5 % pN := ⟨_, rfl⟩
  have lF : vF < pN := by rw [hvF]; exact Nat.mod_lt _ pN_pos
  have fF : Fits F vF := ⟨oF, by rw [hvF, Nat.mod_mod]⟩
  have sF := Lib.hid hvF.symm
  have LF := Lib.hid lF
  have SI := Lib.hid (inv_stands fF)
  have FF := Lib.hid fF
  have OF := Lib.hid oF
  clear hvF lF fF oF
  have HF := Lib.hid hF
  clear hF
  go_enter Try.func10, Try.ntmps10
  obtain ⟨h0, hsz, hb⟩ := alloc1 w (.cells (arr .u64 5 fun i => ((F i : Nat) : Int)) 24)
  go_wp2_with (go_at_call 11; fail)
  refine (live_any _).mono ?_
  rintro e w4 ⟨rfl, b4⟩
  replace h0 := keep_below b4 (by omega) h0
  replace hb := hb.trans (b4.mono (by omega))
  clear b4 hsz
  go_wp2_with (first | (refine wpList_load_arr rfl rfl rfl RTFe h0 ?_) | (go_at_call 17; fail))
  refine (Square_no F HF.out n (by omega) (fun h => absurd h.2 (by omega)) _).mono ?_
  rintro e w4 ⟨rfl, b4⟩
  replace h0 := keep_below b4 (lt_of_block h0) h0
  replace hb := hb.trans (b4.mono hb.size)
  clear b4
  go_upto_region 7 with (refine wpList_new_arr rfl rfl rfl rfl ZTFe RTFe rfl rfl ?_; intro w8 gx b8 hs8)
  have l0 := lt_of_block h0
  replace h0 := keep_below b8 (lt_of_block h0) h0
  replace hb := hb.trans (b8.mono hb.size)
  clear b8 hs8
  obtain ⟨Bgx, hBgx⟩ : ∃ B, B = w4.heap.size := ⟨_, rfl⟩
  rw [← hBgx] at l0 gx ⊢
  clear hBgx
  (try simp only [Act.put, List.setIfInBounds_toArray, List.set_cons_zero, List.set_cons_succ])
  go_wp2_with (first | (refine wpList_load_arr rfl rfl rfl RTFe h0 ?_) | (go_at_call 28; fail))
  refine (Invert_yes F OF.out _).mono ?_
  rintro e w4 ⟨rfl, b4⟩
  replace h0 := keep_below b4 (lt_of_block h0) h0
  replace gx := keep_below b4 (lt_of_block gx) gx
  replace hb := hb.trans (b4.mono hb.size)
  clear b4
  go_upto_region 8 with (refine wpList_new_arr rfl rfl rfl rfl ZTFe RTFe rfl rfl ?_; intro w8 gy b8 hs8)
  have l0 := lt_of_block h0
  replace h0 := keep_below b8 (lt_of_block h0) h0
  replace gx := keep_below b8 (lt_of_block gx) gx
  replace hb := hb.trans (b8.mono hb.size)
  clear b8 hs8
  obtain ⟨Bgy, hBgy⟩ : ∃ B, B = w4.heap.size := ⟨_, rfl⟩
  rw [← hBgy] at l0 gy ⊢
  clear hBgy
  (try simp only [Act.put, List.setIfInBounds_toArray, List.set_cons_zero, List.set_cons_succ])
  go_wp2_with (first | (refine wpList_load_arr rfl rfl rfl RTFe h0 ?_) | (go_at_call 16; fail))
  refine (May_yes F OF.out _).mono ?_
  rintro e w4 ⟨rfl, b4⟩
  replace h0 := keep_below b4 (lt_of_block h0) h0
  replace gx := keep_below b4 (lt_of_block gx) gx
  replace gy := keep_below b4 (lt_of_block gy) gy
  replace hb := hb.trans (b4.mono hb.size)
  clear b4
  go_wp2_with (first | (refine wpList_load_arr rfl rfl rfl RTFe h0 ?_) | (go_at_call 24; fail))
  refine (ROf_any F OF.out _).mono ?_
  rintro e w4 ⟨rfl, b4⟩
  replace h0 := keep_below b4 (lt_of_block h0) h0
  replace gx := keep_below b4 (lt_of_block gx) gx
  replace gy := keep_below b4 (lt_of_block gy) gy
  replace hb := hb.trans (b4.mono hb.size)
  clear b4
  rw [sF.out]
  go_upto_region 12 with (refine wpList_new_arr rfl rfl rfl rfl ZTNum RTNum rfl rfl ?_; intro w8 ga b8 hs8)
  have l0 := lt_of_block h0
  replace h0 := keep_below b8 (lt_of_block h0) h0
  replace gx := keep_below b8 (lt_of_block gx) gx
  replace gy := keep_below b8 (lt_of_block gy) gy
  replace hb := hb.trans (b8.mono hb.size)
  clear b8 hs8
  obtain ⟨Bga, hBga⟩ : ∃ B, B = w4.heap.size := ⟨_, rfl⟩
  rw [← hBga] at l0 ga ⊢
  clear hBga
  (try simp only [Act.put, List.setIfInBounds_toArray, List.set_cons_zero, List.set_cons_succ])
  go_upto_region 13 with (fail)
  obtain ⟨wr, rfl⟩ : ∃ x, x = w8 := ⟨_, rfl⟩
  refine wp_region_can wr.heap.size 13 [(0, false), (1, false), (2, false), (3, false), (4, true), (5, false), (6, false), (7, false), (8, false), (9, false), (10, true), (11, true), (12, false)] (by kernel_rfl) (by kernel_rfl) ?_
  (simp only [canOps, List.getElem?_cons_zero, List.getElem?_cons_succ, List.drop_succ_cons, List.drop_zero])
  iterate 2 (first | (refine wpCan_move rfl rfl (fun _ _ _ _ h => h) ?_; (simp only [Act.put, Act.eval, Array.getD_eq_getD_getElem?, List.getElem?_toArray, List.getElem?_cons_zero, List.getElem?_cons_succ, Option.getD_some, List.setIfInBounds_toArray, List.set_cons_zero, List.set_cons_succ])) | (refine wpCan_assign rfl rfl (fun _ _ _ _ h => h) ?_; (simp only [Act.put, Act.eval, Array.getD_eq_getD_getElem?, List.getElem?_toArray, List.getElem?_cons_zero, List.getElem?_cons_succ, Option.getD_some, List.setIfInBounds_toArray, List.set_cons_zero, List.set_cons_succ])) | (refine wpCan_nilCheck rfl rfl rfl (fun _ _ _ _ h => h) ?_; (simp only [Act.put, List.setIfInBounds_toArray, List.set_cons_zero, List.set_cons_succ])) | (refine wpCan_q rfl rfl (fun _ _ _ _ h => h) (by first | exact .bin rfl rfl rfl | exact .indexAddr rfl | exact .un rfl | exact .extract rfl | exact .index rfl | exact .field rfl | exact .slice rfl) (fun K hK => ?_); go_simp; (try (simp only [↓IntWalk.iteOmega]; go_simp)); (try go_bits); refine hK _ ?_; clear hK K))
  refine wpCan_load_arr rfl rfl rfl (fun _ _ _ _ h => h) RTFe (lt_of_block (w := wr) gx) gx ?_
  (try simp only [Act.put, List.setIfInBounds_toArray, List.set_cons_zero, List.set_cons_succ])
  iterate 1 (first | (refine wpCan_move rfl rfl (fun _ _ _ _ h => h) ?_; (simp only [Act.put, Act.eval, Array.getD_eq_getD_getElem?, List.getElem?_toArray, List.getElem?_cons_zero, List.getElem?_cons_succ, Option.getD_some, List.setIfInBounds_toArray, List.set_cons_zero, List.set_cons_succ])) | (refine wpCan_assign rfl rfl (fun _ _ _ _ h => h) ?_; (simp only [Act.put, Act.eval, Array.getD_eq_getD_getElem?, List.getElem?_toArray, List.getElem?_cons_zero, List.getElem?_cons_succ, Option.getD_some, List.setIfInBounds_toArray, List.set_cons_zero, List.set_cons_succ])) | (refine wpCan_nilCheck rfl rfl rfl (fun _ _ _ _ h => h) ?_; (simp only [Act.put, List.setIfInBounds_toArray, List.set_cons_zero, List.set_cons_succ])) | (refine wpCan_q rfl rfl (fun _ _ _ _ h => h) (by first | exact .bin rfl rfl rfl | exact .indexAddr rfl | exact .un rfl | exact .extract rfl | exact .index rfl | exact .field rfl | exact .slice rfl) (fun K hK => ?_); go_simp; (try (simp only [↓IntWalk.iteOmega]; go_simp)); (try go_bits); refine hK _ ?_; clear hK K))
  refine wpCan_e rfl (fun K hK => ?_)
  go_simp
  refine (none_yes _).mono ?_
  rintro e v1 ⟨rfl, b1⟩
  refine hK _ _ (Keep.of_below b1 (Nat.le_refl _)) ?_
  clear hK K
  (try simp only [Act.put, List.setIfInBounds_toArray, List.set_cons_zero, List.set_cons_succ])
  have cb := b1
  clear b1
  refine wpCan_pick rfl rfl rfl (fun _ _ _ _ h => h) ?_
  simp only [if_true]
  (try simp only [Act.put, List.setIfInBounds_toArray, List.set_cons_zero, List.set_cons_succ])
  iterate 1 (first | (refine wpCan_move rfl rfl (fun _ _ _ _ h => h) ?_; (simp only [Act.put, Act.eval, Array.getD_eq_getD_getElem?, List.getElem?_toArray, List.getElem?_cons_zero, List.getElem?_cons_succ, Option.getD_some, List.setIfInBounds_toArray, List.set_cons_zero, List.set_cons_succ])) | (refine wpCan_assign rfl rfl (fun _ _ _ _ h => h) ?_; (simp only [Act.put, Act.eval, Array.getD_eq_getD_getElem?, List.getElem?_toArray, List.getElem?_cons_zero, List.getElem?_cons_succ, Option.getD_some, List.setIfInBounds_toArray, List.set_cons_zero, List.set_cons_succ])) | (refine wpCan_nilCheck rfl rfl rfl (fun _ _ _ _ h => h) ?_; (simp only [Act.put, List.setIfInBounds_toArray, List.set_cons_zero, List.set_cons_succ])) | (refine wpCan_q rfl rfl (fun _ _ _ _ h => h) (by first | exact .bin rfl rfl rfl | exact .indexAddr rfl | exact .un rfl | exact .extract rfl | exact .index rfl | exact .field rfl | exact .slice rfl) (fun K hK => ?_); go_simp; (try (simp only [↓IntWalk.iteOmega]; go_simp)); (try go_bits); refine hK _ ?_; clear hK K))
  refine wpCan_load_arr rfl rfl rfl (fun _ _ _ _ h => h) RTFe (lt_of_block (w := wr) gy) (keep_below (w := wr.drew) cb (lt_of_block (w := wr) gy) gy) ?_
  (try simp only [Act.put, List.setIfInBounds_toArray, List.set_cons_zero, List.set_cons_succ])
  iterate 1 (first | (refine wpCan_move rfl rfl (fun _ _ _ _ h => h) ?_; (simp only [Act.put, Act.eval, Array.getD_eq_getD_getElem?, List.getElem?_toArray, List.getElem?_cons_zero, List.getElem?_cons_succ, Option.getD_some, List.setIfInBounds_toArray, List.set_cons_zero, List.set_cons_succ])) | (refine wpCan_assign rfl rfl (fun _ _ _ _ h => h) ?_; (simp only [Act.put, Act.eval, Array.getD_eq_getD_getElem?, List.getElem?_toArray, List.getElem?_cons_zero, List.getElem?_cons_succ, Option.getD_some, List.setIfInBounds_toArray, List.set_cons_zero, List.set_cons_succ])) | (refine wpCan_nilCheck rfl rfl rfl (fun _ _ _ _ h => h) ?_; (simp only [Act.put, List.setIfInBounds_toArray, List.set_cons_zero, List.set_cons_succ])) | (refine wpCan_q rfl rfl (fun _ _ _ _ h => h) (by first | exact .bin rfl rfl rfl | exact .indexAddr rfl | exact .un rfl | exact .extract rfl | exact .index rfl | exact .field rfl | exact .slice rfl) (fun K hK => ?_); go_simp; (try (simp only [↓IntWalk.iteOmega]; go_simp)); (try go_bits); refine hK _ ?_; clear hK K))
  refine wpCan_load_arr rfl rfl rfl (fun _ _ _ _ h => h) RTNum (lt_of_block (w := wr) ga) (keep_below (w := wr.drew) cb (lt_of_block (w := wr) ga) ga) ?_
  (try simp only [Act.put, List.setIfInBounds_toArray, List.set_cons_zero, List.set_cons_succ])
  refine wpCan_e rfl (fun K hK => ?_)
  go_simp
  refine (RInvert_any vF LF.out _).mono ?_
  rintro e v2 ⟨rfl, b2⟩
  refine hK _ _ (Keep.of_below b2 cb.size) ?_
  clear hK K
  (try simp only [Act.put, List.setIfInBounds_toArray, List.set_cons_zero, List.set_cons_succ])
  replace cb := cb.trans (b2.mono cb.size)
  clear b2
  refine wpCan_e rfl (fun K hK => ?_)
  go_simp
  refine (stands_yes (invN F) (ok_inv OF.out) _ SI.out _).mono ?_
  rintro e v3 ⟨rfl, b3⟩
  refine hK _ _ (Keep.of_below b3 cb.size) ?_
  clear hK K
  (try simp only [Act.put, List.setIfInBounds_toArray, List.set_cons_zero, List.set_cons_succ])
  replace cb := cb.trans (b3.mono cb.size)
  clear b3
  refine wpCan_pick rfl rfl rfl (fun _ _ _ _ h => h) ?_
  simp only [if_true]
  (try simp only [Act.put, List.setIfInBounds_toArray, List.set_cons_zero, List.set_cons_succ])
  refine wpCan_nil ?_
  go_wp2
  go_ret
  exact ⟨rfl, hb.drew.trans (cb.mono hb.size)⟩
set_option maxRecDepth 100000 in
set_option maxHeartbeats 8000000 in
theorem FePowers_Cn (F : Nat → Nat) (hF : ∀ i, i < 5 → F i < 18446744073709551616) (oF : ¬ okF F 5) (n : Int) (h1 : n < 0) (h2 : -9223372036854775808 ≤ n) (w : World) :
    Calls Try.prog 10 #[.agg (arr .u64 5 fun i => ((F i : Nat) : Int)), .int .i64 n] w fun e w' => e = .returned (.bool true) ∧ Below w.heap.size w w' := by
  have OF := Lib.hid oF
  clear oF
  have HF := Lib.hid hF
  clear hF
  go_enter Try.func10, Try.ntmps10
  obtain ⟨h0, hsz, hb⟩ := alloc1 w (.cells (arr .u64 5 fun i => ((F i : Nat) : Int)) 24)
  go_wp2_with (go_at_call 11; fail)
  refine (live_any _).mono ?_
  rintro e w4 ⟨rfl, b4⟩
  replace h0 := keep_below b4 (by omega) h0
  replace hb := hb.trans (b4.mono (by omega))
  clear b4 hsz
  go_wp2_with (first | (refine wpList_load_arr rfl rfl rfl RTFe h0 ?_) | (go_at_call 17; fail))
  refine (Square_no F HF.out n (by omega) (fun h => OF.out h.1) _).mono ?_
  rintro e w4 ⟨rfl, b4⟩
  replace h0 := keep_below b4 (lt_of_block h0) h0
  replace hb := hb.trans (b4.mono hb.size)
  clear b4
  go_upto_region 7 with (refine wpList_new_arr rfl rfl rfl rfl ZTFe RTFe rfl rfl ?_; intro w8 gx b8 hs8)
  have l0 := lt_of_block h0
  replace h0 := keep_below b8 (lt_of_block h0) h0
  replace hb := hb.trans (b8.mono hb.size)
  clear b8 hs8
  obtain ⟨Bgx, hBgx⟩ : ∃ B, B = w4.heap.size := ⟨_, rfl⟩
  rw [← hBgx] at l0 gx ⊢
  clear hBgx
  (try simp only [Act.put, List.setIfInBounds_toArray, List.set_cons_zero, List.set_cons_succ])
  go_wp2_with (first | (refine wpList_load_arr rfl rfl rfl RTFe h0 ?_) | (go_at_call 28; fail))
  refine (Invert_no F HF.out OF.out _).mono ?_
  rintro e w4 ⟨rfl, b4⟩
  replace h0 := keep_below b4 (lt_of_block h0) h0
  replace gx := keep_below b4 (lt_of_block gx) gx
  replace hb := hb.trans (b4.mono hb.size)
  clear b4
  go_upto_region 8 with (refine wpList_new_arr rfl rfl rfl rfl ZTFe RTFe rfl rfl ?_; intro w8 gy b8 hs8)
  have l0 := lt_of_block h0
  replace h0 := keep_below b8 (lt_of_block h0) h0
  replace gx := keep_below b8 (lt_of_block gx) gx
  replace hb := hb.trans (b8.mono hb.size)
  clear b8 hs8
  obtain ⟨Bgy, hBgy⟩ : ∃ B, B = w4.heap.size := ⟨_, rfl⟩
  rw [← hBgy] at l0 gy ⊢
  clear hBgy
  (try simp only [Act.put, List.setIfInBounds_toArray, List.set_cons_zero, List.set_cons_succ])
  go_wp2_with (first | (refine wpList_load_arr rfl rfl rfl RTFe h0 ?_) | (go_at_call 16; fail))
  refine (May_no F HF.out OF.out _).mono ?_
  rintro e w4 ⟨rfl, b4⟩
  replace h0 := keep_below b4 (lt_of_block h0) h0
  replace gx := keep_below b4 (lt_of_block gx) gx
  replace gy := keep_below b4 (lt_of_block gy) gy
  replace hb := hb.trans (b4.mono hb.size)
  clear b4
  go_wp2_with (first | (refine wpList_load_arr rfl rfl rfl RTFe h0 ?_) | (go_at_call 12; fail))
  refine (Bytes_no F HF.out OF.out _).mono ?_
  rintro e w4 ⟨rfl, b4⟩
  replace h0 := keep_below b4 (lt_of_block h0) h0
  replace gx := keep_below b4 (lt_of_block gx) gx
  replace gy := keep_below b4 (lt_of_block gy) gy
  replace hb := hb.trans (b4.mono hb.size)
  clear b4
  go_upto_region 10 with (refine wpList_new_arr rfl rfl rfl rfl ZTKey RTKey rfl rfl ?_; intro w8 gk b8 hs8)
  have l0 := lt_of_block h0
  replace h0 := keep_below b8 (lt_of_block h0) h0
  replace gx := keep_below b8 (lt_of_block gx) gx
  replace gy := keep_below b8 (lt_of_block gy) gy
  replace hb := hb.trans (b8.mono hb.size)
  clear b8 hs8
  obtain ⟨Bgk, hBgk⟩ : ∃ B, B = w4.heap.size := ⟨_, rfl⟩
  rw [← hBgk] at l0 gk ⊢
  clear hBgk
  (try simp only [Act.put, List.setIfInBounds_toArray, List.set_cons_zero, List.set_cons_succ])
  go_wp2_with (first | (refine wpList_val_w rfl (run_op_load rfl rfl (run_loadVar_arr0 RTFe gx)) ?_) | (go_at_call 23; fail))
  refine (none_yes _).mono ?_
  rintro e w4 ⟨rfl, b4⟩
  replace h0 := keep_below b4 (lt_of_block h0) h0
  replace gx := keep_below b4 (lt_of_block gx) gx
  replace gy := keep_below b4 (lt_of_block gy) gy
  replace gk := keep_below b4 (lt_of_block gk) gk
  replace hb := hb.trans (b4.mono hb.size)
  clear b4
  go_wp2_with (first | (refine wpList_val_w rfl (run_op_load rfl rfl (run_loadVar_arr0 RTFe gy)) ?_) | (go_at_call 23; fail))
  refine (none_yes _).mono ?_
  rintro e w4 ⟨rfl, b4⟩
  replace h0 := keep_below b4 (lt_of_block h0) h0
  replace gx := keep_below b4 (lt_of_block gx) gx
  replace gy := keep_below b4 (lt_of_block gy) gy
  replace gk := keep_below b4 (lt_of_block gk) gk
  replace hb := hb.trans (b4.mono hb.size)
  clear b4
  go_wp2_with (first | (refine wpList_val_w rfl (run_op_load rfl rfl (run_loadVar_arr0 RTFe h0)) ?_) | (go_at_call 13; fail))
  refine (Check_no F HF.out OF.out _).mono ?_
  rintro e w4 ⟨rfl, b4⟩
  replace h0 := keep_below b4 (lt_of_block h0) h0
  replace gx := keep_below b4 (lt_of_block gx) gx
  replace gy := keep_below b4 (lt_of_block gy) gy
  replace gk := keep_below b4 (lt_of_block gk) gk
  replace hb := hb.trans (b4.mono hb.size)
  clear b4
  go_wp2
  go_ret
  exact ⟨rfl, hb⟩
set_option maxRecDepth 100000 in
set_option maxHeartbeats 8000000 in
theorem FePowers_Dy (F : Nat → Nat) (hF : ∀ i, i < 5 → F i < 18446744073709551616) (oF : okF F 5) (n : Int) (h1 : 300 < n) (h2 : n < 9223372036854775808) (w : World) :
    Calls Try.prog 10 #[.agg (arr .u64 5 fun i => ((F i : Nat) : Int)), .int .i64 n] w fun e w' => e = .returned (.bool true) ∧ Below w.heap.size w w' := by
  obtain ⟨vF, hvF⟩ : ∃ v, v = valN F 5 % pN := ⟨_, rfl⟩
  have lF : vF < pN := by rw [hvF]; exact Nat.mod_lt _ pN_pos
  have fF : Fits F vF := ⟨oF, by rw [hvF, Nat.mod_mod]⟩
  have sF := Lib.hid hvF.symm
  have LF := Lib.hid lF
  have SI := Lib.hid (inv_stands fF)
  have FF := Lib.hid fF
  have OF := Lib.hid oF
  clear hvF lF fF oF
  have HF := Lib.hid hF
  clear hF
  go_enter Try.func10, Try.ntmps10
  obtain ⟨h0, hsz, hb⟩ := alloc1 w (.cells (arr .u64 5 fun i => ((F i : Nat) : Int)) 24)
  go_wp2_with (go_at_call 11; fail)
  refine (live_any _).mono ?_
  rintro e w4 ⟨rfl, b4⟩
  replace h0 := keep_below b4 (by omega) h0
  replace hb := hb.trans (b4.mono (by omega))
  clear b4 hsz
  go_wp2_with (first | (refine wpList_load_arr rfl rfl rfl RTFe h0 ?_) | (go_at_call 17; fail))
  refine (Square_no F HF.out n (by omega) (fun h => absurd h.2 (by omega)) _).mono ?_
  rintro e w4 ⟨rfl, b4⟩
  replace h0 := keep_below b4 (lt_of_block h0) h0
  replace hb := hb.trans (b4.mono hb.size)
  clear b4
  go_upto_region 7 with (refine wpList_new_arr rfl rfl rfl rfl ZTFe RTFe rfl rfl ?_; intro w8 gx b8 hs8)
  have l0 := lt_of_block h0
  replace h0 := keep_below b8 (lt_of_block h0) h0
  replace hb := hb.trans (b8.mono hb.size)
  clear b8 hs8
  obtain ⟨Bgx, hBgx⟩ : ∃ B, B = w4.heap.size := ⟨_, rfl⟩
  rw [← hBgx] at l0 gx ⊢
  clear hBgx
  (try simp only [Act.put, List.setIfInBounds_toArray, List.set_cons_zero, List.set_cons_succ])
  go_wp2_with (first | (refine wpList_load_arr rfl rfl rfl RTFe h0 ?_) | (go_at_call 28; fail))
  refine (Invert_yes F OF.out _).mono ?_
  rintro e w4 ⟨rfl, b4⟩
  replace h0 := keep_below b4 (lt_of_block h0) h0
  replace gx := keep_below b4 (lt_of_block gx) gx
  replace hb := hb.trans (b4.mono hb.size)
  clear b4
  go_upto_region 8 with (refine wpList_new_arr rfl rfl rfl rfl ZTFe RTFe rfl rfl ?_; intro w8 gy b8 hs8)
  have l0 := lt_of_block h0
  replace h0 := keep_below b8 (lt_of_block h0) h0
  replace gx := keep_below b8 (lt_of_block gx) gx
  replace hb := hb.trans (b8.mono hb.size)
  clear b8 hs8
  obtain ⟨Bgy, hBgy⟩ : ∃ B, B = w4.heap.size := ⟨_, rfl⟩
  rw [← hBgy] at l0 gy ⊢
  clear hBgy
  (try simp only [Act.put, List.setIfInBounds_toArray, List.set_cons_zero, List.set_cons_succ])
  go_wp2_with (first | (refine wpList_load_arr rfl rfl rfl RTFe h0 ?_) | (go_at_call 16; fail))
  refine (May_yes F OF.out _).mono ?_
  rintro e w4 ⟨rfl, b4⟩
  replace h0 := keep_below b4 (lt_of_block h0) h0
  replace gx := keep_below b4 (lt_of_block gx) gx
  replace gy := keep_below b4 (lt_of_block gy) gy
  replace hb := hb.trans (b4.mono hb.size)
  clear b4
  go_wp2_with (first | (refine wpList_load_arr rfl rfl rfl RTFe h0 ?_) | (go_at_call 24; fail))
  refine (ROf_any F OF.out _).mono ?_
  rintro e w4 ⟨rfl, b4⟩
  replace h0 := keep_below b4 (lt_of_block h0) h0
  replace gx := keep_below b4 (lt_of_block gx) gx
  replace gy := keep_below b4 (lt_of_block gy) gy
  replace hb := hb.trans (b4.mono hb.size)
  clear b4
  rw [sF.out]
  go_upto_region 12 with (refine wpList_new_arr rfl rfl rfl rfl ZTNum RTNum rfl rfl ?_; intro w8 ga b8 hs8)
  have l0 := lt_of_block h0
  replace h0 := keep_below b8 (lt_of_block h0) h0
  replace gx := keep_below b8 (lt_of_block gx) gx
  replace gy := keep_below b8 (lt_of_block gy) gy
  replace hb := hb.trans (b8.mono hb.size)
  clear b8 hs8
  obtain ⟨Bga, hBga⟩ : ∃ B, B = w4.heap.size := ⟨_, rfl⟩
  rw [← hBga] at l0 ga ⊢
  clear hBga
  (try simp only [Act.put, List.setIfInBounds_toArray, List.set_cons_zero, List.set_cons_succ])
  go_upto_region 13 with (fail)
  obtain ⟨wr, rfl⟩ : ∃ x, x = w8 := ⟨_, rfl⟩
  refine wp_region_can wr.heap.size 13 [(0, false), (1, false), (2, false), (3, false), (4, true), (5, false), (6, false), (7, false), (8, false), (9, false), (10, true), (11, true), (12, false)] (by kernel_rfl) (by kernel_rfl) ?_
  (simp only [canOps, List.getElem?_cons_zero, List.getElem?_cons_succ, List.drop_succ_cons, List.drop_zero])
  iterate 2 (first | (refine wpCan_move rfl rfl (fun _ _ _ _ h => h) ?_; (simp only [Act.put, Act.eval, Array.getD_eq_getD_getElem?, List.getElem?_toArray, List.getElem?_cons_zero, List.getElem?_cons_succ, Option.getD_some, List.setIfInBounds_toArray, List.set_cons_zero, List.set_cons_succ])) | (refine wpCan_assign rfl rfl (fun _ _ _ _ h => h) ?_; (simp only [Act.put, Act.eval, Array.getD_eq_getD_getElem?, List.getElem?_toArray, List.getElem?_cons_zero, List.getElem?_cons_succ, Option.getD_some, List.setIfInBounds_toArray, List.set_cons_zero, List.set_cons_succ])) | (refine wpCan_nilCheck rfl rfl rfl (fun _ _ _ _ h => h) ?_; (simp only [Act.put, List.setIfInBounds_toArray, List.set_cons_zero, List.set_cons_succ])) | (refine wpCan_q rfl rfl (fun _ _ _ _ h => h) (by first | exact .bin rfl rfl rfl | exact .indexAddr rfl | exact .un rfl | exact .extract rfl | exact .index rfl | exact .field rfl | exact .slice rfl) (fun K hK => ?_); go_simp; (try (simp only [↓IntWalk.iteOmega]; go_simp)); (try go_bits); refine hK _ ?_; clear hK K))
  refine wpCan_load_arr rfl rfl rfl (fun _ _ _ _ h => h) RTFe (lt_of_block (w := wr) gx) gx ?_
  (try simp only [Act.put, List.setIfInBounds_toArray, List.set_cons_zero, List.set_cons_succ])
  iterate 1 (first | (refine wpCan_move rfl rfl (fun _ _ _ _ h => h) ?_; (simp only [Act.put, Act.eval, Array.getD_eq_getD_getElem?, List.getElem?_toArray, List.getElem?_cons_zero, List.getElem?_cons_succ, Option.getD_some, List.setIfInBounds_toArray, List.set_cons_zero, List.set_cons_succ])) | (refine wpCan_assign rfl rfl (fun _ _ _ _ h => h) ?_; (simp only [Act.put, Act.eval, Array.getD_eq_getD_getElem?, List.getElem?_toArray, List.getElem?_cons_zero, List.getElem?_cons_succ, Option.getD_some, List.setIfInBounds_toArray, List.set_cons_zero, List.set_cons_succ])) | (refine wpCan_nilCheck rfl rfl rfl (fun _ _ _ _ h => h) ?_; (simp only [Act.put, List.setIfInBounds_toArray, List.set_cons_zero, List.set_cons_succ])) | (refine wpCan_q rfl rfl (fun _ _ _ _ h => h) (by first | exact .bin rfl rfl rfl | exact .indexAddr rfl | exact .un rfl | exact .extract rfl | exact .index rfl | exact .field rfl | exact .slice rfl) (fun K hK => ?_); go_simp; (try (simp only [↓IntWalk.iteOmega]; go_simp)); (try go_bits); refine hK _ ?_; clear hK K))
  refine wpCan_e rfl (fun K hK => ?_)
  go_simp
  refine (none_yes _).mono ?_
  rintro e v1 ⟨rfl, b1⟩
  refine hK _ _ (Keep.of_below b1 (Nat.le_refl _)) ?_
  clear hK K
  (try simp only [Act.put, List.setIfInBounds_toArray, List.set_cons_zero, List.set_cons_succ])
  have cb := b1
  clear b1
  refine wpCan_pick rfl rfl rfl (fun _ _ _ _ h => h) ?_
  simp only [if_true]
  (try simp only [Act.put, List.setIfInBounds_toArray, List.set_cons_zero, List.set_cons_succ])
  iterate 1 (first | (refine wpCan_move rfl rfl (fun _ _ _ _ h => h) ?_; (simp only [Act.put, Act.eval, Array.getD_eq_getD_getElem?, List.getElem?_toArray, List.getElem?_cons_zero, List.getElem?_cons_succ, Option.getD_some, List.setIfInBounds_toArray, List.set_cons_zero, List.set_cons_succ])) | (refine wpCan_assign rfl rfl (fun _ _ _ _ h => h) ?_; (simp only [Act.put, Act.eval, Array.getD_eq_getD_getElem?, List.getElem?_toArray, List.getElem?_cons_zero, List.getElem?_cons_succ, Option.getD_some, List.setIfInBounds_toArray, List.set_cons_zero, List.set_cons_succ])) | (refine wpCan_nilCheck rfl rfl rfl (fun _ _ _ _ h => h) ?_; (simp only [Act.put, List.setIfInBounds_toArray, List.set_cons_zero, List.set_cons_succ])) | (refine wpCan_q rfl rfl (fun _ _ _ _ h => h) (by first | exact .bin rfl rfl rfl | exact .indexAddr rfl | exact .un rfl | exact .extract rfl | exact .index rfl | exact .field rfl | exact .slice rfl) (fun K hK => ?_); go_simp; (try (simp only [↓IntWalk.iteOmega]; go_simp)); (try go_bits); refine hK _ ?_; clear hK K))
  refine wpCan_load_arr rfl rfl rfl (fun _ _ _ _ h => h) RTFe (lt_of_block (w := wr) gy) (keep_below (w := wr.drew) cb (lt_of_block (w := wr) gy) gy) ?_
  (try simp only [Act.put, List.setIfInBounds_toArray, List.set_cons_zero, List.set_cons_succ])
  iterate 1 (first | (refine wpCan_move rfl rfl (fun _ _ _ _ h => h) ?_; (simp only [Act.put, Act.eval, Array.getD_eq_getD_getElem?, List.getElem?_toArray, List.getElem?_cons_zero, List.getElem?_cons_succ, Option.getD_some, List.setIfInBounds_toArray, List.set_cons_zero, List.set_cons_succ])) | (refine wpCan_assign rfl rfl (fun _ _ _ _ h => h) ?_; (simp only [Act.put, Act.eval, Array.getD_eq_getD_getElem?, List.getElem?_toArray, List.getElem?_cons_zero, List.getElem?_cons_succ, Option.getD_some, List.setIfInBounds_toArray, List.set_cons_zero, List.set_cons_succ])) | (refine wpCan_nilCheck rfl rfl rfl (fun _ _ _ _ h => h) ?_; (simp only [Act.put, List.setIfInBounds_toArray, List.set_cons_zero, List.set_cons_succ])) | (refine wpCan_q rfl rfl (fun _ _ _ _ h => h) (by first | exact .bin rfl rfl rfl | exact .indexAddr rfl | exact .un rfl | exact .extract rfl | exact .index rfl | exact .field rfl | exact .slice rfl) (fun K hK => ?_); go_simp; (try (simp only [↓IntWalk.iteOmega]; go_simp)); (try go_bits); refine hK _ ?_; clear hK K))
  refine wpCan_load_arr rfl rfl rfl (fun _ _ _ _ h => h) RTNum (lt_of_block (w := wr) ga) (keep_below (w := wr.drew) cb (lt_of_block (w := wr) ga) ga) ?_
  (try simp only [Act.put, List.setIfInBounds_toArray, List.set_cons_zero, List.set_cons_succ])
  refine wpCan_e rfl (fun K hK => ?_)
  go_simp
  refine (RInvert_any vF LF.out _).mono ?_
  rintro e v2 ⟨rfl, b2⟩
  refine hK _ _ (Keep.of_below b2 cb.size) ?_
  clear hK K
  (try simp only [Act.put, List.setIfInBounds_toArray, List.set_cons_zero, List.set_cons_succ])
  replace cb := cb.trans (b2.mono cb.size)
  clear b2
  refine wpCan_e rfl (fun K hK => ?_)
  go_simp
  refine (stands_yes (invN F) (ok_inv OF.out) _ SI.out _).mono ?_
  rintro e v3 ⟨rfl, b3⟩
  refine hK _ _ (Keep.of_below b3 cb.size) ?_
  clear hK K
  (try simp only [Act.put, List.setIfInBounds_toArray, List.set_cons_zero, List.set_cons_succ])
  replace cb := cb.trans (b3.mono cb.size)
  clear b3
  refine wpCan_pick rfl rfl rfl (fun _ _ _ _ h => h) ?_
  simp only [if_true]
  (try simp only [Act.put, List.setIfInBounds_toArray, List.set_cons_zero, List.set_cons_succ])
  refine wpCan_nil ?_
  go_wp2
  go_ret
  exact ⟨rfl, hb.drew.trans (cb.mono hb.size)⟩
set_option maxRecDepth 100000 in
set_option maxHeartbeats 8000000 in
theorem FePowers_Dn (F : Nat → Nat) (hF : ∀ i, i < 5 → F i < 18446744073709551616) (oF : ¬ okF F 5) (n : Int) (h1 : 300 < n) (h2 : n < 9223372036854775808) (w : World) :
    Calls Try.prog 10 #[.agg (arr .u64 5 fun i => ((F i : Nat) : Int)), .int .i64 n] w fun e w' => e = .returned (.bool true) ∧ Below w.heap.size w w' := by
  have OF := Lib.hid oF
  clear oF
  have HF := Lib.hid hF
  clear hF
  go_enter Try.func10, Try.ntmps10
  obtain ⟨h0, hsz, hb⟩ := alloc1 w (.cells (arr .u64 5 fun i => ((F i : Nat) : Int)) 24)
  go_wp2_with (go_at_call 11; fail)
  refine (live_any _).mono ?_
  rintro e w4 ⟨rfl, b4⟩
  replace h0 := keep_below b4 (by omega) h0
  replace hb := hb.trans (b4.mono (by omega))
  clear b4 hsz
  go_wp2_with (first | (refine wpList_load_arr rfl rfl rfl RTFe h0 ?_) | (go_at_call 17; fail))
  refine (Square_no F HF.out n (by omega) (fun h => OF.out h.1) _).mono ?_
  rintro e w4 ⟨rfl, b4⟩
  replace h0 := keep_below b4 (lt_of_block h0) h0
  replace hb := hb.trans (b4.mono hb.size)
  clear b4
  go_upto_region 7 with (refine wpList_new_arr rfl rfl rfl rfl ZTFe RTFe rfl rfl ?_; intro w8 gx b8 hs8)
  have l0 := lt_of_block h0
  replace h0 := keep_below b8 (lt_of_block h0) h0
  replace hb := hb.trans (b8.mono hb.size)
  clear b8 hs8
  obtain ⟨Bgx, hBgx⟩ : ∃ B, B = w4.heap.size := ⟨_, rfl⟩
  rw [← hBgx] at l0 gx ⊢
  clear hBgx
  (try simp only [Act.put, List.setIfInBounds_toArray, List.set_cons_zero, List.set_cons_succ])
  go_wp2_with (first | (refine wpList_load_arr rfl rfl rfl RTFe h0 ?_) | (go_at_call 28; fail))
  refine (Invert_no F HF.out OF.out _).mono ?_
  rintro e w4 ⟨rfl, b4⟩
  replace h0 := keep_below b4 (lt_of_block h0) h0
  replace gx := keep_below b4 (lt_of_block gx) gx
  replace hb := hb.trans (b4.mono hb.size)
  clear b4
  go_upto_region 8 with (refine wpList_new_arr rfl rfl rfl rfl ZTFe RTFe rfl rfl ?_; intro w8 gy b8 hs8)
  have l0 := lt_of_block h0
  replace h0 := keep_below b8 (lt_of_block h0) h0
  replace gx := keep_below b8 (lt_of_block gx) gx
  replace hb := hb.trans (b8.mono hb.size)
  clear b8 hs8
  obtain ⟨Bgy, hBgy⟩ : ∃ B, B = w4.heap.size := ⟨_, rfl⟩
  rw [← hBgy] at l0 gy ⊢
  clear hBgy
  (try simp only [Act.put, List.setIfInBounds_toArray, List.set_cons_zero, List.set_cons_succ])
  go_wp2_with (first | (refine wpList_load_arr rfl rfl rfl RTFe h0 ?_) | (go_at_call 16; fail))
  refine (May_no F HF.out OF.out _).mono ?_
  rintro e w4 ⟨rfl, b4⟩
  replace h0 := keep_below b4 (lt_of_block h0) h0
  replace gx := keep_below b4 (lt_of_block gx) gx
  replace gy := keep_below b4 (lt_of_block gy) gy
  replace hb := hb.trans (b4.mono hb.size)
  clear b4
  go_wp2_with (first | (refine wpList_load_arr rfl rfl rfl RTFe h0 ?_) | (go_at_call 12; fail))
  refine (Bytes_no F HF.out OF.out _).mono ?_
  rintro e w4 ⟨rfl, b4⟩
  replace h0 := keep_below b4 (lt_of_block h0) h0
  replace gx := keep_below b4 (lt_of_block gx) gx
  replace gy := keep_below b4 (lt_of_block gy) gy
  replace hb := hb.trans (b4.mono hb.size)
  clear b4
  go_upto_region 10 with (refine wpList_new_arr rfl rfl rfl rfl ZTKey RTKey rfl rfl ?_; intro w8 gk b8 hs8)
  have l0 := lt_of_block h0
  replace h0 := keep_below b8 (lt_of_block h0) h0
  replace gx := keep_below b8 (lt_of_block gx) gx
  replace gy := keep_below b8 (lt_of_block gy) gy
  replace hb := hb.trans (b8.mono hb.size)
  clear b8 hs8
  obtain ⟨Bgk, hBgk⟩ : ∃ B, B = w4.heap.size := ⟨_, rfl⟩
  rw [← hBgk] at l0 gk ⊢
  clear hBgk
  (try simp only [Act.put, List.setIfInBounds_toArray, List.set_cons_zero, List.set_cons_succ])
  go_wp2_with (first | (refine wpList_val_w rfl (run_op_load rfl rfl (run_loadVar_arr0 RTFe gx)) ?_) | (go_at_call 23; fail))
  refine (none_yes _).mono ?_
  rintro e w4 ⟨rfl, b4⟩
  replace h0 := keep_below b4 (lt_of_block h0) h0
  replace gx := keep_below b4 (lt_of_block gx) gx
  replace gy := keep_below b4 (lt_of_block gy) gy
  replace gk := keep_below b4 (lt_of_block gk) gk
  replace hb := hb.trans (b4.mono hb.size)
  clear b4
  go_wp2_with (first | (refine wpList_val_w rfl (run_op_load rfl rfl (run_loadVar_arr0 RTFe gy)) ?_) | (go_at_call 23; fail))
  refine (none_yes _).mono ?_
  rintro e w4 ⟨rfl, b4⟩
  replace h0 := keep_below b4 (lt_of_block h0) h0
  replace gx := keep_below b4 (lt_of_block gx) gx
  replace gy := keep_below b4 (lt_of_block gy) gy
  replace gk := keep_below b4 (lt_of_block gk) gk
  replace hb := hb.trans (b4.mono hb.size)
  clear b4
  go_wp2_with (first | (refine wpList_val_w rfl (run_op_load rfl rfl (run_loadVar_arr0 RTFe h0)) ?_) | (go_at_call 13; fail))
  refine (Check_no F HF.out OF.out _).mono ?_
  rintro e w4 ⟨rfl, b4⟩
  replace h0 := keep_below b4 (lt_of_block h0) h0
  replace gx := keep_below b4 (lt_of_block gx) gx
  replace gy := keep_below b4 (lt_of_block gy) gy
  replace gk := keep_below b4 (lt_of_block gk) gk
  replace hb := hb.trans (b4.mono hb.size)
  clear b4
  go_wp2
  go_ret
  exact ⟨rfl, hb⟩
theorem FePowers_any (f : Nat → Int) (hf : ∀ i, i < 5 → 0 ≤ f i ∧ f i < 18446744073709551616) (n : Int) (hn : -9223372036854775808 ≤ n ∧ n < 9223372036854775808) (w : World) :
    Calls Try.prog 10 #[.agg (arr .u64 5 f), .int .i64 n] w fun e w' => e = .returned (.bool true) ∧ Below w.heap.size w w' := by
  rw [arr_nat (b := 18446744073709551616) hf]
  by_cases h1 : n < 0
  · by_cases oF : okF (fun i => (f i).toNat) 5
    · exact FePowers_Cy _ (nat_lt (b := 18446744073709551616) hf) oF n h1 hn.1 w
    · exact FePowers_Cn _ (nat_lt (b := 18446744073709551616) hf) oF n h1 hn.1 w
  · by_cases h2 : 300 < n
    · by_cases oF : okF (fun i => (f i).toNat) 5
      · exact FePowers_Dy _ (nat_lt (b := 18446744073709551616) hf) oF n h2 hn.2 w
      · exact FePowers_Dn _ (nat_lt (b := 18446744073709551616) hf) oF n h2 hn.2 w
    · obtain ⟨m, rfl⟩ := Int.eq_ofNat_of_zero_le (show 0 ≤ n by omega)
      by_cases h3 : 20 < m
      · by_cases oF : okF (fun i => (f i).toNat) 5
        · exact FePowers_Ay _ (nat_lt (b := 18446744073709551616) hf) oF m h3 (by omega) w
        · exact FePowers_An _ (nat_lt (b := 18446744073709551616) hf) oF m h3 (by omega) w
      · by_cases oF : okF (fun i => (f i).toNat) 5
        · exact FePowers_By _ (nat_lt (b := 18446744073709551616) hf) oF m (by omega) w
        · exact FePowers_Bn _ (nat_lt (b := 18446744073709551616) hf) oF m (by omega) w
end Go.Proofs.Ytjabpamcpeaboaa
