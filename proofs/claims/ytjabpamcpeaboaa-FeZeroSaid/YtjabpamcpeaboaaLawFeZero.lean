/- The law FeZero: whatever the number, it answers true. -/
import Derived.Test.YtjabpamcpeaboaaFeZ
namespace Go.Proofs.Ytjabpamcpeaboaa
set_option linter.unusedSimpArgs false
set_option linter.unusedVariables false
open Go.RowKit
attribute [local irreducible] accN byteN prodN carN diffN sqN sumN difN oneF valN invN sameN

set_option maxRecDepth 100000 in
set_option maxHeartbeats 4000000 in
theorem FeZero_nat (F : Nat → Nat) (hF : ∀ i, i < 5 → F i < 18446744073709551616) (w : World) :
    Calls Try.prog 7 #[.agg (arr .u64 5 fun i => ((F i : Nat) : Int))] w fun e w' => e = .returned (.bool true) ∧ Below w.heap.size w w' := by
  by_cases oF : okF F 5
  rotate_left
  · skip
    go_enter Try.func7, Try.ntmps7
    obtain ⟨h0, hsz, hb⟩ := alloc1 w (.cells (arr .u64 5 fun i => ((F i : Nat) : Int)) 24)
    go_wp2_with (go_at_call 11; fail)
    refine (live_any _).mono ?_
    rintro e w4 ⟨rfl, b4⟩
    replace h0 := keep_below b4 (by omega) h0
    replace hb := hb.trans (b4.mono (by omega))
    clear b4 hsz
    go_wp2_with (first | (refine wpList_load_arr rfl rfl rfl RTFe h0 ?_) | (refine wpList_val_w rfl (run_op_load rfl rfl (run_loadVar_arr0 RTFe h0)) ?_) | (go_at_call 16; fail))
    refine (May_no F hF oF _).mono ?_
    rintro e w4 ⟨rfl, b4⟩
    replace h0 := keep_below b4 (lt_of_block h0) h0
    replace hb := hb.trans (b4.mono hb.size)
    clear b4
    go_wp2
    go_ret
    exact ⟨rfl, hb⟩
  have fF := own_fits oF
  have f0 := one_fits (x := 0) (by omega)
  have f1 := one_fits (x := 1) (by omega)
  have f2 := one_fits (x := 2) (by omega)
  have fa := sum_fits fF f0
  have fo := prod_fits fF f1
  have fz := prod_fits fF f0
  have ft := sum_fits fF fF
  have fw := prod_fits f2 fF
  have fl := dif_fits (c := 0) fF fF (by rw [Nat.zero_add])
  have s1 := Lib.hid (fits_same fa fF (by rw [Nat.add_zero]))
  have s2 := Lib.hid (fits_same fo fF (by rw [Nat.mul_one]))
  have s3 := Lib.hid (fits_same fz f0 (by rw [Nat.mul_zero]))
  have s4 := Lib.hid (fits_same ft fw (by rw [Nat.two_mul]))
  have s5 := Lib.hid (fits_same fl f0 rfl)
  go_enter Try.func7, Try.ntmps7
  obtain ⟨h0, hsz, hb⟩ := alloc1 w (.cells (arr .u64 5 fun i => ((F i : Nat) : Int)) 24)
  go_wp2_with (go_at_call 11; fail)
  refine (live_any _).mono ?_
  rintro e w4 ⟨rfl, b4⟩
  replace h0 := keep_below b4 (by omega) h0
  replace hb := hb.trans (b4.mono (by omega))
  clear b4 hsz
  go_wp2_with (first | (refine wpList_load_arr rfl rfl rfl RTFe h0 ?_) | (refine wpList_val_w rfl (run_op_load rfl rfl (run_loadVar_arr0 RTFe h0)) ?_) | (go_at_call 16; fail))
  refine (May_yes F oF _).mono ?_
  rintro e w4 ⟨rfl, b4⟩
  replace h0 := keep_below b4 (lt_of_block h0) h0
  replace hb := hb.trans (b4.mono hb.size)
  clear b4
  go_wp2_with (first | (refine wpList_load_arr rfl rfl rfl RTFe h0 ?_) | (refine wpList_val' rfl (run_op_build rfl (by simp [Act.eval, Act.put]) built_fe0) ?_) | (go_at_call 19; fail))
  refine (Add_yes F (oneF 0) oF f0.1 _).mono ?_
  rintro e w4 ⟨rfl, b4⟩
  replace h0 := keep_below b4 (lt_of_block h0) h0
  replace hb := hb.trans (b4.mono hb.size)
  clear b4
  go_upto_region 5 with (refine wpList_new_arr rfl rfl rfl rfl ZTFe RTFe rfl rfl ?_; intro w8 ga b8 hs8)
  have l0 := lt_of_block h0
  replace h0 := keep_below b8 (lt_of_block h0) h0
  replace hb := hb.trans (b8.mono hb.size)
  clear b8 hs8
  obtain ⟨Bga, hBga⟩ : ∃ B, B = w4.heap.size := ⟨_, rfl⟩
  rw [← hBga] at l0 ga ⊢
  clear hBga
  (try simp only [Act.put, List.setIfInBounds_toArray, List.set_cons_zero, List.set_cons_succ])
  go_wp2_with (first | (refine wpList_load_arr rfl rfl rfl RTFe h0 ?_) | (refine wpList_val' rfl (run_op_build rfl (by simp [Act.eval, Act.put]) (built_fe1 1)) ?_) | (go_at_call 18; fail))
  refine (Mul_yes F (oneF 1) oF f1.1 _).mono ?_
  rintro e w4 ⟨rfl, b4⟩
  replace h0 := keep_below b4 (lt_of_block h0) h0
  replace ga := keep_below b4 (lt_of_block ga) ga
  replace hb := hb.trans (b4.mono hb.size)
  clear b4
  go_upto_region 6 with (refine wpList_new_arr rfl rfl rfl rfl ZTFe RTFe rfl rfl ?_; intro w8 g1 b8 hs8)
  have l0 := lt_of_block h0
  replace h0 := keep_below b8 (lt_of_block h0) h0
  replace ga := keep_below b8 (lt_of_block ga) ga
  replace hb := hb.trans (b8.mono hb.size)
  clear b8 hs8
  obtain ⟨Bg1, hBg1⟩ : ∃ B, B = w4.heap.size := ⟨_, rfl⟩
  rw [← hBg1] at l0 g1 ⊢
  clear hBg1
  (try simp only [Act.put, List.setIfInBounds_toArray, List.set_cons_zero, List.set_cons_succ])
  go_wp2_with (first | (refine wpList_load_arr rfl rfl rfl RTFe h0 ?_) | (refine wpList_val' rfl (run_op_build rfl (by simp [Act.eval, Act.put]) built_fe0) ?_) | (go_at_call 18; fail))
  refine (Mul_yes F (oneF 0) oF f0.1 _).mono ?_
  rintro e w4 ⟨rfl, b4⟩
  replace h0 := keep_below b4 (lt_of_block h0) h0
  replace ga := keep_below b4 (lt_of_block ga) ga
  replace g1 := keep_below b4 (lt_of_block g1) g1
  replace hb := hb.trans (b4.mono hb.size)
  clear b4
  go_upto_region 7 with (refine wpList_new_arr rfl rfl rfl rfl ZTFe RTFe rfl rfl ?_; intro w8 gz b8 hs8)
  have l0 := lt_of_block h0
  replace h0 := keep_below b8 (lt_of_block h0) h0
  replace ga := keep_below b8 (lt_of_block ga) ga
  replace g1 := keep_below b8 (lt_of_block g1) g1
  replace hb := hb.trans (b8.mono hb.size)
  clear b8 hs8
  obtain ⟨Bgz, hBgz⟩ : ∃ B, B = w4.heap.size := ⟨_, rfl⟩
  rw [← hBgz] at l0 gz ⊢
  clear hBgz
  (try simp only [Act.put, List.setIfInBounds_toArray, List.set_cons_zero, List.set_cons_succ])
  go_wp2_with (first | (refine wpList_load_arr rfl rfl rfl RTFe h0 ?_) | (go_at_call 19; fail))
  refine (Add_yes F F oF oF _).mono ?_
  rintro e w4 ⟨rfl, b4⟩
  replace h0 := keep_below b4 (lt_of_block h0) h0
  replace ga := keep_below b4 (lt_of_block ga) ga
  replace g1 := keep_below b4 (lt_of_block g1) g1
  replace gz := keep_below b4 (lt_of_block gz) gz
  replace hb := hb.trans (b4.mono hb.size)
  clear b4
  go_upto_region 8 with (refine wpList_new_arr rfl rfl rfl rfl ZTFe RTFe rfl rfl ?_; intro w8 gt b8 hs8)
  have l0 := lt_of_block h0
  replace h0 := keep_below b8 (lt_of_block h0) h0
  replace ga := keep_below b8 (lt_of_block ga) ga
  replace g1 := keep_below b8 (lt_of_block g1) g1
  replace gz := keep_below b8 (lt_of_block gz) gz
  replace hb := hb.trans (b8.mono hb.size)
  clear b8 hs8
  obtain ⟨Bgt, hBgt⟩ : ∃ B, B = w4.heap.size := ⟨_, rfl⟩
  rw [← hBgt] at l0 gt ⊢
  clear hBgt
  (try simp only [Act.put, List.setIfInBounds_toArray, List.set_cons_zero, List.set_cons_succ])
  go_wp2_with (first | (refine wpList_load_arr rfl rfl rfl RTFe h0 ?_) | (refine wpList_val' rfl (run_op_build rfl (by simp [Act.eval, Act.put]) (built_fe1 2)) ?_) | (go_at_call 18; fail))
  refine (Mul_yes (oneF 2) F f2.1 oF _).mono ?_
  rintro e w4 ⟨rfl, b4⟩
  replace h0 := keep_below b4 (lt_of_block h0) h0
  replace ga := keep_below b4 (lt_of_block ga) ga
  replace g1 := keep_below b4 (lt_of_block g1) g1
  replace gz := keep_below b4 (lt_of_block gz) gz
  replace gt := keep_below b4 (lt_of_block gt) gt
  replace hb := hb.trans (b4.mono hb.size)
  clear b4
  go_upto_region 9 with (refine wpList_new_arr rfl rfl rfl rfl ZTFe RTFe rfl rfl ?_; intro w8 g2 b8 hs8)
  have l0 := lt_of_block h0
  replace h0 := keep_below b8 (lt_of_block h0) h0
  replace ga := keep_below b8 (lt_of_block ga) ga
  replace g1 := keep_below b8 (lt_of_block g1) g1
  replace gz := keep_below b8 (lt_of_block gz) gz
  replace gt := keep_below b8 (lt_of_block gt) gt
  replace hb := hb.trans (b8.mono hb.size)
  clear b8 hs8
  obtain ⟨Bg2, hBg2⟩ : ∃ B, B = w4.heap.size := ⟨_, rfl⟩
  rw [← hBg2] at l0 g2 ⊢
  clear hBg2
  (try simp only [Act.put, List.setIfInBounds_toArray, List.set_cons_zero, List.set_cons_succ])
  go_wp2_with (first | (refine wpList_load_arr rfl rfl rfl RTFe h0 ?_) | (go_at_call 20; fail))
  refine (Sub_yes F F oF oF _).mono ?_
  rintro e w4 ⟨rfl, b4⟩
  replace h0 := keep_below b4 (lt_of_block h0) h0
  replace ga := keep_below b4 (lt_of_block ga) ga
  replace g1 := keep_below b4 (lt_of_block g1) g1
  replace gz := keep_below b4 (lt_of_block gz) gz
  replace gt := keep_below b4 (lt_of_block gt) gt
  replace g2 := keep_below b4 (lt_of_block g2) g2
  replace hb := hb.trans (b4.mono hb.size)
  clear b4
  go_upto_region 10 with (refine wpList_new_arr rfl rfl rfl rfl ZTFe RTFe rfl rfl ?_; intro w8 gl b8 hs8)
  have l0 := lt_of_block h0
  replace h0 := keep_below b8 (lt_of_block h0) h0
  replace ga := keep_below b8 (lt_of_block ga) ga
  replace g1 := keep_below b8 (lt_of_block g1) g1
  replace gz := keep_below b8 (lt_of_block gz) gz
  replace gt := keep_below b8 (lt_of_block gt) gt
  replace g2 := keep_below b8 (lt_of_block g2) g2
  replace hb := hb.trans (b8.mono hb.size)
  clear b8 hs8
  obtain ⟨Bgl, hBgl⟩ : ∃ B, B = w4.heap.size := ⟨_, rfl⟩
  rw [← hBgl] at l0 gl ⊢
  clear hBgl
  (try simp only [Act.put, List.setIfInBounds_toArray, List.set_cons_zero, List.set_cons_succ])
  go_wp2_with (first | (refine wpList_val_w rfl (run_op_load rfl rfl (run_loadVar_arr0 RTFe ga)) ?_) | (refine wpList_val_w rfl (run_op_load rfl rfl (run_loadVar_arr0 RTFe h0)) ?_) | (go_at_call 14; fail))
  refine (Same_yes _ _ fa.1 oF s1.out _).mono ?_
  rintro e w4 ⟨rfl, b4⟩
  replace h0 := keep_below b4 (lt_of_block h0) h0
  replace ga := keep_below b4 (lt_of_block ga) ga
  replace g1 := keep_below b4 (lt_of_block g1) g1
  replace gz := keep_below b4 (lt_of_block gz) gz
  replace gt := keep_below b4 (lt_of_block gt) gt
  replace g2 := keep_below b4 (lt_of_block g2) g2
  replace gl := keep_below b4 (lt_of_block gl) gl
  replace hb := hb.trans (b4.mono hb.size)
  clear b4
  go_wp2_with (first | (refine wpList_val_w rfl (run_op_load rfl rfl (run_loadVar_arr0 RTFe g1)) ?_) | (refine wpList_val_w rfl (run_op_load rfl rfl (run_loadVar_arr0 RTFe h0)) ?_) | (go_at_call 14; fail))
  refine (Same_yes _ _ fo.1 oF s2.out _).mono ?_
  rintro e w4 ⟨rfl, b4⟩
  replace h0 := keep_below b4 (lt_of_block h0) h0
  replace ga := keep_below b4 (lt_of_block ga) ga
  replace g1 := keep_below b4 (lt_of_block g1) g1
  replace gz := keep_below b4 (lt_of_block gz) gz
  replace gt := keep_below b4 (lt_of_block gt) gt
  replace g2 := keep_below b4 (lt_of_block g2) g2
  replace gl := keep_below b4 (lt_of_block gl) gl
  replace hb := hb.trans (b4.mono hb.size)
  clear b4
  go_wp2_with (first | (refine wpList_val_w rfl (run_op_load rfl rfl (run_loadVar_arr0 RTFe gz)) ?_) | (refine wpList_val_w rfl (run_op_build rfl (by simp [Act.eval, Act.put]) built_fe0) ?_) | (go_at_call 14; fail))
  refine (Same_yes _ _ fz.1 f0.1 s3.out _).mono ?_
  rintro e w4 ⟨rfl, b4⟩
  replace h0 := keep_below b4 (lt_of_block h0) h0
  replace ga := keep_below b4 (lt_of_block ga) ga
  replace g1 := keep_below b4 (lt_of_block g1) g1
  replace gz := keep_below b4 (lt_of_block gz) gz
  replace gt := keep_below b4 (lt_of_block gt) gt
  replace g2 := keep_below b4 (lt_of_block g2) g2
  replace gl := keep_below b4 (lt_of_block gl) gl
  replace hb := hb.trans (b4.mono hb.size)
  clear b4
  go_wp2_with (first | (refine wpList_val_w rfl (run_op_load rfl rfl (run_loadVar_arr0 RTFe gt)) ?_) | (refine wpList_val_w rfl (run_op_load rfl rfl (run_loadVar_arr0 RTFe g2)) ?_) | (go_at_call 14; fail))
  refine (Same_yes _ _ ft.1 fw.1 s4.out _).mono ?_
  rintro e w4 ⟨rfl, b4⟩
  replace h0 := keep_below b4 (lt_of_block h0) h0
  replace ga := keep_below b4 (lt_of_block ga) ga
  replace g1 := keep_below b4 (lt_of_block g1) g1
  replace gz := keep_below b4 (lt_of_block gz) gz
  replace gt := keep_below b4 (lt_of_block gt) gt
  replace g2 := keep_below b4 (lt_of_block g2) g2
  replace gl := keep_below b4 (lt_of_block gl) gl
  replace hb := hb.trans (b4.mono hb.size)
  clear b4
  go_wp2_with (first | (refine wpList_val_w rfl (run_op_load rfl rfl (run_loadVar_arr0 RTFe gl)) ?_) | (refine wpList_val_w rfl (run_op_build rfl (by simp [Act.eval, Act.put]) built_fe0) ?_) | (go_at_call 14; fail))
  refine (Same_yes _ _ fl.1 f0.1 s5.out _).mono ?_
  rintro e w4 ⟨rfl, b4⟩
  replace h0 := keep_below b4 (lt_of_block h0) h0
  replace ga := keep_below b4 (lt_of_block ga) ga
  replace g1 := keep_below b4 (lt_of_block g1) g1
  replace gz := keep_below b4 (lt_of_block gz) gz
  replace gt := keep_below b4 (lt_of_block gt) gt
  replace g2 := keep_below b4 (lt_of_block g2) g2
  replace gl := keep_below b4 (lt_of_block gl) gl
  replace hb := hb.trans (b4.mono hb.size)
  clear b4
  go_wp2
  go_ret
  exact ⟨rfl, hb⟩
theorem FeZero_any (f0 : Nat → Int) (b0 : ∀ i, i < 5 → 0 ≤ f0 i ∧ f0 i < 18446744073709551616) (w : World) :
    Calls Try.prog 7 #[.agg (arr .u64 5 f0)] w fun e w' => e = .returned (.bool true) ∧ Below w.heap.size w w' := by
  rw [arr_nat (b := 18446744073709551616) b0]
  exact FeZero_nat _ (nat_lt (b := 18446744073709551616) b0) w
end Go.Proofs.Ytjabpamcpeaboaa
