/- The law FeRing: whatever the numbers, it answers true. -/
import Derived.Test.YtjabpamcpeaboaaFeZ
namespace Go.Proofs.Ytjabpamcpeaboaa
set_option linter.unusedSimpArgs false
set_option linter.unusedVariables false
open Go.RowKit
attribute [local irreducible] accN byteN prodN carN diffN sqN sumN difN oneF valN invN sameN

theorem less_is (a b : Nat) : ∃ d, (d + b) % pN = a % pN := by
  refine ⟨a % pN + (pN - b % pN), ?_⟩
  generalize hp : pN = p
  have hp0 : 0 < p := by rw [← hp]; unfold pN; omega
  have hb := Nat.div_add_mod b p
  have hl := Nat.mod_lt b hp0
  have : a % p + (p - b % p) + b = a % p + p * (b / p + 1) := by rw [Nat.mul_add]; omega
  rw [this, Nat.add_mul_mod_self_left, Nat.mod_mod]
set_option maxRecDepth 100000 in
set_option maxHeartbeats 4000000 in
theorem FeRing_nat (F : Nat → Nat) (hF : ∀ i, i < 5 → F i < 18446744073709551616) (G : Nat → Nat) (hG : ∀ i, i < 5 → G i < 18446744073709551616) (H : Nat → Nat) (hH : ∀ i, i < 5 → H i < 18446744073709551616) (w : World) :
    Calls Try.prog 5 #[.agg (arr .u64 5 fun i => ((F i : Nat) : Int)), .agg (arr .u64 5 fun i => ((G i : Nat) : Int)), .agg (arr .u64 5 fun i => ((H i : Nat) : Int))] w fun e w' => e = .returned (.bool true) ∧ Below w.heap.size w w' := by
  by_cases oF : okF F 5
  rotate_left
  · skip
    go_enter Try.func5, Try.ntmps5
    obtain ⟨h0, h1, h2, hsz, hb⟩ := alloc3 w (.cells (arr .u64 5 fun i => ((F i : Nat) : Int)) 24) (.cells (arr .u64 5 fun i => ((G i : Nat) : Int)) 24) (.cells (arr .u64 5 fun i => ((H i : Nat) : Int)) 24)
    go_wp2_with (go_at_call 11; fail)
    refine (live_any _).mono ?_
    rintro e w4 ⟨rfl, b4⟩
    replace h0 := keep_below b4 (by omega) h0
    replace h1 := keep_below b4 (by omega) h1
    replace h2 := keep_below b4 (by omega) h2
    replace hb := hb.trans (b4.mono (by omega))
    clear b4 hsz
    go_wp2_with (first | (refine wpList_load_arr rfl rfl rfl RTFe h0 ?_) | (refine wpList_val_w rfl (run_op_load rfl rfl (run_loadVar_arr0 RTFe h0)) ?_) | (go_at_call 16; fail))
    refine (May_no F hF oF _).mono ?_
    rintro e w4 ⟨rfl, b4⟩
    replace h0 := keep_below b4 (lt_of_block h0) h0
    replace h1 := keep_below b4 (lt_of_block h1) h1
    replace h2 := keep_below b4 (lt_of_block h2) h2
    replace hb := hb.trans (b4.mono hb.size)
    clear b4
    go_wp2
    go_ret
    exact ⟨rfl, hb⟩
  by_cases oG : okF G 5
  rotate_left
  · skip
    go_enter Try.func5, Try.ntmps5
    obtain ⟨h0, h1, h2, hsz, hb⟩ := alloc3 w (.cells (arr .u64 5 fun i => ((F i : Nat) : Int)) 24) (.cells (arr .u64 5 fun i => ((G i : Nat) : Int)) 24) (.cells (arr .u64 5 fun i => ((H i : Nat) : Int)) 24)
    go_wp2_with (go_at_call 11; fail)
    refine (live_any _).mono ?_
    rintro e w4 ⟨rfl, b4⟩
    replace h0 := keep_below b4 (by omega) h0
    replace h1 := keep_below b4 (by omega) h1
    replace h2 := keep_below b4 (by omega) h2
    replace hb := hb.trans (b4.mono (by omega))
    clear b4 hsz
    go_wp2_with (first | (refine wpList_load_arr rfl rfl rfl RTFe h0 ?_) | (refine wpList_val_w rfl (run_op_load rfl rfl (run_loadVar_arr0 RTFe h0)) ?_) | (go_at_call 16; fail))
    refine (May_yes F oF _).mono ?_
    rintro e w4 ⟨rfl, b4⟩
    replace h0 := keep_below b4 (lt_of_block h0) h0
    replace h1 := keep_below b4 (lt_of_block h1) h1
    replace h2 := keep_below b4 (lt_of_block h2) h2
    replace hb := hb.trans (b4.mono hb.size)
    clear b4
    go_wp2_with (first | (refine wpList_load_arr rfl rfl rfl RTFe h1 ?_) | (refine wpList_val_w rfl (run_op_load rfl rfl (run_loadVar_arr0 RTFe h1)) ?_) | (go_at_call 16; fail))
    refine (May_no G hG oG _).mono ?_
    rintro e w4 ⟨rfl, b4⟩
    replace h0 := keep_below b4 (lt_of_block h0) h0
    replace h1 := keep_below b4 (lt_of_block h1) h1
    replace h2 := keep_below b4 (lt_of_block h2) h2
    replace hb := hb.trans (b4.mono hb.size)
    clear b4
    go_wp2
    go_ret
    exact ⟨rfl, hb⟩
  by_cases oH : okF H 5
  rotate_left
  · skip
    go_enter Try.func5, Try.ntmps5
    obtain ⟨h0, h1, h2, hsz, hb⟩ := alloc3 w (.cells (arr .u64 5 fun i => ((F i : Nat) : Int)) 24) (.cells (arr .u64 5 fun i => ((G i : Nat) : Int)) 24) (.cells (arr .u64 5 fun i => ((H i : Nat) : Int)) 24)
    go_wp2_with (go_at_call 11; fail)
    refine (live_any _).mono ?_
    rintro e w4 ⟨rfl, b4⟩
    replace h0 := keep_below b4 (by omega) h0
    replace h1 := keep_below b4 (by omega) h1
    replace h2 := keep_below b4 (by omega) h2
    replace hb := hb.trans (b4.mono (by omega))
    clear b4 hsz
    go_wp2_with (first | (refine wpList_load_arr rfl rfl rfl RTFe h0 ?_) | (refine wpList_val_w rfl (run_op_load rfl rfl (run_loadVar_arr0 RTFe h0)) ?_) | (go_at_call 16; fail))
    refine (May_yes F oF _).mono ?_
    rintro e w4 ⟨rfl, b4⟩
    replace h0 := keep_below b4 (lt_of_block h0) h0
    replace h1 := keep_below b4 (lt_of_block h1) h1
    replace h2 := keep_below b4 (lt_of_block h2) h2
    replace hb := hb.trans (b4.mono hb.size)
    clear b4
    go_wp2_with (first | (refine wpList_load_arr rfl rfl rfl RTFe h1 ?_) | (refine wpList_val_w rfl (run_op_load rfl rfl (run_loadVar_arr0 RTFe h1)) ?_) | (go_at_call 16; fail))
    refine (May_yes G oG _).mono ?_
    rintro e w4 ⟨rfl, b4⟩
    replace h0 := keep_below b4 (lt_of_block h0) h0
    replace h1 := keep_below b4 (lt_of_block h1) h1
    replace h2 := keep_below b4 (lt_of_block h2) h2
    replace hb := hb.trans (b4.mono hb.size)
    clear b4
    go_wp2_with (first | (refine wpList_load_arr rfl rfl rfl RTFe h2 ?_) | (refine wpList_val_w rfl (run_op_load rfl rfl (run_loadVar_arr0 RTFe h2)) ?_) | (go_at_call 16; fail))
    refine (May_no H hH oH _).mono ?_
    rintro e w4 ⟨rfl, b4⟩
    replace h0 := keep_below b4 (lt_of_block h0) h0
    replace h1 := keep_below b4 (lt_of_block h1) h1
    replace h2 := keep_below b4 (lt_of_block h2) h2
    replace hb := hb.trans (b4.mono hb.size)
    clear b4
    go_wp2
    go_ret
    exact ⟨rfl, hb⟩
  have fF := own_fits oF
  have fG := own_fits oG
  have fH := own_fits oH
  have fab := prod_fits fF fG
  have fba := prod_fits fG fF
  have fl := prod_fits fab fH
  have fbc := prod_fits fG fH
  have fr := prod_fits fF fbc
  have fs := sum_fits fG fH
  have ft := sum_fits fH fG
  have fw := prod_fits fF fs
  have fac := prod_fits fF fH
  have fp := sum_fits fab fac
  have fk := dif_fits (c := valN G 5) fs fH rfl
  obtain ⟨d, hd⟩ := less_is (valN F 5) (valN G 5)
  have fg := dif_fits (c := d) fF fG hd
  have fm := sum_fits fg fG
  have s1 := Lib.hid (fits_same fab fba (by rw [Nat.mul_comm]))
  have s2 := Lib.hid (fits_same fl fr (by rw [Nat.mul_assoc]))
  have s3 := Lib.hid (fits_same fs ft (by rw [Nat.add_comm]))
  have s4 := Lib.hid (fits_same fw fp (by rw [Nat.mul_add]))
  have s5 := Lib.hid (fits_same fk fG rfl)
  have s6 := Lib.hid (fits_same fm fF hd)
  clear hd
  go_enter Try.func5, Try.ntmps5
  obtain ⟨h0, h1, h2, hsz, hb⟩ := alloc3 w (.cells (arr .u64 5 fun i => ((F i : Nat) : Int)) 24) (.cells (arr .u64 5 fun i => ((G i : Nat) : Int)) 24) (.cells (arr .u64 5 fun i => ((H i : Nat) : Int)) 24)
  go_wp2_with (go_at_call 11; fail)
  refine (live_any _).mono ?_
  rintro e w4 ⟨rfl, b4⟩
  replace h0 := keep_below b4 (by omega) h0
  replace h1 := keep_below b4 (by omega) h1
  replace h2 := keep_below b4 (by omega) h2
  replace hb := hb.trans (b4.mono (by omega))
  clear b4 hsz
  go_wp2_with (first | (refine wpList_load_arr rfl rfl rfl RTFe h0 ?_) | (refine wpList_val_w rfl (run_op_load rfl rfl (run_loadVar_arr0 RTFe h0)) ?_) | (go_at_call 16; fail))
  refine (May_yes F oF _).mono ?_
  rintro e w4 ⟨rfl, b4⟩
  replace h0 := keep_below b4 (lt_of_block h0) h0
  replace h1 := keep_below b4 (lt_of_block h1) h1
  replace h2 := keep_below b4 (lt_of_block h2) h2
  replace hb := hb.trans (b4.mono hb.size)
  clear b4
  go_wp2_with (first | (refine wpList_load_arr rfl rfl rfl RTFe h1 ?_) | (refine wpList_val_w rfl (run_op_load rfl rfl (run_loadVar_arr0 RTFe h1)) ?_) | (go_at_call 16; fail))
  refine (May_yes G oG _).mono ?_
  rintro e w4 ⟨rfl, b4⟩
  replace h0 := keep_below b4 (lt_of_block h0) h0
  replace h1 := keep_below b4 (lt_of_block h1) h1
  replace h2 := keep_below b4 (lt_of_block h2) h2
  replace hb := hb.trans (b4.mono hb.size)
  clear b4
  go_wp2_with (first | (refine wpList_load_arr rfl rfl rfl RTFe h2 ?_) | (refine wpList_val_w rfl (run_op_load rfl rfl (run_loadVar_arr0 RTFe h2)) ?_) | (go_at_call 16; fail))
  refine (May_yes H oH _).mono ?_
  rintro e w4 ⟨rfl, b4⟩
  replace h0 := keep_below b4 (lt_of_block h0) h0
  replace h1 := keep_below b4 (lt_of_block h1) h1
  replace h2 := keep_below b4 (lt_of_block h2) h2
  replace hb := hb.trans (b4.mono hb.size)
  clear b4
  go_wp2_with (first | (refine wpList_load_arr rfl rfl rfl RTFe h0 ?_) | (refine wpList_load_arr rfl rfl rfl RTFe h1 ?_) | (go_at_call 18; fail))
  refine (Mul_yes F G oF oG _).mono ?_
  rintro e w4 ⟨rfl, b4⟩
  replace h0 := keep_below b4 (lt_of_block h0) h0
  replace h1 := keep_below b4 (lt_of_block h1) h1
  replace h2 := keep_below b4 (lt_of_block h2) h2
  replace hb := hb.trans (b4.mono hb.size)
  clear b4
  go_upto_region 5 with (refine wpList_new_arr rfl rfl rfl rfl ZTFe RTFe rfl rfl ?_; intro w8 gab b8 hs8)
  have l0 := lt_of_block h0
  replace h0 := keep_below b8 (lt_of_block h0) h0
  replace h1 := keep_below b8 (lt_of_block h1) h1
  replace h2 := keep_below b8 (lt_of_block h2) h2
  replace hb := hb.trans (b8.mono hb.size)
  clear b8 hs8
  obtain ⟨Bgab, hBgab⟩ : ∃ B, B = w4.heap.size := ⟨_, rfl⟩
  rw [← hBgab] at l0 gab ⊢
  clear hBgab
  (try simp only [Act.put, List.setIfInBounds_toArray, List.set_cons_zero, List.set_cons_succ])
  go_wp2_with (first | (refine wpList_load_arr rfl rfl rfl RTFe h0 ?_) | (refine wpList_load_arr rfl rfl rfl RTFe h1 ?_) | (go_at_call 18; fail))
  refine (Mul_yes G F oG oF _).mono ?_
  rintro e w4 ⟨rfl, b4⟩
  replace h0 := keep_below b4 (lt_of_block h0) h0
  replace h1 := keep_below b4 (lt_of_block h1) h1
  replace h2 := keep_below b4 (lt_of_block h2) h2
  replace gab := keep_below b4 (lt_of_block gab) gab
  replace hb := hb.trans (b4.mono hb.size)
  clear b4
  go_upto_region 6 with (refine wpList_new_arr rfl rfl rfl rfl ZTFe RTFe rfl rfl ?_; intro w8 gba b8 hs8)
  have l0 := lt_of_block h0
  replace h0 := keep_below b8 (lt_of_block h0) h0
  replace h1 := keep_below b8 (lt_of_block h1) h1
  replace h2 := keep_below b8 (lt_of_block h2) h2
  replace gab := keep_below b8 (lt_of_block gab) gab
  replace hb := hb.trans (b8.mono hb.size)
  clear b8 hs8
  obtain ⟨Bgba, hBgba⟩ : ∃ B, B = w4.heap.size := ⟨_, rfl⟩
  rw [← hBgba] at l0 gba ⊢
  clear hBgba
  (try simp only [Act.put, List.setIfInBounds_toArray, List.set_cons_zero, List.set_cons_succ])
  go_wp2_with (first | (refine wpList_load_arr rfl rfl rfl RTFe gab ?_) | (refine wpList_load_arr rfl rfl rfl RTFe h2 ?_) | (go_at_call 18; fail))
  refine (Mul_yes (prodN F G) H fab.1 oH _).mono ?_
  rintro e w4 ⟨rfl, b4⟩
  replace h0 := keep_below b4 (lt_of_block h0) h0
  replace h1 := keep_below b4 (lt_of_block h1) h1
  replace h2 := keep_below b4 (lt_of_block h2) h2
  replace gab := keep_below b4 (lt_of_block gab) gab
  replace gba := keep_below b4 (lt_of_block gba) gba
  replace hb := hb.trans (b4.mono hb.size)
  clear b4
  go_upto_region 7 with (refine wpList_new_arr rfl rfl rfl rfl ZTFe RTFe rfl rfl ?_; intro w8 gl b8 hs8)
  have l0 := lt_of_block h0
  replace h0 := keep_below b8 (lt_of_block h0) h0
  replace h1 := keep_below b8 (lt_of_block h1) h1
  replace h2 := keep_below b8 (lt_of_block h2) h2
  replace gab := keep_below b8 (lt_of_block gab) gab
  replace gba := keep_below b8 (lt_of_block gba) gba
  replace hb := hb.trans (b8.mono hb.size)
  clear b8 hs8
  obtain ⟨Bgl, hBgl⟩ : ∃ B, B = w4.heap.size := ⟨_, rfl⟩
  rw [← hBgl] at l0 gl ⊢
  clear hBgl
  (try simp only [Act.put, List.setIfInBounds_toArray, List.set_cons_zero, List.set_cons_succ])
  go_wp2_with (first | (refine wpList_load_arr rfl rfl rfl RTFe h1 ?_) | (refine wpList_load_arr rfl rfl rfl RTFe h2 ?_) | (go_at_call 18; fail))
  refine (Mul_yes G H oG oH _).mono ?_
  rintro e w4 ⟨rfl, b4⟩
  replace h0 := keep_below b4 (lt_of_block h0) h0
  replace h1 := keep_below b4 (lt_of_block h1) h1
  replace h2 := keep_below b4 (lt_of_block h2) h2
  replace gab := keep_below b4 (lt_of_block gab) gab
  replace gba := keep_below b4 (lt_of_block gba) gba
  replace gl := keep_below b4 (lt_of_block gl) gl
  replace hb := hb.trans (b4.mono hb.size)
  clear b4
  go_upto_region 8 with (refine wpList_new_arr rfl rfl rfl rfl ZTFe RTFe rfl rfl ?_; intro w8 gbc b8 hs8)
  have l0 := lt_of_block h0
  replace h0 := keep_below b8 (lt_of_block h0) h0
  replace h1 := keep_below b8 (lt_of_block h1) h1
  replace h2 := keep_below b8 (lt_of_block h2) h2
  replace gab := keep_below b8 (lt_of_block gab) gab
  replace gba := keep_below b8 (lt_of_block gba) gba
  replace gl := keep_below b8 (lt_of_block gl) gl
  replace hb := hb.trans (b8.mono hb.size)
  clear b8 hs8
  obtain ⟨Bgbc, hBgbc⟩ : ∃ B, B = w4.heap.size := ⟨_, rfl⟩
  rw [← hBgbc] at l0 gbc ⊢
  clear hBgbc
  (try simp only [Act.put, List.setIfInBounds_toArray, List.set_cons_zero, List.set_cons_succ])
  go_wp2_with (first | (refine wpList_load_arr rfl rfl rfl RTFe gbc ?_) | (refine wpList_load_arr rfl rfl rfl RTFe h0 ?_) | (go_at_call 18; fail))
  refine (Mul_yes F (prodN G H) oF fbc.1 _).mono ?_
  rintro e w4 ⟨rfl, b4⟩
  replace h0 := keep_below b4 (lt_of_block h0) h0
  replace h1 := keep_below b4 (lt_of_block h1) h1
  replace h2 := keep_below b4 (lt_of_block h2) h2
  replace gab := keep_below b4 (lt_of_block gab) gab
  replace gba := keep_below b4 (lt_of_block gba) gba
  replace gl := keep_below b4 (lt_of_block gl) gl
  replace gbc := keep_below b4 (lt_of_block gbc) gbc
  replace hb := hb.trans (b4.mono hb.size)
  clear b4
  go_upto_region 9 with (refine wpList_new_arr rfl rfl rfl rfl ZTFe RTFe rfl rfl ?_; intro w8 gr b8 hs8)
  have l0 := lt_of_block h0
  replace h0 := keep_below b8 (lt_of_block h0) h0
  replace h1 := keep_below b8 (lt_of_block h1) h1
  replace h2 := keep_below b8 (lt_of_block h2) h2
  replace gab := keep_below b8 (lt_of_block gab) gab
  replace gba := keep_below b8 (lt_of_block gba) gba
  replace gl := keep_below b8 (lt_of_block gl) gl
  replace gbc := keep_below b8 (lt_of_block gbc) gbc
  replace hb := hb.trans (b8.mono hb.size)
  clear b8 hs8
  obtain ⟨Bgr, hBgr⟩ : ∃ B, B = w4.heap.size := ⟨_, rfl⟩
  rw [← hBgr] at l0 gr ⊢
  clear hBgr
  (try simp only [Act.put, List.setIfInBounds_toArray, List.set_cons_zero, List.set_cons_succ])
  go_wp2_with (first | (refine wpList_val_w rfl (run_op_load rfl rfl (run_loadVar_arr0 RTFe gab)) ?_) | (refine wpList_val_w rfl (run_op_load rfl rfl (run_loadVar_arr0 RTFe gba)) ?_) | (go_at_call 14; fail))
  refine (Same_yes _ _ fab.1 fba.1 s1.out _).mono ?_
  rintro e w4 ⟨rfl, b4⟩
  replace h0 := keep_below b4 (lt_of_block h0) h0
  replace h1 := keep_below b4 (lt_of_block h1) h1
  replace h2 := keep_below b4 (lt_of_block h2) h2
  replace gab := keep_below b4 (lt_of_block gab) gab
  replace gba := keep_below b4 (lt_of_block gba) gba
  replace gl := keep_below b4 (lt_of_block gl) gl
  replace gbc := keep_below b4 (lt_of_block gbc) gbc
  replace gr := keep_below b4 (lt_of_block gr) gr
  replace hb := hb.trans (b4.mono hb.size)
  clear b4
  go_wp2_with (first | (refine wpList_val_w rfl (run_op_load rfl rfl (run_loadVar_arr0 RTFe gl)) ?_) | (refine wpList_val_w rfl (run_op_load rfl rfl (run_loadVar_arr0 RTFe gr)) ?_) | (go_at_call 14; fail))
  refine (Same_yes _ _ fl.1 fr.1 s2.out _).mono ?_
  rintro e w4 ⟨rfl, b4⟩
  replace h0 := keep_below b4 (lt_of_block h0) h0
  replace h1 := keep_below b4 (lt_of_block h1) h1
  replace h2 := keep_below b4 (lt_of_block h2) h2
  replace gab := keep_below b4 (lt_of_block gab) gab
  replace gba := keep_below b4 (lt_of_block gba) gba
  replace gl := keep_below b4 (lt_of_block gl) gl
  replace gbc := keep_below b4 (lt_of_block gbc) gbc
  replace gr := keep_below b4 (lt_of_block gr) gr
  replace hb := hb.trans (b4.mono hb.size)
  clear b4
  clear gba gl gbc gr
  go_wp2_with (first | (refine wpList_load_arr rfl rfl rfl RTFe h1 ?_) | (refine wpList_load_arr rfl rfl rfl RTFe h2 ?_) | (go_at_call 19; fail))
  refine (Add_yes G H oG oH _).mono ?_
  rintro e w4 ⟨rfl, b4⟩
  replace h0 := keep_below b4 (lt_of_block h0) h0
  replace h1 := keep_below b4 (lt_of_block h1) h1
  replace h2 := keep_below b4 (lt_of_block h2) h2
  replace gab := keep_below b4 (lt_of_block gab) gab
  replace hb := hb.trans (b4.mono hb.size)
  clear b4
  go_upto_region 12 with (refine wpList_new_arr rfl rfl rfl rfl ZTFe RTFe rfl rfl ?_; intro w8 gs b8 hs8)
  have l0 := lt_of_block h0
  replace h0 := keep_below b8 (lt_of_block h0) h0
  replace h1 := keep_below b8 (lt_of_block h1) h1
  replace h2 := keep_below b8 (lt_of_block h2) h2
  replace gab := keep_below b8 (lt_of_block gab) gab
  replace hb := hb.trans (b8.mono hb.size)
  clear b8 hs8
  obtain ⟨Bgs, hBgs⟩ : ∃ B, B = w4.heap.size := ⟨_, rfl⟩
  rw [← hBgs] at l0 gs ⊢
  clear hBgs
  (try simp only [Act.put, List.setIfInBounds_toArray, List.set_cons_zero, List.set_cons_succ])
  go_wp2_with (first | (refine wpList_load_arr rfl rfl rfl RTFe h1 ?_) | (refine wpList_load_arr rfl rfl rfl RTFe h2 ?_) | (go_at_call 19; fail))
  refine (Add_yes H G oH oG _).mono ?_
  rintro e w4 ⟨rfl, b4⟩
  replace h0 := keep_below b4 (lt_of_block h0) h0
  replace h1 := keep_below b4 (lt_of_block h1) h1
  replace h2 := keep_below b4 (lt_of_block h2) h2
  replace gab := keep_below b4 (lt_of_block gab) gab
  replace gs := keep_below b4 (lt_of_block gs) gs
  replace hb := hb.trans (b4.mono hb.size)
  clear b4
  go_upto_region 13 with (refine wpList_new_arr rfl rfl rfl rfl ZTFe RTFe rfl rfl ?_; intro w8 gt b8 hs8)
  have l0 := lt_of_block h0
  replace h0 := keep_below b8 (lt_of_block h0) h0
  replace h1 := keep_below b8 (lt_of_block h1) h1
  replace h2 := keep_below b8 (lt_of_block h2) h2
  replace gab := keep_below b8 (lt_of_block gab) gab
  replace gs := keep_below b8 (lt_of_block gs) gs
  replace hb := hb.trans (b8.mono hb.size)
  clear b8 hs8
  obtain ⟨Bgt, hBgt⟩ : ∃ B, B = w4.heap.size := ⟨_, rfl⟩
  rw [← hBgt] at l0 gt ⊢
  clear hBgt
  (try simp only [Act.put, List.setIfInBounds_toArray, List.set_cons_zero, List.set_cons_succ])
  go_wp2_with (first | (refine wpList_load_arr rfl rfl rfl RTFe gs ?_) | (refine wpList_load_arr rfl rfl rfl RTFe h0 ?_) | (go_at_call 18; fail))
  refine (Mul_yes F (sumN G H) oF fs.1 _).mono ?_
  rintro e w4 ⟨rfl, b4⟩
  replace h0 := keep_below b4 (lt_of_block h0) h0
  replace h1 := keep_below b4 (lt_of_block h1) h1
  replace h2 := keep_below b4 (lt_of_block h2) h2
  replace gab := keep_below b4 (lt_of_block gab) gab
  replace gs := keep_below b4 (lt_of_block gs) gs
  replace gt := keep_below b4 (lt_of_block gt) gt
  replace hb := hb.trans (b4.mono hb.size)
  clear b4
  go_upto_region 14 with (refine wpList_new_arr rfl rfl rfl rfl ZTFe RTFe rfl rfl ?_; intro w8 gw b8 hs8)
  have l0 := lt_of_block h0
  replace h0 := keep_below b8 (lt_of_block h0) h0
  replace h1 := keep_below b8 (lt_of_block h1) h1
  replace h2 := keep_below b8 (lt_of_block h2) h2
  replace gab := keep_below b8 (lt_of_block gab) gab
  replace gs := keep_below b8 (lt_of_block gs) gs
  replace gt := keep_below b8 (lt_of_block gt) gt
  replace hb := hb.trans (b8.mono hb.size)
  clear b8 hs8
  obtain ⟨Bgw, hBgw⟩ : ∃ B, B = w4.heap.size := ⟨_, rfl⟩
  rw [← hBgw] at l0 gw ⊢
  clear hBgw
  (try simp only [Act.put, List.setIfInBounds_toArray, List.set_cons_zero, List.set_cons_succ])
  go_wp2_with (first | (refine wpList_load_arr rfl rfl rfl RTFe h0 ?_) | (refine wpList_load_arr rfl rfl rfl RTFe h2 ?_) | (go_at_call 18; fail))
  refine (Mul_yes F H oF oH _).mono ?_
  rintro e w4 ⟨rfl, b4⟩
  replace h0 := keep_below b4 (lt_of_block h0) h0
  replace h1 := keep_below b4 (lt_of_block h1) h1
  replace h2 := keep_below b4 (lt_of_block h2) h2
  replace gab := keep_below b4 (lt_of_block gab) gab
  replace gs := keep_below b4 (lt_of_block gs) gs
  replace gt := keep_below b4 (lt_of_block gt) gt
  replace gw := keep_below b4 (lt_of_block gw) gw
  replace hb := hb.trans (b4.mono hb.size)
  clear b4
  go_upto_region 15 with (refine wpList_new_arr rfl rfl rfl rfl ZTFe RTFe rfl rfl ?_; intro w8 gac b8 hs8)
  have l0 := lt_of_block h0
  replace h0 := keep_below b8 (lt_of_block h0) h0
  replace h1 := keep_below b8 (lt_of_block h1) h1
  replace h2 := keep_below b8 (lt_of_block h2) h2
  replace gab := keep_below b8 (lt_of_block gab) gab
  replace gs := keep_below b8 (lt_of_block gs) gs
  replace gt := keep_below b8 (lt_of_block gt) gt
  replace gw := keep_below b8 (lt_of_block gw) gw
  replace hb := hb.trans (b8.mono hb.size)
  clear b8 hs8
  obtain ⟨Bgac, hBgac⟩ : ∃ B, B = w4.heap.size := ⟨_, rfl⟩
  rw [← hBgac] at l0 gac ⊢
  clear hBgac
  (try simp only [Act.put, List.setIfInBounds_toArray, List.set_cons_zero, List.set_cons_succ])
  go_wp2_with (first | (refine wpList_load_arr rfl rfl rfl RTFe gab ?_) | (refine wpList_load_arr rfl rfl rfl RTFe gac ?_) | (go_at_call 19; fail))
  refine (Add_yes (prodN F G) (prodN F H) fab.1 fac.1 _).mono ?_
  rintro e w4 ⟨rfl, b4⟩
  replace h0 := keep_below b4 (lt_of_block h0) h0
  replace h1 := keep_below b4 (lt_of_block h1) h1
  replace h2 := keep_below b4 (lt_of_block h2) h2
  replace gab := keep_below b4 (lt_of_block gab) gab
  replace gs := keep_below b4 (lt_of_block gs) gs
  replace gt := keep_below b4 (lt_of_block gt) gt
  replace gw := keep_below b4 (lt_of_block gw) gw
  replace gac := keep_below b4 (lt_of_block gac) gac
  replace hb := hb.trans (b4.mono hb.size)
  clear b4
  go_upto_region 16 with (refine wpList_new_arr rfl rfl rfl rfl ZTFe RTFe rfl rfl ?_; intro w8 gp b8 hs8)
  have l0 := lt_of_block h0
  replace h0 := keep_below b8 (lt_of_block h0) h0
  replace h1 := keep_below b8 (lt_of_block h1) h1
  replace h2 := keep_below b8 (lt_of_block h2) h2
  replace gab := keep_below b8 (lt_of_block gab) gab
  replace gs := keep_below b8 (lt_of_block gs) gs
  replace gt := keep_below b8 (lt_of_block gt) gt
  replace gw := keep_below b8 (lt_of_block gw) gw
  replace gac := keep_below b8 (lt_of_block gac) gac
  replace hb := hb.trans (b8.mono hb.size)
  clear b8 hs8
  obtain ⟨Bgp, hBgp⟩ : ∃ B, B = w4.heap.size := ⟨_, rfl⟩
  rw [← hBgp] at l0 gp ⊢
  clear hBgp
  (try simp only [Act.put, List.setIfInBounds_toArray, List.set_cons_zero, List.set_cons_succ])
  clear gac gab
  go_wp2_with (first | (refine wpList_load_arr rfl rfl rfl RTFe gs ?_) | (refine wpList_load_arr rfl rfl rfl RTFe h2 ?_) | (go_at_call 20; fail))
  refine (Sub_yes (sumN G H) H fs.1 oH _).mono ?_
  rintro e w4 ⟨rfl, b4⟩
  replace h0 := keep_below b4 (lt_of_block h0) h0
  replace h1 := keep_below b4 (lt_of_block h1) h1
  replace h2 := keep_below b4 (lt_of_block h2) h2
  replace gs := keep_below b4 (lt_of_block gs) gs
  replace gt := keep_below b4 (lt_of_block gt) gt
  replace gw := keep_below b4 (lt_of_block gw) gw
  replace gp := keep_below b4 (lt_of_block gp) gp
  replace hb := hb.trans (b4.mono hb.size)
  clear b4
  go_upto_region 17 with (refine wpList_new_arr rfl rfl rfl rfl ZTFe RTFe rfl rfl ?_; intro w8 gk b8 hs8)
  have l0 := lt_of_block h0
  replace h0 := keep_below b8 (lt_of_block h0) h0
  replace h1 := keep_below b8 (lt_of_block h1) h1
  replace h2 := keep_below b8 (lt_of_block h2) h2
  replace gs := keep_below b8 (lt_of_block gs) gs
  replace gt := keep_below b8 (lt_of_block gt) gt
  replace gw := keep_below b8 (lt_of_block gw) gw
  replace gp := keep_below b8 (lt_of_block gp) gp
  replace hb := hb.trans (b8.mono hb.size)
  clear b8 hs8
  obtain ⟨Bgk, hBgk⟩ : ∃ B, B = w4.heap.size := ⟨_, rfl⟩
  rw [← hBgk] at l0 gk ⊢
  clear hBgk
  (try simp only [Act.put, List.setIfInBounds_toArray, List.set_cons_zero, List.set_cons_succ])
  go_wp2_with (first | (refine wpList_load_arr rfl rfl rfl RTFe h0 ?_) | (refine wpList_load_arr rfl rfl rfl RTFe h1 ?_) | (go_at_call 20; fail))
  refine (Sub_yes F G oF oG _).mono ?_
  rintro e w4 ⟨rfl, b4⟩
  replace h0 := keep_below b4 (lt_of_block h0) h0
  replace h1 := keep_below b4 (lt_of_block h1) h1
  replace h2 := keep_below b4 (lt_of_block h2) h2
  replace gs := keep_below b4 (lt_of_block gs) gs
  replace gt := keep_below b4 (lt_of_block gt) gt
  replace gw := keep_below b4 (lt_of_block gw) gw
  replace gp := keep_below b4 (lt_of_block gp) gp
  replace gk := keep_below b4 (lt_of_block gk) gk
  replace hb := hb.trans (b4.mono hb.size)
  clear b4
  go_upto_region 18 with (refine wpList_new_arr rfl rfl rfl rfl ZTFe RTFe rfl rfl ?_; intro w8 gg b8 hs8)
  have l0 := lt_of_block h0
  replace h0 := keep_below b8 (lt_of_block h0) h0
  replace h1 := keep_below b8 (lt_of_block h1) h1
  replace h2 := keep_below b8 (lt_of_block h2) h2
  replace gs := keep_below b8 (lt_of_block gs) gs
  replace gt := keep_below b8 (lt_of_block gt) gt
  replace gw := keep_below b8 (lt_of_block gw) gw
  replace gp := keep_below b8 (lt_of_block gp) gp
  replace gk := keep_below b8 (lt_of_block gk) gk
  replace hb := hb.trans (b8.mono hb.size)
  clear b8 hs8
  obtain ⟨Bgg, hBgg⟩ : ∃ B, B = w4.heap.size := ⟨_, rfl⟩
  rw [← hBgg] at l0 gg ⊢
  clear hBgg
  (try simp only [Act.put, List.setIfInBounds_toArray, List.set_cons_zero, List.set_cons_succ])
  go_wp2_with (first | (refine wpList_load_arr rfl rfl rfl RTFe gg ?_) | (refine wpList_load_arr rfl rfl rfl RTFe h1 ?_) | (go_at_call 19; fail))
  refine (Add_yes (difN F G) G fg.1 oG _).mono ?_
  rintro e w4 ⟨rfl, b4⟩
  replace h0 := keep_below b4 (lt_of_block h0) h0
  replace h1 := keep_below b4 (lt_of_block h1) h1
  replace h2 := keep_below b4 (lt_of_block h2) h2
  replace gs := keep_below b4 (lt_of_block gs) gs
  replace gt := keep_below b4 (lt_of_block gt) gt
  replace gw := keep_below b4 (lt_of_block gw) gw
  replace gp := keep_below b4 (lt_of_block gp) gp
  replace gk := keep_below b4 (lt_of_block gk) gk
  replace gg := keep_below b4 (lt_of_block gg) gg
  replace hb := hb.trans (b4.mono hb.size)
  clear b4
  go_upto_region 19 with (refine wpList_new_arr rfl rfl rfl rfl ZTFe RTFe rfl rfl ?_; intro w8 gm b8 hs8)
  have l0 := lt_of_block h0
  replace h0 := keep_below b8 (lt_of_block h0) h0
  replace h1 := keep_below b8 (lt_of_block h1) h1
  replace h2 := keep_below b8 (lt_of_block h2) h2
  replace gs := keep_below b8 (lt_of_block gs) gs
  replace gt := keep_below b8 (lt_of_block gt) gt
  replace gw := keep_below b8 (lt_of_block gw) gw
  replace gp := keep_below b8 (lt_of_block gp) gp
  replace gk := keep_below b8 (lt_of_block gk) gk
  replace gg := keep_below b8 (lt_of_block gg) gg
  replace hb := hb.trans (b8.mono hb.size)
  clear b8 hs8
  obtain ⟨Bgm, hBgm⟩ : ∃ B, B = w4.heap.size := ⟨_, rfl⟩
  rw [← hBgm] at l0 gm ⊢
  clear hBgm
  (try simp only [Act.put, List.setIfInBounds_toArray, List.set_cons_zero, List.set_cons_succ])
  go_wp2_with (first | (refine wpList_val_w rfl (run_op_load rfl rfl (run_loadVar_arr0 RTFe gs)) ?_) | (refine wpList_val_w rfl (run_op_load rfl rfl (run_loadVar_arr0 RTFe gt)) ?_) | (go_at_call 14; fail))
  refine (Same_yes _ _ fs.1 ft.1 s3.out _).mono ?_
  rintro e w4 ⟨rfl, b4⟩
  replace h0 := keep_below b4 (lt_of_block h0) h0
  replace h1 := keep_below b4 (lt_of_block h1) h1
  replace h2 := keep_below b4 (lt_of_block h2) h2
  replace gs := keep_below b4 (lt_of_block gs) gs
  replace gt := keep_below b4 (lt_of_block gt) gt
  replace gw := keep_below b4 (lt_of_block gw) gw
  replace gp := keep_below b4 (lt_of_block gp) gp
  replace gk := keep_below b4 (lt_of_block gk) gk
  replace gg := keep_below b4 (lt_of_block gg) gg
  replace gm := keep_below b4 (lt_of_block gm) gm
  replace hb := hb.trans (b4.mono hb.size)
  clear b4
  go_wp2_with (first | (refine wpList_val_w rfl (run_op_load rfl rfl (run_loadVar_arr0 RTFe gw)) ?_) | (refine wpList_val_w rfl (run_op_load rfl rfl (run_loadVar_arr0 RTFe gp)) ?_) | (go_at_call 14; fail))
  refine (Same_yes _ _ fw.1 fp.1 s4.out _).mono ?_
  rintro e w4 ⟨rfl, b4⟩
  replace h0 := keep_below b4 (lt_of_block h0) h0
  replace h1 := keep_below b4 (lt_of_block h1) h1
  replace h2 := keep_below b4 (lt_of_block h2) h2
  replace gs := keep_below b4 (lt_of_block gs) gs
  replace gt := keep_below b4 (lt_of_block gt) gt
  replace gw := keep_below b4 (lt_of_block gw) gw
  replace gp := keep_below b4 (lt_of_block gp) gp
  replace gk := keep_below b4 (lt_of_block gk) gk
  replace gg := keep_below b4 (lt_of_block gg) gg
  replace gm := keep_below b4 (lt_of_block gm) gm
  replace hb := hb.trans (b4.mono hb.size)
  clear b4
  go_wp2_with (first | (refine wpList_val_w rfl (run_op_load rfl rfl (run_loadVar_arr0 RTFe gk)) ?_) | (refine wpList_val_w rfl (run_op_load rfl rfl (run_loadVar_arr0 RTFe h1)) ?_) | (go_at_call 14; fail))
  refine (Same_yes _ _ fk.1 oG s5.out _).mono ?_
  rintro e w4 ⟨rfl, b4⟩
  replace h0 := keep_below b4 (lt_of_block h0) h0
  replace h1 := keep_below b4 (lt_of_block h1) h1
  replace h2 := keep_below b4 (lt_of_block h2) h2
  replace gs := keep_below b4 (lt_of_block gs) gs
  replace gt := keep_below b4 (lt_of_block gt) gt
  replace gw := keep_below b4 (lt_of_block gw) gw
  replace gp := keep_below b4 (lt_of_block gp) gp
  replace gk := keep_below b4 (lt_of_block gk) gk
  replace gg := keep_below b4 (lt_of_block gg) gg
  replace gm := keep_below b4 (lt_of_block gm) gm
  replace hb := hb.trans (b4.mono hb.size)
  clear b4
  go_wp2_with (first | (refine wpList_val_w rfl (run_op_load rfl rfl (run_loadVar_arr0 RTFe gm)) ?_) | (refine wpList_val_w rfl (run_op_load rfl rfl (run_loadVar_arr0 RTFe h0)) ?_) | (go_at_call 14; fail))
  refine (Same_yes _ _ fm.1 oF s6.out _).mono ?_
  rintro e w4 ⟨rfl, b4⟩
  replace h0 := keep_below b4 (lt_of_block h0) h0
  replace h1 := keep_below b4 (lt_of_block h1) h1
  replace h2 := keep_below b4 (lt_of_block h2) h2
  replace gs := keep_below b4 (lt_of_block gs) gs
  replace gt := keep_below b4 (lt_of_block gt) gt
  replace gw := keep_below b4 (lt_of_block gw) gw
  replace gp := keep_below b4 (lt_of_block gp) gp
  replace gk := keep_below b4 (lt_of_block gk) gk
  replace gg := keep_below b4 (lt_of_block gg) gg
  replace gm := keep_below b4 (lt_of_block gm) gm
  replace hb := hb.trans (b4.mono hb.size)
  clear b4
  go_wp2
  go_ret
  exact ⟨rfl, hb⟩
theorem FeRing_any (f0 : Nat → Int) (b0 : ∀ i, i < 5 → 0 ≤ f0 i ∧ f0 i < 18446744073709551616) (f1 : Nat → Int) (b1 : ∀ i, i < 5 → 0 ≤ f1 i ∧ f1 i < 18446744073709551616) (f2 : Nat → Int) (b2 : ∀ i, i < 5 → 0 ≤ f2 i ∧ f2 i < 18446744073709551616) (w : World) :
    Calls Try.prog 5 #[.agg (arr .u64 5 f0), .agg (arr .u64 5 f1), .agg (arr .u64 5 f2)] w fun e w' => e = .returned (.bool true) ∧ Below w.heap.size w w' := by
  rw [arr_nat (b := 18446744073709551616) b0, arr_nat (b := 18446744073709551616) b1, arr_nat (b := 18446744073709551616) b2]
  exact FeRing_nat _ (nat_lt (b := 18446744073709551616) b0) _ (nat_lt (b := 18446744073709551616) b1) _ (nat_lt (b := 18446744073709551616) b2) w
end Go.Proofs.Ytjabpamcpeaboaa
