/- The law FeDivides: whatever the number, it answers true. -/
import Derived.Test.YtjabpamcpeaboaaFeK
namespace Go.Proofs.Ytjabpamcpeaboaa
set_option linter.unusedSimpArgs false
set_option linter.unusedVariables false
open Go.RowKit
attribute [local irreducible] accN byteN prodN carN diffN sqN sumN difN oneF valN invN sameN

theorem Same_not (F G : Nat → Nat) (hF : okF F 5) (hG : okF G 5) (h : sameN F G = false) (w : World) : Calls Try.prog 14 #[.agg (arr .u64 5 fun i => ((F i : Nat) : Int)), .agg (arr .u64 5 fun i => ((G i : Nat) : Int))] w fun e w' => e = .returned (.bool false) ∧ Below w.heap.size w w' :=
  (Same_any F G (ok_big hF) (ok_big hG) w).mono fun e w' hh => by rw [h] at hh; exact hh
set_option maxRecDepth 100000 in
set_option maxHeartbeats 4000000 in
theorem FeDivides_nat (F : Nat → Nat) (hF : ∀ i, i < 5 → F i < 18446744073709551616) (w : World) :
    Calls Try.prog 9 #[.agg (arr .u64 5 fun i => ((F i : Nat) : Int))] w fun e w' => e = .returned (.bool true) ∧ Below w.heap.size w w' := by
  by_cases oF : okF F 5
  rotate_left
  · skip
    go_enter Try.func9, Try.ntmps9
    obtain ⟨h0, hsz, hb⟩ := alloc1 w (.cells (arr .u64 5 fun i => ((F i : Nat) : Int)) 24)
    go_wp2_with (go_at_call 11; fail)
    refine (live_any _).mono ?_
    rintro e w4 ⟨rfl, b4⟩
    replace h0 := keep_below b4 (by omega) h0
    replace hb := hb.trans (b4.mono (by omega))
    clear b4 hsz
    go_wp2_with (first | (refine wpList_load_arr rfl rfl rfl RTFe h0 ?_) | (refine wpList_val_w rfl (run_op_load rfl rfl (run_loadVar_arr0 RTFe h0)) ?_) | (go_at_call 16; fail))
    refine (May_no F hF oF _).mono ?_
    rintro e w4 ⟨rfl, b4⟩
    replace h0 := keep_below b4 (lt_of_block h0) h0
    replace hb := hb.trans (b4.mono hb.size)
    clear b4
    go_wp2
    go_ret
    exact ⟨rfl, hb⟩
  have fF := own_fits oF
  have f0 := one_fits (x := 0) (by omega)
  have f1 := one_fits (x := 1) (by omega)
  have fb := inv_fits fF
  have fc := inv_fits fb
  have s1 := Lib.hid (fits_same fc fF (inv_twice _))
  go_enter Try.func9, Try.ntmps9
  obtain ⟨h0, hsz, hb⟩ := alloc1 w (.cells (arr .u64 5 fun i => ((F i : Nat) : Int)) 24)
  go_wp2_with (go_at_call 11; fail)
  refine (live_any _).mono ?_
  rintro e w4 ⟨rfl, b4⟩
  replace h0 := keep_below b4 (by omega) h0
  replace hb := hb.trans (b4.mono (by omega))
  clear b4 hsz
  go_wp2_with (first | (refine wpList_load_arr rfl rfl rfl RTFe h0 ?_) | (refine wpList_val_w rfl (run_op_load rfl rfl (run_loadVar_arr0 RTFe h0)) ?_) | (go_at_call 16; fail))
  refine (May_yes F oF _).mono ?_
  rintro e w4 ⟨rfl, b4⟩
  replace h0 := keep_below b4 (lt_of_block h0) h0
  replace hb := hb.trans (b4.mono hb.size)
  clear b4
  go_wp2_with (first | (refine wpList_load_arr rfl rfl rfl RTFe h0 ?_) | (go_at_call 28; fail))
  refine (Invert_yes F oF _).mono ?_
  rintro e w4 ⟨rfl, b4⟩
  replace h0 := keep_below b4 (lt_of_block h0) h0
  replace hb := hb.trans (b4.mono hb.size)
  clear b4
  go_upto_region 5 with (refine wpList_new_arr rfl rfl rfl rfl ZTFe RTFe rfl rfl ?_; intro w8 gb b8 hs8)
  have l0 := lt_of_block h0
  replace h0 := keep_below b8 (lt_of_block h0) h0
  replace hb := hb.trans (b8.mono hb.size)
  clear b8 hs8
  obtain ⟨Bgb, hBgb⟩ : ∃ B, B = w4.heap.size := ⟨_, rfl⟩
  rw [← hBgb] at l0 gb ⊢
  clear hBgb
  (try simp only [Act.put, List.setIfInBounds_toArray, List.set_cons_zero, List.set_cons_succ])
  go_wp2_with (first | (refine wpList_load_arr rfl rfl rfl RTFe h0 ?_) | (refine wpList_load_arr rfl rfl rfl RTFe gb ?_) | (go_at_call 18; fail))
  refine (Mul_yes F (invN F) oF fb.1 _).mono ?_
  rintro e w4 ⟨rfl, b4⟩
  replace h0 := keep_below b4 (lt_of_block h0) h0
  replace gb := keep_below b4 (lt_of_block gb) gb
  replace hb := hb.trans (b4.mono hb.size)
  clear b4
  go_upto_region 6 with (refine wpList_new_arr rfl rfl rfl rfl ZTFe RTFe rfl rfl ?_; intro w8 go b8 hs8)
  have l0 := lt_of_block h0
  replace h0 := keep_below b8 (lt_of_block h0) h0
  replace gb := keep_below b8 (lt_of_block gb) gb
  replace hb := hb.trans (b8.mono hb.size)
  clear b8 hs8
  obtain ⟨Bgo, hBgo⟩ : ∃ B, B = w4.heap.size := ⟨_, rfl⟩
  rw [← hBgo] at l0 go ⊢
  clear hBgo
  (try simp only [Act.put, List.setIfInBounds_toArray, List.set_cons_zero, List.set_cons_succ])
  go_wp2_with (first | (refine wpList_load_arr rfl rfl rfl RTFe gb ?_) | (go_at_call 28; fail))
  refine (Invert_yes (invN F) fb.1 _).mono ?_
  rintro e w4 ⟨rfl, b4⟩
  replace h0 := keep_below b4 (lt_of_block h0) h0
  replace gb := keep_below b4 (lt_of_block gb) gb
  replace go := keep_below b4 (lt_of_block go) go
  replace hb := hb.trans (b4.mono hb.size)
  clear b4
  go_upto_region 7 with (refine wpList_new_arr rfl rfl rfl rfl ZTFe RTFe rfl rfl ?_; intro w8 gc b8 hs8)
  have l0 := lt_of_block h0
  replace h0 := keep_below b8 (lt_of_block h0) h0
  replace gb := keep_below b8 (lt_of_block gb) gb
  replace go := keep_below b8 (lt_of_block go) go
  replace hb := hb.trans (b8.mono hb.size)
  clear b8 hs8
  obtain ⟨Bgc, hBgc⟩ : ∃ B, B = w4.heap.size := ⟨_, rfl⟩
  rw [← hBgc] at l0 gc ⊢
  clear hBgc
  (try simp only [Act.put, List.setIfInBounds_toArray, List.set_cons_zero, List.set_cons_succ])
  go_wp2_with (first | (refine wpList_val_w rfl (run_op_load rfl rfl (run_loadVar_arr0 RTFe gc)) ?_) | (refine wpList_val_w rfl (run_op_load rfl rfl (run_loadVar_arr0 RTFe h0)) ?_) | (go_at_call 14; fail))
  refine (Same_yes _ _ fc.1 oF s1.out _).mono ?_
  rintro e w4 ⟨rfl, b4⟩
  replace h0 := keep_below b4 (lt_of_block h0) h0
  replace gb := keep_below b4 (lt_of_block gb) gb
  replace go := keep_below b4 (lt_of_block go) go
  replace gc := keep_below b4 (lt_of_block gc) gc
  replace hb := hb.trans (b4.mono hb.size)
  clear b4
  by_cases hz : valN F 5 % pN = 0
  · skip
    have s2 := Lib.hid (fits_same fF f0 hz)
    have s3 := Lib.hid (fits_same fb f0 (powN_zero _ _ _ (by omega) hz))
    clear hz
    go_wp2_with (first | (refine wpList_load_arr rfl rfl rfl RTFe h0 ?_) | (refine wpList_val' rfl (run_op_build rfl (by simp [Act.eval, Act.put]) built_fe0) ?_) | (go_at_call 14; fail))
    refine (Same_yes _ _ oF f0.1 s2.out _).mono ?_
    rintro e w4 ⟨rfl, b4⟩
    replace h0 := keep_below b4 (lt_of_block h0) h0
    replace gb := keep_below b4 (lt_of_block gb) gb
    replace go := keep_below b4 (lt_of_block go) go
    replace gc := keep_below b4 (lt_of_block gc) gc
    replace hb := hb.trans (b4.mono hb.size)
    clear b4
    go_wp2_with (first | (refine wpList_val_w rfl (run_op_load rfl rfl (run_loadVar_arr0 RTFe gb)) ?_) | (refine wpList_val_w rfl (run_op_build rfl (by simp [Act.eval, Act.put]) built_fe0) ?_) | (go_at_call 14; fail))
    refine (Same_yes _ _ fb.1 f0.1 s3.out _).mono ?_
    rintro e w4 ⟨rfl, b4⟩
    replace h0 := keep_below b4 (lt_of_block h0) h0
    replace gb := keep_below b4 (lt_of_block gb) gb
    replace go := keep_below b4 (lt_of_block go) go
    replace gc := keep_below b4 (lt_of_block gc) gc
    replace hb := hb.trans (b4.mono hb.size)
    clear b4
    go_wp2
    go_ret
    exact ⟨rfl, hb⟩
  · skip
    have s2 : Hid (sameN F (oneF 0) = false) := Lib.hid (by rw [← Bool.not_eq_true]; intro h; rw [same_iff F _ oF f0.1, one_val] at h; exact hz h)
    have s3 := Lib.hid (fits_same (prod_fits fF fb) f1 (inv_one _ hz))
    clear hz
    go_wp2_with (first | (refine wpList_load_arr rfl rfl rfl RTFe h0 ?_) | (refine wpList_val' rfl (run_op_build rfl (by simp [Act.eval, Act.put]) built_fe0) ?_) | (go_at_call 14; fail))
    refine (Same_not _ _ oF f0.1 s2.out _).mono ?_
    rintro e w4 ⟨rfl, b4⟩
    replace h0 := keep_below b4 (lt_of_block h0) h0
    replace gb := keep_below b4 (lt_of_block gb) gb
    replace go := keep_below b4 (lt_of_block go) go
    replace gc := keep_below b4 (lt_of_block gc) gc
    replace hb := hb.trans (b4.mono hb.size)
    clear b4
    go_wp2_with (first | (refine wpList_val_w rfl (run_op_load rfl rfl (run_loadVar_arr0 RTFe go)) ?_) | (refine wpList_val_w rfl (run_op_build rfl (by simp [Act.eval, Act.put]) (built_fe1 1)) ?_) | (go_at_call 14; fail))
    refine (Same_yes _ _ (prod_ok _ _ oF fb.1) f1.1 s3.out _).mono ?_
    rintro e w4 ⟨rfl, b4⟩
    replace h0 := keep_below b4 (lt_of_block h0) h0
    replace gb := keep_below b4 (lt_of_block gb) gb
    replace go := keep_below b4 (lt_of_block go) go
    replace gc := keep_below b4 (lt_of_block gc) gc
    replace hb := hb.trans (b4.mono hb.size)
    clear b4
    go_wp2
    go_ret
    exact ⟨rfl, hb⟩
theorem FeDivides_any (f0 : Nat → Int) (b0 : ∀ i, i < 5 → 0 ≤ f0 i ∧ f0 i < 18446744073709551616) (w : World) :
    Calls Try.prog 9 #[.agg (arr .u64 5 f0)] w fun e w' => e = .returned (.bool true) ∧ Below w.heap.size w w' := by
  rw [arr_nat (b := 18446744073709551616) b0]
  exact FeDivides_nat _ (nat_lt (b := 18446744073709551616) b0) w
end Go.Proofs.Ytjabpamcpeaboaa
