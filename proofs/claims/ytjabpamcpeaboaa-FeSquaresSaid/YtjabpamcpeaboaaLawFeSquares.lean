/- The law FeSquares: whatever the number and how often, it answers true. -/
import Derived.Test.YtjabpamcpeaboaaFeZ
namespace Go.Proofs.Ytjabpamcpeaboaa
set_option linter.unusedSimpArgs false
set_option linter.unusedVariables false
open Go.RowKit
attribute [local irreducible] accN byteN prodN carN diffN sqN sumN difN oneF valN invN sameN

set_option maxRecDepth 100000 in
set_option maxHeartbeats 4000000 in
theorem FeSquares_nat (F : Nat → Nat) (hF : ∀ i, i < 5 → F i < 18446744073709551616) (m : Nat) (hm : m < 256) (n : Nat) (hn : n < 256) (w : World) :
    Calls Try.prog 4 #[.agg (arr .u64 5 fun i => ((F i : Nat) : Int)), .int .u8 (m : Int), .int .u8 (n : Int)] w fun e w' => e = .returned (.bool true) ∧ Below w.heap.size w w' := by
  by_cases oF : okF F 5
  rotate_left
  · skip
    go_enter Try.func4, Try.ntmps4
    obtain ⟨h0, hsz, hb⟩ := alloc1 w (.cells (arr .u64 5 fun i => ((F i : Nat) : Int)) 24)
    go_wp2_with (go_at_call 11; fail)
    refine (live_any _).mono ?_
    rintro e w4 ⟨rfl, b4⟩
    replace h0 := keep_below b4 (by omega) h0
    replace hb := hb.trans (b4.mono (by omega))
    clear b4 hsz
    go_wp2_with (first | (refine wpList_load_arr rfl rfl rfl RTFe h0 ?_) | (refine wpList_val_w rfl (run_op_load rfl rfl (run_loadVar_arr0 RTFe h0)) ?_) | (go_at_call 16; fail))
    refine (May_no F hF oF _).mono ?_
    rintro e w4 ⟨rfl, b4⟩
    replace h0 := keep_below b4 (lt_of_block h0) h0
    replace hb := hb.trans (b4.mono hb.size)
    clear b4
    go_wp2
    go_ret
    exact ⟨rfl, hb⟩
  have fF := own_fits oF
  have f2 := prod_fits fF fF
  have s2 := Lib.hid (fits_same (sq_fits fF 1) f2 (by rw [Nat.pow_one, Nat.pow_two]))
  have s3 := Lib.hid (fits_same (sq_fits fF 0) fF (by rw [Nat.pow_zero, Nat.pow_one]))
  go_enter Try.func4, Try.ntmps4
  obtain ⟨h0, hsz, hb⟩ := alloc1 w (.cells (arr .u64 5 fun i => ((F i : Nat) : Int)) 24)
  go_wp2_with (go_at_call 11; fail)
  refine (live_any _).mono ?_
  rintro e w4 ⟨rfl, b4⟩
  replace h0 := keep_below b4 (by omega) h0
  replace hb := hb.trans (b4.mono (by omega))
  clear b4 hsz
  go_wp2_with (first | (refine wpList_load_arr rfl rfl rfl RTFe h0 ?_) | (refine wpList_val_w rfl (run_op_load rfl rfl (run_loadVar_arr0 RTFe h0)) ?_) | (go_at_call 16; fail))
  refine (May_yes F oF _).mono ?_
  rintro e w4 ⟨rfl, b4⟩
  replace h0 := keep_below b4 (lt_of_block h0) h0
  replace hb := hb.trans (b4.mono hb.size)
  clear b4
  obtain ⟨i, hi⟩ : ∃ i : Nat, i = m % 100 := ⟨_, rfl⟩
  obtain ⟨k, hk⟩ : ∃ k : Nat, k = n % 100 := ⟨_, rfl⟩
  have ei : (m : Int) % 100 = (i : Int) := by omega
  have ek : (n : Int) % 100 = (k : Int) := by omega
  have bi : i < 100 := by omega
  have bk : k < 100 := by omega
  clear hi hk
  have s1 := Lib.hid (fits_same (sq_fits fF (i + k)) (sq_fits (sq_fits fF i) k) (by rw [← Nat.pow_mul, ← Nat.pow_add]))
  go_wp2_with (first | (refine wpList_load_arr rfl rfl rfl RTFe h0 ?_) | (go_at_call 17; fail))
  rw [show ((i : Int) + (k : Int)) = ((i + k : Nat) : Int) from by omega]
  refine (Square_yes F oF (i + k) (by omega) _).mono ?_
  rintro e w4 ⟨rfl, b4⟩
  replace h0 := keep_below b4 (lt_of_block h0) h0
  replace hb := hb.trans (b4.mono hb.size)
  clear b4
  go_upto_region 7 with (refine wpList_new_arr rfl rfl rfl rfl ZTFe RTFe rfl rfl ?_; intro w8 gx b8 hs8)
  have l0 := lt_of_block h0
  replace h0 := keep_below b8 (lt_of_block h0) h0
  replace hb := hb.trans (b8.mono hb.size)
  clear b8 hs8
  obtain ⟨Bgx, hBgx⟩ : ∃ B, B = w4.heap.size := ⟨_, rfl⟩
  rw [← hBgx] at l0 gx ⊢
  clear hBgx
  (try simp only [Act.put, List.setIfInBounds_toArray, List.set_cons_zero, List.set_cons_succ])
  go_wp2_with (first | (refine wpList_load_arr rfl rfl rfl RTFe h0 ?_) | (go_at_call 17; fail))
  refine (Square_yes F oF i (by omega) _).mono ?_
  rintro e w4 ⟨rfl, b4⟩
  replace h0 := keep_below b4 (lt_of_block h0) h0
  replace gx := keep_below b4 (lt_of_block gx) gx
  replace hb := hb.trans (b4.mono hb.size)
  clear b4
  go_upto_region 8 with (refine wpList_new_arr rfl rfl rfl rfl ZTFe RTFe rfl rfl ?_; intro w8 gy b8 hs8)
  have l0 := lt_of_block h0
  replace h0 := keep_below b8 (lt_of_block h0) h0
  replace gx := keep_below b8 (lt_of_block gx) gx
  replace hb := hb.trans (b8.mono hb.size)
  clear b8 hs8
  obtain ⟨Bgy, hBgy⟩ : ∃ B, B = w4.heap.size := ⟨_, rfl⟩
  rw [← hBgy] at l0 gy ⊢
  clear hBgy
  (try simp only [Act.put, List.setIfInBounds_toArray, List.set_cons_zero, List.set_cons_succ])
  go_wp2_with (first | (refine wpList_load_arr rfl rfl rfl RTFe gy ?_) | (go_at_call 17; fail))
  refine (Square_yes (sqN F i) (sq_ok F oF i) k (by omega) _).mono ?_
  rintro e w4 ⟨rfl, b4⟩
  replace h0 := keep_below b4 (lt_of_block h0) h0
  replace gx := keep_below b4 (lt_of_block gx) gx
  replace gy := keep_below b4 (lt_of_block gy) gy
  replace hb := hb.trans (b4.mono hb.size)
  clear b4
  go_upto_region 9 with (refine wpList_new_arr rfl rfl rfl rfl ZTFe RTFe rfl rfl ?_; intro w8 gz b8 hs8)
  have l0 := lt_of_block h0
  replace h0 := keep_below b8 (lt_of_block h0) h0
  replace gx := keep_below b8 (lt_of_block gx) gx
  replace gy := keep_below b8 (lt_of_block gy) gy
  replace hb := hb.trans (b8.mono hb.size)
  clear b8 hs8
  obtain ⟨Bgz, hBgz⟩ : ∃ B, B = w4.heap.size := ⟨_, rfl⟩
  rw [← hBgz] at l0 gz ⊢
  clear hBgz
  (try simp only [Act.put, List.setIfInBounds_toArray, List.set_cons_zero, List.set_cons_succ])
  go_wp2_with (first | (refine wpList_load_arr rfl rfl rfl RTFe h0 ?_) | (go_at_call 17; fail))
  refine (Square_yes F oF 1 (by omega) _).mono ?_
  rintro e w4 ⟨rfl, b4⟩
  replace h0 := keep_below b4 (lt_of_block h0) h0
  replace gx := keep_below b4 (lt_of_block gx) gx
  replace gy := keep_below b4 (lt_of_block gy) gy
  replace gz := keep_below b4 (lt_of_block gz) gz
  replace hb := hb.trans (b4.mono hb.size)
  clear b4
  go_upto_region 10 with (refine wpList_new_arr rfl rfl rfl rfl ZTFe RTFe rfl rfl ?_; intro w8 g1 b8 hs8)
  have l0 := lt_of_block h0
  replace h0 := keep_below b8 (lt_of_block h0) h0
  replace gx := keep_below b8 (lt_of_block gx) gx
  replace gy := keep_below b8 (lt_of_block gy) gy
  replace gz := keep_below b8 (lt_of_block gz) gz
  replace hb := hb.trans (b8.mono hb.size)
  clear b8 hs8
  obtain ⟨Bg1, hBg1⟩ : ∃ B, B = w4.heap.size := ⟨_, rfl⟩
  rw [← hBg1] at l0 g1 ⊢
  clear hBg1
  (try simp only [Act.put, List.setIfInBounds_toArray, List.set_cons_zero, List.set_cons_succ])
  go_wp2_with (first | (refine wpList_load_arr rfl rfl rfl RTFe h0 ?_) | (go_at_call 18; fail))
  refine (Mul_yes F F oF oF _).mono ?_
  rintro e w4 ⟨rfl, b4⟩
  replace h0 := keep_below b4 (lt_of_block h0) h0
  replace gx := keep_below b4 (lt_of_block gx) gx
  replace gy := keep_below b4 (lt_of_block gy) gy
  replace gz := keep_below b4 (lt_of_block gz) gz
  replace g1 := keep_below b4 (lt_of_block g1) g1
  replace hb := hb.trans (b4.mono hb.size)
  clear b4
  go_upto_region 11 with (refine wpList_new_arr rfl rfl rfl rfl ZTFe RTFe rfl rfl ?_; intro w8 g2 b8 hs8)
  have l0 := lt_of_block h0
  replace h0 := keep_below b8 (lt_of_block h0) h0
  replace gx := keep_below b8 (lt_of_block gx) gx
  replace gy := keep_below b8 (lt_of_block gy) gy
  replace gz := keep_below b8 (lt_of_block gz) gz
  replace g1 := keep_below b8 (lt_of_block g1) g1
  replace hb := hb.trans (b8.mono hb.size)
  clear b8 hs8
  obtain ⟨Bg2, hBg2⟩ : ∃ B, B = w4.heap.size := ⟨_, rfl⟩
  rw [← hBg2] at l0 g2 ⊢
  clear hBg2
  (try simp only [Act.put, List.setIfInBounds_toArray, List.set_cons_zero, List.set_cons_succ])
  go_wp2_with (first | (refine wpList_load_arr rfl rfl rfl RTFe h0 ?_) | (go_at_call 17; fail))
  refine (Square_yes F oF 0 (by omega) _).mono ?_
  rintro e w4 ⟨rfl, b4⟩
  replace h0 := keep_below b4 (lt_of_block h0) h0
  replace gx := keep_below b4 (lt_of_block gx) gx
  replace gy := keep_below b4 (lt_of_block gy) gy
  replace gz := keep_below b4 (lt_of_block gz) gz
  replace g1 := keep_below b4 (lt_of_block g1) g1
  replace g2 := keep_below b4 (lt_of_block g2) g2
  replace hb := hb.trans (b4.mono hb.size)
  clear b4
  go_upto_region 12 with (refine wpList_new_arr rfl rfl rfl rfl ZTFe RTFe rfl rfl ?_; intro w8 g0 b8 hs8)
  have l0 := lt_of_block h0
  replace h0 := keep_below b8 (lt_of_block h0) h0
  replace gx := keep_below b8 (lt_of_block gx) gx
  replace gy := keep_below b8 (lt_of_block gy) gy
  replace gz := keep_below b8 (lt_of_block gz) gz
  replace g1 := keep_below b8 (lt_of_block g1) g1
  replace g2 := keep_below b8 (lt_of_block g2) g2
  replace hb := hb.trans (b8.mono hb.size)
  clear b8 hs8
  obtain ⟨Bg0, hBg0⟩ : ∃ B, B = w4.heap.size := ⟨_, rfl⟩
  rw [← hBg0] at l0 g0 ⊢
  clear hBg0
  (try simp only [Act.put, List.setIfInBounds_toArray, List.set_cons_zero, List.set_cons_succ])
  go_wp2_with (first | (refine wpList_val_w rfl (run_op_load rfl rfl (run_loadVar_arr0 RTFe gx)) ?_) | (refine wpList_val_w rfl (run_op_load rfl rfl (run_loadVar_arr0 RTFe gz)) ?_) | (go_at_call 14; fail))
  refine (Same_yes _ _ (sq_ok F oF _) (sq_ok _ (sq_ok F oF i) k) s1.out _).mono ?_
  rintro e w4 ⟨rfl, b4⟩
  replace h0 := keep_below b4 (lt_of_block h0) h0
  replace gx := keep_below b4 (lt_of_block gx) gx
  replace gy := keep_below b4 (lt_of_block gy) gy
  replace gz := keep_below b4 (lt_of_block gz) gz
  replace g1 := keep_below b4 (lt_of_block g1) g1
  replace g2 := keep_below b4 (lt_of_block g2) g2
  replace g0 := keep_below b4 (lt_of_block g0) g0
  replace hb := hb.trans (b4.mono hb.size)
  clear b4
  go_wp2_with (first | (refine wpList_val_w rfl (run_op_load rfl rfl (run_loadVar_arr0 RTFe g1)) ?_) | (refine wpList_val_w rfl (run_op_load rfl rfl (run_loadVar_arr0 RTFe g2)) ?_) | (go_at_call 14; fail))
  refine (Same_yes _ _ (sq_ok F oF 1) f2.1 s2.out _).mono ?_
  rintro e w4 ⟨rfl, b4⟩
  replace h0 := keep_below b4 (lt_of_block h0) h0
  replace gx := keep_below b4 (lt_of_block gx) gx
  replace gy := keep_below b4 (lt_of_block gy) gy
  replace gz := keep_below b4 (lt_of_block gz) gz
  replace g1 := keep_below b4 (lt_of_block g1) g1
  replace g2 := keep_below b4 (lt_of_block g2) g2
  replace g0 := keep_below b4 (lt_of_block g0) g0
  replace hb := hb.trans (b4.mono hb.size)
  clear b4
  go_wp2_with (first | (refine wpList_val_w rfl (run_op_load rfl rfl (run_loadVar_arr0 RTFe g0)) ?_) | (refine wpList_val_w rfl (run_op_load rfl rfl (run_loadVar_arr0 RTFe h0)) ?_) | (go_at_call 14; fail))
  refine (Same_yes _ _ (sq_ok F oF 0) oF s3.out _).mono ?_
  rintro e w4 ⟨rfl, b4⟩
  replace h0 := keep_below b4 (lt_of_block h0) h0
  replace gx := keep_below b4 (lt_of_block gx) gx
  replace gy := keep_below b4 (lt_of_block gy) gy
  replace gz := keep_below b4 (lt_of_block gz) gz
  replace g1 := keep_below b4 (lt_of_block g1) g1
  replace g2 := keep_below b4 (lt_of_block g2) g2
  replace g0 := keep_below b4 (lt_of_block g0) g0
  replace hb := hb.trans (b4.mono hb.size)
  clear b4
  go_wp2
  go_ret
  exact ⟨rfl, hb⟩
theorem FeSquares_any (f0 : Nat → Int) (b0 : ∀ i, i < 5 → 0 ≤ f0 i ∧ f0 i < 18446744073709551616) (x0 : Int) (c0 : 0 ≤ x0 ∧ x0 < 256) (x1 : Int) (c1 : 0 ≤ x1 ∧ x1 < 256) (w : World) :
    Calls Try.prog 4 #[.agg (arr .u64 5 f0), .int .u8 x0, .int .u8 x1] w fun e w' => e = .returned (.bool true) ∧ Below w.heap.size w w' := by
  obtain ⟨m0, rfl⟩ := Int.eq_ofNat_of_zero_le c0.1
  obtain ⟨m1, rfl⟩ := Int.eq_ofNat_of_zero_le c1.1
  rw [arr_nat (b := 18446744073709551616) b0]
  exact FeSquares_nat _ (nat_lt (b := 18446744073709551616) b0) m0 (by omega) m1 (by omega) w
end Go.Proofs.Ytjabpamcpeaboaa
