/- The law FeSmall: whatever the two small numbers, it answers true. -/
import Derived.Test.YtjabpamcpeaboaaFeZ
namespace Go.Proofs.Ytjabpamcpeaboaa
set_option linter.unusedSimpArgs false
set_option linter.unusedVariables false
open Go.RowKit
attribute [local irreducible] accN byteN prodN carN diffN sqN sumN difN oneF valN invN sameN

set_option maxRecDepth 100000 in
set_option maxHeartbeats 4000000 in
theorem FeSmall_nat (m : Nat) (hm : m < 4294967296) (n : Nat) (hn : n < 4294967296) (w : World) :
    Calls Try.prog 6 #[.int .u32 (m : Int), .int .u32 (n : Int)] w fun e w' => e = .returned (.bool true) ∧ Below w.heap.size w w' := by
  go_enter Try.func6, Try.ntmps6
  have hb := Below.refl w.heap.size w
  go_wp2_with (go_at_call 11; fail)
  refine (live_any _).mono ?_
  rintro e w4 ⟨rfl, b4⟩
  replace hb := b4
  clear b4
  obtain ⟨x, hx⟩ : ∃ x : Nat, x = m % 33554432 := ⟨_, rfl⟩
  obtain ⟨y, hy⟩ : ∃ y : Nat, y = n % 33554432 := ⟨_, rfl⟩
  have ex : (m : Int) % 33554432 = (x : Int) := by omega
  have ey : (n : Int) % 33554432 = (y : Int) := by omega
  have bx : x < 33554432 := by omega
  have by_ : y < 33554432 := by omega
  clear hx hy
  obtain ⟨lo, hlo⟩ : ∃ lo : Nat, lo = min x y := ⟨_, rfl⟩
  obtain ⟨hi, hhi⟩ : ∃ hi : Nat, hi = max x y := ⟨_, rfl⟩
  have el : min (x : Int) (y : Int) = (lo : Int) := by omega
  have eh : max (x : Int) (y : Int) = (hi : Int) := by omega
  have bl : lo ≤ hi := by omega
  have bh : hi < 33554432 := by omega
  clear hlo hhi
  obtain ⟨sm, hsm⟩ : ∃ v : Nat, v = x + y := ⟨_, rfl⟩
  obtain ⟨df, hdf⟩ : ∃ v : Nat, v = hi - lo := ⟨_, rfl⟩
  obtain ⟨pr, hpr⟩ : ∃ v : Nat, v = x * y := ⟨_, rfl⟩
  have es : (x : Int) + (y : Int) = (sm : Int) := by omega
  have ed : (hi : Int) - (lo : Int) = (df : Int) := by omega
  have ep : (x : Int) * (y : Int) = (pr : Int) := by rw [hpr, Int.natCast_mul]
  have pm : x * y ≤ 33554431 * 33554431 := Nat.mul_le_mul (by omega) (by omega)
  have pb : pr < 4503599627370496 := by omega
  have fx := one_fits (x := x) (by omega)
  have fy := one_fits (x := y) (by omega)
  have fl := one_fits (x := lo) (by omega)
  have fh := one_fits (x := hi) (by omega)
  have fs2 := one_fits (x := sm) (by omega)
  have fd2 := one_fits (x := df) (by omega)
  have fp2 := one_fits (x := pr) (by omega)
  have fs := sum_fits fx fy
  have fd := dif_fits (c := hi - lo) fh fl (by rw [Nat.sub_add_cancel bl])
  have fp := prod_fits fx fy
  have s1 := Lib.hid (fits_same fs fs2 (by rw [hsm]))
  have s2 := Lib.hid (fits_same fd fd2 (by rw [hdf]))
  have s3 := Lib.hid (fits_same fp fp2 (by rw [hpr]))
  clear hsm hdf hpr pm bl
  go_wp2_with (first | (go_at_call 19; fail))
  rw [one_lit x, one_lit y]
  refine (Add_yes (oneF x) (oneF y) fx.1 fy.1 _).mono ?_
  rintro e w4 ⟨rfl, b4⟩
  replace hb := hb.trans (b4.mono hb.size)
  clear b4
  go_upto_region 9 with (refine wpList_new_arr rfl rfl rfl rfl ZTFe RTFe rfl rfl ?_; intro w8 gs b8 hs8)
  replace hb := hb.trans (b8.mono hb.size)
  clear b8 hs8
  obtain ⟨Bgs, hBgs⟩ : ∃ B, B = w4.heap.size := ⟨_, rfl⟩
  rw [← hBgs] at gs ⊢
  clear hBgs
  (try simp only [Act.put, List.setIfInBounds_toArray, List.set_cons_zero, List.set_cons_succ])
  go_wp2_with (first | (go_at_call 20; fail))
  rw [one_lit hi, one_lit lo]
  refine (Sub_yes (oneF hi) (oneF lo) fh.1 fl.1 _).mono ?_
  rintro e w4 ⟨rfl, b4⟩
  replace gs := keep_below b4 (lt_of_block gs) gs
  replace hb := hb.trans (b4.mono hb.size)
  clear b4
  go_upto_region 10 with (refine wpList_new_arr rfl rfl rfl rfl ZTFe RTFe rfl rfl ?_; intro w8 gd b8 hs8)
  have l0 := lt_of_block gs
  replace gs := keep_below b8 (lt_of_block gs) gs
  replace hb := hb.trans (b8.mono hb.size)
  clear b8 hs8
  obtain ⟨Bgd, hBgd⟩ : ∃ B, B = w4.heap.size := ⟨_, rfl⟩
  rw [← hBgd] at l0 gd ⊢
  clear hBgd
  (try simp only [Act.put, List.setIfInBounds_toArray, List.set_cons_zero, List.set_cons_succ])
  go_wp2_with (first | (go_at_call 18; fail))
  rw [one_lit x, one_lit y]
  refine (Mul_yes (oneF x) (oneF y) fx.1 fy.1 _).mono ?_
  rintro e w4 ⟨rfl, b4⟩
  replace gs := keep_below b4 (lt_of_block gs) gs
  replace gd := keep_below b4 (lt_of_block gd) gd
  replace hb := hb.trans (b4.mono hb.size)
  clear b4
  go_upto_region 11 with (refine wpList_new_arr rfl rfl rfl rfl ZTFe RTFe rfl rfl ?_; intro w8 gp b8 hs8)
  have l0 := lt_of_block gs
  replace gs := keep_below b8 (lt_of_block gs) gs
  replace gd := keep_below b8 (lt_of_block gd) gd
  replace hb := hb.trans (b8.mono hb.size)
  clear b8 hs8
  obtain ⟨Bgp, hBgp⟩ : ∃ B, B = w4.heap.size := ⟨_, rfl⟩
  rw [← hBgp] at l0 gp ⊢
  clear hBgp
  (try simp only [Act.put, List.setIfInBounds_toArray, List.set_cons_zero, List.set_cons_succ])
  go_wp2_with (first | (refine wpList_val_w rfl (run_op_load rfl rfl (run_loadVar_arr0 RTFe gs)) ?_) | (go_at_call 14; fail))
  rw [one_lit sm]
  refine (Same_yes _ _ fs.1 fs2.1 s1.out _).mono ?_
  rintro e w4 ⟨rfl, b4⟩
  replace gs := keep_below b4 (lt_of_block gs) gs
  replace gd := keep_below b4 (lt_of_block gd) gd
  replace gp := keep_below b4 (lt_of_block gp) gp
  replace hb := hb.trans (b4.mono hb.size)
  clear b4
  go_wp2_with (first | (refine wpList_val_w rfl (run_op_load rfl rfl (run_loadVar_arr0 RTFe gd)) ?_) | (go_at_call 14; fail))
  rw [one_lit df]
  refine (Same_yes _ _ fd.1 fd2.1 s2.out _).mono ?_
  rintro e w4 ⟨rfl, b4⟩
  replace gs := keep_below b4 (lt_of_block gs) gs
  replace gd := keep_below b4 (lt_of_block gd) gd
  replace gp := keep_below b4 (lt_of_block gp) gp
  replace hb := hb.trans (b4.mono hb.size)
  clear b4
  go_wp2_with (first | (refine wpList_val_w rfl (run_op_load rfl rfl (run_loadVar_arr0 RTFe gp)) ?_) | (go_at_call 14; fail))
  rw [one_lit pr]
  refine (Same_yes _ _ fp.1 fp2.1 s3.out _).mono ?_
  rintro e w4 ⟨rfl, b4⟩
  replace gs := keep_below b4 (lt_of_block gs) gs
  replace gd := keep_below b4 (lt_of_block gd) gd
  replace gp := keep_below b4 (lt_of_block gp) gp
  replace hb := hb.trans (b4.mono hb.size)
  clear b4
  go_wp2
  go_ret
  exact ⟨rfl, hb⟩
theorem FeSmall_any (x0 : Int) (c0 : 0 ≤ x0 ∧ x0 < 4294967296) (x1 : Int) (c1 : 0 ≤ x1 ∧ x1 < 4294967296) (w : World) :
    Calls Try.prog 6 #[.int .u32 x0, .int .u32 x1] w fun e w' => e = .returned (.bool true) ∧ Below w.heap.size w w' := by
  obtain ⟨m0, rfl⟩ := Int.eq_ofNat_of_zero_le c0.1
  obtain ⟨m1, rfl⟩ := Int.eq_ofNat_of_zero_le c1.1
  exact FeSmall_nat m0 (by omega) m1 (by omega) w
end Go.Proofs.Ytjabpamcpeaboaa
