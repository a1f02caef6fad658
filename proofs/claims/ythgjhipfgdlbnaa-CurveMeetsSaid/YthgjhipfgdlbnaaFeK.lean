/- Plain law of layer 5: what a number is divided by is it, to the power of the prime less 2. -/
import Derived.Test.YthgjhipfgdlbnaaFeZ
import Derived.Test.YthgjhipfgdlbnaaPrime
namespace Go.Proofs.Ythgjhipfgdlbnaa
set_option linter.unusedSimpArgs false
set_option linter.unusedVariables false
attribute [local irreducible] accN byteN prodN carN diffN sumN difN valN

theorem powN_one (v : Nat) : powN v 1 = v := Nat.pow_one v
theorem powN_sq (v e n : Nat) : powN v e ^ 2 ^ n = powN v (e * 2 ^ n) := (Nat.pow_mul v e _).symm
theorem powN_add (v e f : Nat) : powN v e * powN v f = powN v (e + f) := (Nat.pow_add v e f).symm
theorem powN_up (v e k : Nat) (h : e + 1 = k) : v * powN v e = powN v k := by subst h; exact (Nat.pow_succ' ..).symm
theorem powN_mod (v w e n : Nat) (h : v % n = w % n) : powN v e % n = powN w e % n := by unfold powN; rw [Nat.pow_mod, h, ← Nat.pow_mod]
theorem powN_zero (e n : Nat) (v : Nat) (he : e ≠ 0) (h : v % n = 0) : powN v e % n = 0 := by
  unfold powN
  rw [Nat.pow_mod, h, Nat.zero_pow (Nat.pos_of_ne_zero he), Nat.zero_mod]
attribute [local irreducible] powN
theorem prime_pow (v : Nat) (h : v % pN ≠ 0) : powN v 57896044618658097711785492504343953926634992332820282019728792003956564819948 % pN = 1 := by
  have h1 := p57896044618658097711785492504343953926634992332820282019728792003956564819949.2 v
  unfold pN at h ⊢
  exact h1 h
theorem fits_sq {F : Nat → Nat} {v e : Nat} (hF : Fits F (powN v e)) (n k : Nat) (h : e * 2 ^ n = k) : Fits (sqN F n) (powN v k) := by
  have := sq_fits hF n
  rwa [powN_sq, h] at this
theorem fits_prod {F G : Nat → Nat} {v e f k : Nat} (hF : Fits F (powN v e)) (hG : Fits G (powN v f)) (h : e + f = k) : Fits (prodN F G) (powN v k) := by
  have := prod_fits hF hG
  rwa [powN_add, h] at this
theorem fits_ones {F G : Nat → Nat} {v e f k : Nat} (n : Nat) (hF : Fits F (powN v e)) (hG : Fits G (powN v f)) (h : e * 2 ^ n + f = k) : Fits (onesN F n G) (powN v k) :=
  fits_prod (fits_sq hF n _ rfl) hG h
theorem inv_fits {F : Nat → Nat} {v : Nat} (hF : Fits F v) : Fits (invN F) (powN v 57896044618658097711785492504343953926634992332820282019728792003956564819947) := by
  have h1 : Fits F (powN v 1) := by rw [powN_one]; exact hF
  have h2 : Fits (i_two F) (powN v 2) := fits_sq h1 1 _ rfl
  have h9 : Fits (i_nine F) (powN v 9) := fits_ones 2 h2 h1 rfl
  have h11 : Fits (i_eleven F) (powN v 11) := fits_prod h9 h2 rfl
  have h5 : Fits (i_five F) (powN v 31) := fits_prod (fits_sq h11 1 22 rfl) h9 rfl
  have h10 : Fits (i_ten F) (powN v 1023) := fits_ones 5 h5 h5 rfl
  have h20 : Fits (i_twenty F) (powN v 1048575) := fits_ones 10 h10 h10 rfl
  have h40 : Fits (i_forty F) (powN v 1099511627775) := fits_ones 20 h20 h20 rfl
  have h50 : Fits (i_fifty F) (powN v 1125899906842623) := fits_ones 10 h40 h10 rfl
  have h100 : Fits (i_hundred F) (powN v 1267650600228229401496703205375) := fits_ones 50 h50 h50 rfl
  have h200 : Fits (i_double F) (powN v 1606938044258990275541962092341162602522202993782792835301375) := fits_ones 100 h100 h100 rfl
  have h250 : Fits (i_most F) (powN v 1809251394333065553493296640760748560207343510400633813116524750123642650623) := fits_ones 50 h200 h50 rfl
  exact fits_ones 5 h250 h11 rfl
/-- A number, and what it is divided by. -/
theorem inv_one (v : Nat) (h : v % pN ≠ 0) : v * powN v 57896044618658097711785492504343953926634992332820282019728792003956564819947 % pN = 1 % pN := by
  rw [powN_up v _ 57896044618658097711785492504343953926634992332820282019728792003956564819948 rfl, prime_pow v h]
  rfl
theorem inv_twice (v : Nat) : powN (powN v 57896044618658097711785492504343953926634992332820282019728792003956564819947) 57896044618658097711785492504343953926634992332820282019728792003956564819947 % pN = v % pN := by
  by_cases h : v % pN = 0
  · rw [powN_zero _ _ _ (by omega) (powN_zero _ _ v (by omega) h), h]
  · have h1 := inv_one v h
    generalize hb : powN v 57896044618658097711785492504343953926634992332820282019728792003956564819947 = b at h1 ⊢
    have hb0 : b % pN ≠ 0 := by
      intro e
      rw [Nat.mul_mod, e, Nat.mul_zero, Nat.zero_mod] at h1
      have : (1 : Nat) % pN = 1 := by unfold pN; rfl
      omega
    have h2 := inv_one b hb0
    generalize powN b 57896044618658097711785492504343953926634992332820282019728792003956564819947 = c at h2 ⊢
    have e1 : c * (v * b) % pN = c % pN := by rw [Nat.mul_mod, h1, ← Nat.mul_mod, Nat.mul_one]
    have e2 : v * (b * c) % pN = v % pN := by rw [Nat.mul_mod, h2, ← Nat.mul_mod, Nat.mul_one]
    rw [← e1, ← e2, Nat.mul_comm c, Nat.mul_assoc]
end Go.Proofs.Ythgjhipfgdlbnaa
