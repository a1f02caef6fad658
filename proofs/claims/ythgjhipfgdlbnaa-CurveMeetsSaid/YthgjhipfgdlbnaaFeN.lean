/- Plain law of layer 5: what carrying, and a number's own, stand for; no program is in sight. -/
import Derived.Test.YthgjhipfgdlbnaaFeL
import Derived.Test.YthgjhipfgdlbnaaFeB
namespace Go.Proofs.Ythgjhipfgdlbnaa
set_option linter.unusedSimpArgs false
set_option linter.unusedVariables false

/-- The prime. -/
def pN : Nat := 57896044618658097711785492504343953926634992332820282019728792003956564819949
theorem valN_five (X : Nat → Nat) : valN X 5 = X 0 + X 1 * 2251799813685248 + X 2 * 5070602400912917605986812821504 + X 3 * 11417981541647679048466287755595961091061972992 + X 4 * 25711008708143844408671393477458601640355247900524685364822016 := by
  simp [valN]
theorem ov_steps (F : Nat → Nat) : ovN F 1 = F 0 / 2251799813685248 ∧ ovN F 2 = (F 1 + ovN F 1) / 2251799813685248 ∧ ovN F 3 = (F 2 + ovN F 2) / 2251799813685248 ∧ ovN F 4 = (F 3 + ovN F 3) / 2251799813685248 ∧ ovN F 5 = (F 4 + ovN F 4) / 2251799813685248 := by
  refine ⟨?_, rfl, rfl, rfl, rfl⟩
  show (F 0 + 0) / 2251799813685248 = _
  rw [Nat.add_zero]
theorem lo_steps (F : Nat → Nat) : loN F 0 = F 0 % 2251799813685248 ∧ loN F 1 = (F 1 + ovN F 1) % 2251799813685248 ∧ loN F 2 = (F 2 + ovN F 2) % 2251799813685248 ∧ loN F 3 = (F 3 + ovN F 3) % 2251799813685248 ∧ loN F 4 = (F 4 + ovN F 4) % 2251799813685248 := by
  refine ⟨?_, rfl, rfl, rfl, rfl⟩
  show (F 0 + 0) % 2251799813685248 = _
  rw [Nat.add_zero]
/-- What is left below, and what goes over. -/
theorem lo_val (F : Nat → Nat) : valN (loN F) 5 + ovN F 5 * 57896044618658097711785492504343953926634992332820282019728792003956564819968 = valN F 5 := by
  obtain ⟨o1, o2, o3, o4, o5⟩ := ov_steps F
  obtain ⟨l0, l1, l2, l3, l4⟩ := lo_steps F
  rw [valN_five, valN_five, l0, l1, l2, l3, l4]
  generalize ovN F 5 = u5 at *
  generalize ovN F 4 = u4 at *
  generalize ovN F 3 = u3 at *
  generalize ovN F 2 = u2 at *
  generalize ovN F 1 = u1 at *
  generalize F 0 = a0 at *
  generalize F 1 = a1 at *
  generalize F 2 = a2 at *
  generalize F 3 = a3 at *
  generalize F 4 = a4 at *
  omega
theorem car_val (F : Nat → Nat) : valN (carN F) 5 + ovN F 5 * pN = valN F 5 := by
  have h := lo_val F
  rw [valN_five] at h
  rw [valN_five]
  have c0 : carN F 0 = loN F 0 + 19 * ovN F 5 := rfl
  have c1 : carN F 1 = loN F 1 := rfl
  have c2 : carN F 2 = loN F 2 := rfl
  have c3 : carN F 3 = loN F 3 := rfl
  have c4 : carN F 4 = loN F 4 := rfl
  rw [c0, c1, c2, c3, c4]
  unfold pN
  omega
theorem qu_steps (F : Nat → Nat) : quN F 1 = (F 0 + 19) / 2251799813685248 ∧ quN F 2 = (F 1 + quN F 1) / 2251799813685248 ∧ quN F 3 = (F 2 + quN F 2) / 2251799813685248 ∧ quN F 4 = (F 3 + quN F 3) / 2251799813685248 ∧ quN F 5 = (F 4 + quN F 4) / 2251799813685248 := ⟨rfl, rfl, rfl, rfl, rfl⟩
theorem qu_val (G : Nat → Nat) : quN G 5 = (valN G 5 + 19) / 57896044618658097711785492504343953926634992332820282019728792003956564819968 := by
  obtain ⟨o1, o2, o3, o4, o5⟩ := qu_steps G
  rw [valN_five]
  generalize quN G 5 = u5 at *
  generalize quN G 4 = u4 at *
  generalize quN G 3 = u3 at *
  generalize quN G 2 = u2 at *
  generalize quN G 1 = u1 at *
  generalize G 0 = a0 at *
  generalize G 1 = a1 at *
  generalize G 2 = a2 at *
  generalize G 3 = a3 at *
  generalize G 4 = a4 at *
  omega
/-- Of a number below twice the prime: its own. -/
theorem up_val (G : Nat → Nat) (h : valN G 5 < 2 * pN) : valN (loN (upN G)) 5 = valN G 5 % pN := by
  have h1 := lo_val (upN G)
  have h2 := qu_val G
  have h3 : valN (upN G) 5 = valN G 5 + 19 * quN G 5 := by
    rw [valN_five, valN_five]
    have c0 : upN G 0 = G 0 + 19 * quN G 5 := rfl
    have c1 : upN G 1 = G 1 := rfl
    have c2 : upN G 2 = G 2 := rfl
    have c3 : upN G 3 = G 3 := rfl
    have c4 : upN G 4 = G 4 := rfl
    rw [c0, c1, c2, c3, c4]
    omega
  have h4 : valN (loN (upN G)) 5 < 2 ^ (51 * 5) := valN_lt _ 5 (fun i _ => Nat.mod_lt _ (by omega)) 5 (Nat.le_refl _)
  have h5 : (2 : Nat) ^ (51 * 5) = 57896044618658097711785492504343953926634992332820282019728792003956564819968 := by decide
  rw [h5] at h4
  generalize valN (loN (upN G)) 5 = r at *
  generalize ovN (upN G) 5 = o at *
  generalize valN (upN G) 5 = s at *
  generalize quN G 5 = q at *
  generalize valN G 5 = v at *
  unfold pN at *
  by_cases hv : v < 57896044618658097711785492504343953926634992332820282019728792003956564819949
  · rw [Nat.mod_eq_of_lt hv]
    have hq : q = 0 := by omega
    subst hq
    omega
  · have hm : v % 57896044618658097711785492504343953926634992332820282019728792003956564819949 = v - 57896044618658097711785492504343953926634992332820282019728792003956564819949 := by
      rw [Nat.mod_eq_sub_mod (by omega), Nat.mod_eq_of_lt (by omega)]
    have hq : q = 1 := by omega
    subst hq
    rw [hm]
    have ho : o = 1 := by omega
    subst ho
    omega
theorem car_le (F : Nat → Nat) (hF : ∀ i, i < 5 → F i < 9223372036854775808) : valN (carN (carN F)) 5 < 2 * pN := by
  have a0 := carN_lt (carN F) (fun i hi => by have := carN_lt F hF i hi; omega) 0 (by omega)
  have a1 := carN_lt (carN F) (fun i hi => by have := carN_lt F hF i hi; omega) 1 (by omega)
  have a2 := carN_lt (carN F) (fun i hi => by have := carN_lt F hF i hi; omega) 2 (by omega)
  have a3 := carN_lt (carN F) (fun i hi => by have := carN_lt F hF i hi; omega) 3 (by omega)
  have a4 := carN_lt (carN F) (fun i hi => by have := carN_lt F hF i hi; omega) 4 (by omega)
  rw [valN_five]
  unfold pN
  omega
/-- **A number's own stands for it modulo the prime.** -/
theorem least_val (F : Nat → Nat) (hF : ∀ i, i < 5 → F i < 9223372036854775808) : valN (leastN F) 5 = valN F 5 % pN := by
  show valN (loN (upN (carN (carN F)))) 5 = _
  rw [up_val _ (car_le F hF)]
  have h1 := car_val F
  have h2 := car_val (carN F)
  rw [← h1, ← h2, Nat.add_mul_mod_self_right, Nat.add_mul_mod_self_right]
end Go.Proofs.Ythgjhipfgdlbnaa
