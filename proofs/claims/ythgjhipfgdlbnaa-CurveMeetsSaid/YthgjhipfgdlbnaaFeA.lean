/- Plain law of layer 5: sums, differences and products, part by part, stand for what numbers' do. -/
import Derived.Test.YthgjhipfgdlbnaaFeQ
namespace Go.Proofs.Ythgjhipfgdlbnaa
set_option linter.unusedSimpArgs false
set_option linter.unusedVariables false
/-- What the n-th product adds to part c. -/
def termN (F G : Nat → Nat) (n c : Nat) : Nat := if (n / 5 + n % 5) % 5 = c then F (n / 5) * (if 5 ≤ n / 5 + n % 5 then 19 * G (n % 5) else G (n % 5)) else 0
def accN (F G : Nat → Nat) : Nat → Nat → Nat
  | 0, _ => 0
  | n + 1, c => accN F G n c + termN F G n c
theorem accN_succ (F G : Nat → Nat) (n c : Nat) : accN F G (n + 1) c = accN F G n c + termN F G n c := rfl
theorem term_le (F G : Nat → Nat) (hF : ∀ i, i < 5 → F i < 4503599627370496) (hG : ∀ i, i < 5 → G i < 4503599627370496) (n c : Nat) (hn : n < 25) :
    termN F G n c ≤ 385365782469381738054997774434304 := by
  unfold termN
  have f := hF (n / 5) (by omega)
  have g := hG (n % 5) (by omega)
  split
  · have : F (n / 5) * (if 5 ≤ n / 5 + n % 5 then 19 * G (n % 5) else G (n % 5)) ≤ 4503599627370496 * (19 * 4503599627370496) := Nat.mul_le_mul (by omega) (by split <;> omega)
    omega
  · omega
theorem accN_le (F G : Nat → Nat) (hF : ∀ i, i < 5 → F i < 4503599627370496) (hG : ∀ i, i < 5 → G i < 4503599627370496) (c : Nat) : ∀ n, n ≤ 25 → accN F G n c ≤ n * 385365782469381738054997774434304
  | 0, _ => by unfold accN; omega
  | n + 1, h => by
    have := accN_le F G hF hG c n (by omega)
    have := term_le F G hF hG n c (by omega)
    rw [accN_succ]; omega
theorem row_zero (a b0 b1 b2 b3 b4 c1 c2 c3 c4 : Nat) : a * (b0 + b1 * c1 + b2 * c2 + b3 * c3 + b4 * c4) = a * b0 + a * b1 * c1 + a * b2 * c2 + a * b3 * c3 + a * b4 * c4 := by
  simp only [Nat.mul_add, Nat.mul_assoc]
theorem row_some (a c b0 b1 b2 b3 b4 c1 c2 c3 c4 : Nat) : a * c * (b0 + b1 * c1 + b2 * c2 + b3 * c3 + b4 * c4) = a * b0 * c + a * b1 * (c * c1) + a * b2 * (c * c2) + a * b3 * (c * c3) + a * b4 * (c * c4) := by
  rw [Nat.mul_add, Nat.mul_add, Nat.mul_add, Nat.mul_add, Nat.mul_mul_mul_comm a c b1, Nat.mul_mul_mul_comm a c b2, Nat.mul_mul_mul_comm a c b3, Nat.mul_mul_mul_comm a c b4, Nat.mul_right_comm a c b0]
theorem acc_val (F G : Nat → Nat) : ∃ q, valN F 5 * valN G 5 = valN (accN F G 25) 5 + q * pN := by
  refine ⟨?_, ?_⟩
  · exact (F 1 * G 4 + F 2 * G 3 + F 3 * G 2 + F 4 * G 1) + (F 2 * G 4 + F 3 * G 3 + F 4 * G 2) * 2251799813685248 + (F 3 * G 4 + F 4 * G 3) * 5070602400912917605986812821504 + (F 4 * G 4) * 11417981541647679048466287755595961091061972992
  · rw [valN_five, valN_five, valN_five]
    have e : ∀ c, accN F G 25 c = termN F G 0 c + termN F G 1 c + termN F G 2 c + termN F G 3 c + termN F G 4 c + termN F G 5 c + termN F G 6 c + termN F G 7 c + termN F G 8 c + termN F G 9 c + termN F G 10 c + termN F G 11 c + termN F G 12 c + termN F G 13 c + termN F G 14 c + termN F G 15 c + termN F G 16 c + termN F G 17 c + termN F G 18 c + termN F G 19 c + termN F G 20 c + termN F G 21 c + termN F G 22 c + termN F G 23 c + termN F G 24 c := by
      intro c; simp only [accN]; omega
    have e0 : accN F G 25 0 = F 0 * G 0 + 19 * (F 1 * G 4 + F 2 * G 3 + F 3 * G 2 + F 4 * G 1) := by rw [e]; simp [termN]; simp only [Nat.mul_left_comm _ 19 _]; omega
    have e1 : accN F G 25 1 = F 0 * G 1 + F 1 * G 0 + 19 * (F 2 * G 4 + F 3 * G 3 + F 4 * G 2) := by rw [e]; simp [termN]; simp only [Nat.mul_left_comm _ 19 _]; omega
    have e2 : accN F G 25 2 = F 0 * G 2 + F 1 * G 1 + F 2 * G 0 + 19 * (F 3 * G 4 + F 4 * G 3) := by rw [e]; simp [termN]; simp only [Nat.mul_left_comm _ 19 _]; omega
    have e3 : accN F G 25 3 = F 0 * G 3 + F 1 * G 2 + F 2 * G 1 + F 3 * G 0 + 19 * (F 4 * G 4) := by rw [e]; simp [termN, Nat.mul_left_comm _ 19 _]
    have e4 : accN F G 25 4 = F 0 * G 4 + F 1 * G 3 + F 2 * G 2 + F 3 * G 1 + F 4 * G 0 := by rw [e]; simp [termN]
    rw [e0, e1, e2, e3, e4]
    unfold pN
    rw [Nat.add_mul, Nat.add_mul, Nat.add_mul, Nat.add_mul, row_zero, row_some, row_some, row_some, row_some]
    omega

attribute [local irreducible] accN
/-- A product, in five parts: what goes over the last one comes in again, 19 times. -/
def foldN (V : Nat → Nat) (i : Nat) : Nat := if i = 0 then (19 * ovN V 5 + loN V 0) % 2251799813685248 else if i = 1 then loN V 1 + (19 * ovN V 5 + loN V 0) / 2251799813685248 else loN V i
theorem fold_val (V : Nat → Nat) : valN (foldN V) 5 + ovN V 5 * pN = valN V 5 := by
  have h := lo_val V
  rw [valN_five] at h
  rw [valN_five, ← h]
  unfold foldN pN
  simp only [if_true, show (1 : Nat) ≠ 0 from by omega, show (2 : Nat) ≠ 0 from by omega, show (2 : Nat) ≠ 1 from by omega, show (3 : Nat) ≠ 0 from by omega, show (3 : Nat) ≠ 1 from by omega, show (4 : Nat) ≠ 0 from by omega, show (4 : Nat) ≠ 1 from by omega, if_false]
  omega
theorem ov_big (V : Nat → Nat) (hV : ∀ i, i < 5 → V i < 10384593717069655257060992658440192) : ∀ m, m ≤ 5 → ovN V m < 9223372036854775808
  | 0, _ => by unfold ovN; omega
  | m + 1, h => by
    have := ov_big V hV m (by omega)
    have := hV m (by omega)
    rw [ovN_succ]
    omega
theorem fold_lt (V : Nat → Nat) (hV : ∀ i, i < 5 → V i < 10384593717069655257060992658440192) (i : Nat) (_hi : i < 5) : foldN V i < 9223372036854775808 := by
  have := ov_big V hV 5 (by omega)
  have l : ∀ m, loN V m < 2251799813685248 := fun m => Nat.mod_lt _ (by omega)
  have := l 0
  have := l 1
  have := l i
  unfold foldN
  split
  · omega
  · split <;> omega
theorem acc_lt (F G : Nat → Nat) (hF : ∀ i, i < 5 → F i < 4503599627370496) (hG : ∀ i, i < 5 → G i < 4503599627370496) (n c : Nat) (hn : n ≤ 25) : accN F G n c < 10384593717069655257060992658440192 := by
  have := accN_le F G hF hG c n hn
  omega
/-- What a product is. -/
def prodN (F G : Nat → Nat) (i : Nat) : Nat := carN (foldN (accN F G 25)) i
theorem prod_val (F G : Nat → Nat) : valN (prodN F G) 5 % pN = valN F 5 * valN G 5 % pN := by
  obtain ⟨q, hq⟩ := acc_val F G
  have h1 := car_val (foldN (accN F G 25))
  have h2 := fold_val (accN F G 25)
  have e : valN (prodN F G) 5 = valN (carN (foldN (accN F G 25))) 5 := rfl
  rw [e, hq, ← h2, ← h1]
  rw [Nat.add_mul_mod_self_right, Nat.add_mul_mod_self_right, Nat.add_mul_mod_self_right]
theorem prod_ok (F G : Nat → Nat) (hF : okF F 5) (hG : okF G 5) : okF (prodN F G) 5 := fun i hi => by
  have := carN_lt (foldN (accN F G 25)) (fun i hi => fold_lt _ (fun c hc => acc_lt F G hF hG 25 c (by omega)) i hi) i hi
  show carN _ i < _
  omega
/-- Four times the prime, part by part, less a number. -/
def mostF (i : Nat) : Nat := if i = 0 then 2251799813685229 else 2251799813685247
def diffN (F G : Nat → Nat) (i : Nat) : Nat := F i + (4 * mostF i - G i)
theorem diff_lt (F G : Nat → Nat) (hF : okF F 5) (i : Nat) (hi : i < 5) : diffN F G i < 9223372036854775808 := by
  have := hF i hi
  unfold diffN mostF
  split <;> omega
theorem diff_val (F G : Nat → Nat) (hG : okF G 5) : valN (diffN F G) 5 + valN G 5 = valN F 5 + 4 * pN := by
  rw [valN_five, valN_five, valN_five]
  have := hG 0 (by omega); have := hG 1 (by omega); have := hG 2 (by omega); have := hG 3 (by omega); have := hG 4 (by omega)
  unfold diffN mostF pN
  simp only [if_true, show (1 : Nat) ≠ 0 from by omega, show (2 : Nat) ≠ 0 from by omega, show (3 : Nat) ≠ 0 from by omega, show (4 : Nat) ≠ 0 from by omega, if_false]
  omega
theorem sub_val (F G : Nat → Nat) (hG : okF G 5) : (valN (carN (diffN F G)) 5 + valN G 5) % pN = valN F 5 % pN := by
  have h1 := car_val (diffN F G)
  have h2 := diff_val F G hG
  have e : valN (carN (diffN F G)) 5 + valN G 5 + ovN (diffN F G) 5 * pN = valN F 5 + 4 * pN := by omega
  rw [← Nat.add_mul_mod_self_right _ (ovN (diffN F G) 5), e, Nat.add_mul_mod_self_right]
theorem sum_val (F G : Nat → Nat) : valN (carN fun i => F i + G i) 5 % pN = (valN F 5 + valN G 5) % pN := by
  have h1 := car_val (fun i => F i + G i)
  have e : valN (fun i => F i + G i) 5 = valN F 5 + valN G 5 := by rw [valN_five, valN_five, valN_five]; omega
  rw [← e, ← h1, Nat.add_mul_mod_self_right]
theorem car_ok (F : Nat → Nat) (hF : ∀ i, i < 5 → F i < 9223372036854775808) : okF (carN F) 5 := fun i hi => by
  have := carN_lt F hF i hi
  omega
end Go.Proofs.Ythgjhipfgdlbnaa
