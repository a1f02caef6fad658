/- Plain law of layer 5: a number's parts, and its bytes; no program is in sight. -/
namespace Go.Proofs.Ythgjhipfgdlbnaa
set_option linter.unusedSimpArgs false
set_option linter.unusedVariables false

/-- What the first i parts stand for. -/
def valN (X : Nat → Nat) : Nat → Nat
  | 0 => 0
  | i + 1 => valN X i + X i * 2 ^ (51 * i)
theorem valN_succ (X : Nat → Nat) (i : Nat) : valN X (i + 1) = valN X i + X i * 2 ^ (51 * i) := rfl
theorem valN_lt (X : Nat → Nat) (n : Nat) (hX : ∀ i, i < n → X i < 2251799813685248) : ∀ i, i ≤ n → valN X i < 2 ^ (51 * i)
  | 0, _ => by unfold valN; decide
  | i + 1, h => by
    have h1 := valN_lt X n hX i (by omega)
    have h2 : X i + 1 ≤ 2251799813685248 := hX i (by omega)
    have h3 := Nat.mul_le_mul_right (2 ^ (51 * i)) h2
    rw [valN_succ, show 51 * (i + 1) = 51 + 51 * i from by omega, Nat.pow_add]
    rw [Nat.add_mul] at h3
    have : (2 : Nat) ^ 51 = 2251799813685248 := by decide
    rw [this]
    omega
/-- A number's k-th byte. -/
def byteN (v k : Nat) : Nat := v / 2 ^ (8 * k) % 256
theorem or_low (a b t : Nat) (ha : a < 2 ^ t) : a ||| (b * 2 ^ t) = a + b * 2 ^ t := by
  rw [Nat.or_comm, Nat.mul_comm, ← Nat.two_pow_add_eq_or_of_lt ha, Nat.add_comm]
/-- A part's bits that go below the byte's first. -/
theorem byte_low (v x i k : Nat) (hv : v < 2 ^ (51 * i)) (h : 8 * k < 51 * i) (h2 : 51 * i < 8 * k + 8) :
    byteN v k ||| (x * 2 ^ (51 * i - 8 * k) % 256) = byteN (v + x * 2 ^ (51 * i)) k := by
  obtain ⟨t, ht⟩ : ∃ t, 51 * i = 8 * k + t := ⟨51 * i - 8 * k, by omega⟩
  unfold byteN
  rw [show 51 * i - 8 * k = t from by omega, ht, Nat.pow_add]
  have ha : v / 2 ^ (8 * k) < 2 ^ t := by
    rw [Nat.div_lt_iff_lt_mul (Nat.two_pow_pos _), ← Nat.pow_add]
    rw [show t + 8 * k = 51 * i from by omega]; exact hv
  have e : (v + x * (2 ^ (8 * k) * 2 ^ t)) / 2 ^ (8 * k) = v / 2 ^ (8 * k) + x * 2 ^ t := by
    rw [show x * (2 ^ (8 * k) * 2 ^ t) = 2 ^ (8 * k) * (x * 2 ^ t) from by rw [Nat.mul_left_comm], Nat.add_mul_div_left _ _ (Nat.two_pow_pos _)]
  rw [e]
  generalize v / 2 ^ (8 * k) = a at *
  obtain ⟨u, hu⟩ : ∃ u, t + u = 8 := ⟨8 - t, by omega⟩
  have hp : (256 : Nat) = 2 ^ t * 2 ^ u := by rw [← Nat.pow_add, hu]
  have hl : a < 256 := Nat.lt_of_lt_of_le ha (by rw [hp]; exact Nat.le_mul_of_pos_right _ (Nat.two_pow_pos _))
  have hm : x * 2 ^ t % 256 = x % 2 ^ u * 2 ^ t := by rw [hp, Nat.mul_comm x, Nat.mul_mod_mul_left, Nat.mul_comm]
  have hlt : a + x * 2 ^ t % 256 < 256 := by
    rw [hm]
    have h1 : x % 2 ^ u + 1 ≤ 2 ^ u := Nat.mod_lt _ (Nat.two_pow_pos _)
    have h3 := Nat.mul_le_mul_right (2 ^ t) h1
    rw [Nat.add_mul, Nat.mul_comm (2 ^ u), ← hp] at h3
    omega
  rw [Nat.mod_eq_of_lt hl]
  have ho := or_low a (x % 2 ^ u) t ha
  rw [← hm] at ho
  rw [ho]
  generalize x * 2 ^ t = y at *
  omega
/-- A part's bits from the byte's first on. -/
theorem byte_high (v x i k : Nat) (hv : v < 2 ^ (51 * i)) (h : 51 * i ≤ 8 * k) : byteN v k = 0 ∧ x / 2 ^ (8 * k - 51 * i) % 256 = byteN (v + x * 2 ^ (51 * i)) k := by
  obtain ⟨t, ht⟩ : ∃ t, 8 * k = 51 * i + t := ⟨8 * k - 51 * i, by omega⟩
  unfold byteN
  rw [show 8 * k - 51 * i = t from by omega, ht, Nat.pow_add]
  constructor
  · rw [Nat.div_eq_of_lt (Nat.lt_of_lt_of_le hv (Nat.le_mul_of_pos_right _ (Nat.two_pow_pos _)))]
  · rw [← Nat.div_div_eq_div_mul, Nat.mul_comm x, Nat.add_mul_div_left _ _ (Nat.two_pow_pos _), Nat.div_eq_of_lt hv, Nat.zero_add]
/-- Bytes that a part does not reach. -/
theorem byte_below (v x i k : Nat) (h : 8 * k + 8 ≤ 51 * i) : byteN (v + x * 2 ^ (51 * i)) k = byteN v k := by
  obtain ⟨t, ht⟩ : ∃ t, 51 * i = 8 * k + (8 + t) := ⟨51 * i - 8 * k - 8, by omega⟩
  unfold byteN
  rw [ht, Nat.pow_add, show x * (2 ^ (8 * k) * 2 ^ (8 + t)) = 2 ^ (8 * k) * (x * 2 ^ (8 + t)) from by rw [Nat.mul_left_comm], Nat.add_mul_div_left _ _ (Nat.two_pow_pos _)]
  rw [Nat.pow_add, show x * (2 ^ 8 * 2 ^ t) = 256 * (x * 2 ^ t) from by rw [show (2 : Nat) ^ 8 = 256 from rfl, Nat.mul_left_comm], Nat.add_mul_mod_self_left]
theorem byte_above (v k : Nat) (h : v < 2 ^ (8 * k)) : byteN v k = 0 := by
  unfold byteN
  rw [Nat.div_eq_of_lt h]
end Go.Proofs.Ythgjhipfgdlbnaa
