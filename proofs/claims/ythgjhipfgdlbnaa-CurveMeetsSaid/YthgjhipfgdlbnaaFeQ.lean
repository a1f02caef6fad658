/- Plain law of layer 5: a number's bytes, and the number of bytes; no program is in sight. -/
import Derived.Test.YthgjhipfgdlbnaaFeN
import Derived.Test.YthgjhipfgdlbnaaFeS
namespace Go.Proofs.Ythgjhipfgdlbnaa
set_option linter.unusedSimpArgs false
set_option linter.unusedVariables false

theorem kvN_congr (b c : Nat → Nat) : ∀ k, (∀ i, i < k → b i = c i) → kvN b k = kvN c k
  | 0, _ => rfl
  | k + 1, h => by rw [kvN_succ, kvN_succ, kvN_congr b c k (fun i hi => h i (by omega)), h k (by omega)]
theorem kv_bytes (v : Nat) : ∀ k, kvN (byteN v) k = v % 2 ^ (8 * k)
  | 0 => by unfold kvN; rw [Nat.mul_zero, Nat.pow_zero, Nat.mod_one]
  | k + 1 => by
    rw [kvN_succ, kv_bytes v k, show 8 * (k + 1) = 8 * k + 8 from by omega, Nat.pow_add, Nat.mod_mul]
    unfold byteN
    rw [Nat.mul_comm (v / 2 ^ (8 * k) % 256)]
theorem byte_kv (b : Nat → Nat) (n : Nat) (hb : ∀ i, i < n → b i < 256) (k : Nat) (hk : k < n) : ∀ m, k < m → m ≤ n → byteN (kvN b m) k = b k := by
  intro m
  induction m with
  | zero => intro h; omega
  | succ m ih =>
    intro h hm
    by_cases hkm : k = m
    · subst hkm
      unfold byteN
      rw [kvN_succ, Nat.mul_comm (b k), Nat.add_mul_div_left _ _ (Nat.two_pow_pos _), Nat.div_eq_of_lt (kvN_lt b n hb k (by omega)), Nat.zero_add, Nat.mod_eq_of_lt (hb k (by omega))]
    · rw [← ih (by omega) (by omega)]
      unfold byteN
      obtain ⟨t, ht⟩ : ∃ t, 8 * m = 8 * k + (8 + t) := ⟨8 * m - 8 * k - 8, by omega⟩
      rw [kvN_succ, ht, Nat.pow_add, show b m * (2 ^ (8 * k) * 2 ^ (8 + t)) = 2 ^ (8 * k) * (b m * 2 ^ (8 + t)) from by rw [Nat.mul_left_comm], Nat.add_mul_div_left _ _ (Nat.two_pow_pos _)]
      rw [Nat.pow_add, show b m * (2 ^ 8 * 2 ^ t) = 256 * (b m * 2 ^ t) from by rw [show (2 : Nat) ^ 8 = 256 from rfl, Nat.mul_left_comm], Nat.add_mul_mod_self_left]
/-- The parts of a value. -/
def digN (v i : Nat) : Nat := v / 2 ^ (51 * i) % 2251799813685248
theorem dig_val (X : Nat → Nat) (hX : ∀ i, i < 5 → X i < 2251799813685248) (i : Nat) (hi : i < 5) : digN (valN X 5) i = X i := by
  have h0 := hX 0 (by omega)
  have h1 := hX 1 (by omega)
  have h2 := hX 2 (by omega)
  have h3 := hX 3 (by omega)
  have h4 := hX 4 (by omega)
  unfold digN
  rw [valN_five]
  have h : i = 0 ∨ i = 1 ∨ i = 2 ∨ i = 3 ∨ i = 4 := by omega
  rcases h with rfl | rfl | rfl | rfl | rfl
  · rw [show (2 : Nat) ^ (51 * 0) = 1 from by decide]; omega
  · rw [show (2 : Nat) ^ (51 * 1) = 2251799813685248 from by decide]; omega
  · rw [show (2 : Nat) ^ (51 * 2) = 5070602400912917605986812821504 from by decide]; omega
  · rw [show (2 : Nat) ^ (51 * 3) = 11417981541647679048466287755595961091061972992 from by decide]; omega
  · rw [show (2 : Nat) ^ (51 * 4) = 25711008708143844408671393477458601640355247900524685364822016 from by decide]; omega
theorem val_dig (v : Nat) : valN (digN v) 5 = v % 57896044618658097711785492504343953926634992332820282019728792003956564819968 := by
  rw [valN_five]
  unfold digN
  rw [show (2 : Nat) ^ (51 * 0) = 1 from by decide, show (2 : Nat) ^ (51 * 1) = 2251799813685248 from by decide, show (2 : Nat) ^ (51 * 2) = 5070602400912917605986812821504 from by decide, show (2 : Nat) ^ (51 * 3) = 11417981541647679048466287755595961091061972992 from by decide, show (2 : Nat) ^ (51 * 4) = 25711008708143844408671393477458601640355247900524685364822016 from by decide]
  omega
theorem ofN_dig (b : Nat → Nat) (i : Nat) : ofN b i = digN (kvN b 32) i := rfl
/-- Of a least number: it. -/
theorem least_of (X : Nat → Nat) (hX : ∀ i, i < 5 → X i < 2251799813685248) (hp : valN X 5 < pN) (i : Nat) (hi : i < 5) : leastN X i = X i := by
  have h1 := least_val X (fun i hi => by have := hX i hi; omega)
  rw [Nat.mod_eq_of_lt hp] at h1
  rw [← dig_val (leastN X) (fun i _ => leastN_lt X i) i hi, h1, dig_val X hX i hi]
/-- The bytes of a number are those of which it is. -/
theorem of_bytes (F : Nat → Nat) (_hF : okF F 5) (b : Nat → Nat) (hb : ∀ k, k < 32 → b k = byteN (valN (leastN F) 5) k) (i : Nat) (hi : i < 5) : ofN b i = leastN F i := by
  rw [ofN_dig, kvN_congr b _ 32 hb, kv_bytes]
  have h := valN_lt (leastN F) 5 (fun i _ => leastN_lt F i) 5 (Nat.le_refl _)
  rw [Nat.mod_eq_of_lt (Nat.lt_of_lt_of_le h (Nat.pow_le_pow_right (by omega) (by omega))), dig_val _ (fun i _ => leastN_lt F i) i hi]
/-- Whether bytes are the prime, or more. -/
def mostN (b : Nat → Nat) : Nat → Bool
  | 0 => decide (b 31 = 127) && decide (237 ≤ b 0)
  | m + 1 => mostN b m && decide (b (m + 1) = 255)
theorem most_iff (b : Nat → Nat) : ∀ m, mostN b m = true ↔ (b 31 = 127 ∧ 237 ≤ b 0) ∧ ∀ i, 1 ≤ i → i ≤ m → b i = 255
  | 0 => by
    simp only [mostN, Bool.and_eq_true, decide_eq_true_eq]
    exact ⟨fun h => ⟨h, fun i h1 h2 => by omega⟩, fun h => h.1⟩
  | m + 1 => by
    simp only [mostN, Bool.and_eq_true, decide_eq_true_eq, most_iff b m]
    constructor
    · rintro ⟨⟨h1, h2⟩, h3⟩
      refine ⟨h1, fun i hi hm => ?_⟩
      by_cases h : i ≤ m
      · exact h2 i hi h
      · rw [show i = m + 1 from by omega]; exact h3
    · rintro ⟨h1, h2⟩
      exact ⟨⟨h1, fun i hi hm => h2 i hi (by omega)⟩, h2 _ (by omega) (Nat.le_refl _)⟩
/-- How much bytes lack, the first one apart. -/
def lackN (b : Nat → Nat) : Nat → Nat
  | 0 => 0
  | k + 1 => if k = 0 then 0 else lackN b k + (255 - b k) * 2 ^ (8 * k)
theorem lack_kv (b : Nat → Nat) (hb : ∀ i, i < 32 → b i < 256) : ∀ k, 1 ≤ k → k ≤ 32 → kvN b k + lackN b k + 256 = b 0 + 2 ^ (8 * k) ∧ 256 ∣ lackN b k
  | 1, _, _ => by
    have e : kvN b 1 = 0 + b 0 * 2 ^ (8 * 0) := by rw [kvN_succ]; rfl
    have e2 : lackN b 1 = 0 := rfl
    rw [e, e2]
    exact ⟨by simp, ⟨0, rfl⟩⟩
  | k + 2, _, h => by
    obtain ⟨h1, h2⟩ := lack_kv b hb (k + 1) (by omega) (by omega)
    have hk := hb (k + 1) (by omega)
    have e2 : lackN b (k + 2) = lackN b (k + 1) + (255 - b (k + 1)) * 2 ^ (8 * (k + 1)) := by
      show (if k + 1 = 0 then 0 else _) = _
      rw [if_neg (by omega)]
    have h3 : b (k + 1) * 2 ^ (8 * (k + 1)) + (255 - b (k + 1)) * 2 ^ (8 * (k + 1)) = 255 * 2 ^ (8 * (k + 1)) := by
      rw [← Nat.add_mul, Nat.add_sub_cancel' (by omega)]
    rw [kvN_succ, e2, show 8 * (k + 2) = 8 + 8 * (k + 1) from by omega, Nat.pow_add, show (2 : Nat) ^ 8 = 256 from by decide]
    refine ⟨by omega, Nat.dvd_add h2 ?_⟩
    rw [show 8 * (k + 1) = 8 + 8 * k from by omega, Nat.pow_add, show (2 : Nat) ^ 8 = 256 from by decide, Nat.mul_left_comm]
    exact Nat.dvd_mul_right _ _
theorem lack_zero (b : Nat → Nat) (hb : ∀ i, i < 32 → b i < 256) : ∀ k, k ≤ 32 → (lackN b k = 0 ↔ ∀ i, 1 ≤ i → i < k → b i = 255)
  | 0, _ => ⟨fun _ i _ h => by omega, fun _ => rfl⟩
  | k + 1, h => by
    show (if k = 0 then 0 else lackN b k + (255 - b k) * 2 ^ (8 * k)) = 0 ↔ _
    by_cases hk : k = 0
    · rw [if_pos hk]; exact ⟨fun _ i h1 h2 => by omega, fun _ => rfl⟩
    · rw [if_neg hk]
      have hl := hb k (by omega)
      have hp : 0 < 2 ^ (8 * k) := Nat.two_pow_pos _
      constructor
      · intro h0 i hi hik
        obtain ⟨h1, h2⟩ := Nat.add_eq_zero_iff.1 h0
        by_cases h : i < k
        · exact (lack_zero b hb k (by omega)).1 h1 i hi h
        · rw [show i = k from by omega]
          rcases Nat.mul_eq_zero.1 h2 with h3 | h3 <;> omega
      · intro ha
        rw [(lack_zero b hb k (by omega)).2 (fun i h1 h2 => ha i h1 (by omega)), ha k (by omega) (by omega)]
        simp
theorem most_val (b : Nat → Nat) (hb : ∀ i, i < 32 → b i < 256) (h31 : b 31 ≤ 127) : mostN b 30 = decide (pN ≤ kvN b 32) ∧ (mostN b 30 = true → kvN b 32 = pN + (b 0 - 237)) := by
  obtain ⟨h1, d, hd⟩ := lack_kv b hb 31 (by omega) (by omega)
  have hz := lack_zero b hb 31 (by omega)
  have h0 := hb 0 (by omega)
  have e : kvN b 32 = kvN b 31 + b 31 * 452312848583266388373324160190187140051835877600158453279131187530910662656 := by
    rw [kvN_succ, show (2 : Nat) ^ (8 * 31) = 452312848583266388373324160190187140051835877600158453279131187530910662656 from by decide]
  rw [show (2 : Nat) ^ (8 * 31) = 452312848583266388373324160190187140051835877600158453279131187530910662656 from by decide] at h1
  have hm : mostN b 30 = true ↔ (b 31 = 127 ∧ 237 ≤ b 0) ∧ lackN b 31 = 0 := by
    rw [most_iff, hz]
    exact ⟨fun h => ⟨h.1, fun i h1 h2 => h.2 i h1 (by omega)⟩, fun h => ⟨h.1, fun i h1 h2 => h.2 i h1 (by omega)⟩⟩
  rw [e]
  generalize kvN b 31 = kv at *
  generalize lackN b 31 = la at *
  generalize b 31 = t at *
  generalize b 0 = z at *
  unfold pN
  constructor
  · rw [Bool.eq_iff_iff, hm, decide_eq_true_eq]
    constructor
    · rintro ⟨⟨rfl, h3⟩, rfl⟩; omega
    · intro h
      have h4 : t = 127 := by omega
      subst h4
      omega
  · intro h
    obtain ⟨⟨rfl, h3⟩, rfl⟩ := hm.1 h
    omega
end Go.Proofs.Ythgjhipfgdlbnaa
