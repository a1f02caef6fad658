/- Plain law of layer 5's reference: numbers in sixteen parts; what goes over comes in again; the prime is taken away. -/
import Derived.Test.YthgjhipfgdlbnaaFeN
namespace Go.Proofs.Ythgjhipfgdlbnaa
set_option linter.unusedSimpArgs false
set_option linter.unusedVariables false
/-- A number's part of 16 bits. -/
def partN (v i : Nat) : Nat := v / 2 ^ (16 * i) % 65536
/-- What the first parts stand for. -/
def val16 (X : Nat → Nat) : Nat → Nat
  | 0 => 0
  | i + 1 => val16 X i + X i * 2 ^ (16 * i)
theorem val16_succ (X : Nat → Nat) (i : Nat) : val16 X (i + 1) = val16 X i + X i * 2 ^ (16 * i) := rfl
theorem val16_congr (X Y : Nat → Nat) : ∀ n, (∀ i, i < n → X i = Y i) → val16 X n = val16 Y n
  | 0, _ => rfl
  | n + 1, h => by rw [val16_succ, val16_succ, val16_congr X Y n (fun i hi => h i (by omega)), h n (by omega)]
theorem pow16 (m : Nat) : 2 ^ (16 * (m + 1)) = 2 ^ (16 * m) * 65536 := by rw [Nat.mul_add, Nat.pow_add]
theorem part_val (v : Nat) : ∀ n, val16 (partN v) n = v % 2 ^ (16 * n)
  | 0 => by simp [val16, Nat.mod_one]
  | n + 1 => by
    rw [val16_succ, part_val v n, pow16, Nat.mod_mul]
    unfold partN
    rw [Nat.mul_comm (2 ^ (16 * n))]
theorem val16_lt (X : Nat → Nat) : ∀ n, (∀ i, i < n → X i < 65536) → val16 X n < 2 ^ (16 * n)
  | 0, _ => by simp [val16]
  | n + 1, h => by
    have h1 := val16_lt X n (fun i hi => h i (by omega))
    have h2 := h n (by omega)
    rw [val16_succ, pow16]
    have h3 : X n * 2 ^ (16 * n) ≤ 65535 * 2 ^ (16 * n) := Nat.mul_le_mul_right _ (by omega)
    omega
theorem val_part (X : Nat → Nat) (n : Nat) (hX : ∀ i, i < n → X i < 65536) (i : Nat) (hi : i < n) : partN (val16 X n) i = X i := by
  have up : ∀ m, i < m → m ≤ n → partN (val16 X m) i = X i := by
    intro m
    induction m with
    | zero => intro h; omega
    | succ m ih =>
      intro h hm
      have hl := val16_lt X m (fun j hj => hX j (by omega))
      by_cases him : i = m
      · subst him
        unfold partN
        rw [val16_succ, Nat.add_mul_div_right _ _ (Nat.two_pow_pos _), Nat.div_eq_of_lt hl, Nat.zero_add, Nat.mod_eq_of_lt (hX i hi)]
      · rw [← ih (by omega) (by omega)]
        unfold partN
        rw [val16_succ]
        have : 2 ^ (16 * m) = 2 ^ (16 * i) * (65536 * 2 ^ (16 * (m - i - 1))) := by
          rw [← Nat.mul_assoc, ← pow16, ← Nat.pow_add]
          congr 1
          omega
        rw [this, Nat.mul_left_comm, Nat.add_mul_div_left _ _ (Nat.two_pow_pos _), Nat.mul_left_comm (X m), Nat.add_mul_mod_self_left]
  exact up n hi (Nat.le_refl n)
theorem val16_add (A B : Nat → Nat) (c : Nat) : ∀ n, val16 (fun i => A i + c * B i) n = val16 A n + c * val16 B n
  | 0 => by simp [val16]
  | n + 1 => by
    simp only [val16_succ]
    rw [val16_add A B c n, Nat.mul_add, Nat.add_mul, Nat.mul_assoc]
    omega
theorem val16_split (L : Nat → Nat) (k : Nat) : ∀ n, val16 L (k + n) = val16 L k + 2 ^ (16 * k) * val16 (fun i => L (k + i)) n
  | 0 => by simp [val16]
  | n + 1 => by
    rw [← Nat.add_assoc, val16_succ, val16_split L k n, val16_succ, Nat.mul_add 16 k n, Nat.pow_add, Nat.mul_add, Nat.mul_left_comm (L (k + n)), Nat.add_assoc]
theorem fold_start (L : Nat → Nat) : val16 (fun i => L i + 38 * L (16 + i)) 16 % pN = val16 L 32 % pN := by
  rw [val16_add L (fun i => L (16 + i)) 38 16, val16_split L 16 16, show (2 : Nat) ^ (16 * 16) = 38 + pN * 2 from by decide +kernel, Nat.add_mul, ← Nat.add_assoc, Nat.mul_assoc pN 2, Nat.add_mul_mod_self_left]
/-- What goes over, and what stays. -/
def ovR (X : Nat → Nat) : Nat → Nat
  | 0 => 0
  | m + 1 => (X m + ovR X m) / 65536
def loR (X : Nat → Nat) (m : Nat) : Nat := (X m + ovR X m) % 65536
theorem ovR_succ (X : Nat → Nat) (m : Nat) : ovR X (m + 1) = (X m + ovR X m) / 65536 := rfl
theorem loR_val (X : Nat → Nat) : ∀ m, val16 (loR X) m + ovR X m * 2 ^ (16 * m) = val16 X m
  | 0 => by simp [val16, ovR]
  | m + 1 => by
    rw [val16_succ, val16_succ, ← loR_val X m, ovR_succ, pow16]
    unfold loR
    have h := Nat.div_add_mod (X m + ovR X m) 65536
    generalize (X m + ovR X m) / 65536 = d at *
    generalize (X m + ovR X m) % 65536 = r at *
    have e : X m * 2 ^ (16 * m) + ovR X m * 2 ^ (16 * m) = (65536 * d + r) * 2 ^ (16 * m) := by rw [h, Nat.add_mul]
    rw [Nat.add_mul, Nat.mul_comm 65536 d, Nat.mul_assoc d] at e
    rw [Nat.mul_comm (2 ^ (16 * m)) 65536]
    omega
theorem ovR_lt (X : Nat → Nat) (hX : ∀ i, i < 16 → X i < 70368744177664) : ∀ m, m ≤ 16 → ovR X m < 2147483648
  | 0, _ => by unfold ovR; omega
  | m + 1, h => by
    have := ovR_lt X hX m (by omega)
    have := hX m (by omega)
    rw [ovR_succ]
    omega
theorem loR_lt (X : Nat → Nat) (m : Nat) : loR X m < 65536 := Nat.mod_lt _ (by omega)
/-- Parts, told again: what goes over comes in again, 38 times. -/
def passN (X : Nat → Nat) (i : Nat) : Nat := if i = 0 then loR X 0 + 38 * ovR X 16 else loR X i
theorem val16_first (X Y : Nat → Nat) (h : ∀ i, 1 ≤ i → X i = Y i) : ∀ n, val16 X (n + 1) + Y 0 = val16 Y (n + 1) + X 0
  | 0 => by simp [val16]; omega
  | n + 1 => by
    have := val16_first X Y h n
    rw [val16_succ X (n + 1), val16_succ Y (n + 1), h (n + 1) (by omega)]
    omega
theorem pass_val (X : Nat → Nat) : val16 (passN X) 16 + ovR X 16 * (pN * 2) = val16 X 16 := by
  have h1 := loR_val X 16
  have h2 := val16_first (passN X) (loR X) (fun i hi => by unfold passN; rw [if_neg (by omega)]) 15
  have e : passN X 0 = loR X 0 + 38 * ovR X 16 := by unfold passN; rw [if_pos rfl]
  rw [e] at h2
  rw [show (2 : Nat) ^ (16 * 16) = 38 + pN * 2 from by decide +kernel] at h1
  rw [Nat.mul_add] at h1
  simp only [Nat.reduceAdd] at h2
  generalize ovR X 16 * (pN * 2) = z at *
  omega
theorem pass_lt (X : Nat → Nat) (hX : ∀ i, i < 16 → X i < 70368744177664) (i : Nat) (_hi : i < 16) : passN X i < 70368744177664 := by
  have := ovR_lt X hX 16 (by omega)
  have := loR_lt X 0
  have := loR_lt X i
  unfold passN
  split <;> omega
theorem pass_done (X : Nat → Nat) (h : ovR X 16 = 0) (i : Nat) : passN X i < 65536 := by
  have := loR_lt X 0
  have := loR_lt X i
  unfold passN
  rw [h]
  split <;> omega
theorem p_part : ∀ i, i < 16 → partN pN i = if i = 0 then 65517 else if i = 15 then 32767 else 65535 := by decide +kernel
theorem part_lt (v i : Nat) : partN v i < 65536 := Nat.mod_lt _ (by omega)
theorem div_up (v i : Nat) : v / 2 ^ (16 * i) = v / 2 ^ (16 * (i + 1)) * 65536 + partN v i := by
  unfold partN
  rw [pow16, ← Nat.div_div_eq_div_mul]
  omega
/-- Which is less is told by the highest part in which they are not the same. -/
theorem less_part (v p i : Nat) (h : v / 2 ^ (16 * (i + 1)) = p / 2 ^ (16 * (i + 1))) (hne : partN v i ≠ partN p i) : decide (v < p) = decide (partN v i < partN p i) := by
  have e1 := div_up v i
  have e2 := div_up p i
  rw [h] at e1
  apply decide_eq_decide.2
  constructor
  · intro hl
    have := Nat.div_le_div_right (c := 2 ^ (16 * i)) (Nat.le_of_lt hl)
    omega
  · intro hl
    have : v / 2 ^ (16 * i) < p / 2 ^ (16 * i) := by omega
    rcases Nat.lt_or_ge v p with h' | h'
    · exact h'
    · have := Nat.div_le_div_right (c := 2 ^ (16 * i)) h'
      omega
/-- What is borrowed. -/
def boN (v p m : Nat) : Nat := if v % 2 ^ (16 * m) < p % 2 ^ (16 * m) then 1 else 0
theorem sub_step (v p m : Nat) (h : p ≤ v) : (65536 + partN v m - partN p m - boN v p m) % 65536 = partN (v - p) m ∧ 1 - (65536 + partN v m - partN p m - boN v p m) / 65536 = boN v p (m + 1) := by
  have hv := Nat.div_add_mod v (2 ^ (16 * m))
  have hp := Nat.div_add_mod p (2 ^ (16 * m))
  have pos := Nat.two_pow_pos (16 * m)
  have lv := Nat.mod_lt v pos
  have lp := Nat.mod_lt p pos
  have mv : v % 2 ^ (16 * (m + 1)) = v % 2 ^ (16 * m) + 2 ^ (16 * m) * partN v m := by rw [pow16, Nat.mod_mul]; rfl
  have mp : p % 2 ^ (16 * (m + 1)) = p % 2 ^ (16 * m) + 2 ^ (16 * m) * partN p m := by rw [pow16, Nat.mod_mul]; rfl
  have key : (v - p) / 2 ^ (16 * m) = v / 2 ^ (16 * m) - p / 2 ^ (16 * m) - boN v p m := by
    have hle := Nat.div_le_div_right (c := 2 ^ (16 * m)) h
    unfold boN
    generalize 2 ^ (16 * m) = B at *
    generalize v / B = A at *
    generalize p / B = C at *
    obtain ⟨D, rfl⟩ : ∃ D, A = C + D := ⟨A - C, by omega⟩
    rw [Nat.mul_add] at hv
    split
    · rename_i hlt
      have hD : D ≠ 0 := by
        intro e
        rw [e, Nat.mul_zero] at hv
        omega
      obtain ⟨E, rfl⟩ : ∃ E, D = E + 1 := ⟨D - 1, by omega⟩
      rw [Nat.mul_add, Nat.mul_one] at hv
      rw [show v - p = v % B + B - p % B + B * E from by omega, Nat.add_mul_div_left _ _ pos, Nat.div_eq_of_lt (by omega)]
      omega
    · rw [show v - p = v % B - p % B + B * D from by omega, Nat.add_mul_div_left _ _ pos, Nat.div_eq_of_lt (by omega)]
      omega
  have pv := part_lt v m
  have pp := part_lt p m
  have hb : boN v p m ≤ 1 := by unfold boN; split <;> omega
  constructor
  · have hle := Nat.div_le_div_right (c := 2 ^ (16 * m)) h
    have hpos : boN v p m + p / 2 ^ (16 * m) ≤ v / 2 ^ (16 * m) := by
      unfold boN
      split
      · rename_i hlt
        rcases Nat.lt_or_ge (p / 2 ^ (16 * m)) (v / 2 ^ (16 * m)) with h' | h'
        · omega
        · have e : v / 2 ^ (16 * m) = p / 2 ^ (16 * m) := by omega
          rw [e] at hv
          omega
      · omega
    have e3 : partN (v - p) m = (v / 2 ^ (16 * m) - p / 2 ^ (16 * m) - boN v p m) % 65536 := by unfold partN; rw [key]
    rw [e3]
    unfold partN at *
    omega
  · have hb2 : boN v p (m + 1) = if partN v m < partN p m + boN v p m then 1 else 0 := by
      unfold boN
      rw [mv, mp]
      generalize 2 ^ (16 * m) = B at *
      generalize v % B = a at *
      generalize p % B = b at *
      rcases Nat.lt_trichotomy (partN v m) (partN p m) with h1 | h1 | h1
      · have : B * partN v m + B ≤ B * partN p m := by rw [← Nat.mul_succ]; exact Nat.mul_le_mul_left B h1
        rw [if_pos (by omega), if_pos (by omega)]
      · rw [h1]
        by_cases h2 : a < b
        · rw [if_pos (by omega), if_pos h2, if_pos (by omega)]
        · rw [if_neg (by omega), if_neg h2, if_neg (by omega)]
      · have : B * partN p m + B ≤ B * partN v m := by rw [← Nat.mul_succ]; exact Nat.mul_le_mul_left B h1
        rw [if_neg (by omega)]
        by_cases h2 : a < b
        · rw [if_pos h2, if_neg (by omega)]
        · rw [if_neg h2, if_neg (by omega)]
    rw [hb2]
    split <;> omega
theorem bo_zero (v p : Nat) : boN v p 0 = 0 := by unfold boN; simp [Nat.mod_one]
end Go.Proofs.Ythgjhipfgdlbnaa
