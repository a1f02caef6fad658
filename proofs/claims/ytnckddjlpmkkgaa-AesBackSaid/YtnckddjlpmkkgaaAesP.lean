/- What layer 4 computes: a block's rounds; no program is in sight. -/
import Derived.Test.YtnckddjlpmkkgaaAesM
namespace Go.Proofs.Ytnckddjlpmkkgaa
set_option linter.unusedSimpArgs false
set_option linter.unusedVariables false
open Go.RowKit
attribute [local irreducible] sboxI

def colI (x : Nat → Int) (i : Nat) : Int :=
  bits .xor .u8 (bits .xor .u8 (x i) (bits .xor .u8 (bits .xor .u8 (bits .xor .u8 (x 0) (x 1)) (x 2)) (x 3))) (twiceI (bits .xor .u8 (x i) (x ((i + 1) % 4))))
/-- A column, boxed, and turned. -/
def rowI (s : Nat → Int) (i r : Nat) : Int := sboxI (s (4 * ((i + r) % 4) + r)).toNat
def roundI (s : Nat → Int) (last : Bool) (q : Nat) : Int := if last then rowI s (q / 4) (q % 4) else colI (rowI s (q / 4)) (q % 4)
def xorI (f g : Nat → Int) (i : Nat) : Int := bits .xor .u8 (f i) (g i)
/-- A block behind j rounds. -/
def encJ (k s : Nat → Int) : Nat → Nat → Int
  | 0 => xorI s (keyK k 0)
  | j + 1 => xorI (roundI (encJ k s j) (decide (j + 1 = 10))) (keyK k (j + 1))
def encI (k s : Nat → Int) : Nat → Int := encJ k s 10

theorem colI_byte (x : Nat → Int) (i : Nat) : 0 ≤ colI x i ∧ colI x i < 256 := bits_u8 _ _ _
theorem rowI_byte (s : Nat → Int) (hs : ∀ i, i < 16 → 0 ≤ s i ∧ s i < 256) (i r : Nat) (hr : r < 4) : 0 ≤ rowI s i r ∧ rowI s i r < 256 := by
  have := hs (4 * ((i + r) % 4) + r) (by omega)
  exact sbox_byte _ (by omega)
theorem roundI_byte (s : Nat → Int) (hs : ∀ i, i < 16 → 0 ≤ s i ∧ s i < 256) (last : Bool) (q : Nat) : 0 ≤ roundI s last q ∧ roundI s last q < 256 := by
  unfold roundI
  split
  · exact rowI_byte s hs _ _ (by omega)
  · exact colI_byte _ _
theorem xorI_byte (f g : Nat → Int) (i : Nat) : 0 ≤ xorI f g i ∧ xorI f g i < 256 := bits_u8 _ _ _
theorem encJ_byte (k s : Nat → Int) (j i : Nat) : 0 ≤ encJ k s j i ∧ encJ k s j i < 256 := by
  cases j <;> exact xorI_byte _ _ _
theorem fill_zero (f : Nat → Int) (m i : Nat) : upd (fun i => if i < m then f i else 0) m (f m) i = if i < m + 1 then f i else 0 := fill_step (fun _ => 0) f m i
/-- One column more of a round. -/
theorem round_step (s : Nat → Int) (last : Bool) (m i : Nat) (hi : i < 16) (c : Nat → Int) (hc : ∀ r, r < 4 → c r = roundI s last (4 * m + r)) : patch (fun i => if i < 4 * m then roundI s last i else 0) (4 * m) 4 c i = if i < 4 * (m + 1) then roundI s last i else 0 := by
  unfold patch
  by_cases h : 4 * m ≤ i ∧ i < 4 * m + 4
  · rw [if_pos h, if_pos (by omega)]
    rw [hc _ (by omega), show 4 * m + (i - 4 * m) = i from by omega]
  · rw [if_neg h]
    by_cases h2 : i < 4 * m
    · rw [if_pos (show i < 4 * (m + 1) by omega)]; exact if_pos h2
    · rw [if_neg (show ¬ i < 4 * (m + 1) by omega)]; exact if_neg h2
theorem roundI_last (s : Nat → Int) (m r : Nat) (hr : r < 4) : rowI s m r = roundI s true (4 * m + r) := by
  unfold roundI
  rw [if_pos rfl, show (4 * m + r) / 4 = m from by omega, show (4 * m + r) % 4 = r from by omega]
theorem roundI_at (s : Nat → Int) (m r : Nat) (hr : r < 4) : colI (rowI s m) r = roundI s false (4 * m + r) := by
  unfold roundI
  rw [if_neg Bool.false_ne_true, show (4 * m + r) / 4 = m from by omega, show (4 * m + r) % 4 = r from by omega]
theorem last_test (j : Nat) : (((j : Int) + 1) == 10) = decide (j + 1 = 10) := by
  rw [Bool.eq_iff_iff, beq_iff_eq, decide_eq_true_eq]
  omega
end Go.Proofs.Ytnckddjlpmkkgaa
