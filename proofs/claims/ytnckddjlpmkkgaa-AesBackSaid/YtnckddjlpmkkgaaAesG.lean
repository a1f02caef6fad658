/- What layer 4 computes, on bytes as integers: a key's keys; no program is in sight. -/
import Derived.Test.YtnckddjlpmkkgaaAesF
namespace Go.Proofs.Ytnckddjlpmkkgaa
set_option linter.unusedSimpArgs false
set_option linter.unusedVariables false
open Go.RowKit
attribute [local irreducible] sboxI

/-- A key's next one. -/
def nextKey (was : Nat → Int) (add : Int) : Nat → Int
  | 0 => bits .xor .u8 (was 0) (bits .xor .u8 add (sboxI (was 13).toNat))
  | 1 => bits .xor .u8 (was 1) (sboxI (was 14).toNat)
  | 2 => bits .xor .u8 (was 2) (sboxI (was 15).toNat)
  | 3 => bits .xor .u8 (was 3) (sboxI (was 12).toNat)
  | n + 4 => bits .xor .u8 (was (n + 4)) (nextKey was add n)
def addK : Nat → Int
  | 0 => 1
  | j + 1 => twiceI (addK j)
def keyK (k : Nat → Int) : Nat → Nat → Int
  | 0 => k
  | j + 1 => nextKey (keyK k j) (addK j)
/-- A cipher's cells, when its keys up to j are known. -/
def cipK (k : Nat → Int) (j : Nat) (i : Nat) : Int := if i < 256 then sboxI i else if (i - 256) / 16 ≤ j then keyK k ((i - 256) / 16) ((i - 256) % 16) else 0

theorem nextKey_byte (was : Nat → Int) (add : Int) (i : Nat) : 0 ≤ nextKey was add i ∧ nextKey was add i < 256 := by
  unfold nextKey; split <;> exact bits_u8 _ _ _
theorem addK_byte (j : Nat) : 0 ≤ addK j ∧ addK j < 256 := by
  cases j with
  | zero => exact ⟨by decide, by decide⟩
  | succ j => unfold addK twiceI; exact bits_u8 _ _ _
theorem keyK_byte (k : Nat → Int) (hk : ∀ i, i < 16 → 0 ≤ k i ∧ k i < 256) (j i : Nat) (hi : i < 16) : 0 ≤ keyK k j i ∧ keyK k j i < 256 := by
  cases j with
  | zero => exact hk i hi
  | succ j => exact nextKey_byte _ _ _

theorem cip_start (k : Nat → Int) (i : Nat) (_hi : i < 432) : patch (fun i => if i < 256 then sboxI i else 0) 256 16 k i = cipK k 0 i := by
  unfold patch cipK
  by_cases h : i < 256
  · rw [if_neg (by omega), if_pos h]; exact if_pos h
  · by_cases h2 : i < 256 + 16
    · rw [if_pos ⟨by omega, h2⟩, if_neg h, if_pos (by omega), show (i - 256) / 16 = 0 from by omega, show (i - 256) % 16 = i - 256 from by omega]
      rfl
    · rw [if_neg (by omega), if_neg h, if_neg (by omega)]; exact if_neg h
/-- While the key behind j is found, up to m. -/
def cipM (k : Nat → Int) (j m i : Nat) : Int := if 256 + 16 * (j + 1) ≤ i ∧ i < 256 + 16 * (j + 1) + m then nextKey (keyK k j) (addK j) (i - (256 + 16 * (j + 1))) else cipK k j i
theorem cipM_zero (k : Nat → Int) (j i : Nat) : cipM k j 0 i = cipK k j i := by
  unfold cipM
  rw [if_neg (by omega)]
theorem cipM_step (k : Nat → Int) (j m i : Nat) : upd (cipM k j m) (256 + 16 * (j + 1) + m) (nextKey (keyK k j) (addK j) m) i = cipM k j (m + 1) i := by
  unfold upd cipM
  by_cases h : i = 256 + 16 * (j + 1) + m
  · rw [if_pos h, if_pos (by omega), h, Nat.add_sub_cancel_left]
  · rw [if_neg h]
    by_cases h2 : 256 + 16 * (j + 1) ≤ i ∧ i < 256 + 16 * (j + 1) + m
    · rw [if_pos h2, if_pos (by omega)]
    · rw [if_neg h2, if_neg (by omega)]
theorem keyK_succ (k : Nat → Int) (j i : Nat) : keyK k (j + 1) i = nextKey (keyK k j) (addK j) i := rfl
theorem cipM_step' (k : Nat → Int) (j m o : Nat) (ho : o = 256 + 16 * (j + 1) + m) (i : Nat) (v : Int) (hv : v = nextKey (keyK k j) (addK j) m) : upd (cipM k j m) o v i = cipM k j (m + 1) i := by
  subst ho hv
  exact cipM_step k j m i
theorem nextKey_step (was : Nat → Int) (add : Int) (m : Nat) (h : 4 ≤ m) : nextKey was add m = bits .xor .u8 (was m) (nextKey was add (m - 4)) := by
  obtain ⟨n, rfl⟩ : ∃ n, m = n + 4 := ⟨m - 4, by omega⟩
  rfl
theorem cipM_done (k : Nat → Int) (j i : Nat) : cipM k j 16 i = cipK k (j + 1) i := by
  unfold cipM cipK
  by_cases h : i < 256
  · rw [if_neg (by omega), if_pos h, if_pos h]
  · by_cases h2 : 256 + 16 * (j + 1) ≤ i ∧ i < 256 + 16 * (j + 1) + 16
    · rw [if_pos h2, if_neg h, if_pos (by omega), show (i - 256) / 16 = j + 1 from by omega]
      rw [keyK_succ, show (i - 256) % 16 = i - (256 + 16 * (j + 1)) from by omega]
    · rw [if_neg h2, if_neg h, if_neg h]
      by_cases h3 : (i - 256) / 16 ≤ j
      · rw [if_pos h3, if_pos (by omega)]
      · rw [if_neg h3, if_neg (by omega)]
theorem cipM_now (k : Nat → Int) (j m i : Nat) (h : i < m) : cipM k j m (256 + 16 * (j + 1) + i) = nextKey (keyK k j) (addK j) i := by
  unfold cipM
  rw [if_pos (by omega), Nat.add_sub_cancel_left]
theorem cipM_box (k : Nat → Int) (j m i : Nat) (h : i < 256) : cipM k j m i = sboxI i := by
  unfold cipM cipK
  rw [if_neg (by omega), if_pos h]
theorem cipK_key (k : Nat → Int) (n j i : Nat) (h : j ≤ n) (hi : i < 16) : cipK k n (256 + 16 * j + i) = keyK k j i := by
  unfold cipK
  rw [if_neg (by omega), show (256 + 16 * j + i - 256) / 16 = j from by omega, if_pos h, show (256 + 16 * j + i - 256) % 16 = i from by omega]
theorem cipK_key' (k : Nat → Int) (n i : Nat) (h : i / 16 ≤ n) : cipK k n (256 + i) = keyK k (i / 16) (i % 16) := by
  unfold cipK
  rw [if_neg (by omega), Nat.add_sub_cancel_left, if_pos h]
theorem cipK_box (k : Nat → Int) (n i : Nat) (h : i < 256) : cipK k n i = sboxI i := by
  unfold cipK; rw [if_pos h]

end Go.Proofs.Ytnckddjlpmkkgaa
