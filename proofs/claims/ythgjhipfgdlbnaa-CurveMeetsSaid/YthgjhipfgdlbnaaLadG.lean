/- The ladder's numbers (plain): of the point 0 all products are 0; what clamping changes, and a point's highest bit, play no part. -/
import Derived.Test.YthgjhipfgdlbnaaClamp
import Derived.Test.YthgjhipfgdlbnaaLawFeReckons
namespace Go.Proofs.Ythgjhipfgdlbnaa
set_option linter.unusedSimpArgs false
set_option linter.unusedVariables false
open Go.RowKit

theorem fM_zero (a : Nat) : fM a 0 = 0 := by unfold fM; rw [Nat.mul_zero, Nat.zero_mod]
theorem zero_fM (a : Nat) : fM 0 a = 0 := by unfold fM; rw [Nat.zero_mul, Nat.zero_mod]
theorem fS_self (a : Nat) (h : a < pN) : fS a a = 0 := by
  unfold fS
  rw [show a + (pN - a) = pN by omega, Nat.mod_self]
theorem fA_zero (a : Nat) (h : a < pN) : fA a 0 = a := by unfold fA; rw [Nat.add_zero, Nat.mod_eq_of_lt h]
theorem fS_zero (a : Nat) (h : a < pN) : fS a 0 = a := by unfold fS; rw [Nat.sub_zero, Nat.add_mod_right, Nat.mod_eq_of_lt h]
theorem add0_z (q s : Pt) : (addP 0 q s).z = 0 := zero_fM _
theorem dblE_z {q : Pt} (h : q.x < pN) (hz : q.z = 0) : dblE q = 0 := by
  unfold dblE
  rw [hz, fA_zero _ h, fS_zero _ h]
  exact fS_self _ (fM_lt _ _)
theorem dbl_z {q : Pt} (h : dblE q = 0) : (dblP q).z = 0 := by
  unfold dblP
  dsimp only
  rw [h]
  exact zero_fM _
theorem dblE_one : dblE ⟨0, 1⟩ = 0 := by unfold dblE fS fM fA pN; decide +kernel
theorem lad0 (k : Nat → Nat) : ∀ n, (ladP 0 k (n + 1)).1.z = 0 ∧ (ladP 0 k (n + 1)).2.z = 0
  | 0 => by
    rw [show ladP 0 k (0 + 1) = stepP 0 (bitN k 0) ⟨1, 0⟩ ⟨0, 1⟩ from rfl]
    unfold stepP
    split
    · exact ⟨add0_z _ _, dbl_z dblE_one⟩
    · exact ⟨dbl_z (dblE_z one_lt_p rfl), add0_z _ _⟩
  | n + 1 => by
    have ih := lad0 k n
    have ok := lad_ok 0 zero_lt_p k (n + 1)
    rw [show ladP 0 k (n + 1 + 1) = stepP 0 (bitN k (n + 1)) (ladP 0 k (n + 1)).1 (ladP 0 k (n + 1)).2 from rfl]
    unfold stepP
    split
    · exact ⟨add0_z _ _, dbl_z (dblE_z ok.2.1 ih.2)⟩
    · exact ⟨dbl_z (dblE_z ok.1.1 ih.1), add0_z _ _⟩
theorem mult_zero (k : Nat → Nat) : multV k 0 = 0 := by
  unfold multV
  rw [(lad0 (clampN k) 254).1]
  unfold fM
  rw [Nat.mul_mod, powN_zero _ pN 0 (by omega) (Nat.zero_mod _), Nat.mul_zero, Nat.zero_mod]
theorem mult_lt (k : Nat → Nat) (u : Nat) : multV k u < pN := fM_lt _ _
theorem byteN_zero (i : Nat) : byteN 0 i = 0 := by unfold byteN; rw [Nat.zero_div, Nat.zero_mod]
theorem p_lt255 : pN < 57896044618658097711785492504343953926634992332820282019728792003956564819968 := by unfold pN; decide +kernel
theorem p_lt256 : pN < 2 ^ 256 := by unfold pN; decide +kernel
theorem keyU_byte (v : Nat) (h : v < pN) : keyU (byteN v) = v := by
  unfold keyU
  rw [cut_val _ (fun i _ => byteN_lt v i), kv_bytes]
  rw [show 8 * 32 = 256 from rfl, Nat.mod_eq_of_lt (Nat.lt_trans h p_lt256), Nat.mod_eq_of_lt (Nat.lt_trans h p_lt255), Nat.mod_eq_of_lt h]
theorem keyU_lt (u : Nat → Nat) : keyU u < pN := Nat.mod_lt _ zero_lt_p
theorem keyU_congr {u v : Nat → Nat} (h : ∀ i, i < 32 → cutB u i = cutB v i) : keyU u = keyU v := by
  unfold keyU
  rw [kvN_congr _ _ 32 h]
theorem clamp_clamp (k : Nat → Nat) (i : Nat) : clampN (clampN k) i = clampN k i := by
  unfold clampN
  by_cases h0 : i = 0
  · simp only [h0, if_true]
    omega
  · rw [if_neg h0, if_neg h0]
    by_cases h1 : i = 31
    · simp only [h1, if_true]
      rw [if_neg (by omega)]
      omega
    · rw [if_neg h1, if_neg h1]
theorem clamp_low (k : Nat → Nat) : ((clampN k 0 : Nat) : Int) % 8 = 0 := by
  have : clampN k 0 = k 0 / 8 * 8 := by unfold clampN; rw [if_pos rfl]
  omega
theorem clamp_top (k : Nat → Nat) (h : k 31 < 256) : ((clampN k 31 : Nat) : Int) / 64 = 1 := by
  have : clampN k 31 = k 31 % 64 + 64 := by unfold clampN; rw [if_neg (by omega), if_pos rfl]
  omega
theorem mult_clamp (k : Nat → Nat) (u : Nat) : multV (clampN k) u = multV k u := by
  unfold multV
  rw [show clampN (clampN k) = clampN k from funext (clamp_clamp k)]
/-- The highest bit turned. -/
def topN (u : Nat → Nat) (i : Nat) : Nat := if i = 31 then u 31 ^^^ 128 else u i
theorem xor_top (x : Nat) (h : x < 256) : (x ^^^ 128) % 128 = x % 128 ∧ x ^^^ 128 < 256 := by
  have : ∀ x : Nat, x < 256 → (x ^^^ 128) % 128 = x % 128 ∧ x ^^^ 128 < 256 := by decide +kernel
  exact this x h
theorem topN_lt {u : Nat → Nat} (h : ∀ i, i < 32 → u i < 256) (i : Nat) (hi : i < 32) : topN u i < 256 := by
  unfold topN
  split
  · exact (xor_top _ (h 31 (by omega))).2
  · exact h i hi
theorem keyU_top {u : Nat → Nat} (h : ∀ i, i < 32 → u i < 256) : keyU (topN u) = keyU u := keyU_congr fun i hi => by
  unfold cutB topN
  by_cases h1 : i = 31
  · rw [if_pos h1, if_pos h1, if_pos rfl]
    exact (xor_top _ (h 31 (by omega))).1
  · rw [if_neg h1, if_neg h1, if_neg h1]
/-- A number's bytes, of bytes. -/
theorem bytes_ofU (u : Nat → Nat) (hu : ∀ i, i < 32 → u i < 256) (i : Nat) : bytesN (ofN u) i = byteN (keyU u) i := by
  have h := stands_same (ofN_ok u) (v := keyU u) (by unfold keyU; exact of_fits u hu) i
  omega
theorem keyU_nine : keyU (fun i => if i = 0 then 9 else 0) = 9 := by unfold keyU pN; decide +kernel
end Go.Proofs.Ythgjhipfgdlbnaa
