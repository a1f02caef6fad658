/- Plain law of layer 5: what the law FeBytes asks; no walk. -/
import Derived.Test.YthgjhipfgdlbnaaFeQ
import Derived.Test.YthgjhipfgdlbnaaFeV
namespace Go.Proofs.Ythgjhipfgdlbnaa
set_option linter.unusedSimpArgs false
set_option linter.unusedVariables false
open Go.RowKit

theorem same_back (F : Nat → Nat) (hF : okF F 5) (b : Nat → Nat) (hb : ∀ k, k < 32 → b k = byteN (valN (leastN F) 5) k) : sameN (ofN b) F = true := by
  have h1 : okF (ofN b) 5 := fun i _ => by have : ofN b i < 2251799813685248 := Nat.mod_lt _ (by omega); omega
  have e : valN (leastN (ofN b)) 5 = valN (leastN F) 5 := by
    rw [least_val _ (fun i hi => okF_wide h1 i hi), val_congr (ofN b) (leastN F) 5 (fun i hi => of_bytes F hF b hb i hi), least_val F (fun i hi => okF_wide hF i hi), Nat.mod_mod]
  unfold sameN
  rw [decide_eq_true ⟨h1, hF⟩, Bool.true_and, e]
  exact sameTo_true fun _ _ => rfl
theorem bytesN_ok (F : Nat → Nat) (hF : okF F 5) (k : Nat) : bytesN F k = byteN (valN (leastN F) 5) k := by unfold bytesN; rw [if_pos hF]
theorem kv_bytesN (F : Nat → Nat) (hF : okF F 5) : kvN (bytesN F) 32 = valN F 5 % pN := by
  rw [kvN_congr _ (byteN (valN (leastN F) 5)) 32 (fun k _ => bytesN_ok F hF k), kv_bytes, least_val F (fun i hi => okF_wide hF i hi)]
  have : valN F 5 % pN < pN := Nat.mod_lt _ (by unfold pN; omega)
  refine Nat.mod_eq_of_lt ?_
  rw [show (2 : Nat) ^ (8 * 32) = 115792089237316195423570985008687907853269984665640564039457584007913129639936 from by decide]
  unfold pN at this ⊢
  omega
theorem bytesN_lt (F : Nat → Nat) (k : Nat) : bytesN F k < 256 := by unfold bytesN; split; exact Nat.mod_lt _ (by omega); omega
theorem b31 (F : Nat → Nat) (hF : okF F 5) : bytesN F 31 ≤ 127 := by
  have h := kv_bytesN F hF
  have h2 : valN F 5 % pN < pN := Nat.mod_lt _ (by unfold pN; omega)
  rw [← h, kvN_succ, show (2 : Nat) ^ (8 * 31) = 452312848583266388373324160190187140051835877600158453279131187530910662656 from by decide] at h2
  unfold pN at h2
  omega
theorem not_most (F : Nat → Nat) (hF : okF F 5) : mostN (bytesN F) 30 = false := by
  rw [(most_val (bytesN F) (fun i _ => bytesN_lt F i) (b31 F hF)).1, kv_bytesN F hF]
  exact decide_eq_false (by have : valN F 5 % pN < pN := Nat.mod_lt _ (by unfold pN; omega); omega)
/-- Bytes without their highest bit. -/
def cutB (k : Nat → Nat) (i : Nat) : Nat := if i = 31 then k 31 % 128 else k i
def lessB (k : Nat → Nat) (i : Nat) : Nat := if i = 0 then k 0 - 237 else 0
theorem cutB_lt (k : Nat → Nat) (hk : ∀ i, i < 32 → k i < 256) (i : Nat) (hi : i < 32) : cutB k i < 256 := by
  unfold cutB; split; omega; exact hk i hi
theorem ofN_ok (k : Nat → Nat) : okF (ofN k) 5 := fun i _ => by have : ofN k i < 2251799813685248 := Nat.mod_lt _ (by omega); omega
theorem bytes_of (k : Nat → Nat) (hk : ∀ i, i < 32 → k i < 256) (i : Nat) (hi : i < 32) : bytesN (ofN k) i = if mostN (cutB k) 30 = true then lessB k i else cutB k i := by
  have hv : valN (ofN k) 5 = kvN (cutB k) 32 := by
    rw [show valN (ofN k) 5 = valN (digN (kvN k 32)) 5 from rfl, val_dig, kvN_succ, kvN_succ (cutB k), kvN_congr (cutB k) k 31 (fun i hi => by unfold cutB; rw [if_neg (by omega)])]
    have h1 := kvN_lt k 32 hk 31 (by omega)
    have h2 := hk 31 (by omega)
    have h3 : cutB k 31 = k 31 % 128 := by unfold cutB; rw [if_pos rfl]
    rw [h3, show (2 : Nat) ^ (8 * 31) = 452312848583266388373324160190187140051835877600158453279131187530910662656 from by decide] at *
    omega
  have c31 : cutB k 31 ≤ 127 := by unfold cutB; rw [if_pos rfl]; omega
  obtain ⟨m1, m2⟩ := most_val (cutB k) (cutB_lt k hk) c31
  rw [bytesN_ok _ (ofN_ok k), least_val _ (fun i hi => okF_wide (ofN_ok k) i hi), hv]
  by_cases hm : mostN (cutB k) 30 = true
  · rw [if_pos hm, m2 hm]
    have hz := hk 0 (by omega)
    have c0 : cutB k 0 = k 0 := by unfold cutB; rw [if_neg (by omega)]
    rw [c0, Nat.add_mod_left, Nat.mod_eq_of_lt (by unfold pN; omega)]
    unfold byteN lessB
    by_cases h : i = 0
    · rw [if_pos h, h, Nat.mul_zero, Nat.pow_zero, Nat.div_one, Nat.mod_eq_of_lt (by omega)]
    · rw [if_neg h, Nat.div_eq_of_lt]
      exact Nat.lt_of_lt_of_le (show k 0 - 237 < 2 ^ 8 by omega) (Nat.pow_le_pow_right (by omega) (by omega))
  · rw [if_neg hm]
    have hlt : kvN (cutB k) 32 < pN := by
      rw [m1] at hm
      simpa using hm
    rw [Nat.mod_eq_of_lt hlt, byte_kv (cutB k) 32 (cutB_lt k hk) i hi 32 hi (Nat.le_refl _)]
end Go.Proofs.Ythgjhipfgdlbnaa
