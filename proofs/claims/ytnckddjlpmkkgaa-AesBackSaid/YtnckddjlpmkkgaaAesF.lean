/- What layer 4 computes, on bytes as integers: the boxes and how they are found; no program is in sight. -/
import Derived.Test.YtnckddjlpmkkgaaArr
import Derived.KernelRfl
namespace Go.Proofs.Ytnckddjlpmkkgaa
set_option linter.unusedSimpArgs false
set_option linter.unusedVariables false
open Go.RowKit

/-- Exclusive or of two bytes. -/
def bx (a b : Int) : Int := bits .xor .u8 a b
def twiceI (x : Int) : Int := bits .xor .u8 (x * 2 % 256) (27 * (x / 128))
def turnI (x : Int) (n : Nat) : Int := bits .or .u8 (x * 2 ^ n % 256) (x / 2 ^ (8 - n))
def stepP (p : Int) : Int := bits .xor .u8 p (twiceI p)
def stepQ1 (q : Int) (n : Nat) : Int := bits .xor .u8 q (q * 2 ^ n % 256)
def stepQ2 (q : Int) : Int := bits .xor .u8 q (9 * (q / 128) % 256)
def stepQ (q : Int) : Int := stepQ2 (stepQ1 (stepQ1 (stepQ1 q 1) 2) 4)
def boxOf (q : Int) : Int := bits .xor .u8 (bits .xor .u8 (bits .xor .u8 (bits .xor .u8 (bits .xor .u8 99 q) (turnI q 1)) (turnI q 2)) (turnI q 3)) (turnI q 4)
/-- The boxes of all bytes. -/
def sboxL : List Int := [99, 124, 119, 123, 242, 107, 111, 197, 48, 1, 103, 43, 254, 215, 171, 118, 202, 130, 201, 125, 250, 89, 71, 240, 173, 212, 162, 175, 156, 164, 114, 192, 183, 253, 147, 38, 54, 63, 247, 204, 52, 165, 229, 241, 113, 216, 49, 21, 4, 199, 35, 195, 24, 150, 5, 154, 7, 18, 128, 226, 235, 39, 178, 117, 9, 131, 44, 26, 27, 110, 90, 160, 82, 59, 214, 179, 41, 227, 47, 132, 83, 209, 0, 237, 32, 252, 177, 91, 106, 203, 190, 57, 74, 76, 88, 207, 208, 239, 170, 251, 67, 77, 51, 133, 69, 249, 2, 127, 80, 60, 159, 168, 81, 163, 64, 143, 146, 157, 56, 245, 188, 182, 218, 33, 16, 255, 243, 210, 205, 12, 19, 236, 95, 151, 68, 23, 196, 167, 126, 61, 100, 93, 25, 115, 96, 129, 79, 220, 34, 42, 144, 136, 70, 238, 184, 20, 222, 94, 11, 219, 224, 50, 58, 10, 73, 6, 36, 92, 194, 211, 172, 98, 145, 149, 228, 121, 231, 200, 55, 109, 141, 213, 78, 169, 108, 86, 244, 234, 101, 122, 174, 8, 186, 120, 37, 46, 28, 166, 180, 198, 232, 221, 116, 31, 75, 189, 139, 138, 112, 62, 181, 102, 72, 3, 246, 14, 97, 53, 87, 185, 134, 193, 29, 158, 225, 248, 152, 17, 105, 217, 142, 148, 155, 30, 135, 233, 206, 85, 40, 223, 140, 161, 137, 13, 191, 230, 66, 104, 65, 153, 45, 15, 176, 84, 187, 22]
def sboxI (i : Nat) : Int := sboxL.getD i 0
/-- All bytes but 0, by threes; and their inverses. -/
def threesL : List Int := [1, 3, 5, 15, 17, 51, 85, 255, 26, 46, 114, 150, 161, 248, 19, 53, 95, 225, 56, 72, 216, 115, 149, 164, 247, 2, 6, 10, 30, 34, 102, 170, 229, 52, 92, 228, 55, 89, 235, 38, 106, 190, 217, 112, 144, 171, 230, 49, 83, 245, 4, 12, 20, 60, 68, 204, 79, 209, 104, 184, 211, 110, 178, 205, 76, 212, 103, 169, 224, 59, 77, 215, 98, 166, 241, 8, 24, 40, 120, 136, 131, 158, 185, 208, 107, 189, 220, 127, 129, 152, 179, 206, 73, 219, 118, 154, 181, 196, 87, 249, 16, 48, 80, 240, 11, 29, 39, 105, 187, 214, 97, 163, 254, 25, 43, 125, 135, 146, 173, 236, 47, 113, 147, 174, 233, 32, 96, 160, 251, 22, 58, 78, 210, 109, 183, 194, 93, 231, 50, 86, 250, 21, 63, 65, 195, 94, 226, 61, 71, 201, 64, 192, 91, 237, 44, 116, 156, 191, 218, 117, 159, 186, 213, 100, 172, 239, 42, 126, 130, 157, 188, 223, 122, 142, 137, 128, 155, 182, 193, 88, 232, 35, 101, 175, 234, 37, 111, 177, 200, 67, 197, 84, 252, 31, 33, 99, 165, 244, 7, 9, 27, 45, 119, 153, 176, 203, 70, 202, 69, 207, 74, 222, 121, 139, 134, 145, 168, 227, 62, 66, 198, 81, 243, 14, 18, 54, 90, 238, 41, 123, 141, 140, 143, 138, 133, 148, 167, 242, 13, 23, 57, 75, 221, 124, 132, 151, 162, 253, 28, 36, 108, 180, 199, 82, 246, 1]
def invL : List Int := [1, 246, 82, 199, 180, 108, 36, 28, 253, 162, 151, 132, 124, 221, 75, 57, 23, 13, 242, 167, 148, 133, 138, 143, 140, 141, 123, 41, 238, 90, 54, 18, 14, 243, 81, 198, 66, 62, 227, 168, 145, 134, 139, 121, 222, 74, 207, 69, 202, 70, 203, 176, 153, 119, 45, 27, 9, 7, 244, 165, 99, 33, 31, 252, 84, 197, 67, 200, 177, 111, 37, 234, 175, 101, 35, 232, 88, 193, 182, 155, 128, 137, 142, 122, 223, 188, 157, 130, 126, 42, 239, 172, 100, 213, 186, 159, 117, 218, 191, 156, 116, 44, 237, 91, 192, 64, 201, 71, 61, 226, 94, 195, 65, 63, 21, 250, 86, 50, 231, 93, 194, 183, 109, 210, 78, 58, 22, 251, 160, 96, 32, 233, 174, 147, 113, 47, 236, 173, 146, 135, 125, 43, 25, 254, 163, 97, 214, 187, 105, 39, 29, 11, 240, 80, 48, 16, 249, 87, 196, 181, 154, 118, 219, 73, 206, 179, 152, 129, 127, 220, 189, 107, 208, 185, 158, 131, 136, 120, 40, 24, 8, 241, 166, 98, 215, 77, 59, 224, 169, 103, 212, 76, 205, 178, 110, 211, 184, 104, 209, 79, 204, 68, 60, 20, 12, 4, 245, 83, 49, 230, 171, 144, 112, 217, 190, 106, 38, 235, 89, 55, 228, 92, 52, 229, 170, 102, 34, 30, 10, 6, 2, 247, 164, 149, 115, 216, 72, 56, 225, 95, 53, 19, 248, 161, 150, 114, 46, 26, 255, 85, 51, 17, 15, 5, 3, 1]
/-- The boxes that are found after r rounds. -/
def boxK (r : Nat) (i : Nat) : Int := if ((threesL.drop 1).take r).contains (i : Int) then sboxI i else 0

def threesOk (r : Nat) : Bool := decide (stepP (threesL.getD r 0) = threesL.getD (r + 1) 0) && decide (stepQ (invL.getD r 0) = invL.getD (r + 1) 0) && decide (boxOf (invL.getD (r + 1) 0) = sboxI (threesL.getD (r + 1) 0).toNat) &&
    decide (0 < threesL.getD (r + 1) 0) && decide (threesL.getD (r + 1) 0 < 256) && decide (0 ≤ invL.getD (r + 1) 0) && decide (invL.getD (r + 1) 0 < 256) && ((threesL.getD (r + 1) 0 != 1) == decide (r + 1 < 255))
theorem threesOk_all : (List.range 255).all threesOk = true := by kernel_rfl
theorem threes_step (r : Nat) (hr : r < 255) : stepP (threesL.getD r 0) = threesL.getD (r + 1) 0 ∧ stepQ (invL.getD r 0) = invL.getD (r + 1) 0 ∧ boxOf (invL.getD (r + 1) 0) = sboxI (threesL.getD (r + 1) 0).toNat ∧
    0 < threesL.getD (r + 1) 0 ∧ threesL.getD (r + 1) 0 < 256 ∧ 0 ≤ invL.getD (r + 1) 0 ∧ invL.getD (r + 1) 0 < 256 ∧ (threesL.getD (r + 1) 0 != 1) = decide (r + 1 < 255) := by
  have h := List.all_eq_true.1 threesOk_all r (List.mem_range.2 hr)
  unfold threesOk at h
  simp only [Bool.and_eq_true, decide_eq_true_eq, beq_iff_eq] at h
  obtain ⟨⟨⟨⟨⟨⟨⟨h1, h2⟩, h3⟩, h4⟩, h5⟩, h6⟩, h7⟩, h8⟩ := h
  exact ⟨h1, h2, h3, h4, h5, h6, h7, h8⟩
theorem upd_snoc (l : List Int) (v : Int) (hv : 0 ≤ v) (f g : Nat → Int) (i : Nat) : upd (fun i => if l.contains (i : Int) then f i else g i) v.toNat (f v.toNat) i = if (l ++ [v]).contains (i : Int) then f i else g i := by
  unfold upd
  by_cases h : i = v.toNat
  · subst h
    have e : (v.toNat : Int) = v := Int.toNat_of_nonneg hv
    rw [e]
    simp
  · rw [if_neg h]
    have e : ¬ (i : Int) = v := by omega
    simp only [List.contains_eq_mem, List.mem_append, List.mem_singleton, e, or_false]
theorem take_drop_snoc (l : List Int) (hl : l.length = 256) (r : Nat) (hr : r < 255) : (l.drop 1).take (r + 1) = (l.drop 1).take r ++ [l.getD (r + 1) 0] := by
  rw [List.take_succ_eq_append_getElem (by rw [List.length_drop]; omega)]
  congr 2
  rw [List.getElem_drop, List.getD_eq_getElem?_getD, List.getElem?_eq_getElem (by omega)]
  simp [Nat.add_comm]
theorem boxK_step (r : Nat) (hr : r < 255) (i : Nat) : upd (boxK r) (threesL.getD (r + 1) 0).toNat (sboxI (threesL.getD (r + 1) 0).toNat) i = boxK (r + 1) i := by
  have hp := (threes_step r hr).2.2.2.1
  have ht : (threesL.drop 1).take (r + 1) = (threesL.drop 1).take r ++ [threesL.getD (r + 1) 0] := take_drop_snoc threesL (by kernel_rfl) r hr
  unfold boxK
  rw [ht]
  exact upd_snoc _ _ (Int.le_of_lt hp) sboxI (fun _ => 0) i
theorem boxK_ok : (List.range 256).all (fun i => decide (upd (boxK 255) 0 99 i = sboxI i)) = true := by kernel_rfl
theorem boxK_all (i : Nat) (hi : i < 256) : upd (boxK 255) 0 99 i = sboxI i := of_decide_eq_true (List.all_eq_true.1 boxK_ok i (List.mem_range.2 hi))
theorem arr256_zero (k : IntKind) : arr k 256 (fun _ => 0) = (List.replicate 256 (Value.int k 0)).toArray := by
  unfold arr arrV; rw [List.map_const', List.length_range]
theorem boxK_zero (i : Nat) : boxK 0 i = 0 := by simp [boxK]

theorem bits_u8 (op : BinOp) (x y : Int) : 0 ≤ bits op .u8 x y ∧ bits op .u8 x y < 256 := by
  unfold bits
  cases op <;> simp only [IntKind.wrap_u8] <;> omega
theorem sbox_ok : (List.range 256).all (fun i => decide (0 ≤ sboxI i ∧ sboxI i < 256)) = true := by kernel_rfl
theorem sbox_byte (i : Nat) (hi : i < 256) : 0 ≤ sboxI i ∧ sboxI i < 256 := of_decide_eq_true (List.all_eq_true.1 sbox_ok i (List.mem_range.2 hi))
end Go.Proofs.Ytnckddjlpmkkgaa
