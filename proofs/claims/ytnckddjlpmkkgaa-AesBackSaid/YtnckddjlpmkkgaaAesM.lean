/- The reference's product of bytes, on numbers; no program is in sight. -/
import Derived.Test.YtnckddjlpmkkgaaAesG
namespace Go.Proofs.Ytnckddjlpmkkgaa
set_option linter.unusedSimpArgs false
set_option linter.unusedVariables false
open Go.RowKit
attribute [local irreducible] sboxI

def mulP (a b : Nat) : Nat → Nat
  | 0 => 0
  | m + 1 => if b / 2 ^ m % 2 = 1 then mulP a b m ^^^ (a * 2 ^ m) else mulP a b m
def redP (p : Nat) : Nat → Nat
  | 0 => p
  | n + 1 => if redP p n / 2 ^ (14 - n) % 2 = 1 then redP p n ^^^ (283 * 2 ^ (6 - n)) else redP p n
/-- A product of bytes. -/
def mulN (a b : Nat) : Nat := redP (mulP a b 8) 7 % 256

theorem bits_xor_nat (k : IntKind) (j : Nat) (hj : j ≤ k.bits) (hk : ∀ n : Int, 0 ≤ n → n < 2 ^ j → k.wrap n = n) (a b : Nat) (ha : a < 2 ^ j) (hb : b < 2 ^ j) :
    bits .xor k a b = ((a ^^^ b : Nat) : Int) := by
  have hp : 2 ^ j ≤ 2 ^ k.bits := Nat.pow_le_pow_right (by decide) hj
  have ha' : a % 2 ^ k.bits = a := Nat.mod_eq_of_lt (Nat.lt_of_lt_of_le ha hp)
  have hb' : b % 2 ^ k.bits = b := Nat.mod_eq_of_lt (Nat.lt_of_lt_of_le hb hp)
  have cast : ∀ n : Nat, n < 2 ^ j → ((n : Nat) : Int) < 2 ^ j := fun n h => by exact_mod_cast h
  simp only [bits, BitVec.ofInt_natCast, BitVec.toNat_xor, BitVec.toNat_ofNat, ha', hb']
  exact hk _ (Int.natCast_nonneg _) (cast _ (Nat.xor_lt_two_pow ha hb))
theorem wraps_i64 (n : Int) (h₀ : 0 ≤ n) (h₁ : n < 2 ^ 63) : IntKind.i64.wrap n = n := by rw [IntKind.wrap_i64]; omega
theorem xor_u8 (a b : Nat) (ha : a < 256) (hb : b < 256) : bits .xor .u8 a b = ((a ^^^ b : Nat) : Int) := bits_xor_nat .u8 8 (by decide) wraps_u8 a b ha hb
theorem xor_i64 (a b : Nat) (ha : a < 2 ^ 63) (hb : b < 2 ^ 63) : bits .xor .i64 a b = ((a ^^^ b : Nat) : Int) := bits_xor_nat .i64 63 (by decide) wraps_i64 a b ha hb

theorem shl_lt (a m : Nat) (ha : a < 256) (hm : m < 8) : a * 2 ^ m < 2 ^ 15 := by
  have h1 : 2 ^ m ≤ 2 ^ 7 := Nat.pow_le_pow_right (by omega) (by omega)
  have h2 : a * 2 ^ m ≤ 255 * 2 ^ 7 := Nat.mul_le_mul (by omega) h1
  omega
theorem mulP_lt (a b : Nat) (ha : a < 256) : ∀ m, m ≤ 8 → mulP a b m < 2 ^ 15
  | 0, _ => by unfold mulP; omega
  | m + 1, h => by
    unfold mulP
    split
    · exact Nat.xor_lt_two_pow (mulP_lt a b ha m (by omega)) (shl_lt a m ha (by omega))
    · exact mulP_lt a b ha m (by omega)
theorem red_lt (n : Nat) (hn : n < 7) : 283 * 2 ^ (6 - n) < 2 ^ 15 := by
  have h1 : 2 ^ (6 - n) ≤ 2 ^ 6 := Nat.pow_le_pow_right (by omega) (by omega)
  omega
theorem redP_lt (p : Nat) (hp : p < 2 ^ 15) : ∀ n, n ≤ 7 → redP p n < 2 ^ 15
  | 0, _ => hp
  | n + 1, h => by
    unfold redP
    split
    · exact Nat.xor_lt_two_pow (redP_lt p hp n (by omega)) (red_lt n (by omega))
    · exact redP_lt p hp n (by omega)
theorem tmod2 (x : Nat) : ((x : Int).tmod 2 == 1) = decide (x % 2 = 1) := by
  rw [Int.tmod_eq_emod_of_nonneg (by omega), Bool.eq_iff_iff, beq_iff_eq, decide_eq_true_eq]
  omega
theorem bit_test (x m : Nat) : (((x : Int) / 2 ^ m).tmod 2 == 1) = decide (x / 2 ^ m % 2 = 1) := by
  rw [show (x : Int) / 2 ^ m = ((x / 2 ^ m : Nat) : Int) from by push_cast; rfl]
  exact tmod2 _
theorem mul_step (a b m : Nat) (ha : a < 256) (hm : m < 8) : bits .xor .i64 (mulP a b m) (wrap64 ((a : Int) * 2 ^ m)) = ((mulP a b m ^^^ (a * 2 ^ m) : Nat) : Int) := by
  have h1 := shl_lt a m ha hm
  have h2 := mulP_lt a b ha m (by omega)
  have e : (a : Int) * 2 ^ m = ((a * 2 ^ m : Nat) : Int) := by push_cast; rfl
  rw [e, IntWalk.wrap64_in _ (by omega)]
  exact xor_i64 _ _ (by omega) (by omega)
theorem bit_test' (x m : Nat) : (((x : Int) / 2 ^ m) % 2 == 1) = decide (x / 2 ^ m % 2 = 1) := by
  rw [show (x : Int) / 2 ^ m = ((x / 2 ^ m : Nat) : Int) from by push_cast; rfl, Bool.eq_iff_iff, beq_iff_eq, decide_eq_true_eq]
  omega
theorem red_step (p j : Nat) (hp : p < 2 ^ 15) (hj : 8 ≤ j) (hj2 : j ≤ 14) : bits .xor .i64 p (wrap64 ((283 : Int) * 2 ^ (j - 8))) = ((p ^^^ (283 * 2 ^ (j - 8)) : Nat) : Int) := by
  have h1 := red_lt (14 - j) (by omega)
  rw [show 6 - (14 - j) = j - 8 from by omega] at h1
  generalize j - 8 = t at *
  have e : (283 : Int) * 2 ^ t = ((283 * 2 ^ t : Nat) : Int) := by rw [Int.natCast_mul, Int.natCast_pow]; rfl
  rw [e, IntWalk.wrap64_in _ (by omega)]
  exact xor_i64 _ _ (by omega) (by omega)
theorem ofInt_bx (a b : Int) : BitVec.ofInt 8 (bits .xor .u8 a b) = BitVec.ofInt 8 a ^^^ BitVec.ofInt 8 b := by
  show BitVec.ofInt 8 (IntKind.u8.wrap ((BitVec.ofInt 8 a ^^^ BitVec.ofInt 8 b).toNat : Int)) = _
  generalize BitVec.ofInt 8 a ^^^ BitVec.ofInt 8 b = v
  have h : IntKind.u8.wrap ((v.toNat : Nat) : Int) = (v.toNat : Int) := by
    have := v.isLt
    rw [IntKind.wrap_u8]; omega
  rw [h, BitVec.ofInt_natCast]
  simp
theorem bx_of (a b c d : Int) (h : BitVec.ofInt 8 a ^^^ BitVec.ofInt 8 b = BitVec.ofInt 8 c ^^^ BitVec.ofInt 8 d) : bits .xor .u8 a b = bits .xor .u8 c d := by
  show IntKind.u8.wrap ((BitVec.ofInt 8 a ^^^ BitVec.ofInt 8 b).toNat : Int) = IntKind.u8.wrap ((BitVec.ofInt 8 c ^^^ BitVec.ofInt 8 d).toNat : Int)
  rw [h]
theorem bx_comm (a b : Int) : bits .xor .u8 a b = bits .xor .u8 b a := bx_of _ _ _ _ (BitVec.xor_comm _ _)
theorem bx_assoc (a b c : Int) : bits .xor .u8 (bits .xor .u8 a b) c = bits .xor .u8 a (bits .xor .u8 b c) := bx_of _ _ _ _ (by rw [ofInt_bx, ofInt_bx, BitVec.xor_assoc])
/-- What the law AesKeys asks of a key's next one. -/
theorem law_late (k : Nat → Int) (j m : Nat) (h : 4 ≤ m) : (keyK k (j + 1) m != bits .xor .u8 (keyK k j m) (keyK k (j + 1) (m - 4))) = false := by
  rw [keyK_succ, nextKey_step _ _ m h, keyK_succ]
  simp
theorem law_0 (k : Nat → Int) (j : Nat) : (keyK k (j + 1) 0 != bits .xor .u8 (bits .xor .u8 (keyK k j 0) (sboxI (keyK k j 13).toNat)) (addK j)) = false := by
  rw [bx_assoc, bx_comm (sboxI _)]
  show (bits .xor .u8 (keyK k j 0) (bits .xor .u8 (addK j) (sboxI (keyK k j 13).toNat)) != _) = false
  simp
theorem law_1 (k : Nat → Int) (j : Nat) : (keyK k (j + 1) 1 != bits .xor .u8 (keyK k j 1) (sboxI (keyK k j 14).toNat)) = false := by
  show (bits .xor .u8 (keyK k j 1) (sboxI (keyK k j 14).toNat) != _) = false
  simp
theorem law_2 (k : Nat → Int) (j : Nat) : (keyK k (j + 1) 2 != bits .xor .u8 (keyK k j 2) (sboxI (keyK k j 15).toNat)) = false := by
  show (bits .xor .u8 (keyK k j 2) (sboxI (keyK k j 15).toNat) != _) = false
  simp
theorem law_3 (k : Nat → Int) (j : Nat) : (keyK k (j + 1) 3 != bits .xor .u8 (keyK k j 3) (sboxI (keyK k j 12).toNat)) = false := by
  show (bits .xor .u8 (keyK k j 3) (sboxI (keyK k j 12).toNat) != _) = false
  simp
theorem keys_at (k : Nat → Int) (j i : Nat) (hi : i < 16) : keyK k ((j * 16 + i) / 16) ((j * 16 + i) % 16) = keyK k j i := by
  rw [show (j * 16 + i) / 16 = j from by omega, show (j * 16 + i) % 16 = i from by omega]
theorem keys_first (k : Nat → Int) (i : Nat) (hi : i < 16) : keyK k (i / 16) (i % 16) = k i := by
  rw [show i / 16 = 0 from by omega, show i % 16 = i from by omega]
  rfl
theorem mulN_two : ∀ x, x < 256 → ((mulN x 2 : Nat) : Int) = twiceI x := by
  have h : (List.range 256).all (fun x => decide (((mulN x 2 : Nat) : Int) = twiceI x)) = true := by kernel_rfl
  exact fun x hx => of_decide_eq_true (List.all_eq_true.1 h x (List.mem_range.2 hx))

end Go.Proofs.Ytnckddjlpmkkgaa
