/- The ladder's numbers (plain): sums, differences, products by the prime; twice a point, two points together; what the program's steps stand for. -/
import Derived.Test.YthgjhipfgdlbnaaStep
import Derived.Test.YthgjhipfgdlbnaaFeK
namespace Go.Proofs.Ythgjhipfgdlbnaa
set_option linter.unusedSimpArgs false
set_option linter.unusedVariables false
open Go.RowKit
attribute [local irreducible] accN byteN prodN carN diffN sqN sumN difN oneF valN bytesN invN ofN

def fA (a b : Nat) : Nat := (a + b) % pN
def fS (a b : Nat) : Nat := (a + (pN - b)) % pN
def fM (a b : Nat) : Nat := a * b % pN
/-- A point, as a quotient. -/
structure Pt where
  x : Nat
  z : Nat
def PtOk (q : Pt) : Prop := q.x < pN ∧ q.z < pN
def dblE (q : Pt) : Nat := fS (fM (fA q.x q.z) (fA q.x q.z)) (fM (fS q.x q.z) (fS q.x q.z))
/-- Twice a point. -/
def dblP (q : Pt) : Pt := ⟨fM (fM (fA q.x q.z) (fA q.x q.z)) (fM (fS q.x q.z) (fS q.x q.z)), fM (dblE q) (fA (fM (fA q.x q.z) (fA q.x q.z)) (fM 121665 (dblE q)))⟩
def addDA (q s : Pt) : Nat := fM (fS s.x s.z) (fA q.x q.z)
def addCB (q s : Pt) : Nat := fM (fA s.x s.z) (fS q.x q.z)
/-- Two points together, that are apart by one of quotient u. -/
def addP (u : Nat) (q s : Pt) : Pt := ⟨fM (fA (addDA q s) (addCB q s)) (fA (addDA q s) (addCB q s)), fM u (fM (fS (addDA q s) (addCB q s)) (fS (addDA q s) (addCB q s)))⟩
def stepP (u b : Nat) (q s : Pt) : Pt × Pt := if b = 1 then (addP u s q, dblP s) else (dblP q, addP u q s)
/-- A number's bits, from the highest one down. -/
def bitN (k : Nat → Nat) (n : Nat) : Nat := k ((254 - n) / 8) / 2 ^ ((254 - n) % 8) % 2
def ladP (u : Nat) (k : Nat → Nat) : Nat → Pt × Pt
  | 0 => (⟨1, 0⟩, ⟨u, 1⟩)
  | n + 1 => stepP u (bitN k n) (ladP u k n).1 (ladP u k n).2
def clampN (k : Nat → Nat) (i : Nat) : Nat := if i = 0 then k 0 / 8 * 8 else if i = 31 then k 31 % 64 + 64 else k i
/-- A point of quotient u, multiplied by a number. -/
def multV (k : Nat → Nat) (u : Nat) : Nat := fM (ladP u (clampN k) 255).1.x (powN (ladP u (clampN k) 255).1.z 57896044618658097711785492504343953926634992332820282019728792003956564819947)
def keyU (u : Nat → Nat) : Nat := kvN (cutB u) 32 % pN

theorem zero_lt_p : 0 < pN := by unfold pN; decide +kernel
theorem fA_lt (a b : Nat) : fA a b < pN := Nat.mod_lt _ zero_lt_p
theorem fS_lt (a b : Nat) : fS a b < pN := Nat.mod_lt _ zero_lt_p
theorem fM_lt (a b : Nat) : fM a b < pN := Nat.mod_lt _ zero_lt_p
theorem dbl_ok (q : Pt) : PtOk (dblP q) := ⟨fM_lt _ _, fM_lt _ _⟩
theorem add_ok (u : Nat) (q s : Pt) : PtOk (addP u q s) := ⟨fM_lt _ _, fM_lt _ _⟩
theorem one_lt_p : 1 < pN := by unfold pN; decide +kernel
theorem lad_ok (u : Nat) (hu : u < pN) (k : Nat → Nat) : ∀ n, PtOk (ladP u k n).1 ∧ PtOk (ladP u k n).2
  | 0 => ⟨⟨one_lt_p, zero_lt_p⟩, ⟨hu, one_lt_p⟩⟩
  | n + 1 => by
    unfold ladP stepP
    split
    · exact ⟨add_ok _ _ _, dbl_ok _⟩
    · exact ⟨dbl_ok _, add_ok _ _ _⟩
theorem bitN_lt (k : Nat → Nat) (n : Nat) : bitN k n = 0 ∨ bitN k n = 1 := by unfold bitN; omega

/-! ### What the program's steps stand for -/
theorem fits_mod {F : Nat → Nat} {a : Nat} (h : Fits F a) : Fits F (a % pN) := ⟨h.1, by rw [h.2, Nat.mod_mod]⟩
theorem fits_A {F G : Nat → Nat} {a b : Nat} (hF : Fits F a) (hG : Fits G b) : Fits (sumN F G) (fA a b) := fits_mod (sum_fits hF hG)
theorem fits_S {F G : Nat → Nat} {a b : Nat} (hF : Fits F a) (hG : Fits G b) (hb : b < pN) : Fits (difN F G) (fS a b) := by
  refine dif_fits hF hG ?_
  unfold fS
  rw [Nat.mod_add_mod, show a + (pN - b) + b = a + pN by omega, Nat.add_mod_right]
theorem fits_M {F G : Nat → Nat} {a b : Nat} (hF : Fits F a) (hG : Fits G b) : Fits (prodN F G) (fM a b) := fits_mod (prod_fits hF hG)
theorem fits_Q {F : Nat → Nat} {a : Nat} (hF : Fits F a) : Fits (sqN F 1) (fM a a) := by
  have h := fits_mod (sq_fits hF 1)
  rw [show a ^ 2 ^ 1 = a * a from by rw [Nat.pow_one]; exact Nat.pow_two a] at h
  exact h
section
variable {X Z X' Z' U : Nat → Nat} {q s : Pt} {u : Nat}
theorem fits_aa (hX : Fits X q.x) (hZ : Fits Z q.z) : Fits (sAA X Z) (fM (fA q.x q.z) (fA q.x q.z)) := fits_Q (fits_A hX hZ)
theorem fits_bb (hX : Fits X q.x) (hZ : Fits Z q.z) (hq : PtOk q) : Fits (sBB X Z) (fM (fS q.x q.z) (fS q.x q.z)) := fits_Q (fits_S hX hZ hq.2)
theorem fits_e (hX : Fits X q.x) (hZ : Fits Z q.z) (hq : PtOk q) : Fits (sE X Z) (dblE q) := fits_S (fits_aa hX hZ) (fits_bb hX hZ hq) (fM_lt _ _)
theorem fits_LX (hX : Fits X q.x) (hZ : Fits Z q.z) (hq : PtOk q) : Fits (sLX X Z) (dblP q).x := fits_M (fits_aa hX hZ) (fits_bb hX hZ hq)
theorem fits_LZ (hX : Fits X q.x) (hZ : Fits Z q.z) (hq : PtOk q) : Fits (sLZ X Z) (dblP q).z := fits_M (fits_e hX hZ hq) (fits_A (fits_aa hX hZ) (fits_M (one_fits (by omega)) (fits_e hX hZ hq)))
theorem fits_da (hX : Fits X q.x) (hZ : Fits Z q.z) (hX' : Fits X' s.x) (hZ' : Fits Z' s.z) (hs : PtOk s) : Fits (sDA X Z X' Z') (addDA q s) := fits_M (fits_S hX' hZ' hs.2) (fits_A hX hZ)
theorem fits_cb (hX : Fits X q.x) (hZ : Fits Z q.z) (hX' : Fits X' s.x) (hZ' : Fits Z' s.z) (hq : PtOk q) : Fits (sCB X Z X' Z') (addCB q s) := fits_M (fits_A hX' hZ') (fits_S hX hZ hq.2)
theorem fits_HX (hX : Fits X q.x) (hZ : Fits Z q.z) (hX' : Fits X' s.x) (hZ' : Fits Z' s.z) (hq : PtOk q) (hs : PtOk s) : Fits (sHX X Z X' Z') (addP u q s).x := fits_Q (fits_A (fits_da hX hZ hX' hZ' hs) (fits_cb hX hZ hX' hZ' hq))
theorem fits_HZ (hX : Fits X q.x) (hZ : Fits Z q.z) (hX' : Fits X' s.x) (hZ' : Fits Z' s.z) (hq : PtOk q) (hs : PtOk s) (hU : Fits U u) : Fits (sHZ X Z X' Z' U) (addP u q s).z := fits_M hU (fits_Q (fits_S (fits_da hX hZ hX' hZ' hs) (fits_cb hX hZ hX' hZ' hq) (fM_lt _ _)))
end
end Go.Proofs.Ythgjhipfgdlbnaa
