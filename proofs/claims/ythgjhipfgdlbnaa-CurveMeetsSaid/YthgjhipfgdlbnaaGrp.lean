/- Plain: the ladder of layer 6 is a multiple of a point of the curve, or of its twist; two numbers, one behind the other, hang on no order. -/
import Derived.Test.YthgjhipfgdlbnaaEdw
namespace Go.Proofs.Ythgjhipfgdlbnaa
set_option linter.unusedSimpArgs false
set_option linter.unusedVariables false
attribute [local irreducible] powN

/-! ### So often a point -/
def mulE (d : K) (P : Ed) : Nat → Ed
  | 0 => nulE
  | n + 1 => addE d (mulE d P n) P
theorem mul_on {d : K} (hd : Free d) {P : Ed} (h : On d P) : ∀ n, On d (mulE d P n)
  | 0 => on_nul d
  | n + 1 => on_add hd (mul_on hd h n) h
theorem nul_add {d : K} (P : Ed) : addE d nulE P = P := by rw [ed_comm, ed_nul]
theorem mul_add' {d : K} (hd : Free d) (d0 : d ≠ 0) {P : Ed} (h : On d P) (m : Nat) : ∀ n, mulE d P (m + n) = addE d (mulE d P m) (mulE d P n)
  | 0 => (ed_nul _).symm
  | n + 1 => by
    rw [← Nat.add_assoc, show mulE d P (m + n + 1) = addE d (mulE d P (m + n)) P from rfl, mul_add' hd d0 h m n, show mulE d P (n + 1) = addE d (mulE d P n) P from rfl]
    exact ed_assoc hd (mul_on hd h m) (mul_on hd h n) h d0
theorem mul_mul' {d : K} (hd : Free d) (d0 : d ≠ 0) {P : Ed} (h : On d P) (m : Nat) : ∀ n, mulE d (mulE d P m) n = mulE d P (m * n)
  | 0 => rfl
  | n + 1 => by
    rw [show mulE d (mulE d P m) (n + 1) = addE d (mulE d (mulE d P m) n) (mulE d P m) from rfl, mul_mul' hd d0 h m n, Nat.mul_succ, mul_add' hd d0 h]
theorem mul_next {d : K} (hd : Free d) (d0 : d ≠ 0) {P : Ed} (h : On d P) (n : Nat) : addE d (mulE d P (n + 1)) (negE (mulE d P n)) = P := by
  rw [show mulE d P (n + 1) = addE d (mulE d P n) P from rfl, ed_comm (mulE d P n) P, ed_assoc hd h (mul_on hd h n) (on_neg (mul_on hd h n)) d0, ed_neg hd (mul_on hd h n), ed_nul]
theorem mul_nul {d : K} : ∀ n, mulE d nulE n = nulE
  | 0 => rfl
  | n + 1 => by rw [show mulE d nulE (n + 1) = addE d (mulE d nulE n) nulE from rfl, mul_nul n, ed_nul]
def halfE : Ed := ⟨0, -1⟩
theorem half_half {d : K} : addE d halfE halfE = nulE := by
  have h1 : iv (1 : K) = 1 := iv_of (by grind)
  unfold addE tE halfE nulE
  dsimp only
  have z : d * (0 * 0) * (-1 * -1) = (0 : K) := by grind
  have z1 : (1 : K) + 0 = 1 := Fin.add_zero 1
  rw [z, z1, one_sub_zero, h1]
  congr 1 <;> decide +kernel
theorem mul_half {d : K} : ∀ n, mulE d halfE n = nulE ∨ mulE d halfE n = halfE
  | 0 => .inl rfl
  | n + 1 => by
    rw [show mulE d halfE (n + 1) = addE d (mulE d halfE n) halfE from rfl]
    rcases mul_half (d := d) n with h | h
    · rw [h, nul_add]; exact .inr rfl
    · rw [h, half_half]; exact .inl rfl

/-! ### A ladder's points -/
def cB : K := toK 121665
theorem cA_cB : cA = 4 * cB + 2 := by decide +kernel
/-- The two curves: the one, and its twist. -/
structure Cv (d e : K) : Prop where
  free : Free d
  nz : d ≠ 0
  way : e = 1 ∧ d * (cB + 1) = cB ∨ e = -1 ∧ d * cB = cB + 1
/-- A quotient stands for a point. -/
def Rep (e X Z : K) (P : Ed) : Prop := X * (1 - P.y) = e * Z * (1 + P.y) ∧ ¬(X = 0 ∧ Z = 0)
theorem h_two : (2 : K) * iv 2 = 1 := iv_mul two_ne
theorem rep_lam {e X Z : K} {P : Ed} (he : e * e = 1) (h : Rep e X Z P) : ∃ l : K, l ≠ 0 ∧ X = e * l * (1 + P.y) ∧ Z = l * (1 - P.y) := by
  obtain ⟨h1, h2⟩ := h
  have h3 := h_two
  generalize iv (2 : K) = t at h3
  have a1 : X = e * ((e * X + Z) * t) * (1 + P.y) := by
    generalize P.y = y at *
    grind
  have a2 : Z = (e * X + Z) * t * (1 - P.y) := by
    generalize P.y = y at *
    grind
  refine ⟨_, fun e0 => h2 ?_, a1, a2⟩
  rw [e0] at a1 a2
  exact ⟨by rw [a1]; grind, by rw [a2]; grind⟩
theorem ee {d e : K} (h : Cv d e) : e * e = 1 := by rcases h.way with ⟨h1, _⟩ | ⟨h1, _⟩ <;> rw [h1] <;> decide +kernel
/-- Twice a point. -/
theorem dbl_key1 {d y x c : K} (hd : d * (c + 1) = c) (h : x * x + y * y = 1 + d * (x * x) * (y * y)) : (1 - x * x) * (1 + c * (1 - y * y)) = y * y := by grind
theorem dbl_key2 {d y x c : K} (hd : d * c = c + 1) (h : x * x + y * y = 1 + d * (x * x) * (y * y)) : (1 - x * x) * (c - (c + 1) * (y * y)) = -(y * y) := by grind
theorem dbl_y {d : K} {P : Ed} (hd : Free d) (h : On d P) : ∃ q : K, q ≠ 0 ∧ q * (1 - (addE d P P).y) = 2 - 2 * (P.y * P.y) ∧ q * (1 + (addE d P P).y) = 2 - 2 * (P.x * P.x) := by
  have p2 := iv_mul (minus_ne hd h h)
  have p2' := minus_ne hd h h
  refine ⟨_, p2', ?_, ?_⟩
  · unfold addE
    unfold tE On at *
    dsimp only at *
    generalize iv _ = E at *
    generalize P.x = x at *
    generalize P.y = y at *
    rw [show (1 - d * (x * x) * (y * y)) * (1 - (y * y - x * x) * E) = (1 - d * (x * x) * (y * y)) - (y * y - x * x) * ((1 - d * (x * x) * (y * y)) * E) by clear h p2 p2'; grind, p2]
    clear p2 p2'
    grind
  · unfold addE
    unfold tE On at *
    dsimp only at *
    generalize iv _ = E at *
    generalize P.x = x at *
    generalize P.y = y at *
    rw [show (1 - d * (x * x) * (y * y)) * (1 + (y * y - x * x) * E) = (1 - d * (x * x) * (y * y)) + (y * y - x * x) * ((1 - d * (x * x) * (y * y)) * E) by clear h p2 p2'; grind, p2]
    clear p2 p2'
    grind
theorem cancelL {a b c : K} (h : c ≠ 0) (e : c * a = c * b) : a = b := cancelK h (by rw [show a * c = c * a by grind, e]; grind)
theorem sixteen_ne : (16 : K) ≠ 0 := fun h => absurd (congrArg Fin.val h) (by decide +kernel)
theorem cB_ne : cB ≠ 0 := fun h => absurd (congrArg Fin.val h) (by decide +kernel)
theorem cB1_ne : cB + 1 ≠ 0 := fun h => absurd (congrArg Fin.val h) (by decide +kernel)
theorem dbl_rep {d e X Z : K} {P : Ed} (hc : Cv d e) (hP : On d P) (h : Rep e X Z P) :
    Rep e (((X + Z) * (X + Z)) * ((X - Z) * (X - Z))) (((X + Z) * (X + Z) - (X - Z) * (X - Z)) * ((X + Z) * (X + Z) + cB * ((X + Z) * (X + Z) - (X - Z) * (X - Z)))) (addE d P P) := by
  obtain ⟨l, hl, e1, e2⟩ := rep_lam (ee hc) h
  obtain ⟨q, hq, k1, k2⟩ := dbl_y hc.free hP
  clear h
  unfold Rep
  have c0 := cB_ne
  have c1 := cB1_ne
  have w := hc.way
  generalize cB = c at *
  generalize (addE d P P).y = Y at *
  unfold On at hP
  generalize P.x = x at *
  generalize P.y = y at *
  have l4 : 16 * (l * l * l * l) ≠ 0 := K_ne sixteen_ne (K_ne (K_ne (K_ne hl hl) hl) hl)
  subst e1 e2
  rcases w with ⟨he, hd⟩ | ⟨he, hd⟩
  · subst he
    have k3 := dbl_key1 hd hP
    have g1 : (1 * l * (1 + y) + l * (1 - y)) * (1 * l * (1 + y) + l * (1 - y)) = 4 * (l * l) := by clear k1 k2 k3 hP hd; grind
    have g2 : (1 * l * (1 + y) - l * (1 - y)) * (1 * l * (1 + y) - l * (1 - y)) = 4 * (l * l) * (y * y) := by clear k1 k2 k3 hP hd; grind
    rw [g1, g2]
    clear g1 g2
    have g3 : 4 * (l * l) * (4 * (l * l) * (y * y)) = 16 * (l * l * l * l) * (y * y) := by clear k1 k2 k3 hP hd; grind
    have g4 : (4 * (l * l) - 4 * (l * l) * (y * y)) * (4 * (l * l) + c * (4 * (l * l) - 4 * (l * l) * (y * y))) = 16 * (l * l * l * l) * ((1 - y * y) * (1 + c * (1 - y * y))) := by clear k1 k2 k3 hP hd; grind
    rw [g3, g4]
    clear g3 g4
    generalize 16 * (l * l * l * l) = m at *
    refine ⟨cancelL hq ?_, fun ⟨z1, z2⟩ => ?_⟩
    · rw [show q * (m * (y * y) * (1 - Y)) = m * (y * y) * (q * (1 - Y)) by clear k1 k2 k3 hP hd; grind, show q * (1 * (m * ((1 - y * y) * (1 + c * (1 - y * y)))) * (1 + Y)) = m * ((1 - y * y) * (1 + c * (1 - y * y))) * (q * (1 + Y)) by clear k1 k2 k3 hP hd; grind, k1, k2, show m * ((1 - y * y) * (1 + c * (1 - y * y))) * (2 - 2 * (x * x)) = m * (2 - 2 * (y * y)) * ((1 - x * x) * (1 + c * (1 - y * y))) by clear k1 k2 k3 hP hd; grind, k3]
      clear k1 k2 k3 hP hd
      grind
    · have z3 := (K_dom z1).resolve_left l4
      have z4 := (K_dom z2).resolve_left l4
      rw [z3] at z4
      exact c1 (by clear k1 k2 k3 hP hd; grind)
  · subst he
    have k3 := dbl_key2 hd hP
    have g1 : (-1 * l * (1 + y) + l * (1 - y)) * (-1 * l * (1 + y) + l * (1 - y)) = 4 * (l * l) * (y * y) := by clear k1 k2 k3 hP hd; grind
    have g2 : (-1 * l * (1 + y) - l * (1 - y)) * (-1 * l * (1 + y) - l * (1 - y)) = 4 * (l * l) := by clear k1 k2 k3 hP hd; grind
    rw [g1, g2]
    clear g1 g2
    have g3 : 4 * (l * l) * (y * y) * (4 * (l * l)) = 16 * (l * l * l * l) * (y * y) := by clear k1 k2 k3 hP hd; grind
    have g4 : (4 * (l * l) * (y * y) - 4 * (l * l)) * (4 * (l * l) * (y * y) + c * (4 * (l * l) * (y * y) - 4 * (l * l))) = 16 * (l * l * l * l) * ((1 - y * y) * (c - (c + 1) * (y * y))) := by clear k1 k2 k3 hP hd; grind
    rw [g3, g4]
    clear g3 g4
    generalize 16 * (l * l * l * l) = m at *
    refine ⟨cancelL hq ?_, fun ⟨z1, z2⟩ => ?_⟩
    · rw [show q * (m * (y * y) * (1 - Y)) = m * (y * y) * (q * (1 - Y)) by clear k1 k2 k3 hP hd; grind, show q * (-1 * (m * ((1 - y * y) * (c - (c + 1) * (y * y)))) * (1 + Y)) = -(m * ((1 - y * y) * (c - (c + 1) * (y * y))) * (q * (1 + Y))) by clear k1 k2 k3 hP hd; grind, k1, k2, show m * ((1 - y * y) * (c - (c + 1) * (y * y))) * (2 - 2 * (x * x)) = m * (2 - 2 * (y * y)) * ((1 - x * x) * (c - (c + 1) * (y * y))) by clear k1 k2 k3 hP hd; grind, k3]
      clear k1 k2 k3 hP hd
      grind
    · have z3 := (K_dom z1).resolve_left l4
      have z4 := (K_dom z2).resolve_left l4
      rw [z3] at z4
      exact c0 (by clear k1 k2 k3 hP hd; grind)

/-- Two points together: what is told of their sum by what lies between them. -/
theorem add_y {d : K} {P Q : Ed} (hd : Free d) (hP : On d P) (hQ : On d Q) : (P.y + Q.y) * (P.y + Q.y) * ((1 - (addE d P Q).y) * (1 - (addE d P (negE Q)).y)) = (P.y - Q.y) * (P.y - Q.y) * ((1 + (addE d P Q).y) * (1 + (addE d P (negE Q)).y)) := by
  have p1 := iv_mul (plus_ne hd hP hQ)
  have p2 := iv_mul (minus_ne hd hP hQ)
  have p3 := iv_mul (minus_ne hd hP (on_neg hQ))
  have p1' := plus_ne hd hP hQ
  have p2' := minus_ne hd hP hQ
  unfold addE
  unfold tE negE On at *
  dsimp only at *
  have t1 : 1 - d * (P.x * -Q.x) * (P.y * Q.y) = 1 + d * (P.x * Q.x) * (P.y * Q.y) := by clear p1 p2 p3 hP hQ p1' p2'; grind
  rw [t1] at p3 ⊢
  clear p3 t1
  generalize iv (1 + d * (P.x * Q.x) * (P.y * Q.y)) = B at *
  generalize iv (1 - d * (P.x * Q.x) * (P.y * Q.y)) = E at *
  generalize P.x = x1 at *
  generalize P.y = y1 at *
  generalize Q.x = x2 at *
  generalize Q.y = y2 at *
  have key : (y1 + y2) * (y1 + y2) * ((1 - d * (x1 * x2) * (y1 * y2) - (y1 * y2 - x1 * x2)) * (1 + d * (x1 * x2) * (y1 * y2) - (y1 * y2 + x1 * x2))) = (y1 - y2) * (y1 - y2) * ((1 - d * (x1 * x2) * (y1 * y2) + (y1 * y2 - x1 * x2)) * (1 + d * (x1 * x2) * (y1 * y2) + (y1 * y2 + x1 * x2))) := by clear p1 p2 p1' p2'; grind
  generalize 1 + d * (x1 * x2) * (y1 * y2) = b at *
  generalize 1 - d * (x1 * x2) * (y1 * y2) = q at *
  clear hP hQ
  rw [show y1 * y2 - x1 * -x2 = y1 * y2 + x1 * x2 by clear p1 p2 key p1' p2'; grind]
  generalize y1 * y2 - x1 * x2 = s at *
  generalize y1 * y2 + x1 * x2 = r at *
  have m1 : q * (1 - s * E) = q - s := by clear p1 key p1' p2'; grind
  have m2 : q * (1 + s * E) = q + s := by clear p1 key p1' p2'; grind
  have m3 : b * (1 - r * B) = b - r := by clear p2 key p1' p2'; grind
  have m4 : b * (1 + r * B) = b + r := by clear p2 key p1' p2'; grind
  clear p1 p2
  generalize 1 - s * E = u1 at *
  generalize 1 + s * E = u2 at *
  generalize 1 - r * B = u3 at *
  generalize 1 + r * B = u4 at *
  refine cancelL (K_ne p2' p1') ?_
  rw [show q * b * ((y1 + y2) * (y1 + y2) * (u1 * u3)) = (y1 + y2) * (y1 + y2) * ((q * u1) * (b * u3)) by clear key m1 m2 m3 m4 p1' p2'; grind, show q * b * ((y1 - y2) * (y1 - y2) * (u2 * u4)) = (y1 - y2) * (y1 - y2) * ((q * u2) * (b * u4)) by clear key m1 m2 m3 m4 p1' p2'; grind, m1, m2, m3, m4]
  exact key
theorem y_of_nul {d x1 y1 : K} (h : x1 * x1 + y1 * y1 = 1 + d * (x1 * x1) * (y1 * y1)) (hy : y1 = 0) : x1 * x1 = 1 := by
  have h1 : x1 * x1 = (x1 * x1 + y1 * y1) - y1 * y1 := by clear h hy; grind
  rw [h1, h, hy]
  clear h h1
  have h2 : ∀ t : K, 1 + t * (0 * 0) - 0 * 0 = 1 := fun t => by
    have z : t * (0 * 0) = 0 := by grind
    rw [z]
    decide +kernel
  exact h2 _
theorem diff_nul {d : K} {P Q : Ed} (hP : On d P) (hQ : On d Q) (h1 : P.y = 0) (h2 : Q.y = 0) : (addE d P (negE Q)).y * (addE d P (negE Q)).y = 1 := by
  have e1 := y_of_nul hP h1
  have e2 := y_of_nul hQ h2
  have i1 : iv (1 : K) = 1 := iv_of (by grind)
  unfold addE tE negE
  dsimp only
  rw [h1, h2, show d * (P.x * -Q.x) * (0 * 0) = 0 by clear e1 e2 hP hQ h1 h2; grind, one_sub_zero, i1]
  generalize P.x = x1 at *
  generalize Q.x = x2 at *
  rw [show (0 * 0 - x1 * -x2) * 1 * ((0 * 0 - x1 * -x2) * 1) = (x1 * x1) * (x2 * x2) by clear e1 e2 hP hQ h1 h2; grind, e1, e2]
  decide +kernel
theorem add_rep {d e X1 Z1 X2 Z2 u : K} {P Q : Ed} (hc : Cv d e) (hP : On d P) (hQ : On d Q) (h1 : Rep e X1 Z1 P) (h2 : Rep e X2 Z2 Q)
    (hu : u * (1 - (addE d P (negE Q)).y) = e * (1 + (addE d P (negE Q)).y)) (hu0 : u ≠ 0) :
    Rep e (((X2 - Z2) * (X1 + Z1) + (X2 + Z2) * (X1 - Z1)) * ((X2 - Z2) * (X1 + Z1) + (X2 + Z2) * (X1 - Z1))) (u * (((X2 - Z2) * (X1 + Z1) - (X2 + Z2) * (X1 - Z1)) * ((X2 - Z2) * (X1 + Z1) - (X2 + Z2) * (X1 - Z1)))) (addE d P Q) := by
  obtain ⟨l, hl, a1, a2⟩ := rep_lam (ee hc) h1
  obtain ⟨m, hm, b1, b2⟩ := rep_lam (ee hc) h2
  have k := add_y hc.free hP hQ
  have dn := diff_nul hP hQ
  have he := ee hc
  clear h1 h2
  unfold Rep
  have w : e = 1 ∨ e = -1 := sq_cases he
  generalize (addE d P Q).y = S at *
  generalize (addE d P (negE Q)).y = D at *
  clear hP hQ hc
  generalize P.y = y1 at *
  generalize Q.y = y2 at *
  have n0 : 16 * (l * l) * (m * m) ≠ 0 := K_ne (K_ne sixteen_ne (K_ne hl hl)) (K_ne hm hm)
  have v0 : 1 - D ≠ 0 := fun z => two_ne (by
    have z2 : e * (1 + D) = 0 := by rw [← hu, z]; clear dn k hu; grind
    have z3 : 1 + D = e * (e * (1 + D)) := by rw [show e * (e * (1 + D)) = e * e * (1 + D) by clear dn k hu z z2 he; grind, he]; clear dn k hu z z2 he; grind
    rw [z2] at z3
    clear dn k hu z2 he
    grind)
  have g : ((X2 - Z2) * (X1 + Z1) + (X2 + Z2) * (X1 - Z1)) * ((X2 - Z2) * (X1 + Z1) + (X2 + Z2) * (X1 - Z1)) = 16 * (l * l) * (m * m) * ((y1 + y2) * (y1 + y2)) ∧ ((X2 - Z2) * (X1 + Z1) - (X2 + Z2) * (X1 - Z1)) * ((X2 - Z2) * (X1 + Z1) - (X2 + Z2) * (X1 - Z1)) = 16 * (l * l) * (m * m) * ((y1 - y2) * (y1 - y2)) := by
    clear dn k hu v0 n0 hu0 he
    subst a1 a2 b1 b2
    rcases w with w | w <;> subst w <;> constructor <;> grind
  rw [g.1, g.2]
  clear g a1 a2 b1 b2
  generalize 16 * (l * l) * (m * m) = n at *
  refine ⟨cancelL v0 ?_, fun ⟨z1, z2⟩ => ?_⟩
  · rw [show (1 - D) * (n * ((y1 + y2) * (y1 + y2)) * (1 - S)) = n * ((y1 + y2) * (y1 + y2) * ((1 - S) * (1 - D))) by clear dn k hu v0 n0 hu0 he; grind, k, show (1 - D) * (e * (u * (n * ((y1 - y2) * (y1 - y2)))) * (1 + S)) = e * (u * (1 - D)) * (n * ((y1 - y2) * (y1 - y2)) * (1 + S)) by clear dn k hu v0 n0 hu0 he; grind, hu, show e * (e * (1 + D)) * (n * ((y1 - y2) * (y1 - y2)) * (1 + S)) = e * e * ((1 + D) * (n * ((y1 - y2) * (y1 - y2)) * (1 + S))) by clear dn k hu v0 n0 hu0 he; grind, he]
    clear dn k hu v0 n0 hu0 he
    grind
  · have s1 : y1 + y2 = 0 := by
      have := (K_dom z1).resolve_left n0
      rcases K_dom this with h | h <;> exact h
    have s2 : y1 - y2 = 0 := by
      have := (K_dom ((K_dom z2).resolve_left hu0)).resolve_left n0
      rcases K_dom this with h | h <;> exact h
    have s3 : y1 = 0 := by
      have : 2 * y1 = 0 := by clear dn k hu z1 z2 he w; grind
      exact (K_dom this).resolve_left two_ne
    have s4 : y2 = 0 := by
      have : 2 * y2 = 0 := by clear dn k hu z1 z2 he w; grind
      exact (K_dom this).resolve_left two_ne
    rcases sq_cases (dn s3 s4) with h | h
    · exact v0 (by rw [h]; decide +kernel)
    · rw [h] at hu
      have : u * 2 = 0 := by
        have e1 : u * 2 = u * (1 - -1) := by clear hu k dn he; grind
        rw [e1, hu]
        clear hu k dn he
        grind
      exact (K_dom this).elim hu0 two_ne

/-! ### The ladder -/
def repP (e : K) (q : Pt) (P : Ed) : Prop := Rep e (toK q.x) (toK q.z) P
theorem dblP_rep {d e : K} {q : Pt} {P : Ed} (hc : Cv d e) (hP : On d P) (hq : PtOk q) (h : repP e q P) : repP e (dblP q) (addE d P P) := by
  unfold repP at *
  have := dbl_rep hc hP h
  unfold dblP dblE
  dsimp only
  simp only [toK_fM, toK_fA, toK_fS _ _ hq.2, toK_fS _ _ (fM_lt _ _)]
  exact this
theorem addP_rep {d e : K} {q s : Pt} {u : Nat} {P Q : Ed} (hc : Cv d e) (hP : On d P) (hQ : On d Q) (hq : PtOk q) (hs : PtOk s) (h1 : repP e q P) (h2 : repP e s Q)
    (hu : toK u * (1 - (addE d P (negE Q)).y) = e * (1 + (addE d P (negE Q)).y)) (hu0 : toK u ≠ 0) : repP e (addP u q s) (addE d P Q) := by
  unfold repP at *
  have := add_rep hc hP hQ h1 h2 hu hu0
  unfold addP addDA addCB
  dsimp only
  simp only [toK_fM, toK_fA, toK_fS _ _ hq.2, toK_fS _ _ hs.2, toK_fS _ _ (fM_lt _ _)]
  exact this
theorem addP_turn {e : K} {q s : Pt} {u : Nat} {P : Ed} (hq : PtOk q) (hs : PtOk s) (h : repP e (addP u q s) P) : repP e (addP u s q) P := by
  unfold repP addP addDA addCB at *
  dsimp only at *
  simp only [toK_fM, toK_fA, toK_fS _ _ hq.2, toK_fS _ _ hs.2, toK_fS _ _ (fM_lt _ _)] at *
  generalize toK q.x = a at *
  generalize toK q.z = b at *
  generalize toK s.x = c at *
  generalize toK s.z = f at *
  rw [show ((a - b) * (c + f) + (a + b) * (c - f)) * ((a - b) * (c + f) + (a + b) * (c - f)) = ((c - f) * (a + b) + (c + f) * (a - b)) * ((c - f) * (a + b) + (c + f) * (a - b)) by clear h; grind, show ((a - b) * (c + f) - (a + b) * (c - f)) * ((a - b) * (c + f) - (a + b) * (c - f)) = ((c - f) * (a + b) - (c + f) * (a - b)) * ((c - f) * (a + b) - (c + f) * (a - b)) by clear h; grind]
  exact h
/-- The number of a key's highest bits. -/
def topB (k : Nat → Nat) : Nat → Nat
  | 0 => 0
  | n + 1 => 2 * topB k n + bitN k n
theorem lad_rep {d e : K} {P : Ed} {u : Nat} (hc : Cv d e) (hP : On d P) (hu : u < pN) (hu0 : toK u ≠ 0) (hq : toK u * (1 - P.y) = e * (1 + P.y)) (k : Nat → Nat) :
    ∀ n, repP e (ladP u k n).1 (mulE d P (topB k n)) ∧ repP e (ladP u k n).2 (mulE d P (topB k n + 1))
  | 0 => by
    refine ⟨⟨?_, ?_⟩, ⟨?_, ?_⟩⟩
    · show toK 1 * (1 - 1) = e * toK 0 * (1 + 1)
      rw [toK_zero, show (1 : K) - 1 = 0 by decide +kernel, Fin.mul_zero, Fin.mul_zero, Fin.zero_mul]
    · rintro ⟨h, _⟩
      exact one_ne (toK_one.symm.trans h)
    · rw [show mulE d P (topB k 0 + 1) = addE d nulE P from rfl, nul_add]
      show toK u * (1 - P.y) = e * toK 1 * (1 + P.y)
      rw [hq, toK_one]
      clear hq
      generalize P.y = y
      grind
    · rintro ⟨_, h⟩
      exact one_ne (toK_one.symm.trans h)
  | n + 1 => by
    have ih := lad_rep hc hP hu hu0 hq k n
    have ok := lad_ok u hu k n
    have o1 := mul_on hc.free hP (topB k n)
    have o2 := mul_on hc.free hP (topB k n + 1)
    have hD := mul_next hc.free hc.nz hP (topB k n)
    have hs : repP e (addP u (ladP u k n).2 (ladP u k n).1) (mulE d P (2 * topB k n + 1)) := by
      have := addP_rep (u := u) hc o2 o1 ok.2 ok.1 ih.2 ih.1 (by rw [hD]; exact hq) hu0
      rwa [← mul_add' hc.free hc.nz hP, show topB k n + 1 + topB k n = 2 * topB k n + 1 by omega] at this
    rw [show ladP u k (n + 1) = stepP u (bitN k n) (ladP u k n).1 (ladP u k n).2 from rfl, show topB k (n + 1) = 2 * topB k n + bitN k n from rfl]
    unfold stepP
    rcases bitN_lt k n with hb | hb
    · rw [hb, if_neg (by omega), Nat.add_zero]
      refine ⟨?_, addP_turn ok.2 ok.1 hs⟩
      have := dblP_rep hc o1 ok.1 ih.1
      rwa [← mul_add' hc.free hc.nz hP, show topB k n + topB k n = 2 * topB k n by omega] at this
    · rw [hb, if_pos rfl]
      refine ⟨hs, ?_⟩
      have := dblP_rep hc o2 ok.2 ih.2
      rwa [← mul_add' hc.free hc.nz hP, show topB k n + 1 + (topB k n + 1) = 2 * topB k n + 1 + 1 by omega] at this
/-- What a point is told by. -/
def encE (e Y : K) : K := if Y = 1 then 0 else e * (1 + Y) * iv (1 - Y)
theorem sub_ne {Y : K} (h : Y ≠ 1) : 1 - Y ≠ 0 := fun e => h (by grind)
theorem enc_rep {d e X Z : K} {P : Ed} (hc : Cv d e) (h : Rep e X Z P) : X * iv Z = encE e P.y := by
  obtain ⟨h1, h2⟩ := h
  have he := ee hc
  unfold encE
  generalize P.y = Y at *
  by_cases hY : Y = 1
  · rw [if_pos hY]
    have hZ : Z = 0 := by
      have : e * (Z * 2) = 0 := by
        have e1 : e * (Z * 2) = e * Z * (1 + 1) := by clear h1 he; grind
        rw [e1]
        rw [hY] at h1
        rw [← h1]
        clear h1 he
        grind
      have e0 : e ≠ 0 := fun z => by rw [z] at he; exact one_ne (by rw [← he]; decide +kernel)
      exact (K_dom ((K_dom this).resolve_left e0)).resolve_right two_ne
    rw [hZ, iv_zero]
    clear h1 he
    grind
  · rw [if_neg hY]
    have hv := iv_mul (sub_ne hY)
    have hZ : Z ≠ 0 := fun z => h2 ⟨by
      rw [z] at h1
      have : X * (1 - Y) = 0 := by rw [h1]; clear h1 he hv; grind
      exact (K_dom this).resolve_right (sub_ne hY), z⟩
    have hz := iv_mul hZ
    generalize iv Z = z' at *
    generalize iv (1 - Y) = w at *
    have e1 : X * z' = X * (1 - Y) * w * z' := by rw [show X * (1 - Y) * w * z' = X * z' * ((1 - Y) * w) by clear h1 he hv hz; grind, hv]; clear h1 he hv hz; grind
    rw [e1, h1, show e * Z * (1 + Y) * w * z' = e * (1 + Y) * w * (Z * z') by clear h1 he hv hz e1; grind, hz]
    clear h1 he hv hz e1
    grind
/-- The number of a clamped key. -/
def numK (k : Nat → Nat) : Nat := topB (clampN k) 255
theorem mult_enc {d e : K} {P : Ed} {u : Nat} (hc : Cv d e) (hP : On d P) (hu : u < pN) (hu0 : toK u ≠ 0) (hq : toK u * (1 - P.y) = e * (1 + P.y)) (k : Nat → Nat) :
    toK (multV k u) = encE e (mulE d P (numK k)).y := by
  have h := (lad_rep hc hP hu hu0 hq (clampN k) 255).1
  have ok := (lad_ok u hu (clampN k) 255).1
  show toK (multV k u) = encE e (mulE d P (topB (clampN k) 255)).y
  rw [← enc_rep hc h]
  unfold multV
  rw [toK_fM]
  unfold iv
  rw [val_toK, Nat.mod_eq_of_lt ok.2]
theorem x_nul {d x y : K} (hf : Free d) (h : x * x + y * y = 1 + d * (x * x) * (y * y)) (hy : y * y = 1) : x = 0 := by
  have h1 : (x * x) * (1 - d) = 0 := by
    rw [hy] at h
    clear hy
    grind
  have h2 : 1 - d ≠ 0 := fun z => hf 1 (by clear h hy h1; grind)
  have := (K_dom h1).resolve_right h2
  rcases K_dom this with h | h <;> exact h
theorem enc_nul {d e : K} {P : Ed} (hc : Cv d e) (hP : On d P) (h : encE e P.y = 0) : P = nulE ∨ P = halfE := by
  have he := ee hc
  obtain ⟨x, y⟩ := P
  unfold On at hP
  unfold encE at h
  dsimp only at h hP
  by_cases hY : y = 1
  · subst hY
    have := x_nul hc.free hP (by decide +kernel)
    subst this
    exact .inl rfl
  · rw [if_neg hY] at h
    have e0 : e ≠ 0 := fun z => by rw [z] at he; exact one_ne (by rw [← he]; decide +kernel)
    have h1 := (K_dom ((K_dom h).resolve_right (iv_ne (sub_ne hY)))).resolve_left e0
    have h2 : y = -1 := by clear h hP he; grind
    subst h2
    have := x_nul hc.free hP (by decide +kernel)
    subst this
    exact .inr rfl
theorem enc_of {e : K} {P : Ed} (h : P = nulE ∨ P = halfE) : encE e P.y = 0 := by
  rcases h with h | h <;> subst h
  · exact if_pos rfl
  · have : halfE.y ≠ 1 := neg_ne
    unfold encE
    rw [if_neg this]
    show e * (1 + -1) * _ = 0
    generalize iv _ = w
    have : (1 + -1 : K) = 0 := by decide +kernel
    rw [this]
    grind
theorem mult_two {d e : K} {P : Ed} {u : Nat} (hc : Cv d e) (hP : On d P) (hu : u < pN) (hu0 : toK u ≠ 0) (hq : toK u * (1 - P.y) = e * (1 + P.y)) (a b : Nat → Nat) :
    toK (multV a (multV b u)) = encE e (mulE d P (numK b * numK a)).y := by
  have h := mult_enc hc hP hu hu0 hq b
  have hlt : multV b u < pN := fM_lt _ _
  have oB := mul_on hc.free hP (numK b)
  rw [← mul_mul' hc.free hc.nz hP]
  by_cases h0 : toK (multV b u) = 0
  · have hz : multV b u = 0 := by
      have := congrArg Fin.val h0
      rw [val_toK, Nat.mod_eq_of_lt hlt] at this
      exact this
    rw [hz, mult_zero, toK_zero]
    have hn := enc_nul hc oB (h.symm.trans h0)
    refine (enc_of ?_).symm
    rcases hn with hn | hn <;> rw [hn]
    · exact .inl (mul_nul _)
    · exact mul_half _
  · refine mult_enc hc oB hlt h0 ?_ a
    rw [h] at h0 ⊢
    generalize (mulE d P (numK b)).y = Y at *
    unfold encE at *
    by_cases hY : Y = 1
    · rw [if_pos hY] at h0
      exact absurd rfl h0
    · rw [if_neg hY] at h0 ⊢
      have hv := iv_mul (sub_ne hY)
      generalize iv (1 - Y) = w at *
      rw [show e * (1 + Y) * w * (1 - Y) = e * (1 + Y) * ((1 - Y) * w) by clear h hv h0 hq; grind, hv]
      clear h hv h0 hq
      grind

/-! ### Each quotient stands for a point of the one curve, or of its twist -/
theorem free_one {d : K} (h : d * (cA + 2) = cA - 2) : Free d := fun s hs => no_sq (s * (cA + 2)) (by
  rw [show s * (cA + 2) * (s * (cA + 2)) = s * s * (cA + 2) * (cA + 2) by clear h; grind, hs, h])
theorem free_two {d : K} (h : d * (cA - 2) = cA + 2) : Free d := fun s hs => no_sq (s * (cA - 2)) (by
  rw [show s * (cA - 2) * (s * (cA - 2)) = s * s * (cA - 2) * (cA - 2) by clear h; grind, hs, h]
  clear h
  generalize cA = c
  grind)
def dOne : K := (cA - 2) * iv (cA + 2)
def dTwo : K := (cA + 2) * iv (cA - 2)
theorem dOne_is : dOne * (cA + 2) = cA - 2 := by
  unfold dOne
  have h := iv_mul cA_plus
  rw [show (cA - 2) * iv (cA + 2) * (cA + 2) = (cA - 2) * ((cA + 2) * iv (cA + 2)) by clear h; grind, h]
  clear h
  grind
theorem dTwo_is : dTwo * (cA - 2) = cA + 2 := by
  unfold dTwo
  have h := iv_mul cA_minus
  rw [show (cA + 2) * iv (cA - 2) * (cA - 2) = (cA + 2) * ((cA - 2) * iv (cA - 2)) by clear h; grind, h]
  clear h
  grind
theorem four_ne : (4 : K) ≠ 0 := fun h => absurd (congrArg Fin.val h) (by decide +kernel)
theorem cv_one : Cv dOne 1 where
  free := free_one dOne_is
  nz := fun h => cA_minus (by rw [← dOne_is, h, Fin.zero_mul])
  way := .inl ⟨rfl, by
    have h := dOne_is
    rw [cA_cB] at h
    generalize dOne = d at *
    generalize cB = c at *
    refine cancelL four_ne ?_
    grind⟩
theorem cv_two : Cv dTwo (-1) where
  free := free_two dTwo_is
  nz := fun h => cA_plus (by rw [← dTwo_is, h, Fin.zero_mul])
  way := .inr ⟨rfl, by
    have h := dTwo_is
    rw [cA_cB] at h
    generalize dTwo = d at *
    generalize cB = c at *
    refine cancelL four_ne ?_
    grind⟩
theorem quad_ne (u : K) : u * u + cA * u + 1 ≠ 0 := fun h => no_sq (2 * u + cA) (by
  generalize cA = c at *
  grind)
theorem is_point {u : K} (h0 : u ≠ 0) : ∃ d e : K, ∃ P : Ed, Cv d e ∧ On d P ∧ u * (1 - P.y) = e * (1 + P.y) := by
  have hq := quad_ne u
  have hQ := iv_mul hq
  have w0 : u * (u * u + cA * u + 1) ≠ 0 := K_ne h0 hq
  rcases hf_cases w0 with hw | hw
  · obtain ⟨r, hr⟩ := sqrt_of hw
    have hu : u + 1 ≠ 0 := fun z => by
      have hz : u = -1 := by clear hw hQ hr; grind
      have e1 : u * (u * u + cA * u + 1) = cA - 2 := by rw [hz]; clear hw hQ hr hz z; generalize cA = c; grind
      rw [e1, hf_minus] at hw
      exact neg_ne hw
    have hU := iv_mul hu
    have hs := cS_sq
    have hd := dOne_is
    refine ⟨dOne, 1, ⟨cS * r * iv (u * u + cA * u + 1), (u - 1) * iv (u + 1)⟩, cv_one, ?_, ?_⟩
    · unfold On
      dsimp only
      generalize iv (u + 1) = V at *
      generalize cS = s at *
      generalize dOne = d at *
      have hx : s * r * iv (u * u + cA * u + 1) * (s * r * iv (u * u + cA * u + 1)) = (cA + 2) * u * iv (u * u + cA * u + 1) := by
        generalize iv (u * u + cA * u + 1) = W at *
        rw [show s * r * W * (s * r * W) = s * s * (r * r) * W * W by clear hw hQ hU hs hr hd; grind, hs, hr, show (cA + 2) * (u * (u * u + cA * u + 1)) * W * W = (cA + 2) * u * W * ((u * u + cA * u + 1) * W) by clear hw hQ hU hs hr hd; generalize cA = c; grind, hQ]
        clear hw hQ hU hs hr hd
        grind
      rw [hx]
      have hW : u * u + cA * u + 1 ≠ 0 := hq
      generalize iv (u * u + cA * u + 1) = W at *
      clear hw hr hs hx w0
      generalize cA = c at *
      refine cancelL hW (cancelL (K_ne hu hu) ?_)
      have m1 : (u + 1) * ((u - 1) * V) = u - 1 := by rw [show (u + 1) * ((u - 1) * V) = (u - 1) * ((u + 1) * V) by clear hQ hU hd; grind, hU]; clear hQ hU hd; grind
      generalize (u - 1) * V = y at *
      clear hU
      have m2 : (u + 1) * (u + 1) * (y * y) = (u - 1) * (u - 1) := by rw [← m1]; clear hQ hd; grind
      rw [show (u + 1) * (u + 1) * ((u * u + c * u + 1) * ((c + 2) * u * W + y * y)) = (u + 1) * (u + 1) * ((c + 2) * u * ((u * u + c * u + 1) * W)) + (u * u + c * u + 1) * ((u + 1) * (u + 1) * (y * y)) by clear hQ hd m1 m2; grind, show (u + 1) * (u + 1) * ((u * u + c * u + 1) * (1 + d * ((c + 2) * u * W) * (y * y))) = (u + 1) * (u + 1) * (u * u + c * u + 1) + d * (c + 2) * (u * ((u * u + c * u + 1) * W)) * ((u + 1) * (u + 1) * (y * y)) by clear hQ hd m1 m2; grind, hQ, m2, hd]
      clear hQ hd m1 m2
      grind
    · dsimp only
      generalize iv (u + 1) = V at *
      clear hw hQ hr hs hd
      have e1 : 1 - (u - 1) * V = 2 * V := by
        refine cancelL hu ?_
        grind
      have e2 : 1 + (u - 1) * V = 2 * u * V := by
        refine cancelL hu ?_
        grind
      rw [e1, e2]
      clear e1 e2 hU
      grind
  · have h1 : hf ((cA - 2) * (u * (u * u + cA * u + 1))) = 1 := by rw [hf_mul, hf_minus, hw]; decide +kernel
    obtain ⟨r, hr⟩ := sqrt_of h1
    have hu : u - 1 ≠ 0 := fun z => by
      have hz : u = 1 := by clear hw hQ hr h1; grind
      have e1 : u * (u * u + cA * u + 1) = cA + 2 := by rw [hz]; clear hw hQ hr hz z h1; generalize cA = c; grind
      rw [e1, hf_plus] at hw
      exact neg_ne hw.symm
    have hU := iv_mul hu
    have hd := dTwo_is
    refine ⟨dTwo, -1, ⟨r * iv (u * u + cA * u + 1), (u + 1) * iv (u - 1)⟩, cv_two, ?_, ?_⟩
    · unfold On
      dsimp only
      generalize iv (u - 1) = V at *
      generalize dTwo = d at *
      have hx : r * iv (u * u + cA * u + 1) * (r * iv (u * u + cA * u + 1)) = (cA - 2) * u * iv (u * u + cA * u + 1) := by
        generalize iv (u * u + cA * u + 1) = W at *
        rw [show r * W * (r * W) = (r * r) * W * W by clear hw hQ hU hr hd h1; grind, hr, show (cA - 2) * (u * (u * u + cA * u + 1)) * W * W = (cA - 2) * u * W * ((u * u + cA * u + 1) * W) by clear hw hQ hU hr hd h1; generalize cA = c; grind, hQ]
        clear hw hQ hU hr hd h1
        grind
      rw [hx]
      have hW : u * u + cA * u + 1 ≠ 0 := hq
      generalize iv (u * u + cA * u + 1) = W at *
      clear hw hr hx w0 h1
      generalize cA = c at *
      refine cancelL hW (cancelL (K_ne hu hu) ?_)
      have m1 : (u - 1) * ((u + 1) * V) = u + 1 := by rw [show (u - 1) * ((u + 1) * V) = (u + 1) * ((u - 1) * V) by clear hQ hU hd; grind, hU]; clear hQ hU hd; grind
      generalize (u + 1) * V = y at *
      clear hU
      have m2 : (u - 1) * (u - 1) * (y * y) = (u + 1) * (u + 1) := by rw [← m1]; clear hQ hd; grind
      rw [show (u - 1) * (u - 1) * ((u * u + c * u + 1) * ((c - 2) * u * W + y * y)) = (u - 1) * (u - 1) * ((c - 2) * u * ((u * u + c * u + 1) * W)) + (u * u + c * u + 1) * ((u - 1) * (u - 1) * (y * y)) by clear hQ hd m1 m2; grind, show (u - 1) * (u - 1) * ((u * u + c * u + 1) * (1 + d * ((c - 2) * u * W) * (y * y))) = (u - 1) * (u - 1) * (u * u + c * u + 1) + d * (c - 2) * (u * ((u * u + c * u + 1) * W)) * ((u - 1) * (u - 1) * (y * y)) by clear hQ hd m1 m2; grind, hQ, m2, hd]
      clear hQ hd m1 m2
      grind
    · dsimp only
      generalize iv (u - 1) = V at *
      clear hw hQ hr hd h1
      have e1 : 1 - (u + 1) * V = -2 * V := by
        refine cancelL hu ?_
        grind
      have e2 : 1 + (u + 1) * V = 2 * u * V := by
        refine cancelL hu ?_
        grind
      rw [e1, e2]
      clear e1 e2 hU
      grind
/-- **Two numbers, one behind the other: the order plays no part.** -/
theorem mult_turn (a b : Nat → Nat) (u : Nat) (hu : u < pN) : multV a (multV b u) = multV b (multV a u) := by
  by_cases h0 : toK u = 0
  · have hz : u = 0 := by
      have := congrArg Fin.val h0
      rw [val_toK, Nat.mod_eq_of_lt hu] at this
      exact this
    rw [hz, mult_zero, mult_zero, mult_zero]
  · obtain ⟨d, e, P, hc, hP, hq⟩ := is_point h0
    have h1 := mult_two hc hP hu h0 hq a b
    have h2 := mult_two hc hP hu h0 hq b a
    rw [Nat.mul_comm] at h2
    have h3 := congrArg Fin.val (h1.trans h2.symm)
    rw [val_toK, val_toK, Nat.mod_eq_of_lt (show multV a (multV b u) < pN from fM_lt _ _), Nat.mod_eq_of_lt (show multV b (multV a u) < pN from fM_lt _ _)] at h3
    exact h3
end Go.Proofs.Ythgjhipfgdlbnaa
