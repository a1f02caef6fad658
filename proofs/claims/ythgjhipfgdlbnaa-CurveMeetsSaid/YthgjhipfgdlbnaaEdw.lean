/- Plain: the numbers modulo the prime of layer 5; the curve x² + y² = 1 + d x² y², where d is no square: its law is whole, and hangs on no order. -/
import Derived.Test.YthgjhipfgdlbnaaLadG
namespace Go.Proofs.Ythgjhipfgdlbnaa
set_option linter.unusedSimpArgs false
set_option linter.unusedVariables false
theorem powN_mul (v w e : Nat) : powN (v * w) e = powN v e * powN w e := Nat.mul_pow v w e
/-! ### The field -/
instance pN_nz : NeZero pN := ⟨by unfold pN; decide +kernel⟩
/-- A number modulo the prime. -/
abbrev K := Fin pN
def toK (a : Nat) : K := ⟨a % pN, Nat.mod_lt _ zero_lt_p⟩
theorem toK_val (a : K) : toK a.val = a := Fin.ext (Nat.mod_eq_of_lt a.isLt)
theorem val_toK (a : Nat) : (toK a).val = a % pN := rfl
theorem toK_eq {a b : Nat} : toK a = toK b ↔ a % pN = b % pN := ⟨fun h => congrArg Fin.val h, fun h => Fin.ext h⟩
theorem toK_add (a b : Nat) : toK (a + b) = toK a + toK b := Fin.ext (Nat.add_mod a b pN)
theorem toK_mul (a b : Nat) : toK (a * b) = toK a * toK b := Fin.ext (Nat.mul_mod a b pN)
theorem toK_mod (a : Nat) : toK (a % pN) = toK a := Fin.ext (Nat.mod_mod a pN)
theorem toK_zero : toK 0 = 0 := Fin.ext (by rw [val_toK, Nat.zero_mod]; rfl)
theorem toK_one : toK 1 = 1 := Fin.ext (by rw [val_toK]; rfl)
theorem toK_fA (a b : Nat) : toK (fA a b) = toK a + toK b := by unfold fA; rw [toK_mod, toK_add]
theorem toK_fM (a b : Nat) : toK (fM a b) = toK a * toK b := by unfold fM; rw [toK_mod, toK_mul]
theorem toK_fS (a b : Nat) (h : b < pN) : toK (fS a b) = toK a - toK b := by
  unfold fS
  rw [toK_mod, toK_add]
  have e : toK (pN - b) + toK b = 0 := by rw [← toK_add, Nat.sub_add_cancel (Nat.le_of_lt h)]; exact Fin.ext (by rw [val_toK, Nat.mod_self]; rfl)
  grind
theorem K_dom {a b : K} (h : a * b = 0) : a = 0 ∨ b = 0 := by
  have h1 : a.val * b.val % pN = 0 := congrArg Fin.val h
  have hp : IsP pN := p57896044618658097711785492504343953926634992332820282019728792003956564819949.1
  rcases euclid hp (Nat.dvd_of_mod_eq_zero h1) with h2 | h2
  · exact .inl (Fin.ext (by have := Nat.eq_zero_of_dvd_of_lt h2 a.isLt; rw [this]; rfl))
  · exact .inr (Fin.ext (by have := Nat.eq_zero_of_dvd_of_lt h2 b.isLt; rw [this]; rfl))
theorem K_ne {a b : K} (ha : a ≠ 0) (hb : b ≠ 0) : a * b ≠ 0 := fun h => (K_dom h).elim ha hb
theorem pw_isN (n f b e : Nat) (h : e < 2 ^ f) : pw n f b e = powN b e % n := pw_is n f b e h
attribute [local irreducible] powN
/-- What a number is divided by. -/
def iv (a : K) : K := toK (powN a.val 57896044618658097711785492504343953926634992332820282019728792003956564819947)
theorem iv_mul {a : K} (h : a ≠ 0) : a * iv a = 1 := by
  have h1 : a.val % pN ≠ 0 := fun e => h (Fin.ext (by rw [Nat.mod_eq_of_lt a.isLt] at e; rw [e]; rfl))
  have h2 := toK_eq.2 (inv_one a.val h1)
  rw [toK_mul, toK_val, toK_one] at h2
  exact h2
theorem iv_zero : iv 0 = 0 := by
  have h := powN_zero 57896044618658097711785492504343953926634992332820282019728792003956564819947 pN 0 (by omega) (Nat.zero_mod _)
  have h2 : iv 0 = toK (powN 0 57896044618658097711785492504343953926634992332820282019728792003956564819947) := rfl
  rw [h2, ← toK_zero]
  exact toK_eq.2 (h.trans (Nat.zero_mod _).symm)
theorem iv_ne {a : K} (h : a ≠ 0) : iv a ≠ 0 := fun e => by
  have h1 := iv_mul h
  rw [e] at h1
  have : (0 : K) = 1 := by grind
  exact absurd (congrArg Fin.val this) (by decide +kernel)
theorem one_ne : (1 : K) ≠ 0 := fun h => absurd (congrArg Fin.val h) (by decide +kernel)
theorem two_ne : (2 : K) ≠ 0 := fun h => absurd (congrArg Fin.val h) (by decide +kernel)
theorem iv_of {a b : K} (h : a * b = 1) : iv a = b := by
  have ha : a ≠ 0 := fun e => one_ne (by rw [← h, e]; grind)
  have := iv_mul ha
  grind
theorem cancelK {a b c : K} (h : c ≠ 0) (e : a * c = b * c) : a = b := by
  have := iv_mul h
  have e2 : a * c * iv c = b * c * iv c := by rw [e]
  grind

/-! ### Powers, squares -/
def pk (a : K) (n : Nat) : K := toK (powN a.val n)
theorem pk_one (a : K) : pk a 1 = a := by unfold pk; rw [powN_one, toK_val]
theorem pk_add (a : K) (m n : Nat) : pk a m * pk a n = pk a (m + n) := by unfold pk; rw [← toK_mul, powN_add]
theorem pk_mul (a b : K) (n : Nat) : pk (a * b) n = pk a n * pk b n := by
  unfold pk
  rw [← toK_mul, ← powN_mul]
  exact toK_eq.2 (powN_mod _ _ _ _ (by rw [show (a * b).val = a.val * b.val % pN from rfl, Nat.mod_mod]))
theorem pk_full {a : K} (h : a ≠ 0) : pk a 57896044618658097711785492504343953926634992332820282019728792003956564819948 = 1 := by
  have h1 : a.val % pN ≠ 0 := fun e => h (Fin.ext (by rw [Nat.mod_eq_of_lt a.isLt] at e; rw [e]; rfl))
  have h2 := prime_pow a.val h1
  unfold pk
  rw [← toK_one]
  exact toK_eq.2 (h2.trans (Nat.mod_eq_of_lt one_lt_p).symm)
theorem sq_cases {a : K} (h : a * a = 1) : a = 1 ∨ a = -1 := by
  have : (a - 1) * (a + 1) = 0 := by grind
  rcases K_dom this with h1 | h1
  · exact .inl (by grind)
  · exact .inr (by grind)
/-- Half of the prime less one, and what it does. -/
def hf (a : K) : K := pk a 28948022309329048855892746252171976963317496166410141009864396001978282409974
theorem hf_cases {a : K} (h : a ≠ 0) : hf a = 1 ∨ hf a = -1 := sq_cases (by
  unfold hf
  rw [pk_add]
  exact pk_full h)
theorem hf_mul (a b : K) : hf (a * b) = hf a * hf b := pk_mul a b _
theorem hf_sq {a : K} (h : a ≠ 0) : hf (a * a) = 1 := by
  rw [hf_mul]
  rcases hf_cases h with h1 | h1 <;> rw [h1] <;> grind
theorem neg_ne : (-1 : K) ≠ 1 := fun h => absurd (congrArg Fin.val h) (by decide +kernel)
theorem sqrt_of {a : K} (h : hf a = 1) : ∃ r : K, r * r = a := by
  have h1 : pk a 14474011154664524427946373126085988481658748083205070504932198000989141204987 * pk a 14474011154664524427946373126085988481658748083205070504932198000989141204987 = 1 := by rw [pk_add]; exact h
  have h2 : pk a 7237005577332262213973186563042994240829374041602535252466099000494570602494 * pk a 7237005577332262213973186563042994240829374041602535252466099000494570602494 = pk a 14474011154664524427946373126085988481658748083205070504932198000989141204987 * a := by
    rw [pk_add]
    have := pk_add a 14474011154664524427946373126085988481658748083205070504932198000989141204987 1
    rw [pk_one] at this
    rw [this]
  rcases sq_cases h1 with h3 | h3
  · exact ⟨_, by rw [h2, h3]; grind⟩
  · have hi : toK 19681161376707505956807079304988542015446066515923890162744021073123829784752 * toK 19681161376707505956807079304988542015446066515923890162744021073123829784752 = (-1 : K) := by decide +kernel
    generalize toK 19681161376707505956807079304988542015446066515923890162744021073123829784752 = i at hi
    generalize pk a 7237005577332262213973186563042994240829374041602535252466099000494570602494 = r at h2
    exact ⟨i * r, by rw [show i * r * (i * r) = i * i * (r * r) by grind, hi, h2, h3]; grind⟩

theorem hf_val (v : Nat) (k : Nat) (h : pw pN 256 (v % pN) 28948022309329048855892746252171976963317496166410141009864396001978282409974 = k) : hf (toK v) = toK k := by
  unfold hf pk
  rw [val_toK]
  have h1 := pw_isN pN 256 (v % pN) 28948022309329048855892746252171976963317496166410141009864396001978282409974 (by decide +kernel)
  refine toK_eq.2 ?_
  rw [← h1, h]
  rw [← h, h1, Nat.mod_mod]
/-- The curve's number. -/
def cA : K := toK 486662
theorem hf_minus : hf (cA - 2) = -1 := by
  have h := hf_val 486660 57896044618658097711785492504343953926634992332820282019728792003956564819948 (by decide +kernel)
  have e1 : cA - 2 = toK 486660 := by decide +kernel
  have e2 : (-1 : K) = toK 57896044618658097711785492504343953926634992332820282019728792003956564819948 := by decide +kernel
  rw [e1, h, e2]
def cS : K := toK 48802004052532134862652268456126542835229456083994414501085850622543968879637
theorem cS_sq : cS * cS = cA + 2 := by decide +kernel
theorem cA_plus : cA + 2 ≠ 0 := fun h => absurd (congrArg Fin.val h) (by decide +kernel)
theorem cA_minus : cA - 2 ≠ 0 := fun h => absurd (congrArg Fin.val h) (by decide +kernel)
theorem cS_ne : cS ≠ 0 := fun h => cA_plus (by rw [← cS_sq, h]; grind)
theorem zero_hf : hf 0 = 0 := by
  have h := powN_zero 28948022309329048855892746252171976963317496166410141009864396001978282409974 pN 0 (by omega) (Nat.zero_mod _)
  have h2 : hf 0 = toK (powN 0 28948022309329048855892746252171976963317496166410141009864396001978282409974) := rfl
  rw [h2, ← toK_zero]
  exact toK_eq.2 (h.trans (Nat.zero_mod _).symm)
theorem hf_of_sq {a r : K} (h : r * r = a) (ha : a ≠ 0) : hf a = 1 := by
  rw [← h]
  exact hf_sq fun e => ha (by rw [← h, e]; grind)
theorem hf_plus : hf (cA + 2) = 1 := hf_of_sq cS_sq cA_plus
/-- No square. -/
theorem no_sq (s : K) : s * s ≠ (cA - 2) * (cA + 2) := fun h => by
  have h1 := hf_of_sq h (K_ne cA_minus cA_plus)
  rw [hf_mul, hf_minus, hf_plus] at h1
  exact neg_ne (by grind)


theorem assx (x1 y1 x2 y2 x3 y3 d i : K) (hd : d * i = 1) (h1 : x1 * x1 + y1 * y1 = 1 + d * (x1 * x1) * (y1 * y1)) (h2 : x2 * x2 + y2 * y2 = 1 + d * (x2 * x2) * (y2 * y2)) (h3 : x3 * x3 + y3 * y3 = 1 + d * (x3 * x3) * (y3 * y3)) :
    ((x1 * y2 + y1 * x2) * (1 - d * (x1 * x2) * (y1 * y2)) * y3 + (y1 * y2 - x1 * x2) * (1 + d * (x1 * x2) * (y1 * y2)) * x3) * ((1 + d * (x2 * x3) * (y2 * y3)) * (1 - d * (x2 * x3) * (y2 * y3)) + d * (x2 * y3 + y2 * x3) * (y2 * y3 - x2 * x3) * (x1 * y1)) =
    (x1 * (y2 * y3 - x2 * x3) * (1 + d * (x2 * x3) * (y2 * y3)) + y1 * (x2 * y3 + y2 * x3) * (1 - d * (x2 * x3) * (y2 * y3))) * ((1 + d * (x1 * x2) * (y1 * y2)) * (1 - d * (x1 * x2) * (y1 * y2)) + d * (x1 * y2 + y1 * x2) * (y1 * y2 - x1 * x2) * (x3 * y3)) := by grind
theorem assy (x1 y1 x2 y2 x3 y3 d i : K) (hd : d * i = 1) (h1 : x1 * x1 + y1 * y1 = 1 + d * (x1 * x1) * (y1 * y1)) (h2 : x2 * x2 + y2 * y2 = 1 + d * (x2 * x2) * (y2 * y2)) (h3 : x3 * x3 + y3 * y3 = 1 + d * (x3 * x3) * (y3 * y3)) :
    ((y1 * y2 - x1 * x2) * (1 + d * (x1 * x2) * (y1 * y2)) * y3 - (x1 * y2 + y1 * x2) * (1 - d * (x1 * x2) * (y1 * y2)) * x3) * ((1 + d * (x2 * x3) * (y2 * y3)) * (1 - d * (x2 * x3) * (y2 * y3)) - d * (x2 * y3 + y2 * x3) * (y2 * y3 - x2 * x3) * (x1 * y1)) =
    (y1 * (y2 * y3 - x2 * x3) * (1 + d * (x2 * x3) * (y2 * y3)) - x1 * (x2 * y3 + y2 * x3) * (1 - d * (x2 * x3) * (y2 * y3))) * ((1 + d * (x1 * x2) * (y1 * y2)) * (1 - d * (x1 * x2) * (y1 * y2)) - d * (x1 * y2 + y1 * x2) * (y1 * y2 - x1 * x2) * (x3 * y3)) := by grind

theorem fr1 {a e y c b x B E : K} (p : b * B = 1) (q : e * E = 1) : (a * e * y + c * b * x) * B * E = a * B * y + c * E * x := by
  rw [show (a * e * y + c * b * x) * B * E = a * B * y * (e * E) + c * E * x * (b * B) by grind, p, q]; grind
theorem fr1m {a e y c b x B E : K} (p : b * B = 1) (q : e * E = 1) : (c * b * y - a * e * x) * B * E = c * E * y - a * B * x := by
  rw [show (c * b * y - a * e * x) * B * E = c * E * y * (b * B) - a * B * x * (e * E) by grind, p, q]; grind
theorem fr2 {d a c x y b e B E : K} (p : b * B = 1) (q : e * E = 1) : (b * e + d * a * c * (x * y)) * B * E = 1 + d * (a * B * x) * (c * E * y) := by
  rw [show (b * e + d * a * c * (x * y)) * B * E = b * B * (e * E) + d * (a * B * x) * (c * E * y) by grind, p, q]; grind
theorem fr2m {d a c x y b e B E : K} (p : b * B = 1) (q : e * E = 1) : (b * e - d * a * c * (x * y)) * B * E = 1 - d * (a * B * x) * (c * E * y) := by
  rw [show (b * e - d * a * c * (x * y)) * B * E = b * B * (e * E) - d * (a * B * x) * (c * E * y) by grind, p, q]; grind
theorem fr3 {d a c x y b e B E : K} (p : b * B = 1) (q : e * E = 1) : (b * e + d * a * c * (x * y)) * B * E = 1 + d * (x * (a * B)) * (y * (c * E)) := by
  rw [fr2 p q]; grind
theorem fr3m {d a c x y b e B E : K} (p : b * B = 1) (q : e * E = 1) : (b * e - d * a * c * (x * y)) * B * E = 1 - d * (x * (a * B)) * (y * (c * E)) := by
  rw [fr2m p q]; grind
theorem fr4 {x c b y a e B E : K} (p : b * B = 1) (q : e * E = 1) : (x * c * b + y * a * e) * B * E = x * (c * E) + y * (a * B) := by
  rw [show (x * c * b + y * a * e) * B * E = x * (c * E) * (b * B) + y * (a * B) * (e * E) by grind, p, q]; grind
theorem fr4m {x c b y a e B E : K} (p : b * B = 1) (q : e * E = 1) : (y * c * b - x * a * e) * B * E = y * (c * E) - x * (a * B) := by
  rw [show (y * c * b - x * a * e) * B * E = y * (c * E) * (b * B) - x * (a * B) * (e * E) by grind, p, q]; grind
theorem fr6 {u v B E B' E' w z : K} (h : u * v = w * z) : u * B * E * (v * B' * E') = w * B' * E' * (z * B * E) := by
  rw [show u * B * E * (v * B' * E') = u * v * (B * E * B' * E') by grind, h]; grind
theorem one_sub_zero : (1 : K) - 0 = 1 := by decide +kernel
theorem fr5 {u v m m' M M' : K} (h : u * m' = v * m) (q : m * M = 1) (q' : m' * M' = 1) : u * M = v * M' := by
  have h1 : u * M = u * m' * M * M' := by rw [show u * m' * M * M' = u * M * (m' * M') by grind, q']; grind
  have h2 : v * M' = v * m * M * M' := by rw [show v * m * M * M' = v * M' * (m * M) by grind, q]; grind
  rw [h1, h2, h]
/-! ### The curve x² + y² = 1 + d x² y², d no square -/
structure Ed where
  x : K
  y : K
def On (d : K) (P : Ed) : Prop := P.x * P.x + P.y * P.y = 1 + d * (P.x * P.x) * (P.y * P.y)
def Free (d : K) : Prop := ∀ s : K, s * s ≠ d
def tE (d : K) (P Q : Ed) : K := d * (P.x * Q.x) * (P.y * Q.y)
def addE (d : K) (P Q : Ed) : Ed := ⟨(P.x * Q.y + P.y * Q.x) * iv (1 + tE d P Q), (P.y * Q.y - P.x * Q.x) * iv (1 - tE d P Q)⟩
def negE (P : Ed) : Ed := ⟨-P.x, P.y⟩
def nulE : Ed := ⟨0, 1⟩
/-- The law is whole. -/
theorem t_ne {d : K} (hd : Free d) {P Q : Ed} (hP : On d P) (hQ : On d Q) : tE d P Q * tE d P Q ≠ 1 := by
  obtain ⟨x1, y1⟩ := P
  obtain ⟨x2, y2⟩ := Q
  unfold On tE at *
  dsimp only at *
  intro ht
  generalize hT : d * (x1 * x2) * (y1 * y2) = t at ht
  have hxy : x1 * y1 ≠ 0 := fun e => one_ne (by rw [← ht, ← hT]; grind)
  have k1 : (x1 + t * y1) * (x1 + t * y1) = d * ((x1 * y1) * (x2 + y2)) * ((x1 * y1) * (x2 + y2)) := by grind
  have k2 : (x1 - t * y1) * (x1 - t * y1) = d * ((x1 * y1) * (x2 - y2)) * ((x1 * y1) * (x2 - y2)) := by grind
  have key : ∀ a b : K, a * a = d * b * b → b = 0 := by
    intro a b h
    refine Classical.byContradiction fun hb => ?_
    have hi := iv_mul hb
    refine hd (a * iv b) ?_
    grind
  have z1 := key _ _ k1
  have z2 := key _ _ k2
  have z3 : x2 + y2 = 0 := (K_dom z1).resolve_left hxy
  have z4 : x2 - y2 = 0 := (K_dom z2).resolve_left hxy
  have z5 : x2 = 0 := by
    have : 2 * x2 = 0 := by grind
    exact (K_dom this).resolve_left two_ne
  exact one_ne (by rw [← ht, ← hT, z5]; grind)
theorem plus_ne {d : K} (hd : Free d) {P Q : Ed} (hP : On d P) (hQ : On d Q) : 1 + tE d P Q ≠ 0 := fun e => t_ne hd hP hQ (by grind)
theorem minus_ne {d : K} (hd : Free d) {P Q : Ed} (hP : On d P) (hQ : On d Q) : 1 - tE d P Q ≠ 0 := fun e => t_ne hd hP hQ (by grind)
theorem on_nul (d : K) : On d nulE := by unfold On nulE; dsimp only; grind
theorem on_neg {d : K} {P : Ed} (h : On d P) : On d (negE P) := by unfold On negE at *; dsimp only; grind
theorem on_add {d : K} (hd : Free d) {P Q : Ed} (hP : On d P) (hQ : On d Q) : On d (addE d P Q) := by
  have p1 := iv_mul (plus_ne hd hP hQ)
  have p2 := iv_mul (minus_ne hd hP hQ)
  have p1' := plus_ne hd hP hQ
  have p2' := minus_ne hd hP hQ
  unfold On addE tE at *
  dsimp only
  generalize iv (1 + d * (P.x * Q.x) * (P.y * Q.y)) = B at *
  generalize iv (1 - d * (P.x * Q.x) * (P.y * Q.y)) = E at *
  generalize P.x = x1 at *
  generalize P.y = y1 at *
  generalize Q.x = x2 at *
  generalize Q.y = y2 at *
  have key : ((x1 * y2 + y1 * x2) * (x1 * y2 + y1 * x2)) * ((1 - d * (x1 * x2) * (y1 * y2)) * (1 - d * (x1 * x2) * (y1 * y2))) + ((y1 * y2 - x1 * x2) * (y1 * y2 - x1 * x2)) * ((1 + d * (x1 * x2) * (y1 * y2)) * (1 + d * (x1 * x2) * (y1 * y2))) = ((1 - d * (x1 * x2) * (y1 * y2)) * (1 - d * (x1 * x2) * (y1 * y2))) * ((1 + d * (x1 * x2) * (y1 * y2)) * (1 + d * (x1 * x2) * (y1 * y2))) + d * ((x1 * y2 + y1 * x2) * (x1 * y2 + y1 * x2)) * ((y1 * y2 - x1 * x2) * (y1 * y2 - x1 * x2)) := by grind
  generalize 1 + d * (x1 * x2) * (y1 * y2) = b at *
  generalize 1 - d * (x1 * x2) * (y1 * y2) = e at *
  generalize x1 * y2 + y1 * x2 = a at *
  generalize y1 * y2 - x1 * x2 = c at *
  clear hP hQ
  refine cancelK (K_ne (K_ne p1' p1') (K_ne p2' p2')) ?_
  grind
theorem ed_comm {d : K} (P Q : Ed) : addE d P Q = addE d Q P := by
  unfold addE tE
  congr 1
  · congr 1
    · grind
    · congr 1
      grind
  · congr 1
    · grind
    · congr 1
      grind
theorem ed_nul {d : K} (P : Ed) : addE d P nulE = P := by
  have h1 : iv (1 : K) = 1 := iv_of (by grind)
  unfold addE tE nulE
  dsimp only
  have z : d * (P.x * 0) * (P.y * 1) = 0 := by grind
  have z1 : ∀ t : K, t = 0 → 1 + t = 1 := fun t h => by rw [h]; exact Fin.add_zero 1
  have z2 : ∀ t : K, t = 0 → 1 - t = 1 := fun t h => by rw [h]; exact one_sub_zero
  rw [z1 _ z, z2 _ z, h1, show (P.x * 1 + P.y * 0) * 1 = P.x by grind, show (P.y * 1 - P.x * 0) * 1 = P.y by grind]
theorem ed_neg {d : K} (hd : Free d) {P : Ed} (h : On d P) : addE d P (negE P) = nulE := by
  have p1 := iv_mul (plus_ne hd h (on_neg h))
  have p2 := iv_mul (minus_ne hd h (on_neg h))
  unfold addE nulE
  unfold tE negE On at *
  dsimp only at *
  generalize iv _ = B at *
  generalize iv _ = E at *
  congr 1
  · grind
  · grind

/-- The order of three plays no part. -/
theorem ed_assoc {d : K} (hd : Free d) {P Q R : Ed} (hP : On d P) (hQ : On d Q) (hR : On d R) (d0 : d ≠ 0) : addE d (addE d P Q) R = addE d P (addE d Q R) := by
  have i0 := iv_mul d0
  have p1 := iv_mul (plus_ne hd hP hQ)
  have p2 := iv_mul (minus_ne hd hP hQ)
  have p3 := iv_mul (plus_ne hd hQ hR)
  have p4 := iv_mul (minus_ne hd hQ hR)
  have q1 := iv_mul (plus_ne hd (on_add hd hP hQ) hR)
  have q2 := iv_mul (minus_ne hd (on_add hd hP hQ) hR)
  have q3 := iv_mul (plus_ne hd hP (on_add hd hQ hR))
  have q4 := iv_mul (minus_ne hd hP (on_add hd hQ hR))
  rw [show addE d (addE d P Q) R = ⟨((addE d P Q).x * R.y + (addE d P Q).y * R.x) * iv (1 + tE d (addE d P Q) R), ((addE d P Q).y * R.y - (addE d P Q).x * R.x) * iv (1 - tE d (addE d P Q) R)⟩ from rfl, show addE d P (addE d Q R) = ⟨(P.x * (addE d Q R).y + P.y * (addE d Q R).x) * iv (1 + tE d P (addE d Q R)), (P.y * (addE d Q R).y - P.x * (addE d Q R).x) * iv (1 - tE d P (addE d Q R))⟩ from rfl]
  unfold On at hP hQ hR
  generalize iv (1 + tE d (addE d P Q) R) = M at *
  generalize iv (1 - tE d (addE d P Q) R) = N at *
  generalize iv (1 + tE d P (addE d Q R)) = M' at *
  generalize iv (1 - tE d P (addE d Q R)) = N' at *
  unfold addE at *
  dsimp only at *
  unfold tE at *
  dsimp only at *
  generalize P.x = x1 at *
  generalize P.y = y1 at *
  generalize Q.x = x2 at *
  generalize Q.y = y2 at *
  generalize R.x = x3 at *
  generalize R.y = y3 at *
  generalize iv (1 + d * (x1 * x2) * (y1 * y2)) = B at *
  generalize iv (1 - d * (x1 * x2) * (y1 * y2)) = E at *
  generalize iv (1 + d * (x2 * x3) * (y2 * y3)) = B' at *
  generalize iv (1 - d * (x2 * x3) * (y2 * y3)) = E' at *
  generalize iv d = i at *
  have kx := assx x1 y1 x2 y2 x3 y3 d i i0 hP hQ hR
  have ky := assy x1 y1 x2 y2 x3 y3 d i i0 hP hQ hR
  clear hP hQ hR i0
  generalize 1 + d * (x1 * x2) * (y1 * y2) = b at *
  generalize 1 - d * (x1 * x2) * (y1 * y2) = e at *
  generalize 1 + d * (x2 * x3) * (y2 * y3) = b' at *
  generalize 1 - d * (x2 * x3) * (y2 * y3) = e' at *
  generalize x1 * y2 + y1 * x2 = a at *
  generalize y1 * y2 - x1 * x2 = c at *
  generalize x2 * y3 + y2 * x3 = a' at *
  generalize y2 * y3 - x2 * x3 = c' at *
  refine (congr (congrArg Ed.mk ?_) ?_)
  · have g1 := fr6 (B := B) (E := E) (B' := B') (E' := E') kx
    rw [fr1 p1 p2, fr3 p3 p4, fr4 p3 p4, fr2 p1 p2] at g1
    exact fr5 g1 q1 q3
  · have g1 := fr6 (B := B) (E := E) (B' := B') (E' := E') ky
    rw [fr1m p1 p2, fr3m p3 p4, fr4m p3 p4, fr2m p1 p2] at g1
    exact fr5 g1 q2 q4
end Go.Proofs.Ythgjhipfgdlbnaa
