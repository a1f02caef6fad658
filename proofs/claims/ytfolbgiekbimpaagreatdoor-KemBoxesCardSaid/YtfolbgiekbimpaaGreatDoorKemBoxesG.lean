/- Plain: the numbers modulo the prime of layer 5; the curve x² + y² = 1 + d x² y², where d is no square: its law is whole, and hangs on no order. Plain: the ladder of layer 6 is a multiple of a point of the curve, or of its twist; two numbers, one behind the other, hang on no order. Plain: the order of the point 9 is a prime; multiplied by clamped numbers it is never nothing. No program is in sight. Two blocks that are not the same are not encrypted to the same; no program is in sight. SHA-256: the ring of sixteen words against the document's sixty-four (no program). SHA-256, the reference: the  -/
import Derived.Test.YtfolbgiekbimpaaGreatDoorKemBoxesF
set_option linter.unusedSimpArgs false
set_option linter.unusedVariables false
set_option maxRecDepth 200000
set_option maxHeartbeats 6000000
namespace Go.Proofs.YtfolbgiekbimpaaGreatDoor
section
theorem zvB (v w e : Nat) : zdd (v * w) e = zdd v e * zdd w e := Nat.mul_pow v w e
instance pN_nz : NeZero pN := ⟨by unfold pN; decide +kernel⟩
abbrev K := Fin pN
def toK (a : Nat) : K := ⟨a % pN, Nat.mod_lt _ zcZ⟩
theorem ztz (a : K) : toK a.val = a := Fin.ext (Nat.mod_eq_of_lt a.isLt)
theorem zgt (a : Nat) : (toK a).val = a % pN := rfl
theorem znC {a b : Nat} : toK a = toK b ↔ a % pN = b % pN := ⟨fun h => congrArg Fin.val h, fun h => Fin.ext h⟩
theorem zoL (a b : Nat) : toK (a + b) = toK a + toK b := Fin.ext (Nat.add_mod a b pN)
theorem zmg (a b : Nat) : toK (a * b) = toK a * toK b := Fin.ext (Nat.mul_mod a b pN)
theorem zoM (a : Nat) : toK (a % pN) = toK a := Fin.ext (Nat.mod_mod a pN)
theorem zg1 : toK 0 = 0 := Fin.ext (by rw [zgt, Nat.zero_mod]; rfl)
theorem zjC : toK 1 = 1 := Fin.ext (by rw [zgt]; rfl)
theorem ztA (a b : Nat) : toK (fA a b) = toK a + toK b := by unfold fA; rw [zoM, zoL]
theorem zp5 (a b : Nat) : toK (fM a b) = toK a * toK b := by unfold fM; rw [zoM, zmg]
theorem zhL (a b : Nat) (h : b < pN) : toK (fS a b) = toK a - toK b := by
 unfold fS
 rw [zoM, zoL]
 have e : toK (pN - b) + toK b = 0 := by rw [← zoL, Nat.sub_add_cancel (Nat.le_of_lt h)]; exact Fin.ext (by rw [zgt, Nat.mod_self]; rfl)
 grind
theorem zdL {a b : K} (h : a * b = 0) : a = 0 ∨ b = 0 := by
 have h1 : a.val * b.val % pN = 0 := congrArg Fin.val h
 have hp : IsP pN := zaL.1
 rcases znn hp (Nat.dvd_of_mod_eq_zero h1) with h2 | h2
 ·exact .inl (Fin.ext (by have := Nat.eq_zero_of_dvd_of_lt h2 a.isLt; rw [this]; rfl))
 ·exact .inr (Fin.ext (by have := Nat.eq_zero_of_dvd_of_lt h2 b.isLt; rw [this]; rfl))
theorem zn7 {a b : K} (ha : a ≠ 0) (hb : b ≠ 0) : a * b ≠ 0 := fun h => (zdL h).elim ha hb
theorem zAn (n f b e : Nat) (h : e < 2 ^ f) : pw n f b e = zdd b e % n := zvm n f b e h
attribute [local irreducible] zdd
def iv (a : K) : K := toK (zdd a.val 57896044618658097711785492504343953926634992332820282019728792003956564819947)
theorem zbZ {a : K} (h : a ≠ 0) : a * iv a = 1 := by
 have h1 : a.val % pN ≠ 0 := fun e => h (Fin.ext (by rw [Nat.mod_eq_of_lt a.isLt] at e; rw [e]; rfl))
 have h2 := znC.2 (zys a.val h1)
 rw [zmg, ztz, zjC] at h2
 exact h2
theorem zyH : iv 0 = 0 := by
 have h := znp 57896044618658097711785492504343953926634992332820282019728792003956564819947 pN 0 (by omega) (Nat.zero_mod _)
 have h2 : iv 0 = toK (zdd 0 57896044618658097711785492504343953926634992332820282019728792003956564819947) := rfl
 rw [h2, ← zg1]
 exact znC.2 (h.trans (Nat.zero_mod _).symm)
theorem zBu {a : K} (h : a ≠ 0) : iv a ≠ 0 := fun e => by
 have h1 := zbZ h
 rw [e] at h1
 have : (0 : K) = 1 := by grind
 exact absurd (congrArg Fin.val this) (by decide +kernel)
theorem zhM : (1 : K) ≠ 0 := fun h => absurd (congrArg Fin.val h) (by decide +kernel)
theorem zhN : (2 : K) ≠ 0 := fun h => absurd (congrArg Fin.val h) (by decide +kernel)
theorem zyI {a b : K} (h : a * b = 1) : iv a = b := by
 have ha : a ≠ 0 := fun e => zhM (by rw [← h, e]; grind)
 have := zbZ ha
 grind
theorem ztB {a b c : K} (h : c ≠ 0) (e : a * c = b * c) : a = b := by
 have := zbZ h
 have e2 : a * c * iv c = b * c * iv c := by rw [e]
 grind
def pk (a : K) (n : Nat) : K := toK (zdd a.val n)
theorem zAo (a : K) : pk a 1 = a := by unfold pk; rw [zk5, ztz]
theorem zp6 (a : K) (m n : Nat) : pk a m * pk a n = pk a (m + n) := by unfold pk; rw [← zmg, ziq]
theorem zAp (a b : K) (n : Nat) : pk (a * b) n = pk a n * pk b n := by
 unfold pk
 rw [← zmg, ← zvB]
 exact znC.2 (zvp _ _ _ _ (by rw [show (a * b).val = a.val * b.val % pN from rfl, Nat.mod_mod]))
theorem zyJ {a : K} (h : a ≠ 0) : pk a 57896044618658097711785492504343953926634992332820282019728792003956564819948 = 1 := by
 have h1 : a.val % pN ≠ 0 := fun e => h (Fin.ext (by rw [Nat.mod_eq_of_lt a.isLt] at e; rw [e]; rfl))
 have h2 := znq a.val h1
 unfold pk
 rw [← zjC]
 exact znC.2 (h2.trans (Nat.mod_eq_of_lt zir).symm)
theorem zit {a : K} (h : a * a = 1) : a = 1 ∨ a = -1 := by
 have : (a - 1) * (a + 1) = 0 := by grind
 rcases zdL this with h1 | h1
 ·exact .inl (by grind)
 ·exact .inr (by grind)
def hf (a : K) : K := pk a 28948022309329048855892746252171976963317496166410141009864396001978282409974
theorem zp7 {a : K} (h : a ≠ 0) : hf a = 1 ∨ hf a = -1 := zit (by
 unfold hf
 rw [zp6]
 exact zyJ h)
theorem ztC (a b : K) : hf (a * b) = hf a * hf b := zAp a b _
theorem zBv {a : K} (h : a ≠ 0) : hf (a * a) = 1 := by
 rw [ztC]
 rcases zp7 h with h1 | h1 <;> rw [h1] <;> grind
theorem zp8 : (-1 : K) ≠ 1 := fun h => absurd (congrArg Fin.val h) (by decide +kernel)
theorem ztD {a : K} (h : hf a = 1) : ∃ r : K, r * r = a := by
 have h1 : pk a 14474011154664524427946373126085988481658748083205070504932198000989141204987 * pk a 14474011154664524427946373126085988481658748083205070504932198000989141204987 = 1 := by rw [zp6]; exact h
 have h2 : pk a 7237005577332262213973186563042994240829374041602535252466099000494570602494 * pk a 7237005577332262213973186563042994240829374041602535252466099000494570602494 = pk a 14474011154664524427946373126085988481658748083205070504932198000989141204987 * a := by
  rw [zp6]
  have := zp6 a 14474011154664524427946373126085988481658748083205070504932198000989141204987 1
  rw [zAo] at this
  rw [this]
 rcases zit h1 with h3 | h3
 ·exact ⟨_, by rw [h2, h3]; grind⟩
 ·have hi : toK 19681161376707505956807079304988542015446066515923890162744021073123829784752 * toK 19681161376707505956807079304988542015446066515923890162744021073123829784752 = (-1 : K) := by decide +kernel
  generalize toK 19681161376707505956807079304988542015446066515923890162744021073123829784752 = i at hi
  generalize pk a 7237005577332262213973186563042994240829374041602535252466099000494570602494 = r at h2
  exact ⟨i * r, by rw [show i * r * (i * r) = i * i * (r * r) by grind, hi, h2, h3]; grind⟩
theorem zAq (v : Nat) (k : Nat) (h : pw pN 256 (v % pN) 28948022309329048855892746252171976963317496166410141009864396001978282409974 = k) : hf (toK v) = toK k := by
 unfold hf pk
 rw [zgt]
 have h1 := zAn pN 256 (v % pN) 28948022309329048855892746252171976963317496166410141009864396001978282409974 (by decide +kernel)
 refine znC.2 ?_
 rw [← h1, h]
 rw [← h, h1, Nat.mod_mod]
def cA : K := toK 486662
theorem zmh : hf (cA - 2) = -1 := by
 have h := zAq 486660 57896044618658097711785492504343953926634992332820282019728792003956564819948 (by decide +kernel)
 have e1 : cA - 2 = toK 486660 := by decide +kernel
 have e2 : (-1 : K) = toK 57896044618658097711785492504343953926634992332820282019728792003956564819948 := by decide +kernel
 rw [e1, h, e2]
def cS : K := toK 48802004052532134862652268456126542835229456083994414501085850622543968879637
theorem zAr : cS * cS = cA + 2 := by decide +kernel
theorem zmi : cA + 2 ≠ 0 := fun h => absurd (congrArg Fin.val h) (by decide +kernel)
theorem zmj : cA - 2 ≠ 0 := fun h => absurd (congrArg Fin.val h) (by decide +kernel)
theorem zp9 {a r : K} (h : r * r = a) (ha : a ≠ 0) : hf a = 1 := by
 rw [← h]
 exact zBv fun e => ha (by rw [← h, e]; grind)
theorem ztE : hf (cA + 2) = 1 := zp9 zAr zmi
theorem zyK (s : K) : s * s ≠ (cA - 2) * (cA + 2) := fun h => by
 have h1 := zp9 h (zn7 zmj zmi)
 rw [ztC, zmh, ztE] at h1
 exact zp8 (by grind)
theorem zCB (x1 y1 x2 y2 x3 y3 d i : K) (hd : d * i = 1) (h1 : x1 * x1 + y1 * y1 = 1 + d * (x1 * x1) * (y1 * y1)) (h2 : x2 * x2 + y2 * y2 = 1 + d * (x2 * x2) * (y2 * y2)) (h3 : x3 * x3 + y3 * y3 = 1 + d * (x3 * x3) * (y3 * y3)) :
  ((x1 * y2 + y1 * x2) * (1 - d * (x1 * x2) * (y1 * y2)) * y3 + (y1 * y2 - x1 * x2) * (1 + d * (x1 * x2) * (y1 * y2)) * x3) * ((1 + d * (x2 * x3) * (y2 * y3)) * (1 - d * (x2 * x3) * (y2 * y3)) + d * (x2 * y3 + y2 * x3) * (y2 * y3 - x2 * x3) * (x1 * y1)) =
  (x1 * (y2 * y3 - x2 * x3) * (1 + d * (x2 * x3) * (y2 * y3)) + y1 * (x2 * y3 + y2 * x3) * (1 - d * (x2 * x3) * (y2 * y3))) * ((1 + d * (x1 * x2) * (y1 * y2)) * (1 - d * (x1 * x2) * (y1 * y2)) + d * (x1 * y2 + y1 * x2) * (y1 * y2 - x1 * x2) * (x3 * y3)) := by grind
theorem zCC (x1 y1 x2 y2 x3 y3 d i : K) (hd : d * i = 1) (h1 : x1 * x1 + y1 * y1 = 1 + d * (x1 * x1) * (y1 * y1)) (h2 : x2 * x2 + y2 * y2 = 1 + d * (x2 * x2) * (y2 * y2)) (h3 : x3 * x3 + y3 * y3 = 1 + d * (x3 * x3) * (y3 * y3)) :
  ((y1 * y2 - x1 * x2) * (1 + d * (x1 * x2) * (y1 * y2)) * y3 - (x1 * y2 + y1 * x2) * (1 - d * (x1 * x2) * (y1 * y2)) * x3) * ((1 + d * (x2 * x3) * (y2 * y3)) * (1 - d * (x2 * x3) * (y2 * y3)) - d * (x2 * y3 + y2 * x3) * (y2 * y3 - x2 * x3) * (x1 * y1)) =
  (y1 * (y2 * y3 - x2 * x3) * (1 + d * (x2 * x3) * (y2 * y3)) - x1 * (x2 * y3 + y2 * x3) * (1 - d * (x2 * x3) * (y2 * y3))) * ((1 + d * (x1 * x2) * (y1 * y2)) * (1 - d * (x1 * x2) * (y1 * y2)) - d * (x1 * y2 + y1 * x2) * (y1 * y2 - x1 * x2) * (x3 * y3)) := by grind
theorem fr1 {a e y c b x B E : K} (p : b * B = 1) (q : e * E = 1) : (a * e * y + c * b * x) * B * E = a * B * y + c * E * x := by
 rw [show (a * e * y + c * b * x) * B * E = a * B * y * (e * E) + c * E * x * (b * B) by grind, p, q]; grind
theorem zCD {a e y c b x B E : K} (p : b * B = 1) (q : e * E = 1) : (c * b * y - a * e * x) * B * E = c * E * y - a * B * x := by
 rw [show (c * b * y - a * e * x) * B * E = c * E * y * (b * B) - a * B * x * (e * E) by grind, p, q]; grind
theorem fr2 {d a c x y b e B E : K} (p : b * B = 1) (q : e * E = 1) : (b * e + d * a * c * (x * y)) * B * E = 1 + d * (a * B * x) * (c * E * y) := by
 rw [show (b * e + d * a * c * (x * y)) * B * E = b * B * (e * E) + d * (a * B * x) * (c * E * y) by grind, p, q]; grind
theorem zCf {d a c x y b e B E : K} (p : b * B = 1) (q : e * E = 1) : (b * e - d * a * c * (x * y)) * B * E = 1 - d * (a * B * x) * (c * E * y) := by
 rw [show (b * e - d * a * c * (x * y)) * B * E = b * B * (e * E) - d * (a * B * x) * (c * E * y) by grind, p, q]; grind
theorem fr3 {d a c x y b e B E : K} (p : b * B = 1) (q : e * E = 1) : (b * e + d * a * c * (x * y)) * B * E = 1 + d * (x * (a * B)) * (y * (c * E)) := by
 rw [fr2 p q]; grind
theorem zCE {d a c x y b e B E : K} (p : b * B = 1) (q : e * E = 1) : (b * e - d * a * c * (x * y)) * B * E = 1 - d * (x * (a * B)) * (y * (c * E)) := by
 rw [zCf p q]; grind
theorem fr4 {x c b y a e B E : K} (p : b * B = 1) (q : e * E = 1) : (x * c * b + y * a * e) * B * E = x * (c * E) + y * (a * B) := by
 rw [show (x * c * b + y * a * e) * B * E = x * (c * E) * (b * B) + y * (a * B) * (e * E) by grind, p, q]; grind
theorem zCF {x c b y a e B E : K} (p : b * B = 1) (q : e * E = 1) : (y * c * b - x * a * e) * B * E = y * (c * E) - x * (a * B) := by
 rw [show (y * c * b - x * a * e) * B * E = y * (c * E) * (b * B) - x * (a * B) * (e * E) by grind, p, q]; grind
theorem fr6 {u v B E B' E' w z : K} (h : u * v = w * z) : u * B * E * (v * B' * E') = w * B' * E' * (z * B * E) := by
 rw [show u * B * E * (v * B' * E') = u * v * (B * E * B' * E') by grind, h]; grind
theorem zfJ : (1 : K) - 0 = 1 := by decide +kernel
theorem fr5 {u v m m' M M' : K} (h : u * m' = v * m) (q : m * M = 1) (q' : m' * M' = 1) : u * M = v * M' := by
 have h1 : u * M = u * m' * M * M' := by rw [show u * m' * M * M' = u * M * (m' * M') by grind, q']; grind
 have h2 : v * M' = v * m * M * M' := by rw [show v * m * M * M' = v * M' * (m * M) by grind, q]; grind
 rw [h1, h2, h]
structure Ed where
 x : K
 y : K
def On (d : K) (P : Ed) : Prop := P.x * P.x + P.y * P.y = 1 + d * (P.x * P.x) * (P.y * P.y)
def zn8 (d : K) : Prop := ∀ s : K, s * s ≠ d
def tE (d : K) (P Q : Ed) : K := d * (P.x * Q.x) * (P.y * Q.y)
def zcE (d : K) (P Q : Ed) : Ed := ⟨(P.x * Q.y + P.y * Q.x) * iv (1 + tE d P Q), (P.y * Q.y - P.x * Q.x) * iv (1 - tE d P Q)⟩
def zn9 (P : Ed) : Ed := ⟨-P.x, P.y⟩
def zgy : Ed := ⟨0, 1⟩
theorem zCg {d : K} (hd : zn8 d) {P Q : Ed} (hP : On d P) (hQ : On d Q) : tE d P Q * tE d P Q ≠ 1 := by
 obtain ⟨x1, y1⟩ := P
 obtain ⟨x2, y2⟩ := Q
 unfold On tE at *
 dsimp only at *
 intro ht
 generalize hT : d * (x1 * x2) * (y1 * y2) = t at ht
 have hxy : x1 * y1 ≠ 0 := fun e => zhM (by rw [← ht, ← hT]; grind)
 have k1 : (x1 + t * y1) * (x1 + t * y1) = d * ((x1 * y1) * (x2 + y2)) * ((x1 * y1) * (x2 + y2)) := by grind
 have k2 : (x1 - t * y1) * (x1 - t * y1) = d * ((x1 * y1) * (x2 - y2)) * ((x1 * y1) * (x2 - y2)) := by grind
 have key : ∀ a b : K, a * a = d * b * b → b = 0 := by
  intro a b h
  refine Classical.byContradiction fun hb => ?_
  have hi := zbZ hb
  refine hd (a * iv b) ?_
  grind
 have z1 := key _ _ k1
 have z2 := key _ _ k2
 have z3 : x2 + y2 = 0 := (zdL z1).resolve_left hxy
 have z4 : x2 - y2 = 0 := (zdL z2).resolve_left hxy
 have z5 : x2 = 0 := by
  have : 2 * x2 = 0 := by grind
  exact (zdL this).resolve_left zhN
 exact zhM (by rw [← ht, ← hT, z5]; grind)
theorem zfc {d : K} (hd : zn8 d) {P Q : Ed} (hP : On d P) (hQ : On d Q) : 1 + tE d P Q ≠ 0 := fun e => zCg hd hP hQ (by grind)
theorem zc3 {d : K} (hd : zn8 d) {P Q : Ed} (hP : On d P) (hQ : On d Q) : 1 - tE d P Q ≠ 0 := fun e => zCg hd hP hQ (by grind)
theorem zAs (d : K) : On d zgy := by unfold On zgy; dsimp only; grind
theorem zqa {d : K} {P : Ed} (h : On d P) : On d (zn9 P) := by unfold On zn9 at *; dsimp only; grind
theorem znD {d : K} (hd : zn8 d) {P Q : Ed} (hP : On d P) (hQ : On d Q) : On d (zcE d P Q) := by
 have p1 := zbZ (zfc hd hP hQ)
 have p2 := zbZ (zc3 hd hP hQ)
 have p1' := zfc hd hP hQ
 have p2' := zc3 hd hP hQ
 unfold On zcE tE at *
 dsimp only
 generalize iv (1 + d * (P.x * Q.x) * (P.y * Q.y)) = B at *
 generalize iv (1 - d * (P.x * Q.x) * (P.y * Q.y)) = E at *
 generalize P.x = x1 at *
 generalize P.y = y1 at *
 generalize Q.x = x2 at *
 generalize Q.y = y2 at *
 have key : ((x1 * y2 + y1 * x2) * (x1 * y2 + y1 * x2)) * ((1 - d * (x1 * x2) * (y1 * y2)) * (1 - d * (x1 * x2) * (y1 * y2))) + ((y1 * y2 - x1 * x2) * (y1 * y2 - x1 * x2)) * ((1 + d * (x1 * x2) * (y1 * y2)) * (1 + d * (x1 * x2) * (y1 * y2))) = ((1 - d * (x1 * x2) * (y1 * y2)) * (1 - d * (x1 * x2) * (y1 * y2))) * ((1 + d * (x1 * x2) * (y1 * y2)) * (1 + d * (x1 * x2) * (y1 * y2))) + d * ((x1 * y2 + y1 * x2) * (x1 * y2 + y1 * x2)) * ((y1 * y2 - x1 * x2) * (y1 * y2 - x1 * x2)) := by grind
 generalize 1 + d * (x1 * x2) * (y1 * y2) = b at *
 generalize 1 - d * (x1 * x2) * (y1 * y2) = e at *
 generalize x1 * y2 + y1 * x2 = a at *
 generalize y1 * y2 - x1 * x2 = c at *
 clear hP hQ
 refine ztB (zn7 (zn7 p1' p1') (zn7 p2' p2')) ?_
 grind
theorem ztF {d : K} (P Q : Ed) : zcE d P Q = zcE d Q P := by
 unfold zcE tE
 congr 1
 ·congr 1
  ·grind
  ·congr 1
   grind
 ·congr 1
  ·grind
  ·congr 1
   grind
theorem zqb {d : K} (P : Ed) : zcE d P zgy = P := by
 have h1 : iv (1 : K) = 1 := zyI (by grind)
 unfold zcE tE zgy
 dsimp only
 have z : d * (P.x * 0) * (P.y * 1) = 0 := by grind
 have z1 : ∀ t : K, t = 0 → 1 + t = 1 := fun t h => by rw [h]; exact Fin.add_zero 1
 have z2 : ∀ t : K, t = 0 → 1 - t = 1 := fun t h => by rw [h]; exact zfJ
 rw [z1 _ z, z2 _ z, h1, show (P.x * 1 + P.y * 0) * 1 = P.x by grind, show (P.y * 1 - P.x * 0) * 1 = P.y by grind]
theorem zAt {d : K} (hd : zn8 d) {P : Ed} (h : On d P) : zcE d P (zn9 P) = zgy := by
 have p1 := zbZ (zfc hd h (zqa h))
 have p2 := zbZ (zc3 hd h (zqa h))
 unfold zcE zgy
 unfold tE zn9 On at *
 dsimp only at *
 generalize iv _ = B at *
 generalize iv _ = E at *
 congr 1
 ·grind
 ·grind
theorem zqc {d : K} (hd : zn8 d) {P Q R : Ed} (hP : On d P) (hQ : On d Q) (hR : On d R) (d0 : d ≠ 0) : zcE d (zcE d P Q) R = zcE d P (zcE d Q R) := by
 have i0 := zbZ d0
 have p1 := zbZ (zfc hd hP hQ)
 have p2 := zbZ (zc3 hd hP hQ)
 have p3 := zbZ (zfc hd hQ hR)
 have p4 := zbZ (zc3 hd hQ hR)
 have q1 := zbZ (zfc hd (znD hd hP hQ) hR)
 have q2 := zbZ (zc3 hd (znD hd hP hQ) hR)
 have q3 := zbZ (zfc hd hP (znD hd hQ hR))
 have q4 := zbZ (zc3 hd hP (znD hd hQ hR))
 rw [show zcE d (zcE d P Q) R = ⟨((zcE d P Q).x * R.y + (zcE d P Q).y * R.x) * iv (1 + tE d (zcE d P Q) R), ((zcE d P Q).y * R.y - (zcE d P Q).x * R.x) * iv (1 - tE d (zcE d P Q) R)⟩ from rfl, show zcE d P (zcE d Q R) = ⟨(P.x * (zcE d Q R).y + P.y * (zcE d Q R).x) * iv (1 + tE d P (zcE d Q R)), (P.y * (zcE d Q R).y - P.x * (zcE d Q R).x) * iv (1 - tE d P (zcE d Q R))⟩ from rfl]
 unfold On at hP hQ hR
 generalize iv (1 + tE d (zcE d P Q) R) = M at *
 generalize iv (1 - tE d (zcE d P Q) R) = N at *
 generalize iv (1 + tE d P (zcE d Q R)) = M' at *
 generalize iv (1 - tE d P (zcE d Q R)) = N' at *
 unfold zcE at *
 dsimp only at *
 unfold tE at *
 dsimp only at *
 generalize P.x = x1 at *
 generalize P.y = y1 at *
 generalize Q.x = x2 at *
 generalize Q.y = y2 at *
 generalize R.x = x3 at *
 generalize R.y = y3 at *
 generalize iv (1 + d * (x1 * x2) * (y1 * y2)) = B at *
 generalize iv (1 - d * (x1 * x2) * (y1 * y2)) = E at *
 generalize iv (1 + d * (x2 * x3) * (y2 * y3)) = B' at *
 generalize iv (1 - d * (x2 * x3) * (y2 * y3)) = E' at *
 generalize iv d = i at *
 have kx := zCB x1 y1 x2 y2 x3 y3 d i i0 hP hQ hR
 have ky := zCC x1 y1 x2 y2 x3 y3 d i i0 hP hQ hR
 clear hP hQ hR i0
 generalize 1 + d * (x1 * x2) * (y1 * y2) = b at *
 generalize 1 - d * (x1 * x2) * (y1 * y2) = e at *
 generalize 1 + d * (x2 * x3) * (y2 * y3) = b' at *
 generalize 1 - d * (x2 * x3) * (y2 * y3) = e' at *
 generalize x1 * y2 + y1 * x2 = a at *
 generalize y1 * y2 - x1 * x2 = c at *
 generalize x2 * y3 + y2 * x3 = a' at *
 generalize y2 * y3 - x2 * x3 = c' at *
 refine (congr (congrArg Ed.mk ?_) ?_)
 ·have g1 := fr6 (B := B) (E := E) (B' := B') (E' := E') kx
  rw [fr1 p1 p2, fr3 p3 p4, fr4 p3 p4, fr2 p1 p2] at g1
  exact fr5 g1 q1 q3
 ·have g1 := fr6 (B := B) (E := E) (B' := B') (E' := E') ky
  rw [zCD p1 p2, zCE p3 p4, zCF p3 p4, zCf p1 p2] at g1
  exact fr5 g1 q2 q4
end
section
attribute [local irreducible] zdd
def zdT (d : K) (P : Ed) : Nat → Ed
 | 0 => zgy
 | n + 1 => zcE d (zdT d P n) P
theorem zfK {d : K} (hd : zn8 d) {P : Ed} (h : On d P) : ∀ n, On d (zdT d P n)
 | 0 => zAs d
 | n + 1 => znD hd (zfK hd h n) h
theorem zjD {d : K} (P : Ed) : zcE d zgy P = P := by rw [ztF, zqb]
theorem zf2 {d : K} (hd : zn8 d) (d0 : d ≠ 0) {P : Ed} (h : On d P) (m : Nat) : ∀ n, zdT d P (m + n) = zcE d (zdT d P m) (zdT d P n)
 | 0 => (zqb _).symm
 | n + 1 => by
  rw [← Nat.add_assoc, show zdT d P (m + n + 1) = zcE d (zdT d P (m + n)) P from rfl, zf2 hd d0 h m n, show zdT d P (n + 1) = zcE d (zdT d P n) P from rfl]
  exact zqc hd (zfK hd h m) (zfK hd h n) h d0
theorem ziu {d : K} (hd : zn8 d) (d0 : d ≠ 0) {P : Ed} (h : On d P) (m : Nat) : ∀ n, zdT d (zdT d P m) n = zdT d P (m * n)
 | 0 => rfl
 | n + 1 => by
  rw [show zdT d (zdT d P m) (n + 1) = zcE d (zdT d (zdT d P m) n) (zdT d P m) from rfl, ziu hd d0 h m n, Nat.mul_succ, zf2 hd d0 h]
theorem zvC {d : K} (hd : zn8 d) (d0 : d ≠ 0) {P : Ed} (h : On d P) (n : Nat) : zcE d (zdT d P (n + 1)) (zn9 (zdT d P n)) = P := by
 rw [show zdT d P (n + 1) = zcE d (zdT d P n) P from rfl, ztF (zdT d P n) P, zqc hd h (zfK hd h n) (zqa (zfK hd h n)) d0, zAt hd (zfK hd h n), zqb]
theorem zoN {d : K} : ∀ n, zdT d zgy n = zgy
 | 0 => rfl
 | n + 1 => by rw [show zdT d zgy (n + 1) = zcE d (zdT d zgy n) zgy from rfl, zoN n, zqb]
def zh7 : Ed := ⟨0, -1⟩
theorem znE {d : K} : zcE d zh7 zh7 = zgy := by
 have h1 : iv (1 : K) = 1 := zyI (by grind)
 unfold zcE tE zh7 zgy
 dsimp only
 have z : d * (0 * 0) * (-1 * -1) = (0 : K) := by grind
 have z1 : (1 : K) + 0 = 1 := Fin.add_zero 1
 rw [z, z1, zfJ, h1]
 congr 1 <;> decide +kernel
theorem zqd {d : K} : ∀ n, zdT d zh7 n = zgy ∨ zdT d zh7 n = zh7
 | 0 => .inl rfl
 | n + 1 => by
  rw [show zdT d zh7 (n + 1) = zcE d (zdT d zh7 n) zh7 from rfl]
  rcases zqd (d := d) n with h | h
  ·rw [h, zjD]; exact .inr rfl
  ·rw [h, znE]; exact .inl rfl
def cB : K := toK 121665
theorem zAu : cA = 4 * cB + 2 := by decide +kernel
structure Cv (d e : K) : Prop where
 free : zn8 d
 nz : d ≠ 0
 way : e = 1 ∧ d * (cB + 1) = cB ∨ e = -1 ∧ d * cB = cB + 1
def Rep (e X Z : K) (P : Ed) : Prop := X * (1 - P.y) = e * Z * (1 + P.y) ∧ ¬(X = 0 ∧ Z = 0)
theorem zBw : (2 : K) * iv 2 = 1 := zbZ zhN
theorem zoO {e X Z : K} {P : Ed} (he : e * e = 1) (h : Rep e X Z P) : ∃ l : K, l ≠ 0 ∧ X = e * l * (1 + P.y) ∧ Z = l * (1 - P.y) := by
 obtain ⟨h1, h2⟩ := h
 have h3 := zBw
 generalize iv (2 : K) = t at h3
 have a1 : X = e * ((e * X + Z) * t) * (1 + P.y) := by
  generalize P.y = y at *
  grind
 have a2 : Z = (e * X + Z) * t * (1 - P.y) := by
  generalize P.y = y at *
  grind
 refine ⟨_, fun e0 => h2 ?_, a1, a2⟩
 rw [e0] at a1 a2
 exact ⟨by rw [a1]; grind, by rw [a2]; grind⟩
theorem ee {d e : K} (h : Cv d e) : e * e = 1 := by rcases h.way with ⟨h1, _⟩ | ⟨h1, _⟩ <;> rw [h1] <;> decide +kernel
theorem zvD {d y x c : K} (hd : d * (c + 1) = c) (h : x * x + y * y = 1 + d * (x * x) * (y * y)) : (1 - x * x) * (1 + c * (1 - y * y)) = y * y := by grind
theorem zvE {d y x c : K} (hd : d * c = c + 1) (h : x * x + y * y = 1 + d * (x * x) * (y * y)) : (1 - x * x) * (c - (c + 1) * (y * y)) = -(y * y) := by grind
theorem zBx {d : K} {P : Ed} (hd : zn8 d) (h : On d P) : ∃ q : K, q ≠ 0 ∧ q * (1 - (zcE d P P).y) = 2 - 2 * (P.y * P.y) ∧ q * (1 + (zcE d P P).y) = 2 - 2 * (P.x * P.x) := by
 have p2 := zbZ (zc3 hd h h)
 have p2' := zc3 hd h h
 refine ⟨_, p2', ?_, ?_⟩
 ·unfold zcE
  unfold tE On at *
  dsimp only at *
  generalize iv _ = E at *
  generalize P.x = x at *
  generalize P.y = y at *
  rw [show (1 - d * (x * x) * (y * y)) * (1 - (y * y - x * x) * E) = (1 - d * (x * x) * (y * y)) - (y * y - x * x) * ((1 - d * (x * x) * (y * y)) * E) by clear h p2 p2'; grind, p2]
  clear p2 p2'
  grind
 ·unfold zcE
  unfold tE On at *
  dsimp only at *
  generalize iv _ = E at *
  generalize P.x = x at *
  generalize P.y = y at *
  rw [show (1 - d * (x * x) * (y * y)) * (1 + (y * y - x * x) * E) = (1 - d * (x * x) * (y * y)) + (y * y - x * x) * ((1 - d * (x * x) * (y * y)) * E) by clear h p2 p2'; grind, p2]
  clear p2 p2'
  grind
theorem zdr {a b c : K} (h : c ≠ 0) (e : c * a = c * b) : a = b := ztB h (by rw [show a * c = c * a by grind, e]; grind)
theorem zks : (16 : K) ≠ 0 := fun h => absurd (congrArg Fin.val h) (by decide +kernel)
theorem zBy : cB ≠ 0 := fun h => absurd (congrArg Fin.val h) (by decide +kernel)
theorem zAv : cB + 1 ≠ 0 := fun h => absurd (congrArg Fin.val h) (by decide +kernel)
theorem zyL {d e X Z : K} {P : Ed} (hc : Cv d e) (hP : On d P) (h : Rep e X Z P) :
  Rep e (((X + Z) * (X + Z)) * ((X - Z) * (X - Z))) (((X + Z) * (X + Z) - (X - Z) * (X - Z)) * ((X + Z) * (X + Z) + cB * ((X + Z) * (X + Z) - (X - Z) * (X - Z)))) (zcE d P P) := by
 obtain ⟨l, hl, e1, e2⟩ := zoO (ee hc) h
 obtain ⟨q, hq, k1, k2⟩ := zBx hc.free hP
 clear h
 unfold Rep
 have c0 := zBy
 have c1 := zAv
 have w := hc.way
 generalize cB = c at *
 generalize (zcE d P P).y = Y at *
 unfold On at hP
 generalize P.x = x at *
 generalize P.y = y at *
 have l4 : 16 * (l * l * l * l) ≠ 0 := zn7 zks (zn7 (zn7 (zn7 hl hl) hl) hl)
 subst e1 e2
 rcases w with ⟨he, hd⟩ | ⟨he, hd⟩
 ·subst he
  have k3 := zvD hd hP
  have g1 : (1 * l * (1 + y) + l * (1 - y)) * (1 * l * (1 + y) + l * (1 - y)) = 4 * (l * l) := by clear k1 k2 k3 hP hd; grind
  have g2 : (1 * l * (1 + y) - l * (1 - y)) * (1 * l * (1 + y) - l * (1 - y)) = 4 * (l * l) * (y * y) := by clear k1 k2 k3 hP hd; grind
  rw [g1, g2]
  clear g1 g2
  have g3 : 4 * (l * l) * (4 * (l * l) * (y * y)) = 16 * (l * l * l * l) * (y * y) := by clear k1 k2 k3 hP hd; grind
  have g4 : (4 * (l * l) - 4 * (l * l) * (y * y)) * (4 * (l * l) + c * (4 * (l * l) - 4 * (l * l) * (y * y))) = 16 * (l * l * l * l) * ((1 - y * y) * (1 + c * (1 - y * y))) := by clear k1 k2 k3 hP hd; grind
  rw [g3, g4]
  clear g3 g4
  generalize 16 * (l * l * l * l) = m at *
  refine ⟨zdr hq ?_, fun ⟨z1, z2⟩ => ?_⟩
  ·rw [show q * (m * (y * y) * (1 - Y)) = m * (y * y) * (q * (1 - Y)) by clear k1 k2 k3 hP hd; grind, show q * (1 * (m * ((1 - y * y) * (1 + c * (1 - y * y)))) * (1 + Y)) = m * ((1 - y * y) * (1 + c * (1 - y * y))) * (q * (1 + Y)) by clear k1 k2 k3 hP hd; grind, k1, k2, show m * ((1 - y * y) * (1 + c * (1 - y * y))) * (2 - 2 * (x * x)) = m * (2 - 2 * (y * y)) * ((1 - x * x) * (1 + c * (1 - y * y))) by clear k1 k2 k3 hP hd; grind, k3]
   clear k1 k2 k3 hP hd
   grind
  ·have z3 := (zdL z1).resolve_left l4
   have z4 := (zdL z2).resolve_left l4
   rw [z3] at z4
   exact c1 (by clear k1 k2 k3 hP hd; grind)
 ·subst he
  have k3 := zvE hd hP
  have g1 : (-1 * l * (1 + y) + l * (1 - y)) * (-1 * l * (1 + y) + l * (1 - y)) = 4 * (l * l) * (y * y) := by clear k1 k2 k3 hP hd; grind
  have g2 : (-1 * l * (1 + y) - l * (1 - y)) * (-1 * l * (1 + y) - l * (1 - y)) = 4 * (l * l) := by clear k1 k2 k3 hP hd; grind
  rw [g1, g2]
  clear g1 g2
  have g3 : 4 * (l * l) * (y * y) * (4 * (l * l)) = 16 * (l * l * l * l) * (y * y) := by clear k1 k2 k3 hP hd; grind
  have g4 : (4 * (l * l) * (y * y) - 4 * (l * l)) * (4 * (l * l) * (y * y) + c * (4 * (l * l) * (y * y) - 4 * (l * l))) = 16 * (l * l * l * l) * ((1 - y * y) * (c - (c + 1) * (y * y))) := by clear k1 k2 k3 hP hd; grind
  rw [g3, g4]
  clear g3 g4
  generalize 16 * (l * l * l * l) = m at *
  refine ⟨zdr hq ?_, fun ⟨z1, z2⟩ => ?_⟩
  ·rw [show q * (m * (y * y) * (1 - Y)) = m * (y * y) * (q * (1 - Y)) by clear k1 k2 k3 hP hd; grind, show q * (-1 * (m * ((1 - y * y) * (c - (c + 1) * (y * y)))) * (1 + Y)) = -(m * ((1 - y * y) * (c - (c + 1) * (y * y))) * (q * (1 + Y))) by clear k1 k2 k3 hP hd; grind, k1, k2, show m * ((1 - y * y) * (c - (c + 1) * (y * y))) * (2 - 2 * (x * x)) = m * (2 - 2 * (y * y)) * ((1 - x * x) * (c - (c + 1) * (y * y))) by clear k1 k2 k3 hP hd; grind, k3]
   clear k1 k2 k3 hP hd
   grind
  ·have z3 := (zdL z1).resolve_left l4
   have z4 := (zdL z2).resolve_left l4
   rw [z3] at z4
   exact c0 (by clear k1 k2 k3 hP hd; grind)
theorem zBz {d : K} {P Q : Ed} (hd : zn8 d) (hP : On d P) (hQ : On d Q) : (P.y + Q.y) * (P.y + Q.y) * ((1 - (zcE d P Q).y) * (1 - (zcE d P (zn9 Q)).y)) = (P.y - Q.y) * (P.y - Q.y) * ((1 + (zcE d P Q).y) * (1 + (zcE d P (zn9 Q)).y)) := by
 have p1 := zbZ (zfc hd hP hQ)
 have p2 := zbZ (zc3 hd hP hQ)
 have p3 := zbZ (zc3 hd hP (zqa hQ))
 have p1' := zfc hd hP hQ
 have p2' := zc3 hd hP hQ
 unfold zcE
 unfold tE zn9 On at *
 dsimp only at *
 have t1 : 1 - d * (P.x * -Q.x) * (P.y * Q.y) = 1 + d * (P.x * Q.x) * (P.y * Q.y) := by clear p1 p2 p3 hP hQ p1' p2'; grind
 rw [t1] at p3 ⊢
 clear p3 t1
 generalize iv (1 + d * (P.x * Q.x) * (P.y * Q.y)) = B at *
 generalize iv (1 - d * (P.x * Q.x) * (P.y * Q.y)) = E at *
 generalize P.x = x1 at *
 generalize P.y = y1 at *
 generalize Q.x = x2 at *
 generalize Q.y = y2 at *
 have key : (y1 + y2) * (y1 + y2) * ((1 - d * (x1 * x2) * (y1 * y2) - (y1 * y2 - x1 * x2)) * (1 + d * (x1 * x2) * (y1 * y2) - (y1 * y2 + x1 * x2))) = (y1 - y2) * (y1 - y2) * ((1 - d * (x1 * x2) * (y1 * y2) + (y1 * y2 - x1 * x2)) * (1 + d * (x1 * x2) * (y1 * y2) + (y1 * y2 + x1 * x2))) := by clear p1 p2 p1' p2'; grind
 generalize 1 + d * (x1 * x2) * (y1 * y2) = b at *
 generalize 1 - d * (x1 * x2) * (y1 * y2) = q at *
 clear hP hQ
 rw [show y1 * y2 - x1 * -x2 = y1 * y2 + x1 * x2 by clear p1 p2 key p1' p2'; grind]
 generalize y1 * y2 - x1 * x2 = s at *
 generalize y1 * y2 + x1 * x2 = r at *
 have m1 : q * (1 - s * E) = q - s := by clear p1 key p1' p2'; grind
 have m2 : q * (1 + s * E) = q + s := by clear p1 key p1' p2'; grind
 have m3 : b * (1 - r * B) = b - r := by clear p2 key p1' p2'; grind
 have m4 : b * (1 + r * B) = b + r := by clear p2 key p1' p2'; grind
 clear p1 p2
 generalize 1 - s * E = u1 at *
 generalize 1 + s * E = u2 at *
 generalize 1 - r * B = u3 at *
 generalize 1 + r * B = u4 at *
 refine zdr (zn7 p2' p1') ?_
 rw [show q * b * ((y1 + y2) * (y1 + y2) * (u1 * u3)) = (y1 + y2) * (y1 + y2) * ((q * u1) * (b * u3)) by clear key m1 m2 m3 m4 p1' p2'; grind, show q * b * ((y1 - y2) * (y1 - y2) * (u2 * u4)) = (y1 - y2) * (y1 - y2) * ((q * u2) * (b * u4)) by clear key m1 m2 m3 m4 p1' p2'; grind, m1, m2, m3, m4]
 exact key
theorem zqe {d x1 y1 : K} (h : x1 * x1 + y1 * y1 = 1 + d * (x1 * x1) * (y1 * y1)) (hy : y1 = 0) : x1 * x1 = 1 := by
 have h1 : x1 * x1 = (x1 * x1 + y1 * y1) - y1 * y1 := by clear h hy; grind
 rw [h1, h, hy]
 clear h h1
 have h2 : ∀ t : K, 1 + t * (0 * 0) - 0 * 0 = 1 := fun t => by
  have z : t * (0 * 0) = 0 := by grind
  rw [z]
  decide +kernel
 exact h2 _
theorem zvF {d : K} {P Q : Ed} (hP : On d P) (hQ : On d Q) (h1 : P.y = 0) (h2 : Q.y = 0) : (zcE d P (zn9 Q)).y * (zcE d P (zn9 Q)).y = 1 := by
 have e1 := zqe hP h1
 have e2 := zqe hQ h2
 have i1 : iv (1 : K) = 1 := zyI (by grind)
 unfold zcE tE zn9
 dsimp only
 rw [h1, h2, show d * (P.x * -Q.x) * (0 * 0) = 0 by clear e1 e2 hP hQ h1 h2; grind, zfJ, i1]
 generalize P.x = x1 at *
 generalize Q.x = x2 at *
 rw [show (0 * 0 - x1 * -x2) * 1 * ((0 * 0 - x1 * -x2) * 1) = (x1 * x1) * (x2 * x2) by clear e1 e2 hP hQ h1 h2; grind, e1, e2]
 decide +kernel
theorem zyM {d e X1 Z1 X2 Z2 u : K} {P Q : Ed} (hc : Cv d e) (hP : On d P) (hQ : On d Q) (h1 : Rep e X1 Z1 P) (h2 : Rep e X2 Z2 Q)
  (hu : u * (1 - (zcE d P (zn9 Q)).y) = e * (1 + (zcE d P (zn9 Q)).y)) (hu0 : u ≠ 0) :
  Rep e (((X2 - Z2) * (X1 + Z1) + (X2 + Z2) * (X1 - Z1)) * ((X2 - Z2) * (X1 + Z1) + (X2 + Z2) * (X1 - Z1))) (u * (((X2 - Z2) * (X1 + Z1) - (X2 + Z2) * (X1 - Z1)) * ((X2 - Z2) * (X1 + Z1) - (X2 + Z2) * (X1 - Z1)))) (zcE d P Q) := by
 obtain ⟨l, hl, a1, a2⟩ := zoO (ee hc) h1
 obtain ⟨m, hm, b1, b2⟩ := zoO (ee hc) h2
 have k := zBz hc.free hP hQ
 have dn := zvF hP hQ
 have he := ee hc
 clear h1 h2
 unfold Rep
 have w : e = 1 ∨ e = -1 := zit he
 generalize (zcE d P Q).y = S at *
 generalize (zcE d P (zn9 Q)).y = D at *
 clear hP hQ hc
 generalize P.y = y1 at *
 generalize Q.y = y2 at *
 have n0 : 16 * (l * l) * (m * m) ≠ 0 := zn7 (zn7 zks (zn7 hl hl)) (zn7 hm hm)
 have v0 : 1 - D ≠ 0 := fun z => zhN (by
  have z2 : e * (1 + D) = 0 := by rw [← hu, z]; clear dn k hu; grind
  have z3 : 1 + D = e * (e * (1 + D)) := by rw [show e * (e * (1 + D)) = e * e * (1 + D) by clear dn k hu z z2 he; grind, he]; clear dn k hu z z2 he; grind
  rw [z2] at z3
  clear dn k hu z2 he
  grind)
 have g : ((X2 - Z2) * (X1 + Z1) + (X2 + Z2) * (X1 - Z1)) * ((X2 - Z2) * (X1 + Z1) + (X2 + Z2) * (X1 - Z1)) = 16 * (l * l) * (m * m) * ((y1 + y2) * (y1 + y2)) ∧ ((X2 - Z2) * (X1 + Z1) - (X2 + Z2) * (X1 - Z1)) * ((X2 - Z2) * (X1 + Z1) - (X2 + Z2) * (X1 - Z1)) = 16 * (l * l) * (m * m) * ((y1 - y2) * (y1 - y2)) := by
  clear dn k hu v0 n0 hu0 he
  subst a1 a2 b1 b2
  rcases w with w | w <;> subst w <;> constructor <;> grind
 rw [g.1, g.2]
 clear g a1 a2 b1 b2
 generalize 16 * (l * l) * (m * m) = n at *
 refine ⟨zdr v0 ?_, fun ⟨z1, z2⟩ => ?_⟩
 ·rw [show (1 - D) * (n * ((y1 + y2) * (y1 + y2)) * (1 - S)) = n * ((y1 + y2) * (y1 + y2) * ((1 - S) * (1 - D))) by clear dn k hu v0 n0 hu0 he; grind, k, show (1 - D) * (e * (u * (n * ((y1 - y2) * (y1 - y2)))) * (1 + S)) = e * (u * (1 - D)) * (n * ((y1 - y2) * (y1 - y2)) * (1 + S)) by clear dn k hu v0 n0 hu0 he; grind, hu, show e * (e * (1 + D)) * (n * ((y1 - y2) * (y1 - y2)) * (1 + S)) = e * e * ((1 + D) * (n * ((y1 - y2) * (y1 - y2)) * (1 + S))) by clear dn k hu v0 n0 hu0 he; grind, he]
  clear dn k hu v0 n0 hu0 he
  grind
 ·have s1 : y1 + y2 = 0 := by
   have := (zdL z1).resolve_left n0
   rcases zdL this with h | h <;> exact h
  have s2 : y1 - y2 = 0 := by
   have := (zdL ((zdL z2).resolve_left hu0)).resolve_left n0
   rcases zdL this with h | h <;> exact h
  have s3 : y1 = 0 := by
   have : 2 * y1 = 0 := by clear dn k hu z1 z2 he w; grind
   exact (zdL this).resolve_left zhN
  have s4 : y2 = 0 := by
   have : 2 * y2 = 0 := by clear dn k hu z1 z2 he w; grind
   exact (zdL this).resolve_left zhN
  rcases zit (dn s3 s4) with h | h
  ·exact v0 (by rw [h]; decide +kernel)
  ·rw [h] at hu
   have : u * 2 = 0 := by
    have e1 : u * 2 = u * (1 - -1) := by clear hu k dn he; grind
    rw [e1, hu]
    clear hu k dn he
    grind
   exact (zdL this).elim hu0 zhN
def zra (e : K) (q : Pt) (P : Ed) : Prop := Rep e (toK q.x) (toK q.z) P
theorem zqf {d e : K} {q : Pt} {P : Ed} (hc : Cv d e) (hP : On d P) (hq : zhH q) (h : zra e q P) : zra e (zeo q) (zcE d P P) := by
 unfold zra at *
 have := zyL hc hP h
 unfold zeo zoC
 dsimp only
 simp only [zp5, ztA, zhL _ _ hq.2, zhL _ _ (zey _ _)]
 exact this
theorem zvG {d e : K} {q s : Pt} {u : Nat} {P Q : Ed} (hc : Cv d e) (hP : On d P) (hQ : On d Q) (hq : zhH q) (hs : zhH s) (h1 : zra e q P) (h2 : zra e s Q)
  (hu : toK u * (1 - (zcE d P (zn9 Q)).y) = e * (1 + (zcE d P (zn9 Q)).y)) (hu0 : toK u ≠ 0) : zra e (zd3 u q s) (zcE d P Q) := by
 unfold zra at *
 have := zyM hc hP hQ h1 h2 hu hu0
 unfold zd3 zd2 zdO
 dsimp only
 simp only [zp5, ztA, zhL _ _ hq.2, zhL _ _ hs.2, zhL _ _ (zey _ _)]
 exact this
theorem ztG {e : K} {q s : Pt} {u : Nat} {P : Ed} (hq : zhH q) (hs : zhH s) (h : zra e (zd3 u q s) P) : zra e (zd3 u s q) P := by
 unfold zra zd3 zd2 zdO at *
 dsimp only at *
 simp only [zp5, ztA, zhL _ _ hq.2, zhL _ _ hs.2, zhL _ _ (zey _ _)] at *
 generalize toK q.x = a at *
 generalize toK q.z = b at *
 generalize toK s.x = c at *
 generalize toK s.z = f at *
 rw [show ((a - b) * (c + f) + (a + b) * (c - f)) * ((a - b) * (c + f) + (a + b) * (c - f)) = ((c - f) * (a + b) + (c + f) * (a - b)) * ((c - f) * (a + b) + (c + f) * (a - b)) by clear h; grind, show ((a - b) * (c + f) - (a + b) * (c - f)) * ((a - b) * (c + f) - (a + b) * (c - f)) = ((c - f) * (a + b) - (c + f) * (a - b)) * ((c - f) * (a + b) - (c + f) * (a - b)) by clear h; grind]
 exact h
def zgz (k : Nat → Nat) : Nat → Nat
 | 0 => 0
 | n + 1 => 2 * zgz k n + zeu k n
theorem zoP {d e : K} {P : Ed} {u : Nat} (hc : Cv d e) (hP : On d P) (hu : u < pN) (hu0 : toK u ≠ 0) (hq : toK u * (1 - P.y) = e * (1 + P.y)) (k : Nat → Nat) :
  ∀ n, zra e (zbc u k n).1 (zdT d P (zgz k n)) ∧ zra e (zbc u k n).2 (zdT d P (zgz k n + 1))
 | 0 => by
  refine ⟨⟨?_, ?_⟩, ⟨?_, ?_⟩⟩
  ·show toK 1 * (1 - 1) = e * toK 0 * (1 + 1)
   rw [zg1, show (1 : K) - 1 = 0 by decide +kernel, Fin.mul_zero, Fin.mul_zero, Fin.zero_mul]
  ·rintro ⟨h, _⟩
   exact zhM (zjC.symm.trans h)
  ·rw [show zdT d P (zgz k 0 + 1) = zcE d zgy P from rfl, zjD]
   show toK u * (1 - P.y) = e * toK 1 * (1 + P.y)
   rw [hq, zjC]
   clear hq
   generalize P.y = y
   grind
  ·rintro ⟨_, h⟩
   exact zhM (zjC.symm.trans h)
 | n + 1 => by
  have ih := zoP hc hP hu hu0 hq k n
  have ok := zko u hu k n
  have o1 := zfK hc.free hP (zgz k n)
  have o2 := zfK hc.free hP (zgz k n + 1)
  have hD := zvC hc.free hc.nz hP (zgz k n)
  have hs : zra e (zd3 u (zbc u k n).2 (zbc u k n).1) (zdT d P (2 * zgz k n + 1)) := by
   have := zvG (u := u) hc o2 o1 ok.2 ok.1 ih.2 ih.1 (by rw [hD]; exact hq) hu0
   rwa [← zf2 hc.free hc.nz hP, show zgz k n + 1 + zgz k n = 2 * zgz k n + 1 by omega] at this
  rw [show zbc u k (n + 1) = zgW u (zeu k n) (zbc u k n).1 (zbc u k n).2 from rfl, show zgz k (n + 1) = 2 * zgz k n + zeu k n from rfl]
  unfold zgW
  rcases zgr k n with hb | hb
  ·rw [hb, if_neg (by omega), Nat.add_zero]
   refine ⟨?_, ztG ok.2 ok.1 hs⟩
   have := zqf hc o1 ok.1 ih.1
   rwa [← zf2 hc.free hc.nz hP, show zgz k n + zgz k n = 2 * zgz k n by omega] at this
  ·rw [hb, if_pos rfl]
   refine ⟨hs, ?_⟩
   have := zqf hc o2 ok.2 ih.2
   rwa [← zf2 hc.free hc.nz hP, show zgz k n + 1 + (zgz k n + 1) = 2 * zgz k n + 1 + 1 by omega] at this
def zuu (e Y : K) : K := if Y = 1 then 0 else e * (1 + Y) * iv (1 - Y)
theorem zqg {Y : K} (h : Y ≠ 1) : 1 - Y ≠ 0 := fun e => h (by grind)
theorem zyN {d e X Z : K} {P : Ed} (hc : Cv d e) (h : Rep e X Z P) : X * iv Z = zuu e P.y := by
 obtain ⟨h1, h2⟩ := h
 have he := ee hc
 unfold zuu
 generalize P.y = Y at *
 by_cases hY : Y = 1
 ·rw [if_pos hY]
  have hZ : Z = 0 := by
   have : e * (Z * 2) = 0 := by
    have e1 : e * (Z * 2) = e * Z * (1 + 1) := by clear h1 he; grind
    rw [e1]
    rw [hY] at h1
    rw [← h1]
    clear h1 he
    grind
   have e0 : e ≠ 0 := fun z => by rw [z] at he; exact zhM (by rw [← he]; decide +kernel)
   exact (zdL ((zdL this).resolve_left e0)).resolve_right zhN
  rw [hZ, zyH]
  clear h1 he
  grind
 ·rw [if_neg hY]
  have hv := zbZ (zqg hY)
  have hZ : Z ≠ 0 := fun z => h2 ⟨by
   rw [z] at h1
   have : X * (1 - Y) = 0 := by rw [h1]; clear h1 he hv; grind
   exact (zdL this).resolve_right (zqg hY), z⟩
  have hz := zbZ hZ
  generalize iv Z = z' at *
  generalize iv (1 - Y) = w at *
  have e1 : X * z' = X * (1 - Y) * w * z' := by rw [show X * (1 - Y) * w * z' = X * z' * ((1 - Y) * w) by clear h1 he hv hz; grind, hv]; clear h1 he hv hz; grind
  rw [e1, h1, show e * Z * (1 + Y) * w * z' = e * (1 + Y) * w * (Z * z') by clear h1 he hv hz e1; grind, hz]
  clear h1 he hv hz e1
  grind
def zoQ (k : Nat → Nat) : Nat := zgz (zag k) 255
theorem zqh {d e : K} {P : Ed} {u : Nat} (hc : Cv d e) (hP : On d P) (hu : u < pN) (hu0 : toK u ≠ 0) (hq : toK u * (1 - P.y) = e * (1 + P.y)) (k : Nat → Nat) :
  toK (zdt k u) = zuu e (zdT d P (zoQ k)).y := by
 have h := (zoP hc hP hu hu0 hq (zag k) 255).1
 have ok := (zko u hu (zag k) 255).1
 show toK (zdt k u) = zuu e (zdT d P (zgz (zag k) 255)).y
 rw [← zyN hc h]
 unfold zdt
 rw [zp5]
 unfold iv
 rw [zgt, Nat.mod_eq_of_lt ok.2]
theorem zyO {d x y : K} (hf : zn8 d) (h : x * x + y * y = 1 + d * (x * x) * (y * y)) (hy : y * y = 1) : x = 0 := by
 have h1 : (x * x) * (1 - d) = 0 := by
  rw [hy] at h
  clear hy
  grind
 have h2 : 1 - d ≠ 0 := fun z => hf 1 (by clear h hy h1; grind)
 have := (zdL h1).resolve_right h2
 rcases zdL this with h | h <;> exact h
theorem ztH {d e : K} {P : Ed} (hc : Cv d e) (hP : On d P) (h : zuu e P.y = 0) : P = zgy ∨ P = zh7 := by
 have he := ee hc
 obtain ⟨x, y⟩ := P
 unfold On at hP
 unfold zuu at h
 dsimp only at h hP
 by_cases hY : y = 1
 ·subst hY
  have := zyO hc.free hP (by decide +kernel)
  subst this
  exact .inl rfl
 ·rw [if_neg hY] at h
  have e0 : e ≠ 0 := fun z => by rw [z] at he; exact zhM (by rw [← he]; decide +kernel)
  have h1 := (zdL ((zdL h).resolve_right (zBu (zqg hY)))).resolve_left e0
  have h2 : y = -1 := by clear h hP he; grind
  subst h2
  have := zyO hc.free hP (by decide +kernel)
  subst this
  exact .inr rfl
theorem zAw {e : K} {P : Ed} (h : P = zgy ∨ P = zh7) : zuu e P.y = 0 := by
 rcases h with h | h <;> subst h
 ·exact if_pos rfl
 ·have : zh7.y ≠ 1 := zp8
  unfold zuu
  rw [if_neg this]
  show e * (1 + -1) * _ = 0
  generalize iv _ = w
  have : (1 + -1 : K) = 0 := by decide +kernel
  rw [this]
  grind
theorem zvH {d e : K} {P : Ed} {u : Nat} (hc : Cv d e) (hP : On d P) (hu : u < pN) (hu0 : toK u ≠ 0) (hq : toK u * (1 - P.y) = e * (1 + P.y)) (a b : Nat → Nat) :
  toK (zdt a (zdt b u)) = zuu e (zdT d P (zoQ b * zoQ a)).y := by
 have h := zqh hc hP hu hu0 hq b
 have hlt : zdt b u < pN := zey _ _
 have oB := zfK hc.free hP (zoQ b)
 rw [← ziu hc.free hc.nz hP]
 by_cases h0 : toK (zdt b u) = 0
 ·have hz : zdt b u = 0 := by
   have := congrArg Fin.val h0
   rw [zgt, Nat.mod_eq_of_lt hlt] at this
   exact this
  rw [hz, ztk, zg1]
  have hn := ztH hc oB (h.symm.trans h0)
  refine (zAw ?_).symm
  rcases hn with hn | hn <;> rw [hn]
  ·exact .inl (zoN _)
  ·exact zqd _
 ·refine zqh hc oB hlt h0 ?_ a
  rw [h] at h0 ⊢
  generalize (zdT d P (zoQ b)).y = Y at *
  unfold zuu at *
  by_cases hY : Y = 1
  ·rw [if_pos hY] at h0
   exact absurd rfl h0
  ·rw [if_neg hY] at h0 ⊢
   have hv := zbZ (zqg hY)
   generalize iv (1 - Y) = w at *
   rw [show e * (1 + Y) * w * (1 - Y) = e * (1 + Y) * ((1 - Y) * w) by clear h hv h0 hq; grind, hv]
   clear h hv h0 hq
   grind
theorem zvI {d : K} (h : d * (cA + 2) = cA - 2) : zn8 d := fun s hs => zyK (s * (cA + 2)) (by
 rw [show s * (cA + 2) * (s * (cA + 2)) = s * s * (cA + 2) * (cA + 2) by clear h; grind, hs, h])
theorem zvJ {d : K} (h : d * (cA - 2) = cA + 2) : zn8 d := fun s hs => zyK (s * (cA - 2)) (by
 rw [show s * (cA - 2) * (s * (cA - 2)) = s * s * (cA - 2) * (cA - 2) by clear h; grind, hs, h]
 clear h
 generalize cA = c
 grind)
def zzE : K := (cA - 2) * iv (cA + 2)
def zzF : K := (cA + 2) * iv (cA - 2)
theorem zmk : zzE * (cA + 2) = cA - 2 := by
 unfold zzE
 have h := zbZ zmi
 rw [show (cA - 2) * iv (cA + 2) * (cA + 2) = (cA - 2) * ((cA + 2) * iv (cA + 2)) by clear h; grind, h]
 clear h
 grind
theorem zmm : zzF * (cA - 2) = cA + 2 := by
 unfold zzF
 have h := zbZ zmj
 rw [show (cA + 2) * iv (cA - 2) * (cA - 2) = (cA + 2) * ((cA - 2) * iv (cA - 2)) by clear h; grind, h]
 clear h
 grind
theorem ztI : (4 : K) ≠ 0 := fun h => absurd (congrArg Fin.val h) (by decide +kernel)
theorem zAx : Cv zzE 1 where
 free := zvI zmk
 nz := fun h => zmj (by rw [← zmk, h, Fin.zero_mul])
 way := .inl ⟨rfl, by
  have h := zmk
  rw [zAu] at h
  generalize zzE = d at *
  generalize cB = c at *
  refine zdr ztI ?_
  grind⟩
theorem zAy : Cv zzF (-1) where
 free := zvJ zmm
 nz := fun h => zmi (by rw [← zmm, h, Fin.zero_mul])
 way := .inr ⟨rfl, by
  have h := zmm
  rw [zAu] at h
  generalize zzF = d at *
  generalize cB = c at *
  refine zdr ztI ?_
  grind⟩
theorem zyP (u : K) : u * u + cA * u + 1 ≠ 0 := fun h => zyK (2 * u + cA) (by
 generalize cA = c at *
 grind)
theorem zvK {u : K} (h0 : u ≠ 0) : ∃ d e : K, ∃ P : Ed, Cv d e ∧ On d P ∧ u * (1 - P.y) = e * (1 + P.y) := by
 have hq := zyP u
 have hQ := zbZ hq
 have w0 : u * (u * u + cA * u + 1) ≠ 0 := zn7 h0 hq
 rcases zp7 w0 with hw | hw
 ·obtain ⟨r, hr⟩ := ztD hw
  have hu : u + 1 ≠ 0 := fun z => by
   have hz : u = -1 := by clear hw hQ hr; grind
   have e1 : u * (u * u + cA * u + 1) = cA - 2 := by rw [hz]; clear hw hQ hr hz z; generalize cA = c; grind
   rw [e1, zmh] at hw
   exact zp8 hw
  have hU := zbZ hu
  have hs := zAr
  have hd := zmk
  refine ⟨zzE, 1, ⟨cS * r * iv (u * u + cA * u + 1), (u - 1) * iv (u + 1)⟩, zAx, ?_, ?_⟩
  ·unfold On
   dsimp only
   generalize iv (u + 1) = V at *
   generalize cS = s at *
   generalize zzE = d at *
   have hx : s * r * iv (u * u + cA * u + 1) * (s * r * iv (u * u + cA * u + 1)) = (cA + 2) * u * iv (u * u + cA * u + 1) := by
    generalize iv (u * u + cA * u + 1) = W at *
    rw [show s * r * W * (s * r * W) = s * s * (r * r) * W * W by clear hw hQ hU hs hr hd; grind, hs, hr, show (cA + 2) * (u * (u * u + cA * u + 1)) * W * W = (cA + 2) * u * W * ((u * u + cA * u + 1) * W) by clear hw hQ hU hs hr hd; generalize cA = c; grind, hQ]
    clear hw hQ hU hs hr hd
    grind
   rw [hx]
   have hW : u * u + cA * u + 1 ≠ 0 := hq
   generalize iv (u * u + cA * u + 1) = W at *
   clear hw hr hs hx w0
   generalize cA = c at *
   refine zdr hW (zdr (zn7 hu hu) ?_)
   have m1 : (u + 1) * ((u - 1) * V) = u - 1 := by rw [show (u + 1) * ((u - 1) * V) = (u - 1) * ((u + 1) * V) by clear hQ hU hd; grind, hU]; clear hQ hU hd; grind
   generalize (u - 1) * V = y at *
   clear hU
   have m2 : (u + 1) * (u + 1) * (y * y) = (u - 1) * (u - 1) := by rw [← m1]; clear hQ hd; grind
   rw [show (u + 1) * (u + 1) * ((u * u + c * u + 1) * ((c + 2) * u * W + y * y)) = (u + 1) * (u + 1) * ((c + 2) * u * ((u * u + c * u + 1) * W)) + (u * u + c * u + 1) * ((u + 1) * (u + 1) * (y * y)) by clear hQ hd m1 m2; grind, show (u + 1) * (u + 1) * ((u * u + c * u + 1) * (1 + d * ((c + 2) * u * W) * (y * y))) = (u + 1) * (u + 1) * (u * u + c * u + 1) + d * (c + 2) * (u * ((u * u + c * u + 1) * W)) * ((u + 1) * (u + 1) * (y * y)) by clear hQ hd m1 m2; grind, hQ, m2, hd]
   clear hQ hd m1 m2
   grind
  ·dsimp only
   generalize iv (u + 1) = V at *
   clear hw hQ hr hs hd
   have e1 : 1 - (u - 1) * V = 2 * V := by
    refine zdr hu ?_
    grind
   have e2 : 1 + (u - 1) * V = 2 * u * V := by
    refine zdr hu ?_
    grind
   rw [e1, e2]
   clear e1 e2 hU
   grind
 ·have h1 : hf ((cA - 2) * (u * (u * u + cA * u + 1))) = 1 := by rw [ztC, zmh, hw]; decide +kernel
  obtain ⟨r, hr⟩ := ztD h1
  have hu : u - 1 ≠ 0 := fun z => by
   have hz : u = 1 := by clear hw hQ hr h1; grind
   have e1 : u * (u * u + cA * u + 1) = cA + 2 := by rw [hz]; clear hw hQ hr hz z h1; generalize cA = c; grind
   rw [e1, ztE] at hw
   exact zp8 hw.symm
  have hU := zbZ hu
  have hd := zmm
  refine ⟨zzF, -1, ⟨r * iv (u * u + cA * u + 1), (u + 1) * iv (u - 1)⟩, zAy, ?_, ?_⟩
  ·unfold On
   dsimp only
   generalize iv (u - 1) = V at *
   generalize zzF = d at *
   have hx : r * iv (u * u + cA * u + 1) * (r * iv (u * u + cA * u + 1)) = (cA - 2) * u * iv (u * u + cA * u + 1) := by
    generalize iv (u * u + cA * u + 1) = W at *
    rw [show r * W * (r * W) = (r * r) * W * W by clear hw hQ hU hr hd h1; grind, hr, show (cA - 2) * (u * (u * u + cA * u + 1)) * W * W = (cA - 2) * u * W * ((u * u + cA * u + 1) * W) by clear hw hQ hU hr hd h1; generalize cA = c; grind, hQ]
    clear hw hQ hU hr hd h1
    grind
   rw [hx]
   have hW : u * u + cA * u + 1 ≠ 0 := hq
   generalize iv (u * u + cA * u + 1) = W at *
   clear hw hr hx w0 h1
   generalize cA = c at *
   refine zdr hW (zdr (zn7 hu hu) ?_)
   have m1 : (u - 1) * ((u + 1) * V) = u + 1 := by rw [show (u - 1) * ((u + 1) * V) = (u + 1) * ((u - 1) * V) by clear hQ hU hd; grind, hU]; clear hQ hU hd; grind
   generalize (u + 1) * V = y at *
   clear hU
   have m2 : (u - 1) * (u - 1) * (y * y) = (u + 1) * (u + 1) := by rw [← m1]; clear hQ hd; grind
   rw [show (u - 1) * (u - 1) * ((u * u + c * u + 1) * ((c - 2) * u * W + y * y)) = (u - 1) * (u - 1) * ((c - 2) * u * ((u * u + c * u + 1) * W)) + (u * u + c * u + 1) * ((u - 1) * (u - 1) * (y * y)) by clear hQ hd m1 m2; grind, show (u - 1) * (u - 1) * ((u * u + c * u + 1) * (1 + d * ((c - 2) * u * W) * (y * y))) = (u - 1) * (u - 1) * (u * u + c * u + 1) + d * (c - 2) * (u * ((u * u + c * u + 1) * W)) * ((u - 1) * (u - 1) * (y * y)) by clear hQ hd m1 m2; grind, hQ, m2, hd]
   clear hQ hd m1 m2
   grind
  ·dsimp only
   generalize iv (u - 1) = V at *
   clear hw hQ hr hd h1
   have e1 : 1 - (u + 1) * V = -2 * V := by
    refine zdr hu ?_
    grind
   have e2 : 1 + (u + 1) * V = 2 * u * V := by
    refine zdr hu ?_
    grind
   rw [e1, e2]
   clear e1 e2 hU
   grind
end
section
theorem oq2 : IsP 2 := zb0 (by decide +kernel)
theorem oq3 : IsP 3 := zb0 (by decide +kernel)
theorem oq5 : IsP 5 := zb0 (by decide +kernel)
theorem oq7 : IsP 7 := zb0 (by decide +kernel)
theorem zAz : IsP 11 := zb0 (by decide +kernel)
theorem zBA : IsP 13 := zb0 (by decide +kernel)
theorem zBB : IsP 17 := zb0 (by decide +kernel)
theorem zCG : IsP 19 := zb0 (by decide +kernel)
theorem zCh : IsP 23 := zb0 (by decide +kernel)
theorem zCi : IsP 41 := zb0 (by decide +kernel)
theorem zCj : IsP 43 := zb0 (by decide +kernel)
theorem zCH : IsP 47 := zb0 (by decide +kernel)
theorem zCI : IsP 67 := zb0 (by decide +kernel)
theorem zCk : IsP 73 := zb0 (by decide +kernel)
theorem zCJ : IsP 79 := zb0 (by decide +kernel)
theorem zBC : IsP 113 := zb0 (by decide +kernel)
theorem zBD : IsP 269 := zb0 (by decide +kernel)
theorem zBE : IsP 307 := zb0 (by decide +kernel)
theorem zAA : IsL 1361 := zbI 1361 3 [2, 2, 2, 2, 5, 17] (by decide +kernel) (all_cons oq2 (all_cons oq2 (all_cons oq2 (all_cons oq2 (all_cons oq5 (all_cons zBB zaR))))))
theorem zAB : IsL 1723 := zbI 1723 3 [2, 3, 7, 41] (by decide +kernel) (all_cons oq2 (all_cons oq3 (all_cons oq7 (all_cons zCi zaR))))
theorem zAC : IsL 2551 := zbI 2551 6 [2, 3, 5, 5, 17] (by decide +kernel) (all_cons oq2 (all_cons oq3 (all_cons oq5 (all_cons oq5 (all_cons zBB zaR)))))
theorem zAD : IsL 2851 := zbI 2851 2 [2, 3, 5, 5, 19] (by decide +kernel) (all_cons oq2 (all_cons oq3 (all_cons oq5 (all_cons oq5 (all_cons zCG zaR)))))
theorem zAE : IsL 2939 := zbI 2939 2 [2, 13, 113] (by decide +kernel) (all_cons oq2 (all_cons zBA (all_cons zBC zaR)))
theorem zAF : IsL 3797 := zbI 3797 2 [2, 2, 13, 73] (by decide +kernel) (all_cons oq2 (all_cons oq2 (all_cons zBA (all_cons zCk zaR))))
theorem zAG : IsL 5879 := zbI 5879 11 [2, 2939] (by decide +kernel) (all_cons oq2 (all_cons zAE.1 zaR))
theorem zyQ : IsL 17231 := zbI 17231 13 [2, 5, 1723] (by decide +kernel) (all_cons oq2 (all_cons oq5 (all_cons zAB.1 zaR)))
theorem zyR : IsL 22111 := zbI 22111 6 [2, 3, 5, 11, 67] (by decide +kernel) (all_cons oq2 (all_cons oq3 (all_cons oq5 (all_cons zAz (all_cons zCI zaR)))))
theorem zyS : IsL 30703 := zbI 30703 3 [2, 3, 7, 17, 43] (by decide +kernel) (all_cons oq2 (all_cons oq3 (all_cons oq7 (all_cons zBB (all_cons zCj zaR)))))
theorem zyT : IsL 34123 := zbI 34123 2 [2, 3, 11, 11, 47] (by decide +kernel) (all_cons oq2 (all_cons oq3 (all_cons zAz (all_cons zAz (all_cons zCH zaR)))))
theorem zyU : IsL 41081 := zbI 41081 3 [2, 2, 2, 5, 13, 79] (by decide +kernel) (all_cons oq2 (all_cons oq2 (all_cons oq2 (all_cons oq5 (all_cons zBA (all_cons zCJ zaR))))))
theorem zyV : IsL 82163 := zbI 82163 2 [2, 41081] (by decide +kernel) (all_cons oq2 (all_cons zyU.1 zaR))
theorem zvL : IsL 132667 := zbI 132667 5 [2, 3, 22111] (by decide +kernel) (all_cons oq2 (all_cons oq3 (all_cons zyR.1 zaR)))
theorem zvM : IsL 137849 := zbI 137849 3 [2, 2, 2, 17231] (by decide +kernel) (all_cons oq2 (all_cons oq2 (all_cons oq2 (all_cons zyQ.1 zaR))))
theorem zvN : IsL 409477 := zbI 409477 2 [2, 2, 3, 34123] (by decide +kernel) (all_cons oq2 (all_cons oq2 (all_cons oq3 (all_cons zyT.1 zaR))))
theorem zvO : IsL 531581 := zbI 531581 2 [2, 2, 5, 7, 3797] (by decide +kernel) (all_cons oq2 (all_cons oq2 (all_cons oq5 (all_cons oq7 (all_cons zAF.1 zaR)))))
theorem ztJ : IsL 1224481 := zbI 1224481 13 [2, 2, 2, 2, 2, 3, 5, 2551] (by decide +kernel) (all_cons oq2 (all_cons oq2 (all_cons oq2 (all_cons oq2 (all_cons oq2 (all_cons oq3 (all_cons oq5 (all_cons zAC.1 zaR))))))))
theorem zrb : IsL 14741173 := zbI 14741173 2 [2, 2, 3, 3, 409477] (by decide +kernel) (all_cons oq2 (all_cons oq2 (all_cons oq3 (all_cons oq3 (all_cons zvN.1 zaR)))))
theorem zrc : IsL 58964693 := zbI 58964693 2 [2, 2, 14741173] (by decide +kernel) (all_cons oq2 (all_cons oq2 (all_cons zrb.1 zaR)))
theorem zoR : IsL 292386187 := zbI 292386187 2 [2, 3, 3, 3, 3, 307, 5879] (by decide +kernel) (all_cons oq2 (all_cons oq3 (all_cons oq3 (all_cons oq3 (all_cons oq3 (all_cons zBE (all_cons zAG.1 zaR)))))))
theorem zj1 : IsL 213441916511 := zbI 213441916511 13 [2, 5, 73, 292386187] (by decide +kernel) (all_cons oq2 (all_cons oq5 (all_cons zCk (all_cons zoR.1 zaR))))
theorem zg2 : IsL 1257559732178653 := zbI 1257559732178653 2 [2, 2, 3, 7, 23, 531581, 1224481] (by decide +kernel) (all_cons oq2 (all_cons oq2 (all_cons oq3 (all_cons oq7 (all_cons zCh (all_cons zvO.1 (all_cons ztJ.1 zaR)))))))
theorem zfL : IsL 4434155615661930479 := zbI 4434155615661930479 17 [2, 41, 43, 1257559732178653] (by decide +kernel) (all_cons oq2 (all_cons zCi (all_cons zCj (all_cons zg2.1 zaR))))
theorem zeM : IsL 3044861653679985063343 := zbI 3044861653679985063343 5 [2, 3, 11, 30703, 82163, 132667, 137849] (by decide +kernel) (all_cons oq2 (all_cons oq3 (all_cons zAz (all_cons zyS.1 (all_cons zyV.1 (all_cons zvL.1 (all_cons zvM.1 zaR)))))))
theorem zdP : IsL 172054593956031949258510691 := zbI 172054593956031949258510691 2 [2, 5, 1361, 2851, 4434155615661930479] (by decide +kernel) (all_cons oq2 (all_cons oq5 (all_cons zAA.1 (all_cons zAD.1 (all_cons zfL.1 zaR)))))
theorem zc6 : IsL 198211423230930754013084525763697 := zbI 198211423230930754013084525763697 5 [2, 2, 2, 2, 3, 23, 58964693, 3044861653679985063343] (by decide +kernel) (all_cons oq2 (all_cons oq2 (all_cons oq2 (all_cons oq2 (all_cons oq3 (all_cons zCh (all_cons zrc.1 (all_cons zeM.1 zaR))))))))
theorem zci : IsL 19757330305831588566944191468367130476339 := zbI 19757330305831588566944191468367130476339 2 [2, 269, 213441916511, 172054593956031949258510691] (by decide +kernel) (all_cons oq2 (all_cons zBD (all_cons zj1.1 (all_cons zdP.1 zaR))))
theorem zb8 : IsL 276602624281642239937218680557139826668747 := zbI 276602624281642239937218680557139826668747 2 [2, 7, 19757330305831588566944191468367130476339] (by decide +kernel) (all_cons oq2 (all_cons oq7 (all_cons zci.1 zaR)))
theorem zaB : IsL 7237005577332262213973186563042994240857116359379907606001950938285454250989 := zbI 7237005577332262213973186563042994240857116359379907606001950938285454250989 2 [2, 2, 3, 11, 198211423230930754013084525763697, 276602624281642239937218680557139826668747] (by decide +kernel) (all_cons oq2 (all_cons oq2 (all_cons oq3 (all_cons zAz (all_cons zc6.1 (all_cons zb8.1 zaR))))))
def znF : Nat := 7237005577332262213973186563042994240857116359379907606001950938285454250989
def zAH (i : Nat) : Nat := znF / 256 ^ i % 256
theorem zvP : zgz zAH 255 = znF := by decide +kernel
theorem zBF : (zbc 9 zAH 255).1.z = 0 := by decide +kernel
section
variable {d e : K} {P : Ed}
theorem zvQ (hc : Cv d e) (hP : On d P) (hy : P.y = 1) : P = zgy := by
 obtain ⟨x, y⟩ := P
 dsimp only at hy
 subst hy
 have := zyO hc.free hP (show (1 : K) * 1 = 1 by decide +kernel)
 subst this
 rfl
theorem zmn : 9 < pN := by unfold pN; decide +kernel
theorem zoS : toK 9 ≠ 0 := fun h => by
 have h1 := congrArg Fin.val h
 rw [zgt, Nat.mod_eq_of_lt zmn] at h1
 exact absurd h1 (by decide)
theorem zyW (hc : Cv d e) (hP : On d P) (hq : toK 9 * (1 - P.y) = e * (1 + P.y)) : zdT d P znF = zgy := by
 have h := (zoP hc hP zmn zoS hq zAH 255).1
 rw [zvP] at h
 obtain ⟨h1, h2⟩ := h
 rw [zBF, zg1] at h1 h2
 have hX : toK (zbc 9 zAH 255).1.x ≠ 0 := fun hx => h2 ⟨hx, rfl⟩
 have hon := zfK hc.free hP znF
 refine zvQ hc hon ?_
 generalize (zdT d P znF).y = Y at *
 generalize toK (zbc 9 zAH 255).1.x = Z at *
 have h3 : Z * (1 - Y) = 0 := by clear h2 hX hq; grind
 have h4 := (zdL h3).resolve_left hX
 clear h1 h2 h3 hX hq hon
 grind
theorem zCK (hc : Cv d e) (hq : toK 9 * (1 - P.y) = e * (1 + P.y)) : P ≠ zgy := fun h => by
 subst h
 have he := ee hc
 have e0 : e ≠ 0 := fun z => by rw [z] at he; exact zhM (by rw [← he]; decide +kernel)
 have h1 : e * 2 = 0 := by
  have : zgy.y = 1 := rfl
  rw [this] at hq
  clear he e0
  grind
 exact zhN ((zdL h1).resolve_left e0)
theorem mul_one (P : Ed) : zdT d P 1 = P := zjD P
theorem zyX (hc : Cv d e) (hP : On d P) : ∀ m n : Nat, zdT d P m = zgy → zdT d P n = zgy → zdT d P (Nat.gcd m n) = zgy := fun m => by
 induction m using Nat.strongRecOn with
 | ind m ih =>
  intro n hm hn
  by_cases h0 : m = 0
  ·subst h0; rw [Nat.gcd_zero_left]; exact hn
  ·rw [Nat.gcd_rec]
   refine ih (n % m) (Nat.mod_lt _ (Nat.pos_of_ne_zero h0)) m ?_ hm
   have h1 : zdT d P (m * (n / m) + n % m) = zgy := by rw [Nat.div_add_mod]; exact hn
   rw [zf2 hc.free hc.nz hP, ← ziu hc.free hc.nz hP, hm, zoN, zjD] at h1
   exact h1
theorem zyY (hc : Cv d e) (hP : On d P) (hq : toK 9 * (1 - P.y) = e * (1 + P.y)) {n : Nat} (h : zdT d P n = zgy) : znF ∣ n := by
 have h1 := zyX hc hP znF n (zyW hc hP hq) h
 rcases zaB.1.2 (Nat.gcd znF n) (Nat.gcd_dvd_left ..) with h2 | h2
 ·rw [h2, mul_one] at h1
  exact absurd h1 (zCK hc hq)
 ·have h3 := Nat.gcd_dvd_right znF n
  rw [h2] at h3
  exact h3
end
theorem ztK (k : Nat → Nat) : ∀ n, zgz k n < 2 ^ n
 | 0 => by show 0 < 1; decide
 | n + 1 => by
  have h1 := ztK k n
  have h2 := zgr k n
  rw [zgz, Nat.pow_succ]
  omega
theorem zqi (k : Nat → Nat) (h : zgz k 1 = 1) : ∀ n, 0 < zgz k (n + 1)
 | 0 => by rw [h]; decide
 | n + 1 => by
  have h1 := zqi k h n
  rw [zgz]
  omega
theorem ztL (k : Nat → Nat) : zgz (zag k) 1 = 1 := by
 show 2 * 0 + zeu (zag k) 0 = 1
 unfold zeu
 rw [show (254 - 0) / 8 = 31 from rfl, show (254 - 0) % 8 = 6 from rfl]
 show _ + zag k 31 / 64 % 2 = 1
 have : zag k 31 = k 31 % 64 + 64 := by unfold zag; rw [if_neg (by decide), if_pos rfl]
 omega
theorem zrd (k : Nat → Nat) : zoQ k = 8 * zgz (zag k) 252 := by
 have h0 : zag k 0 = k 0 / 8 * 8 := by unfold zag; rw [if_pos rfl]
 have b : ∀ j, j < 3 → zeu (zag k) (252 + j) = 0 := fun j hj => by
  unfold zeu
  rw [show (254 - (252 + j)) / 8 = 0 by omega, h0]
  rcases (by omega : j = 0 ∨ j = 1 ∨ j = 2) with h | h | h <;> subst h
  ·show k 0 / 8 * 8 / 4 % 2 = 0; omega
  ·show k 0 / 8 * 8 / 2 % 2 = 0; omega
  ·show k 0 / 8 * 8 / 1 % 2 = 0; omega
 have b0 := b 0 (by decide)
 have b1 := b 1 (by decide)
 have b2 := b 2 (by decide)
 show 2 * (2 * (2 * zgz (zag k) 252 + zeu (zag k) 252) + zeu (zag k) 253) + zeu (zag k) 254 = _
 rw [show zeu (zag k) 252 = 0 from b0, show zeu (zag k) 253 = 0 from b1, show zeu (zag k) 254 = 0 from b2]
 omega
theorem zqj (k : Nat → Nat) : ¬ znF ∣ zoQ k := fun h => by
 rw [zrd] at h
 have h1 := ztK (zag k) 252
 have h2 := zqi (zag k) (ztL k) 251
 have h3 : (2 : Nat) ^ 252 < znF := by unfold znF; decide +kernel
 have h4 : (8 : Nat) < znF := by unfold znF; decide +kernel
 rcases znn zaB.1 h with h5 | h5
 ·have := Nat.le_of_dvd (by decide) h5
  exact absurd h4 (by unfold znF; omega)
 ·have := Nat.le_of_dvd h2 h5
  exact absurd (jT (Nat.lt_trans h1 h3) this) (Nat.lt_irrefl _)
theorem zyZ : ¬ znF ∣ 2 := fun h => absurd (Nat.le_of_dvd (by decide) h) (by unfold znF; omega)
theorem znG (a b : Nat → Nat) : zdt a (zdt b 9) ≠ 0 := fun h0 => by
 obtain ⟨d, e, P, hc, hP, hq⟩ := zvK zoS
 have h1 := zvH hc hP zmn zoS hq a b
 rw [h0, zg1] at h1
 have hon := zfK hc.free hP (zoQ b * zoQ a)
 have h2 : zdT d (zdT d P (zoQ b * zoQ a)) 2 = zgy := by
  show zcE d (zdT d (zdT d P (zoQ b * zoQ a)) 1) (zdT d P (zoQ b * zoQ a)) = zgy
  rw [mul_one]
  rcases ztH hc hon h1.symm with h3 | h3 <;> rw [h3]
  ·exact zjD _
  ·exact znE
 rw [ziu hc.free hc.nz hP] at h2
 have hp := zaB.1
 rcases znn hp (zyY hc hP hq h2) with h4 | h4
 ·rcases znn hp h4 with h5 | h5
  ·exact zqj _ h5
  ·exact zqj _ h5
 ·exact zyZ h4
end
section
open Go.RowKit
def b8 (x : Int) : BitVec 8 := BitVec.ofInt 8 x
theorem zAI {x y : Int} (hx : 0 ≤ x ∧ x < 256) (hy : 0 ≤ y ∧ y < 256) (h : b8 x = b8 y) : x = y := by
 obtain ⟨m, rfl⟩ := Int.eq_ofNat_of_zero_le hx.1
 obtain ⟨n, rfl⟩ := Int.eq_ofNat_of_zero_le hy.1
 have h1 := congrArg BitVec.toNat h
 simp only [b8, BitVec.ofInt_natCast, BitVec.toNat_ofNat] at h1
 omega
theorem zj2 (a b : Int) : b8 (bits .xor .u8 a b) = b8 a ^^^ b8 b := zuX a b
def T8 (v : BitVec 8) : BitVec 8 := (v <<< 1) ^^^ (if v.msb then 27#8 else 0#8)
theorem zAJ (u v : BitVec 8) : T8 (u ^^^ v) = T8 u ^^^ T8 v := by
 unfold T8
 rw [BitVec.shiftLeft_xor_distrib, BitVec.msb_xor]
 have h : (if (u.msb ^^ v.msb) then 27#8 else 0#8) = (if u.msb then 27#8 else 0#8) ^^^ (if v.msb then 27#8 else 0#8) := by
  cases u.msb <;> cases v.msb <;> decide
 rw [h]
 generalize (if u.msb then 27#8 else 0#8) = p
 generalize (if v.msb then 27#8 else 0#8) = q
 rw [BitVec.xor_assoc, BitVec.xor_assoc, ← BitVec.xor_assoc (v <<< 1) p q, BitVec.xor_comm (v <<< 1) p, BitVec.xor_assoc]
theorem zBG : (List.range 256).all (fun x => decide (b8 (zdJ x) = T8 (b8 x))) = true := by kernel_rfl
theorem zmo {x : Int} (hx : 0 ≤ x ∧ x < 256) : b8 (zdJ x) = T8 (b8 x) := by
 obtain ⟨m, rfl⟩ := Int.eq_ofNat_of_zero_le hx.1
 exact of_decide_eq_true (List.all_eq_true.1 zBG m (List.mem_range.2 (by omega)))
def C8 (y : Nat → BitVec 8) (i : Nat) : BitVec 8 := (y i ^^^ (((y 0 ^^^ y 1) ^^^ y 2) ^^^ y 3)) ^^^ T8 (y i ^^^ y ((i + 1) % 4))
theorem zAK (x : Nat → Int) (i : Nat) : b8 (zm3 x i) = C8 (fun i => b8 (x i)) i := by
 unfold zm3 C8
 rw [zj2, zj2, zj2, zj2, zj2, zmo (zfz _ _ _), zj2]
end
section
open Go.RowKit
def ztM (x : Nat) : Nat := zdF x 4294967295
def zgu (x b : Nat) : Nat := orW (ziM x b) (zjP x (32 - b))
def ztN (x y : Nat) : Nat := (x * y) % 4294967296
def zvR (l : List Nat) : Nat := zdb (zdb (zdb (ztN (l.getD 0 0 % 4294967296) 16777216) (ztN (l.getD 1 0 % 4294967296) 65536)) (ztN (l.getD 2 0 % 4294967296) 256)) (l.getD 3 0 % 4294967296)
def s0R (x : Nat) : Nat := zdF (zdF (zgu x 7) (zgu x 18)) (ziM x 3)
def s1R (x : Nat) : Nat := zdF (zdF (zgu x 17) (zgu x 19)) (ziM x 10)
def S1R (x : Nat) : Nat := zdF (zdF (zgu x 6) (zgu x 11)) (zgu x 25)
def S0R (x : Nat) : Nat := zdF (zdF (zgu x 2) (zgu x 13)) (zgu x 22)
def znH (k : List Nat) (t : Nat) : Nat :=
 if t < 16 then zvR (k.drop (4 * t)) else zdb (zdb (zdb (znH k (t - 16)) (s0R (znH k (t - 15)))) (znH k (t - 7))) (s1R (znH k (t - 2)))
termination_by t
def t1R (gt : Nat → Nat) (k : List Nat) (v : Nat → Nat) (t : Nat) : Nat := zdb (zdb (zdb (zdb (v 7) (S1R (v 4))) (zdF (zfm (v 4) (v 5)) (zfm (ztM (v 4)) (v 6)))) (gt t)) (znH k t)
def t2R (v : Nat → Nat) : Nat := zdb (S0R (v 0)) (zdF (zdF (zfm (v 0) (v 1)) (zfm (v 0) (v 2))) (zfm (v 1) (v 2)))
def vR (gt : Nat → Nat) (k : List Nat) (h : Nat → Nat) : Nat → Nat → Nat
 | 0 => h
 | t + 1 => zf5 (vR gt k h t) (t1R gt k (vR gt k h t) t) (t2R (vR gt k h t))
def zjE (gt h : Nat → Nat) (k : List Nat) : Nat → Nat := zkS h (vR gt k h 64) 8
def tb (x : Nat) : BitVec 32 := BitVec.ofNat 32 x
theorem ztO (x y : Nat) : zdF x y = (tb x ^^^ tb y).toNat := by simp [zdF, tb]
theorem zwV (x y : Nat) : zfm x y = (tb x &&& tb y).toNat := by simp [zfm, tb]
theorem zBH (x y : Nat) : orW x y = (tb x ||| tb y).toNat := by simp [orW, tb]
theorem zmp (b : BitVec 32) : tb b.toNat = b := by simp [tb]
theorem zAL (x : Nat) : tb (ztM x) = ~~~ tb x := by
 rw [ztM, ztO, zmp]
 have : tb 4294967295 = BitVec.allOnes 32 := by decide
 rw [this, BitVec.xor_allOnes]
theorem zCL (e f g : BitVec 32) : g ^^^ (e &&& (f ^^^ g)) = (e &&& f) ^^^ (~~~e &&& g) := by
 apply BitVec.eq_of_getLsbD_eq
 intro i hi
 simp only [BitVec.getLsbD_xor, BitVec.getLsbD_and, BitVec.getLsbD_not, hi, decide_true, Bool.true_and]
 cases e.getLsbD i <;> cases f.getLsbD i <;> cases g.getLsbD i <;> rfl
theorem zCM (a b c : BitVec 32) : (a &&& b) ||| (c &&& (a ||| b)) = ((a &&& b) ^^^ (a &&& c)) ^^^ (b &&& c) := by
 apply BitVec.eq_of_getLsbD_eq
 intro i hi
 simp only [BitVec.getLsbD_xor, BitVec.getLsbD_and, BitVec.getLsbD_or]
 cases a.getLsbD i <;> cases b.getLsbD i <;> cases c.getLsbD i <;> rfl
theorem zBI (e f g : Nat) : zdF g (zfm e (zdF f g)) = zdF (zfm e f) (zfm (ztM e) g) := by
 simp only [ztO, zwV, zmp, zAL, zCL]
theorem zAM (a b c : Nat) : orW (zfm a b) (zfm c (orW a b)) = zdF (zdF (zfm a b) (zfm a c)) (zfm b c) := by
 simp only [ztO, zwV, zBH, zmp, zCM]
theorem znI (x a : Nat) (h1 : 1 ≤ a) (h2 : a ≤ 31) : zwy x (32 - a) = zgu x a := by
 unfold zwy zgu
 rw [show 32 - (32 - a) = a by omega]
 unfold orW
 exact Nat.or_comm _ _
theorem zqk (x a b s : Nat) (h1 : 1 ≤ a) (h2 : a ≤ 31) (h3 : 1 ≤ b) (h4 : b ≤ 31) : zfj x a b s = zdF (zdF (zgu x a) (zgu x b)) (ziM x s) := by
 rw [zfj, znI _ _ h1 h2, znI _ _ h3 h4]
theorem zqm (x a b c : Nat) (h1 : 1 ≤ a) (h2 : a ≤ 31) (h3 : 1 ≤ b) (h4 : b ≤ 31) (h5 : 1 ≤ c) (h6 : c ≤ 31) : zep x a b c = zdF (zdF (zgu x a) (zgu x b)) (zgu x c) := by
 rw [zep, znI _ _ h1 h2, znI _ _ h3 h4, znI _ _ h5 h6]
theorem zkt (a b c : Nat) : zdb a (zdb b c) = zdb (zdb a b) c := by unfold zdb; omega
theorem ztP (a b k : Nat) (hb : b < 2 ^ k) : (a * 2 ^ k) ||| b = a * 2 ^ k + b := by
 have := Nat.two_pow_add_eq_or_of_lt hb a
 rw [Nat.mul_comm] at this
 exact this.symm
theorem zy0 (l : List Nat) (h : ∀ i, l.getD i 0 < 256) : zhW l = zvR l := by
 have h0 := h 0; have h1 := h 1; have h2 := h 2; have h3 := h 3
 unfold zhW zvR
 generalize l.getD 0 0 = a at *
 generalize l.getD 1 0 = b at *
 generalize l.getD 2 0 = c at *
 generalize l.getD 3 0 = d at *
 have e1 : orW (zjP (a % 4294967296) 24) (zjP (b % 4294967296) 16) = (a * 256 + b) * 2 ^ 16 := by
  unfold orW zjP
  have q : (a * 2 ^ 8) ||| b = a * 2 ^ 8 + b := ztP a b 8 (by omega)
  have e : ((a * 2 ^ 24 ||| b * 2 ^ 16) : Nat) = (a * 2 ^ 8 ||| b) * 2 ^ 16 := by
   rw [← Nat.shiftLeft_eq, ← Nat.shiftLeft_eq, ← Nat.shiftLeft_eq, ← Nat.shiftLeft_eq, Nat.shiftLeft_or_distrib, ← Nat.shiftLeft_add]
  simp only [show min 24 32 = 24 from rfl, show min 16 32 = 16 from rfl]
  rw [Nat.mod_eq_of_lt (show a < 4294967296 by omega), Nat.mod_eq_of_lt (show b < 4294967296 by omega), Nat.mod_eq_of_lt (show a * 2 ^ 24 < 4294967296 by omega), Nat.mod_eq_of_lt (show b * 2 ^ 16 < 4294967296 by omega), Nat.mod_eq_of_lt (show a * 2 ^ 24 < 4294967296 by omega), Nat.mod_eq_of_lt (show b * 2 ^ 16 < 4294967296 by omega), e, q]
 have e2 : orW ((a * 256 + b) * 2 ^ 16) (zjP (c % 4294967296) 8) = ((a * 256 + b) * 256 + c) * 2 ^ 8 := by
  unfold orW zjP
  have q : ((a * 256 + b) * 2 ^ 8) ||| c = (a * 256 + b) * 2 ^ 8 + c := ztP _ c 8 (by omega)
  have e : (((a * 256 + b) * 2 ^ 16 ||| c * 2 ^ 8) : Nat) = ((a * 256 + b) * 2 ^ 8 ||| c) * 2 ^ 8 := by
   rw [← Nat.shiftLeft_eq, ← Nat.shiftLeft_eq, ← Nat.shiftLeft_eq, ← Nat.shiftLeft_eq, Nat.shiftLeft_or_distrib, ← Nat.shiftLeft_add]
  simp only [show min 8 32 = 8 from rfl]
  rw [Nat.mod_eq_of_lt (show c < 4294967296 by omega), Nat.mod_eq_of_lt (show c * 2 ^ 8 < 4294967296 by omega), Nat.mod_eq_of_lt (show c * 2 ^ 8 < 4294967296 by omega), Nat.mod_eq_of_lt (show (a * 256 + b) * 2 ^ 16 < 4294967296 by omega), e, q]
 have e3 : orW (((a * 256 + b) * 256 + c) * 2 ^ 8) (d % 4294967296) = ((a * 256 + b) * 256 + c) * 2 ^ 8 + d := by
  unfold orW
  rw [Nat.mod_mod, Nat.mod_eq_of_lt (show d < 4294967296 by omega), Nat.mod_eq_of_lt (show ((a * 256 + b) * 256 + c) * 2 ^ 8 < 4294967296 by omega)]
  exact ztP _ d 8 (by omega)
 rw [e1, e2, e3]
 unfold zdb ztN
 omega
theorem zCm (gt h : Nat → Nat) (k : List Nat) (hk : ∀ i, k.getD i 0 < 256) : ∀ t, t ≤ 64 → ∀ i, i < 16 → (zj9 gt k h t).1 i = znH k (if t ≤ 16 then i else t - 1 - (t - 1 - i) % 16)
 | 0, _, i, hi => by
  rw [zj9, if_pos (by omega)]
  show ziW k 16 i = _
  rw [ziW, if_pos hi, znH, if_pos hi]
  exact zy0 _ fun j => by rw [jR, List.getElem?_drop, ← jR]; exact hk _
 | t + 1, ht, i, hi => by
  have ih := zCm gt h k hk t (by omega)
  rw [zj9]
  show ze0 (zj9 gt k h t).1 t i = _
  unfold ze0
  by_cases h16 : 16 ≤ t
  ·rw [if_pos h16, if_neg (by omega)]
   have pos : ∀ j, j < 16 → (if t ≤ 16 then j else t - 1 - (t - 1 - j) % 16) = t - 1 - (t - 1 - j) % 16 := fun j hj => by
    split
    ·omega
    ·rfl
   unfold upd
   by_cases hit : i = t % 16
   ·rw [if_pos hit]
    rw [ih _ (Nat.mod_lt _ (by decide)), ih _ (Nat.mod_lt _ (by decide)), ih _ (Nat.mod_lt _ (by decide)), ih _ (Nat.mod_lt _ (by decide)), pos _ (Nat.mod_lt _ (by decide)), pos _ (Nat.mod_lt _ (by decide)), pos _ (Nat.mod_lt _ (by decide)), pos _ (Nat.mod_lt _ (by decide))]
    rw [show t - 1 - (t - 1 - t % 16) % 16 = t - 16 by omega, show t - 1 - (t - 1 - (t + 1) % 16) % 16 = t - 15 by omega, show t - 1 - (t - 1 - (t + 9) % 16) % 16 = t - 7 by omega, show t - 1 - (t - 1 - (t + 14) % 16) % 16 = t - 2 by omega]
    rw [show t + 1 - 1 - (t + 1 - 1 - i) % 16 = t by omega]
    rw [znH.eq_def k t, if_neg (by omega), zqk _ _ _ _ (by decide) (by decide) (by decide) (by decide), zqk _ _ _ _ (by decide) (by decide) (by decide) (by decide), zkt, zkt]
    rfl
   ·rw [if_neg hit, ih i hi, pos i hi]
    congr 1
    omega
  ·rw [if_neg h16, ih i hi, if_pos (by omega), if_pos (by omega)]
theorem zwW (gt h : Nat → Nat) (k : List Nat) (hk : ∀ i, k.getD i 0 < 256) : ∀ t, t ≤ 64 → (zj9 gt k h t).2 = vR gt k h t
 | 0, _ => rfl
 | t + 1, ht => by
  have ih := zwW gt h k hk t (by omega)
  have hr := zCm gt h k hk (t + 1) ht (t % 16) (Nat.mod_lt _ (by decide))
  rw [zj9] at hr
  rw [zj9, vR]
  show zf5 (zj9 gt k h t).2 _ _ = _
  rw [ih] at hr ⊢
  have hw : ze0 (zj9 gt k h t).1 t (t % 16) = znH k t := by
   rw [show ze0 (zj9 gt k h t).1 t (t % 16) = znH k (if t + 1 ≤ 16 then t % 16 else t + 1 - 1 - (t + 1 - 1 - t % 16) % 16) from hr]
   congr 1
   split <;> omega
  congr 1
  ·unfold zus t1R
   rw [hw, zqm _ _ _ _ (by decide) (by decide) (by decide) (by decide) (by decide) (by decide), zBI]
   rfl
  ·unfold zwz t2R
   rw [zqm _ _ _ _ (by decide) (by decide) (by decide) (by decide) (by decide) (by decide), zAM]
   rfl
theorem zvS (gt h : Nat → Nat) (k : List Nat) (hk : ∀ i, k.getD i 0 < 256) : zcW gt h k = zjE gt h k := by
 rw [zcW, zjE, zwW gt h k hk 64 (by decide)]
end
section
open Go.RowKit
def ziv (k : List Nat) (n : Nat) : Nat → Nat := fun i => if i < n then znH k i else 0
theorem zjF (k : List Nat) {n i : Nat} (h : i < n) : ziv k n i = znH k i := if_pos h
theorem znJ (k : List Nat) (n j : Nat) : upd (fun i => u32 (ziv k n i)) n (u32 (znH k n)) j = u32 (ziv k (n + 1) j) := by
 rw [zkT]
 congr 2
 unfold upd ziv
 by_cases h : j = n
 ·subst h; simp
 ·rw [if_neg h]
  by_cases h2 : j < n
  ·rw [if_pos h2, if_pos (by omega)]
  ·rw [if_neg h2, if_neg (by omega)]
theorem zy1 (k : List Nat) {n : Nat} (h : n < 16) : zdb (zdb (zdb (ztN (k.getD (4 * n) 0 % 4294967296) 16777216) (ztN (k.getD (4 * n + 1) 0 % 4294967296) 65536)) (ztN (k.getD (4 * n + 2) 0 % 4294967296) 256)) (k.getD (4 * n + 3) 0 % 4294967296) = znH k n := by
 have e : ∀ j, (k.drop (4 * n)).getD j 0 = k.getD (4 * n + j) 0 := fun j => by rw [jR, List.getElem?_drop, ← jR]
 rw [znH, if_pos h, zvR, e, e, e, e]
 all_goals rfl
theorem zvT (k : List Nat) {n : Nat} (h : 16 ≤ n) : zdb (zdb (zdb (ziv k n (n - 16)) (zdF (zdF (zgu (ziv k n (n - 15)) 7) (zgu (ziv k n (n - 15)) 18)) (ziM (ziv k n (n - 15)) 3))) (ziv k n (n - 7))) (zdF (zdF (zgu (ziv k n (n - 2)) 17) (zgu (ziv k n (n - 2)) 19)) (ziM (ziv k n (n - 2)) 10)) = znH k n := by
 rw [zjF k (show n - 16 < n by omega), zjF k (show n - 15 < n by omega), zjF k (show n - 7 < n by omega), zjF k (show n - 2 < n by omega)]
 conv => rhs; rw [znH, if_neg (show ¬ n < 16 by omega)]
 rfl
theorem zAN (gt : Nat → Nat) (k : List Nat) (v : Nat → Nat) {t : Nat} (ht : t < 64) : zdb (zdb (zdb (zdb (v 7) (zdF (zdF (zgu (v 4) 6) (zgu (v 4) 11)) (zgu (v 4) 25))) (zdF (zfm (v 4) (v 5)) (zfm (ztM (v 4)) (v 6)))) (gt t)) (ziv k 64 t) = t1R gt k v t := by
 rw [zjF k ht]; rfl
theorem zAO (v : Nat → Nat) : zdb (zdF (zdF (zgu (v 0) 2) (zgu (v 0) 13)) (zgu (v 0) 22)) (zdF (zdF (zfm (v 0) (v 1)) (zfm (v 0) (v 2))) (zfm (v 1) (v 2))) = t2R v := rfl
theorem zy2 {gt h v : Nat → Nat} {k : List Nat} {t : Nat} (hM : v = vR gt k h t) : zf5 v (t1R gt k v t) (t2R v) = vR gt k h (t + 1) := by
 rw [vR, ← hM]
theorem zAP {ad : Addr} {n i : Nat} {f : Nat → Value} {w : World} (hi : i < n) (h : AtC ad [.row n f] w) : AtC (ad.add i) [.one (f i)] w := fun j u hu => by
 cases j with
 | succ j => simp [cl, Chunk.cells] at hu
 | zero =>
  obtain rfl : f i = u := by simpa [cl, Chunk.cells] using hu
  rw [zb2]
  exact h i _ (by simp [cl, Chunk.cells, hi])
attribute [local irreducible] zdb zdF zfm orW zjP ziM ztN ztM zgu t1R t2R
section
variable {P : Program} {o : Oper} {ws : World} {l : List (Nat × Value)} {S : Nat → Prop} {t u : TypeId} {x y : Operand} {m n : Nat}
theorem zoT (ho : o.op = .binOp .mul t x y u) (hx : ev l x = some (u32 m)) (hy : ev l y = some (u32 n)) : PK P S ws l o (u32 (ztN m n)) :=
 zbN ho hx hy (by
  unfold ztN
  simp only [zj7, ← zgj]
  norm_cast)
theorem zy3 (ho : o.op = .unOp .xor t x) (hx : ev l x = some (u32 m)) : PK P S ws l o (u32 (ztM m)) := fun w' _ a N E => by
 have e : IntKind.u32.wrap (((BitVec.ofInt 32 ((4294967295 : Nat) : Int) ^^^ BitVec.ofInt 32 (m : Int)).toNat : Nat) : Int) = ((ztM m : Nat) : Int) := by
  rw [zzP]; unfold ztM zdF; rw [Nat.xor_comm]
 have h : Op.intBits BinOp.xor IntKind.u32 (if IntKind.u32.signed = true then -1 else IntKind.u32.max) ((m : Nat) : Int) = pure (u32 (ztM m)) := congrArg (fun z => (pure (Value.int .u32 z) : Sem Value)) e
 unfold execOp; rw [ho]; simp only [E.ev hx, Op.unary, h, Sem.run_bind, Sem.run_pure, Result.andThen_ok]
end
theorem zez {x n : Nat} (h1 : 1 ≤ n) (h2 : n < 32) {X : List Nat} {w0 : World} (hX : ∀ k ∈ X, k < w0.heap.size) :
  Calls Tryz.prog 132 #[u32 x, .int .i64 ((n : Nat) : Int)] w0 fun e w' => e = .returned (u32 (zgu x n)) ∧ Sep X [] w0 w' [] [] := by
 refine zaz Tryz.ntmps132 Tryz.func132 rfl rfl fun a E => ?_; replace E : Env a _ [(0, _), (1, _)] := E
 have H : Sep X [] w0 w0 [] [] := Sep.start hX (fun _ h => by cases h)
 refine Vr ?_; refine Vv E pka fun a E => ?_; refine Vn ?_; refine wp_seq_k fun K1 hK1 => ?_; refine zbB E H [] 7 [(0, false), (1, false), (2, false), (3, false), (4, false), (5, false), (6, false)] (by kernel_rfl) (by kernel_rfl) (fun w HS => ?_)
 (simp only [canOps, jD, jE, jF, jG])
 clear H
 have H := HS
 have hsz : w.heap.size ≤ w.heap.size := jV _
 have HK : CanB.Keep (fun k => k < w.heap.size ∧ k ∉ []) w w := CanB.Keep.refl _ _
 refine Cw E HK pkm fun a E => ?_; refine Cw E HK pkm fun a E => ?_; refine Cw E HK (zfu rfl rfl rfl rfl) fun a E => ?_; refine Cw E HK pkm fun a E => ?_; refine Cw E HK pkm fun a E => ?_; refine Cw E HK (zaK rfl rfl rfl rfl (zds (by omega) (by omega))) fun a E => ?_; refine Cw E HK (ziO (k := 32 - n) rfl rfl rfl (by omega)) fun a E => ?_; refine CanB.wpCan_nil ?_
 try (simp only [jH, jI, jF, jG])
 clear HS HK hsz; refine Vv E (ziN rfl rfl rfl) fun a E => ?_; refine Vv E pka fun a E => ?_; refine hK1 _ _ ?_; refine wp_ret ?_
 repeat (first | refine zat ?_ | refine zas ?_)
 refine zf7 rfl E (zcu rfl) ?_; refine ⟨?_, H⟩
 rw [zgu]
theorem ztQ {A : Option Addr} {c : Nat} {tx : List Nat} (hl : tx.length = 64) {X : List Nat} {w0 : World} (hX : ∀ k ∈ X, k < w0.heap.size) (hk : St (TxF A c tx) w0 X) :
  Calls Tryz.prog 131 #[.slice A tx.length c] w0 fun e w' => e = .returned (.agg (ca [.row 64 fun i => u32 (ziv tx 64 i)])) ∧ Sep X [] w0 w' [] [] := by
 obtain ⟨ad, hA⟩ : ∃ ad, A = some ad := by
  cases hq : A with
  | some ad => exact ⟨ad, rfl⟩
  | none => have := (hk.now.nil hq).1; omega
 have hg : ∀ i, i < 64 → tx[i]? = some (tx.getD i 0) := fun i hi => by rw [jR, jP (show i < tx.length by omega)]; rfl
 refine zaz Tryz.ntmps131 Tryz.func131 rfl rfl fun a E => ?_; replace E : Env a _ [(0, _)] := E
 have H : Sep X [] w0 w0 [] [(TxF A c tx)] := Sep.start hX (jJ.2 ⟨hk, fun _ h => by cases h⟩)
 refine Vr ?_; refine Wa (z := [.row 64 fun _ => .int .u32 0]) E H fun b2 w a H E => ?_; refine Vn ?_; refine Vr ?_; refine Wa (z := [.row 64 fun _ => .int .u32 0]) E H fun b3 w a H E => ?_; refine Vn ?_; refine wp_seq_k fun K2 hK2 => ?_; refine Vr ?_; refine Vv E pkm fun a E => ?_; refine Vn ?_; refine wp_block ?_
 have e0 : (fun i => u32 (ziv tx 0 i)) = fun _ => Value.int .u32 0 := by funext i; simp [ziv]
 rw [← e0] at H
 refine zbz (γ := Nat) [0, 2, 3] (fun n => [(10, .int .i64 (n : Int))]) (fun n => [.blk b3 (ca [.row 64 fun i => u32 (ziv tx n i)]) 170, .blk b2 (ca [.row 64 fun i => u32 (ziv tx 0 i)]) 170 ]) (fun n => [TxF A c tx]) (fun n => n ≤ 16) (fun n => 16 - n) (0) E H (by repeat (first | exact trivial | refine ⟨rfl, ?_⟩)) (by omega) ?_; clear E H; intro n a w E H hφ; replace E : Env a _ [(10, _), (0, _), (2, _), (3, _)] := E; replace H : Sep _ _ _ _ [_, _] [_] := H; refine Vr ?_; refine Vv E pki fun a E => ?_; refine Vn ?_; refine wp_seq_k fun K5 hK5 => ?_; refine zaD (d := 11) E rfl ?_ ?_
 ·skip
  clear E; intro c11 E
  have hn : n < 16 := by have := c11; simp only [jS] at this; omega
  refine zbd E rfl ?_; refine wp_skip ?_; refine hK5 _ _ ?_; refine wp_seq_k fun K6 hK6 => ?_; refine wp_block ?_; refine Vr ?_; refine Vv E pkm fun a E => ?_; refine Vv E pka fun a E => ?_; refine Vn ?_; refine zbB E H [] 34 [(0, false), (1, false), (2, false), (3, false), (4, false), (5, false), (6, false), (7, false), (8, false), (9, false), (10, false), (11, false), (12, false), (13, false), (14, false), (15, false), (16, false), (17, false), (18, false), (19, false), (20, false), (21, false), (22, false), (23, false), (24, false), (25, false), (26, false), (27, false), (28, false), (29, false), (30, false), (31, false), (32, false), (33, false)] (by kernel_rfl) (by kernel_rfl) (fun w HS => ?_)
  (simp only [canOps, jD, jE, jF, jG])
  clear H
  have H := HS
  have hsz : w.heap.size ≤ w.heap.size := jV _
  have HK : CanB.Keep (fun k => k < w.heap.size ∧ k ∉ []) w w := CanB.Keep.refl _ _
  refine Cw E HK pkm fun a E => ?_; refine Cw E HK pkm fun a E => ?_; refine Cw E HK pkm fun a E => ?_; refine Cw E HK (zaK rfl rfl rfl rfl (zds (by omega) (by omega))) fun a E => ?_; refine Cw E HK (zcb (sz := 1) (i := 4 * n) hA rfl (by kernel_rfl) rfl rfl (by omega) (by omega)) fun a E => ?_; refine Cw E HK (zdy (HS.fact 0 rfl) (fun k h _ => ⟨h, by simp⟩) hA rfl rfl (hg (4 * n) (by omega)) (by kernel_rfl)) fun a E => ?_; refine Cw E HK (zhC rfl rfl (by kernel_rfl) (by kernel_rfl)) fun a E => ?_
  refine Cw E HK (zoT (n := 16777216) rfl rfl rfl) fun a E => ?_; refine Cw E HK pkm fun a E => ?_; refine Cw E HK pkm fun a E => ?_; refine Cw E HK (zaK rfl rfl rfl rfl (zds (by omega) (by omega))) fun a E => ?_; refine Cw E HK (zaK rfl rfl rfl rfl (zds (by omega) (by omega))) fun a E => ?_; refine Cw E HK (zcb (sz := 1) (i := 4 * n + 1) hA rfl (by kernel_rfl) rfl rfl (by omega) (by omega)) fun a E => ?_; refine Cw E HK (zdy (HS.fact 0 rfl) (fun k h _ => ⟨h, by simp⟩) hA rfl rfl (hg (4 * n + 1) (by omega)) (by kernel_rfl)) fun a E => ?_; refine Cw E HK (zhC rfl rfl (by kernel_rfl) (by kernel_rfl)) fun a E => ?_; refine Cw E HK (zoT (n := 65536) rfl rfl rfl) fun a E => ?_; refine Cw E HK (zbM rfl rfl rfl) fun a E => ?_; refine Cw E HK pkm fun a E => ?_; refine Cw E HK pkm fun a E => ?_; refine Cw E HK (zaK rfl rfl rfl rfl (zds (by omega) (by omega))) fun a E => ?_; refine Cw E HK (zaK rfl rfl rfl rfl (zds (by omega) (by omega))) fun a E => ?_
  refine Cw E HK (zcb (sz := 1) (i := 4 * n + 2) hA rfl (by kernel_rfl) rfl rfl (by omega) (by omega)) fun a E => ?_; refine Cw E HK (zdy (HS.fact 0 rfl) (fun k h _ => ⟨h, by simp⟩) hA rfl rfl (hg (4 * n + 2) (by omega)) (by kernel_rfl)) fun a E => ?_; refine Cw E HK (zhC rfl rfl (by kernel_rfl) (by kernel_rfl)) fun a E => ?_; refine Cw E HK (zoT (n := 256) rfl rfl rfl) fun a E => ?_; refine Cw E HK (zbM rfl rfl rfl) fun a E => ?_; refine Cw E HK pkm fun a E => ?_; refine Cw E HK pkm fun a E => ?_
  refine Cw E HK (zaK rfl rfl rfl rfl (zds (by omega) (by omega))) fun a E => ?_; refine Cw E HK (zaK rfl rfl rfl rfl (zds (by omega) (by omega))) fun a E => ?_; refine Cw E HK (zcb (sz := 1) (i := 4 * n + 3) hA rfl (by kernel_rfl) rfl rfl (by omega) (by omega)) fun a E => ?_; refine Cw E HK (zdy (HS.fact 0 rfl) (fun k h _ => ⟨h, by simp⟩) hA rfl rfl (hg (4 * n + 3) (by omega)) (by kernel_rfl)) fun a E => ?_; refine Cw E HK (zhC rfl rfl (by kernel_rfl) (by kernel_rfl)) fun a E => ?_; refine Cw E HK (zbM rfl rfl rfl) fun a E => ?_; refine CanB.wpCan_nil ?_
  try (simp only [jH, jI, jF, jG])
  clear HS HK hsz; refine Vv E (zaV (i := n) rfl (by kernel_rfl) rfl rfl rfl (show n < 64 by omega)) fun a E => ?_; refine Ve E ?_; refine zbb (off := 0) (fun i => u32 (ziv tx (n + 1) i)) 0 E H rfl rfl rfl (show n < 64 by omega) rfl rfl rfl rfl rfl rfl (by kernel_rfl) (fun j => by rw [zy1 tx hn]; exact znJ tx n j) rfl ?_; clear H; intro w H F; replace H : Sep _ _ _ _ [_, _] _ := H; refine zdf rfl ?_; clear F; refine hK6 _ _ ?_; refine zaA ?_; refine Vv E (zaK rfl rfl rfl rfl (zds (by omega) (by omega))) fun a E => ?_; refine Vv E pkm fun a E => ?_; refine za9 ?_
  exact ⟨n + 1, ⟨E.to (by repeat (first | exact trivial | refine ⟨rfl, ?_⟩)), H, by omega⟩, by omega⟩
 ·skip
  clear E; intro c11 E
  obtain rfl : n = 16 := by have := c11; simp only [decide_eq_false_iff_not] at this; omega
  refine zaX E rfl ?_; refine wp_exit ?_
  repeat (first | refine za3 ?_ | refine za4 ?_ | refine zaU (by decide) ?_)
  refine hK2 _ _ ?_; refine wp_seq_k fun K8 hK8 => ?_; refine Vr ?_; refine Vv E pka fun a E => ?_; refine Vn ?_; refine wp_block ?_; refine zbz (γ := Nat) [2, 3] (fun n => [(5, .int .i64 (n : Int))]) (fun n => [.blk b3 (ca [.row 64 fun i => u32 (ziv tx n i)]) 170, .blk b2 (ca [.row 64 fun i => u32 (ziv tx 0 i)]) 170 ]) (fun n => [TxF A c tx]) (fun n => 16 ≤ n ∧ n ≤ 64) (fun n => 64 - n) (16) E H (by repeat (first | exact trivial | refine ⟨rfl, ?_⟩)) (⟨by omega, by omega⟩) ?_; clear E H; intro n a w E H hφ; replace E : Env a _ [(5, _), (2, _), (3, _)] := E; replace H : Sep _ _ _ _ [_, _] [_] := H; refine wp_seq_k fun K10 hK10 => ?_; refine Vr ?_; refine Vv E pkm fun a E => ?_
  refine Vv E pki fun a E => ?_; refine Vn ?_; refine zaD (d := 50) E rfl ?_ ?_
  ·skip
   clear E; intro c50 E
   have hn : n < 64 := by have := c50; simp only [jS] at this; omega
   refine zbd E rfl ?_; refine wp_skip ?_; refine hK10 _ _ ?_; refine wp_seq_k fun K12 hK12 => ?_; refine wp_block ?_; refine Vr ?_; refine Vv E pkm fun a E => ?_; refine Vv E (zaK rfl rfl rfl rfl (zds (by omega) (by omega))) fun a E => ?_; refine Vv E (zaV (i := n - 15) rfl (by kernel_rfl) rfl rfl (by omega) (show n - 15 < 64 by omega)) fun a E => ?_; refine Vv E (zaE (i := n - 15) (off := 0) H 0 rfl trivial rfl (show n - 15 < 64 by omega) rfl rfl rfl (by kernel_rfl)) fun a E => ?_; refine Vv E pka fun a E => ?_; refine Vn ?_; refine Vr ?_; refine Vv E pkm fun a E => ?_
   refine Vv E (zaK rfl rfl rfl rfl (zds (by omega) (by omega))) fun a E => ?_; refine Vv E (zaV (i := n - 2) rfl (by kernel_rfl) rfl rfl (by omega) (show n - 2 < 64 by omega)) fun a E => ?_; refine Vv E (zaE (i := n - 2) (off := 0) H 0 rfl trivial rfl (show n - 2 < 64 by omega) rfl rfl rfl (by kernel_rfl)) fun a E => ?_; refine Vv E pka fun a E => ?_; refine Vn ?_; refine Vr ?_; refine Vv E pkm fun a E => ?_; refine Ve E ?_; refine Vc E ?_; refine (zez (n := 7) (by omega) (by omega) H.xk).mono ?_; rintro e w ⟨rfl, H1⟩
   replace H := H.call H1
   clear H1; replace H : Sep _ _ _ _ [_, _] [_] := H; refine Vp E fun a E => ?_; refine Vv E pkm fun a E => ?_; refine Ve E ?_; refine Vc E ?_; refine (zez (n := 18) (by omega) (by omega) H.xk).mono ?_; rintro e w ⟨rfl, H1⟩
   replace H := H.call H1
   clear H1; replace H : Sep _ _ _ _ [_, _] [_] := H; refine Vp E fun a E => ?_; refine Vv E (zcz rfl rfl rfl) fun a E => ?_; refine Vv E pkm fun a E => ?_; refine Vv E (zfu (k := 3) rfl rfl rfl rfl) fun a E => ?_; refine Vv E (zcz rfl rfl rfl) fun a E => ?_; refine Vv E pka fun a E => ?_; refine Vn ?_; refine Vr ?_; refine Vv E pkm fun a E => ?_; refine Ve E ?_; refine Vc E ?_; refine (zez (n := 17) (by omega) (by omega) H.xk).mono ?_; rintro e w ⟨rfl, H1⟩
   replace H := H.call H1
   clear H1; replace H : Sep _ _ _ _ [_, _] [_] := H; refine Vp E fun a E => ?_; refine Vv E pkm fun a E => ?_; refine Ve E ?_; refine Vc E ?_; refine (zez (n := 19) (by omega) (by omega) H.xk).mono ?_; rintro e w ⟨rfl, H1⟩
   replace H := H.call H1
   clear H1; replace H : Sep _ _ _ _ [_, _] [_] := H; refine Vp E fun a E => ?_; refine Vv E (zcz rfl rfl rfl) fun a E => ?_; refine Vv E pkm fun a E => ?_; refine Vv E (zfu (k := 10) rfl rfl rfl rfl) fun a E => ?_; refine Vv E (zcz rfl rfl rfl) fun a E => ?_; refine Vv E pka fun a E => ?_; refine Vn ?_; refine zbB E H [] 14 [(0, false), (1, false), (2, false), (3, false), (4, false), (5, false), (6, false), (7, false), (8, false), (9, false), (10, false), (11, false), (12, false), (13, false)] (by kernel_rfl) (by kernel_rfl) (fun w HS => ?_)
   (simp only [canOps, jD, jE, jF, jG])
   clear H
   have H := HS
   have hsz : w.heap.size ≤ w.heap.size := jV _
   have HK : CanB.Keep (fun k => k < w.heap.size ∧ k ∉ []) w w := CanB.Keep.refl _ _
   refine Cw E HK pkm fun a E => ?_; refine Cw E HK pkm fun a E => ?_; refine Cw E HK (zaK rfl rfl rfl rfl (zds (by omega) (by omega))) fun a E => ?_; refine Cw E HK (zaV (i := n - 16) rfl (by kernel_rfl) rfl rfl (by omega) (show n - 16 < 64 by omega)) fun a E => ?_; refine Cw E HK (zaE (i := n - 16) (off := 0) HS 0 rfl (HS.inS 0 rfl (by simp)) rfl (show n - 16 < 64 by omega) rfl rfl rfl (by kernel_rfl)) fun a E => ?_; refine Cw E HK pkm fun a E => ?_; refine Cw E HK (zbM rfl rfl rfl) fun a E => ?_
   refine Cw E HK pkm fun a E => ?_; refine Cw E HK (zaK rfl rfl rfl rfl (zds (by omega) (by omega))) fun a E => ?_; refine Cw E HK (zaV (i := n - 7) rfl (by kernel_rfl) rfl rfl (by omega) (show n - 7 < 64 by omega)) fun a E => ?_; refine Cw E HK (zaE (i := n - 7) (off := 0) HS 0 rfl (HS.inS 0 rfl (by simp)) rfl (show n - 7 < 64 by omega) rfl rfl rfl (by kernel_rfl)) fun a E => ?_; refine Cw E HK (zbM rfl rfl rfl) fun a E => ?_; refine Cw E HK pkm fun a E => ?_; refine Cw E HK (zbM rfl rfl rfl) fun a E => ?_
   refine CanB.wpCan_nil ?_
   try (simp only [jH, jI, jF, jG])
   clear HS HK hsz; refine Vv E (zaV (i := n) rfl (by kernel_rfl) rfl rfl rfl hn) fun a E => ?_; refine Ve E ?_; refine zbb (off := 0) (fun i => u32 (ziv tx (n + 1) i)) 0 E H rfl rfl rfl hn rfl rfl rfl rfl rfl rfl (by kernel_rfl) (fun j => by rw [zvT tx hφ.1]; exact znJ tx n j) rfl ?_; clear H; intro w H F; replace H : Sep _ _ _ _ [_, _] _ := H; refine zdf rfl ?_; clear F; refine hK12 _ _ ?_; refine zaA ?_; refine Vv E pkm fun a E => ?_; refine Vv E (zaK rfl rfl rfl rfl (zds (by omega) (by omega))) fun a E => ?_; refine Vv E pka fun a E => ?_; refine za9 ?_
   exact ⟨n + 1, ⟨E.to (by repeat (first | exact trivial | refine ⟨rfl, ?_⟩)), H, ⟨by omega, by omega⟩⟩, by omega⟩
  ·skip
   clear E; intro c50 E
   obtain rfl : n = 64 := by have := c50; simp only [decide_eq_false_iff_not] at this; omega
   refine zaX E rfl ?_; refine wp_exit ?_
   repeat (first | refine za3 ?_ | refine za4 ?_ | refine zaU (by decide) ?_)
   refine hK8 _ _ ?_; refine Vr ?_; refine Vv E (pkl 64 H 0) fun a E => ?_; refine Ws 1 E H fun w H => ?_; replace H : Sep _ _ _ _ [_, _] _ := H; refine Vn ?_; refine wp_ret ?_
   repeat (first | refine zat ?_ | refine zas ?_)
   refine zf7 rfl E (by exact zg8 (n := 64) H 1 rfl rfl rfl (by kernel_rfl)) ?_
   exact ⟨rfl, H.pop.popL.popL⟩
theorem ztR {h gt : Nat → Nat} {A : Option Addr} {c : Nat} {tx : List Nat} (hl : tx.length = 64) {X : List Nat} {w0 : World} (hX : ∀ k ∈ X, k < w0.heap.size) (hk : St (TxF A c tx) w0 X) (hG : St (AtC ⟨1, 0, none⟩ [.row 64 fun i => u32 (gt i)]) w0 X) :
  Calls Tryz.prog 115 #[.agg (ca [.row 8 fun i => u32 (h i)]), .slice A tx.length c] w0 fun e w' => e = .returned (.agg (ca [.row 8 fun i => u32 (zjE gt h tx i)])) ∧ Sep X [] w0 w' [] [] := by
 refine zaz Tryz.ntmps115 Tryz.func115 rfl rfl fun a E => ?_; replace E : Env a _ [(0, _), (1, _)] := E
 have H : Sep X [] w0 w0 [] [(TxF A c tx), (AtC ⟨1, 0, none⟩ [.row 64 fun i => u32 (gt i)])] := Sep.start hX (jJ.2 ⟨hk, jJ.2 ⟨hG, fun _ h => by cases h⟩⟩)
 refine Vr ?_; refine Wb E H fun b2 w a H E => ?_; refine Wa (z := [.row 8 fun _ => .int .u32 0]) E H fun b4 w a H E => ?_; refine Vn ?_; refine Vr ?_; refine Vv E pkm fun a E => ?_; refine Ve E ?_; refine Vc E ?_; refine (ztQ hl H.xk (H.fact 0 rfl)).mono ?_; rintro e w ⟨rfl, H1⟩
 replace H := H.call H1
 clear H1; replace H : Sep _ _ _ _ [_, _] [_, _] := H; refine Vp E fun a E => ?_; refine Wa (z := [.row 64 fun _ => .int .u32 0]) E H fun b5 w a H E => ?_; refine Ws 0 E H fun w H => ?_; replace H : Sep _ _ _ _ [_, _, _] _ := H; refine Vn ?_; refine Vr ?_; refine Vv E (pkl 8 H 2) fun a E => ?_; refine Wa (z := [.row 8 fun _ => .int .u32 0]) E H fun b6 w a H E => ?_; refine Ws 0 E H fun w H => ?_; replace H : Sep _ _ _ _ [_, _, _, _] _ := H; refine Vn ?_; refine wp_seq_k fun K3 hK3 => ?_; refine Vr ?_; refine Vv E pkm fun a E => ?_; refine Vn ?_; refine wp_block ?_
 refine zbz (γ := Nat × (Nat → Nat)) [2, 4, 5, 6] (fun g => [(16, .int .i64 (g.1 : Int))]) (fun g => [.blk b6 (ca [.row 8 fun i => u32 (g.2 i)]) 146, .blk b5 (ca [.row 64 fun i => u32 (ziv tx 64 i)]) 170, .blk b4 (ca [.row 8 fun _ => .int .u32 0]) 146, .blk b2 (ca [.row 8 fun i => u32 (h i)]) 146 ]) (fun g => [TxF A c tx, AtC ⟨1, 0, none⟩ [.row 64 fun i => u32 (gt i)]]) (fun g => g.1 ≤ 64 ∧ g.2 = vR gt tx h g.1) (fun g => 64 - g.1) ((0, h)) E H (by repeat (first | exact trivial | refine ⟨rfl, ?_⟩)) (⟨by omega, rfl⟩) ?_; clear E H; intro g a w E H hφ; replace E : Env a _ [(16, _), (2, _), (4, _), (5, _), (6, _)] := E; replace H : Sep _ _ _ _ [_, _, _, _] [_, _] := H
 obtain ⟨t, vv⟩ := g
 simp only at E H hφ ⊢
 obtain ⟨hφ, hM⟩ := hφ
 refine Vr ?_; refine Vv E pki fun a E => ?_; refine Vn ?_; refine wp_seq_k fun K6 hK6 => ?_; refine zaD (d := 17) E rfl ?_ ?_
 ·skip
  clear E; intro c17 E
  have ht64 : t < 64 := by have := c17; simp only [jS] at this; omega
  refine zbd E rfl ?_; refine wp_skip ?_; refine hK6 _ _ ?_; refine wp_seq_k fun K7 hK7 => ?_; refine wp_block ?_; refine Vr ?_; refine Vv E pkm fun a E => ?_; refine Vv E pka fun a E => ?_; refine Vn ?_; refine wp_seq_k fun K9 hK9 => ?_; refine zbB E H [] 5 [(0, false), (1, false), (2, false), (3, false), (4, false)] (by kernel_rfl) (by kernel_rfl) (fun w HS => ?_)
  (simp only [canOps, jD, jE, jF, jG])
  clear H
  have H := HS
  have hsz : w.heap.size ≤ w.heap.size := jV _
  have HK : CanB.Keep (fun k => k < w.heap.size ∧ k ∉ []) w w := CanB.Keep.refl _ _
  refine Cw E HK (zaV (i := 0) rfl (by kernel_rfl) rfl rfl rfl (show 0 < 8 by decide)) fun a E => ?_; refine Cw E HK (zaE (i := 0) (off := 0) HS 0 rfl (HS.inS 0 rfl (by simp)) rfl (show 0 < 8 by decide) rfl rfl rfl (by kernel_rfl)) fun a E => ?_; refine Cw E HK (zaV (i := 4) rfl (by kernel_rfl) rfl rfl rfl (show 4 < 8 by decide)) fun a E => ?_; refine Cw E HK (zaE (i := 4) (off := 0) HS 0 rfl (HS.inS 0 rfl (by simp)) rfl (show 4 < 8 by decide) rfl rfl rfl (by kernel_rfl)) fun a E => ?_; refine Cw E HK (zcT rfl rfl) fun a E => ?_; refine CanB.wpCan_nil ?_
  try (simp only [jH, jI, jF, jG])
  clear HS HK hsz; refine Vv E pka fun a E => ?_; refine hK9 _ _ ?_; refine wp_seq_k fun K10 hK10 => ?_
  replace H := H.know ((H.fact 1 rfl).imp fun w h => zAP ht64 h)
  replace H : Sep _ _ _ _ [_, _, _, _] [_, _, _] := H; refine zbB E H [] 29 [(0, false), (1, false), (2, false), (4, false), (7, false), (11, false), (12, false), (13, false), (14, false), (15, false), (16, false), (17, false), (18, false), (19, false), (20, false), (22, false), (23, false), (24, false), (26, false), (27, false), (28, false), (3, true), (5, true), (6, false), (8, true), (9, false), (10, false), (21, false), (25, false)] (by kernel_rfl) (by kernel_rfl) (fun w HS => ?_)
  (simp only [canOps, jD, jE, jF, jG])
  clear H
  have H := HS
  have hsz : w.heap.size ≤ w.heap.size := jV _
  have HK : CanB.Keep (fun k => k < w.heap.size ∧ k ∉ []) w w := CanB.Keep.refl _ _
  refine Cw E HK (zaV (i := 7) rfl (by kernel_rfl) rfl rfl rfl (show 7 < 8 by decide)) fun a E => ?_; refine Cw E HK (zaE (i := 7) (off := 0) HS 0 rfl (HS.inS 0 rfl (by simp)) rfl (show 7 < 8 by decide) rfl rfl rfl (by kernel_rfl)) fun a E => ?_; refine Cw E HK pkm fun a E => ?_; refine Cw E HK pkm fun a E => ?_; refine Cw E HK pkm fun a E => ?_; refine Cw E HK pkm fun a E => ?_; refine Cw E HK (zaV (i := 5) rfl (by kernel_rfl) rfl rfl rfl (show 5 < 8 by decide)) fun a E => ?_
  refine Cw E HK (zaE (i := 5) (off := 0) HS 0 rfl (HS.inS 0 rfl (by simp)) rfl (show 5 < 8 by decide) rfl rfl rfl (by kernel_rfl)) fun a E => ?_; refine Cw E HK (zft rfl rfl rfl) fun a E => ?_; refine Cw E HK pkm fun a E => ?_; refine Cw E HK (zy3 rfl rfl) fun a E => ?_; refine Cw E HK (zaV (i := 6) rfl (by kernel_rfl) rfl rfl rfl (show 6 < 8 by decide)) fun a E => ?_; refine Cw E HK (zaE (i := 6) (off := 0) HS 0 rfl (HS.inS 0 rfl (by simp)) rfl (show 6 < 8 by decide) rfl rfl rfl (by kernel_rfl)) fun a E => ?_
  refine Cw E HK (zft rfl rfl rfl) fun a E => ?_; refine Cw E HK (zcz rfl rfl rfl) fun a E => ?_; refine Cw E HK pkm fun a E => ?_; refine Cw E HK (zaV (i := t) rfl (by kernel_rfl) rfl rfl rfl ht64) fun a E => ?_; refine Cw E HK (zcy (HS.fact 0 rfl) (fun k h _ => ⟨h, by simp⟩) rfl rfl rfl (by kernel_rfl)) fun a E => ?_; refine Cw E HK pkm fun a E => ?_; refine Cw E HK (zaV (i := t) rfl (by kernel_rfl) rfl rfl rfl ht64) fun a E => ?_
  refine Cw E HK (zaE (i := t) (off := 0) HS 1 rfl (HS.inS 1 rfl (by simp)) rfl ht64 rfl rfl rfl (by kernel_rfl)) fun a E => ?_; refine zgg E rfl (fun K hK => ?_); refine Vc E ?_; refine (zez (n := 6) (by omega) (by omega) H.xk).mono ?_; rintro e w ⟨rfl, H1⟩
  have F := H1.frm
  replace H := H.call H1
  clear H1; replace H : Sep _ _ _ _ [_, _, _, _] [_, _, _] := H
  have hk := zbh (D := []) F hsz (by simp)
  refine hK _ _ hk ?_; clear hK K
  replace HK := HK.trans hk
  replace hsz := jU hsz (F).size
  clear hk; refine zgi E rfl rfl ?_; clear E a; intro a E; clear F; refine zgg E rfl (fun K hK => ?_); refine Vc E ?_; refine (zez (n := 11) (by omega) (by omega) H.xk).mono ?_; rintro e w ⟨rfl, H1⟩
  have F := H1.frm
  replace H := H.call H1
  clear H1; replace H : Sep _ _ _ _ [_, _, _, _] [_, _, _] := H
  have hk := zbh (D := []) F hsz (by simp)
  refine hK _ _ hk ?_; clear hK K
  replace HK := HK.trans hk
  replace hsz := jU hsz (F).size
  clear hk; refine zgi E rfl rfl ?_; clear E a; intro a E; clear F; refine Cw E HK (zcz rfl rfl rfl) fun a E => ?_; refine zgg E rfl (fun K hK => ?_); refine Vc E ?_; refine (zez (n := 25) (by omega) (by omega) H.xk).mono ?_; rintro e w ⟨rfl, H1⟩
  have F := H1.frm
  replace H := H.call H1
  clear H1; replace H : Sep _ _ _ _ [_, _, _, _] [_, _, _] := H
  have hk := zbh (D := []) F hsz (by simp)
  refine hK _ _ hk ?_; clear hK K
  replace HK := HK.trans hk
  replace hsz := jU hsz (F).size
  clear hk; refine zgi E rfl rfl ?_; clear E a; intro a E; clear F; refine Cw E HK (zcz rfl rfl rfl) fun a E => ?_; refine Cw E HK (zbM rfl rfl rfl) fun a E => ?_; refine Cw E HK (zbM rfl rfl rfl) fun a E => ?_; refine Cw E HK (zbM rfl rfl rfl) fun a E => ?_; refine CanB.wpCan_nil ?_
  try (simp only [jH, jI, jF, jG])
  clear HS HK hsz; refine Vv E (zbM rfl rfl rfl) fun a E => ?_; refine Vv E (zfT rfl rfl (congrArg (fun z => u32 z) (zAN gt tx vv ht64))) fun a E => ?_; refine hK10 _ _ ?_; refine wp_seq_k fun K11 hK11 => ?_; refine zbB E H [] 23 [(0, false), (2, false), (5, false), (8, false), (9, false), (10, false), (11, false), (12, false), (13, false), (14, false), (15, false), (16, false), (17, false), (18, false), (19, false), (20, false), (21, false), (22, false), (1, true), (3, true), (4, false), (6, true), (7, false)] (by kernel_rfl) (by kernel_rfl) (fun w HS => ?_)
  (simp only [canOps, jD, jE, jF, jG])
  clear H
  have H := HS
  have hsz : w.heap.size ≤ w.heap.size := jV _
  have HK : CanB.Keep (fun k => k < w.heap.size ∧ k ∉ []) w w := CanB.Keep.refl _ _
  refine Cw E HK pkm fun a E => ?_; refine Cw E HK pkm fun a E => ?_; refine Cw E HK pkm fun a E => ?_; refine Cw E HK pkm fun a E => ?_; refine Cw E HK (zaV (i := 1) rfl (by kernel_rfl) rfl rfl rfl (show 1 < 8 by decide)) fun a E => ?_; refine Cw E HK (zaE (i := 1) (off := 0) HS 0 rfl (HS.inS 0 rfl (by simp)) rfl (show 1 < 8 by decide) rfl rfl rfl (by kernel_rfl)) fun a E => ?_; refine Cw E HK (zft rfl rfl rfl) fun a E => ?_
  refine Cw E HK pkm fun a E => ?_; refine Cw E HK (zaV (i := 2) rfl (by kernel_rfl) rfl rfl rfl (show 2 < 8 by decide)) fun a E => ?_; refine Cw E HK (zaE (i := 2) (off := 0) HS 0 rfl (HS.inS 0 rfl (by simp)) rfl (show 2 < 8 by decide) rfl rfl rfl (by kernel_rfl)) fun a E => ?_; refine Cw E HK (zft rfl rfl rfl) fun a E => ?_; refine Cw E HK (zcz rfl rfl rfl) fun a E => ?_; refine Cw E HK (zaV (i := 1) rfl (by kernel_rfl) rfl rfl rfl (show 1 < 8 by decide)) fun a E => ?_
  refine Cw E HK (zaE (i := 1) (off := 0) HS 0 rfl (HS.inS 0 rfl (by simp)) rfl (show 1 < 8 by decide) rfl rfl rfl (by kernel_rfl)) fun a E => ?_; refine Cw E HK (zaV (i := 2) rfl (by kernel_rfl) rfl rfl rfl (show 2 < 8 by decide)) fun a E => ?_; refine Cw E HK (zaE (i := 2) (off := 0) HS 0 rfl (HS.inS 0 rfl (by simp)) rfl (show 2 < 8 by decide) rfl rfl rfl (by kernel_rfl)) fun a E => ?_; refine Cw E HK (zft rfl rfl rfl) fun a E => ?_; refine Cw E HK (zcz rfl rfl rfl) fun a E => ?_; refine zgg E rfl (fun K hK => ?_); refine Vc E ?_; refine (zez (n := 2) (by omega) (by omega) H.xk).mono ?_
  rintro e w ⟨rfl, H1⟩
  have F := H1.frm
  replace H := H.call H1
  clear H1; replace H : Sep _ _ _ _ [_, _, _, _] [_, _, _] := H
  have hk := zbh (D := []) F hsz (by simp)
  refine hK _ _ hk ?_; clear hK K
  replace HK := HK.trans hk
  replace hsz := jU hsz (F).size
  clear hk; refine zgi E rfl rfl ?_; clear E a; intro a E; clear F; refine zgg E rfl (fun K hK => ?_); refine Vc E ?_; refine (zez (n := 13) (by omega) (by omega) H.xk).mono ?_; rintro e w ⟨rfl, H1⟩
  have F := H1.frm
  replace H := H.call H1
  clear H1; replace H : Sep _ _ _ _ [_, _, _, _] [_, _, _] := H
  have hk := zbh (D := []) F hsz (by simp)
  refine hK _ _ hk ?_; clear hK K
  replace HK := HK.trans hk
  replace hsz := jU hsz (F).size
  clear hk; refine zgi E rfl rfl ?_; clear E a; intro a E; clear F; refine Cw E HK (zcz rfl rfl rfl) fun a E => ?_; refine zgg E rfl (fun K hK => ?_); refine Vc E ?_; refine (zez (n := 22) (by omega) (by omega) H.xk).mono ?_; rintro e w ⟨rfl, H1⟩
  have F := H1.frm
  replace H := H.call H1
  clear H1; replace H : Sep _ _ _ _ [_, _, _, _] [_, _, _] := H
  have hk := zbh (D := []) F hsz (by simp)
  refine hK _ _ hk ?_; clear hK K
  replace HK := HK.trans hk
  replace hsz := jU hsz (F).size
  clear hk; refine zgi E rfl rfl ?_; clear E a; intro a E; clear F; refine Cw E HK (zcz rfl rfl rfl) fun a E => ?_; refine CanB.wpCan_nil ?_
  try (simp only [jH, jI, jF, jG])
  clear HS HK hsz; refine Vv E (zbM rfl rfl rfl) fun a E => ?_; refine Vv E (zfT rfl rfl (congrArg (fun z => u32 z) (zAO vv))) fun a E => ?_; refine hK11 _ _ ?_; refine zaA ?_; refine Vv E pkm fun a E => ?_; refine Vv E pkm fun a E => ?_; refine Vv E (zbM rfl rfl rfl) fun a E => ?_; refine Vv E (zaV (i := 0) rfl (by kernel_rfl) rfl rfl rfl (show 0 < 8 by decide)) fun a E => ?_; refine Vv E (zaE (i := 0) (off := 0) H 0 rfl trivial rfl (show 0 < 8 by decide) rfl rfl rfl (by kernel_rfl)) fun a E => ?_; refine Vv E (zaV (i := 1) rfl (by kernel_rfl) rfl rfl rfl (show 1 < 8 by decide)) fun a E => ?_
  refine Vv E (zaE (i := 1) (off := 0) H 0 rfl trivial rfl (show 1 < 8 by decide) rfl rfl rfl (by kernel_rfl)) fun a E => ?_; refine Vv E (zaV (i := 2) rfl (by kernel_rfl) rfl rfl rfl (show 2 < 8 by decide)) fun a E => ?_; refine Vv E (zaE (i := 2) (off := 0) H 0 rfl trivial rfl (show 2 < 8 by decide) rfl rfl rfl (by kernel_rfl)) fun a E => ?_; refine Vv E (zaV (i := 3) rfl (by kernel_rfl) rfl rfl rfl (show 3 < 8 by decide)) fun a E => ?_; refine Vv E (zaE (i := 3) (off := 0) H 0 rfl trivial rfl (show 3 < 8 by decide) rfl rfl rfl (by kernel_rfl)) fun a E => ?_; refine Vv E pkm fun a E => ?_; refine Vv E (zbM rfl rfl rfl) fun a E => ?_
  refine Vv E (zaV (i := 4) rfl (by kernel_rfl) rfl rfl rfl (show 4 < 8 by decide)) fun a E => ?_; refine Vv E (zaE (i := 4) (off := 0) H 0 rfl trivial rfl (show 4 < 8 by decide) rfl rfl rfl (by kernel_rfl)) fun a E => ?_; refine Vv E (zaV (i := 5) rfl (by kernel_rfl) rfl rfl rfl (show 5 < 8 by decide)) fun a E => ?_; refine Vv E (zaE (i := 5) (off := 0) H 0 rfl trivial rfl (show 5 < 8 by decide) rfl rfl rfl (by kernel_rfl)) fun a E => ?_; refine Vv E (zaV (i := 6) rfl (by kernel_rfl) rfl rfl rfl (show 6 < 8 by decide)) fun a E => ?_; refine Vv E (zaE (i := 6) (off := 0) H 0 rfl trivial rfl (show 6 < 8 by decide) rfl rfl rfl (by kernel_rfl)) fun a E => ?_
  refine Vv E (zgK (n := 8) (z := [.one (.int .u32 0), .one (.int .u32 0), .one (.int .u32 0), .one (.int .u32 0), .one (.int .u32 0), .one (.int .u32 0), .one (.int .u32 0), .one (.int .u32 0)]) (f := fun i => u32 (zf5 vv (t1R gt tx vv t) (t2R vv) i)) rfl (by kernel_rfl) (by kernel_rfl) (⟨_, [.one _], 0, _, rfl, rfl, rfl, rfl, ⟨_, [.one _], 1, _, rfl, rfl, rfl, rfl, ⟨_, [.one _], 2, _, rfl, rfl, rfl, rfl, ⟨_, [.one _], 3, _, rfl, rfl, rfl, rfl, ⟨_, [.one _], 4, _, rfl, rfl, rfl, rfl, ⟨_, [.one _], 5, _, rfl, rfl, rfl, rfl, ⟨_, [.one _], 6, _, rfl, rfl, rfl, rfl, ⟨_, [.one _], 7, _, rfl, rfl, rfl, rfl, rfl⟩⟩⟩⟩⟩⟩⟩⟩) rfl) fun a E => ?_; refine Ws 0 E H fun w H => ?_; replace H : Sep _ _ _ _ [_, _, _, _] _ := H; refine hK7 _ _ ?_; refine zaA ?_; refine Vv E (zaK rfl rfl rfl rfl (zds (by omega) (by omega))) fun a E => ?_; refine Vv E pkm fun a E => ?_; refine za9 ?_
  exact ⟨(t + 1, zf5 vv (t1R gt tx vv t) (t2R vv)), ⟨E.to (by repeat (first | exact trivial | refine ⟨rfl, ?_⟩)), H.pop, ⟨by show t + 1 ≤ 64; omega, zy2 hM⟩⟩, by show 64 - (t + 1) < 64 - t; omega⟩
 ·skip
  clear E; intro c17 E
  obtain rfl : t = 64 := by have := c17; simp only [decide_eq_false_iff_not] at this; omega
  refine zaX E rfl ?_; refine wp_exit ?_
  repeat (first | refine za3 ?_ | refine za4 ?_ | refine zaU (by decide) ?_)
  refine hK3 _ _ ?_; refine wp_seq_k fun K12 hK12 => ?_; refine Vr ?_; refine Vv E pkm fun a E => ?_; refine Vn ?_; refine wp_block ?_
  have e0 : (fun i => u32 (zkS h vv 0 i)) = fun i => u32 (h i) := by funext i; simp [zkS]
  rw [← e0] at H
  refine zbz (γ := Nat) [2, 4, 6] (fun n => [(98, .int .i64 (n : Int))]) (fun n => [.blk b6 (ca [.row 8 fun i => u32 (vv i)]) 146, .blk b5 (ca [.row 64 fun i => u32 (ziv tx 64 i)]) 170, .blk b4 (ca [.row 8 fun _ => .int .u32 0]) 146, .blk b2 (ca [.row 8 fun i => u32 (zkS h vv n i)]) 146 ]) (fun n => [TxF A c tx, AtC ⟨1, 0, none⟩ [.row 64 fun i => u32 (gt i)]]) (fun n => n ≤ 8) (fun n => 8 - n) (0) E H (by repeat (first | exact trivial | refine ⟨rfl, ?_⟩)) (by omega) ?_; clear E H; intro n a w E H hφ; replace E : Env a _ [(98, _), (2, _), (4, _), (6, _)] := E; replace H : Sep _ _ _ _ [_, _, _, _] [_, _] := H; refine Vr ?_; refine Vv E pki fun a E => ?_; refine Vn ?_; refine wp_seq_k fun K15 hK15 => ?_
  refine zaD (d := 99) E rfl ?_ ?_
  ·skip
   clear E; intro c99 E
   have hn : n < 8 := by have := c99; simp only [jS] at this; omega
   refine zbd E rfl ?_; refine wp_skip ?_; refine hK15 _ _ ?_; refine wp_seq_k fun K16 hK16 => ?_; refine wp_block ?_; refine Vr ?_; refine Vv E pkm fun a E => ?_; refine Vv E pka fun a E => ?_; refine Vn ?_; refine zbB E H [] 6 [(0, false), (1, false), (2, false), (3, false), (4, false), (5, false)] (by kernel_rfl) (by kernel_rfl) (fun w HS => ?_)
   (simp only [canOps, jD, jE, jF, jG])
   clear H
   have H := HS
   have hsz : w.heap.size ≤ w.heap.size := jV _
   have HK : CanB.Keep (fun k => k < w.heap.size ∧ k ∉ []) w w := CanB.Keep.refl _ _
   refine Cw E HK pkm fun a E => ?_; refine Cw E HK (zaV (i := n) rfl (by kernel_rfl) rfl rfl rfl hn) fun a E => ?_; refine Cw E HK (zaE (i := n) (off := 0) HS 3 rfl (HS.inS 3 rfl (by simp)) rfl hn rfl rfl rfl (by kernel_rfl)) fun a E => ?_; refine Cw E HK pkm fun a E => ?_; refine Cw E HK (zaV (i := n) rfl (by kernel_rfl) rfl rfl rfl hn) fun a E => ?_; refine Cw E HK (zaE (i := n) (off := 0) HS 0 rfl (HS.inS 0 rfl (by simp)) rfl hn rfl rfl rfl (by kernel_rfl)) fun a E => ?_; refine CanB.wpCan_nil ?_
   try (simp only [jH, jI, jF, jG])
   clear HS HK hsz; refine Vv E (zbM rfl rfl rfl) fun a E => ?_; refine Vv E (zaV (i := n) rfl (by kernel_rfl) rfl rfl rfl hn) fun a E => ?_; refine Ve E ?_; refine zbb (off := 0) (fun i => u32 (zkS h vv (n + 1) i)) 3 E H rfl rfl rfl hn rfl rfl rfl rfl rfl rfl (by kernel_rfl) (fun j => by rw [zrW]; exact zmR _ _ n j) rfl ?_; clear H; intro w H F; replace H : Sep _ _ _ _ [_, _, _, _] _ := H; refine zdf rfl ?_; clear F; refine hK16 _ _ ?_; refine zaA ?_; refine Vv E (zaK rfl rfl rfl rfl (zds (by omega) (by omega))) fun a E => ?_; refine Vv E pkm fun a E => ?_; refine za9 ?_
   exact ⟨n + 1, ⟨E.to (by repeat (first | exact trivial | refine ⟨rfl, ?_⟩)), H, by omega⟩, by omega⟩
  ·skip
   clear E; intro c99 E
   obtain rfl : n = 8 := by have := c99; simp only [decide_eq_false_iff_not] at this; omega
   refine zaX E rfl ?_; refine wp_exit ?_
   repeat (first | refine za3 ?_ | refine za4 ?_ | refine zaU (by decide) ?_)
   refine hK12 _ _ ?_; refine Vr ?_; refine Vv E (pkl 8 H 3) fun a E => ?_; refine Ws 2 E H fun w H => ?_; replace H : Sep _ _ _ _ [_, _, _, _] _ := H; refine Vn ?_; refine wp_ret ?_
   repeat (first | refine zat ?_ | refine zas ?_)
   refine zf7 rfl E (by exact zg8 (n := 8) H 2 rfl rfl rfl (by kernel_rfl)) ?_
   have hB : zjE gt h tx = zkS h vv 8 := by rw [zjE, ← hM]
   rw [hB]
   exact ⟨rfl, H.pop.pop.popL.popL.popL.popL⟩
end
section
open Go.RowKit
theorem zmq (gt : Nat → Nat) : ∀ (n : Nat) (h : Nat → Nat) (l b : List Nat), l.length ≤ n → zg9 gt h (l ++ b) = zg9 gt (zg9 gt h l).1 ((zg9 gt h l).2 ++ b)
 | 0, h, l, b, hl => by rw [zdX (l := l) (by omega)]
 | n + 1, h, l, b, hl => by
  by_cases h1 : 64 ≤ l.length
  ·rw [zeG (l := l ++ b) (by rw [jQ]; omega), zeG h1, List.take_append_of_le_length h1, List.drop_append_of_le_length h1]
   exact zmq gt n _ _ _ (by rw [List.length_drop]; omega)
  ·rw [zdX h1]
theorem zjG (gt : Nat → Nat) : ∀ (ps : List (List Nat)) (h : Nat → Nat) (n : Nat) (r : List Nat), r.length < 64 → ps.foldl (zrX gt) (h, n, r) = ((zg9 gt h (r ++ ps.flatten)).1, n + ps.flatten.length, (zg9 gt h (r ++ ps.flatten)).2)
 | [], h, n, r, hr => by
  rw [List.foldl_nil, List.flatten_nil, List.append_nil, zdX (by omega)]; rfl
 | p :: ps, h, n, r, hr => by
  rw [List.foldl_cons]
  have e : zrX gt (h, n, r) p = ((zg9 gt h (r ++ p)).1, n + p.length, (zg9 gt h (r ++ p)).2) := rfl
  rw [e, zjG gt ps _ _ _ (zkU gt _ _ _ (jV _)), ← zmq gt _ _ _ _ (jV _), List.flatten_cons, List.append_assoc, jQ, Nat.add_assoc]
theorem zjH (gt : Nat → Nat) (ps : List (List Nat)) : zha gt ps = zdu (zg9 gt iv0 (ps.flatten ++ zcp ps.flatten.length)).1 8 := by
 have h := zjG gt ps iv0 0 [] (by show 0 < 64; decide)
 rw [List.nil_append, Nat.zero_add] at h
 rw [zha, zAY, zgL, h, ← zmq gt _ _ _ _ (jV _)]
theorem zAQ (m : Nat) : zqI m 8 = beL 8 m := rfl
theorem zy4 (x : Nat) : ziX x = beL 4 x := by
 show [x / 2 ^ (min 24 32) % 256, x / 2 ^ (min 16 32) % 256, x / 2 ^ (min 8 32) % 256, x % 256] = [x / 2 ^ (8 * (4 - 1 - 0)) % 256, x / 2 ^ (8 * (4 - 1 - 1)) % 256, x / 2 ^ (8 * (4 - 1 - 2)) % 256, x / 2 ^ (8 * (4 - 1 - 3)) % 256]
 simp
theorem zvU (n : Nat) : (n + (zcp n).length) % 64 = 0 := by
 unfold zcp
 rw [jQ, zeq, zgM]
 omega
theorem zku (n : Nat) : ∀ x ∈ zcp n, x < 256 := fun x hx => by
 rcases List.mem_append.1 hx with h | h
 ·exact zmT n x h
 ·exact zmU _ _ x h
theorem znK (n : Nat) : (zcp n).length ≤ 72 := by unfold zcp; rw [jQ, zgM, zeq]; omega
theorem zAR (h v : Nat → Nat) (n i : Nat) (hi : i < n) : zkS h v n i < 4294967296 := by
 unfold zkS
 rw [if_pos hi]
 exact Nat.mod_lt _ (by decide)
theorem zAS : ∀ i, i < 8 → iv0 i < 4294967296 := by decide
theorem zhs {ps : List (List Nat)} {i : Nat} {p : List Nat} (h : ps[i]? = some p) : (ps.take (i + 1)).flatten = (ps.take i).flatten ++ p := by
 rw [List.take_add_one, h, List.flatten_append]; simp
theorem zy5 (ps : List (List Nat)) (i : Nat) : (ps.take i).flatten.length ≤ ps.flatten.length := by
 have h := congrArg (fun l => l.flatten.length) (List.take_append_drop i ps)
 simp only [List.flatten_append, jQ] at h
 omega
theorem zy6 (l : List Nat) : ca [.row 32 fun j => bv (l.getD j 0)] = ca [.key l] := rfl
theorem ztS (l : List Nat) (z j : Nat) : upd (fun j => bv (l.getD j 0)) l.length (bv z) j = bv ((l ++ [z]).getD j 0) := by
 unfold upd
 by_cases h : j = l.length
 ·subst h; simp
 ·rw [if_neg h]
  show bv (l.getD j 0) = bv ((l ++ [z]).getD j 0)
  rw [jR, jR]
  by_cases h2 : j < l.length
  ·rw [List.getElem?_append_left h2]
  ·rw [List.getElem?_eq_none (by omega), List.getElem?_eq_none (by rw [jQ, List.length_singleton]; omega)]
theorem ztT (gt h : Nat → Nat) (k : List Nat) : ∀ i, i < 8 → zcW gt h k i < 4294967296 := fun i hi => by
 unfold zcW; exact zAR _ _ 8 i hi
theorem zy7 {l : List Nat} (h : ∀ x ∈ l, x < 256) : ∀ i, l.getD i 0 < 256 := fun i => by
 rw [jR]
 cases hq : l[i]? with
 | none => simp
 | some z => exact h z (List.mem_of_getElem? hq)
attribute [local irreducible] zdb zdF zfm orW zjP ziM ztN ztM zgu zcW zjE beL
section
variable {X : List Nat} {w0 w : World} {A : Option Addr} {c : Nat} {k : List Nat} {Y : List Nat}
theorem zy8 {lo hi : Nat} (h : St (TxF A c k) w Y) (hlo : lo ≤ hi) (hhi : hi ≤ k.length) : ∃ A' c', zhV A 1 lo hi c = .slice A' ((k.drop lo).take (hi - lo)).length c' ∧ St (TxF A' c' ((k.drop lo).take (hi - lo))) w Y := by
 obtain ⟨A', c', h1, h2⟩ := zig (lo := lo) h (by omega)
 refine ⟨A', c', ?_, ze1 h2 (by rw [List.length_drop]; omega)⟩
 unfold zhV at h1 ⊢
 injection h1 with e1 e2 e3
 rw [e1, e3, List.length_take, List.length_drop, Nat.min_eq_left (by omega)]
theorem zy9 {P : Program} {S : Nat → Prop} {ws : World} {l : List (Nat × Value)} {o : Oper} {t u : TypeId} {x y : Operand} {m n : Nat} (ho : o.op = .binOp .rem t x y u) (hx : ev l x = some (.int .i64 ((m : Nat) : Int))) (hy : ev l y = some (.int .i64 ((n : Nat) : Int))) (hn : n ≠ 0) : PK P S ws l o (.int .i64 ((m % n : Nat) : Int)) := by
 have h := zwt (S := S) (ws := ws) (P := P) ho hx hy (by omega)
 rwa [← Int.ofNat_tmod] at h
theorem ziw (W n : Nat) (hW : W ≤ 8) (hn : n < 18446744073709551616) (hX : ∀ k ∈ X, k < w0.heap.size) :
  Calls Tryz.prog 63 #[.int .i64 W, .int .u64 n] w0 fun e w' => ∃ A' c', e = .returned (.slice A' (beL W n).length c') ∧ Sep X [] w0 w' [] [TxF A' c' (beL W n)] := by
 refine (zmX W n hW hn w0).mono ?_
 rintro e w' ⟨v, rfl, ho, hb⟩
 obtain ⟨A', c', rfl, h1⟩ := zeY hX ho hb
 exact ⟨A', c', rfl, h1.rowTx (Sep.new_x h1) (by rw [ze3]; omega) (zmM _ _)⟩
theorem znL (hX : ∀ k ∈ X, k < w0.heap.size) (h : St (TxF A c k) w0 X) :
  Calls Tryz.prog 40 #[.slice A k.length c] w0 fun e w' => ∃ A' c', e = .returned (.slice A' k.length c') ∧ Sep X [] w0 w' [.row (.slice A' k.length c') 5 1 k.length (k.map bv)] [] := by
 have hn := h.now
 refine (zuE A k.length c k w0 hn.txt hn.len).mono ?_
 rintro e w' ⟨v, rfl, ho, hb⟩
 obtain ⟨A', c', rfl, h1⟩ := zeY hX ho hb
 exact ⟨A', c', rfl, h1⟩
end
theorem zfd {PA : Option Addr} {pc : Nat} {ps : List (List Nat)} {pm : Nat → zax.μ} (hfl : ps.flatten.length ≤ 1000000000000) {X : List Nat} {w0 : World} (hX : ∀ k ∈ X, k < w0.heap.size) (hL : St (LiF zax PA pc ps pm) w0 X) :
  Calls Tryz.prog 88 #[.slice PA ps.length pc] w0 fun e w' => ∃ A' c', e = .returned (.slice A' ps.flatten.length c') ∧ Sep X [] w0 w' [] [TxF A' c' ps.flatten] := by
 have hpsl := hL.now.big
 refine zaz Tryz.ntmps88 Tryz.func88 rfl rfl fun a E => ?_
 replace E : Env a _ [(0, _)] := E
 have H : Sep X [] w0 w0 [] [(LiF zax PA pc ps pm)] := Sep.start hX (jJ.2 ⟨hL, fun _ h => by cases h⟩)
 refine Vr ?_
 refine Vv E pka fun a E => ?_
 refine Vn ?_
 refine Vr ?_
 refine Vv E pka fun a E => ?_
 refine Vn ?_
 refine wp_seq_k fun K2 hK2 => ?_
 refine Vr ?_
 refine Vv E pkm fun a E => ?_
 refine Vv E pkn fun a E => ?_
 refine Vv E pkm fun a E => ?_
 refine Vn ?_
 refine wp_block ?_
 refine zbz (γ := Nat × Option Addr × Nat) [6, 7] (fun g => [(3, .slice g.2.1 (ps.take g.1).flatten.length g.2.2), (8, .int .i64 (g.1 : Int))]) (fun g => [.row (.slice g.2.1 (ps.take g.1).flatten.length g.2.2) 5 1 (ps.take g.1).flatten.length ((ps.take g.1).flatten.map bv)]) (fun g => [LiF zax PA pc ps pm]) (fun g => g.1 ≤ ps.length ∧ ∀ x ∈ (ps.take g.1).flatten, x < 256) (fun g => ps.length - g.1) ((0, none, 0)) E (H.rownil _ _) (by repeat (first | exact trivial | refine ⟨rfl, ?_⟩)) (⟨Nat.zero_le _, fun x hx => by cases hx⟩) ?_
 clear E H
 intro g a w E H hφ
 replace E : Env a _ [(3, _), (8, _), (6, _), (7, _)] := E
 replace H : Sep _ _ _ _ [_] [_] := H
 obtain ⟨i, Ag, cg⟩ := g
 simp only at E H hφ ⊢
 obtain ⟨hi, hib⟩ := hφ
 refine Vr ?_
 refine Vv E pki fun a E => ?_
 refine Vn ?_
 refine wp_seq_k fun K5 hK5 => ?_
 refine zaD (d := 9) E rfl ?_ ?_
 ·skip
  clear E
  intro c9 E
  have hik : i < ps.length := by have := c9; simp only [jS] at this; omega
  have hx0 : ps[i]? = some ps[i] := jP hik
  have hle := zy5 ps (i + 1)
  rw [zhs hx0, jQ] at hle
  refine zbd E rfl ?_
  refine wp_skip ?_
  refine hK5 _ _ ?_
  refine wp_seq_k fun K6 hK6 => ?_
  refine wp_block ?_
  refine Vr ?_
  obtain ⟨ad10, hA10, hc10, hn10⟩ := LiF.get (A := PA) (T := zax) (i := i) (x := ps[i]) (by exact H.fact 0 rfl) hx0
  refine Vv E (zcb (sz := 1) hA10 rfl (by kernel_rfl) rfl rfl rfl (by omega)) fun a E => ?_
  replace H := (H.know hn10).know hc10
  clear hn10 hc10
  replace H : Sep _ _ _ _ _ [_, _, _] := H
  first | (refine zgE E (pko H 0) rfl rfl rfl ?_; trace "@@zfd:0:0") | (refine zgE E (ziJ (H.fact 0 rfl) (fun _ _ _ => trivial) rfl rfl rfl (by kernel_rfl)) rfl rfl rfl ?_; trace "@@zfd:0:1") | (refine zgE E (ziJ (H.fact 1 rfl) (fun _ _ _ => trivial) rfl rfl rfl (by kernel_rfl)) rfl rfl rfl ?_; trace "@@zfd:0:2") | (refine zgE E (ziJ (H.fact 2 rfl) (fun _ _ _ => trivial) rfl rfl rfl (by kernel_rfl)) rfl rfl rfl ?_; trace "@@zfd:0:3") | (refine zgE E (zcy (H.fact 0 rfl) (fun _ _ _ => trivial) rfl rfl rfl (by kernel_rfl)) rfl rfl rfl ?_; trace "@@zfd:0:4") | (refine zgE E (zcy (H.fact 1 rfl) (fun _ _ _ => trivial) rfl rfl rfl (by kernel_rfl)) rfl rfl rfl ?_; trace "@@zfd:0:5") | (refine zgE E (zcy (H.fact 2 rfl) (fun _ _ _ => trivial) rfl rfl rfl (by kernel_rfl)) rfl rfl rfl ?_; trace "@@zfd:0:6")
  clear E a
  intro a E
  refine Vv E pka fun a E => ?_
  refine Vn ?_
  refine zaA ?_
  refine Vv E pkm fun a E => ?_
  refine Vv E pkm fun a E => ?_
  refine Ve E ?_
  refine zdh (k := (ps.take i).flatten) (m := ps[i]) 0 E H (H.fact 1 rfl) rfl rfl rfl rfl ⟨Tryz.underlying24, by kernel_rfl⟩ (by omega) ?_
  clear H
  intro A14 c14 w H F
  replace H : Sep _ _ _ _ [_] _ := H
  refine Vp E fun a E => ?_
  clear F
  refine Vv E pka fun a E => ?_
  refine hK6 _ _ ?_
  refine zaA ?_
  refine Vv E (zaK rfl rfl rfl rfl (zds (by omega) (by omega))) fun a E => ?_
  refine Vv E pkm fun a E => ?_
  have hpb : ∀ x ∈ ps[i], x < 256 := (St.now (H.fact 1 rfl : St (TxF (pm i).1 (pm i).2 ps[i]) w _)).byt
  rw [← zhs hx0] at E H
  refine za9 ?_
  exact ⟨(i + 1, A14, c14), ⟨E.to (by repeat (first | exact trivial | refine ⟨rfl, ?_⟩)), H.pop.pop, ⟨by show i + 1 ≤ ps.length; omega, fun x hx => by rw [zhs hx0] at hx; rcases List.mem_append.1 hx with h1 | h1; exact hib x h1; exact hpb x h1⟩⟩, by show ps.length - (i + 1) < ps.length - i; omega⟩
 ·skip
  clear E
  intro c9 E
  obtain rfl : i = ps.length := by have := c9; simp only [decide_eq_false_iff_not] at this; omega
  rw [List.take_length] at E H hib
  refine zaX E rfl ?_
  refine wp_exit ?_
  repeat (first | refine za3 ?_ | refine za4 ?_ | refine zaU (by decide) ?_)
  refine hK2 _ _ ?_
  refine Vr ?_
  refine Vv E pkm fun a E => ?_
  refine Vv E pka fun a E => ?_
  refine Vn ?_
  refine wp_ret ?_
  repeat (first | refine zat ?_ | refine zas ?_)
  refine zf7 rfl E (zcu rfl) ?_
  have hT := H.rowTx (Sep.new_x H) (by omega) hib
  exact ⟨Ag, cg, rfl, hT.refacts (jJ.2 ⟨hT.fact 0 rfl, jK _⟩)⟩
theorem zre {A : Option Addr} {c : Nat} {k : List Nat} (hkl : k.length ≤ 1000000000000) {X : List Nat} {w0 : World} (hX : ∀ k ∈ X, k < w0.heap.size) (hk : St (TxF A c k) w0 X) :
  Calls Tryz.prog 113 #[.slice A k.length c] w0 fun e w' => ∃ A' c', e = .returned (.slice A' (k ++ zcp k.length).length c') ∧ Sep X [] w0 w' [] [TxF A' c' (k ++ zcp k.length)] := by
 refine zaz Tryz.ntmps113 Tryz.func113 rfl rfl fun a E => ?_; replace E : Env a _ [(0, _)] := E
 have H : Sep X [] w0 w0 [] [(TxF A c k)] := Sep.start hX (jJ.2 ⟨hk, fun _ h => by cases h⟩)
 refine Vr ?_; refine Vv E pka fun a E => ?_; refine Vn ?_; refine Vr ?_; refine Vv E pkm fun a E => ?_; refine Ve E ?_; refine Vc E ?_; refine (znL H.xk (H.fact 0 rfl)).mono ?_; rintro e w ⟨A5, c5, rfl, H1⟩
 replace H := H.call H1
 clear H1; replace H : Sep _ _ _ _ [_] [_] := H; refine Vp E fun a E => ?_; refine Ve E ?_; refine zaM (sz := 1) (z := [.one (.int .u8 0)]) E H rfl Tryz.underlying24 (by kernel_rfl) (by decide) (by kernel_rfl) ⟨_, [.one _], 0, _, rfl, rfl, rfl, rfl, rfl⟩ ?_; clear H; intro b6 w H _; refine Vp E fun a E => ?_; refine Ve E ?_; refine zkV (k := k) (z := 128) 1 0 E H rfl rfl rfl rfl rfl ⟨Tryz.underlying24, by kernel_rfl⟩ (by omega) ?_; clear H; intro A7 c7 w H F; replace H : Sep _ _ _ _ [_, _] _ := H; refine Vp E fun a E => ?_; clear F; refine Vv E pka fun a E => ?_; refine Vn ?_; refine wp_seq_k fun K2 hK2 => ?_
 refine wp_block ?_; refine zbz (γ := Nat × Option Addr × Nat) [0] (fun g => [(3, .slice g.2.1 (k ++ 128 :: List.replicate g.1 0).length g.2.2)]) (fun g => [.row (.slice g.2.1 (k ++ 128 :: List.replicate g.1 0).length g.2.2) 5 1 (k ++ 128 :: List.replicate g.1 0).length ((k ++ 128 :: List.replicate g.1 0).map bv)]) (fun g => [TxF A c k]) (fun g => g.1 ≤ 63 - (k.length + 8) % 64) (fun g => 64 - g.1) ((0, A7, c7)) E H.popL (by repeat (first | exact trivial | refine ⟨rfl, ?_⟩)) (Nat.zero_le _) ?_; clear E H; intro g a w E H hφ; replace E : Env a _ [(3, _), (0, _)] := E; replace H : Sep _ _ _ _ [_] [_] := H
 obtain ⟨j, Ag, cg⟩ := g
 simp only at E H hφ ⊢
 have hjl : (k ++ 128 :: List.replicate j 0).length = k.length + 1 + j := by rw [jQ, List.length_cons, List.length_replicate]; omega
 refine wp_seq_k fun K3 hK3 => ?_; refine Vr ?_; refine Vv E pkm fun a E => ?_; refine Vv E pkn fun a E => ?_; refine Vv E (zy9 (n := 64) rfl rfl rfl (by decide)) fun a E => ?_; refine Vv E pki fun a E => ?_; refine Vn ?_; refine zaD (d := 11) E rfl ?_ ?_
 ·skip
  clear E; intro c11 E
  have hne : k.length + 1 + j - (k.length + 1 + j) / 64 * 64 ≠ 56 := by
   have h := c11
   rw [bne_iff_ne, hjl] at h
   omega
  refine zbd E rfl ?_; refine wp_skip ?_; refine hK3 _ _ ?_; refine wp_block ?_; refine zaA ?_; refine Vv E pkm fun a E => ?_; refine Ve E ?_; refine zaM (sz := 1) (z := [.one (.int .u8 0)]) E H rfl Tryz.underlying24 (by kernel_rfl) (by decide) (by kernel_rfl) ⟨_, [.one _], 0, _, rfl, rfl, rfl, rfl, rfl⟩ ?_; clear H; intro b13 w H _; refine Vp E fun a E => ?_; refine Ve E ?_; refine zkV (k := (k ++ 128 :: List.replicate j 0)) (z := 0) 1 0 E H rfl rfl rfl rfl rfl ⟨Tryz.underlying24, by kernel_rfl⟩ (by omega) ?_; clear H; intro A14 c14 w H F; replace H : Sep _ _ _ _ [_, _] _ := H; refine Vp E fun a E => ?_; clear F
  refine Vv E pka fun a E => ?_
  rw [show (k ++ 128 :: List.replicate j 0) ++ [0] = (k ++ 128 :: List.replicate (j + 1) 0) from by rw [List.replicate_succ', List.append_assoc]; rfl] at E H
  refine zhe (za9 ?_)
  exact ⟨(j + 1, A14, c14), ⟨E.to (by repeat (first | exact trivial | refine ⟨rfl, ?_⟩)), H.popL, by show j + 1 ≤ 63 - (k.length + 8) % 64; omega⟩, by show 64 - (j + 1) < 64 - j; omega⟩
 ·skip
  clear E; intro c11 E
  have heq : (k.length + 1 + j) % 64 = 56 := by
   have h := c11
   rw [bne_eq_false_iff_eq, hjl] at h
   omega
  obtain rfl : j = 63 - (k.length + 8) % 64 := by omega
  refine zaX E rfl ?_; refine wp_exit ?_
  repeat (first | refine za3 ?_ | refine za4 ?_ | refine zaU (by decide) ?_)
  refine hK2 _ _ ?_; refine Vr ?_; refine Vv E pkm fun a E => ?_; refine Vv E pkm fun a E => ?_; refine Vv E pkn fun a E => ?_; refine Vv E (zdW rfl rfl (by kernel_rfl) (by kernel_rfl) (zrJ (by omega) (by omega))) fun a E => ?_; refine Vv E (zaK rfl rfl rfl rfl (zrJ (by omega) (by omega))) fun a E => ?_
  rw [show (8 : Int) * ((k.length : Nat) : Int) = ((8 * k.length : Nat) : Int) from by omega] at E
  refine Ve E ?_; refine Vc E ?_; refine (ziw 8 (8 * k.length) (by decide) (by omega) H.xk).mono ?_; rintro e w ⟨A20, c20, rfl, H1⟩
  replace H := H.call H1
  clear H1; replace H : Sep _ _ _ _ [_] [_, _] := H; refine Vp E fun a E => ?_; refine Ve E ?_; refine zdh (k := (k ++ 128 :: List.replicate (63 - (k.length + 8) % 64) 0)) (m := beL 8 (8 * k.length)) 0 E H (H.fact 0 rfl) rfl rfl rfl rfl ⟨Tryz.underlying24, by kernel_rfl⟩ (by rw [hjl, ze3]; omega) ?_; clear H; intro A21 c21 w H F; replace H : Sep _ _ _ _ [_] _ := H; refine Vp E fun a E => ?_; clear F; refine Vv E pka fun a E => ?_; refine Vn ?_; refine wp_ret ?_
  repeat (first | refine zat ?_ | refine zas ?_)
  refine zf7 rfl E (zcu rfl) ?_
  have et : (k ++ 128 :: List.replicate (63 - (k.length + 8) % 64) 0) ++ beL 8 (8 * k.length) = k ++ zcp k.length := by
   rw [zcp, zn5, zAQ, show k.length * 2 ^ 3 % 18446744073709551616 = 8 * k.length from by omega, List.append_assoc]
  rw [et] at H
  have hT := H.rowTx (Sep.new_x H) (by have := znK k.length; rw [jQ]; omega) (fun x hx => by rcases List.mem_append.1 hx with h1 | h1; exact hk.now.byt x h1; exact zku _ x h1)
  exact ⟨A21, c21, by rw [et], hT.refacts (jJ.2 ⟨hT.fact 0 rfl, jK _⟩)⟩
theorem zrf  {X : List Nat} {w0 : World} (hX : ∀ k ∈ X, k < w0.heap.size) :
  Calls Tryz.prog 114 #[] w0 fun e w' => e = .returned (.agg (ca [.row 8 (fun i => u32 (iv0 i))])) ∧ Sep X [] w0 w' [] [] := by
 refine zaz Tryz.ntmps114 Tryz.func114 rfl rfl fun a E => ?_; replace E : Env a _ [] := E
 have H : Sep X [] w0 w0 [] [] := Sep.start hX (fun _ h => by cases h)
 refine Vr ?_; refine Wa (z := [.row 8 fun _ => .int .u32 0]) E H fun b0 w a H E => ?_; refine Vn ?_; refine Vr ?_
 refine Vv E (zgK (n := 8) (z := [.one (.int .u32 0), .one (.int .u32 0), .one (.int .u32 0), .one (.int .u32 0), .one (.int .u32 0), .one (.int .u32 0), .one (.int .u32 0), .one (.int .u32 0)]) (f := fun i => u32 (iv0 i)) rfl (by kernel_rfl) (by kernel_rfl) (⟨_, [.one _], 0, _, rfl, rfl, rfl, rfl, ⟨_, [.one _], 1, _, rfl, rfl, rfl, rfl, ⟨_, [.one _], 2, _, rfl, rfl, rfl, rfl, ⟨_, [.one _], 3, _, rfl, rfl, rfl, rfl, ⟨_, [.one _], 4, _, rfl, rfl, rfl, rfl, ⟨_, [.one _], 5, _, rfl, rfl, rfl, rfl, ⟨_, [.one _], 6, _, rfl, rfl, rfl, rfl, ⟨_, [.one _], 7, _, rfl, rfl, rfl, rfl, rfl⟩⟩⟩⟩⟩⟩⟩⟩) rfl) fun a E => ?_; refine Ws 0 E H fun w H => ?_; replace H : Sep _ _ _ _ [_] _ := H; refine Vn ?_; refine wp_ret ?_
 repeat (first | refine zat ?_ | refine zas ?_)
 refine zf7 rfl E (by exact zg8 (n := 8) H 0 rfl rfl rfl (by kernel_rfl)) ?_
 exact ⟨rfl, H.popL⟩
theorem zvV {h : Nat → Nat} (hh : ∀ i, i < 8 → h i < 4294967296) {X : List Nat} {w0 : World} (hX : ∀ k ∈ X, k < w0.heap.size) :
  Calls Tryz.prog 116 #[.agg (ca [.row 8 fun i => u32 (h i)])] w0 fun e w' => e = .returned (.agg (ca [.key (zdu h 8)])) ∧ Sep X [] w0 w' [] [] := by
 refine zaz Tryz.ntmps116 Tryz.func116 rfl rfl fun a E => ?_; replace E : Env a _ [(0, _)] := E
 have H : Sep X [] w0 w0 [] [] := Sep.start hX (fun _ h => by cases h)
 refine Vr ?_; refine Wb E H fun b1 w a H E => ?_; refine Wa (z := [.key []]) E H fun b2 w a H E => ?_; refine Vn ?_; refine Vr ?_; refine Wa (z := [.key []]) E H fun b3 w a H E => ?_; refine Vn ?_; refine wp_seq_k fun K2 hK2 => ?_; refine Vr ?_
 refine Vv E (pkl 8 H 2) fun a E => ?_; refine Vv E pkm fun a E => ?_; refine Vn ?_; refine wp_block ?_; refine zbz (γ := Nat) [2, 3, 8] (fun i => [(9, .int .i64 (i : Int))]) (fun i => [.blk b3 (ca [.row 32 fun j => bv ((zdu h i).getD j 0)]) 23, .blk b2 (ca [.key []]) 23, .blk b1 (ca [.row 8 fun i => u32 (h i)]) 146 ]) (fun i => []) (fun i => i ≤ 8) (fun i => 8 - i) (0) E H (by repeat (first | exact trivial | refine ⟨rfl, ?_⟩)) (by omega) ?_; clear E H; intro i a w E H hφ; replace E : Env a _ [(9, _), (2, _), (3, _), (8, _)] := E; replace H : Sep _ _ _ _ [_, _, _] [] := H; refine Vr ?_; refine Vv E pki fun a E => ?_; refine Vn ?_
 refine wp_seq_k fun K5 hK5 => ?_; refine zaD (d := 10) E rfl ?_ ?_
 ·skip
  clear E; intro c10 E
  have hi8 : i < 8 := by have := c10; simp only [jS] at this; omega
  have hhi := hh i hi8
  have hbl : (beL 4 (h i)).length = 4 := ze3 4 _
  have hwl : (zdu h i).length = 4 * i := zfU h i
  refine zbd E rfl ?_; refine wp_skip ?_; refine hK5 _ _ ?_; refine wp_seq_k fun K6 hK6 => ?_; refine wp_block ?_; refine Vr ?_; refine Vv E pkm fun a E => ?_; refine Vv E (zic (i := i) rfl (by kernel_rfl) rfl rfl rfl hi8) fun a E => ?_; refine Vv E pka fun a E => ?_; refine Vv E pka fun a E => ?_; refine Vn ?_; refine Vr ?_; refine Vv E pkm fun a E => ?_; refine Vv E (zdW rfl rfl (by kernel_rfl) (by kernel_rfl) (zrJ (by omega) (by omega))) fun a E => ?_; refine Ve E ?_; refine Vc E ?_
  refine (ziw 4 (h i) (by decide) (by omega) H.xk).mono ?_; rintro e w ⟨A15, c15, rfl, H1⟩
  replace H := H.call H1
  clear H1; replace H : Sep _ _ _ _ [_, _, _] [_] := H; refine Vp E fun a E => ?_; refine Vv E pkn fun a E => ?_; refine Vv E pkm fun a E => ?_; refine Vn ?_; refine wp_block ?_; refine zbz (γ := Nat) [2, 3, 4, 8, 9, 15, 16] (fun m => [(17, .int .i64 (m : Int))]) (fun m => [.blk b3 (ca [.row 32 fun j => bv ((zdu h i ++ (beL 4 (h i)).take m).getD j 0)]) 23, .blk b2 (ca [.key []]) 23, .blk b1 (ca [.row 8 fun i => u32 (h i)]) 146 ]) (fun m => [TxF A15 c15 (beL 4 (h i))]) (fun m => m ≤ 4) (fun m => 4 - m) (0) E (by rw [jI, List.append_nil]; exact H) (by repeat (first | exact trivial | refine ⟨rfl, ?_⟩)) (by omega) ?_; clear E H; intro m a w E H hφ
  replace E : Env a _ [(17, _), (2, _), (3, _), (4, _), (8, _), (9, _), (15, _), (16, _)] := E; replace H : Sep _ _ _ _ [_, _, _] [_] := H; refine Vr ?_; refine Vv E pki fun a E => ?_; refine Vn ?_; refine wp_seq_k fun K10 hK10 => ?_; refine zaD (d := 18) E rfl ?_ ?_
  ·skip
   clear E; intro c18 E
   have hm4 : m < 4 := by have := c18; simp only [jS] at this; omega
   obtain ⟨z, hz⟩ : ∃ z, (beL 4 (h i))[m]? = some z := ⟨_, jP (by omega)⟩
   have hlm : (zdu h i ++ (beL 4 (h i)).take m).length = 4 * i + m := by rw [jQ, hwl, List.length_take]; omega
   refine zbd E rfl ?_; refine wp_skip ?_; refine hK10 _ _ ?_; refine wp_seq_k fun K11 hK11 => ?_; refine wp_block ?_; refine Vr ?_; refine Vv E pkm fun a E => ?_
   obtain ⟨ad, hA⟩ : ∃ ad, A15 = some ad := by
    cases hq : A15 with
    | some ad => exact ⟨ad, rfl⟩
    | none => have := ((St.now (H.fact 0 rfl)).nil hq).1; omega
   refine Vv E (zcb (sz := 1) (i := m) hA rfl (by kernel_rfl) rfl rfl rfl (by omega)) fun a E => ?_; refine Vv E (zdy (H.fact 0 rfl) (fun _ _ _ => trivial) hA rfl rfl hz (by kernel_rfl)) fun a E => ?_; refine Vv E pka fun a E => ?_; refine Vv E pka fun a E => ?_; refine Vn ?_; refine zaA ?_; refine Vv E pkm fun a E => ?_; refine Vv E (zaK rfl rfl rfl rfl (zds (by omega) (by omega))) fun a E => ?_; refine Vv E pkm fun a E => ?_; refine Vv E (zaK rfl rfl rfl rfl (zds (by omega) (by omega))) fun a E => ?_; refine Vv E pkm fun a E => ?_
   refine Vv E (zaV (M := 32) (i := 4 * i + m) rfl (by kernel_rfl) rfl rfl (by omega) (by omega)) fun a E => ?_; refine Ve E ?_; refine zbb (off := 0) (fun j => bv ((zdu h i ++ (beL 4 (h i)).take (m + 1)).getD j 0)) 0 E H rfl rfl rfl (show 4 * i + m < 32 by omega) rfl rfl rfl rfl rfl rfl (by kernel_rfl) (fun j => by rw [← hlm, ztS, List.append_assoc, List.take_add_one, hz]; rfl) rfl ?_; clear H; intro w H F; replace H : Sep _ _ _ _ [_, _, _] _ := H; refine zdf rfl ?_; clear F; refine hK11 _ _ ?_; refine zaA ?_; refine Vv E (zaK rfl rfl rfl rfl (zds (by omega) (by omega))) fun a E => ?_; refine Vv E pkm fun a E => ?_; refine za9 ?_
   exact ⟨m + 1, ⟨E.to (by repeat (first | exact trivial | refine ⟨rfl, ?_⟩)), H, by omega⟩, by omega⟩
  ·skip
   clear E; intro c18 E
   obtain rfl : m = 4 := by have := c18; simp only [decide_eq_false_iff_not] at this; omega
   rw [show zdu h i ++ (beL 4 (h i)).take 4 = zdu h (i + 1) from by rw [List.take_of_length_le (by omega), ← zy4, zgm]] at H
   refine zaX E rfl ?_; refine wp_exit ?_
   repeat (first | refine za3 ?_ | refine za4 ?_ | refine zaU (by decide) ?_)
   refine hK6 _ _ ?_; refine zaA ?_; refine Vv E (zaK rfl rfl rfl rfl (zds (by omega) (by omega))) fun a E => ?_; refine Vv E pkm fun a E => ?_; refine za9 ?_
   exact ⟨i + 1, ⟨E.to (by repeat (first | exact trivial | refine ⟨rfl, ?_⟩)), H.pop, by omega⟩, by omega⟩
 ·skip
  clear E; intro c10 E
  obtain rfl : i = 8 := by have := c10; simp only [decide_eq_false_iff_not] at this; omega
  refine zaX E rfl ?_; refine wp_exit ?_
  repeat (first | refine za3 ?_ | refine za4 ?_ | refine zaU (by decide) ?_)
  refine hK2 _ _ ?_; refine wp_seq_k fun K13 hK13 => ?_
  rw [zy6] at H
  refine zaA ?_; refine Vv E (pkl 32 H 0) fun a E => ?_; refine Ws 1 E H fun w H => ?_; replace H : Sep _ _ _ _ [_, _, _] _ := H; refine hK13 _ _ ?_; refine wp_ret ?_
  repeat (first | refine zat ?_ | refine zas ?_)
  refine zf7 rfl E (by exact zg8 (n := 32) H 1 rfl rfl rfl (by kernel_rfl)) ?_
  exact ⟨rfl, H.popL.popL.popL⟩
theorem zby {PA : Option Addr} {pc : Nat} {ps : List (List Nat)} {pm : Nat → zax.μ} {gt : Nat → Nat} (hfl : ps.flatten.length ≤ 100000000000) {X : List Nat} {w0 : World} (hX : ∀ k ∈ X, k < w0.heap.size) (hL : St (LiF zax PA pc ps pm) w0 X) (hG : St (AtC ⟨1, 0, none⟩ [.row 64 fun i => u32 (gt i)]) w0 X) :
  Calls Tryz.prog 86 #[.slice PA ps.length pc] w0 fun e w' => e = .returned (.agg (ca [.key (zha gt ps)])) ∧ Sep X [] w0 w' [] [] := by
 have htl := znK ps.flatten.length
 have htm := zvU ps.flatten.length
 have htb : ∀ x ∈ (ps.flatten ++ zcp ps.flatten.length), x < 256 := fun x hx => by
  rcases List.mem_append.1 hx with h1 | h1
  ·obtain ⟨p, hp, hx⟩ := List.mem_flatten.1 h1
   obtain ⟨q, hq⟩ := List.mem_iff_getElem?.1 hp
   obtain ⟨_, _, _, h3⟩ := LiF.get hL hq
   exact (St.now h3 : TxF _ _ _ _).byt x hx
  ·exact zku _ x h1
 have hPl : (ps.flatten ++ zcp ps.flatten.length).length = ps.flatten.length + (zcp ps.flatten.length).length := jQ ..
 refine zaz Tryz.ntmps86 Tryz.func86 rfl rfl fun a E => ?_
 replace E : Env a _ [(0, _)] := E
 have H : Sep X [] w0 w0 [] [(LiF zax PA pc ps pm), (AtC ⟨1, 0, none⟩ [.row 64 fun i => u32 (gt i)])] := Sep.start hX (jJ.2 ⟨hL, jJ.2 ⟨hG, fun _ h => by cases h⟩⟩)
 refine Vr ?_
 refine Wa (z := [.key []]) E H fun b2 w a H E => ?_
 refine Vn ?_
 refine Vr ?_
 refine Vv E pkm fun a E => ?_
 refine Ve E ?_
 refine Vc E ?_
 refine (zfd (by omega) H.xk (H.fact 0 rfl)).mono ?_
 rintro e w ⟨A7, c7, rfl, H1⟩
 replace H := H.call H1
 clear H1
 replace H : Sep _ _ _ _ [_] [_, _, _] := H
 refine Vp E fun a E => ?_
 refine Ve E ?_
 refine Vc E ?_
 refine (zre (k := ps.flatten) (by omega) H.xk (H.fact 0 rfl)).mono ?_
 rintro e w ⟨A8, c8, rfl, H1⟩
 replace H := H.call H1
 clear H1
 replace H : Sep _ _ _ _ [_] [_, _, _, _] := H
 refine Vp E fun a E => ?_
 refine Vv E pka fun a E => ?_
 refine Vn ?_
 refine Vr ?_
 refine Ve E ?_
 refine Vc E ?_
 refine (zrf H.xk).mono ?_
 rintro e w ⟨rfl, H1⟩
 replace H := H.call H1
 clear H1
 replace H : Sep _ _ _ _ [_] [_, _, _, _] := H
 refine Vp E fun a E => ?_
 refine Wa (z := [.row 8 fun _ => .int .u32 0]) E H fun b4 w a H E => ?_
 refine Ve E ?_
 first | (refine Vs 0 E H ?_; trace "@@zby:0:0") | (refine Vs 1 E H ?_; trace "@@zby:0:1")
 clear H
 intro w H _
 replace H : Sep _ _ _ _ [_, _] _ := H
 refine zdf rfl ?_
 refine Vn ?_
 refine wp_seq_k fun K3 hK3 => ?_
 refine Vr ?_
 refine Vv E pka fun a E => ?_
 refine Vn ?_
 refine wp_block ?_
 refine zbz (γ := Nat × (Nat → Nat)) [2, 3, 4] (fun g => [(5, .int .i64 ((64 * g.1 : Nat) : Int))]) (fun g => [.blk b4 (ca [.row 8 fun i => u32 (g.2 i)]) 146, .blk b2 (ca [.key []]) 23 ]) (fun g => [TxF A8 c8 (ps.flatten ++ zcp ps.flatten.length), AtC ⟨1, 0, none⟩ [.row 64 fun i => u32 (gt i)]]) (fun g => 64 * g.1 ≤ (ps.flatten ++ zcp ps.flatten.length).length ∧ (zg9 gt g.2 ((ps.flatten ++ zcp ps.flatten.length).drop (64 * g.1))).1 = (zg9 gt iv0 (ps.flatten ++ zcp ps.flatten.length)).1 ∧ ∀ i, i < 8 → g.2 i < 4294967296) (fun g => (ps.flatten ++ zcp ps.flatten.length).length - 64 * g.1) ((0, iv0)) E (H.refacts (jJ.2 ⟨H.fact 0 rfl, jJ.2 ⟨H.fact 3 rfl, jK _⟩⟩)) (by repeat (first | exact trivial | refine ⟨rfl, ?_⟩)) (⟨Nat.zero_le _, by rw [Nat.mul_zero, jG], zAS⟩) ?_
 clear E H
 intro g a w E H hφ
 replace E : Env a _ [(5, _), (2, _), (3, _), (4, _)] := E
 replace H : Sep _ _ _ _ [_, _] [_, _] := H
 obtain ⟨j, hh⟩ := g
 simp only at E H hφ ⊢
 obtain ⟨hj, hfd, hlt⟩ := hφ
 refine wp_seq_k fun K5 hK5 => ?_
 refine Vr ?_
 refine Vv E pkm fun a E => ?_
 refine Vv E pkm fun a E => ?_
 refine Vv E pkn fun a E => ?_
 refine Vv E pki fun a E => ?_
 refine Vn ?_
 refine zaD (d := 13) E rfl ?_ ?_
 ·skip
  clear E
  intro c13 E
  have hjl : 64 * j + 64 ≤ (ps.flatten ++ zcp ps.flatten.length).length := by have := c13; simp only [jS] at this; omega
  refine zbd E rfl ?_
  refine wp_skip ?_
  refine hK5 _ _ ?_
  refine wp_seq_k fun K7 hK7 => ?_
  refine wp_block ?_
  refine zbB E H [] 6 [(0, false), (1, false), (2, false), (3, false), (4, false), (5, false)] (by kernel_rfl) (by kernel_rfl) (fun w HS => ?_)
  (simp only [canOps, jD, jE, jF, jG])
  clear H
  have H := HS
  have hsz : w.heap.size ≤ w.heap.size := jV _
  have HK : CanB.Keep (fun k => k < w.heap.size ∧ k ∉ []) w w := CanB.Keep.refl _ _
  first | (refine zod E HK (zgh (n := 8) HS 0 rfl rfl rfl (HS.inS 0 rfl (by simp)) rfl (by kernel_rfl)) rfl rfl rfl (fun _ _ _ _ h => h) ?_; trace "@@zby:1:0") | (refine zod E HK (zgh (n := 8) HS 1 rfl rfl rfl (HS.inS 1 rfl (by simp)) rfl (by kernel_rfl)) rfl rfl rfl (fun _ _ _ _ h => h) ?_; trace "@@zby:1:1") | (refine zod E HK (zfS (n := 8) (HS.fact 0 rfl) (fun k h _ => ⟨h, by simp⟩) rfl rfl rfl (by kernel_rfl)) rfl rfl rfl (fun _ _ _ _ h => h) ?_; trace "@@zby:1:2") | (refine zod E HK (zfS (n := 8) (HS.fact 1 rfl) (fun k h _ => ⟨h, by simp⟩) rfl rfl rfl (by kernel_rfl)) rfl rfl rfl (fun _ _ _ _ h => h) ?_; trace "@@zby:1:3") | (refine zod E HK (zib (n := 8) (HS.fact 0 rfl) (fun k h _ => ⟨h, by simp⟩) rfl rfl rfl (by kernel_rfl)) rfl rfl rfl (fun _ _ _ _ h => h) ?_; trace "@@zby:1:4") | (refine zod E HK (zib (n := 8) (HS.fact 1 rfl) (fun k h _ => ⟨h, by simp⟩) rfl rfl rfl (by kernel_rfl)) rfl rfl rfl (fun _ _ _ _ h => h) ?_; trace "@@zby:1:5")
  clear E a
  intro a E
  refine Cw E HK pkm fun a E => ?_
  refine Cw E HK pkm fun a E => ?_
  refine Cw E HK pkm fun a E => ?_
  refine Cw E HK (zaK rfl rfl rfl rfl (zds (by omega) (by omega))) fun a E => ?_
  obtain ⟨A21, c21, h21, hT21⟩ := zy8 (lo := 64 * j) (hi := 64 * j + 64) (HS.fact 0 rfl) (by omega) (by omega)
  refine Cw E HK (zrL (sz := 1) (lo := 64 * j) (hi := 64 * j + 64) rfl (by kernel_rfl) rfl rfl rfl (by omega) (by omega) (by omega) (by have := (St.now (HS.fact 0 rfl)).cap; omega)) fun a E => ?_
  rw [h21, show 64 * j + 64 - 64 * j = 64 from by omega] at E
  rw [show 64 * j + 64 - 64 * j = 64 from by omega] at hT21
  refine CanB.wpCan_nil ?_
  try (simp only [jH, jI, jF, jG])
  clear HS HK hsz
  refine Ve E ?_
  refine Vc E ?_
  replace H := H.know (hT21.step (jV _) (fun _ _ _ => rfl) (fun k hk => .inl hk))
  replace H : Sep _ _ _ _ [_, _] [_, _, _] := H
  refine (ztR (h := hh) (gt := gt) (tx := ((ps.flatten ++ zcp ps.flatten.length).drop (64 * j)).take 64) (by rw [List.length_take, List.length_drop]; omega) H.xk (H.fact 0 rfl) (H.fact 2 rfl)).mono ?_
  rintro e w ⟨rfl, H1⟩
  replace H := H.call H1
  clear H1
  replace H : Sep _ _ _ _ [_, _] [_, _, _] := H
  refine Vp E fun a E => ?_
  refine Ve E ?_
  first | (refine Vs 0 E H ?_; trace "@@zby:2:0") | (refine Vs 1 E H ?_; trace "@@zby:2:1")
  clear H
  intro w H _
  replace H : Sep _ _ _ _ [_, _] _ := H
  refine zdf rfl ?_
  replace H := H.pop
  replace H : Sep _ _ _ _ [_, _] [_, _] := H
  rw [← zvS gt hh _ (zy7 (fun x hx => htb x (List.mem_of_mem_drop (List.mem_of_mem_take hx))))] at H
  refine hK7 _ _ ?_
  refine zaA ?_
  refine Vv E pkm fun a E => ?_
  refine Vv E (zaK rfl rfl rfl rfl (zds (by omega) (by omega))) fun a E => ?_
  refine Vv E pka fun a E => ?_
  rw [show ((64 * j : Nat) : Int) + 64 = ((64 * (j + 1) : Nat) : Int) from by omega] at E
  refine za9 ?_
  exact ⟨(j + 1, zcW gt hh (((ps.flatten ++ zcp ps.flatten.length).drop (64 * j)).take 64)), ⟨E.to (by repeat (first | exact trivial | refine ⟨rfl, ?_⟩)), H, ⟨by show 64 * (j + 1) ≤ (ps.flatten ++ zcp ps.flatten.length).length; omega, by show (zg9 gt (zcW gt hh (((ps.flatten ++ zcp ps.flatten.length).drop (64 * j)).take 64)) ((ps.flatten ++ zcp ps.flatten.length).drop (64 * (j + 1)))).1 = _; rw [show (ps.flatten ++ zcp ps.flatten.length).drop (64 * (j + 1)) = ((ps.flatten ++ zcp ps.flatten.length).drop (64 * j)).drop 64 from by rw [List.drop_drop]; rfl, ← zeG (by rw [List.length_drop]; omega)]; exact hfd, fun i hi => ztT gt hh _ i hi⟩⟩, by show (ps.flatten ++ zcp ps.flatten.length).length - 64 * (j + 1) < (ps.flatten ++ zcp ps.flatten.length).length - 64 * j; omega⟩
 ·skip
  clear E
  intro c13 E
  have hje : ¬ 64 ≤ ((ps.flatten ++ zcp ps.flatten.length).drop (64 * j)).length := by have := c13; simp only [decide_eq_false_iff_not] at this; rw [List.length_drop]; omega
  rw [zdX hje] at hfd
  simp only at hfd
  refine zaX E rfl ?_
  refine wp_exit ?_
  repeat (first | refine za3 ?_ | refine za4 ?_ | refine zaU (by decide) ?_)
  refine hK3 _ _ ?_
  refine Vr ?_
  first | (refine zgE E (pkl 8 H 0) rfl rfl rfl ?_; trace "@@zby:3:0") | (refine zgE E (pkl 8 H 1) rfl rfl rfl ?_; trace "@@zby:3:1") | (refine zgE E (zfS (n := 8) (H.fact 0 rfl) (fun _ _ _ => trivial) rfl rfl rfl (by kernel_rfl)) rfl rfl rfl ?_; trace "@@zby:3:2") | (refine zgE E (zfS (n := 8) (H.fact 1 rfl) (fun _ _ _ => trivial) rfl rfl rfl (by kernel_rfl)) rfl rfl rfl ?_; trace "@@zby:3:3") | (refine zgE E (zib (n := 8) (H.fact 0 rfl) (fun _ _ _ => trivial) rfl rfl rfl (by kernel_rfl)) rfl rfl rfl ?_; trace "@@zby:3:4") | (refine zgE E (zib (n := 8) (H.fact 1 rfl) (fun _ _ _ => trivial) rfl rfl rfl (by kernel_rfl)) rfl rfl rfl ?_; trace "@@zby:3:5")
  clear E a
  intro a E
  refine Ve E ?_
  refine Vc E ?_
  refine (zvV (h := hh) hlt H.xk).mono ?_
  rintro e w ⟨rfl, H1⟩
  replace H := H.call H1
  clear H1
  replace H : Sep _ _ _ _ [_, _] [_, _] := H
  refine Vp E fun a E => ?_
  refine Ve E ?_
  first | (refine Vs 0 E H ?_; trace "@@zby:4:0") | (refine Vs 1 E H ?_; trace "@@zby:4:1")
  clear H
  intro w H _
  replace H : Sep _ _ _ _ [_, _] _ := H
  refine zdf rfl ?_
  refine Vn ?_
  refine wp_ret ?_
  repeat (first | refine zat ?_ | refine zas ?_)
  refine zf7 rfl E (by first | (exact zg8 (n := 32) H 0 rfl rfl rfl (by kernel_rfl); trace "@@zby:5:0") | (exact zg8 (n := 32) H 1 rfl rfl rfl (by kernel_rfl); trace "@@zby:5:1")) ?_
  refine ⟨?_, (H.refacts (jK _)).popL.popL⟩
  rw [zjH, ← hfd]
end
section
open Go.RowKit
theorem zmr (a b : Nat) (h1 : a < 256) (h3 : b < 256) (w : World) :
  Calls Tryz.prog 134 #[.int .u8 a, .int .u8 b] w fun e w' => e = .returned (.int .u8 (zgn a b)) ∧ w = w' := by
 go_enter Tryz.func134, Tryz.ntmps134
 go_wp2
 go_loopg [5, 8] 8 (fun n p i wr => ∃ m : Nat, m + n = 8 ∧ i = .int .i64 m ∧ p = .int .i64 (zpt a b m) ∧ w = wr)
 case atStart => exact ⟨0, rfl, rfl, rfl, rfl⟩
 case round =>
  obtain ⟨m, hm, rfl, rfl, rfl⟩ := hrel
  have hm' := Lib.hid hm
  clear hm
  by_cases hlt : m < 8
  ·have hs := Lib.hid (zuV a b m h1 hlt)
   have hu : Hid (zpt a b (m + 1) = if b / 2 ^ m % 2 = 1 then zpt a b m ^^^ (a * 2 ^ m) else zpt a b m) := rfl
   by_cases hb : b / 2 ^ m % 2 = 1
   ·have ht : (((b : Int) / 2 ^ m).tmod 2 == 1) = true := by rw [zii]; simp [hb]
    have hb' := Lib.hid hb
    clear hb
    go_wp2
    go_roundg (gk - 1)
    case measure => have := hm'.out; omega
    case rel =>
     have hm'' := hm'.out
     exact ⟨m + 1, by omega, by go_num, by rw [hs.out, hu.out, if_pos hb'.out], rfl⟩
   ·have ht : (((b : Int) / 2 ^ m).tmod 2 == 1) = false := by rw [zii]; simp [hb]
    have hb' := Lib.hid hb
    clear hb
    go_wp2
    go_roundg (gk - 1)
    case measure => have := hm'.out; omega
    case rel =>
     have hm'' := hm'.out
     exact ⟨m + 1, by omega, by go_num, by rw [hu.out, if_neg hb'.out], rfl⟩
  ·obtain rfl : m = 8 := by have := hm'.out; omega
   have hP := zkX a b h1 8 (by omega)
   have hR : Hid (zgn a b = zn6 (zpt a b 8) 7 % 256) := rfl
   generalize zpt a b 8 = P at *
   go_wp2
   go_loopg [5, 7] 7 (fun n p i wr => ∃ m j : Nat, m + n = 7 ∧ j + m = 14 ∧ i = .int .i64 j ∧ p = .int .i64 (zn6 P m) ∧ w = wr)
   case atStart => exact ⟨0, 14, rfl, rfl, rfl, rfl, rfl⟩
   case round =>
    obtain ⟨m, j, hm, hj, rfl, rfl, rfl⟩ := hrel
    have hm' := Lib.hid hm
    have hj' := Lib.hid hj
    have hq := zoo P hP m (by omega)
    by_cases hlt : m < 7
    ·have hj1 : 8 ≤ j := by omega
     have hj2 : j ≤ 14 := by omega
     clear hm hj
     have hs := Lib.hid (zuW (zn6 P m) j hq hj1 hj2)
     have hu : Hid (zn6 P (m + 1) = if zn6 P m / 2 ^ (14 - m) % 2 = 1 then zn6 P m ^^^ (283 * 2 ^ (6 - m)) else zn6 P m) := rfl
     by_cases hb : zn6 P m / 2 ^ j % 2 = 1
     ·have ht : ((((zn6 P m : Nat) : Int) / 2 ^ j).tmod 2 == 1) = true := by rw [zii]; simp [hb]
      have hb' := Lib.hid hb
      clear hb
      go_wp2
      go_roundg (gk - 1)
      case measure => have := hm'.out; omega
      case rel =>
       have hm'' := hm'.out
       have hj'' := hj'.out
       refine ⟨m + 1, j - 1, by omega, by omega, by go_num, ?_, rfl⟩
       rw [hs.out, hu.out, show 14 - m = j from by omega, if_pos hb'.out, show 6 - m = j - 8 from by omega]
     ·have ht : ((((zn6 P m : Nat) : Int) / 2 ^ j).tmod 2 == 1) = false := by rw [zii]; simp [hb]
      have hb' := Lib.hid hb
      clear hb
      go_wp2
      go_roundg (gk - 1)
      case measure => have := hm'.out; omega
      case rel =>
       have hm'' := hm'.out
       have hj'' := hj'.out
       refine ⟨m + 1, j - 1, by omega, by omega, by go_num, ?_, rfl⟩
       rw [hu.out, show 14 - m = j from by omega, if_neg hb'.out]
    ·obtain rfl : m = 7 := by omega
     obtain rfl : j = 7 := by omega
     clear hm hj
     go_wp2
     go_ret
     refine ⟨?_, rfl⟩
     rw [hR.out]
     exact congrArg (fun z => Ending.returned (.int .u8 z)) (by omega)
end
section
open Go.RowKit
def zht (x : Nat) : Nat → Nat
 | 0 => 1
 | n + 1 => zgn (zht x n) x
theorem ztU (x n : Nat) : zht x n < 256 := by
 cases n with
 | zero => unfold zht; omega
 | succ n => unfold zht zgn; exact Nat.mod_lt _ (by omega)
theorem ztV (x n : Nat) : zht x (n + 1) = zgn (zht x n) x := rfl
theorem zrg (x : Nat) : zht x 0 = 1 := rfl
def zBJ (y : Int) (m : Nat) : Int := bits .xor .u8 (bits .xor .u8 (bits .xor .u8 (bits .xor .u8 (bits .xor .u8 (99 / 2 ^ m) (y / 2 ^ m)) (y / 2 ^ ((m + 4) % 8))) (y / 2 ^ ((m + 5) % 8))) (y / 2 ^ ((m + 6) % 8))) (y / 2 ^ ((m + 7) % 8))
def ztW (y : Int) : Nat → Int
 | 0 => 0
 | m + 1 => (ztW y m + (zBJ y m).tmod 2 * 2 ^ m % 256) % 256
theorem ztX (y : Int) : ztW y 0 = 0 := rfl
theorem ztY (y : Int) (m : Nat) : ztW y (m + 1) = (ztW y m + (zBJ y m).tmod 2 * 2 ^ m % 256) % 256 := rfl
def okR (x : Nat) : Bool := decide (ztW (zht x 254) 8 = zbH x)
theorem zCN : (List.range 8).all (fun j => okR (0 + j)) = true := by kernel_rfl
theorem zCO : (List.range 8).all (fun j => okR (8 + j)) = true := by kernel_rfl
theorem zCP : (List.range 8).all (fun j => okR (16 + j)) = true := by kernel_rfl
theorem zCQ : (List.range 8).all (fun j => okR (24 + j)) = true := by kernel_rfl
theorem zCR : (List.range 8).all (fun j => okR (32 + j)) = true := by kernel_rfl
theorem zCS : (List.range 8).all (fun j => okR (40 + j)) = true := by kernel_rfl
theorem zCT : (List.range 8).all (fun j => okR (48 + j)) = true := by kernel_rfl
theorem zCU : (List.range 8).all (fun j => okR (56 + j)) = true := by kernel_rfl
theorem zCV : (List.range 8).all (fun j => okR (64 + j)) = true := by kernel_rfl
theorem zCW : (List.range 8).all (fun j => okR (72 + j)) = true := by kernel_rfl
theorem zBK : (List.range 8).all (fun j => okR (80 + j)) = true := by kernel_rfl
theorem zBL : (List.range 8).all (fun j => okR (88 + j)) = true := by kernel_rfl
theorem zBM : (List.range 8).all (fun j => okR (96 + j)) = true := by kernel_rfl
theorem zBN : (List.range 8).all (fun j => okR (104 + j)) = true := by kernel_rfl
theorem zBO : (List.range 8).all (fun j => okR (112 + j)) = true := by kernel_rfl
theorem zBP : (List.range 8).all (fun j => okR (120 + j)) = true := by kernel_rfl
theorem zBQ : (List.range 8).all (fun j => okR (128 + j)) = true := by kernel_rfl
theorem zBR : (List.range 8).all (fun j => okR (136 + j)) = true := by kernel_rfl
theorem zBS : (List.range 8).all (fun j => okR (144 + j)) = true := by kernel_rfl
theorem zBT : (List.range 8).all (fun j => okR (152 + j)) = true := by kernel_rfl
theorem zBU : (List.range 8).all (fun j => okR (160 + j)) = true := by kernel_rfl
theorem zBV : (List.range 8).all (fun j => okR (168 + j)) = true := by kernel_rfl
theorem zBW : (List.range 8).all (fun j => okR (176 + j)) = true := by kernel_rfl
theorem zBX : (List.range 8).all (fun j => okR (184 + j)) = true := by kernel_rfl
theorem zBY : (List.range 8).all (fun j => okR (192 + j)) = true := by kernel_rfl
theorem zBZ : (List.range 8).all (fun j => okR (200 + j)) = true := by kernel_rfl
theorem zB0 : (List.range 8).all (fun j => okR (208 + j)) = true := by kernel_rfl
theorem zB1 : (List.range 8).all (fun j => okR (216 + j)) = true := by kernel_rfl
theorem zB2 : (List.range 8).all (fun j => okR (224 + j)) = true := by kernel_rfl
theorem zB3 : (List.range 8).all (fun j => okR (232 + j)) = true := by kernel_rfl
theorem zB4 : (List.range 8).all (fun j => okR (240 + j)) = true := by kernel_rfl
theorem zB5 : (List.range 8).all (fun j => okR (248 + j)) = true := by kernel_rfl
theorem zza (x : Nat) (hx : x < 256) : ztW (zht x 254) 8 = zbH x := by
 have key : okR x = true := by
  have hq : x = 8 * (x / 8) + x % 8 := by omega
  have hr : x % 8 < 8 := by omega
  have hd : x / 8 < 32 := by omega
  rw [hq]
  generalize x % 8 = r at *
  generalize x / 8 = q at *
  clear hq hx
  have pick : ∀ b, (List.range 8).all (fun j => okR (b + j)) = true → okR (b + r) = true := fun b h => List.all_eq_true.1 h r (List.mem_range.2 hr)
  match q, hd with
  | 0, _ => exact pick _ zCN
  | 1, _ => exact pick _ zCO
  | 2, _ => exact pick _ zCP
  | 3, _ => exact pick _ zCQ
  | 4, _ => exact pick _ zCR
  | 5, _ => exact pick _ zCS
  | 6, _ => exact pick _ zCT
  | 7, _ => exact pick _ zCU
  | 8, _ => exact pick _ zCV
  | 9, _ => exact pick _ zCW
  | 10, _ => exact pick _ zBK
  | 11, _ => exact pick _ zBL
  | 12, _ => exact pick _ zBM
  | 13, _ => exact pick _ zBN
  | 14, _ => exact pick _ zBO
  | 15, _ => exact pick _ zBP
  | 16, _ => exact pick _ zBQ
  | 17, _ => exact pick _ zBR
  | 18, _ => exact pick _ zBS
  | 19, _ => exact pick _ zBT
  | 20, _ => exact pick _ zBU
  | 21, _ => exact pick _ zBV
  | 22, _ => exact pick _ zBW
  | 23, _ => exact pick _ zBX
  | 24, _ => exact pick _ zBY
  | 25, _ => exact pick _ zBZ
  | 26, _ => exact pick _ zB0
  | 27, _ => exact pick _ zB1
  | 28, _ => exact pick _ zB2
  | 29, _ => exact pick _ zB3
  | 30, _ => exact pick _ zB4
  | 31, _ => exact pick _ zB5
  | n + 32, h => omega
 exact of_decide_eq_true key
end
section
open Go.RowKit
attribute [local irreducible] zbH
attribute [local irreducible] zht zgn ztW
theorem zoU (x : Nat) (hx : x < 256) (w : World) :
  Calls Tryz.prog 140 #[.int .u8 x] w fun e w' => e = .returned (.int .u8 (zht x 254)) ∧ w = w' := by
 go_enter Tryz.func140, Tryz.ntmps140
 go_wp2
 go_loopg [3, 4] 254 (fun n y i wr => ∃ m : Nat, m + n = 254 ∧ i = .int .i64 m ∧ y = .int .u8 (zht x m) ∧ w = wr)
 case atStart => exact ⟨0, rfl, rfl, by rw [zrg]; rfl, rfl⟩
 case round =>
  obtain ⟨m, hm, rfl, rfl, rfl⟩ := hrel
  have hm' := Lib.hid hm
  clear hm
  have hl := ztU x m
  by_cases hlt : m < 254
  ·go_wp2_with (go_at_call 134; (with_reducible refine (zmr _ _ hl hx _).mono ?_); rintro e w' ⟨rfl, rfl⟩)
   go_roundg (gk - 1)
   case measure => have := hm'.out; omega
   case rel =>
    have hm'' := hm'.out
    exact ⟨m + 1, by omega, by go_num, by rw [ztV], rfl⟩
  ·obtain rfl : m = 254 := by have := hm'.out; omega
   go_wp2
   go_ret
   exact ⟨rfl, rfl⟩
theorem zrh (x : Nat) (hx : x < 256) (w : World) :
  Calls Tryz.prog 133 #[.int .u8 x] w fun e w' => e = .returned (.int .u8 (zbH x)) ∧ ∃ d, w' = w.drewN d := by
 go_enter Tryz.func133, Tryz.ntmps133
 go_wp2_with (go_at_call 140; (with_reducible refine (zoU _ hx _).mono ?_); rintro e w' ⟨rfl, rfl⟩)
 have hl := ztU x 254
 have hR := Lib.hid (zza x hx)
 generalize zht x 254 = y at *
 go_loopg [4, 9] 8 (fun n o i wr => ∃ m : Nat, m + n = 8 ∧ i = .int .i64 m ∧ o = .int .u8 (ztW y m) ∧ ∃ d, wr = w.drewN d)
 case atStart => exact ⟨0, rfl, rfl, by rw [ztX], 0, rfl⟩
 case round =>
  obtain ⟨m, hm, rfl, rfl, d, rfl⟩ := hrel
  have hm' := Lib.hid hm
  clear hm
  by_cases hlt : m < 8
  ·have hs : Hid (ztW y (m + 1) = (ztW y m + (zBJ y m).tmod 2 * 2 ^ m % 256) % 256) := Lib.hid (ztY y m)
   generalize ztW y m = q at *
   go_wp2
   go_quiet (fail)
   go_wp2
   go_roundg (gk - 1)
   case measure => have := hm'.out; omega
   case rel =>
    have hm'' := hm'.out
    exact ⟨m + 1, by omega, by go_num, by rw [hs.out]; rfl, _, rfl⟩
  ·obtain rfl : m = 8 := by have := hm'.out; omega
   rw [hR.out]
   go_wp2
   go_ret
   exact ⟨rfl, _, rfl⟩
end
section
open Go.RowKit
attribute [local irreducible] zbH zgn
theorem zzb : (List.range 256).all (fun x => decide (((zgn 2 x : Nat) : Int) = zdJ x)) = true := by kernel_rfl
theorem zzc : (List.range 256).all (fun x => decide (((zgn 3 x : Nat) : Int) = bits .xor .u8 (zdJ x) x)) = true := by kernel_rfl
def zA7 (s : Nat → Int) (c r : Nat) : Int := bits .xor .u8 (bits .xor .u8 (bits .xor .u8 (zdJ (s (4 * c + r % 4))) (bits .xor .u8 (zdJ (s (4 * c + (r + 1) % 4))) (s (4 * c + (r + 1) % 4)))) (s (4 * c + (r + 2) % 4))) (s (4 * c + (r + 3) % 4))
theorem zzd (x s : Nat → Int) (c : Nat) (hx : ∀ i, i < 4 → 0 ≤ x i ∧ x i < 256) (hs : ∀ i, i < 4 → s (4 * c + i) = x i) (r : Nat) (hr : r < 4) : zA7 s c r = zm3 x r := by
 refine zAI (zfz _ _ _) (zsh _ _) ?_
 rw [zAK]
 unfold zA7 C8
 rw [hs _ (by omega), hs _ (by omega), hs _ (by omega), hs _ (by omega)]
 rw [zj2, zj2, zj2, zj2, zmo (hx _ (by omega)), zmo (hx _ (by omega))]
 simp only [zAJ]
 have h : r = 0 ∨ r = 1 ∨ r = 2 ∨ r = 3 := by omega
 rcases h with rfl | rfl | rfl | rfl
 all_goals
  simp only [Nat.reduceAdd, Nat.reduceMod]
  generalize T8 (b8 (x 0)) = A
  generalize T8 (b8 (x 1)) = B
  generalize T8 (b8 (x 2)) = C
  generalize T8 (b8 (x 3)) = D
  generalize b8 (x 0) = a
  generalize b8 (x 1) = b
  generalize b8 (x 2) = c
  generalize b8 (x 3) = d
  ext j hj
  simp only [BitVec.getElem_xor]
  generalize a[j] = a
  generalize b[j] = b
  generalize c[j] = c
  generalize d[j] = d
  generalize A[j] = A
  generalize B[j] = B
  generalize C[j] = C
  generalize D[j] = D
  revert a b c d A B C D
  decide +kernel
theorem zhu (f g : Nat → Int) (w : World) :
  Calls Tryz.prog 123 #[.agg (arr .u8 16 f), .agg (arr .u8 16 g)] w fun e w' => e = .returned (.agg (arr .u8 16 (zjX f g))) ∧ Below w.heap.size w w' := by
 go_enter Tryz.func123, Tryz.ntmps123
 go_wp2_with (refine zae rfl rfl zdB ?_)
 obtain ⟨h0, h1, h2, hsz, hb⟩ := zc7 w (.cells (arr .u8 16 f) 49) (.cells (arr .u8 16 g) 49) (.cells (arr .u8 16 fun _ => 0) 49)
 go_loopg [6] 16 (fun n i wr => ∃ m : Nat, m + n = 16 ∧ i = .int .i64 m ∧ wr.heap[w.heap.size]? = some (.cells (arr .u8 16 fun i => if i < m then zjX f g i else f i) 49 (0, 0)) ∧
  wr.heap[w.heap.size + 1]? = some (.cells (arr .u8 16 g) 49 (0, 0)) ∧ wr.heap[w.heap.size + 1 + 1]? = some (.cells (arr .u8 16 fun _ => 0) 49 (0, 0)) ∧ Below w.heap.size w wr)
 case atStart => exact ⟨0, rfl, rfl, by simpa using h0, h1, h2, hb⟩
 case round =>
  obtain ⟨m, hm, rfl, g0, g1, g2, hB⟩ := hrel
  have hm' := Lib.hid hm
  clear h0 h1 h2 hsz hb hm
  by_cases hlt : m < 16
  ·have c0 := zaj g0 m hlt
   have c1 := zaj g1 m hlt
   have fz := zaH g0 m
   simp only [Nat.lt_irrefl, if_false] at c0
   go_wp2
   refine zav 8 (by kernel_rfl) (by kernel_rfl) ?_
   (simp only [jH, jI, jF, jG])
   repeat (refine wpStill_step (fun K hK => ?_); go_simp; (try (simp only [↓IntWalk.iteOmega]; go_simp)); (try go_bits); refine hK _ ?_; clear hK K)
   refine wpStill_nil ?_
   go_wp2
   go_roundg (gk - 1)
   case measure => have := hm'.out; omega
   case rel =>
    have hm'' := hm'.out
    exact ⟨m + 1, by omega, by go_num, zaf (zaJ g0 m _) (fun i _ => ziB f (zjX f g) m i), zaq g1 _ _ (by omega), zaq g2 _ _ (by omega), (hB.setCell (jV _) _).drew⟩
  ·obtain rfl : m = 16 := by have := hm'.out; omega
   have g0' := zaf (f' := zjX f g) g0 (fun i hi => if_pos hi)
   clear g0
   go_wp2_with (first | (refine zab rfl rfl rfl zaN g0' ?_) | (refine zac rfl rfl rfl rfl zaN g2 ?_))
   exact bodyPost_ret (zau rfl rfl zaN (zan g2)) rfl ⟨rfl, zam hB (by omega) _⟩
theorem zeN (x : Int) (h0 : 0 ≤ x) (h1 : x < 256) (w : World) :
  Calls Tryz.prog 133 #[.int .u8 x] w fun e w' => e = .returned (.int .u8 (zbH x.toNat)) ∧ Below w.heap.size w w' := by
 obtain ⟨n, rfl⟩ := Int.eq_ofNat_of_zero_le h0
 refine (zrh n (by omega) w).mono ?_
 rintro e w' ⟨rfl, d, rfl⟩
 exact ⟨rfl, Go.below_drewN (Below.refl _ _) d⟩
theorem zvW (x : Int) (hx : 0 ≤ x ∧ x < 256) (w : World) :
  Calls Tryz.prog 134 #[.int .u8 2, .int .u8 x] w fun e w' => e = .returned (.int .u8 (zdJ x)) ∧ w = w' := by
 obtain ⟨n, rfl⟩ := Int.eq_ofNat_of_zero_le hx.1
 have := zmr 2 n (by omega) (by omega) w
 rw [of_decide_eq_true (List.all_eq_true.1 zzb n (List.mem_range.2 (by omega)))] at this
 exact this
theorem ztZ (x : Int) (hx : 0 ≤ x ∧ x < 256) (w : World) :
  Calls Tryz.prog 134 #[.int .u8 3, .int .u8 x] w fun e w' => e = .returned (.int .u8 (bits .xor .u8 (zdJ x) x)) ∧ w = w' := by
 obtain ⟨n, rfl⟩ := Int.eq_ofNat_of_zero_le hx.1
 have := zmr 3 n (by omega) (by omega) w
 rw [of_decide_eq_true (List.all_eq_true.1 zzc n (List.mem_range.2 (by omega)))] at this
 exact this
theorem zqn (s : Nat → Int) (c r : Nat) (hc : c < 4) (hr : r < 8) (w : World) :
  Calls Tryz.prog 135 #[.agg (arr .u8 16 s), .int .i64 c, .int .i64 r] w fun e w' => e = .returned (.int .u8 (s (4 * c + r % 4))) ∧ Below w.heap.size w w' := by
 go_enter Tryz.func135, Tryz.ntmps135
 obtain ⟨g0, hz, hb0⟩ := zb5 w (.cells (arr .u8 16 s) 49)
 have c0 := zaj g0 (4 * c + r % 4) (by omega)
 go_wp2
 go_ret
 exact ⟨rfl, hb0⟩
def zct (s : Nat → Int) (q : Nat) : Int := zmC s (q / 4) (q % 4)
theorem zri (s : Nat → Int) (hs : ∀ i, i < 16 → 0 ≤ s i ∧ s i < 256) (w : World) :
  Calls Tryz.prog 124 #[.agg (arr .u8 16 s)] w fun e w' => e = .returned (.agg (arr .u8 16 (zct s))) ∧ Below w.heap.size w w' := by
 go_enter Tryz.func124, Tryz.ntmps124
 go_wp2_with (refine zae rfl rfl zdB ?_)
 obtain ⟨h0, h1, h2, hsz, hb⟩ := zc7 w (.cells (arr .u8 16 s) 49) (.cells (arr .u8 16 fun _ => 0) 49) (.cells (arr .u8 16 fun _ => 0) 49)
 have hs' := Lib.hid hs
 clear hs
 go_loopg [6] 4 (fun n i wr => ∃ m : Nat, m + n = 4 ∧ i = .int .i64 m ∧ wr.heap[w.heap.size]? = some (.cells (arr .u8 16 s) 49 (0, 0)) ∧
  wr.heap[w.heap.size + 1]? = some (.cells (arr .u8 16 fun _ => 0) 49 (0, 0)) ∧ wr.heap[w.heap.size + 1 + 1]? = some (.cells (arr .u8 16 fun i => if i < 4 * m then zct s i else 0) 49 (0, 0)) ∧ Below w.heap.size w wr)
 case atStart => exact ⟨0, rfl, rfl, h0, h1, zaf h2 (fun i _ => (if_neg (by omega)).symm), hb⟩
 case round =>
  obtain ⟨m, hm, rfl, g0, g1, g2, hB⟩ := hrel
  obtain ⟨go1, rfl⟩ : ∃ x, x = gk := ⟨_, rfl⟩
  have hm' := Lib.hid hm
  clear h0 h1 h2 hsz hb hm
  by_cases hlt : m < 4
  ·go_upto_region 5 with (fail)
   (try simp only [Act.put, jA, jB, jC])
   rw [show decide ((m : Int) < 4) = true from decide_eq_true (by omega)]
   go_wp2
   go_loopg [9] 4 (fun n i wr => ∃ r : Nat, r + n = 4 ∧ i = .int .i64 r ∧ wr.heap[w.heap.size]? = some (.cells (arr .u8 16 s) 49 (0, 0)) ∧
    wr.heap[w.heap.size + 1]? = some (.cells (arr .u8 16 fun _ => 0) 49 (0, 0)) ∧ wr.heap[w.heap.size + 1 + 1]? = some (.cells (arr .u8 16 fun i => if i < 4 * m + r then zct s i else 0) 49 (0, 0)) ∧ Below w.heap.size w wr)
   case atStart => exact ⟨0, rfl, rfl, g0, g1, g2, hB⟩
   case round =>
    clear g0 g1 g2 hB
    obtain ⟨r, hr, rfl, g0, g1, g2, hB⟩ := hrel
    have hr' := Lib.hid hr
    clear hr
    by_cases hlr : r < 4
    ·have hsb := hs'.out (4 * ((m + r) % 4) + r) (by omega)
     have c0 := zaj g0 (4 * ((m + r) % 4) + r) (by omega)
     go_wp2_with (fail)
     refine (zeN _ (by omega) (by omega) _).mono ?_
     rintro e w4 ⟨rfl, b4⟩
     have e0 := zaa b4 (jM g0) g0
     have e1 := zaa b4 (jM g1) g1
     have e2 := zaa b4 (jM g2) g2
     have hBq := hB.trans (b4.mono hB.size)
     clear b4 g0 g1 g2 hB c0
     have c2 := zaj e2 (4 * m + r) (by omega)
     have fz := zaH e2 (4 * m + r)
     simp only [Nat.lt_irrefl, if_false] at c2
     go_wp2
     go_roundg (gk - 1)
     case measure => have := hr'.out; omega
     case rel =>
      have hr'' := hr'.out
      refine ⟨r + 1, by omega, by go_num, zaq e0 _ _ (by omega), zaq e1 _ _ (by omega), zaf (zaJ e2 _ _) (fun i _ => ?_), hBq.setCell (by show w.heap.size ≤ w.heap.size + 1 + 1; omega) _⟩
      have := zdA (zct s) (4 * m + r) i
      rw [show zct s (4 * m + r) = zbH (s (4 * ((m + r) % 4) + r)).toNat from by unfold zct zmC; rw [show (4 * m + r) / 4 = m from by omega, show (4 * m + r) % 4 = r from by omega]] at this
      exact this
    ·obtain rfl : r = 4 := by have := hr'.out; omega
     go_wp2
     go_roundg (go1 - 1)
     case measure => have := hm'.out; omega
     case rel =>
      have hm'' := hm'.out
      exact ⟨m + 1, by omega, by go_num, g0, g1, zaf g2 (fun i _ => by rw [show 4 * (m + 1) = 4 * m + 4 from by omega]), hB⟩
  ·obtain rfl : m = 4 := by have := hm'.out; omega
   have g2' := zaf (f' := zct s) g2 (fun i hi => if_pos (by omega))
   clear g2
   go_wp2_with (first | (refine zab rfl rfl rfl zaN g2' ?_) | (refine zac rfl rfl rfl rfl zaN g1 ?_))
   exact bodyPost_ret (zau rfl rfl zaN (zan g1)) rfl ⟨rfl, zam hB (by omega) _⟩
end
end Go.Proofs.YtfolbgiekbimpaaGreatDoor
