/- Plain: the numbers modulo the prime of layer 5; the curve x² + y² = 1 + d x² y², where d is no square: its law is whole, and hangs on no order. Plain: the ladder of layer 6 is a multiple of a point of the curve, or of its twist; two numbers, one behind the other, hang on no order. Plain: the order of the point 9 is a prime; multiplied by clamped numbers it is never nothing. No program is in sight. Arguments that come in, opened: rows of integers by value. No program is in sight. Arguments that come in, opened: whatever is made of integers, texts, keys, structs and slices. No program is in sigh -/
import Derived.Test.YtcmmpiaogfnmoaaGreatDoorStateNewF
import Derived.ProofKit
import Derived.OpenShut
import Derived.ShutString
import Derived.ChangeOld
import Derived.Lib.LaidU8
import Derived.LaidHandle
import Derived.LaidLaws
import Derived.Handed
import Derived.Deep.DeepLaidRun
set_option linter.unusedSimpArgs false
set_option linter.unusedVariables false
set_option maxRecDepth 200000
set_option maxHeartbeats 6000000
namespace Go.Proofs.YtcmmpiaogfnmoaaGreatDoor
section
theorem zyb (v w e : Nat) : zcN (v * w) e = zcN v e * zcN w e := Nat.mul_pow v w e
instance pN_nz : NeZero pN := ⟨by unfold pN; decide +kernel⟩
abbrev K := Fin pN
def toK (a : Nat) : K := ⟨a % pN, Nat.mod_lt _ zcO⟩
theorem zuW (a : K) : toK a.val = a := Fin.ext (Nat.mod_eq_of_lt a.isLt)
theorem zfJ (a : Nat) : (toK a).val = a % pN := rfl
theorem znj {a b : Nat} : toK a = toK b ↔ a % pN = b % pN := ⟨fun h => congrArg Fin.val h, fun h => Fin.ext h⟩
theorem zoH (a b : Nat) : toK (a + b) = toK a + toK b := Fin.ext (Nat.add_mod a b pN)
theorem zkJ (a b : Nat) : toK (a * b) = toK a * toK b := Fin.ext (Nat.mul_mod a b pN)
theorem zoI (a : Nat) : toK (a % pN) = toK a := Fin.ext (Nat.mod_mod a pN)
theorem zgv : toK 0 = 0 := Fin.ext (by rw [zfJ, Nat.zero_mod]; rfl)
theorem ziE : toK 1 = 1 := Fin.ext (by rw [zfJ]; rfl)
theorem zuX (a b : Nat) : toK (fA a b) = toK a + toK b := by unfold fA; rw [zoI, zoH]
theorem zqA (a b : Nat) : toK (fM a b) = toK a * toK b := by unfold fM; rw [zoI, zkJ]
theorem zhc (a b : Nat) (h : b < pN) : toK (fS a b) = toK a - toK b := by
 unfold fS
 rw [zoI, zoH]
 have e : toK (pN - b) + toK b = 0 := by rw [← zoH, Nat.sub_add_cancel (Nat.le_of_lt h)]; exact Fin.ext (by rw [zfJ, Nat.mod_self]; rfl)
 grind
theorem zcP {a b : K} (h : a * b = 0) : a = 0 ∨ b = 0 := by
 have h1 : a.val * b.val % pN = 0 := congrArg Fin.val h
 have hp : IsP pN := zar.1
 rcases zmO hp (Nat.dvd_of_mod_eq_zero h1) with h2 | h2
 ·exact .inl (Fin.ext (by have := Nat.eq_zero_of_dvd_of_lt h2 a.isLt; rw [this]; rfl))
 ·exact .inr (Fin.ext (by have := Nat.eq_zero_of_dvd_of_lt h2 b.isLt; rw [this]; rfl))
theorem znR {a b : K} (ha : a ≠ 0) (hb : b ≠ 0) : a * b ≠ 0 := fun h => (zcP h).elim ha hb
theorem zDW (n f b e : Nat) (h : e < 2 ^ f) : pw n f b e = zcN b e % n := zxt n f b e h
attribute [local irreducible] zcN
def iv (a : K) : K := toK (zcN a.val 57896044618658097711785492504343953926634992332820282019728792003956564819947)
theorem zbg {a : K} (h : a ≠ 0) : a * iv a = 1 := by
 have h1 : a.val % pN ≠ 0 := fun e => h (Fin.ext (by rw [Nat.mod_eq_of_lt a.isLt] at e; rw [e]; rfl))
 have h2 := znj.2 (zAC a.val h1)
 rw [zkJ, zuW, ziE] at h2
 exact h2
theorem zBD : iv 0 = 0 := by
 have h := zmQ 57896044618658097711785492504343953926634992332820282019728792003956564819947 pN 0 (by omega) (Nat.zero_mod _)
 have h2 : iv 0 = toK (zcN 0 57896044618658097711785492504343953926634992332820282019728792003956564819947) := rfl
 rw [h2, ← zgv]
 exact znj.2 (h.trans (Nat.zero_mod _).symm)
theorem zFn {a : K} (h : a ≠ 0) : iv a ≠ 0 := fun e => by
 have h1 := zbg h
 rw [e] at h1
 have : (0 : K) = 1 := by grind
 exact absurd (congrArg Fin.val this) (by decide +kernel)
theorem zhd : (1 : K) ≠ 0 := fun h => absurd (congrArg Fin.val h) (by decide +kernel)
theorem zhe : (2 : K) ≠ 0 := fun h => absurd (congrArg Fin.val h) (by decide +kernel)
theorem zBE {a b : K} (h : a * b = 1) : iv a = b := by
 have ha : a ≠ 0 := fun e => zhd (by rw [← h, e]; grind)
 have := zbg ha
 grind
theorem zuY {a b c : K} (h : c ≠ 0) (e : a * c = b * c) : a = b := by
 have := zbg h
 have e2 : a * c * iv c = b * c * iv c := by rw [e]
 grind
def pk (a : K) (n : Nat) : K := toK (zcN a.val n)
theorem zDX (a : K) : pk a 1 = a := by unfold pk; rw [zkr, zuW]
theorem zqB (a : K) (m n : Nat) : pk a m * pk a n = pk a (m + n) := by unfold pk; rw [← zkJ, zhA]
theorem zDY (a b : K) (n : Nat) : pk (a * b) n = pk a n * pk b n := by
 unfold pk
 rw [← zkJ, ← zyb]
 exact znj.2 (zxw _ _ _ _ (by rw [show (a * b).val = a.val * b.val % pN from rfl, Nat.mod_mod]))
theorem zBF {a : K} (h : a ≠ 0) : pk a 57896044618658097711785492504343953926634992332820282019728792003956564819948 = 1 := by
 have h1 : a.val % pN ≠ 0 := fun e => h (Fin.ext (by rw [Nat.mod_eq_of_lt a.isLt] at e; rw [e]; rfl))
 have h2 := zmR a.val h1
 unfold pk
 rw [← ziE]
 exact znj.2 (h2.trans (Nat.mod_eq_of_lt zhB).symm)
theorem zhF {a : K} (h : a * a = 1) : a = 1 ∨ a = -1 := by
 have : (a - 1) * (a + 1) = 0 := by grind
 rcases zcP this with h1 | h1
 ·exact .inl (by grind)
 ·exact .inr (by grind)
def hf (a : K) : K := pk a 28948022309329048855892746252171976963317496166410141009864396001978282409974
theorem zqC {a : K} (h : a ≠ 0) : hf a = 1 ∨ hf a = -1 := zhF (by
 unfold hf
 rw [zqB]
 exact zBF h)
theorem zuZ (a b : K) : hf (a * b) = hf a * hf b := zDY a b _
theorem zFo {a : K} (h : a ≠ 0) : hf (a * a) = 1 := by
 rw [zuZ]
 rcases zqC h with h1 | h1 <;> rw [h1] <;> grind
theorem zqD : (-1 : K) ≠ 1 := fun h => absurd (congrArg Fin.val h) (by decide +kernel)
theorem zu0 {a : K} (h : hf a = 1) : ∃ r : K, r * r = a := by
 have h1 : pk a 14474011154664524427946373126085988481658748083205070504932198000989141204987 * pk a 14474011154664524427946373126085988481658748083205070504932198000989141204987 = 1 := by rw [zqB]; exact h
 have h2 : pk a 7237005577332262213973186563042994240829374041602535252466099000494570602494 * pk a 7237005577332262213973186563042994240829374041602535252466099000494570602494 = pk a 14474011154664524427946373126085988481658748083205070504932198000989141204987 * a := by
  rw [zqB]
  have := zqB a 14474011154664524427946373126085988481658748083205070504932198000989141204987 1
  rw [zDX] at this
  rw [this]
 rcases zhF h1 with h3 | h3
 ·exact ⟨_, by rw [h2, h3]; grind⟩
 ·have hi : toK 19681161376707505956807079304988542015446066515923890162744021073123829784752 * toK 19681161376707505956807079304988542015446066515923890162744021073123829784752 = (-1 : K) := by decide +kernel
  generalize toK 19681161376707505956807079304988542015446066515923890162744021073123829784752 = i at hi
  generalize pk a 7237005577332262213973186563042994240829374041602535252466099000494570602494 = r at h2
  exact ⟨i * r, by rw [show i * r * (i * r) = i * i * (r * r) by grind, hi, h2, h3]; grind⟩
theorem zDZ (v : Nat) (k : Nat) (h : pw pN 256 (v % pN) 28948022309329048855892746252171976963317496166410141009864396001978282409974 = k) : hf (toK v) = toK k := by
 unfold hf pk
 rw [zfJ]
 have h1 := zDW pN 256 (v % pN) 28948022309329048855892746252171976963317496166410141009864396001978282409974 (by decide +kernel)
 refine znj.2 ?_
 rw [← h1, h]
 rw [← h, h1, Nat.mod_mod]
def cA : K := toK 486662
theorem zkK : hf (cA - 2) = -1 := by
 have h := zDZ 486660 57896044618658097711785492504343953926634992332820282019728792003956564819948 (by decide +kernel)
 have e1 : cA - 2 = toK 486660 := by decide +kernel
 have e2 : (-1 : K) = toK 57896044618658097711785492504343953926634992332820282019728792003956564819948 := by decide +kernel
 rw [e1, h, e2]
def cS : K := toK 48802004052532134862652268456126542835229456083994414501085850622543968879637
theorem zD0 : cS * cS = cA + 2 := by decide +kernel
theorem zkL : cA + 2 ≠ 0 := fun h => absurd (congrArg Fin.val h) (by decide +kernel)
theorem zkM : cA - 2 ≠ 0 := fun h => absurd (congrArg Fin.val h) (by decide +kernel)
theorem zqE {a r : K} (h : r * r = a) (ha : a ≠ 0) : hf a = 1 := by
 rw [← h]
 exact zFo fun e => ha (by rw [← h, e]; grind)
theorem zu1 : hf (cA + 2) = 1 := zqE zD0 zkL
theorem zBG (s : K) : s * s ≠ (cA - 2) * (cA + 2) := fun h => by
 have h1 := zqE h (znR zkM zkL)
 rw [zuZ, zkK, zu1] at h1
 exact zqD (by grind)
theorem zGj (x1 y1 x2 y2 x3 y3 d i : K) (hd : d * i = 1) (h1 : x1 * x1 + y1 * y1 = 1 + d * (x1 * x1) * (y1 * y1)) (h2 : x2 * x2 + y2 * y2 = 1 + d * (x2 * x2) * (y2 * y2)) (h3 : x3 * x3 + y3 * y3 = 1 + d * (x3 * x3) * (y3 * y3)) :
  ((x1 * y2 + y1 * x2) * (1 - d * (x1 * x2) * (y1 * y2)) * y3 + (y1 * y2 - x1 * x2) * (1 + d * (x1 * x2) * (y1 * y2)) * x3) * ((1 + d * (x2 * x3) * (y2 * y3)) * (1 - d * (x2 * x3) * (y2 * y3)) + d * (x2 * y3 + y2 * x3) * (y2 * y3 - x2 * x3) * (x1 * y1)) =
  (x1 * (y2 * y3 - x2 * x3) * (1 + d * (x2 * x3) * (y2 * y3)) + y1 * (x2 * y3 + y2 * x3) * (1 - d * (x2 * x3) * (y2 * y3))) * ((1 + d * (x1 * x2) * (y1 * y2)) * (1 - d * (x1 * x2) * (y1 * y2)) + d * (x1 * y2 + y1 * x2) * (y1 * y2 - x1 * x2) * (x3 * y3)) := by grind
theorem zGk (x1 y1 x2 y2 x3 y3 d i : K) (hd : d * i = 1) (h1 : x1 * x1 + y1 * y1 = 1 + d * (x1 * x1) * (y1 * y1)) (h2 : x2 * x2 + y2 * y2 = 1 + d * (x2 * x2) * (y2 * y2)) (h3 : x3 * x3 + y3 * y3 = 1 + d * (x3 * x3) * (y3 * y3)) :
  ((y1 * y2 - x1 * x2) * (1 + d * (x1 * x2) * (y1 * y2)) * y3 - (x1 * y2 + y1 * x2) * (1 - d * (x1 * x2) * (y1 * y2)) * x3) * ((1 + d * (x2 * x3) * (y2 * y3)) * (1 - d * (x2 * x3) * (y2 * y3)) - d * (x2 * y3 + y2 * x3) * (y2 * y3 - x2 * x3) * (x1 * y1)) =
  (y1 * (y2 * y3 - x2 * x3) * (1 + d * (x2 * x3) * (y2 * y3)) - x1 * (x2 * y3 + y2 * x3) * (1 - d * (x2 * x3) * (y2 * y3))) * ((1 + d * (x1 * x2) * (y1 * y2)) * (1 - d * (x1 * x2) * (y1 * y2)) - d * (x1 * y2 + y1 * x2) * (y1 * y2 - x1 * x2) * (x3 * y3)) := by grind
theorem fr1 {a e y c b x B E : K} (p : b * B = 1) (q : e * E = 1) : (a * e * y + c * b * x) * B * E = a * B * y + c * E * x := by
 rw [show (a * e * y + c * b * x) * B * E = a * B * y * (e * E) + c * E * x * (b * B) by grind, p, q]; grind
theorem zGm {a e y c b x B E : K} (p : b * B = 1) (q : e * E = 1) : (c * b * y - a * e * x) * B * E = c * E * y - a * B * x := by
 rw [show (c * b * y - a * e * x) * B * E = c * E * y * (b * B) - a * B * x * (e * E) by grind, p, q]; grind
theorem fr2 {d a c x y b e B E : K} (p : b * B = 1) (q : e * E = 1) : (b * e + d * a * c * (x * y)) * B * E = 1 + d * (a * B * x) * (c * E * y) := by
 rw [show (b * e + d * a * c * (x * y)) * B * E = b * B * (e * E) + d * (a * B * x) * (c * E * y) by grind, p, q]; grind
theorem zFN {d a c x y b e B E : K} (p : b * B = 1) (q : e * E = 1) : (b * e - d * a * c * (x * y)) * B * E = 1 - d * (a * B * x) * (c * E * y) := by
 rw [show (b * e - d * a * c * (x * y)) * B * E = b * B * (e * E) - d * (a * B * x) * (c * E * y) by grind, p, q]; grind
theorem fr3 {d a c x y b e B E : K} (p : b * B = 1) (q : e * E = 1) : (b * e + d * a * c * (x * y)) * B * E = 1 + d * (x * (a * B)) * (y * (c * E)) := by
 rw [fr2 p q]; grind
theorem zGn {d a c x y b e B E : K} (p : b * B = 1) (q : e * E = 1) : (b * e - d * a * c * (x * y)) * B * E = 1 - d * (x * (a * B)) * (y * (c * E)) := by
 rw [zFN p q]; grind
theorem fr4 {x c b y a e B E : K} (p : b * B = 1) (q : e * E = 1) : (x * c * b + y * a * e) * B * E = x * (c * E) + y * (a * B) := by
 rw [show (x * c * b + y * a * e) * B * E = x * (c * E) * (b * B) + y * (a * B) * (e * E) by grind, p, q]; grind
theorem zGo {x c b y a e B E : K} (p : b * B = 1) (q : e * E = 1) : (y * c * b - x * a * e) * B * E = y * (c * E) - x * (a * B) := by
 rw [show (y * c * b - x * a * e) * B * E = y * (c * E) * (b * B) - x * (a * B) * (e * E) by grind, p, q]; grind
theorem fr6 {u v B E B' E' w z : K} (h : u * v = w * z) : u * B * E * (v * B' * E') = w * B' * E' * (z * B * E) := by
 rw [show u * B * E * (v * B' * E') = u * v * (B * E * B' * E') by grind, h]; grind
theorem zeK : (1 : K) - 0 = 1 := by decide +kernel
theorem fr5 {u v m m' M M' : K} (h : u * m' = v * m) (q : m * M = 1) (q' : m' * M' = 1) : u * M = v * M' := by
 have h1 : u * M = u * m' * M * M' := by rw [show u * m' * M * M' = u * M * (m' * M') by grind, q']; grind
 have h2 : v * M' = v * m * M * M' := by rw [show v * m * M * M' = v * M' * (m * M) by grind, q]; grind
 rw [h1, h2, h]
structure Ed where
 x : K
 y : K
def On (d : K) (P : Ed) : Prop := P.x * P.x + P.y * P.y = 1 + d * (P.x * P.x) * (P.y * P.y)
def znS (d : K) : Prop := ∀ s : K, s * s ≠ d
def tE (d : K) (P Q : Ed) : K := d * (P.x * Q.x) * (P.y * Q.y)
def zbQ (d : K) (P Q : Ed) : Ed := ⟨(P.x * Q.y + P.y * Q.x) * iv (1 + tE d P Q), (P.y * Q.y - P.x * Q.x) * iv (1 - tE d P Q)⟩
def znT (P : Ed) : Ed := ⟨-P.x, P.y⟩
def zfO : Ed := ⟨0, 1⟩
theorem zFO {d : K} (hd : znS d) {P Q : Ed} (hP : On d P) (hQ : On d Q) : tE d P Q * tE d P Q ≠ 1 := by
 obtain ⟨x1, y1⟩ := P
 obtain ⟨x2, y2⟩ := Q
 unfold On tE at *
 dsimp only at *
 intro ht
 generalize hT : d * (x1 * x2) * (y1 * y2) = t at ht
 have hxy : x1 * y1 ≠ 0 := fun e => zhd (by rw [← ht, ← hT]; grind)
 have k1 : (x1 + t * y1) * (x1 + t * y1) = d * ((x1 * y1) * (x2 + y2)) * ((x1 * y1) * (x2 + y2)) := by grind
 have k2 : (x1 - t * y1) * (x1 - t * y1) = d * ((x1 * y1) * (x2 - y2)) * ((x1 * y1) * (x2 - y2)) := by grind
 have key : ∀ a b : K, a * a = d * b * b → b = 0 := by
  intro a b h
  refine Classical.byContradiction fun hb => ?_
  have hi := zbg hb
  refine hd (a * iv b) ?_
  grind
 have z1 := key _ _ k1
 have z2 := key _ _ k2
 have z3 : x2 + y2 = 0 := (zcP z1).resolve_left hxy
 have z4 : x2 - y2 = 0 := (zcP z2).resolve_left hxy
 have z5 : x2 = 0 := by
  have : 2 * x2 = 0 := by grind
  exact (zcP this).resolve_left zhe
 exact zhd (by rw [← ht, ← hT, z5]; grind)
theorem zec {d : K} (hd : znS d) {P Q : Ed} (hP : On d P) (hQ : On d Q) : 1 + tE d P Q ≠ 0 := fun e => zFO hd hP hQ (by grind)
theorem zb7 {d : K} (hd : znS d) {P Q : Ed} (hP : On d P) (hQ : On d Q) : 1 - tE d P Q ≠ 0 := fun e => zFO hd hP hQ (by grind)
theorem zD1 (d : K) : On d zfO := by unfold On zfO; dsimp only; grind
theorem zqF {d : K} {P : Ed} (h : On d P) : On d (znT P) := by unfold On znT at *; dsimp only; grind
theorem znk {d : K} (hd : znS d) {P Q : Ed} (hP : On d P) (hQ : On d Q) : On d (zbQ d P Q) := by
 have p1 := zbg (zec hd hP hQ)
 have p2 := zbg (zb7 hd hP hQ)
 have p1' := zec hd hP hQ
 have p2' := zb7 hd hP hQ
 unfold On zbQ tE at *
 dsimp only
 generalize iv (1 + d * (P.x * Q.x) * (P.y * Q.y)) = B at *
 generalize iv (1 - d * (P.x * Q.x) * (P.y * Q.y)) = E at *
 generalize P.x = x1 at *
 generalize P.y = y1 at *
 generalize Q.x = x2 at *
 generalize Q.y = y2 at *
 have key : ((x1 * y2 + y1 * x2) * (x1 * y2 + y1 * x2)) * ((1 - d * (x1 * x2) * (y1 * y2)) * (1 - d * (x1 * x2) * (y1 * y2))) + ((y1 * y2 - x1 * x2) * (y1 * y2 - x1 * x2)) * ((1 + d * (x1 * x2) * (y1 * y2)) * (1 + d * (x1 * x2) * (y1 * y2))) = ((1 - d * (x1 * x2) * (y1 * y2)) * (1 - d * (x1 * x2) * (y1 * y2))) * ((1 + d * (x1 * x2) * (y1 * y2)) * (1 + d * (x1 * x2) * (y1 * y2))) + d * ((x1 * y2 + y1 * x2) * (x1 * y2 + y1 * x2)) * ((y1 * y2 - x1 * x2) * (y1 * y2 - x1 * x2)) := by grind
 generalize 1 + d * (x1 * x2) * (y1 * y2) = b at *
 generalize 1 - d * (x1 * x2) * (y1 * y2) = e at *
 generalize x1 * y2 + y1 * x2 = a at *
 generalize y1 * y2 - x1 * x2 = c at *
 clear hP hQ
 refine zuY (znR (znR p1' p1') (znR p2' p2')) ?_
 grind
theorem zu2 {d : K} (P Q : Ed) : zbQ d P Q = zbQ d Q P := by
 unfold zbQ tE
 congr 1
 ·congr 1
  ·grind
  ·congr 1
   grind
 ·congr 1
  ·grind
  ·congr 1
   grind
theorem zqG {d : K} (P : Ed) : zbQ d P zfO = P := by
 have h1 : iv (1 : K) = 1 := zBE (by grind)
 unfold zbQ tE zfO
 dsimp only
 have z : d * (P.x * 0) * (P.y * 1) = 0 := by grind
 have z1 : ∀ t : K, t = 0 → 1 + t = 1 := fun t h => by rw [h]; exact Fin.add_zero 1
 have z2 : ∀ t : K, t = 0 → 1 - t = 1 := fun t h => by rw [h]; exact zeK
 rw [z1 _ z, z2 _ z, h1, show (P.x * 1 + P.y * 0) * 1 = P.x by grind, show (P.y * 1 - P.x * 0) * 1 = P.y by grind]
theorem zD2 {d : K} (hd : znS d) {P : Ed} (h : On d P) : zbQ d P (znT P) = zfO := by
 have p1 := zbg (zec hd h (zqF h))
 have p2 := zbg (zb7 hd h (zqF h))
 unfold zbQ zfO
 unfold tE znT On at *
 dsimp only at *
 generalize iv _ = B at *
 generalize iv _ = E at *
 congr 1
 ·grind
 ·grind
theorem zqH {d : K} (hd : znS d) {P Q R : Ed} (hP : On d P) (hQ : On d Q) (hR : On d R) (d0 : d ≠ 0) : zbQ d (zbQ d P Q) R = zbQ d P (zbQ d Q R) := by
 have i0 := zbg d0
 have p1 := zbg (zec hd hP hQ)
 have p2 := zbg (zb7 hd hP hQ)
 have p3 := zbg (zec hd hQ hR)
 have p4 := zbg (zb7 hd hQ hR)
 have q1 := zbg (zec hd (znk hd hP hQ) hR)
 have q2 := zbg (zb7 hd (znk hd hP hQ) hR)
 have q3 := zbg (zec hd hP (znk hd hQ hR))
 have q4 := zbg (zb7 hd hP (znk hd hQ hR))
 rw [show zbQ d (zbQ d P Q) R = ⟨((zbQ d P Q).x * R.y + (zbQ d P Q).y * R.x) * iv (1 + tE d (zbQ d P Q) R), ((zbQ d P Q).y * R.y - (zbQ d P Q).x * R.x) * iv (1 - tE d (zbQ d P Q) R)⟩ from rfl, show zbQ d P (zbQ d Q R) = ⟨(P.x * (zbQ d Q R).y + P.y * (zbQ d Q R).x) * iv (1 + tE d P (zbQ d Q R)), (P.y * (zbQ d Q R).y - P.x * (zbQ d Q R).x) * iv (1 - tE d P (zbQ d Q R))⟩ from rfl]
 unfold On at hP hQ hR
 generalize iv (1 + tE d (zbQ d P Q) R) = M at *
 generalize iv (1 - tE d (zbQ d P Q) R) = N at *
 generalize iv (1 + tE d P (zbQ d Q R)) = M' at *
 generalize iv (1 - tE d P (zbQ d Q R)) = N' at *
 unfold zbQ at *
 dsimp only at *
 unfold tE at *
 dsimp only at *
 generalize P.x = x1 at *
 generalize P.y = y1 at *
 generalize Q.x = x2 at *
 generalize Q.y = y2 at *
 generalize R.x = x3 at *
 generalize R.y = y3 at *
 generalize iv (1 + d * (x1 * x2) * (y1 * y2)) = B at *
 generalize iv (1 - d * (x1 * x2) * (y1 * y2)) = E at *
 generalize iv (1 + d * (x2 * x3) * (y2 * y3)) = B' at *
 generalize iv (1 - d * (x2 * x3) * (y2 * y3)) = E' at *
 generalize iv d = i at *
 have kx := zGj x1 y1 x2 y2 x3 y3 d i i0 hP hQ hR
 have ky := zGk x1 y1 x2 y2 x3 y3 d i i0 hP hQ hR
 clear hP hQ hR i0
 generalize 1 + d * (x1 * x2) * (y1 * y2) = b at *
 generalize 1 - d * (x1 * x2) * (y1 * y2) = e at *
 generalize 1 + d * (x2 * x3) * (y2 * y3) = b' at *
 generalize 1 - d * (x2 * x3) * (y2 * y3) = e' at *
 generalize x1 * y2 + y1 * x2 = a at *
 generalize y1 * y2 - x1 * x2 = c at *
 generalize x2 * y3 + y2 * x3 = a' at *
 generalize y2 * y3 - x2 * x3 = c' at *
 refine (congr (congrArg Ed.mk ?_) ?_)
 ·have g1 := fr6 (B := B) (E := E) (B' := B') (E' := E') kx
  rw [fr1 p1 p2, fr3 p3 p4, fr4 p3 p4, fr2 p1 p2] at g1
  exact fr5 g1 q1 q3
 ·have g1 := fr6 (B := B) (E := E) (B' := B') (E' := E') ky
  rw [zGm p1 p2, zGn p3 p4, zGo p3 p4, zFN p1 p2] at g1
  exact fr5 g1 q2 q4
end
section
attribute [local irreducible] zcN
def zc3 (d : K) (P : Ed) : Nat → Ed
 | 0 => zfO
 | n + 1 => zbQ d (zc3 d P n) P
theorem zeL {d : K} (hd : znS d) {P : Ed} (h : On d P) : ∀ n, On d (zc3 d P n)
 | 0 => zD1 d
 | n + 1 => znk hd (zeL hd h n) h
theorem ziF {d : K} (P : Ed) : zbQ d zfO P = P := by rw [zu2, zqG]
theorem zfa {d : K} (hd : znS d) (d0 : d ≠ 0) {P : Ed} (h : On d P) (m : Nat) : ∀ n, zc3 d P (m + n) = zbQ d (zc3 d P m) (zc3 d P n)
 | 0 => (zqG _).symm
 | n + 1 => by
  rw [← Nat.add_assoc, show zc3 d P (m + n + 1) = zbQ d (zc3 d P (m + n)) P from rfl, zfa hd d0 h m n, show zc3 d P (n + 1) = zbQ d (zc3 d P n) P from rfl]
  exact zqH hd (zeL hd h m) (zeL hd h n) h d0
theorem zhG {d : K} (hd : znS d) (d0 : d ≠ 0) {P : Ed} (h : On d P) (m : Nat) : ∀ n, zc3 d (zc3 d P m) n = zc3 d P (m * n)
 | 0 => rfl
 | n + 1 => by
  rw [show zc3 d (zc3 d P m) (n + 1) = zbQ d (zc3 d (zc3 d P m) n) (zc3 d P m) from rfl, zhG hd d0 h m n, Nat.mul_succ, zfa hd d0 h]
theorem zyc {d : K} (hd : znS d) (d0 : d ≠ 0) {P : Ed} (h : On d P) (n : Nat) : zbQ d (zc3 d P (n + 1)) (znT (zc3 d P n)) = P := by
 rw [show zc3 d P (n + 1) = zbQ d (zc3 d P n) P from rfl, zu2 (zc3 d P n) P, zqH hd h (zeL hd h n) (zqF (zeL hd h n)) d0, zD2 hd (zeL hd h n), zqG]
theorem zoJ {d : K} : ∀ n, zc3 d zfO n = zfO
 | 0 => rfl
 | n + 1 => by rw [show zc3 d zfO (n + 1) = zbQ d (zc3 d zfO n) zfO from rfl, zoJ n, zqG]
def zhp : Ed := ⟨0, -1⟩
theorem znm {d : K} : zbQ d zhp zhp = zfO := by
 have h1 : iv (1 : K) = 1 := zBE (by grind)
 unfold zbQ tE zhp zfO
 dsimp only
 have z : d * (0 * 0) * (-1 * -1) = (0 : K) := by grind
 have z1 : (1 : K) + 0 = 1 := Fin.add_zero 1
 rw [z, z1, zeK, h1]
 congr 1 <;> decide +kernel
theorem zqI {d : K} : ∀ n, zc3 d zhp n = zfO ∨ zc3 d zhp n = zhp
 | 0 => .inl rfl
 | n + 1 => by
  rw [show zc3 d zhp (n + 1) = zbQ d (zc3 d zhp n) zhp from rfl]
  rcases zqI (d := d) n with h | h
  ·rw [h, ziF]; exact .inr rfl
  ·rw [h, znm]; exact .inl rfl
def cB : K := toK 121665
theorem zD3 : cA = 4 * cB + 2 := by decide +kernel
structure Cv (d e : K) : Prop where
 free : znS d
 nz : d ≠ 0
 way : e = 1 ∧ d * (cB + 1) = cB ∨ e = -1 ∧ d * cB = cB + 1
def Rep (e X Z : K) (P : Ed) : Prop := X * (1 - P.y) = e * Z * (1 + P.y) ∧ ¬(X = 0 ∧ Z = 0)
theorem zFp : (2 : K) * iv 2 = 1 := zbg zhe
theorem zoK {e X Z : K} {P : Ed} (he : e * e = 1) (h : Rep e X Z P) : ∃ l : K, l ≠ 0 ∧ X = e * l * (1 + P.y) ∧ Z = l * (1 - P.y) := by
 obtain ⟨h1, h2⟩ := h
 have h3 := zFp
 generalize iv (2 : K) = t at h3
 have a1 : X = e * ((e * X + Z) * t) * (1 + P.y) := by
  generalize P.y = y at *
  grind
 have a2 : Z = (e * X + Z) * t * (1 - P.y) := by
  generalize P.y = y at *
  grind
 refine ⟨_, fun e0 => h2 ?_, a1, a2⟩
 rw [e0] at a1 a2
 exact ⟨by rw [a1]; grind, by rw [a2]; grind⟩
theorem ee {d e : K} (h : Cv d e) : e * e = 1 := by rcases h.way with ⟨h1, _⟩ | ⟨h1, _⟩ <;> rw [h1] <;> decide +kernel
theorem zyd {d y x c : K} (hd : d * (c + 1) = c) (h : x * x + y * y = 1 + d * (x * x) * (y * y)) : (1 - x * x) * (1 + c * (1 - y * y)) = y * y := by grind
theorem zye {d y x c : K} (hd : d * c = c + 1) (h : x * x + y * y = 1 + d * (x * x) * (y * y)) : (1 - x * x) * (c - (c + 1) * (y * y)) = -(y * y) := by grind
theorem zFq {d : K} {P : Ed} (hd : znS d) (h : On d P) : ∃ q : K, q ≠ 0 ∧ q * (1 - (zbQ d P P).y) = 2 - 2 * (P.y * P.y) ∧ q * (1 + (zbQ d P P).y) = 2 - 2 * (P.x * P.x) := by
 have p2 := zbg (zb7 hd h h)
 have p2' := zb7 hd h h
 refine ⟨_, p2', ?_, ?_⟩
 ·unfold zbQ
  unfold tE On at *
  dsimp only at *
  generalize iv _ = E at *
  generalize P.x = x at *
  generalize P.y = y at *
  rw [show (1 - d * (x * x) * (y * y)) * (1 - (y * y - x * x) * E) = (1 - d * (x * x) * (y * y)) - (y * y - x * x) * ((1 - d * (x * x) * (y * y)) * E) by clear h p2 p2'; grind, p2]
  clear p2 p2'
  grind
 ·unfold zbQ
  unfold tE On at *
  dsimp only at *
  generalize iv _ = E at *
  generalize P.x = x at *
  generalize P.y = y at *
  rw [show (1 - d * (x * x) * (y * y)) * (1 + (y * y - x * x) * E) = (1 - d * (x * x) * (y * y)) + (y * y - x * x) * ((1 - d * (x * x) * (y * y)) * E) by clear h p2 p2'; grind, p2]
  clear p2 p2'
  grind
theorem zcu {a b c : K} (h : c ≠ 0) (e : c * a = c * b) : a = b := zuY h (by rw [show a * c = c * a by grind, e]; grind)
theorem zjv : (16 : K) ≠ 0 := fun h => absurd (congrArg Fin.val h) (by decide +kernel)
theorem zFr : cB ≠ 0 := fun h => absurd (congrArg Fin.val h) (by decide +kernel)
theorem zD4 : cB + 1 ≠ 0 := fun h => absurd (congrArg Fin.val h) (by decide +kernel)
theorem zBH {d e X Z : K} {P : Ed} (hc : Cv d e) (hP : On d P) (h : Rep e X Z P) :
  Rep e (((X + Z) * (X + Z)) * ((X - Z) * (X - Z))) (((X + Z) * (X + Z) - (X - Z) * (X - Z)) * ((X + Z) * (X + Z) + cB * ((X + Z) * (X + Z) - (X - Z) * (X - Z)))) (zbQ d P P) := by
 obtain ⟨l, hl, e1, e2⟩ := zoK (ee hc) h
 obtain ⟨q, hq, k1, k2⟩ := zFq hc.free hP
 clear h
 unfold Rep
 have c0 := zFr
 have c1 := zD4
 have w := hc.way
 generalize cB = c at *
 generalize (zbQ d P P).y = Y at *
 unfold On at hP
 generalize P.x = x at *
 generalize P.y = y at *
 have l4 : 16 * (l * l * l * l) ≠ 0 := znR zjv (znR (znR (znR hl hl) hl) hl)
 subst e1 e2
 rcases w with ⟨he, hd⟩ | ⟨he, hd⟩
 ·subst he
  have k3 := zyd hd hP
  have g1 : (1 * l * (1 + y) + l * (1 - y)) * (1 * l * (1 + y) + l * (1 - y)) = 4 * (l * l) := by clear k1 k2 k3 hP hd; grind
  have g2 : (1 * l * (1 + y) - l * (1 - y)) * (1 * l * (1 + y) - l * (1 - y)) = 4 * (l * l) * (y * y) := by clear k1 k2 k3 hP hd; grind
  rw [g1, g2]
  clear g1 g2
  have g3 : 4 * (l * l) * (4 * (l * l) * (y * y)) = 16 * (l * l * l * l) * (y * y) := by clear k1 k2 k3 hP hd; grind
  have g4 : (4 * (l * l) - 4 * (l * l) * (y * y)) * (4 * (l * l) + c * (4 * (l * l) - 4 * (l * l) * (y * y))) = 16 * (l * l * l * l) * ((1 - y * y) * (1 + c * (1 - y * y))) := by clear k1 k2 k3 hP hd; grind
  rw [g3, g4]
  clear g3 g4
  generalize 16 * (l * l * l * l) = m at *
  refine ⟨zcu hq ?_, fun ⟨z1, z2⟩ => ?_⟩
  ·rw [show q * (m * (y * y) * (1 - Y)) = m * (y * y) * (q * (1 - Y)) by clear k1 k2 k3 hP hd; grind, show q * (1 * (m * ((1 - y * y) * (1 + c * (1 - y * y)))) * (1 + Y)) = m * ((1 - y * y) * (1 + c * (1 - y * y))) * (q * (1 + Y)) by clear k1 k2 k3 hP hd; grind, k1, k2, show m * ((1 - y * y) * (1 + c * (1 - y * y))) * (2 - 2 * (x * x)) = m * (2 - 2 * (y * y)) * ((1 - x * x) * (1 + c * (1 - y * y))) by clear k1 k2 k3 hP hd; grind, k3]
   clear k1 k2 k3 hP hd
   grind
  ·have z3 := (zcP z1).resolve_left l4
   have z4 := (zcP z2).resolve_left l4
   rw [z3] at z4
   exact c1 (by clear k1 k2 k3 hP hd; grind)
 ·subst he
  have k3 := zye hd hP
  have g1 : (-1 * l * (1 + y) + l * (1 - y)) * (-1 * l * (1 + y) + l * (1 - y)) = 4 * (l * l) * (y * y) := by clear k1 k2 k3 hP hd; grind
  have g2 : (-1 * l * (1 + y) - l * (1 - y)) * (-1 * l * (1 + y) - l * (1 - y)) = 4 * (l * l) := by clear k1 k2 k3 hP hd; grind
  rw [g1, g2]
  clear g1 g2
  have g3 : 4 * (l * l) * (y * y) * (4 * (l * l)) = 16 * (l * l * l * l) * (y * y) := by clear k1 k2 k3 hP hd; grind
  have g4 : (4 * (l * l) * (y * y) - 4 * (l * l)) * (4 * (l * l) * (y * y) + c * (4 * (l * l) * (y * y) - 4 * (l * l))) = 16 * (l * l * l * l) * ((1 - y * y) * (c - (c + 1) * (y * y))) := by clear k1 k2 k3 hP hd; grind
  rw [g3, g4]
  clear g3 g4
  generalize 16 * (l * l * l * l) = m at *
  refine ⟨zcu hq ?_, fun ⟨z1, z2⟩ => ?_⟩
  ·rw [show q * (m * (y * y) * (1 - Y)) = m * (y * y) * (q * (1 - Y)) by clear k1 k2 k3 hP hd; grind, show q * (-1 * (m * ((1 - y * y) * (c - (c + 1) * (y * y)))) * (1 + Y)) = -(m * ((1 - y * y) * (c - (c + 1) * (y * y))) * (q * (1 + Y))) by clear k1 k2 k3 hP hd; grind, k1, k2, show m * ((1 - y * y) * (c - (c + 1) * (y * y))) * (2 - 2 * (x * x)) = m * (2 - 2 * (y * y)) * ((1 - x * x) * (c - (c + 1) * (y * y))) by clear k1 k2 k3 hP hd; grind, k3]
   clear k1 k2 k3 hP hd
   grind
  ·have z3 := (zcP z1).resolve_left l4
   have z4 := (zcP z2).resolve_left l4
   rw [z3] at z4
   exact c0 (by clear k1 k2 k3 hP hd; grind)
theorem zFs {d : K} {P Q : Ed} (hd : znS d) (hP : On d P) (hQ : On d Q) : (P.y + Q.y) * (P.y + Q.y) * ((1 - (zbQ d P Q).y) * (1 - (zbQ d P (znT Q)).y)) = (P.y - Q.y) * (P.y - Q.y) * ((1 + (zbQ d P Q).y) * (1 + (zbQ d P (znT Q)).y)) := by
 have p1 := zbg (zec hd hP hQ)
 have p2 := zbg (zb7 hd hP hQ)
 have p3 := zbg (zb7 hd hP (zqF hQ))
 have p1' := zec hd hP hQ
 have p2' := zb7 hd hP hQ
 unfold zbQ
 unfold tE znT On at *
 dsimp only at *
 have t1 : 1 - d * (P.x * -Q.x) * (P.y * Q.y) = 1 + d * (P.x * Q.x) * (P.y * Q.y) := by clear p1 p2 p3 hP hQ p1' p2'; grind
 rw [t1] at p3 ⊢
 clear p3 t1
 generalize iv (1 + d * (P.x * Q.x) * (P.y * Q.y)) = B at *
 generalize iv (1 - d * (P.x * Q.x) * (P.y * Q.y)) = E at *
 generalize P.x = x1 at *
 generalize P.y = y1 at *
 generalize Q.x = x2 at *
 generalize Q.y = y2 at *
 have key : (y1 + y2) * (y1 + y2) * ((1 - d * (x1 * x2) * (y1 * y2) - (y1 * y2 - x1 * x2)) * (1 + d * (x1 * x2) * (y1 * y2) - (y1 * y2 + x1 * x2))) = (y1 - y2) * (y1 - y2) * ((1 - d * (x1 * x2) * (y1 * y2) + (y1 * y2 - x1 * x2)) * (1 + d * (x1 * x2) * (y1 * y2) + (y1 * y2 + x1 * x2))) := by clear p1 p2 p1' p2'; grind
 generalize 1 + d * (x1 * x2) * (y1 * y2) = b at *
 generalize 1 - d * (x1 * x2) * (y1 * y2) = q at *
 clear hP hQ
 rw [show y1 * y2 - x1 * -x2 = y1 * y2 + x1 * x2 by clear p1 p2 key p1' p2'; grind]
 generalize y1 * y2 - x1 * x2 = s at *
 generalize y1 * y2 + x1 * x2 = r at *
 have m1 : q * (1 - s * E) = q - s := by clear p1 key p1' p2'; grind
 have m2 : q * (1 + s * E) = q + s := by clear p1 key p1' p2'; grind
 have m3 : b * (1 - r * B) = b - r := by clear p2 key p1' p2'; grind
 have m4 : b * (1 + r * B) = b + r := by clear p2 key p1' p2'; grind
 clear p1 p2
 generalize 1 - s * E = u1 at *
 generalize 1 + s * E = u2 at *
 generalize 1 - r * B = u3 at *
 generalize 1 + r * B = u4 at *
 refine zcu (znR p2' p1') ?_
 rw [show q * b * ((y1 + y2) * (y1 + y2) * (u1 * u3)) = (y1 + y2) * (y1 + y2) * ((q * u1) * (b * u3)) by clear key m1 m2 m3 m4 p1' p2'; grind, show q * b * ((y1 - y2) * (y1 - y2) * (u2 * u4)) = (y1 - y2) * (y1 - y2) * ((q * u2) * (b * u4)) by clear key m1 m2 m3 m4 p1' p2'; grind, m1, m2, m3, m4]
 exact key
theorem zqJ {d x1 y1 : K} (h : x1 * x1 + y1 * y1 = 1 + d * (x1 * x1) * (y1 * y1)) (hy : y1 = 0) : x1 * x1 = 1 := by
 have h1 : x1 * x1 = (x1 * x1 + y1 * y1) - y1 * y1 := by clear h hy; grind
 rw [h1, h, hy]
 clear h h1
 have h2 : ∀ t : K, 1 + t * (0 * 0) - 0 * 0 = 1 := fun t => by
  have z : t * (0 * 0) = 0 := by grind
  rw [z]
  decide +kernel
 exact h2 _
theorem zyf {d : K} {P Q : Ed} (hP : On d P) (hQ : On d Q) (h1 : P.y = 0) (h2 : Q.y = 0) : (zbQ d P (znT Q)).y * (zbQ d P (znT Q)).y = 1 := by
 have e1 := zqJ hP h1
 have e2 := zqJ hQ h2
 have i1 : iv (1 : K) = 1 := zBE (by grind)
 unfold zbQ tE znT
 dsimp only
 rw [h1, h2, show d * (P.x * -Q.x) * (0 * 0) = 0 by clear e1 e2 hP hQ h1 h2; grind, zeK, i1]
 generalize P.x = x1 at *
 generalize Q.x = x2 at *
 rw [show (0 * 0 - x1 * -x2) * 1 * ((0 * 0 - x1 * -x2) * 1) = (x1 * x1) * (x2 * x2) by clear e1 e2 hP hQ h1 h2; grind, e1, e2]
 decide +kernel
theorem zBI {d e X1 Z1 X2 Z2 u : K} {P Q : Ed} (hc : Cv d e) (hP : On d P) (hQ : On d Q) (h1 : Rep e X1 Z1 P) (h2 : Rep e X2 Z2 Q)
  (hu : u * (1 - (zbQ d P (znT Q)).y) = e * (1 + (zbQ d P (znT Q)).y)) (hu0 : u ≠ 0) :
  Rep e (((X2 - Z2) * (X1 + Z1) + (X2 + Z2) * (X1 - Z1)) * ((X2 - Z2) * (X1 + Z1) + (X2 + Z2) * (X1 - Z1))) (u * (((X2 - Z2) * (X1 + Z1) - (X2 + Z2) * (X1 - Z1)) * ((X2 - Z2) * (X1 + Z1) - (X2 + Z2) * (X1 - Z1)))) (zbQ d P Q) := by
 obtain ⟨l, hl, a1, a2⟩ := zoK (ee hc) h1
 obtain ⟨m, hm, b1, b2⟩ := zoK (ee hc) h2
 have k := zFs hc.free hP hQ
 have dn := zyf hP hQ
 have he := ee hc
 clear h1 h2
 unfold Rep
 have w : e = 1 ∨ e = -1 := zhF he
 generalize (zbQ d P Q).y = S at *
 generalize (zbQ d P (znT Q)).y = D at *
 clear hP hQ hc
 generalize P.y = y1 at *
 generalize Q.y = y2 at *
 have n0 : 16 * (l * l) * (m * m) ≠ 0 := znR (znR zjv (znR hl hl)) (znR hm hm)
 have v0 : 1 - D ≠ 0 := fun z => zhe (by
  have z2 : e * (1 + D) = 0 := by rw [← hu, z]; clear dn k hu; grind
  have z3 : 1 + D = e * (e * (1 + D)) := by rw [show e * (e * (1 + D)) = e * e * (1 + D) by clear dn k hu z z2 he; grind, he]; clear dn k hu z z2 he; grind
  rw [z2] at z3
  clear dn k hu z2 he
  grind)
 have g : ((X2 - Z2) * (X1 + Z1) + (X2 + Z2) * (X1 - Z1)) * ((X2 - Z2) * (X1 + Z1) + (X2 + Z2) * (X1 - Z1)) = 16 * (l * l) * (m * m) * ((y1 + y2) * (y1 + y2)) ∧ ((X2 - Z2) * (X1 + Z1) - (X2 + Z2) * (X1 - Z1)) * ((X2 - Z2) * (X1 + Z1) - (X2 + Z2) * (X1 - Z1)) = 16 * (l * l) * (m * m) * ((y1 - y2) * (y1 - y2)) := by
  clear dn k hu v0 n0 hu0 he
  subst a1 a2 b1 b2
  rcases w with w | w <;> subst w <;> constructor <;> grind
 rw [g.1, g.2]
 clear g a1 a2 b1 b2
 generalize 16 * (l * l) * (m * m) = n at *
 refine ⟨zcu v0 ?_, fun ⟨z1, z2⟩ => ?_⟩
 ·rw [show (1 - D) * (n * ((y1 + y2) * (y1 + y2)) * (1 - S)) = n * ((y1 + y2) * (y1 + y2) * ((1 - S) * (1 - D))) by clear dn k hu v0 n0 hu0 he; grind, k, show (1 - D) * (e * (u * (n * ((y1 - y2) * (y1 - y2)))) * (1 + S)) = e * (u * (1 - D)) * (n * ((y1 - y2) * (y1 - y2)) * (1 + S)) by clear dn k hu v0 n0 hu0 he; grind, hu, show e * (e * (1 + D)) * (n * ((y1 - y2) * (y1 - y2)) * (1 + S)) = e * e * ((1 + D) * (n * ((y1 - y2) * (y1 - y2)) * (1 + S))) by clear dn k hu v0 n0 hu0 he; grind, he]
  clear dn k hu v0 n0 hu0 he
  grind
 ·have s1 : y1 + y2 = 0 := by
   have := (zcP z1).resolve_left n0
   rcases zcP this with h | h <;> exact h
  have s2 : y1 - y2 = 0 := by
   have := (zcP ((zcP z2).resolve_left hu0)).resolve_left n0
   rcases zcP this with h | h <;> exact h
  have s3 : y1 = 0 := by
   have : 2 * y1 = 0 := by clear dn k hu z1 z2 he w; grind
   exact (zcP this).resolve_left zhe
  have s4 : y2 = 0 := by
   have : 2 * y2 = 0 := by clear dn k hu z1 z2 he w; grind
   exact (zcP this).resolve_left zhe
  rcases zhF (dn s3 s4) with h | h
  ·exact v0 (by rw [h]; decide +kernel)
  ·rw [h] at hu
   have : u * 2 = 0 := by
    have e1 : u * 2 = u * (1 - -1) := by clear hu k dn he; grind
    rw [e1, hu]
    clear hu k dn he
    grind
   exact (zcP this).elim hu0 zhe
def zrJ (e : K) (q : Pt) (P : Ed) : Prop := Rep e (toK q.x) (toK q.z) P
theorem zqK {d e : K} {q : Pt} {P : Ed} (hc : Cv d e) (hP : On d P) (hq : zfN q) (h : zrJ e q P) : zrJ e (znO q) (zbQ d P P) := by
 unfold zrJ at *
 have := zBH hc hP h
 unfold znO zxx
 dsimp only
 simp only [zqA, zuX, zhc _ _ hq.2, zhc _ _ (zc9 _ _)]
 exact this
theorem zyg {d e : K} {q s : Pt} {u : Nat} {P Q : Ed} (hc : Cv d e) (hP : On d P) (hQ : On d Q) (hq : zfN q) (hs : zfN s) (h1 : zrJ e q P) (h2 : zrJ e s Q)
  (hu : toK u * (1 - (zbQ d P (znT Q)).y) = e * (1 + (zbQ d P (znT Q)).y)) (hu0 : toK u ≠ 0) : zrJ e (zks u q s) (zbQ d P Q) := by
 unfold zrJ at *
 have := zBI hc hP hQ h1 h2 hu hu0
 unfold zks zor zos
 dsimp only
 simp only [zqA, zuX, zhc _ _ hq.2, zhc _ _ hs.2, zhc _ _ (zc9 _ _)]
 exact this
theorem zu3 {e : K} {q s : Pt} {u : Nat} {P : Ed} (hq : zfN q) (hs : zfN s) (h : zrJ e (zks u q s) P) : zrJ e (zks u s q) P := by
 unfold zrJ zks zor zos at *
 dsimp only at *
 simp only [zqA, zuX, zhc _ _ hq.2, zhc _ _ hs.2, zhc _ _ (zc9 _ _)] at *
 generalize toK q.x = a at *
 generalize toK q.z = b at *
 generalize toK s.x = c at *
 generalize toK s.z = f at *
 rw [show ((a - b) * (c + f) + (a + b) * (c - f)) * ((a - b) * (c + f) + (a + b) * (c - f)) = ((c - f) * (a + b) + (c + f) * (a - b)) * ((c - f) * (a + b) + (c + f) * (a - b)) by clear h; grind, show ((a - b) * (c + f) - (a + b) * (c - f)) * ((a - b) * (c + f) - (a + b) * (c - f)) = ((c - f) * (a + b) - (c + f) * (a - b)) * ((c - f) * (a + b) - (c + f) * (a - b)) by clear h; grind]
 exact h
def zfP (k : Nat → Nat) : Nat → Nat
 | 0 => 0
 | n + 1 => 2 * zfP k n + zei k n
theorem zoL {d e : K} {P : Ed} {u : Nat} (hc : Cv d e) (hP : On d P) (hu : u < pN) (hu0 : toK u ≠ 0) (hq : toK u * (1 - P.y) = e * (1 + P.y)) (k : Nat → Nat) :
  ∀ n, zrJ e (zdP u k n).1 (zc3 d P (zfP k n)) ∧ zrJ e (zdP u k n).2 (zc3 d P (zfP k n + 1))
 | 0 => by
  refine ⟨⟨?_, ?_⟩, ⟨?_, ?_⟩⟩
  ·show toK 1 * (1 - 1) = e * toK 0 * (1 + 1)
   rw [zgv, show (1 : K) - 1 = 0 by decide +kernel, Fin.mul_zero, Fin.mul_zero, Fin.zero_mul]
  ·rintro ⟨h, _⟩
   exact zhd (ziE.symm.trans h)
  ·rw [show zc3 d P (zfP k 0 + 1) = zbQ d zfO P from rfl, ziF]
   show toK u * (1 - P.y) = e * toK 1 * (1 + P.y)
   rw [hq, ziE]
   clear hq
   generalize P.y = y
   grind
  ·rintro ⟨_, h⟩
   exact zhd (ziE.symm.trans h)
 | n + 1 => by
  have ih := zoL hc hP hu hu0 hq k n
  have ok := zmT u hu k n
  have o1 := zeL hc.free hP (zfP k n)
  have o2 := zeL hc.free hP (zfP k n + 1)
  have hD := zyc hc.free hc.nz hP (zfP k n)
  have hs : zrJ e (zks u (zdP u k n).2 (zdP u k n).1) (zc3 d P (2 * zfP k n + 1)) := by
   have := zyg (u := u) hc o2 o1 ok.2 ok.1 ih.2 ih.1 (by rw [hD]; exact hq) hu0
   rwa [← zfa hc.free hc.nz hP, show zfP k n + 1 + zfP k n = 2 * zfP k n + 1 by omega] at this
  rw [show zdP u k (n + 1) = zgo u (zei k n) (zdP u k n).1 (zdP u k n).2 from rfl, show zfP k (n + 1) = 2 * zfP k n + zei k n from rfl]
  unfold zgo
  rcases zgQ k n with hb | hb
  ·rw [hb, if_neg (by omega), Nat.add_zero]
   refine ⟨?_, zu3 ok.2 ok.1 hs⟩
   have := zqK hc o1 ok.1 ih.1
   rwa [← zfa hc.free hc.nz hP, show zfP k n + zfP k n = 2 * zfP k n by omega] at this
  ·rw [hb, if_pos rfl]
   refine ⟨hs, ?_⟩
   have := zqK hc o2 ok.2 ih.2
   rwa [← zfa hc.free hc.nz hP, show zfP k n + 1 + (zfP k n + 1) = 2 * zfP k n + 1 + 1 by omega] at this
def zwg (e Y : K) : K := if Y = 1 then 0 else e * (1 + Y) * iv (1 - Y)
theorem zqL {Y : K} (h : Y ≠ 1) : 1 - Y ≠ 0 := fun e => h (by grind)
theorem zBJ {d e X Z : K} {P : Ed} (hc : Cv d e) (h : Rep e X Z P) : X * iv Z = zwg e P.y := by
 obtain ⟨h1, h2⟩ := h
 have he := ee hc
 unfold zwg
 generalize P.y = Y at *
 by_cases hY : Y = 1
 ·rw [if_pos hY]
  have hZ : Z = 0 := by
   have : e * (Z * 2) = 0 := by
    have e1 : e * (Z * 2) = e * Z * (1 + 1) := by clear h1 he; grind
    rw [e1]
    rw [hY] at h1
    rw [← h1]
    clear h1 he
    grind
   have e0 : e ≠ 0 := fun z => by rw [z] at he; exact zhd (by rw [← he]; decide +kernel)
   exact (zcP ((zcP this).resolve_left e0)).resolve_right zhe
  rw [hZ, zBD]
  clear h1 he
  grind
 ·rw [if_neg hY]
  have hv := zbg (zqL hY)
  have hZ : Z ≠ 0 := fun z => h2 ⟨by
   rw [z] at h1
   have : X * (1 - Y) = 0 := by rw [h1]; clear h1 he hv; grind
   exact (zcP this).resolve_right (zqL hY), z⟩
  have hz := zbg hZ
  generalize iv Z = z' at *
  generalize iv (1 - Y) = w at *
  have e1 : X * z' = X * (1 - Y) * w * z' := by rw [show X * (1 - Y) * w * z' = X * z' * ((1 - Y) * w) by clear h1 he hv hz; grind, hv]; clear h1 he hv hz; grind
  rw [e1, h1, show e * Z * (1 + Y) * w * z' = e * (1 + Y) * w * (Z * z') by clear h1 he hv hz e1; grind, hz]
  clear h1 he hv hz e1
  grind
def zoM (k : Nat → Nat) : Nat := zfP (zbe k) 255
theorem zqM {d e : K} {P : Ed} {u : Nat} (hc : Cv d e) (hP : On d P) (hu : u < pN) (hu0 : toK u ≠ 0) (hq : toK u * (1 - P.y) = e * (1 + P.y)) (k : Nat → Nat) :
  toK (zdu k u) = zwg e (zc3 d P (zoM k)).y := by
 have h := (zoL hc hP hu hu0 hq (zbe k) 255).1
 have ok := (zmT u hu (zbe k) 255).1
 show toK (zdu k u) = zwg e (zc3 d P (zfP (zbe k) 255)).y
 rw [← zBJ hc h]
 unfold zdu
 rw [zqA]
 unfold iv
 rw [zfJ, Nat.mod_eq_of_lt ok.2]
theorem zBK {d x y : K} (hf : znS d) (h : x * x + y * y = 1 + d * (x * x) * (y * y)) (hy : y * y = 1) : x = 0 := by
 have h1 : (x * x) * (1 - d) = 0 := by
  rw [hy] at h
  clear hy
  grind
 have h2 : 1 - d ≠ 0 := fun z => hf 1 (by clear h hy h1; grind)
 have := (zcP h1).resolve_right h2
 rcases zcP this with h | h <;> exact h
theorem zu4 {d e : K} {P : Ed} (hc : Cv d e) (hP : On d P) (h : zwg e P.y = 0) : P = zfO ∨ P = zhp := by
 have he := ee hc
 obtain ⟨x, y⟩ := P
 unfold On at hP
 unfold zwg at h
 dsimp only at h hP
 by_cases hY : y = 1
 ·subst hY
  have := zBK hc.free hP (by decide +kernel)
  subst this
  exact .inl rfl
 ·rw [if_neg hY] at h
  have e0 : e ≠ 0 := fun z => by rw [z] at he; exact zhd (by rw [← he]; decide +kernel)
  have h1 := (zcP ((zcP h).resolve_right (zFn (zqL hY)))).resolve_left e0
  have h2 : y = -1 := by clear h hP he; grind
  subst h2
  have := zBK hc.free hP (by decide +kernel)
  subst this
  exact .inr rfl
theorem zD5 {e : K} {P : Ed} (h : P = zfO ∨ P = zhp) : zwg e P.y = 0 := by
 rcases h with h | h <;> subst h
 ·exact if_pos rfl
 ·have : zhp.y ≠ 1 := zqD
  unfold zwg
  rw [if_neg this]
  show e * (1 + -1) * _ = 0
  generalize iv _ = w
  have : (1 + -1 : K) = 0 := by decide +kernel
  rw [this]
  grind
theorem zyh {d e : K} {P : Ed} {u : Nat} (hc : Cv d e) (hP : On d P) (hu : u < pN) (hu0 : toK u ≠ 0) (hq : toK u * (1 - P.y) = e * (1 + P.y)) (a b : Nat → Nat) :
  toK (zdu a (zdu b u)) = zwg e (zc3 d P (zoM b * zoM a)).y := by
 have h := zqM hc hP hu hu0 hq b
 have hlt : zdu b u < pN := zc9 _ _
 have oB := zeL hc.free hP (zoM b)
 rw [← zhG hc.free hc.nz hP]
 by_cases h0 : toK (zdu b u) = 0
 ·have hz : zdu b u = 0 := by
   have := congrArg Fin.val h0
   rw [zfJ, Nat.mod_eq_of_lt hlt] at this
   exact this
  rw [hz, zm5, zgv]
  have hn := zu4 hc oB (h.symm.trans h0)
  refine (zD5 ?_).symm
  rcases hn with hn | hn <;> rw [hn]
  ·exact .inl (zoJ _)
  ·exact zqI _
 ·refine zqM hc oB hlt h0 ?_ a
  rw [h] at h0 ⊢
  generalize (zc3 d P (zoM b)).y = Y at *
  unfold zwg at *
  by_cases hY : Y = 1
  ·rw [if_pos hY] at h0
   exact absurd rfl h0
  ·rw [if_neg hY] at h0 ⊢
   have hv := zbg (zqL hY)
   generalize iv (1 - Y) = w at *
   rw [show e * (1 + Y) * w * (1 - Y) = e * (1 + Y) * ((1 - Y) * w) by clear h hv h0 hq; grind, hv]
   clear h hv h0 hq
   grind
theorem zyi {d : K} (h : d * (cA + 2) = cA - 2) : znS d := fun s hs => zBG (s * (cA + 2)) (by
 rw [show s * (cA + 2) * (s * (cA + 2)) = s * s * (cA + 2) * (cA + 2) by clear h; grind, hs, h])
theorem zyj {d : K} (h : d * (cA - 2) = cA + 2) : znS d := fun s hs => zBG (s * (cA - 2)) (by
 rw [show s * (cA - 2) * (s * (cA - 2)) = s * s * (cA - 2) * (cA - 2) by clear h; grind, hs, h]
 clear h
 generalize cA = c
 grind)
def zCB : K := (cA - 2) * iv (cA + 2)
def zCC : K := (cA + 2) * iv (cA - 2)
theorem zkN : zCB * (cA + 2) = cA - 2 := by
 unfold zCB
 have h := zbg zkL
 rw [show (cA - 2) * iv (cA + 2) * (cA + 2) = (cA - 2) * ((cA + 2) * iv (cA + 2)) by clear h; grind, h]
 clear h
 grind
theorem zkO : zCC * (cA - 2) = cA + 2 := by
 unfold zCC
 have h := zbg zkM
 rw [show (cA + 2) * iv (cA - 2) * (cA - 2) = (cA + 2) * ((cA - 2) * iv (cA - 2)) by clear h; grind, h]
 clear h
 grind
theorem zu5 : (4 : K) ≠ 0 := fun h => absurd (congrArg Fin.val h) (by decide +kernel)
theorem zD6 : Cv zCB 1 where
 free := zyi zkN
 nz := fun h => zkM (by rw [← zkN, h, Fin.zero_mul])
 way := .inl ⟨rfl, by
  have h := zkN
  rw [zD3] at h
  generalize zCB = d at *
  generalize cB = c at *
  refine zcu zu5 ?_
  grind⟩
theorem zD7 : Cv zCC (-1) where
 free := zyj zkO
 nz := fun h => zkL (by rw [← zkO, h, Fin.zero_mul])
 way := .inr ⟨rfl, by
  have h := zkO
  rw [zD3] at h
  generalize zCC = d at *
  generalize cB = c at *
  refine zcu zu5 ?_
  grind⟩
theorem zBL (u : K) : u * u + cA * u + 1 ≠ 0 := fun h => zBG (2 * u + cA) (by
 generalize cA = c at *
 grind)
theorem zyk {u : K} (h0 : u ≠ 0) : ∃ d e : K, ∃ P : Ed, Cv d e ∧ On d P ∧ u * (1 - P.y) = e * (1 + P.y) := by
 have hq := zBL u
 have hQ := zbg hq
 have w0 : u * (u * u + cA * u + 1) ≠ 0 := znR h0 hq
 rcases zqC w0 with hw | hw
 ·obtain ⟨r, hr⟩ := zu0 hw
  have hu : u + 1 ≠ 0 := fun z => by
   have hz : u = -1 := by clear hw hQ hr; grind
   have e1 : u * (u * u + cA * u + 1) = cA - 2 := by rw [hz]; clear hw hQ hr hz z; generalize cA = c; grind
   rw [e1, zkK] at hw
   exact zqD hw
  have hU := zbg hu
  have hs := zD0
  have hd := zkN
  refine ⟨zCB, 1, ⟨cS * r * iv (u * u + cA * u + 1), (u - 1) * iv (u + 1)⟩, zD6, ?_, ?_⟩
  ·unfold On
   dsimp only
   generalize iv (u + 1) = V at *
   generalize cS = s at *
   generalize zCB = d at *
   have hx : s * r * iv (u * u + cA * u + 1) * (s * r * iv (u * u + cA * u + 1)) = (cA + 2) * u * iv (u * u + cA * u + 1) := by
    generalize iv (u * u + cA * u + 1) = W at *
    rw [show s * r * W * (s * r * W) = s * s * (r * r) * W * W by clear hw hQ hU hs hr hd; grind, hs, hr, show (cA + 2) * (u * (u * u + cA * u + 1)) * W * W = (cA + 2) * u * W * ((u * u + cA * u + 1) * W) by clear hw hQ hU hs hr hd; generalize cA = c; grind, hQ]
    clear hw hQ hU hs hr hd
    grind
   rw [hx]
   have hW : u * u + cA * u + 1 ≠ 0 := hq
   generalize iv (u * u + cA * u + 1) = W at *
   clear hw hr hs hx w0
   generalize cA = c at *
   refine zcu hW (zcu (znR hu hu) ?_)
   have m1 : (u + 1) * ((u - 1) * V) = u - 1 := by rw [show (u + 1) * ((u - 1) * V) = (u - 1) * ((u + 1) * V) by clear hQ hU hd; grind, hU]; clear hQ hU hd; grind
   generalize (u - 1) * V = y at *
   clear hU
   have m2 : (u + 1) * (u + 1) * (y * y) = (u - 1) * (u - 1) := by rw [← m1]; clear hQ hd; grind
   rw [show (u + 1) * (u + 1) * ((u * u + c * u + 1) * ((c + 2) * u * W + y * y)) = (u + 1) * (u + 1) * ((c + 2) * u * ((u * u + c * u + 1) * W)) + (u * u + c * u + 1) * ((u + 1) * (u + 1) * (y * y)) by clear hQ hd m1 m2; grind, show (u + 1) * (u + 1) * ((u * u + c * u + 1) * (1 + d * ((c + 2) * u * W) * (y * y))) = (u + 1) * (u + 1) * (u * u + c * u + 1) + d * (c + 2) * (u * ((u * u + c * u + 1) * W)) * ((u + 1) * (u + 1) * (y * y)) by clear hQ hd m1 m2; grind, hQ, m2, hd]
   clear hQ hd m1 m2
   grind
  ·dsimp only
   generalize iv (u + 1) = V at *
   clear hw hQ hr hs hd
   have e1 : 1 - (u - 1) * V = 2 * V := by
    refine zcu hu ?_
    grind
   have e2 : 1 + (u - 1) * V = 2 * u * V := by
    refine zcu hu ?_
    grind
   rw [e1, e2]
   clear e1 e2 hU
   grind
 ·have h1 : hf ((cA - 2) * (u * (u * u + cA * u + 1))) = 1 := by rw [zuZ, zkK, hw]; decide +kernel
  obtain ⟨r, hr⟩ := zu0 h1
  have hu : u - 1 ≠ 0 := fun z => by
   have hz : u = 1 := by clear hw hQ hr h1; grind
   have e1 : u * (u * u + cA * u + 1) = cA + 2 := by rw [hz]; clear hw hQ hr hz z h1; generalize cA = c; grind
   rw [e1, zu1] at hw
   exact zqD hw.symm
  have hU := zbg hu
  have hd := zkO
  refine ⟨zCC, -1, ⟨r * iv (u * u + cA * u + 1), (u + 1) * iv (u - 1)⟩, zD7, ?_, ?_⟩
  ·unfold On
   dsimp only
   generalize iv (u - 1) = V at *
   generalize zCC = d at *
   have hx : r * iv (u * u + cA * u + 1) * (r * iv (u * u + cA * u + 1)) = (cA - 2) * u * iv (u * u + cA * u + 1) := by
    generalize iv (u * u + cA * u + 1) = W at *
    rw [show r * W * (r * W) = (r * r) * W * W by clear hw hQ hU hr hd h1; grind, hr, show (cA - 2) * (u * (u * u + cA * u + 1)) * W * W = (cA - 2) * u * W * ((u * u + cA * u + 1) * W) by clear hw hQ hU hr hd h1; generalize cA = c; grind, hQ]
    clear hw hQ hU hr hd h1
    grind
   rw [hx]
   have hW : u * u + cA * u + 1 ≠ 0 := hq
   generalize iv (u * u + cA * u + 1) = W at *
   clear hw hr hx w0 h1
   generalize cA = c at *
   refine zcu hW (zcu (znR hu hu) ?_)
   have m1 : (u - 1) * ((u + 1) * V) = u + 1 := by rw [show (u - 1) * ((u + 1) * V) = (u + 1) * ((u - 1) * V) by clear hQ hU hd; grind, hU]; clear hQ hU hd; grind
   generalize (u + 1) * V = y at *
   clear hU
   have m2 : (u - 1) * (u - 1) * (y * y) = (u + 1) * (u + 1) := by rw [← m1]; clear hQ hd; grind
   rw [show (u - 1) * (u - 1) * ((u * u + c * u + 1) * ((c - 2) * u * W + y * y)) = (u - 1) * (u - 1) * ((c - 2) * u * ((u * u + c * u + 1) * W)) + (u * u + c * u + 1) * ((u - 1) * (u - 1) * (y * y)) by clear hQ hd m1 m2; grind, show (u - 1) * (u - 1) * ((u * u + c * u + 1) * (1 + d * ((c - 2) * u * W) * (y * y))) = (u - 1) * (u - 1) * (u * u + c * u + 1) + d * (c - 2) * (u * ((u * u + c * u + 1) * W)) * ((u - 1) * (u - 1) * (y * y)) by clear hQ hd m1 m2; grind, hQ, m2, hd]
   clear hQ hd m1 m2
   grind
  ·dsimp only
   generalize iv (u - 1) = V at *
   clear hw hQ hr hd h1
   have e1 : 1 - (u + 1) * V = -2 * V := by
    refine zcu hu ?_
    grind
   have e2 : 1 + (u + 1) * V = 2 * u * V := by
    refine zcu hu ?_
    grind
   rw [e1, e2]
   clear e1 e2 hU
   grind
end
section
theorem oq2 : IsP 2 := zbh (by decide +kernel)
theorem oq3 : IsP 3 := zbh (by decide +kernel)
theorem oq5 : IsP 5 := zbh (by decide +kernel)
theorem oq7 : IsP 7 := zbh (by decide +kernel)
theorem zD8 : IsP 11 := zbh (by decide +kernel)
theorem zFt : IsP 13 := zbh (by decide +kernel)
theorem zFu : IsP 17 := zbh (by decide +kernel)
theorem zGp : IsP 19 := zbh (by decide +kernel)
theorem zFP : IsP 23 := zbh (by decide +kernel)
theorem zFQ : IsP 41 := zbh (by decide +kernel)
theorem zFR : IsP 43 := zbh (by decide +kernel)
theorem zGq : IsP 47 := zbh (by decide +kernel)
theorem zGr : IsP 67 := zbh (by decide +kernel)
theorem zFS : IsP 73 := zbh (by decide +kernel)
theorem zGs : IsP 79 := zbh (by decide +kernel)
theorem zFv : IsP 113 := zbh (by decide +kernel)
theorem zFw : IsP 269 := zbh (by decide +kernel)
theorem zFx : IsP 307 := zbh (by decide +kernel)
theorem zD9 : IsL 1361 := za9 1361 3 [2, 2, 2, 2, 5, 17] (by decide +kernel) (all_cons oq2 (all_cons oq2 (all_cons oq2 (all_cons oq2 (all_cons oq5 (all_cons zFu zau))))))
theorem zEa : IsL 1723 := za9 1723 3 [2, 3, 7, 41] (by decide +kernel) (all_cons oq2 (all_cons oq3 (all_cons oq7 (all_cons zFQ zau))))
theorem zEb : IsL 2551 := za9 2551 6 [2, 3, 5, 5, 17] (by decide +kernel) (all_cons oq2 (all_cons oq3 (all_cons oq5 (all_cons oq5 (all_cons zFu zau)))))
theorem zEc : IsL 2851 := za9 2851 2 [2, 3, 5, 5, 19] (by decide +kernel) (all_cons oq2 (all_cons oq3 (all_cons oq5 (all_cons oq5 (all_cons zGp zau)))))
theorem zEd : IsL 2939 := za9 2939 2 [2, 13, 113] (by decide +kernel) (all_cons oq2 (all_cons zFt (all_cons zFv zau)))
theorem zEe : IsL 3797 := za9 3797 2 [2, 2, 13, 73] (by decide +kernel) (all_cons oq2 (all_cons oq2 (all_cons zFt (all_cons zFS zau))))
theorem zEf : IsL 5879 := za9 5879 11 [2, 2939] (by decide +kernel) (all_cons oq2 (all_cons zEd.1 zau))
theorem zBM : IsL 17231 := za9 17231 13 [2, 5, 1723] (by decide +kernel) (all_cons oq2 (all_cons oq5 (all_cons zEa.1 zau)))
theorem zBN : IsL 22111 := za9 22111 6 [2, 3, 5, 11, 67] (by decide +kernel) (all_cons oq2 (all_cons oq3 (all_cons oq5 (all_cons zD8 (all_cons zGr zau)))))
theorem zBO : IsL 30703 := za9 30703 3 [2, 3, 7, 17, 43] (by decide +kernel) (all_cons oq2 (all_cons oq3 (all_cons oq7 (all_cons zFu (all_cons zFR zau)))))
theorem zBP : IsL 34123 := za9 34123 2 [2, 3, 11, 11, 47] (by decide +kernel) (all_cons oq2 (all_cons oq3 (all_cons zD8 (all_cons zD8 (all_cons zGq zau)))))
theorem zBQ : IsL 41081 := za9 41081 3 [2, 2, 2, 5, 13, 79] (by decide +kernel) (all_cons oq2 (all_cons oq2 (all_cons oq2 (all_cons oq5 (all_cons zFt (all_cons zGs zau))))))
theorem zBR : IsL 82163 := za9 82163 2 [2, 41081] (by decide +kernel) (all_cons oq2 (all_cons zBQ.1 zau))
theorem zym : IsL 132667 := za9 132667 5 [2, 3, 22111] (by decide +kernel) (all_cons oq2 (all_cons oq3 (all_cons zBN.1 zau)))
theorem zyn : IsL 137849 := za9 137849 3 [2, 2, 2, 17231] (by decide +kernel) (all_cons oq2 (all_cons oq2 (all_cons oq2 (all_cons zBM.1 zau))))
theorem zyo : IsL 409477 := za9 409477 2 [2, 2, 3, 34123] (by decide +kernel) (all_cons oq2 (all_cons oq2 (all_cons oq3 (all_cons zBP.1 zau))))
theorem zyp : IsL 531581 := za9 531581 2 [2, 2, 5, 7, 3797] (by decide +kernel) (all_cons oq2 (all_cons oq2 (all_cons oq5 (all_cons oq7 (all_cons zEe.1 zau)))))
theorem zu6 : IsL 1224481 := za9 1224481 13 [2, 2, 2, 2, 2, 3, 5, 2551] (by decide +kernel) (all_cons oq2 (all_cons oq2 (all_cons oq2 (all_cons oq2 (all_cons oq2 (all_cons oq3 (all_cons oq5 (all_cons zEb.1 zau))))))))
theorem zrK : IsL 14741173 := za9 14741173 2 [2, 2, 3, 3, 409477] (by decide +kernel) (all_cons oq2 (all_cons oq2 (all_cons oq3 (all_cons oq3 (all_cons zyo.1 zau)))))
theorem zrL : IsL 58964693 := za9 58964693 2 [2, 2, 14741173] (by decide +kernel) (all_cons oq2 (all_cons oq2 (all_cons zrK.1 zau)))
theorem zoN : IsL 292386187 := za9 292386187 2 [2, 3, 3, 3, 3, 307, 5879] (by decide +kernel) (all_cons oq2 (all_cons oq3 (all_cons oq3 (all_cons oq3 (all_cons oq3 (all_cons zFx (all_cons zEf.1 zau)))))))
theorem zi5 : IsL 213441916511 := za9 213441916511 13 [2, 5, 73, 292386187] (by decide +kernel) (all_cons oq2 (all_cons oq5 (all_cons zFS (all_cons zoN.1 zau))))
theorem zgw : IsL 1257559732178653 := za9 1257559732178653 2 [2, 2, 3, 7, 23, 531581, 1224481] (by decide +kernel) (all_cons oq2 (all_cons oq2 (all_cons oq3 (all_cons oq7 (all_cons zFP (all_cons zyp.1 (all_cons zu6.1 zau)))))))
theorem zeM : IsL 4434155615661930479 := za9 4434155615661930479 17 [2, 41, 43, 1257559732178653] (by decide +kernel) (all_cons oq2 (all_cons zFQ (all_cons zFR (all_cons zgw.1 zau))))
theorem zd1 : IsL 3044861653679985063343 := za9 3044861653679985063343 5 [2, 3, 11, 30703, 82163, 132667, 137849] (by decide +kernel) (all_cons oq2 (all_cons oq3 (all_cons zD8 (all_cons zBO.1 (all_cons zBR.1 (all_cons zym.1 (all_cons zyn.1 zau)))))))
theorem zcX : IsL 172054593956031949258510691 := za9 172054593956031949258510691 2 [2, 5, 1361, 2851, 4434155615661930479] (by decide +kernel) (all_cons oq2 (all_cons oq5 (all_cons zD9.1 (all_cons zEc.1 (all_cons zeM.1 zau)))))
theorem zca : IsL 198211423230930754013084525763697 := za9 198211423230930754013084525763697 5 [2, 2, 2, 2, 3, 23, 58964693, 3044861653679985063343] (by decide +kernel) (all_cons oq2 (all_cons oq2 (all_cons oq2 (all_cons oq2 (all_cons oq3 (all_cons zFP (all_cons zrL.1 (all_cons zd1.1 zau))))))))
theorem zbA : IsL 19757330305831588566944191468367130476339 := za9 19757330305831588566944191468367130476339 2 [2, 269, 213441916511, 172054593956031949258510691] (by decide +kernel) (all_cons oq2 (all_cons zFw (all_cons zi5.1 (all_cons zcX.1 zau))))
theorem zbt : IsL 276602624281642239937218680557139826668747 := za9 276602624281642239937218680557139826668747 2 [2, 7, 19757330305831588566944191468367130476339] (by decide +kernel) (all_cons oq2 (all_cons oq7 (all_cons zbA.1 zau)))
theorem zaj : IsL 7237005577332262213973186563042994240857116359379907606001950938285454250989 := za9 7237005577332262213973186563042994240857116359379907606001950938285454250989 2 [2, 2, 3, 11, 198211423230930754013084525763697, 276602624281642239937218680557139826668747] (by decide +kernel) (all_cons oq2 (all_cons oq2 (all_cons oq3 (all_cons zD8 (all_cons zca.1 (all_cons zbt.1 zau))))))
def znn : Nat := 7237005577332262213973186563042994240857116359379907606001950938285454250989
def zEg (i : Nat) : Nat := znn / 256 ^ i % 256
theorem zyq : zfP zEg 255 = znn := by decide +kernel
theorem zFy : (zdP 9 zEg 255).1.z = 0 := by decide +kernel
section
variable {d e : K} {P : Ed}
theorem zyr (hc : Cv d e) (hP : On d P) (hy : P.y = 1) : P = zfO := by
 obtain ⟨x, y⟩ := P
 dsimp only at hy
 subst hy
 have := zBK hc.free hP (show (1 : K) * 1 = 1 by decide +kernel)
 subst this
 rfl
theorem zkP : 9 < pN := by unfold pN; decide +kernel
theorem zoO : toK 9 ≠ 0 := fun h => by
 have h1 := congrArg Fin.val h
 rw [zfJ, Nat.mod_eq_of_lt zkP] at h1
 exact absurd h1 (by decide)
theorem zBS (hc : Cv d e) (hP : On d P) (hq : toK 9 * (1 - P.y) = e * (1 + P.y)) : zc3 d P znn = zfO := by
 have h := (zoL hc hP zkP zoO hq zEg 255).1
 rw [zyq] at h
 obtain ⟨h1, h2⟩ := h
 rw [zFy, zgv] at h1 h2
 have hX : toK (zdP 9 zEg 255).1.x ≠ 0 := fun hx => h2 ⟨hx, rfl⟩
 have hon := zeL hc.free hP znn
 refine zyr hc hon ?_
 generalize (zc3 d P znn).y = Y at *
 generalize toK (zdP 9 zEg 255).1.x = Z at *
 have h3 : Z * (1 - Y) = 0 := by clear h2 hX hq; grind
 have h4 := (zcP h3).resolve_left hX
 clear h1 h2 h3 hX hq hon
 grind
theorem zGt (hc : Cv d e) (hq : toK 9 * (1 - P.y) = e * (1 + P.y)) : P ≠ zfO := fun h => by
 subst h
 have he := ee hc
 have e0 : e ≠ 0 := fun z => by rw [z] at he; exact zhd (by rw [← he]; decide +kernel)
 have h1 : e * 2 = 0 := by
  have : zfO.y = 1 := rfl
  rw [this] at hq
  clear he e0
  grind
 exact zhe ((zcP h1).resolve_left e0)
theorem mul_one (P : Ed) : zc3 d P 1 = P := ziF P
theorem zBT (hc : Cv d e) (hP : On d P) : ∀ m n : Nat, zc3 d P m = zfO → zc3 d P n = zfO → zc3 d P (Nat.gcd m n) = zfO := fun m => by
 induction m using Nat.strongRecOn with
 | ind m ih =>
  intro n hm hn
  by_cases h0 : m = 0
  ·subst h0; rw [Nat.gcd_zero_left]; exact hn
  ·rw [Nat.gcd_rec]
   refine ih (n % m) (Nat.mod_lt _ (Nat.pos_of_ne_zero h0)) m ?_ hm
   have h1 : zc3 d P (m * (n / m) + n % m) = zfO := by rw [Nat.div_add_mod]; exact hn
   rw [zfa hc.free hc.nz hP, ← zhG hc.free hc.nz hP, hm, zoJ, ziF] at h1
   exact h1
theorem zBU (hc : Cv d e) (hP : On d P) (hq : toK 9 * (1 - P.y) = e * (1 + P.y)) {n : Nat} (h : zc3 d P n = zfO) : znn ∣ n := by
 have h1 := zBT hc hP znn n (zBS hc hP hq) h
 rcases zaj.1.2 (Nat.gcd znn n) (Nat.gcd_dvd_left ..) with h2 | h2
 ·rw [h2, mul_one] at h1
  exact absurd h1 (zGt hc hq)
 ·have h3 := Nat.gcd_dvd_right znn n
  rw [h2] at h3
  exact h3
end
theorem zu7 (k : Nat → Nat) : ∀ n, zfP k n < 2 ^ n
 | 0 => by show 0 < 1; decide
 | n + 1 => by
  have h1 := zu7 k n
  have h2 := zgQ k n
  rw [zfP, Nat.pow_succ]
  omega
theorem zqN (k : Nat → Nat) (h : zfP k 1 = 1) : ∀ n, 0 < zfP k (n + 1)
 | 0 => by rw [h]; decide
 | n + 1 => by
  have h1 := zqN k h n
  rw [zfP]
  omega
theorem zu8 (k : Nat → Nat) : zfP (zbe k) 1 = 1 := by
 show 2 * 0 + zei (zbe k) 0 = 1
 unfold zei
 rw [show (254 - 0) / 8 = 31 from rfl, show (254 - 0) % 8 = 6 from rfl]
 show _ + zbe k 31 / 64 % 2 = 1
 have : zbe k 31 = k 31 % 64 + 64 := by unfold zbe; rw [if_neg (by decide), if_pos rfl]
 omega
theorem zrM (k : Nat → Nat) : zoM k = 8 * zfP (zbe k) 252 := by
 have h0 : zbe k 0 = k 0 / 8 * 8 := by unfold zbe; rw [if_pos rfl]
 have b : ∀ j, j < 3 → zei (zbe k) (252 + j) = 0 := fun j hj => by
  unfold zei
  rw [show (254 - (252 + j)) / 8 = 0 by omega, h0]
  rcases (by omega : j = 0 ∨ j = 1 ∨ j = 2) with h | h | h <;> subst h
  ·show k 0 / 8 * 8 / 4 % 2 = 0; omega
  ·show k 0 / 8 * 8 / 2 % 2 = 0; omega
  ·show k 0 / 8 * 8 / 1 % 2 = 0; omega
 have b0 := b 0 (by decide)
 have b1 := b 1 (by decide)
 have b2 := b 2 (by decide)
 show 2 * (2 * (2 * zfP (zbe k) 252 + zei (zbe k) 252) + zei (zbe k) 253) + zei (zbe k) 254 = _
 rw [show zei (zbe k) 252 = 0 from b0, show zei (zbe k) 253 = 0 from b1, show zei (zbe k) 254 = 0 from b2]
 omega
theorem zqO (k : Nat → Nat) : ¬ znn ∣ zoM k := fun h => by
 rw [zrM] at h
 have h1 := zu7 (zbe k) 252
 have h2 := zqN (zbe k) (zu8 k) 251
 have h3 : (2 : Nat) ^ 252 < znn := by unfold znn; decide +kernel
 have h4 : (8 : Nat) < znn := by unfold znn; decide +kernel
 rcases zmO zaj.1 h with h5 | h5
 ·have := Nat.le_of_dvd (by decide) h5
  exact absurd h4 (by unfold znn; omega)
 ·have := Nat.le_of_dvd h2 h5
  exact absurd (jT (Nat.lt_trans h1 h3) this) (Nat.lt_irrefl _)
theorem zBV : ¬ znn ∣ 2 := fun h => absurd (Nat.le_of_dvd (by decide) h) (by unfold znn; omega)
theorem zno (a b : Nat → Nat) : zdu a (zdu b 9) ≠ 0 := fun h0 => by
 obtain ⟨d, e, P, hc, hP, hq⟩ := zyk zoO
 have h1 := zyh hc hP zkP zoO hq a b
 rw [h0, zgv] at h1
 have hon := zeL hc.free hP (zoM b * zoM a)
 have h2 : zc3 d (zc3 d P (zoM b * zoM a)) 2 = zfO := by
  show zbQ d (zc3 d (zc3 d P (zoM b * zoM a)) 1) (zc3 d P (zoM b * zoM a)) = zfO
  rw [mul_one]
  rcases zu4 hc hon h1.symm with h3 | h3 <;> rw [h3]
  ·exact ziF _
  ·exact znm
 rw [zhG hc.free hc.nz hP] at h2
 have hp := zaj.1
 rcases zmO hp (zBU hc hP hq h2) with h4 | h4
 ·rcases zmO hp h4 with h5 | h5
  ·exact zqO _ h5
  ·exact zqO _ h5
 ·exact zBV h4
theorem zBW (b : Nat → Nat) : zdu b 9 ≠ 0 := fun h0 => zno b b (by rw [h0, zm5])
end
section
open Go.ChangeShapes Go.WideShapes Go.ChangeAt Go.RowKit
section
variable {H : Type} {enc : TypeId × Value → H} {P : Program} {w : World} {base : Nat} {spare : Nat → Bool} {held : Bool} {t e : TypeId} {v : Value} {d : DataW H} {p : List MemPlace} {r : Reach}
theorem znp {n : Nat} (ht : P.underlying t = some (.array n e)) (h : Value.okWide P w r base t v) : ∃ cs, v = .agg cs ∧ cs.size = P.cellsOf t := by
 simp only [Value.okWide, ht] at h
 obtain ⟨cs, h1, h2, _⟩ := h
 exact ⟨cs, h1, h2⟩
end
theorem zEh {n : Int} (h : (Lit.int .u8 n).wf = true) : 0 ≤ n ∧ n < 256 := by
 simp [Lit.wf, IntKind.min, IntKind.max, IntKind.signed, IntKind.bits] at h
 omega
theorem zu9 {n : Int} (h : (Lit.int .i64 n).wf = true) : -9223372036854775808 ≤ n ∧ n < 9223372036854775808 := by
 simp [Lit.wf, IntKind.min, IntKind.max, IntKind.signed, IntKind.bits] at h
 omega
end
section
open Go.ChangeShapes Go.WideShapes Go.ChangeAt Go.RowKit
def zva {H : Type} (P : Program) (t : TypeId) (d : DataW H) : Prop := ∀ n ∈ d.weights P t, n ≤ reachBytes
theorem zqP {H : Type} {P : Program} {ts : List TypeId} {ds : List (DataW H)} (hz : (DataW.weightsEach P ts ds).all (· ≤ reachBytes) = true) {j : Nat} {t : TypeId} {d : DataW H} (ht : ts[j]? = some t) (hd : ds[j]? = some d) : zva P t d := fun n hn => by
 have := List.all_eq_true.1 hz n (DataW.weights_mem_each ht hd n hn)
 simpa using this
def Opn (P : Program) (t : TypeId) (φ : List Value → World → Prop) : Prop :=
 ∀ (H : Type) (enc : TypeId × Value → H) (w : World) (base : Nat) (spare : Nat → Bool) (held : Bool) (fuel : Nat) (x : DataW H × List MemPlace) (cs : List Value), DataW.trod enc P w base spare held fuel t cs = some x → zva P t x.1 → φ cs w
theorem Opn.imp {P : Program} {t : TypeId} {φ ψ : List Value → World → Prop} (o : Opn P t φ) (h : ∀ cs w, φ cs w → ψ cs w) : Opn P t ψ := fun H enc w base spare held fuel x cs h1 h2 => h cs w (o H enc w base spare held fuel x cs h1 h2)
theorem zeN {H : Type} {P : Program} {e : TypeId} : ∀ {ds : List (DataW H)} {d : DataW H}, d ∈ ds → ∀ n ∈ d.weights P e, n ∈ DataW.weightsAll P e ds
 | d0 :: ds, d, hd, n, hn => by
  rw [DataW.weightsAll, List.mem_append]
  rcases List.mem_cons.1 hd with rfl | hd
  ·exact .inl hn
  ·exact .inr (zeN hd n hn)
theorem zvb {w w' : World} {p : Addr} {u : Value} (hk : ∀ k, k < w.heap.size → k ∉ ([] : List Nat) → w'.heap[k]? = w.heap[k]?) (h : w.cell? p = some u) : w'.cell? p = some u := by
 rw [← h]
 have := hk _ (World.block_lt_of_cell? _ _ h) (by simp)
 unfold World.cell?
 rw [this]
section
variable {P : Program} {t e : TypeId}
theorem zBX {k : IntKind} (ht : P.underlying t = some (.int k)) : Opn P t fun cs w => ∃ z : Int, cs = [.int k z] ∧ (Lit.int k z).wf = true := fun H enc w base spare held fuel x cs h _ => by
 obtain ⟨n, h1, _, hw⟩ := DataW.trod_int ht h
 exact ⟨n, h1, hw⟩
theorem zBY (ht : P.underlying t = some (.array 32 e)) (he : P.underlying e = some (.int .u8)) (hce : P.cellsOf e = 1) (hct : P.cellsOf t = 32) : Opn P t fun cs w => ∃ l : List Nat, l.length = 32 ∧ (∀ x ∈ l, x < 256) ∧ cs = cl [.key l] := fun H enc w base spare held fuel x cs h hl => by
 obtain ⟨xs, m, _, _, hcl, hxl, hall⟩ := DataW.trod_array ht h
 have key : ∀ i : Fin 32, ∃ z : Nat, cs[i.1]? = some (bv z) ∧ z < 256 := fun i => by
  have h1 := hall i.1 i.2
  rw [hce, Nat.mul_one, jP (by omega)] at h1
  obtain ⟨n, h2, _, hw⟩ := DataW.trod_int he h1
  have hb := zEh hw
  refine ⟨n.toNat, ?_, by omega⟩
  have : ((cs.drop i.1).take 1)[0]? = some (.int .u8 n) := by rw [h2]; rfl
  rw [List.getElem?_take_of_lt (by omega), List.getElem?_drop] at this
  rw [Nat.add_zero] at this
  rw [this]
  unfold bv
  rw [Int.toNat_of_nonneg hb.1]
 obtain ⟨f, hf⟩ := Classical.axiomOfChoice key
 refine ⟨List.ofFn f, by simp, fun y hy => ?_, ?_⟩
 ·obtain ⟨i, rfl⟩ := List.mem_ofFn.1 hy
  exact (hf i).2
 ·show cs = zgC (List.ofFn f) ++ []
  rw [List.append_nil]
  unfold zgC
  apply List.ext_getElem?
  intro i
  by_cases hi : i < 32
  ·rw [(hf ⟨i, hi⟩).1, List.getElem?_map, List.getElem?_range hi]
   show _ = some (bv ((List.ofFn f).getD i 0))
   rw [jR, List.getElem?_ofFn, dif_pos hi]
   rfl
  ·rw [List.getElem?_eq_none (by omega), List.getElem?_eq_none (by simp; omega)]
theorem zvc {α : Type} (T : Ty α) (good : α → Prop) (ht : P.underlying t = some (.slice e)) (hc : P.cellsOf e = T.sz) (o : Opn P e fun cs w => cs.length = T.sz → ∃ v m, cs = cl (T.ch v m) ∧ St (T.nest v m) w [] ∧ good v) :
  Opn P t fun cs w => ∃ A c xs m, cs = [.slice A xs.length c] ∧ St (LiF T A c xs m) w [] ∧ ∀ x ∈ xs, good x := fun H enc w base spare held fuel x cs h hl => by
 rcases DataW.trod_slice ht h with ⟨h1, _⟩ | ⟨a, len, cap, elems, rest, n, _, h1, hx, hb, h2, hm, hlen, hel, _⟩
 ·exact ⟨none, 0, [], fun _ => T.dft, h1, zsk, fun x hx => by cases hx⟩
 ·have key : ∀ i : Fin len, ∃ vm : α × T.μ, (∀ j u, (cl (T.ch vm.1 vm.2))[j]? = some u → w.cell? ((a.add (i.1 * T.sz)).add j) = some u) ∧ St (T.nest vm.1 vm.2) w [] ∧ good vm.1 := fun i => by
   have h3 := hel i.1 i.2
   rw [hc, jP (by omega)] at h3
   obtain ⟨c, hcs, htr⟩ := Option.bind_eq_some_iff.1 h3
   obtain ⟨_, hcl, hcell⟩ := World.cells?_some hcs
   obtain ⟨v, m, e1, e2, e3⟩ := o H enc w base spare held n _ _ htr (fun k hk => hl k (by
    rw [hx]
    simp only [DataW.weights, ht, List.mem_cons, List.mem_append]
    exact .inr (.inl (zeN (List.mem_map.2 ⟨_, List.getElem_mem _, rfl⟩) k hk)))) hcl
   refine ⟨(v, m), fun j u hu => ?_, e2, e3⟩
   have hu' : c[j]? = some u := by rw [e1]; exact hu
   have hj : j < T.sz := by rw [← hcl]; exact (List.getElem?_eq_some_iff.1 hu').1
   rw [← hu']
   exact hcell j hj
  obtain ⟨f, hf⟩ := Classical.axiomOfChoice key
  have hm' : cap ≤ 9223372036854775807 := hm
  refine ⟨some a, cap, List.ofFn fun i => (f i).1, fun i => if h : i < len then (f ⟨i, h⟩).2 else T.dft, by rw [List.length_ofFn]; exact h1, fun w' hk => ?_, fun y hy => ?_⟩
  ·refine ⟨by rw [List.length_ofFn]; exact h2, by rw [List.length_ofFn]; omega, fun h => (by cases h), fun ad hA i y hy => ?_⟩
   obtain rfl := Option.some.inj hA
   have hi : i < len := by
    have := (List.getElem?_eq_some_iff.1 hy).1
    rwa [List.length_ofFn] at this
   rw [List.getElem?_ofFn, dif_pos hi] at hy
   obtain rfl := Option.some.inj hy
   rw [dif_pos hi]
   obtain ⟨g1, g2, _⟩ := hf ⟨i, hi⟩
   exact ⟨fun j u hu => zvb hk (g1 j u hu), g2 w' hk⟩
  ·obtain ⟨i, rfl⟩ := List.mem_ofFn.1 hy
   exact (hf i).2.2
theorem zvd {φ : List Value → World → Prop} (o : Opn P t φ) {H : Type} {enc : TypeId × Value → H} {w : World} {base : Nat} {spare : Nat → Bool} {held : Bool} {v : Value} {d : DataW H} {p : List MemPlace} (h : DataW.Trod enc P w base spare held t v d p) (hl : zva P t d) : φ v.cells.toList w := by
 obtain ⟨fuel, hf⟩ := h
 exact o H enc w base spare held fuel _ _ hf hl
theorem zEi {cs : Array Value} {X : List Chunk} (e : (Value.agg cs).cells.toList = cl X) : cs = ca X := by
 have e' : cs.toList = cl X := e
 exact Array.ext' (by rw [e']; rfl)
theorem zys {A A' : Option Addr} {n n' c c' : Nat} (e : (Value.slice A n c).cells.toList = [.slice A' n' c']) : A = A' ∧ n = n' ∧ c = c' := by
 have e' : [Value.slice A n c] = [.slice A' n' c'] := e
 injection e' with e'
 injection e' with h1 h2 h3
 exact ⟨h1, h2, h3⟩
end
end
section
open Go.ChangeShapes Go.WideShapes Go.ChangeAt Go.RowKit
theorem zFz : Opn Tryz.prog 23 fun cs w => ∃ l : List Nat, l.length = 32 ∧ (∀ x ∈ l, x < 256) ∧ cs = cl [.key l] := zBY Tryz.underlying23 Tryz.underlying5 (by kernel_rfl) (by kernel_rfl)
theorem zyt : Opn Tryz.prog 24 fun cs w => ∃ A c xs m, cs = [.slice A xs.length c] ∧ St (LiF zaF A c xs m) w [] ∧ ∀ x ∈ xs, True :=
 zvc zaF (fun _ => True) Tryz.underlying24 (by kernel_rfl) ((zBX Tryz.underlying3).imp fun cs w ⟨z, e, _⟩ _ => ⟨z, (), e, fun _ _ => trivial, trivial⟩)
def zrN : List Int := [1116352408, 1899447441, 3049323471, 3921009573, 961987163, 1508970993, 2453635748, 2870763221, 3624381080, 310598401, 607225278, 1426881987, 1925078388, 2162078206, 2614888103, 3248222580, 3835390401, 4022224774, 264347078, 604807628, 770255983, 1249150122, 1555081692, 1996064986, 2554220882, 2821834349, 2952996808, 3210313671, 3336571891, 3584528711, 113926993, 338241895, 666307205, 773529912, 1294757372, 1396182291, 1695183700, 1986661051, 2177026350, 2456956037, 2730485921, 2820302411, 3259730800, 3345764771, 3516065817, 3600352804, 4094571909, 275423344, 430227734, 506948616, 659060556, 883997877, 958139571, 1322822218, 1537002063, 1747873779, 1955562222, 2024104815, 2227730452, 2361852424, 2428436474, 2756734187, 3204031479, 3329325298]
def zFA (i : Nat) : Nat := (zrN.getD i 0).toNat
theorem zjw : cl [.row 64 fun i => u32 (zFA i)] = zrN.map fun z => Value.int .u32 z := by kernel_rfl
theorem zBZ {LL : List (String × DataW Unit)} (hm : ("coterie/sha.adds", Rows.laid_coterie_sha_adds) ∈ LL) {W : World} (h : laidMet Tryz.prog LL W) : St (AtC ⟨2, 0, none⟩ [.row 64 fun i => u32 (zFA i)]) W [] := by
 obtain ⟨g, t, cs, fuel, p, hg, hty, hvar, hd⟩ := Lib.laidMet.reads h (n := "coterie/sha.adds") (d := Rows.laid_coterie_sha_adds) hm
 obtain rfl := Option.some.inj ((show Tryz.prog.globalNamed "coterie/sha.adds" = some 2 by kernel_rfl).symm.trans hg)
 obtain rfl := Option.some.inj ((show (Tryz.prog.globals[2 ]?).map (·.type) = some 199 by kernel_rfl).symm.trans hty)
 have hcs := Lib.cells_of_tab (zs := zrN) (k := .u32) Tryz.underlying199 Tryz.underlying147 (by kernel_rfl) (by kernel_rfl) hd
 rw [← zjw] at hcs
 intro w' hk j u hu
 rw [← hcs] at hu
 have h1 := World.var?_cell hg hvar j
 have h2 : cs[j]? = some u := by rw [← Array.getElem?_toList]; exact hu
 rw [h2] at h1
 rw [zck, Nat.zero_add, ← h1]
 exact World.cell?_of_block (hk _ (World.block_lt_of_cell? _ _ h1) (by simp))
theorem zB0 {LL : List (String × DataW Unit)} (hm : ("coterie/coterieref02.k", Rows.laid_coterie_coterieref02_k) ∈ LL) {W : World} (h : laidMet Tryz.prog LL W) : St (AtC ⟨0, 0, none⟩ [.row 64 fun i => u32 (zFA i)]) W [] := by
 obtain ⟨g, t, cs, fuel, p, hg, hty, hvar, hd⟩ := Lib.laidMet.reads h (n := "coterie/coterieref02.k") (d := Rows.laid_coterie_coterieref02_k) hm
 obtain rfl := Option.some.inj ((show Tryz.prog.globalNamed "coterie/coterieref02.k" = some 0 by kernel_rfl).symm.trans hg)
 obtain rfl := Option.some.inj ((show (Tryz.prog.globals[0 ]?).map (·.type) = some 199 by kernel_rfl).symm.trans hty)
 have hcs := Lib.cells_of_tab (zs := zrN) (k := .u32) Tryz.underlying199 Tryz.underlying147 (by kernel_rfl) (by kernel_rfl) hd
 rw [← zjw] at hcs
 intro w' hk j u hu
 rw [← hcs] at hu
 have h1 := World.var?_cell hg hvar j
 have h2 : cs[j]? = some u := by rw [← Array.getElem?_toList]; exact hu
 rw [h2] at h1
 rw [zck, Nat.zero_add, ← h1]
 exact World.cell?_of_block (hk _ (World.block_lt_of_cell? _ _ h1) (by simp))
def zGu : ByteArray := { data := #[98, 121, 116, 101, 115, 46, 66, 117, 102, 102, 101, 114, 58, 32, 116, 111, 111, 32, 108, 97, 114, 103, 101] }
noncomputable def zGv : Nat := (World.holding Tryz.prog default ⟨#[], #[], []⟩).heap.size
noncomputable def zEj (os : Os) : World :=
 let w0 := World.holding Tryz.prog os ⟨#[.cells #[.string zGu] 252 ], #[], []⟩
 { w0 with heap := ((w0.heap.modify 1 fun
   | .cells _ t frozen => .cells #[.iface 236 (.pointer (some ⟨zGv, 0, none⟩))] t frozen
   | o => o).modify 2 fun
   | .cells _ t frozen => .cells (zrN.map fun z => Value.int .u32 z).toArray t frozen
   | o => o).modify 0 fun
   | .cells _ t frozen => .cells (zrN.map fun z => Value.int .u32 z).toArray t frozen
   | o => o }
end
end Go.Proofs.YtcmmpiaogfnmoaaGreatDoor
