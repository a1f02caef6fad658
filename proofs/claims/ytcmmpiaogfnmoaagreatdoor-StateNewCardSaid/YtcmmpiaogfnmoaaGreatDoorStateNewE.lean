/- Plain law of layer 5: what carrying, and a number's own, stand for; no program is in sight. Plain law of layer 5: a number's bytes, and the number of bytes; no program is in sight. Plain law of layer 5: sums, differences and products, part by part, stand for what numbers' do. The walks of layer 5: squares, and what numbers are divided by. A region that draws its order, with several new blocks: they lie apart. No program is in sight. A region that draws its order, each operation of its head told by itself, once, in any order: over what is owned and known. No program is in sight. Rows of words o -/
import Derived.Test.YtcmmpiaogfnmoaaGreatDoorStateNewD
set_option linter.unusedSimpArgs false
set_option linter.unusedVariables false
set_option maxRecDepth 200000
set_option maxHeartbeats 6000000
namespace Go.Proofs.YtcmmpiaogfnmoaaGreatDoor
section
def pN : Nat := 57896044618658097711785492504343953926634992332820282019728792003956564819949
theorem zaS (X : Nat → Nat) : zbo X 5 = X 0 + X 1 * 2251799813685248 + X 2 * 5070602400912917605986812821504 + X 3 * 11417981541647679048466287755595961091061972992 + X 4 * 25711008708143844408671393477458601640355247900524685364822016 := by
 simp [zbo]
theorem zxh (F : Nat → Nat) : ovN F 1 = F 0 / 2251799813685248 ∧ ovN F 2 = (F 1 + ovN F 1) / 2251799813685248 ∧ ovN F 3 = (F 2 + ovN F 2) / 2251799813685248 ∧ ovN F 4 = (F 3 + ovN F 3) / 2251799813685248 ∧ ovN F 5 = (F 4 + ovN F 4) / 2251799813685248 := by
 refine ⟨?_, rfl, rfl, rfl, rfl⟩
 show (F 0 + 0) / 2251799813685248 = _
 rw [Nat.add_zero]
theorem zxi (F : Nat → Nat) : loN F 0 = F 0 % 2251799813685248 ∧ loN F 1 = (F 1 + ovN F 1) % 2251799813685248 ∧ loN F 2 = (F 2 + ovN F 2) % 2251799813685248 ∧ loN F 3 = (F 3 + ovN F 3) % 2251799813685248 ∧ loN F 4 = (F 4 + ovN F 4) % 2251799813685248 := by
 refine ⟨?_, rfl, rfl, rfl, rfl⟩
 show (F 0 + 0) % 2251799813685248 = _
 rw [Nat.add_zero]
theorem ztL (F : Nat → Nat) : zbo (loN F) 5 + ovN F 5 * 57896044618658097711785492504343953926634992332820282019728792003956564819968 = zbo F 5 := by
 obtain ⟨o1, o2, o3, o4, o5⟩ := zxh F
 obtain ⟨l0, l1, l2, l3, l4⟩ := zxi F
 rw [zaS, zaS, l0, l1, l2, l3, l4]
 generalize ovN F 5 = u5 at *
 generalize ovN F 4 = u4 at *
 generalize ovN F 3 = u3 at *
 generalize ovN F 2 = u2 at *
 generalize ovN F 1 = u1 at *
 generalize F 0 = a0 at *
 generalize F 1 = a1 at *
 generalize F 2 = a2 at *
 generalize F 3 = a3 at *
 generalize F 4 = a4 at *
 omega
theorem zif (F : Nat → Nat) : zbo (zdp F) 5 + ovN F 5 * pN = zbo F 5 := by
 have h := ztL F
 rw [zaS] at h
 rw [zaS]
 have c0 : zdp F 0 = loN F 0 + 19 * ovN F 5 := rfl
 have c1 : zdp F 1 = loN F 1 := rfl
 have c2 : zdp F 2 = loN F 2 := rfl
 have c3 : zdp F 3 = loN F 3 := rfl
 have c4 : zdp F 4 = loN F 4 := rfl
 rw [c0, c1, c2, c3, c4]
 unfold pN
 omega
theorem zxj (F : Nat → Nat) : quN F 1 = (F 0 + 19) / 2251799813685248 ∧ quN F 2 = (F 1 + quN F 1) / 2251799813685248 ∧ quN F 3 = (F 2 + quN F 2) / 2251799813685248 ∧ quN F 4 = (F 3 + quN F 3) / 2251799813685248 ∧ quN F 5 = (F 4 + quN F 4) / 2251799813685248 := ⟨rfl, rfl, rfl, rfl, rfl⟩
theorem zDk (G : Nat → Nat) : quN G 5 = (zbo G 5 + 19) / 57896044618658097711785492504343953926634992332820282019728792003956564819968 := by
 obtain ⟨o1, o2, o3, o4, o5⟩ := zxj G
 rw [zaS]
 generalize quN G 5 = u5 at *
 generalize quN G 4 = u4 at *
 generalize quN G 3 = u3 at *
 generalize quN G 2 = u2 at *
 generalize quN G 1 = u1 at *
 generalize G 0 = a0 at *
 generalize G 1 = a1 at *
 generalize G 2 = a2 at *
 generalize G 3 = a3 at *
 generalize G 4 = a4 at *
 omega
theorem zDm (G : Nat → Nat) (h : zbo G 5 < 2 * pN) : zbo (loN (upN G)) 5 = zbo G 5 % pN := by
 have h1 := ztL (upN G)
 have h2 := zDk G
 have h3 : zbo (upN G) 5 = zbo G 5 + 19 * quN G 5 := by
  rw [zaS, zaS]
  have c0 : upN G 0 = G 0 + 19 * quN G 5 := rfl
  have c1 : upN G 1 = G 1 := rfl
  have c2 : upN G 2 = G 2 := rfl
  have c3 : upN G 3 = G 3 := rfl
  have c4 : upN G 4 = G 4 := rfl
  rw [c0, c1, c2, c3, c4]
  omega
 have h4 : zbo (loN (upN G)) 5 < 2 ^ (51 * 5) := zie _ 5 (fun i _ => Nat.mod_lt _ (by omega)) 5 (jV _)
 have h5 : (2 : Nat) ^ (51 * 5) = 57896044618658097711785492504343953926634992332820282019728792003956564819968 := by decide
 rw [h5] at h4
 generalize zbo (loN (upN G)) 5 = r at *
 generalize ovN (upN G) 5 = o at *
 generalize zbo (upN G) 5 = s at *
 generalize quN G 5 = q at *
 generalize zbo G 5 = v at *
 unfold pN at *
 by_cases hv : v < 57896044618658097711785492504343953926634992332820282019728792003956564819949
 ·rw [Nat.mod_eq_of_lt hv]
  have hq : q = 0 := by omega
  subst hq
  omega
 ·have hm : v % 57896044618658097711785492504343953926634992332820282019728792003956564819949 = v - 57896044618658097711785492504343953926634992332820282019728792003956564819949 := by
   rw [Nat.mod_eq_sub_mod (by omega), Nat.mod_eq_of_lt (by omega)]
  have hq : q = 1 := by omega
  subst hq
  rw [hm]
  have ho : o = 1 := by omega
  subst ho
  omega
theorem zDn (F : Nat → Nat) (hF : ∀ i, i < 5 → F i < 9223372036854775808) : zbo (zdp (zdp F)) 5 < 2 * pN := by
 have a0 := zcr (zdp F) (fun i hi => by have := zcr F hF i hi; omega) 0 (by omega)
 have a1 := zcr (zdp F) (fun i hi => by have := zcr F hF i hi; omega) 1 (by omega)
 have a2 := zcr (zdp F) (fun i hi => by have := zcr F hF i hi; omega) 2 (by omega)
 have a3 := zcr (zdp F) (fun i hi => by have := zcr F hF i hi; omega) 3 (by omega)
 have a4 := zcr (zdp F) (fun i hi => by have := zcr F hF i hi; omega) 4 (by omega)
 rw [zaS]
 unfold pN
 omega
theorem ztM (F : Nat → Nat) (hF : ∀ i, i < 5 → F i < 9223372036854775808) : zbo (zdm F) 5 = zbo F 5 % pN := by
 show zbo (loN (upN (zdp (zdp F)))) 5 = _
 rw [zDm _ (zDn F hF)]
 have h1 := zif F
 have h2 := zif (zdp F)
 rw [← h1, ← h2, Nat.add_mul_mod_self_right, Nat.add_mul_mod_self_right]
end
section
theorem zig (b c : Nat → Nat) : ∀ k, (∀ i, i < k → b i = c i) → kvN b k = kvN c k
 | 0, _ => rfl
 | k + 1, h => by rw [zdC, zdC, zig b c k (fun i hi => h i (by omega)), h k (by omega)]
theorem zp1 (v : Nat) : ∀ k, kvN (zaO v) k = v % 2 ^ (8 * k)
 | 0 => by unfold kvN; rw [Nat.mul_zero, Nat.pow_zero, Nat.mod_one]
 | k + 1 => by
  rw [zdC, zp1 v k, show 8 * (k + 1) = 8 * k + 8 from by omega, Nat.pow_add, Nat.mod_mul]
  unfold zaO
  rw [Nat.mul_comm (v / 2 ^ (8 * k) % 256)]
def zEE (v i : Nat) : Nat := v / 2 ^ (51 * i) % 2251799813685248
theorem zAm (v : Nat) : zbo (zEE v) 5 = v % 57896044618658097711785492504343953926634992332820282019728792003956564819968 := by
 rw [zaS]
 unfold zEE
 rw [show (2 : Nat) ^ (51 * 0) = 1 from by decide, show (2 : Nat) ^ (51 * 1) = 2251799813685248 from by decide, show (2 : Nat) ^ (51 * 2) = 5070602400912917605986812821504 from by decide, show (2 : Nat) ^ (51 * 3) = 11417981541647679048466287755595961091061972992 from by decide, show (2 : Nat) ^ (51 * 4) = 25711008708143844408671393477458601640355247900524685364822016 from by decide]
 omega
theorem zAn (b : Nat → Nat) (i : Nat) : ofN b i = zEE (kvN b 32) i := rfl
end
section
def zbO (F G : Nat → Nat) (n c : Nat) : Nat := if (n / 5 + n % 5) % 5 = c then F (n / 5) * (if 5 ≤ n / 5 + n % 5 then 19 * G (n % 5) else G (n % 5)) else 0
def zd7 (F G : Nat → Nat) : Nat → Nat → Nat
 | 0, _ => 0
 | n + 1, c => zd7 F G n c + zbO F G n c
theorem zmI (F G : Nat → Nat) (n c : Nat) : zd7 F G (n + 1) c = zd7 F G n c + zbO F G n c := rfl
theorem zAo (F G : Nat → Nat) (hF : ∀ i, i < 5 → F i < 4503599627370496) (hG : ∀ i, i < 5 → G i < 4503599627370496) (n c : Nat) (hn : n < 25) :
  zbO F G n c ≤ 385365782469381738054997774434304 := by
 unfold zbO
 have f := hF (n / 5) (by omega)
 have g := hG (n % 5) (by omega)
 split
 ·have : F (n / 5) * (if 5 ≤ n / 5 + n % 5 then 19 * G (n % 5) else G (n % 5)) ≤ 4503599627370496 * (19 * 4503599627370496) := Nat.mul_le_mul (by omega) (by split <;> omega)
  omega
 ·omega
theorem ztN (F G : Nat → Nat) (hF : ∀ i, i < 5 → F i < 4503599627370496) (hG : ∀ i, i < 5 → G i < 4503599627370496) (c : Nat) : ∀ n, n ≤ 25 → zd7 F G n c ≤ n * 385365782469381738054997774434304
 | 0, _ => by unfold zd7; omega
 | n + 1, h => by
  have := ztN F G hF hG c n (by omega)
  have := zAo F G hF hG n c (by omega)
  rw [zmI]; omega
theorem zxk (a b0 b1 b2 b3 b4 c1 c2 c3 c4 : Nat) : a * (b0 + b1 * c1 + b2 * c2 + b3 * c3 + b4 * c4) = a * b0 + a * b1 * c1 + a * b2 * c2 + a * b3 * c3 + a * b4 * c4 := by
 simp only [Nat.mul_add, Nat.mul_assoc]
theorem zhy (a c b0 b1 b2 b3 b4 c1 c2 c3 c4 : Nat) : a * c * (b0 + b1 * c1 + b2 * c2 + b3 * c3 + b4 * c4) = a * b0 * c + a * b1 * (c * c1) + a * b2 * (c * c2) + a * b3 * (c * c3) + a * b4 * (c * c4) := by
 rw [Nat.mul_add, Nat.mul_add, Nat.mul_add, Nat.mul_add, Nat.mul_mul_mul_comm a c b1, Nat.mul_mul_mul_comm a c b2, Nat.mul_mul_mul_comm a c b3, Nat.mul_mul_mul_comm a c b4, Nat.mul_right_comm a c b0]
theorem zAp (F G : Nat → Nat) : ∃ q, zbo F 5 * zbo G 5 = zbo (zd7 F G 25) 5 + q * pN := by
 refine ⟨?_, ?_⟩
 ·exact (F 1 * G 4 + F 2 * G 3 + F 3 * G 2 + F 4 * G 1) + (F 2 * G 4 + F 3 * G 3 + F 4 * G 2) * 2251799813685248 + (F 3 * G 4 + F 4 * G 3) * 5070602400912917605986812821504 + (F 4 * G 4) * 11417981541647679048466287755595961091061972992
 ·rw [zaS, zaS, zaS]
  have e : ∀ c, zd7 F G 25 c = zbO F G 0 c + zbO F G 1 c + zbO F G 2 c + zbO F G 3 c + zbO F G 4 c + zbO F G 5 c + zbO F G 6 c + zbO F G 7 c + zbO F G 8 c + zbO F G 9 c + zbO F G 10 c + zbO F G 11 c + zbO F G 12 c + zbO F G 13 c + zbO F G 14 c + zbO F G 15 c + zbO F G 16 c + zbO F G 17 c + zbO F G 18 c + zbO F G 19 c + zbO F G 20 c + zbO F G 21 c + zbO F G 22 c + zbO F G 23 c + zbO F G 24 c := by
   intro c; simp only [zd7]; omega
  have e0 : zd7 F G 25 0 = F 0 * G 0 + 19 * (F 1 * G 4 + F 2 * G 3 + F 3 * G 2 + F 4 * G 1) := by rw [e]; simp [zbO]; simp only [Nat.mul_left_comm _ 19 _]; omega
  have e1 : zd7 F G 25 1 = F 0 * G 1 + F 1 * G 0 + 19 * (F 2 * G 4 + F 3 * G 3 + F 4 * G 2) := by rw [e]; simp [zbO]; simp only [Nat.mul_left_comm _ 19 _]; omega
  have e2 : zd7 F G 25 2 = F 0 * G 2 + F 1 * G 1 + F 2 * G 0 + 19 * (F 3 * G 4 + F 4 * G 3) := by rw [e]; simp [zbO]; simp only [Nat.mul_left_comm _ 19 _]; omega
  have e3 : zd7 F G 25 3 = F 0 * G 3 + F 1 * G 2 + F 2 * G 1 + F 3 * G 0 + 19 * (F 4 * G 4) := by rw [e]; simp [zbO, Nat.mul_left_comm _ 19 _]
  have e4 : zd7 F G 25 4 = F 0 * G 4 + F 1 * G 3 + F 2 * G 2 + F 3 * G 1 + F 4 * G 0 := by rw [e]; simp [zbO]
  rw [e0, e1, e2, e3, e4]
  unfold pN
  rw [Nat.add_mul, Nat.add_mul, Nat.add_mul, Nat.add_mul, zxk, zhy, zhy, zhy, zhy]
  omega
attribute [local irreducible] zd7
def zdt (V : Nat → Nat) (i : Nat) : Nat := if i = 0 then (19 * ovN V 5 + loN V 0) % 2251799813685248 else if i = 1 then loN V 1 + (19 * ovN V 5 + loN V 0) / 2251799813685248 else loN V i
theorem zxm (V : Nat → Nat) : zbo (zdt V) 5 + ovN V 5 * pN = zbo V 5 := by
 have h := ztL V
 rw [zaS] at h
 rw [zaS, ← h]
 unfold zdt pN
 simp only [if_true, show (1 : Nat) ≠ 0 from by omega, show (2 : Nat) ≠ 0 from by omega, show (2 : Nat) ≠ 1 from by omega, show (3 : Nat) ≠ 0 from by omega, show (3 : Nat) ≠ 1 from by omega, show (4 : Nat) ≠ 0 from by omega, show (4 : Nat) ≠ 1 from by omega, if_false]
 omega
theorem ztO (V : Nat → Nat) (hV : ∀ i, i < 5 → V i < 10384593717069655257060992658440192) : ∀ m, m ≤ 5 → ovN V m < 9223372036854775808
 | 0, _ => by unfold ovN; omega
 | m + 1, h => by
  have := ztO V hV m (by omega)
  have := hV m (by omega)
  rw [zkk]
  omega
theorem ztP (V : Nat → Nat) (hV : ∀ i, i < 5 → V i < 10384593717069655257060992658440192) (i : Nat) (_hi : i < 5) : zdt V i < 9223372036854775808 := by
 have := ztO V hV 5 (by omega)
 have l : ∀ m, loN V m < 2251799813685248 := fun m => Nat.mod_lt _ (by omega)
 have := l 0
 have := l 1
 have := l i
 unfold zdt
 split
 ·omega
 ·split <;> omega
theorem zza (F G : Nat → Nat) (hF : ∀ i, i < 5 → F i < 4503599627370496) (hG : ∀ i, i < 5 → G i < 4503599627370496) (n c : Nat) (hn : n ≤ 25) : zd7 F G n c < 10384593717069655257060992658440192 := by
 have := ztN F G hF hG c n hn
 omega
def zci (F G : Nat → Nat) (i : Nat) : Nat := zdp (zdt (zd7 F G 25)) i
theorem zxn (F G : Nat → Nat) : zbo (zci F G) 5 % pN = zbo F 5 * zbo G 5 % pN := by
 obtain ⟨q, hq⟩ := zAp F G
 have h1 := zif (zdt (zd7 F G 25))
 have h2 := zxm (zd7 F G 25)
 have e : zbo (zci F G) 5 = zbo (zdp (zdt (zd7 F G 25))) 5 := rfl
 rw [e, hq, ← h2, ← h1]
 rw [Nat.add_mul_mod_self_right, Nat.add_mul_mod_self_right, Nat.add_mul_mod_self_right]
theorem zd8 (F G : Nat → Nat) (hF : okF F 5) (hG : okF G 5) : okF (zci F G) 5 := fun i hi => by
 have := zcr (zdt (zd7 F G 25)) (fun i hi => ztP _ (fun c hc => zza F G hF hG 25 c (by omega)) i hi) i hi
 show zdp _ i < _
 omega
def zgO (i : Nat) : Nat := if i = 0 then 2251799813685229 else 2251799813685247
def zc7 (F G : Nat → Nat) (i : Nat) : Nat := F i + (4 * zgO i - G i)
theorem ztQ (F G : Nat → Nat) (hF : okF F 5) (i : Nat) (hi : i < 5) : zc7 F G i < 9223372036854775808 := by
 have := hF i hi
 unfold zc7 zgO
 split <;> omega
theorem zxo (F G : Nat → Nat) (hG : okF G 5) : zbo (zc7 F G) 5 + zbo G 5 = zbo F 5 + 4 * pN := by
 rw [zaS, zaS, zaS]
 have := hG 0 (by omega); have := hG 1 (by omega); have := hG 2 (by omega); have := hG 3 (by omega); have := hG 4 (by omega)
 unfold zc7 zgO pN
 simp only [if_true, show (1 : Nat) ≠ 0 from by omega, show (2 : Nat) ≠ 0 from by omega, show (3 : Nat) ≠ 0 from by omega, show (4 : Nat) ≠ 0 from by omega, if_false]
 omega
theorem zAq (F G : Nat → Nat) (hG : okF G 5) : (zbo (zdp (zc7 F G)) 5 + zbo G 5) % pN = zbo F 5 % pN := by
 have h1 := zif (zc7 F G)
 have h2 := zxo F G hG
 have e : zbo (zdp (zc7 F G)) 5 + zbo G 5 + ovN (zc7 F G) 5 * pN = zbo F 5 + 4 * pN := by omega
 rw [← Nat.add_mul_mod_self_right _ (ovN (zc7 F G) 5), e, Nat.add_mul_mod_self_right]
theorem zAr (F G : Nat → Nat) : zbo (zdp fun i => F i + G i) 5 % pN = (zbo F 5 + zbo G 5) % pN := by
 have h1 := zif (fun i => F i + G i)
 have e : zbo (fun i => F i + G i) 5 = zbo F 5 + zbo G 5 := by rw [zaS, zaS, zaS]; omega
 rw [← e, ← h1, Nat.add_mul_mod_self_right]
theorem zzb (F : Nat → Nat) (hF : ∀ i, i < 5 → F i < 9223372036854775808) : okF (zdp F) 5 := fun i hi => by
 have := zcr F hF i hi
 omega
end
section
open Go.RowKit
attribute [local irreducible] zd7 zdm zaO zci zdp zc7
def sqN (F : Nat → Nat) : Nat → Nat → Nat
 | 0 => F
 | n + 1 => zci (sqN F n) (sqN F n)
theorem zih (F : Nat → Nat) (hF : okF F 5) : ∀ n, okF (sqN F n) 5
 | 0 => hF
 | n + 1 => zd8 _ _ (zih F hF n) (zih F hF n)
theorem zp2 (F : Nat → Nat) (n : Nat) : sqN F (n + 1) = zci (sqN F n) (sqN F n) := rfl
attribute [local irreducible] sqN
def zgi (X : Nat → Nat) (n : Nat) (Y : Nat → Nat) : Nat → Nat := zci (sqN X n) Y
theorem zeB (X Y : Nat → Nat) (n : Nat) (hX : okF X 5) (hY : okF Y 5) : okF (zgi X n Y) 5 := zd8 _ _ (zih X hX n) hY
end
section
open Go.RowKit
def ztR (v : Value) (w : World) : Prop := ∃ B, v = .pointer (some ⟨B, 0, none⟩) ∧ B < w.heap.size
theorem ztR.below {v : Value} {w w' : World} (h : ztR v w) (hb : Below w.heap.size w w') : ztR v w' := by
 obtain ⟨B, rfl, hB⟩ := h
 exact ⟨B, rfl, jT hB hb.size⟩
section
variable {P : Program} {Q : Exit → Act → World → Prop} {l : List Oper} {n : Nat} {a : Act} {w0 : World}
variable {ops : Array Oper} {o : Oper} {r : zzD} {w : World}
end
end
section
open Go.RowKit
inductive Fk where
 | v (x : Value)
 | n (z : List Chunk) (ty : TypeId)
def Fk.val : Fk → Option Value
 | .v x => some x
 | .n _ _ => none
def Fk.fact (m : Nat) : Fk → zzD
 | .v x => Is x
 | .n z ty => zEO m (.cells (ca z) ty (0, 0))
section
variable {a : Act} {N : Nat} {l : List (Nat × Value)}
end
section
variable {P : Program} {ops : Array Oper} {Q : Exit → Act → World → Prop} {o : Oper} {a : Act} {w w' w0 : World} {N : Nat} {l : List (Nat × Value)} {X G : List Nat} {L : List Res} {R : List (World → Prop)} {ds : List (Option Nat)} {Fs : List Fk}
end
section
variable {P : Program} {Q : Exit → Act → World → Prop} {ops : Array Oper} {l : List (Nat × Value)} {o : Oper} {N : Nat} {X G : List Nat} {w0 : World} {L : List Res} {R : List (World → Prop)} {ds : List (Option Nat)} {Fs : List Fk} {v : Value} {js : List Nat} {os : List Oper} {ps : List (List Nat)} {fs : List Fk}
end
end
section
open Go.RowKit
def uw (F : Nat → Nat) (i : Nat) : Value := .int .u64 ((F i : Nat) : Int)
end
namespace CanB
open Go.RowKit
inductive Tr where
 | nil
 | pure (i : Nat) (t : Tr)
 | eff (i : Nat) (t more : Tr)
inductive Tro where
 | nil
 | pure (o : Oper) (t : Tro)
 | eff (o : Oper) (t more : Tro)
section
variable {P : Program} {Q : Exit → Act → World → Prop} {md : Region.Mode} {N : Nat → Prop} {n : Nat} {w0 : World} {T : Act → World → Prop} {l : List Oper}
end
end CanB
section
open Go.RowKit
section
variable {P : Program} {ops : Array Oper} {Q : Exit → Act → World → Prop} {o : Oper} {a : Act} {w ws : World} {N d : Nat} {l : List (Nat × Value)} {v : Value} {S : Nat → Prop} {T : Act → World → Prop} {p m : CanB.Tro}
end
section
variable {P : Program} {o : Oper} {a : Act} {w : World} {Q : Exit → Act → World → Prop} {N : Nat} {l : List (Nat × Value)} {v : Value} {K : Act → World → Prop} {X G : List Nat} {w0 : World} {L : List Res} {R : List (World → Prop)}
end
section
variable {P : Program} {ops : Array Oper} {Q : Exit → Act → World → Prop} {S : Nat → Prop} {T : Act → World → Prop} {p : CanB.Tro} {a : Act} {o : Oper} {w ws w1 : World} {N d : Nat} {l : List (Nat × Value)} {v : Value}
end
end
section
open Go.RowKit
attribute [local irreducible] zd7 zdm zaO zci zdp zc7 sqN
def zkn (F : Nat → Nat) : Nat → Nat := sqN F 1
def zg4 (F : Nat → Nat) : Nat → Nat := zgi (zkn F) 2 F
def zcH (F : Nat → Nat) : Nat → Nat := zci (zg4 F) (zkn F)
def zeC (F : Nat → Nat) : Nat → Nat := zci (sqN (zcH F) 1) (zg4 F)
def zhm (F : Nat → Nat) : Nat → Nat := zgi (zeC F) 5 (zeC F)
def zcI (F : Nat → Nat) : Nat → Nat := zgi (zhm F) 10 (zhm F)
def zeD (F : Nat → Nat) : Nat → Nat := zgi (zcI F) 20 (zcI F)
def zcV (F : Nat → Nat) : Nat → Nat := zgi (zeD F) 10 (zhm F)
def zb3 (F : Nat → Nat) : Nat → Nat := zgi (zcV F) 50 (zcV F)
def zc8 (F : Nat → Nat) : Nat → Nat := zgi (zb3 F) 100 (zb3 F)
def zgj (F : Nat → Nat) : Nat → Nat := zgi (zc8 F) 50 (zcV F)
def zxp (F : Nat → Nat) : Nat → Nat := zgi (zgj F) 5 (zcH F)
theorem zp3 {F : Nat → Nat} (h : okF F 5) : okF (zkn F) 5 := zih F h 1
theorem zko {F : Nat → Nat} (h : okF F 5) : okF (zg4 F) 5 := zeB _ _ _ (zp3 h) h
theorem zgk {F : Nat → Nat} (h : okF F 5) : okF (zcH F) 5 := zd8 _ _ (zko h) (zp3 h)
theorem zkp {F : Nat → Nat} (h : okF F 5) : okF (zeC F) 5 := zd8 _ _ (zih _ (zgk h) 1) (zko h)
theorem zjm {F : Nat → Nat} (h : okF F 5) : okF (zhm F) 5 := zeB _ _ _ (zkp h) (zkp h)
theorem zgm {F : Nat → Nat} (h : okF F 5) : okF (zcI F) 5 := zeB _ _ _ (zjm h) (zjm h)
theorem zp4 {F : Nat → Nat} (h : okF F 5) : okF (zeD F) 5 := zeB _ _ _ (zgm h) (zgm h)
theorem ze5 {F : Nat → Nat} (h : okF F 5) : okF (zcV F) 5 := zeB _ _ _ (zp4 h) (zjm h)
theorem ze6 {F : Nat → Nat} (h : okF F 5) : okF (zb3 F) 5 := zeB _ _ _ (ze5 h) (ze5 h)
theorem zmK {F : Nat → Nat} (h : okF F 5) : okF (zc8 F) 5 := zeB _ _ _ (ze6 h) (ze6 h)
theorem zAs {F : Nat → Nat} (h : okF F 5) : okF (zgj F) 5 := zeB _ _ _ (zmK h) (ze5 h)
attribute [local irreducible] zkn zg4 zcH zeC zhm zcI zeD zcV zb3 zc8 zgj zgi
section
variable {X : List Nat} {w0 : World} {F G : Nat → Nat}
end
end
section
open Go.RowKit
theorem zmL (X Y : Nat → Nat) : ∀ n, (∀ i, i < n → X i = Y i) → zbo X n = zbo Y n
 | 0, _ => rfl
 | n + 1, h => by rw [zdY, zdY, zmL X Y n (fun i hi => h i (by omega)), h n (by omega)]
theorem zmN (F : Nat → Nat) (hF : okF F 5) (k : Nat) : zg3 F k = zaO (zbo (zdm F) 5) k := by unfold zg3; rw [if_pos hF]
def zfC (k : Nat → Nat) (i : Nat) : Nat := if i = 31 then k 31 % 128 else k i
theorem zDo (k : Nat → Nat) : okF (ofN k) 5 := fun i _ => by have : ofN k i < 2251799813685248 := Nat.mod_lt _ (by omega); omega
end
section
open Go.RowKit
attribute [local irreducible] zd7 zaO zci zdp zc7 sqN
def zbc (X : Nat → Nat) (v : Nat) : Prop := okF X 5 ∧ zbo X 5 % pN = v % pN
def zrp (F G : Nat → Nat) : Nat → Nat := zdp fun i => F i + G i
def zrq (F G : Nat → Nat) : Nat → Nat := zdp (zc7 F G)
theorem zjn {F G : Nat → Nat} (hF : okF F 5) (hG : okF G 5) : okF (zrp F G) 5 := zzb _ fun i hi => by have := hF i hi; have := hG i hi; show F i + G i < _; omega
theorem zii {F G : Nat → Nat} (hF : okF F 5) : okF (zrq F G) 5 := zzb _ fun i hi => ztQ F G hF i hi
theorem zxq {F G : Nat → Nat} {a b : Nat} (hF : zbc F a) (hG : zbc G b) : zbc (zrp F G) (a + b) :=
 ⟨zjn hF.1 hG.1, by unfold zrp; rw [zAr, Nat.add_mod, hF.2, hG.2, ← Nat.add_mod]⟩
theorem zij {F G : Nat → Nat} {a b : Nat} (hF : zbc F a) (hG : zbc G b) : zbc (zci F G) (a * b) :=
 ⟨zd8 F G hF.1 hG.1, by rw [zxn, Nat.mul_mod, hF.2, hG.2, ← Nat.mul_mod]⟩
theorem zxr {F G : Nat → Nat} {a b c : Nat} (hF : zbc F a) (hG : zbc G b) (h : (c + b) % pN = a % pN) : zbc (zrq F G) c := by
 refine ⟨zii hF.1, ?_⟩
 have h1 := zAq F G hG.1
 have e : zbo (zrq F G) 5 = zbo (zdp (zc7 F G)) 5 := rfl
 rw [e]
 generalize zbo (zdp (zc7 F G)) 5 = x at *
 have h2 : (x + b) % pN = (c + b) % pN := by
  rw [h, ← hF.2, ← h1, Nat.add_mod, ← hG.2, ← Nat.add_mod]
 generalize hp : pN = p at h2 ⊢
 have hp0 : 0 < p := by rw [← hp]; unfold pN; omega
 clear h1 e h hF hG
 have h3 : (x + b + (p - b % p)) % p = (c + b + (p - b % p)) % p := by rw [Nat.add_mod, h2, ← Nat.add_mod]
 have e1 : ∀ y, (y + b + (p - b % p)) % p = y % p := by
  intro y
  have hb := Nat.div_add_mod b p
  have hl := Nat.mod_lt b hp0
  have : y + b + (p - b % p) = y + p * (b / p + 1) := by rw [Nat.mul_add]; omega
  rw [this, Nat.add_mul_mod_self_left]
 rwa [e1, e1] at h3
theorem zkq {F : Nat → Nat} {a : Nat} (hF : zbc F a) : ∀ n, zbc (sqN F n) (a ^ 2 ^ n)
 | 0 => by unfold sqN; simpa using hF
 | n + 1 => by
  rw [zp2, Nat.pow_succ, Nat.mul_two, Nat.pow_add]
  exact zij (zkq hF n) (zkq hF n)
def znN (x : Nat) (i : Nat) : Nat := if i = 0 then x else 0
theorem zzc {x : Nat} (h : x < 4503599627370496) : okF (znN x) 5 := fun i _ => by unfold znN; split <;> omega
theorem zAt (x : Nat) : zbo (znN x) 5 = x := by rw [zaS]; unfold znN; simp
theorem zhz {x : Nat} (h : x < 4503599627370496) : zbc (znN x) x := ⟨zzc h, by rw [zAt]⟩
end
section
open Go.RowKit
attribute [local irreducible] zd7 zaO zci zdp zc7 sqN zrp zrq znN zbo zg3 zxp ofN
def sA (X Z : Nat → Nat) := zrp X Z
def sB (X Z : Nat → Nat) := zrq X Z
def sDA (X Z X' Z' : Nat → Nat) := zci (zrq X' Z') (sA X Z)
def sCB (X Z X' Z' : Nat → Nat) := zci (zrp X' Z') (sB X Z)
def sHX (X Z X' Z' : Nat → Nat) := sqN (zrp (sDA X Z X' Z') (sCB X Z X' Z')) 1
def sHZ (X Z X' Z' U : Nat → Nat) := zci U (sqN (zrq (sDA X Z X' Z') (sCB X Z X' Z')) 1)
def sAA (X Z : Nat → Nat) := sqN (sA X Z) 1
def sBB (X Z : Nat → Nat) := sqN (sB X Z) 1
def sE (X Z : Nat → Nat) := zrq (sAA X Z) (sBB X Z)
def sLX (X Z : Nat → Nat) := zci (sAA X Z) (sBB X Z)
def sLZ (X Z : Nat → Nat) := zci (sE X Z) (zrp (sAA X Z) (zci (znN 121665) (sE X Z)))
section
variable {X Z X' Z' U : Nat → Nat}
theorem zEF (h : okF X 5) (h' : okF Z 5) : okF (sA X Z) 5 := zjn h h'
theorem zEG (h : okF X 5) (h' : okF Z 5) : okF (sB X Z) 5 := zii h
theorem ztS (h1 : okF X 5) (h2 : okF Z 5) (h3 : okF X' 5) (h4 : okF Z' 5) : okF (sDA X Z X' Z') 5 := zd8 _ _ (zii h3) (zEF h1 h2)
theorem zAu (h1 : okF X 5) (h2 : okF Z 5) (h3 : okF X' 5) (h4 : okF Z' 5) : okF (sCB X Z X' Z') 5 := zd8 _ _ (zjn h3 h4) (zEG h1 h2)
theorem ztT (h : okF X 5) (h' : okF Z 5) : okF (sAA X Z) 5 := zih _ (zEF h h') 1
theorem zDp (h : okF X 5) (h' : okF Z 5) : okF (sBB X Z) 5 := zih _ (zEG h h') 1
theorem zEH (h : okF X 5) (h' : okF Z 5) : okF (sE X Z) 5 := zii (ztT h h')
theorem zik : okF (znN 121665) 5 := zzc (by omega)
end
end
section
def IsP (p : Nat) : Prop := 2 ≤ p ∧ ∀ d, d ∣ p → d = 1 ∨ d = p
theorem zmO {p a b : Nat} (hp : IsP p) (h : p ∣ a * b) : p ∣ a ∨ p ∣ b := by
 rcases hp.2 (Nat.gcd p a) (Nat.gcd_dvd_left p a) with h1 | h1
 ·exact .inr (Nat.Coprime.dvd_of_dvd_mul_left h1 h)
 ·exact .inl (by rw [← h1]; exact Nat.gcd_dvd_right p a)
theorem ztU (m : Nat) (h : 2 ≤ m) : ∃ q, IsP q ∧ q ∣ m := by
 induction m using Nat.strongRecOn with
 | _ m ih =>
  by_cases hm : ∃ d, d ∣ m ∧ d ≠ 1 ∧ d ≠ m
  ·obtain ⟨d, hd, h1, h2⟩ := hm
   have hle := Nat.le_of_dvd (by omega) hd
   have h0 : d ≠ 0 := fun e => by rw [e] at hd; have := Nat.eq_zero_of_zero_dvd hd; omega
   obtain ⟨q, hq, hqd⟩ := ih d (by omega) (by omega)
   exact ⟨q, hq, Nat.dvd_trans hqd hd⟩
  ·refine ⟨m, ⟨h, fun d hd => ?_⟩, Nat.dvd_refl m⟩
   by_cases h1 : d = 1
   ·exact .inl h1
   ·by_cases h2 : d = m
    ·exact .inr h2
    ·exact absurd ⟨d, hd, h1, h2⟩ hm
def zAv : List Nat → Nat
 | [] => 1
 | q :: l => q * zAv l
theorem ztV {q : Nat} (hq : IsP q) : ∀ (l : List Nat), (∀ x ∈ l, IsP x) → q ∣ zAv l → q ∈ l
 | [], _, h => by have := Nat.le_of_dvd (by unfold zAv; omega) h; unfold zAv at this; have := hq.1; omega
 | x :: l, hl, h => by
  rcases zmO hq h with h1 | h1
  ·rcases (hl x (by simp)).2 q h1 with h2 | h2
   ·have := hq.1; omega
   ·simp [h2]
  ·simp [ztV hq l (fun y hy => hl y (by simp [hy])) h1]
theorem zzd : ∀ (N : Nat) (f : Nat → Nat), (∀ i, i < N + 1 → f i < N) → ∃ i j, i < j ∧ j < N + 1 ∧ f i = f j
 | 0, f, h => absurd (h 0 (by omega)) (by omega)
 | N + 1, f, h => by
  by_cases hv : ∃ i, i < N + 1 ∧ f i = f (N + 1)
  ·obtain ⟨i, hi, e⟩ := hv
   exact ⟨i, N + 1, hi, by omega, e⟩
  ·have hne : ∀ i, i < N + 1 → f i ≠ f (N + 1) := fun i hi e => hv ⟨i, hi, e⟩
   have hlast := h (N + 1) (by omega)
   obtain ⟨i, j, hij, hj, e⟩ := zzd N (fun i => if f i = N then f (N + 1) else f i) (fun i hi => by
    have h1 := h i (by omega)
    have h2 := hne i hi
    try dsimp only
    split <;> omega)
   refine ⟨i, j, hij, by omega, ?_⟩
   have hi1 := hne i (by omega)
   have hj1 := hne j hj
   try dsimp only at e
   split at e <;> split at e <;> omega
theorem zF3 (N : Nat) (f : Nat → Nat) (h : ∀ i, i < N → f i < N) (inj : ∀ i j, i < j → j < N → f i ≠ f j) (y : Nat) (hy : y < N) : ∃ i, i < N ∧ f i = y := by
 refine Classical.byContradiction fun hno => ?_
 have hn : ∀ i, i < N → f i ≠ y := fun i hi e => hno ⟨i, hi, e⟩
 obtain ⟨M, rfl⟩ : ∃ M, N = M + 1 := ⟨N - 1, by omega⟩
 obtain ⟨i, j, hij, hj, e⟩ := zzd M (fun i => if f i = M then y else f i) (fun i hi => by
  have h1 := h i hi
  have h2 := hn i hi
  try dsimp only
  split <;> omega)
 have hi1 := hn i (by omega)
 have hj1 := hn j hj
 refine inj i j hij hj ?_
 try dsimp only at e
 split at e <;> split at e <;> omega
theorem zd9 {n g k : Nat} (h : g ^ k % n = 1 % n) (t : Nat) : g ^ (k * t) % n = 1 % n := by
 rw [Nat.pow_mul, Nat.pow_mod, h, ← Nat.pow_mod, Nat.one_pow]
theorem zDq {n g N x y : Nat} (hN : 0 < N) (h : g ^ N % n = 1 % n) (k : Nat) (e : g ^ k * x % n = g ^ k * y % n) : x % n = y % n := by
 have key : ∀ z, (g ^ (N - 1)) ^ k * (g ^ k * z) % n = z % n := by
  intro z
  rw [← Nat.mul_assoc, ← Nat.mul_pow, ← Nat.pow_succ, show (N - 1).succ = N from by omega, Nat.mul_mod, Nat.pow_mod, h, ← Nat.pow_mod, Nat.one_pow, ← Nat.mul_mod, Nat.one_mul]
 rw [← key x, ← key y, Nat.mul_mod, e, ← Nat.mul_mod]
theorem zE4 {p : Nat → Prop} : ∀ k, p k → ∃ e, p e ∧ ∀ d, d < e → ¬ p d := by
 intro k
 induction k using Nat.strongRecOn with
 | _ k ih =>
  intro hk
  by_cases hm : ∃ d, d < k ∧ p d
  ·obtain ⟨d, hd, hp⟩ := hm
   exact ih d hd hp
  ·exact ⟨k, hk, fun d hd hp => hm ⟨d, hd, hp⟩⟩
theorem zAw {n g N : Nat} {qs : List Nat} (hN : 0 < N) (hqs : ∀ q ∈ qs, IsP q) (hm : zAv qs = N) (h1 : g ^ N % n = 1 % n) (h2 : ∀ q ∈ qs, g ^ (N / q) % n ≠ 1 % n) (k : Nat) (hk0 : 0 < k) (hk : k < N) : g ^ k % n ≠ 1 % n := by
 intro hk1
 obtain ⟨e, ⟨he0, he1⟩, hmin⟩ := zE4 (p := fun e => 0 < e ∧ g ^ e % n = 1 % n) k ⟨hk0, hk1⟩
 have hek : e ≤ k := by
  rcases Nat.lt_or_ge k e with h | h
  ·exact absurd ⟨hk0, hk1⟩ (hmin k h)
  ·exact h
 have hdv : e ∣ N := by
  have hr := Nat.div_add_mod N e
  have hl := Nat.mod_lt N he0
  have h3 : g ^ (N % e) % n = 1 % n := by
   have h4 := zd9 he1 (N / e)
   rw [← hr, Nat.pow_add, Nat.mul_mod, h4, ← Nat.mul_mod, Nat.one_mul] at h1
   exact h1
  rcases Nat.eq_zero_or_pos (N % e) with h | h
  ·exact Nat.dvd_of_mod_eq_zero h
  ·exact absurd ⟨h, h3⟩ (hmin _ hl)
 obtain ⟨t, ht⟩ := hdv
 have ht2 : 2 ≤ t := by
  rcases Nat.lt_or_ge t 2 with h | h
  ·have : t = 0 ∨ t = 1 := by omega
   rcases this with rfl | rfl <;> omega
  ·exact h
 obtain ⟨q, hq, hqt⟩ := ztU t ht2
 have hqm : q ∈ qs := ztV hq qs hqs (by rw [hm, ht]; exact Nat.dvd_trans hqt (Nat.dvd_mul_left t e))
 obtain ⟨s, hs⟩ := hqt
 refine h2 q hqm ?_
 have : N / q = e * s := by
  rw [ht, hs, Nat.mul_left_comm]
  exact Nat.mul_div_cancel_left _ (by have := hq.1; omega)
 rw [this]
 exact zd9 he1 s
theorem zxs {n g : Nat} {qs : List Nat} (hn : 2 ≤ n) (hqs : ∀ q ∈ qs, IsP q) (hm : zAv qs = n - 1) (h1 : g ^ (n - 1) % n = 1) (h2 : ∀ q ∈ qs, g ^ ((n - 1) / q) % n ≠ 1) :
  IsP n ∧ ∀ a, a % n ≠ 0 → a ^ (n - 1) % n = 1 := by
 have e1 : 1 % n = 1 := Nat.mod_eq_of_lt (by omega)
 have hN : 0 < n - 1 := by omega
 have h1' : g ^ (n - 1) % n = 1 % n := by rw [h1, e1]
 have hless := zAw hN hqs hm h1' (fun q hq => by rw [e1]; exact h2 q hq)
 have all : ∀ a, a % n ≠ 0 → a ^ (n - 1) % n = 1 := by
  intro a ha
  have hlt := Nat.mod_lt a (show n > 0 by omega)
  have nz : ∀ i, g ^ i % n ≠ 0 := by
   intro i hi
   have h3 := zd9 h1' i
   rw [Nat.mul_comm, Nat.pow_mul, Nat.pow_mod, hi, e1] at h3
   rw [Nat.zero_pow hN, Nat.zero_mod] at h3
   omega
  obtain ⟨k, _, hk⟩ := zF3 (n - 1) (fun i => g ^ i % n - 1) (fun i hi => by
    have := nz i
    have := Nat.mod_lt (g ^ i) (show n > 0 by omega)
    try dsimp only
    omega) (fun i j hij hj e => by
    have a1 := nz i
    have a2 := nz j
    try dsimp only at e
    have e3 : g ^ i * 1 % n = g ^ i * g ^ (j - i) % n := by
     rw [Nat.mul_one, ← Nat.pow_add, show i + (j - i) = j from by omega]
     omega
    exact hless (j - i) (by omega) (by omega) (zDq hN h1' i e3).symm) (a % n - 1) (by omega)
  have hka : g ^ k % n = a % n := by have := nz k; omega
  have h4 := zd9 h1' k
  rw [Nat.mul_comm, Nat.pow_mul, Nat.pow_mod, hka, ← Nat.pow_mod, e1] at h4
  exact h4
 refine ⟨⟨hn, fun d hd => ?_⟩, all⟩
 by_cases hd1 : d = 1
 ·exact .inl hd1
 by_cases hdn : d = n
 ·exact .inr hdn
 exfalso
 have hle := Nat.le_of_dvd (by omega) hd
 have hd0 : d ≠ 0 := fun e => by rw [e] at hd; have := Nat.eq_zero_of_zero_dvd hd; omega
 have h3 := all d (by rw [Nat.mod_eq_of_lt (by omega)]; exact hd0)
 have h4 : d ∣ d ^ (n - 1) % n := by
  rw [Nat.dvd_mod_iff hd]
  exact Nat.dvd_trans (by rw [Nat.pow_one]; exact Nat.dvd_refl d) (Nat.pow_dvd_pow d (show 1 ≤ n - 1 by omega))
 rw [h3] at h4
 have := Nat.le_of_dvd (by omega) h4
 omega
def pw (n : Nat) : Nat → Nat → Nat → Nat
 | 0, _, _ => 1 % n
 | f + 1, b, e => if e % 2 = 1 then b * pw n f (b * b % n) (e / 2) % n else pw n f (b * b % n) (e / 2)
theorem zxt (n : Nat) : ∀ f b e, e < 2 ^ f → pw n f b e = b ^ e % n
 | 0, b, e, h => by
  have : e = 0 := by simpa using h
  subst this
  simp [pw]
 | f + 1, b, e, h => by
  have ih := zxt n f (b * b % n) (e / 2) (by rw [Nat.pow_succ] at h; omega)
  have e2 : (b * b % n) ^ (e / 2) % n = b ^ (2 * (e / 2)) % n := by rw [← Nat.pow_mod, ← Nat.pow_two, ← Nat.pow_mul]
  unfold pw
  rw [ih, e2]
  split
  ·rw [Nat.mul_mod_mod, ← Nat.pow_succ']
   congr 2
   omega
  ·congr 2
   omega
def zze (n g : Nat) (qs : List Nat) : Bool := decide (2 ≤ n) && decide (n < 2 ^ 256) && decide (zAv qs = n - 1) && decide (pw n 256 g (n - 1) = 1) && qs.all fun q => decide (pw n 256 g ((n - 1) / q) ≠ 1)
def zcN (v e : Nat) : Nat := v ^ e
def IsL (n : Nat) : Prop := IsP n ∧ ∀ a, a % n ≠ 0 → zcN a (n - 1) % n = 1
theorem za9 (n g : Nat) (qs : List Nat) (h : zze n g qs = true) (hqs : ∀ q ∈ qs, IsP q) : IsL n := by
 unfold IsL zcN
 simp only [zze, Bool.and_eq_true, jS, List.all_eq_true] at h
 obtain ⟨⟨⟨⟨h1, h2⟩, h3⟩, h4⟩, h5⟩ := h
 refine zxs h1 hqs h3 (by rw [← zxt n 256 g (n - 1) (Nat.lt_of_le_of_lt (Nat.sub_le _ _) h2)]; exact h4) (fun q hq => ?_)
 have := h5 q hq
 rwa [zxt n 256 g _ (Nat.lt_of_le_of_lt (Nat.div_le_self _ _) (Nat.lt_of_le_of_lt (Nat.sub_le _ _) h2))] at this
def zzf (n : Nat) : Bool := decide (2 ≤ n) && (List.range n).all fun d => decide (d < 2) || decide (n % d ≠ 0)
theorem zbh {n : Nat} (h : zzf n = true) : IsP n := by
 simp only [zzf, Bool.and_eq_true, jS, List.all_eq_true, Bool.or_eq_true, List.mem_range] at h
 refine ⟨h.1, fun d hd => ?_⟩
 by_cases hdn : d = n
 ·exact .inr hdn
 have hle := Nat.le_of_dvd (by omega) hd
 rcases h.2 d (by omega) with h2 | h2
 ·have : d ≠ 0 := fun e => by rw [e] at hd; have := Nat.eq_zero_of_zero_dvd hd; omega
  omega
 ·exact absurd (Nat.mod_eq_zero_of_dvd hd) h2
theorem zau : ∀ q ∈ ([] : List Nat), IsP q := fun _ h => by cases h
theorem all_cons {x : Nat} {l : List Nat} (h : IsP x) (hl : ∀ q ∈ l, IsP q) : ∀ q ∈ x :: l, IsP q := fun q hq => by
 rcases List.mem_cons.1 hq with rfl | hq
 ·exact h
 ·exact hl q hq
theorem p2 : IsP 2 := zbh (by decide +kernel)
theorem p3 : IsP 3 := zbh (by decide +kernel)
theorem p5 : IsP 5 := zbh (by decide +kernel)
theorem p7 : IsP 7 := zbh (by decide +kernel)
theorem p13 : IsP 13 := zbh (by decide +kernel)
theorem p17 : IsP 17 := zbh (by decide +kernel)
theorem p19 : IsP 19 := zbh (by decide +kernel)
theorem p23 : IsP 23 := zbh (by decide +kernel)
theorem p29 : IsP 29 := zbh (by decide +kernel)
theorem p31 : IsP 31 := zbh (by decide +kernel)
theorem p41 : IsP 41 := zbh (by decide +kernel)
theorem p43 : IsP 43 := zbh (by decide +kernel)
theorem p47 : IsP 47 := zbh (by decide +kernel)
theorem p59 : IsP 59 := zbh (by decide +kernel)
theorem p83 : IsP 83 := zbh (by decide +kernel)
theorem p97 : IsP 97 := zbh (by decide +kernel)
theorem zF4 : IsP 103 := zbh (by decide +kernel)
theorem zF5 : IsP 107 := zbh (by decide +kernel)
theorem zF6 : IsP 127 := zbh (by decide +kernel)
theorem zF7 : IsP 131 := zbh (by decide +kernel)
theorem zF8 : IsP 173 := zbh (by decide +kernel)
theorem zF9 : IsP 223 := zbh (by decide +kernel)
theorem zGa : IsP 353 := zbh (by decide +kernel)
theorem zGb : IsP 419 := zbh (by decide +kernel)
theorem zGc : IsP 479 := zbh (by decide +kernel)
theorem zGd : IsP 487 := zbh (by decide +kernel)
theorem zGe : IsP 991 := zbh (by decide +kernel)
theorem zE5 : IsL 1723 := za9 1723 3 [2, 3, 7, 41] (by decide +kernel) (all_cons p2 (all_cons p3 (all_cons p7 (all_cons p41 zau))))
theorem zE6 : IsL 2437 := za9 2437 2 [2, 2, 3, 7, 29] (by decide +kernel) (all_cons p2 (all_cons p2 (all_cons p3 (all_cons p7 (all_cons p29 zau)))))
theorem zE7 : IsL 3727 := za9 3727 3 [2, 3, 3, 3, 3, 23] (by decide +kernel) (all_cons p2 (all_cons p3 (all_cons p3 (all_cons p3 (all_cons p3 (all_cons p23 zau))))))
theorem zE8 : IsL 4153 := za9 4153 5 [2, 2, 2, 3, 173] (by decide +kernel) (all_cons p2 (all_cons p2 (all_cons p2 (all_cons p3 (all_cons zF8 zau)))))
theorem zE9 : IsL 9463 := za9 9463 3 [2, 3, 19, 83] (by decide +kernel) (all_cons p2 (all_cons p3 (all_cons p19 (all_cons p83 zau))))
theorem zDr : IsL 32573 := za9 32573 2 [2, 2, 17, 479] (by decide +kernel) (all_cons p2 (all_cons p2 (all_cons p17 (all_cons zGc zau))))
theorem zDs : IsL 37853 := za9 37853 2 [2, 2, 9463] (by decide +kernel) (all_cons p2 (all_cons p2 (all_cons zE9.1 zau)))
theorem zDt : IsL 57467 := za9 57467 2 [2, 59, 487] (by decide +kernel) (all_cons p2 (all_cons p59 (all_cons zGd zau)))
theorem zDu : IsL 65147 := za9 65147 2 [2, 32573] (by decide +kernel) (all_cons p2 (all_cons zDr.1 zau))
theorem zDv : IsL 75707 := za9 75707 2 [2, 37853] (by decide +kernel) (all_cons p2 (all_cons zDs.1 zau))
theorem zAx : IsL 132049 := za9 132049 26 [2, 2, 2, 2, 3, 3, 7, 131] (by decide +kernel) (all_cons p2 (all_cons p2 (all_cons p2 (all_cons p2 (all_cons p3 (all_cons p3 (all_cons p7 (all_cons zF7 zau))))))))
theorem zAy : IsL 430751 := za9 430751 17 [2, 5, 5, 5, 1723] (by decide +kernel) (all_cons p2 (all_cons p5 (all_cons p5 (all_cons p5 (all_cons zE5.1 zau)))))
theorem zAz : IsL 569003 := za9 569003 2 [2, 7, 97, 419] (by decide +kernel) (all_cons p2 (all_cons p7 (all_cons p97 (all_cons zGb zau))))
theorem zxu : IsL 1923133 := za9 1923133 2 [2, 2, 3, 43, 3727] (by decide +kernel) (all_cons p2 (all_cons p2 (all_cons p3 (all_cons p43 (all_cons zE7.1 zau)))))
theorem zxv : IsL 8574133 := za9 8574133 2 [2, 2, 3, 7, 103, 991] (by decide +kernel) (all_cons p2 (all_cons p2 (all_cons p3 (all_cons p7 (all_cons zF4 (all_cons zGe zau))))))
theorem zoo : IsL 2773320623 := za9 2773320623 5 [2, 2437, 569003] (by decide +kernel) (all_cons p2 (all_cons zE6.1 (all_cons zAz.1 zau)))
theorem zmP : IsL 72106336199 := za9 72106336199 7 [2, 13, 2773320623] (by decide +kernel) (all_cons p2 (all_cons p13 (all_cons zoo.1 zau)))
theorem zgP : IsL 1919519569386763 := za9 1919519569386763 2 [2, 3, 7, 19, 47, 47, 127, 8574133] (by decide +kernel) (all_cons p2 (all_cons p3 (all_cons p7 (all_cons p19 (all_cons p47 (all_cons p47 (all_cons zF6 (all_cons zxv.1 zau))))))))
theorem zgn : IsL 31757755568855353 := za9 31757755568855353 10 [2, 2, 2, 3, 31, 107, 223, 4153, 430751] (by decide +kernel) (all_cons p2 (all_cons p2 (all_cons p2 (all_cons p3 (all_cons p31 (all_cons zF5 (all_cons zF9 (all_cons zE8.1 (all_cons zAy.1 zau)))))))))
theorem zb4 : IsL 75445702479781427272750846543864801 := za9 75445702479781427272750846543864801 7 [2, 2, 2, 2, 2, 3, 3, 5, 5, 75707, 72106336199, 1919519569386763] (by decide +kernel) (all_cons p2 (all_cons p2 (all_cons p2 (all_cons p2 (all_cons p2 (all_cons p3 (all_cons p3 (all_cons p5 (all_cons p5 (all_cons zDv.1 (all_cons zmP.1 (all_cons zgP.1 zau))))))))))))
theorem zaV : IsL 74058212732561358302231226437062788676166966415465897661863160754340907 := za9 74058212732561358302231226437062788676166966415465897661863160754340907 2 [2, 3, 353, 57467, 132049, 1923133, 31757755568855353, 75445702479781427272750846543864801] (by decide +kernel) (all_cons p2 (all_cons p3 (all_cons zGa (all_cons zDt.1 (all_cons zAx.1 (all_cons zxu.1 (all_cons zgn.1 (all_cons zb4.1 zau))))))))
theorem zar : IsL 57896044618658097711785492504343953926634992332820282019728792003956564819949 := za9 57896044618658097711785492504343953926634992332820282019728792003956564819949 2 [2, 2, 3, 65147, 74058212732561358302231226437062788676166966415465897661863160754340907] (by decide +kernel) (all_cons p2 (all_cons p2 (all_cons p3 (all_cons zDu.1 (all_cons zaV.1 zau)))))
end
section
attribute [local irreducible] zd7 zaO zci zdp zc7 zrp zrq zbo
theorem zkr (v : Nat) : zcN v 1 = v := Nat.pow_one v
theorem zAA (v e n : Nat) : zcN v e ^ 2 ^ n = zcN v (e * 2 ^ n) := (Nat.pow_mul v e _).symm
theorem zhA (v e f : Nat) : zcN v e * zcN v f = zcN v (e + f) := (Nat.pow_add v e f).symm
theorem zAB (v e k : Nat) (h : e + 1 = k) : v * zcN v e = zcN v k := by subst h; exact (Nat.pow_succ' ..).symm
theorem zxw (v w e n : Nat) (h : v % n = w % n) : zcN v e % n = zcN w e % n := by unfold zcN; rw [Nat.pow_mod, h, ← Nat.pow_mod]
theorem zmQ (e n : Nat) (v : Nat) (he : e ≠ 0) (h : v % n = 0) : zcN v e % n = 0 := by
 unfold zcN
 rw [Nat.pow_mod, h, Nat.zero_pow (Nat.pos_of_ne_zero he), Nat.zero_mod]
attribute [local irreducible] zcN
theorem zmR (v : Nat) (h : v % pN ≠ 0) : zcN v 57896044618658097711785492504343953926634992332820282019728792003956564819948 % pN = 1 := by
 have h1 := zar.2 v
 unfold pN at h ⊢
 exact h1 h
theorem zop {F : Nat → Nat} {v e : Nat} (hF : zbc F (zcN v e)) (n k : Nat) (h : e * 2 ^ n = k) : zbc (sqN F n) (zcN v k) := by
 have := zkq hF n
 rwa [zAA, h] at this
theorem zim {F G : Nat → Nat} {v e f k : Nat} (hF : zbc F (zcN v e)) (hG : zbc G (zcN v f)) (h : e + f = k) : zbc (zci F G) (zcN v k) := by
 have := zij hF hG
 rwa [zhA, h] at this
theorem zcs {F G : Nat → Nat} {v e f k : Nat} (n : Nat) (hF : zbc F (zcN v e)) (hG : zbc G (zcN v f)) (h : e * 2 ^ n + f = k) : zbc (zgi F n G) (zcN v k) :=
 zim (zop hF n _ rfl) hG h
theorem zp5 {F : Nat → Nat} {v : Nat} (hF : zbc F v) : zbc (zxp F) (zcN v 57896044618658097711785492504343953926634992332820282019728792003956564819947) := by
 have h1 : zbc F (zcN v 1) := by rw [zkr]; exact hF
 have h2 : zbc (zkn F) (zcN v 2) := zop h1 1 _ rfl
 have h9 : zbc (zg4 F) (zcN v 9) := zcs 2 h2 h1 rfl
 have h11 : zbc (zcH F) (zcN v 11) := zim h9 h2 rfl
 have h5 : zbc (zeC F) (zcN v 31) := zim (zop h11 1 22 rfl) h9 rfl
 have h10 : zbc (zhm F) (zcN v 1023) := zcs 5 h5 h5 rfl
 have h20 : zbc (zcI F) (zcN v 1048575) := zcs 10 h10 h10 rfl
 have h40 : zbc (zeD F) (zcN v 1099511627775) := zcs 20 h20 h20 rfl
 have h50 : zbc (zcV F) (zcN v 1125899906842623) := zcs 10 h40 h10 rfl
 have h100 : zbc (zb3 F) (zcN v 1267650600228229401496703205375) := zcs 50 h50 h50 rfl
 have h200 : zbc (zc8 F) (zcN v 1606938044258990275541962092341162602522202993782792835301375) := zcs 100 h100 h100 rfl
 have h250 : zbc (zgj F) (zcN v 1809251394333065553493296640760748560207343510400633813116524750123642650623) := zcs 50 h200 h50 rfl
 exact zcs 5 h250 h11 rfl
theorem zAC (v : Nat) (h : v % pN ≠ 0) : v * zcN v 57896044618658097711785492504343953926634992332820282019728792003956564819947 % pN = 1 % pN := by
 rw [zAB v _ 57896044618658097711785492504343953926634992332820282019728792003956564819948 rfl, zmR v h]
 rfl
end
section
open Go.RowKit
theorem ztW (k : Nat → Nat) (hk : ∀ i, i < 32 → k i < 256) : kvN (zfC k) 32 = kvN k 32 % 57896044618658097711785492504343953926634992332820282019728792003956564819968 := by
 have e1 : kvN (zfC k) 31 = kvN k 31 := zig _ _ 31 (fun i hi => by unfold zfC; rw [if_neg (by omega)])
 have e2 : kvN (zfC k) 32 = kvN (zfC k) 31 + zfC k 31 * 2 ^ (8 * 31) := rfl
 have e3 : kvN k 32 = kvN k 31 + k 31 * 2 ^ (8 * 31) := rfl
 have h1 := zpZ k 31 (fun i hi => hk i (by omega)) 31 (jV _)
 have h2 : zfC k 31 = k 31 % 128 := by unfold zfC; rw [if_pos rfl]
 rw [e2, e3, e1, h2]
 generalize kvN k 31 = v at *
 generalize k 31 = x at *
 rw [show (2 : Nat) ^ (8 * 31) = 452312848583266388373324160190187140051835877600158453279131187530910662656 from rfl] at *
 omega
theorem zAD (k : Nat → Nat) (hk : ∀ i, i < 32 → k i < 256) : zbo (ofN k) 5 % pN = kvN (zfC k) 32 % pN := by
 have e : zbo (ofN k) 5 = zbo (zEE (kvN k 32)) 5 := by
  rw [zaS, zaS]
  simp only [zAn]
 rw [e, zAm, ztW k hk]
theorem zoq {F : Nat → Nat} (hF : okF F 5) {v : Nat} (h : zbo F 5 % pN = v) (i : Nat) : ((zg3 F i : Nat) : Int) = ((zaO v i : Nat) : Int) := by
 rw [zmN F hF i, ztM F (fun i hi => zxg hF i hi), h]
attribute [local irreducible] zd7 zaO zci zdp zc7 sqN zrp zrq znN zbo zg3 zxp ofN
def fA (a b : Nat) : Nat := (a + b) % pN
def fS (a b : Nat) : Nat := (a + (pN - b)) % pN
def fM (a b : Nat) : Nat := a * b % pN
structure Pt where
 x : Nat
 z : Nat
def zfN (q : Pt) : Prop := q.x < pN ∧ q.z < pN
def zxx (q : Pt) : Nat := fS (fM (fA q.x q.z) (fA q.x q.z)) (fM (fS q.x q.z) (fS q.x q.z))
def znO (q : Pt) : Pt := ⟨fM (fM (fA q.x q.z) (fA q.x q.z)) (fM (fS q.x q.z) (fS q.x q.z)), fM (zxx q) (fA (fM (fA q.x q.z) (fA q.x q.z)) (fM 121665 (zxx q)))⟩
def zor (q s : Pt) : Nat := fM (fS s.x s.z) (fA q.x q.z)
def zos (q s : Pt) : Nat := fM (fA s.x s.z) (fS q.x q.z)
def zks (u : Nat) (q s : Pt) : Pt := ⟨fM (fA (zor q s) (zos q s)) (fA (zor q s) (zos q s)), fM u (fM (fS (zor q s) (zos q s)) (fS (zor q s) (zos q s)))⟩
def zgo (u b : Nat) (q s : Pt) : Pt × Pt := if b = 1 then (zks u s q, znO s) else (znO q, zks u q s)
def zei (k : Nat → Nat) (n : Nat) : Nat := k ((254 - n) / 8) / 2 ^ ((254 - n) % 8) % 2
def zdP (u : Nat) (k : Nat → Nat) : Nat → Pt × Pt
 | 0 => (⟨1, 0⟩, ⟨u, 1⟩)
 | n + 1 => zgo u (zei k n) (zdP u k n).1 (zdP u k n).2
def zbe (k : Nat → Nat) (i : Nat) : Nat := if i = 0 then k 0 / 8 * 8 else if i = 31 then k 31 % 64 + 64 else k i
def zdu (k : Nat → Nat) (u : Nat) : Nat := fM (zdP u (zbe k) 255).1.x (zcN (zdP u (zbe k) 255).1.z 57896044618658097711785492504343953926634992332820282019728792003956564819947)
def zjo (u : Nat → Nat) : Nat := kvN (zfC u) 32 % pN
theorem zcO : 0 < pN := by unfold pN; decide +kernel
theorem zot (a b : Nat) : fA a b < pN := Nat.mod_lt _ zcO
theorem zmS (a b : Nat) : fS a b < pN := Nat.mod_lt _ zcO
theorem zc9 (a b : Nat) : fM a b < pN := Nat.mod_lt _ zcO
theorem zzg (q : Pt) : zfN (znO q) := ⟨zc9 _ _, zc9 _ _⟩
theorem zzh (u : Nat) (q s : Pt) : zfN (zks u q s) := ⟨zc9 _ _, zc9 _ _⟩
theorem zhB : 1 < pN := by unfold pN; decide +kernel
theorem zmT (u : Nat) (hu : u < pN) (k : Nat → Nat) : ∀ n, zfN (zdP u k n).1 ∧ zfN (zdP u k n).2
 | 0 => ⟨⟨zhB, zcO⟩, ⟨hu, zhB⟩⟩
 | n + 1 => by
  unfold zdP zgo
  split
  ·exact ⟨zzh _ _ _, zzg _⟩
  ·exact ⟨zzg _, zzh _ _ _⟩
theorem zgQ (k : Nat → Nat) (n : Nat) : zei k n = 0 ∨ zei k n = 1 := by unfold zei; omega
theorem zkt {F : Nat → Nat} {a : Nat} (h : zbc F a) : zbc F (a % pN) := ⟨h.1, by rw [h.2, Nat.mod_mod]⟩
theorem zmU {F G : Nat → Nat} {a b : Nat} (hF : zbc F a) (hG : zbc G b) : zbc (zrp F G) (fA a b) := zkt (zxq hF hG)
theorem zmV {F G : Nat → Nat} {a b : Nat} (hF : zbc F a) (hG : zbc G b) (hb : b < pN) : zbc (zrq F G) (fS a b) := by
 refine zxr hF hG ?_
 unfold fS
 rw [Nat.mod_add_mod, show a + (pN - b) + b = a + pN by omega, Nat.add_mod_right]
theorem zin {F G : Nat → Nat} {a b : Nat} (hF : zbc F a) (hG : zbc G b) : zbc (zci F G) (fM a b) := zkt (zij hF hG)
theorem zp6 {F : Nat → Nat} {a : Nat} (hF : zbc F a) : zbc (sqN F 1) (fM a a) := by
 have h := zkt (zkq hF 1)
 rw [show a ^ 2 ^ 1 = a * a from by rw [Nat.pow_one]; exact Nat.pow_two a] at h
 exact h
section
variable {X Z X' Z' U : Nat → Nat} {q s : Pt} {u : Nat}
theorem zou (hX : zbc X q.x) (hZ : zbc Z q.z) : zbc (sAA X Z) (fM (fA q.x q.z) (fA q.x q.z)) := zp6 (zmU hX hZ)
theorem ztX (hX : zbc X q.x) (hZ : zbc Z q.z) (hq : zfN q) : zbc (sBB X Z) (fM (fS q.x q.z) (fS q.x q.z)) := zp6 (zmV hX hZ hq.2)
theorem zzi (hX : zbc X q.x) (hZ : zbc Z q.z) (hq : zfN q) : zbc (sE X Z) (zxx q) := zmV (zou hX hZ) (ztX hX hZ hq) (zc9 _ _)
theorem zAE (hX : zbc X q.x) (hZ : zbc Z q.z) (hq : zfN q) : zbc (sLX X Z) (znO q).x := zin (zou hX hZ) (ztX hX hZ hq)
theorem zAF (hX : zbc X q.x) (hZ : zbc Z q.z) (hq : zfN q) : zbc (sLZ X Z) (znO q).z := zin (zzi hX hZ hq) (zmU (zou hX hZ) (zin (zhz (by omega)) (zzi hX hZ hq)))
theorem ztY (hX : zbc X q.x) (hZ : zbc Z q.z) (hX' : zbc X' s.x) (hZ' : zbc Z' s.z) (hs : zfN s) : zbc (sDA X Z X' Z') (zor q s) := zin (zmV hX' hZ' hs.2) (zmU hX hZ)
theorem ztZ (hX : zbc X q.x) (hZ : zbc Z q.z) (hX' : zbc X' s.x) (hZ' : zbc Z' s.z) (hq : zfN q) : zbc (sCB X Z X' Z') (zos q s) := zin (zmU hX' hZ') (zmV hX hZ hq.2)
theorem zAG (hX : zbc X q.x) (hZ : zbc Z q.z) (hX' : zbc X' s.x) (hZ' : zbc Z' s.z) (hq : zfN q) (hs : zfN s) : zbc (sHX X Z X' Z') (zks u q s).x := zp6 (zmU (ztY hX hZ hX' hZ' hs) (ztZ hX hZ hX' hZ' hq))
theorem zAH (hX : zbc X q.x) (hZ : zbc Z q.z) (hX' : zbc X' s.x) (hZ' : zbc Z' s.z) (hq : zfN q) (hs : zfN s) (hU : zbc U u) : zbc (sHZ X Z X' Z' U) (zks u q s).z := zin hU (zp6 (zmV (ztY hX hZ hX' hZ' hs) (ztZ hX hZ hX' hZ' hq) (zc9 _ _)))
end
end
section
open Go.RowKit
def zzj (x s : Nat) : Nat := orW (zr4 x s) (zrb x (32 - s))
def zmX (x a b sh : Nat) : Nat := zcA (zcA (zzj x (32 - a)) (zzj x (32 - b))) (zrb x sh)
def zg5 (x a b c : Nat) : Nat := zcA (zcA (zzj x (32 - a)) (zzj x (32 - b))) (zzj x (32 - c))
theorem zAI : ∀ a : Fin 32, 1 ≤ a.val → IntKind.u64.wrap (((BitVec.ofInt 64 (IntKind.u64.wrap (-((a.val : Nat) : Int))) &&& BitVec.ofInt 64 31).toNat : Nat) : Int) = (((32 - a.val : Nat)) : Int) := by decide
def zt0 (l : List Nat) : Nat := orW (orW (orW (zr4 (l.getD 0 0 % 4294967296) 24) (zr4 (l.getD 1 0 % 4294967296) 16)) (zr4 (l.getD 2 0 % 4294967296) 8)) (l.getD 3 0 % 4294967296)
def zku (k : List Nat) (n : Nat) : Nat → Nat := fun i => if i < n then zt0 (k.drop (4 * i)) else 0
def zej (w : Nat → Nat) (t : Nat) : Nat → Nat := if 16 ≤ t then upd w (t % 16) (zb0 (w (t % 16)) (zb0 (zb0 (zmX (w ((t + 1) % 16)) 7 18 3) (w ((t + 9) % 16))) (zmX (w ((t + 14) % 16)) 17 19 10))) else w
def zzk (gt w v : Nat → Nat) (t : Nat) : Nat := zb0 (zb0 (zb0 (zb0 (v 7) (zg5 (v 4) 6 11 25)) (zcA (v 6) (zem (v 4) (zcA (v 5) (v 6))))) (gt t)) (w (t % 16))
def zAJ (v : Nat → Nat) : Nat := zb0 (zg5 (v 0) 2 13 22) (orW (zem (v 0) (v 1)) (zem (v 2) (orW (v 0) (v 1))))
def zgp (v : Nat → Nat) (one two : Nat) : Nat → Nat
 | 0 => zb0 one two
 | 1 => v 0
 | 2 => v 1
 | 3 => v 2
 | 4 => zb0 (v 3) one
 | 5 => v 4
 | 6 => v 5
 | _ => v 6
def zi4 (gt : Nat → Nat) (k : List Nat) (h : Nat → Nat) : Nat → (Nat → Nat) × (Nat → Nat)
 | 0 => (zku k 16, h)
 | t + 1 => (zej (zi4 gt k h t).1 t, zgp (zi4 gt k h t).2 (zzk gt (zej (zi4 gt k h t).1 t) (zi4 gt k h t).2 t) (zAJ (zi4 gt k h t).2))
theorem zt1 (v : Nat → Nat) (one two : Nat) : zgp v one two 0 = zb0 one two := rfl
theorem zt2 (v : Nat → Nat) (one two : Nat) : zgp v one two 4 = zb0 (v 3) one := rfl
theorem zt3 {gt h w v : Nat → Nat} {k : List Nat} {t : Nat} (hM : (w, v) = zi4 gt k h t) : (zej w t, zgp v (zzk gt (zej w t) v t) (zAJ v)) = zi4 gt k h (t + 1) := by
 rw [zi4, ← hM]
def zrr (h v : Nat → Nat) (n : Nat) : Nat → Nat := fun i => if i < n then zb0 (h i) (v i) else h i
def zfp (gt h : Nat → Nat) (k : List Nat) : Nat → Nat := zrr h (zi4 gt k h 64).2 8
theorem zkv (f : Nat → Nat) (i v j : Nat) : upd (fun i => u32 (f i)) i (u32 v) j = u32 (upd f i v j) := by
 unfold upd; split <;> rfl
theorem zrs (k : List Nat) (n j : Nat) : upd (fun i => u32 (zku k n i)) n (u32 (zt0 (k.drop (4 * n)))) j = u32 (zku k (n + 1) j) := by
 rw [zkv]
 congr 2
 unfold upd zku
 by_cases h : j = n
 ·subst h; simp
 ·rw [if_neg h]
  by_cases h2 : j < n
  ·rw [if_pos h2, if_pos (by omega)]
  ·rw [if_neg h2, if_neg (by omega)]
theorem zmY (h v : Nat → Nat) (n j : Nat) : upd (fun i => u32 (zrr h v n i)) n (u32 (zb0 (h n) (v n))) j = u32 (zrr h v (n + 1) j) := by
 rw [zkv]
 congr 2
 unfold upd zrr
 by_cases hj : j = n
 ·subst hj; simp
 ·rw [if_neg hj]
  by_cases h2 : j < n
  ·rw [if_pos h2, if_pos (by omega)]
  ·rw [if_neg h2, if_neg (by omega)]
theorem zt4 (h v : Nat → Nat) (n : Nat) : zrr h v n n = h n := by simp [zrr]
theorem zFa (m : Nat) : (BitVec.ofInt 64 (m : Int) &&& BitVec.ofInt 64 15).toNat = m % 16 := by
 have e : (BitVec.ofInt 64 15).toNat = 15 := rfl
 rw [BitVec.toNat_and, e, BitVec.toNat_ofInt, Nat.and_two_pow_sub_one_eq_mod _ 4]
 omega
def zfD (gt h : Nat → Nat) (l : List Nat) : (Nat → Nat) × List Nat := if 64 ≤ l.length then zfD gt (zfp gt h (l.take 64)) (l.drop 64) else (h, l)
termination_by l.length
decreasing_by simp only [List.length_drop]; omega
theorem zdZ {gt h : Nat → Nat} {l : List Nat} (hl : 64 ≤ l.length) : zfD gt h l = zfD gt (zfp gt h (l.take 64)) (l.drop 64) := by rw [zfD, if_pos hl]
theorem zda {gt h : Nat → Nat} {l : List Nat} (hl : ¬ 64 ≤ l.length) : zfD gt h l = (h, l) := by rw [zfD, if_neg hl]
theorem zkw (gt : Nat → Nat) : ∀ (n : Nat) (h : Nat → Nat) (l : List Nat), l.length ≤ n → (zfD gt h l).2.length < 64
 | 0, h, l, hl => by rw [zda (by omega)]; show l.length < 64; omega
 | n + 1, h, l, hl => by
  by_cases h1 : 64 ≤ l.length
  ·rw [zdZ h1]; exact zkw gt n _ _ (by rw [List.length_drop]; omega)
  ·rw [zda h1]; show l.length < 64; omega
def iv0 : Nat → Nat
 | 0 => 1779033703
 | 1 => 3144134277
 | 2 => 1013904242
 | 3 => 2773480762
 | 4 => 1359893119
 | 5 => 2600822924
 | 6 => 528734635
 | _ => 1541459225
def zrt (n : Nat) : List Nat := 128 :: List.replicate (63 - (n + 8) % 64) 0
def zru (m j : Nat) : List Nat := (List.range j).map fun q => m / 2 ^ (8 * (7 - q)) % 256
def zfE (n : Nat) : List Nat := zrt n ++ zru (n * 2 ^ 3 % 18446744073709551616) 8
def zov (x : Nat) : List Nat := [zrb x 24 % 256, zrb x 16 % 256, zrb x 8 % 256, x % 256]
def zdn (h : Nat → Nat) (n : Nat) : List Nat := (List.range n).flatMap fun i => zov (h i)
def zEI (gt h : Nat → Nat) (n : Nat) (rest : List Nat) : List Nat := zdn (zfD gt h (rest ++ zfE n)).1 8
def zt5 (gt : Nat → Nat) (s : (Nat → Nat) × Nat × List Nat) (b : List Nat) : (Nat → Nat) × Nat × List Nat := ((zfD gt s.1 (s.2.2 ++ b)).1, s.2.1 + b.length, (zfD gt s.1 (s.2.2 ++ b)).2)
def zfq (gt : Nat → Nat) (ps : List (List Nat)) : (Nat → Nat) × Nat × List Nat := ps.foldl (zt5 gt) (iv0, 0, [])
def zk0 (gt : Nat → Nat) (ps : List (List Nat)) : List Nat := zEI gt (zfq gt ps).1 (zfq gt ps).2.1 (zfq gt ps).2.2
theorem zfF (h : Nat → Nat) (n : Nat) : zdn h (n + 1) = zdn h n ++ zov (h n) := by
 unfold zdn
 rw [List.range_succ, List.flatMap_append]
 simp
theorem ze7 (h : Nat → Nat) : ∀ n, (zdn h n).length = 4 * n
 | 0 => rfl
 | n + 1 => by rw [zfF, jQ, ze7 h n]; simp [zov]; omega
theorem zrv (x : Nat) : ∀ z ∈ zov x, z < 256 := fun z hz => by
 simp only [zov, List.mem_cons, List.not_mem_nil, or_false] at hz
 omega
theorem zow (h : Nat → Nat) (n : Nat) : ∀ z ∈ zdn h n, z < 256 := fun z hz => by
 obtain ⟨i, _, hi⟩ := List.mem_flatMap.1 hz
 exact zrv _ z hi
theorem zgq (gt : Nat → Nat) (ps : List (List Nat)) : (zk0 gt ps).length = 32 := ze7 _ 8
theorem zeE (gt : Nat → Nat) (ps : List (List Nat)) : ∀ z ∈ zk0 gt ps, z < 256 := zow _ 8
theorem zkx (n : Nat) : (zrt n).length = 64 - (n + 8) % 64 := by
 have : (n + 8) % 64 < 64 := Nat.mod_lt _ (by decide)
 simp only [zrt, List.length_cons, List.length_replicate]
 omega
theorem zmZ (n : Nat) : ∀ z ∈ zrt n, z < 256 := fun z hz => by
 rcases List.mem_cons.1 hz with rfl | h
 ·decide
 ·rw [(List.mem_replicate.1 h).2]; decide
theorem zt6 (m j : Nat) : zru m (j + 1) = zru m j ++ [m / 2 ^ (8 * (7 - j)) % 256] := by
 unfold zru; rw [List.range_succ, List.map_append]; rfl
theorem zky (m j : Nat) : (zru m j).length = j := by simp [zru]
theorem zm0 (m j : Nat) : ∀ z ∈ zru m j, z < 256 := fun z hz => by
 obtain ⟨q, _, rfl⟩ := List.mem_map.1 hz
 exact Nat.mod_lt _ (by decide)
theorem zox {gt : Nat → Nat} {ps : List (List Nat)} {i : Nat} {b : List Nat} (hi : ps[i]? = some b) : zfq gt (ps.take (i + 1)) = zt5 gt (zfq gt (ps.take i)) b := by
 unfold zfq
 rw [List.take_add_one, hi, List.foldl_append]
 rfl
theorem zm1 (gt : Nat → Nat) : ∀ (n : Nat) (h : Nat → Nat) (l : List Nat), l.length ≤ n → (∀ x ∈ l, x < 256) → ∀ x ∈ (zfD gt h l).2, x < 256
 | 0, h, l, hl, hb => by rw [zda (by omega)]; exact hb
 | n + 1, h, l, hl, hb => by
  by_cases h1 : 64 ≤ l.length
  ·rw [zdZ h1]; exact zm1 gt n _ _ (by rw [List.length_drop]; omega) fun x hx => hb x (List.mem_of_mem_drop hx)
  ·rw [zda h1]; exact hb
end
section
open Go.RowKit
section
variable {x y k : Nat} {j : Int} {A : Int → Prop}
theorem zaW (h : A ((zb0 x y : Nat) : Int)) : ∃ z, IntKind.u32.wrap ((x : Int) + (y : Int)) = z ∧ A z := ⟨_, by rw [← Int.natCast_add, zfu]; rfl, h⟩
theorem zxW (h : A ((zcA x y : Nat) : Int)) : ∃ z, IntKind.u32.wrap ((BitVec.ofInt IntKind.u32.bits (x : Int) ^^^ BitVec.ofInt IntKind.u32.bits (y : Int)).toNat : Nat) = z ∧ A z := ⟨_, zCS x y, h⟩
theorem znW (h : A ((zem x y : Nat) : Int)) : ∃ z, IntKind.u32.wrap ((BitVec.ofInt IntKind.u32.bits (x : Int) &&& BitVec.ofInt IntKind.u32.bits (y : Int)).toNat : Nat) = z ∧ A z := ⟨_, zER x y, h⟩
theorem zoW (h : A ((orW x y : Nat) : Int)) : ∃ z, IntKind.u32.wrap ((BitVec.ofInt IntKind.u32.bits (x : Int) ||| BitVec.ofInt IntKind.u32.bits (y : Int)).toNat : Nat) = z ∧ A z := ⟨_, zFX x y, h⟩
theorem zlW (hj : j = (k : Int)) (h : A ((zr4 x k : Nat) : Int)) : 0 ≤ j ∧ ∃ z, IntKind.u32.wrap ((x : Int) * 2 ^ (min j.toNat IntKind.u32.bits)) = z ∧ A z := ⟨by omega, _, by
 unfold zr4
 rw [← zfu, hj, Int.toNat_natCast]
 have : IntKind.u32.bits = 32 := rfl
 rw [this]
 norm_cast, h⟩
theorem zrW (hj : j = (k : Int)) (h : A ((zrb x k : Nat) : Int)) : 0 ≤ j ∧ ∃ z, ((x : Int)).fdiv (2 ^ (min j.toNat IntKind.u32.bits)) = z ∧ A z := ⟨by omega, _, by
 unfold zrb
 rw [zzK, hj, Int.toNat_natCast]
 rfl, h⟩
theorem zt7 (hn : k ≤ 100) (h : A (-((k : Nat) : Int))) : ∃ z, IntKind.i64.wrap (0 - (k : Int)) = z ∧ A z := ⟨_, by rw [zv7 (by omega) (by omega), show (0 : Int) - (k : Int) = -(k : Int) by omega], h⟩
end
def wS (x : Nat) : SV := .a (.s (.p (.v (u32 x))))
section
variable {X : List Nat} {w : World} {x n a b c : Nat}
theorem zm2 (hX : ∀ k ∈ X, k < w.heap.size) (h1 : 1 ≤ n) (h2 : n < 32) : Ct Tryz.prog 195 [u32 x, .int .i64 (-((n : Nat) : Int))] X w (wS (zzj x (32 - n))) [] [] := by
 refine vFn (k0 := 0) (rs := [.tmp 4]) (svs := [wS x, zam .i64 (-((n : Nat) : Int))]) (R0 := []) (hnQ []) Tryz.ntmps195 Tryz.func195 rfl rfl rfl rfl rfl zah (by kernel_rfl) hX (fun r hr => by cases hr) ?_
 conv => whnf
 refine ⟨_, rfl, ?_⟩
 conv => whnf
 refine ⟨_, zAI ⟨n, h2⟩ h1, ?_⟩
 conv => whnf
 refine zlW rfl ?_
 conv => whnf
 refine ⟨((32 - (32 - n) : Nat) : Int), by rw [show (32 : Int) - ((32 - n : Nat) : Int) = ((32 - (32 - n) : Nat) : Int) by omega]; exact zq7 (by omega) (by omega), ?_⟩
 conv => whnf
 refine zrW rfl ?_
 conv => whnf
 refine zoW ?_
 conv => whnf
 refine zag ?_
 rfl
theorem zp7 (hX : ∀ k ∈ X, k < w.heap.size) (ha : 1 ≤ a ∧ a < 32) (hb : 1 ≤ b ∧ b < 32) (hc : 1 ≤ c ∧ c < 32) : Ct Tryz.prog 178 [u32 x, .int .i64 a, .int .i64 b, .int .i64 c] X w (wS (zg5 x a b c)) [] [] := by
 refine vFn (k0 := 0) (rs := [.tmp 8]) (svs := [wS x, zam .i64 a, zam .i64 b, zam .i64 c]) (R0 := []) (hnQ []) Tryz.ntmps178 Tryz.func178 rfl rfl rfl rfl rfl zah (by kernel_rfl) hX (fun r hr => by cases hr) ?_
 conv => whnf
 refine zt7 (by omega) ?_
 conv => whnf
 refine zac rfl rfl rfl (by kernel_rfl) (fun h X w H => zm2 H.xk ha.1 ha.2) rfl rfl rfl ?_
 conv => whnf
 refine zt7 (by omega) ?_
 conv => whnf
 refine zac rfl rfl rfl (by kernel_rfl) (fun h X w H => zm2 H.xk hb.1 hb.2) rfl rfl rfl ?_
 conv => whnf
 refine zxW ?_
 conv => whnf
 refine zt7 (by omega) ?_
 conv => whnf
 refine zac rfl rfl rfl (by kernel_rfl) (fun h X w H => zm2 H.xk hc.1 hc.2) rfl rfl rfl ?_
 conv => whnf
 refine zxW ?_
 conv => whnf
 refine zag ?_
 rfl
theorem zp8 (hX : ∀ k ∈ X, k < w.heap.size) (ha : 1 ≤ a ∧ a < 32) (hb : 1 ≤ b ∧ b < 32) : Ct Tryz.prog 177 [u32 x, .int .i64 a, .int .i64 b, .int .i64 c] X w (wS (zmX x a b c)) [] [] := by
 refine vFn (k0 := 0) (rs := [.tmp 8]) (svs := [wS x, zam .i64 a, zam .i64 b, zam .i64 c]) (R0 := []) (hnQ []) Tryz.ntmps177 Tryz.func177 rfl rfl rfl rfl rfl zah (by kernel_rfl) hX (fun r hr => by cases hr) ?_
 conv => whnf
 refine zas 12 [] (by kernel_rfl) ?_
 conv => whnf
 refine zt7 (by omega) ?_
 conv => whnf
 refine zaq (zaa (rs := []) (Rs := []) rfl rfl rfl (by kernel_rfl) rfl fun h X w H => zm2 H.xk ha.1 ha.2) ?_
 conv => whnf
 refine zt7 (by omega) ?_
 conv => whnf
 refine zaq (zaa (rs := []) (Rs := []) rfl rfl rfl (by kernel_rfl) rfl fun h X w H => zm2 H.xk hb.1 hb.2) ?_
 conv => whnf
 refine zxW ?_
 conv => whnf
 refine zrW rfl ?_
 conv => whnf
 refine zxW ?_
 conv => whnf
 refine zag ?_
 rfl
theorem zzm {m : Nat} {A : Int → Prop} (h : A ((m % 4294967296 : Nat) : Int)) : ∃ x, IntKind.u32.wrap (m : Int) = x ∧ A x := ⟨_, zfu m, h⟩
theorem zAK (hX : ∀ k ∈ X, k < w.heap.size) (l : List Nat) (hl : 4 ≤ l.length) (q : Qd) (hq : St (TxQ l q) w X) : Ct Tryz.prog 176 [.slice q.1 l.length q.2] X w (wS (zt0 l)) [] [] := by
 refine vFn (k0 := 1) (rs := [.tmp 2]) (svs := [.a (.s (.p (.hd 0 l.length)))]) (R0 := [.sl 0 l.length (TxG l)]) (hnQ [q]) Tryz.ntmps176 Tryz.func176 rfl rfl rfl rfl rfl zah (by kernel_rfl) hX (fun r hr => by rcases List.mem_singleton.1 hr with rfl; exact hq) ?_
 have hg : ∀ i, i < 4 → l[i]? = some (l.getD i 0) := fun i hi => zfB 0 (by omega)
 conv => whnf
 refine zas 21 [] (by kernel_rfl) ?_
 conv => whnf
 refine ⟨0, ⟨rfl, by omega, by omega⟩, ?_⟩
 conv => whnf
 refine zbD (zez 0 (hg 0 (by omega)) rfl rfl rfl (by kernel_rfl)) ?_
 conv => whnf
 refine zzm ?_
 conv => whnf
 refine zlW (k := 24) rfl ?_
 conv => whnf
 refine ⟨1, ⟨rfl, by omega, by omega⟩, ?_⟩
 conv => whnf
 refine zbD (zez 0 (hg 1 (by omega)) rfl rfl rfl (by kernel_rfl)) ?_
 conv => whnf
 refine zzm ?_
 conv => whnf
 refine zlW (k := 16) rfl ?_
 conv => whnf
 refine zoW ?_
 conv => whnf
 refine ⟨2, ⟨rfl, by omega, by omega⟩, ?_⟩
 conv => whnf
 refine zbD (zez 0 (hg 2 (by omega)) rfl rfl rfl (by kernel_rfl)) ?_
 conv => whnf
 refine zzm ?_
 conv => whnf
 refine zlW (k := 8) rfl ?_
 conv => whnf
 refine zoW ?_
 conv => whnf
 refine ⟨3, ⟨rfl, by omega, by omega⟩, ?_⟩
 conv => whnf
 refine zbD (zez 0 (hg 3 (by omega)) rfl rfl rfl (by kernel_rfl)) ?_
 conv => whnf
 refine zzm ?_
 conv => whnf
 refine zoW ?_
 conv => whnf
 refine zag ?_
 rfl
end
end
section
open Go.RowKit
def zEJ (r : Nat) (h : Nat → Nat) (a : Int) (n : Nat) : RB := .blk [.row 8 fun i => u32 (h i), .one (.p (.v (.int .u64 a))), .one (.p (.hd r n))] 150
abbrev zFb (h : Nat → Nat) (a : Int) (n : Nat) : RB := zEJ 1 h a n
def zDw (h : Nat → Nat) (a : Int) (n : Nat) : MB := [(0, zFb h a n), (1, .gone)]
def zbm (gt : Nat → Nat) (g : Nat) : World → Prop := AtC ⟨g, 0, none⟩ [.row 64 fun i => u32 (gt i)]
theorem z15 {m : Nat} {A : Int → Prop} (h : A ((m % 16 : Nat) : Int)) : ∃ z, IntKind.i64.wrap ((BitVec.ofInt IntKind.i64.bits (m : Int) &&& BitVec.ofInt IntKind.i64.bits 15).toNat : Nat) = z ∧ A z := ⟨_, by
 have := zFa m
 rw [show IntKind.i64.bits = 64 from rfl, this]
 exact zv7 (by omega) (by omega), h⟩
theorem zFc (gt wr v : Nat → Nat) (t : Nat) : zb0 (v 3) (zb0 (zb0 (zb0 (zb0 (v 7) (zg5 (v 4) 6 11 25)) (zcA (v 6) (zem (v 4) (zcA (v 5) (v 6))))) (gt t)) (zej wr t (t % 16))) = zgp v (zzk gt (zej wr t) v t) (zAJ v) 4 := by
 rw [zt2, zzk]
theorem zFd (gt wr v : Nat → Nat) (t : Nat) : zb0 (zb0 (zb0 (zb0 (zb0 (v 7) (zg5 (v 4) 6 11 25)) (zcA (v 6) (zem (v 4) (zcA (v 5) (v 6))))) (gt t)) (zej wr t (t % 16))) (zb0 (zg5 (v 0) 2 13 22) (orW (zem (v 0) (v 1)) (zem (v 2) (orW (v 0) (v 1))))) = zgp v (zzk gt (zej wr t) v t) (zAJ v) 0 := by
 rw [zt1, zzk, zAJ]
section
variable {X : List Nat} {w : World} {h0 : Hn} {gt h : Nat → Nat} {bk : List Nat} {a : Int} {n : Nat} {q : Qd}
theorem zDx (hl : bk.length = 64) (hsp : Sp X w (zae h0 [] (zDw h a n)) [zbm gt 2, TxQ bk q]) :
  CtG Tryz.prog 153 [.pointer (some ⟨h0.b 0, 0, none⟩), .slice q.1 bk.length q.2] X w h0 (zDw h a n) [0, 1] (.tup []) (zDw (zfp gt h bk) a n) [] := by
 refine zy3 (g := 2) (k0 := 3) (bl := []) (ql := [q]) (svs := [atS 0 0, .a (.s (.p (.hd 2 bk.length)))]) (given := zDw h a n) (Rg := [.c (zbm gt 2), .sl 2 bk.length (TxG bk)]) (kb := [0, 1]) Tryz.ntmps153 Tryz.func153 rfl rfl rfl zah (by kernel_rfl) rfl rfl hsp ?_
 conv => whnf
 refine ⟨Nat, fun k l m R i => ⟨k, (20, zam .i64 i) :: zaC [0, 1, 4] l, (3, .blk [.row 16 fun j => u32 (zku bk i j)] 214) :: m, R⟩, fun i => i ≤ 16, fun i => 16 - i, ⟨0, [], [0, 1, 2, 3], Nat.zero_le _, zaE⟩, fun i hi => ?_⟩
 conv => whnf
 refine vIf (fun hc => ?_) fun hc => ?_
 ·have hi2 : i < 16 := by
   have : (i : Int) < 16 := by simpa using hc
   omega
  have hb1 : 4 * i ≤ bk.length := by omega
  conv => whnf
  have e4 : (4 : Int) * (i : Int) = ((4 * i : Nat) : Int) := by omega
  refine za5 e4 (by omega) (by omega) ?_
  conv => whnf
  refine zbH (zpQ (lo := 4 * i) (hi := bk.length) 3 rfl hb1 (jV _) fun h w hf => zhQ rfl (by kernel_rfl) rfl rfl rfl hb1) rfl rfl ?_
  conv => whnf
  obtain ⟨b4, hb4⟩ : ∃ b4, b4 = (bk.drop (4 * i)).take (bk.length - 4 * i) := ⟨_, rfl⟩
  have hl4 : bk.length - 4 * i = b4.length := by rw [hb4, List.length_take, List.length_drop]; omega
  rw [← hb4, hl4]
  refine zac rfl rfl rfl (by kernel_rfl) (fun h X w H => zAK H.xk b4 (by omega) _ (H.fact 0 rfl)) rfl rfl rfl ?_
  conv => whnf
  refine ⟨i, ⟨rfl, hi2⟩, .inr ?_⟩
  conv => whnf
  refine zao (zfA (fun j => u32 (zku bk (i + 1) j)) rfl rfl rfl rfl rfl rfl hi2 (by rw [hb4, List.take_of_length_le (by rw [List.length_drop]; omega)]; exact zrs bk i)) ?_
  conv => whnf
  refine zbq (by omega) (by omega) ?_
  conv => whnf
  exact ⟨i + 1, [], [1, 2, 3, 4], ⟨hi2, Nat.sub_lt_sub_left hi2 (Nat.lt_succ_self i)⟩, zaE⟩
 have hi16 : i = 16 := by
   have : ¬ (i : Int) < 16 := by simpa using hc
   omega
 subst hi16
 conv => whnf
 refine zas 39 [] (by kernel_rfl) ?_
 conv => whnf
 refine ⟨0, ⟨rfl, by decide⟩, .inl ?_⟩
 conv => whnf
 refine ⟨1, ⟨rfl, by decide⟩, .inl ?_⟩
 conv => whnf
 refine ⟨2, ⟨rfl, by decide⟩, .inl ?_⟩
 conv => whnf
 refine ⟨3, ⟨rfl, by decide⟩, .inl ?_⟩
 conv => whnf
 refine ⟨4, ⟨rfl, by decide⟩, .inl ?_⟩
 conv => whnf
 refine ⟨5, ⟨rfl, by decide⟩, .inl ?_⟩
 conv => whnf
 refine ⟨6, ⟨rfl, by decide⟩, .inl ?_⟩
 conv => whnf
 refine ⟨7, ⟨rfl, by decide⟩, .inl ?_⟩
 conv => whnf
 refine za8 (zDb (cs := [.row 64 fun i => u32 (gt i)]) 2 _ rfl (fun w hw h => hw) rfl rfl (by kernel_rfl) rfl) rfl rfl ?_
 conv => whnf
 refine ⟨Nat × (Nat → Nat) × (Nat → Nat), fun k l m R g => ⟨k, (64, zam .i64 g.1) :: (6, wS (g.2.2 0)) :: (7, wS (g.2.2 1)) :: (8, wS (g.2.2 2)) :: (9, wS (g.2.2 3)) :: (10, wS (g.2.2 4)) :: (11, wS (g.2.2 5)) :: (12, wS (g.2.2 6)) :: (13, wS (g.2.2 7)) :: zaC [0, 4, 63] l, (3, .blk [.row 16 fun j => u32 (g.2.1 j)] 214) :: m, R⟩, fun g => g.1 ≤ 64 ∧ g.2 = zi4 gt bk h g.1, fun g => 64 - g.1, ⟨(0, zku bk 16, h), [], [0, 1, 2, 3], ⟨Nat.zero_le _, rfl⟩, zaE⟩, fun g hg => ?_⟩
 obtain ⟨t, wr, v⟩ := g
 obtain ⟨ht, hM⟩ : t ≤ 64 ∧ (wr, v) = zi4 gt bk h t := hg
 conv => whnf
 refine vIf (fun hc => ?_) fun hc => ?_
 ·have ht2 : t < 64 := by
   have : (t : Int) < 64 := by simpa using hc
   omega
  conv => whnf
  refine ⟨t, ⟨rfl, ht2⟩, ?_⟩
  conv => whnf
  refine .inr ⟨Unit, fun k l m R _ => ⟨k, l, (3, .blk [.row 16 fun j => u32 (zej wr t j)] 214) :: m, R⟩, fun _ => True, ?_, fun _ _ => ?_⟩
  ·conv => whnf
   refine vIf (fun hc => ?_) fun hc => ?_
   ·have h16 : 16 ≤ t := by
     have : (16 : Int) ≤ (t : Int) := by simpa using hc
     omega
    conv => whnf
    refine zas 23 [] (by kernel_rfl) ?_
    conv => whnf
    refine z15 ?_
    conv => whnf
    refine ⟨t % 16, ⟨rfl, by omega⟩, .inr ?_⟩
    conv => whnf
    refine ⟨by omega, ?_⟩
    conv => whnf
    refine za5 (show (t : Int) + 1 = ((t + 1 : Nat) : Int) by omega) (by omega) (by omega) ?_
    conv => whnf
    refine z15 ?_
    conv => whnf
    refine ⟨(t + 1) % 16, ⟨rfl, by omega⟩, .inr ?_⟩
    conv => whnf
    refine ⟨by omega, ?_⟩
    conv => whnf
    refine zaq (zaa (rs := []) (Rs := []) rfl rfl rfl (by kernel_rfl) rfl fun h X w H => zp8 (a := 7) (b := 18) (c := 3) H.xk (by omega) (by omega)) ?_
    conv => whnf
    refine za5 (show (t : Int) + 9 = ((t + 9 : Nat) : Int) by omega) (by omega) (by omega) ?_
    conv => whnf
    refine z15 ?_
    conv => whnf
    refine ⟨(t + 9) % 16, ⟨rfl, by omega⟩, .inr ?_⟩
    conv => whnf
    refine ⟨by omega, ?_⟩
    conv => whnf
    refine zaW ?_
    conv => whnf
    refine za5 (show (t : Int) + 14 = ((t + 14 : Nat) : Int) by omega) (by omega) (by omega) ?_
    conv => whnf
    refine z15 ?_
    conv => whnf
    refine ⟨(t + 14) % 16, ⟨rfl, by omega⟩, .inr ?_⟩
    conv => whnf
    refine ⟨by omega, ?_⟩
    conv => whnf
    refine zaq (zaa (rs := []) (Rs := []) rfl rfl rfl (by kernel_rfl) rfl fun h X w H => zp8 (a := 17) (b := 19) (c := 10) H.xk (by omega) (by omega)) ?_
    (repeat ((conv => whnf); first | refine zaW ?_ | refine zxW ?_ | refine znW ?_ | refine zoW ?_))
    conv => whnf
    refine ⟨t % 16, ⟨rfl, by omega⟩, .inr ?_⟩
    conv => whnf
    refine zao (zfA (fun j => u32 (zej wr t j)) rfl rfl rfl rfl rfl rfl (by omega) (fun j => by rw [zkv, zej, if_pos h16])) ?_
    conv => whnf
    exact ⟨(), [], [0, 1, 2, 3], trivial, zaE⟩
   ·have h16 : ¬ 16 ≤ t := fun h => by
     have : ¬ (16 : Int) ≤ (t : Int) := by simpa using hc
     omega
    conv => whnf
    refine ⟨(), [], [0, 1, 2, 3], trivial, ?_⟩
    rw [show zej wr t = wr from if_neg h16]
    exact zaE
  conv => whnf
  refine zas 18 [] (by kernel_rfl) ?_
  conv => whnf
  refine zaq (zaa (rs := []) (Rs := []) rfl rfl rfl (by kernel_rfl) rfl fun h X w H => zp7 (a := 6) (b := 11) (c := 25) H.xk (by omega) (by omega) (by omega)) ?_
  (repeat ((conv => whnf); first | refine zaW ?_ | refine zxW ?_ | refine znW ?_ | refine zoW ?_))
  conv => whnf
  refine z15 ?_
  conv => whnf
  refine ⟨t % 16, ⟨rfl, by omega⟩, .inr ?_⟩
  conv => whnf
  refine ⟨by omega, ?_⟩
  (repeat ((conv => whnf); first | refine zaW ?_ | refine zxW ?_ | refine znW ?_ | refine zoW ?_))
  conv => whnf
  refine zac rfl rfl rfl (by kernel_rfl) (fun h X w H => zp7 (a := 2) (b := 13) (c := 22) H.xk (by omega) (by omega) (by omega)) rfl rfl rfl ?_
  (repeat ((conv => whnf); first | refine zaW ?_ | refine zxW ?_ | refine znW ?_ | refine zoW ?_))
  conv => whnf
  refine zbq (by omega) (by omega) ?_
  conv => whnf
  refine ⟨(t + 1, zej wr t, zgp v (zzk gt (zej wr t) v t) (zAJ v)), [], [0, 1, 2, 3], ⟨⟨ht2, zt3 hM⟩, Nat.sub_lt_sub_left ht2 (Nat.lt_succ_self t)⟩, zaE (hl := ?_)⟩
  refine ⟨.inl rfl, .inl (congrArg (fun x => some (wS x)) (zFd gt wr v t)), .inl rfl, .inl rfl, .inl rfl, .inl (congrArg (fun x => some (wS x)) (zFc gt wr v t)), ?_⟩
  repeat (first | exact trivial | refine ⟨.inl rfl, ?_⟩)
 have hi64 : t = 64 := by
   have : ¬ (t : Int) < 64 := by simpa using hc
   omega
 subst hi64
 conv => whnf
 refine ⟨fun i => u32 (v i), ⟨rfl, rfl, rfl, rfl, rfl, rfl, rfl, rfl, trivial⟩, ?_⟩
 conv => whnf
 refine ⟨Nat, fun k l m R i => ⟨k, (148, zam .i64 i) :: zaC [0, 147] l, (0, zFb (zrr h v i) a n) :: m, R⟩, fun i => i ≤ 8, fun i => 8 - i, ⟨0, [], [0, 1, 2, 3], Nat.zero_le _, zaE⟩, fun i hi => ?_⟩
 conv => whnf
 refine vIf (fun hc => ?_) fun hc => ?_
 ·have hi2 : i < 8 := by
   have : (i : Int) < 8 := by simpa using hc
   omega
  conv => whnf
  refine ⟨i, ⟨rfl, hi2⟩, ?_⟩
  conv => whnf
  refine zas 8 [] (by kernel_rfl) ?_
  conv => whnf
  refine ⟨i, ⟨rfl, hi2⟩, .inr ?_⟩
  conv => whnf
  refine ⟨hi2, ?_⟩
  (repeat ((conv => whnf); first | refine zaW ?_ | refine zxW ?_ | refine znW ?_ | refine zoW ?_))
  conv => whnf
  refine ⟨i, ⟨rfl, hi2⟩, .inr ?_⟩
  conv => whnf
  refine zao (zfA (fun j => u32 (zrr h v (i + 1) j)) rfl rfl rfl rfl rfl rfl hi2 (by rw [zt4]; exact zmY h v i)) ?_
  conv => whnf
  refine zbq (by omega) (by omega) ?_
  conv => whnf
  exact ⟨i + 1, [], [0, 1, 2, 3], ⟨hi2, Nat.sub_lt_sub_left hi2 (Nat.lt_succ_self i)⟩, zaE⟩
 have hi8 : i = 8 := by
   have : ¬ (i : Int) < 8 := by simpa using hc
   omega
 subst hi8
 conv => whnf
 refine zdG [(0, 0), (1, 1)] [] [0, 1] (.inl rfl) ⟨.inl ?_, trivial⟩ rfl trivial ⟨rfl, rfl, trivial⟩
 rw [zfp, ← hM]
 rfl
end
end
section
open Go.RowKit
section
variable {X : List Nat} {w : World}
theorem zm3 (hX : ∀ k ∈ X, k < w.heap.size) (xs : List Nat) (q : Qd) (hq : St (SlQ ByT xs q) w X) (hl : xs.length * 1 ≤ 140737488355328) : Ct Tryz.prog 67 [.slice q.1 xs.length q.2] X w (.a (.s (.p (.hd 0 xs.length)))) [zba ByT xs 5] [.q 0 (zbS ByT xs)] := by
 have hbig := SlQ.big hq
 refine vFn (k0 := 1) (rs := [.tmp 2]) (svs := [.a (.s (.p (.hd 0 xs.length)))]) (R0 := [.sl 0 xs.length (SlF ByT xs), .h 0 fun q' _ => q' = q]) (hnQ [q]) Tryz.ntmps67 Tryz.func67 rfl rfl rfl rfl rfl zah (by kernel_rfl) hX (fun r hr => by
  rcases List.mem_cons.1 hr with rfl | hr
  ·exact hq
  ·rcases List.mem_singleton.1 hr with rfl; exact fun _ _ => rfl) ?_
 conv => whnf
 refine za8 (zw6 1 rfl rfl rfl rfl (by kernel_rfl)) rfl rfl ?_
 conv => whnf
 refine vIf (fun h => ?_) fun h => ?_
 ·obtain rfl : xs = [] := List.eq_nil_of_length_eq_zero (hq.now.1 (Option.isNone_iff_eq_none.1 h))
  conv => whnf
  exact zaK [(0, 1)] [0] (.inr rfl) ⟨.inr ⟨rfl, rfl, fun _ => rfl⟩, trivial⟩ rfl ⟨.inr fun _ _ _ _ => zdw, trivial⟩
 ·conv => whnf
  refine zbH (zw7 (T := ByT) (e := 5) rfl (by kernel_rfl) (by kernel_rfl)) rfl rfl ?_
  conv => whnf
  refine zaI (zmD (.q 1 (zbS ByT [])) (fun _ _ _ => zdw) rfl (zAg (T := ByT) (e := 5) (xs := []) (ys := xs) (r := 1) (by_ := 1) zy6 rfl rfl rfl rfl rfl ⟨by kernel_rfl, by kernel_rfl⟩ (by simp; exact hbig) (by simpa using hl) rfl rfl (.head _))) ?_
  rw [List.nil_append]
  conv => whnf
  exact zaK [(0, 2)] [0] (.inl rfl) ⟨.inl rfl, trivial⟩ rfl ⟨.inl rfl, trivial⟩
end
end
section
open Go.RowKit
section
variable {x k : Nat} {j : Int} {A : Int → Prop}
theorem zlU (hj : j = (k : Int)) (hk : k ≤ 64) (h : A ((x * 2 ^ k % 18446744073709551616 : Nat) : Int)) : 0 ≤ j ∧ ∃ z, IntKind.u64.wrap ((x : Int) * 2 ^ (min j.toNat IntKind.u64.bits)) = z ∧ A z := ⟨by omega, _, by
 rw [← zn3, hj, Int.toNat_natCast, show IntKind.u64.bits = 64 from rfl, Nat.min_eq_left hk]
 norm_cast, h⟩
theorem zrU (hj : j = (k : Int)) (hk : k ≤ 64) (h : A ((x / 2 ^ k : Nat) : Int)) : 0 ≤ j ∧ ∃ z, ((x : Int)).fdiv (2 ^ (min j.toNat IntKind.u64.bits)) = z ∧ A z := ⟨by omega, _, by
 rw [zzK, hj, Int.toNat_natCast, show IntKind.u64.bits = 64 from rfl, Nat.min_eq_left hk], h⟩
theorem zAL {z z' : Int} (e : z = z') (h1 : 0 ≤ z) (h2 : z ≤ 18446744073709551615) (h : A z') : ∃ x, IntKind.u64.wrap z = x ∧ A x := ⟨z', by rw [zq7 h1 h2, e], h⟩
theorem zb8 (h : A ((x % 256 : Nat) : Int)) : ∃ z, IntKind.u8.wrap (x : Int) = z ∧ A z := ⟨_, zCR x, h⟩
theorem zio {c : Nat} (hc : j = (c : Int)) (h0 : c ≠ 0) (h : A ((x % c : Nat) : Int)) : j ≠ 0 ∧ ∃ z, ((x : Int)).tmod j = z ∧ A z := ⟨by omega, _, by
 rw [hc, Int.tmod_eq_emod_of_nonneg (by omega)]
 norm_cast, h⟩
end
def zt8 (h : Nat → Nat) (n : Nat) (rest : List Nat) : MB := [(0, zFb h n rest.length), (1, zdI rest 5)]
section
variable {X : List Nat} {w : World} {h0 : Hn} {gt h h2 : Nat → Nat} {rest bs r2 : List Nat} {n : Nat} {q : Qd}
theorem zt9 (hF : zfD gt h (rest ++ bs) = (h2, r2)) (hN : n + bs.length ≤ 4611686018427387904) (hrl : rest.length ≤ 64) (hbl : bs.length ≤ 100000000) (hrb : ∀ x ∈ rest, x < 256) (hbb : ∀ x ∈ bs, x < 256) (hsp : Sp X w (zae h0 [] (zt8 h n rest)) [zbm gt 2, TxQ bs q]) :
  CtG Tryz.prog 115 [.pointer (some ⟨h0.b 0, 0, none⟩), .slice q.1 bs.length q.2] X w h0 (zt8 h n rest) [0] (.tup []) [(0, zEJ 2 h2 ((n + bs.length : Nat) : Int) r2.length), (2, zdI r2 5)] [] := by
 refine zy3 (g := 2) (k0 := 3) (bl := []) (ql := [q]) (svs := [atS 0 0, .a (.s (.p (.hd 2 bs.length)))]) (given := zt8 h n rest) (Rg := [.c (zbm gt 2), .sl 2 bs.length (TxG bs)]) (kb := [0]) Tryz.ntmps115 Tryz.func115 rfl rfl rfl zah (by kernel_rfl) rfl rfl hsp ?_
 have hall : ∀ x ∈ rest ++ bs, x < 256 := fun x hx => (List.mem_append.1 hx).elim (hrb x) (hbb x)
 have hal : (rest ++ bs).length ≤ 140737488355328 := by rw [jQ]; omega
 conv => whnf
 refine zwc (by omega) (by show ((bs.length : Nat) : Int) ≤ _; omega) ?_
 conv => whnf
 refine ⟨((n + bs.length : Nat) : Int), by show IntKind.u64.wrap ((n : Int) + ((bs.length : Nat) : Int)) = _; rw [zq7 (by omega) (by omega)]; omega, ?_⟩
 conv => whnf
 refine zaI (zjj 3 (zgM (xs := rest) (ys := bs) (r := 2) (e := 5) rfl rfl rfl rfl rfl rfl ⟨by kernel_rfl, by kernel_rfl⟩ (by rw [jQ] at hal; exact hal) rfl rfl) rfl hal hall) ?_
 conv => whnf
 refine ⟨(Nat → Nat) × List Nat, fun k l m R g => ⟨k, (4, .a (.s (.p (.hd 3 g.2.length)))) :: zaC [0] l, (0, zEJ 1 g.1 ((n + bs.length : Nat) : Int) rest.length) :: m, .sl 3 g.2.length (TxG g.2) :: R.drop 1⟩, fun g => zfD gt g.1 g.2 = (h2, r2) ∧ g.2.length ≤ (rest ++ bs).length ∧ ∀ x ∈ g.2, x < 256, fun g => g.2.length, ⟨(h, rest ++ bs), [], [0, 1, 2, 3], ⟨hF, jV _, hall⟩, zaE⟩, fun g hg => ?_⟩
 obtain ⟨hh, rs⟩ := g
 obtain ⟨hf, hlen, hby⟩ : zfD gt hh rs = (h2, r2) ∧ rs.length ≤ (rest ++ bs).length ∧ ∀ x ∈ rs, x < 256 := hg
 conv => whnf
 refine vIf (fun hc => ?_) fun hc => ?_
 ·have h64 : 64 ≤ rs.length := by
   have : (64 : Int) ≤ ((rs.length : Nat) : Int) := by simpa [Sl.len] using hc
   omega
  obtain ⟨bk, hbk⟩ : ∃ bk, bk = (rs.drop 0).take (64 - 0) := ⟨_, rfl⟩
  have hbl : bk.length = 64 := by rw [hbk]; simp; omega
  have hbk2 : bk = rs.take 64 := by rw [hbk]; simp
  obtain ⟨r3, hr3⟩ : ∃ r3, r3 = (rs.drop 64).take (rs.length - 64) := ⟨_, rfl⟩
  have hr32 : r3 = rs.drop 64 := by rw [hr3, List.take_of_length_le (by rw [List.length_drop]; omega)]
  have hrl : r3.length < rs.length := by rw [hr32, List.length_drop]; omega
  conv => whnf
  refine zas 5 [] (by kernel_rfl) ?_
  conv => whnf
  refine zaq (zgg bk (lo := 0) (hi := 64) 0 hbk rfl (Nat.zero_le _) h64 fun h w hf => zhP rfl (by kernel_rfl) rfl rfl rfl (by have := hf.cap; omega)) ?_
  conv => whnf
  refine zao (za2 [0, 1] 0 rfl rfl rfl (by kernel_rfl) (fs := fun _ => []) (cs := fun _ => []) (fun h => rfl) rfl rfl (given := zDw hh ((n + bs.length : Nat) : Int) rest.length) ⟨rfl, rfl, trivial⟩ rfl rfl rfl rfl rfl rfl fun h X w L2 H => zDx hbl (H.pick [3, 0] rfl)) ?_
  conv => whnf
  refine zbH (zgg r3 (lo := 64) (hi := rs.length) 1 hr3 rfl h64 (jV _) fun h w hf => zhQ rfl (by kernel_rfl) rfl rfl rfl h64) rfl rfl ?_
  conv => whnf
  exact ⟨(zfp gt hh bk, r3), [(3, 5), (0, 0), (1, 1)], [0, 3, 4, 5], ⟨⟨by rw [hbk2, hr32, ← zdZ h64]; exact hf, jU (Nat.le_of_lt hrl) hlen, fun x hx => hby x (by rw [hr32] at hx; exact List.mem_of_mem_drop hx)⟩, hrl⟩, zaE⟩
 have h64 : ¬ 64 ≤ rs.length := fun h => by
   have : ¬ (64 : Int) ≤ ((rs.length : Nat) : Int) := by simpa [Sl.len] using hc
   omega
 obtain ⟨rfl, rfl⟩ := Prod.mk.inj ((zda h64).symm.trans hf)
 conv => whnf
 refine zac rfl rfl rfl (by kernel_rfl) (fun h X w H => zm3 H.xk rs _ (zpU (H.fact 0 rfl)) (by omega)) rfl rfl rfl ?_
 conv => whnf
 exact zdG [(0, 0), (2, 4)] [] [2] (.inl rfl) ⟨.inl rfl, .inl rfl, trivial⟩ rfl trivial ⟨rfl, trivial⟩
theorem zDy (hX : ∀ k ∈ X, k < w.heap.size) : Ct Tryz.prog 114 [] X w (.a (.agg [.row 8 fun i => u32 (iv0 i), .one (.p (.v (.int .u64 0))), .one (.p (.v (.slice none 0 0)))])) [] [] := by
 refine vFn (k0 := 0) (rs := [.cell 0 150]) (svs := []) (R0 := []) (hnQ []) Tryz.ntmps114 Tryz.func114 rfl rfl rfl rfl rfl zah (by kernel_rfl) hX (fun r hr => by cases hr) ?_
 conv => whnf
 refine ⟨fun i => u32 (iv0 i), ⟨rfl, rfl, rfl, rfl, rfl, rfl, rfl, rfl, trivial⟩, ?_⟩
 conv => whnf
 refine ⟨fun i _ => rfl, ?_⟩
 conv => whnf
 exact zag rfl
theorem zua (hX : ∀ k ∈ X, k < w.heap.size) (hn : n ≤ 1000000000000000000) (hrl : rest.length ≤ 64) (hq : St (TxQ rest q) w X) (hG : St (zbm gt 2) w X) : Ct Tryz.prog 116 [.agg (ca [.row 8 fun i => u32 (h i), .one (.int .u64 ((n : Nat) : Int)), .one (.slice q.1 rest.length q.2)])] X w (.a (.agg [.key (zEI gt h n rest)])) [] [] := by
 have hrb : ∀ x ∈ rest, x < 256 := hq.now.2.byt
 have hP : (n + 8) % 64 < 64 := Nat.mod_lt _ (by decide)
 refine vFn (k0 := 1) (rs := [.cell 2 23]) (svs := [.a (.agg [.row 8 fun i => u32 (h i), .one (.p (.v (.int .u64 ((n : Nat) : Int)))), .one (.p (.hd 0 rest.length))])]) (R0 := [.c (zbm gt 2), .sl 0 rest.length (TxG rest)]) (hnQ [q]) Tryz.ntmps116 Tryz.func116 rfl rfl rfl rfl rfl zah (by kernel_rfl) hX (fun r hr => by
  rcases List.mem_cons.1 hr with rfl | hr
  ·exact hG
  ·rcases List.mem_singleton.1 hr with rfl; exact hq) ?_
 conv => whnf
 refine zlU (k := 3) rfl (by decide) ?_
 conv => whnf
 have e1 : (n : Int) + 8 = ((n + 8 : Nat) : Int) := by omega
 refine zAL e1 (by omega) (by omega) ?_
 conv => whnf
 refine zio (c := 64) rfl (by decide) ?_
 conv => whnf
 refine zbq (by omega) (by omega) ?_
 conv => whnf
 have e2 : (64 : Int) - (((n + 8) % 64 : Nat) : Int) = ((64 - (n + 8) % 64 : Nat) : Int) := by omega
 refine za5 e2 (by omega) (by omega) ?_
 conv => whnf
 obtain ⟨pl, hpl⟩ : ∃ pl, pl = 64 - (n + 8) % 64 := ⟨_, rfl⟩
 rw [← hpl]
 refine zbH (zy5 (e := 5) pl ⟨by kernel_rfl, by kernel_rfl, by kernel_rfl⟩ rfl rfl rfl rfl rfl (c := 128) (by omega) (by decide)) rfl rfl ?_
 conv => whnf
 refine ⟨0, ⟨rfl, by omega, by simp; omega⟩, ?_⟩
 conv => whnf
 refine zao (zDf (zrt n) ?_ zah rfl (by simp; omega) rfl rfl rfl rfl) ?_
 ·rw [hpl, show 64 - (n + 8) % 64 = (63 - (n + 8) % 64) + 1 by omega]
  rfl
 have hpl2 : pl = (zrt n).length := by rw [zkx, hpl]
 have hplb : pl ≤ 64 := by omega
 clear hpl
 subst hpl2
 conv => whnf
 refine ⟨Nat × List Nat, fun k l m R g => ⟨k, (5, zam .i64 (7 - (g.1 : Int))) :: (4, .a (.s (.p (.hd 3 g.2.length)))) :: zaC [1, 2, 3] l, (3, zdI g.2 5) :: m, R⟩, fun g => g.1 ≤ 8 ∧ g.2 = zrt n ++ zru (n * 2 ^ 3 % 18446744073709551616) g.1, fun g => 8 - g.1, ⟨(0, zrt n), [], [0, 1], ⟨Nat.zero_le _, by simp [zru]⟩, zaE⟩, fun g hg => ?_⟩
 obtain ⟨j, tl⟩ := g
 obtain ⟨hj8, htl⟩ : j ≤ 8 ∧ tl = zrt n ++ zru (n * 2 ^ 3 % 18446744073709551616) j := hg
 have htll : tl.length = (zrt n).length + j := by rw [htl, jQ, zky]
 conv => whnf
 refine vIf (fun hc => ?_) fun hc => ?_
 ·have hj : j < 8 := by
   have : (0 : Int) ≤ 7 - (j : Int) := by simpa using hc
   omega
  conv => whnf
  have e3 : (8 : Int) * (7 - (j : Int)) = ((8 * (7 - j) : Nat) : Int) := by omega
  refine za5 e3 (by show (-9223372036854775808 : Int) ≤ 8 * (7 - (j : Int)); omega) (by show 8 * (7 - (j : Int)) ≤ _; omega) ?_
  conv => whnf
  refine zrU (k := 8 * (7 - j)) rfl (by omega) ?_
  conv => whnf
  refine zb8 ?_
  conv => whnf
  refine zaI (zon (b := n * 2 ^ 3 % 18446744073709551616 / 2 ^ (8 * (7 - j)) % 256) (zrt n ++ zru (n * 2 ^ 3 % 18446744073709551616) (j + 1)) (by rw [zt6, htl, List.append_assoc]) rfl rfl rfl rfl rfl rfl ⟨by kernel_rfl, by kernel_rfl⟩ (by show tl.length + 1 ≤ _; omega) rfl rfl rfl) ?_
  conv => whnf
  have e4 : (7 : Int) - (j : Int) - 1 = 7 - ((j + 1 : Nat) : Int) := by omega
  refine za5 e4 (by show (-9223372036854775808 : Int) ≤ 7 - (j : Int) - 1; omega) (by show 7 - (j : Int) - 1 ≤ _; omega) ?_
  conv => whnf
  exact ⟨(j + 1, zrt n ++ zru (n * 2 ^ 3 % 18446744073709551616) (j + 1)), [(1, 1), (2, 2), (3, 5)], [0, 1], ⟨⟨hj, rfl⟩, Nat.sub_lt_sub_left hj (Nat.lt_succ_self j)⟩, zaE⟩
 have hj8' : j = 8 := by
   have : ¬ (0 : Int) ≤ 7 - (j : Int) := by simpa using hc
   omega
 subst hj8'
 obtain ⟨⟨h2, r2⟩, hF⟩ : ∃ hr, zfD gt h (rest ++ tl) = hr := ⟨_, rfl⟩
 have hA : tl.length ≤ 72 := by omega
 have htb : ∀ x ∈ tl, x < 256 := fun x hx => by
  rw [htl] at hx
  exact (List.mem_append.1 hx).elim (zmZ n x) (zm0 _ _ x)
 conv => whnf
 refine zac rfl rfl rfl (by kernel_rfl) (fun h X w H => zm3 H.xk rest _ (zpU (H.fact 1 rfl)) (by omega)) rfl rfl rfl ?_
 conv => whnf
 refine zaI (zgf (xs := tl) 3 rfl (by omega) htb rfl (za2 [1, 4] 1 rfl rfl rfl (by kernel_rfl) (fs := fun _ => []) (cs := fun _ => []) (fun h => rfl) rfl rfl (given := zt8 h n rest) ⟨rfl, rfl, trivial⟩ rfl rfl rfl rfl rfl rfl fun h X w L2 H => zt9 (bs := tl) hF (by omega) hrl (by omega) hrb htb (H.pick [2, 0] rfl))) ?_
 conv => whnf
 refine ⟨Nat, fun k l m R i => ⟨k, (40, zam .i64 i) :: zaC [2, 39] l, (2, .blk [.key (zdn h2 i)] 23) :: m, []⟩, fun i => i ≤ 8, fun i => 8 - i, ⟨0, [], [], Nat.zero_le _, zaE⟩, fun i hi => ?_⟩
 conv => whnf
 refine vIf (fun hc => ?_) fun hc => ?_
 ·have hi2 : i < 8 := by
   have : (i : Int) < 8 := by simpa using hc
   omega
  conv => whnf
  refine ⟨i, ⟨rfl, hi2⟩, ?_⟩
  conv => whnf
  have e5 : (4 : Int) * (i : Int) = ((4 * i : Nat) : Int) := by omega
  refine za5 e5 (by omega) (by omega) ?_
  conv => whnf
  refine zof (slS 2 (4 * i) (32 - 4 * i) (32 - 4 * i)) (zDg rfl (by kernel_rfl) rfl rfl rfl (by omega)) rfl rfl ?_
  conv => whnf
  refine zrW (k := 24) rfl ?_
  conv => whnf
  refine zb8 ?_
  conv => whnf
  refine zrW (k := 16) rfl ?_
  conv => whnf
  refine zb8 ?_
  conv => whnf
  refine zrW (k := 8) rfl ?_
  conv => whnf
  refine zb8 ?_
  conv => whnf
  refine zb8 ?_
  conv => whnf
  refine zao (zw5 (ys := zov (h2 i)) (zdn h2 (i + 1)) (zfF h2 i).symm rfl rfl (fun _ => rfl) rfl rfl rfl rfl (ze7 h2 i).symm (by kernel_rfl) (by omega) (by omega)) ?_
  conv => whnf
  refine zbq (by omega) (by omega) ?_
  conv => whnf
  exact ⟨i + 1, [], [], ⟨hi2, Nat.sub_lt_sub_left hi2 (Nat.lt_succ_self i)⟩, zaE⟩
 have hi8 : i = 8 := by
   have : ¬ (i : Int) < 8 := by simpa using hc
   omega
 subst hi8
 conv => whnf
 refine zag ?_
 rw [zEI, show zfE n = tl from htl.symm, hF]
 rfl
theorem zub {ps : List (List Nat)} (hX : ∀ k ∈ X, k < w.heap.size) (hp : ∀ p ∈ ps, p.length ≤ 100000000) (hP : ps.length ≤ 1000000) (hq : St (SlQ zat ps q) w X) (hG : St (zbm gt 2) w X) : Ct Tryz.prog 91 [.slice q.1 ps.length q.2] X w (.a (.agg [.key (zk0 gt ps)])) [] [] := by
 refine vFn (k0 := 1) (rs := [.cell 2 23]) (svs := [.a (.s (.p (.hd 0 ps.length)))]) (R0 := [.c (zbm gt 2), .sl 0 ps.length (SlF zat ps)]) (hnQ [q]) Tryz.ntmps91 Tryz.func91 rfl rfl rfl rfl rfl zah (by kernel_rfl) hX (fun r hr => by
  rcases List.mem_cons.1 hr with rfl | hr
  ·exact hG
  ·rcases List.mem_singleton.1 hr with rfl; exact hq) ?_
 have hpb : ∀ p ∈ ps, ∀ x ∈ p, x < 256 := fun p hpm => by
  obtain ⟨mm, hm⟩ := zog zic hq
  obtain ⟨i, hi⟩ := List.mem_iff_getElem?.1 hpm
  obtain ⟨ad, _, _, h2⟩ := LiF.get hm hi
  exact h2.now.byt
 conv => whnf
 refine zac rfl rfl rfl (by kernel_rfl) (fun h X w H => zDy H.xk) rfl rfl rfl ?_
 conv => whnf
 refine ⟨fun i _ => rfl, ?_⟩
 conv => whnf
 refine ⟨Nat × (Nat → Nat) × Nat × List Nat, fun k l m R g => ⟨4, (9, zam .i64 g.1) :: zaC [2, 3, 7, 8] l, (2, zEJ 3 g.2.1 ((g.2.2.1 : Nat) : Int) g.2.2.2.length) :: (3, zdI g.2.2.2 5) :: m, R⟩, fun g => g.1 ≤ ps.length ∧ g.2 = zfq gt (ps.take g.1) ∧ g.2.2.1 ≤ g.1 * 100000000 ∧ g.2.2.2.length < 64 ∧ ∀ x ∈ g.2.2.2, x < 256, fun g => ps.length - g.1, ⟨(0, iv0, 0, []), [], [0, 1], ⟨Nat.zero_le _, rfl, jV _, by simp, by simp⟩, zaE⟩, fun g hg => ?_⟩
 obtain ⟨i, h, n, rest⟩ := g
 obtain ⟨hi, hS, hn, hrl, hrb⟩ : i ≤ ps.length ∧ (h, n, rest) = zfq gt (ps.take i) ∧ n ≤ i * 100000000 ∧ rest.length < 64 ∧ ∀ x ∈ rest, x < 256 := hg
 conv => whnf
 refine vIf (fun hc => ?_) fun hc => ?_
 ·have hi2 : i < ps.length := by
   have : (i : Int) < ((ps.length : Nat) : Int) := by simpa [Sl.len] using hc
   omega
  obtain ⟨p, hpi⟩ : ∃ p, ps[i]? = some p := ⟨_, jP hi2⟩
  have hpl := hp p (List.mem_of_getElem? hpi)
  obtain ⟨⟨h2, r2⟩, hF⟩ : ∃ hr, zfD gt h (rest ++ p) = hr := ⟨_, rfl⟩
  conv => whnf
  refine ⟨i, ⟨rfl, hi2, hi2⟩, ?_⟩
  conv => whnf
  refine zbH (ztv (x := p) 1 hpi rfl rfl rfl (by kernel_rfl)) rfl rfl ?_
  conv => whnf
  refine zaI (za2 [2, 3] 1 rfl rfl rfl (by kernel_rfl) (fs := fun _ => []) (cs := fun _ => []) (fun h => rfl) rfl rfl (given := zt8 h n rest) ⟨rfl, rfl, trivial⟩ rfl rfl rfl rfl rfl rfl fun h X w L2 H => zt9 hF (by omega) (by omega) hpl hrb (hpb p (List.mem_of_getElem? hpi)) (H.pick [1, 0] rfl)) ?_
  conv => whnf
  refine zbq (by omega) (by omega) ?_
  conv => whnf
  have h3 : (h2, n + p.length, r2) = zfq gt (ps.take (i + 1)) := by
   rw [zox hpi, ← hS, zt5]
   show _ = ((zfD gt h (rest ++ p)).1, n + p.length, (zfD gt h (rest ++ p)).2)
   rw [hF]
  have h4 := zkw gt _ h (rest ++ p) (jV _)
  have h5 := zm1 gt _ h (rest ++ p) (jV _) fun x hx => (List.mem_append.1 hx).elim (hrb x) (hpb p (List.mem_of_getElem? hpi) x)
  rw [hF] at h4 h5
  exact ⟨(i + 1, h2, n + p.length, r2), [(0, 0), (1, 1), (2, 2), (3, 5)], [1, 2], ⟨⟨hi2, h3, by show n + p.length ≤ (i + 1) * 100000000; omega, h4, h5⟩, Nat.sub_lt_sub_left hi2 (Nat.lt_succ_self i)⟩, zaE⟩
 have hi8 : i = ps.length := by
   have : ¬ (i : Int) < ((ps.length : Nat) : Int) := by simpa [Sl.len] using hc
   omega
 subst hi8
 conv => whnf
 refine zao (zgf (xs := rest) 3 rfl (by omega) hrb rfl (zan (rs := []) (Rs := []) (zaa (rs := []) (Rs := []) rfl rfl rfl (by kernel_rfl) rfl fun h X w H => zua (n := n) (rest := rest) H.xk (by omega) (by omega) (H.fact 0 rfl) (H.fact 1 rfl)) rfl rfl)) ?_
 conv => whnf
 refine zag ?_
 rw [zk0, ← List.take_length (l := ps), ← hS]
 rfl
end
end
section
open Go.RowKit
section
variable {x y : Nat} {i j : Int} {A : Int → Prop}
theorem zaJ (hi : i = (x : Int)) (hj : j = (y : Int)) (hb : x + y < 18446744073709551616) (h : A ((x + y : Nat) : Int)) : ∃ z, IntKind.u64.wrap (i + j) = z ∧ A z := ⟨_, by subst hi hj; rw [← Int.natCast_add]; exact zq7 (by omega) (by omega), h⟩
theorem zsJ (hi : i = (x : Int)) (hj : j = (y : Int)) (hb : y ≤ x) (hx : x < 18446744073709551616) (h : A ((x - y : Nat) : Int)) : ∃ z, IntKind.u64.wrap (i - j) = z ∧ A z := ⟨_, by subst hi hj; rw [show (x : Int) - (y : Int) = ((x - y : Nat) : Int) by omega]; exact zq7 (by omega) (by omega), h⟩
theorem zmJ (hi : i = (x : Int)) (hj : j = (y : Int)) (hb : x * y < 18446744073709551616) (h : A ((x * y : Nat) : Int)) : ∃ z, IntKind.u64.wrap (i * j) = z ∧ A z := ⟨_, by subst hi hj; rw [← Int.natCast_mul]; exact zq7 (by omega) (by omega), h⟩
end
theorem zuc {n : Nat} {f g : Nat → Value} (h : ∀ i, i < n → f i = g i) : ca [.row n f] = ca [.row n g] := zja (by
 simp only [cl, Chunk.cells, List.append_nil]
 exact List.map_congr_left fun i hi => by rw [Nat.zero_add]; exact h i (List.mem_range.1 hi))
theorem zeF {n : Nat} {f g : Nat → Nat} (h : ∀ i, i < n → f i = g i) : ca [.row n (uw f)] = ca [.row n (uw g)] := zuc fun i hi => by unfold uw; rw [h i hi]
theorem ziq {X G : List Nat} {w0 : World} {Rr : Ending → World → Prop} {k : Nat} {sv : SV} {m : MB} {R : List SF} (sv' : SV) (he : ∀ h : Hn, sv'.den h = sv.den h) (hw : sv'.wf (lt_ k) = true) (hk : RetOk X G w0 Rr k sv' m R) : RetOk X G w0 Rr k sv m R := ⟨fun h w ws wm wr H hX => by
 have := hk.ok h w hw wm wr H hX
 rw [he] at this
 exact this⟩
def zcS (f g : Nat → Nat) (m i : Nat) : Nat := if i < m then f i else g i
theorem zxy (f g : Nat → Nat) (m : Nat) (i : Nat) : zcS f g (m + 1) i = if i = m then f m else zcS f g m i := by
 unfold zcS
 by_cases h : i = m
 ·subst h; rw [if_pos (by omega), if_pos rfl]
 ·rw [if_neg h]
  by_cases h2 : i < m
  ·rw [if_pos h2, if_pos (by omega)]
  ·rw [if_neg h2, if_neg (by omega)]
theorem zcJ {f g : Nat → Nat} {n : Nat} {v : Int} (hv : v = ((f n : Nat) : Int)) (u : Nat) : upd (uw (zcS f g n)) n (.int .u64 v) u = uw (zcS f g (n + 1)) u := by
 subst hv
 unfold upd uw
 rw [zxy]
 split <;> rfl
theorem zdJ {f g : Nat → Nat} {n i : Nat} (h : i < n) : zcS f g n i = f i := if_pos h
theorem zir {f g : Nat → Nat} {n i : Nat} (h : n ≤ i) : zcS f g n i = g i := if_neg (by omega)
def zg6 (f : Nat → Nat) : List Nat := (List.range 32).map f
theorem zp9 (f : Nat → Nat) : (zg6 f).length = 32 := by simp [zg6]
theorem zct (f : Nat → Nat) (i : Nat) (hi : i < 32) : (zg6 f).getD i 0 = f i := by simp [zg6, hi]
theorem zud {x c : Nat} {j : Int} {A : Int → Prop} (hc : j = (c : Int)) (h0 : c ≠ 0) (hx : x < 9223372036854775808) (h : A ((x / c : Nat) : Int)) : j ≠ 0 ∧ ∃ z, IntKind.i64.wrap ((x : Int).tdiv j) = z ∧ A z := ⟨by omega, _, by
 have : x / c ≤ x := Nat.div_le_self _ _
 rw [hc, ← Int.ofNat_tdiv]
 generalize x / c = y at this ⊢
 exact zv7 (by omega) (by omega), h⟩
section
variable {P : Program} {N k : Nat} {l : LE} {m : MB} {R : List SF} {o : Oper} {i j t ty : Nat}
theorem zgR {kk : List Nat} {b : Nat} {xop y : Operand} (kk' : List Nat) (hkk : ∀ t, t < 32 → kk'.getD t 0 = if t = j then b else kk.getD t 0) (hm : zaA m i = some (.blk [.key kk] t)) (ho : o.op = .store ty xop y) (hx : evS l xop = some (apS i 0 j 1)) (hy : evS l y = some (zfM (bv b))) (hs : zdr P ty = some 1) (hj : j < 32) : zcj P N k l m R o (zeq undef) ((i, .blk [.key kk'] t) :: m) R :=
 zh9 (x := .p (.v (bv b))) hm ho hx hy rfl hs (by simp only [zfh, SC.len]; omega) fun h => by
  show zgC kk' ++ [] = (zgC kk ++ []).set (0 + j * 1) (bv b)
  rw [List.append_nil, List.append_nil, Nat.zero_add, Nat.mul_one]
  refine List.ext_getElem? fun t => ?_
  rw [List.getElem?_set]
  by_cases ht : t < 32
  ·simp only [zgC, List.getElem?_map, List.getElem?_range ht, Option.map_some, hkk t ht]
   by_cases e : j = t
   ·subst e; simp [hj]
   ·rw [if_neg e, if_neg (Ne.symm e)]
  ·rw [List.getElem?_eq_none (by simp [zgC]; omega), if_neg (by omega), List.getElem?_eq_none (by simp [zgC]; omega)]
end
section
variable {x y : Nat} {j : Int} {A : Int → Prop}
theorem zue (h : A ((x % 2251799813685248 : Nat) : Int)) : ∃ z, IntKind.u64.wrap ((BitVec.ofInt IntKind.u64.bits (x : Int) &&& BitVec.ofInt IntKind.u64.bits 2251799813685247).toNat : Nat) = z ∧ A z := ⟨_, by
 have e : (BitVec.ofInt 64 2251799813685247).toNat = 2251799813685247 := rfl
 rw [show IntKind.u64.bits = 64 from rfl, BitVec.toNat_and, e, BitVec.toNat_ofInt, Nat.and_two_pow_sub_one_eq_mod _ 51]
 have : (((x : Int) % ((2 ^ 64 : Nat) : Int)).toNat % 2 ^ 51) = x % 2251799813685248 := by omega
 rw [this]
 exact zq7 (by omega) (by omega), h⟩
theorem zDz (h : A ((x / 2251799813685248 : Nat) : Int)) : 0 ≤ (51 : Int) ∧ ∃ z, ((x : Int)).fdiv (2 ^ (min (51 : Int).toNat IntKind.u64.bits)) = z ∧ A z := zrU (k := 51) rfl (by decide) (by rw [show (2 : Nat) ^ 51 = 2251799813685248 from rfl]; exact h)
end
section
variable {X : List Nat} {w : World} {F G : Nat → Nat}
def feS (F : Nat → Nat) : SA := .agg [.row 5 (uw F)]
def feM (F : Nat → Nat) (m : MB) : MB := (0, .blk [.row 5 (uw F)] 168) :: m
theorem zgr (hF : ∀ i, i < 5 → F i < 9223372036854775808) (hX : ∀ k ∈ X, k < w.heap.size) : Ct Tryz.prog 180 [.agg (ca [.row 5 (uw F)])] X w (.a (feS (zdp F))) [] [] := by
 refine vFn (k0 := 0) (rs := [.cell 2 168]) (svs := [.a (feS F)]) (R0 := []) (hnQ []) Tryz.ntmps180 Tryz.func180 rfl rfl rfl rfl rfl zah (by kernel_rfl) hX (fun r hr => by cases hr) ?_
 conv => whnf
 refine ⟨Nat, fun k l m R n => ⟨k, (7, zam .i64 n) :: (3, zam .u64 ((ovN F n : Nat) : Int)) :: zaC [1, 2, 6] l, feM (zcS (loN F) F n) m, R⟩, fun n => n ≤ 5, fun n => 5 - n, ⟨0, [], [], Nat.zero_le _, zaE⟩, fun n hn => ?_⟩
 have ob := zpY F hF n hn
 conv => whnf
 refine vIf (fun hc => ?_) fun hc => ?_
 ·have hn2 : n < 5 := by
   have : (n : Int) < 5 := of_decide_eq_true hc
   omega
  have hfn := hF n hn2
  conv => whnf
  refine ⟨n, ⟨rfl, hn2⟩, ?_⟩
  conv => whnf
  refine zaJ (x := F n) (y := ovN F n) rfl rfl (by omega) ?_
  conv => whnf
  refine zue ?_
  conv => whnf
  refine zDz ?_
  conv => whnf
  refine ⟨n, ⟨rfl, by omega⟩, .inr ?_⟩
  conv => whnf
  refine zao (zfA (uw (zcS (loN F) F (n + 1))) rfl rfl rfl rfl rfl rfl hn2 (zcJ rfl)) ?_
  conv => whnf
  refine zbq (by omega) (by omega) ?_
  conv => whnf
  exact ⟨n + 1, [], [], ⟨hn2, Nat.sub_lt_sub_left hn2 (Nat.lt_succ_self n)⟩, zaE⟩
 have hn5 : n = 5 := by
   have : ¬ (n : Int) < 5 := of_decide_eq_false hc
   omega
 subst hn5
 obtain ⟨Z, hZ⟩ : ∃ Z, Z = zcS (loN F) F 5 := ⟨_, rfl⟩
 have hZi : ∀ i, i < 5 → Z i = loN F i := fun i hi => by rw [hZ, zdJ hi]
 have hZ0 : Z 0 < 2251799813685248 := by rw [hZi 0 (by decide)]; exact Nat.mod_lt _ (by decide)
 rw [← hZ]
 conv => whnf
 refine ⟨0, ⟨rfl, by omega⟩, .inr ?_⟩
 conv => whnf
 refine ⟨by decide, ?_⟩
 conv => whnf
 refine zmJ (x := 19) (y := ovN F 5) rfl rfl (by omega) ?_
 conv => whnf
 refine zaJ (x := Z 0) (y := 19 * ovN F 5) rfl rfl (by omega) ?_
 conv => whnf
 refine ⟨0, ⟨rfl, by omega⟩, .inr ?_⟩
 conv => whnf
 refine zao (zfA (uw fun i => if i = 0 then Z 0 + 19 * ovN F 5 else Z i) rfl rfl rfl rfl rfl rfl (by decide) (fun i => by by_cases h : i = 0 <;> simp [upd, uw, h])) ?_
 conv => whnf
 refine ⟨fun _ _ => rfl, ?_⟩
 conv => whnf
 refine ziq (.a (feS (zdp F))) (fun h => congrArg Value.agg (zeF fun i hi => ?_)) rfl (zag rfl)
 unfold zdp
 by_cases h : i = 0
 ·rw [if_pos h, if_pos h, hZi 0 (by decide)]
 ·rw [if_neg h, if_neg h, hZi i hi]
theorem zxz (hF : ∀ i, i < 5 → F i < 9223372036854775808) (hX : ∀ k ∈ X, k < w.heap.size) : Ct Tryz.prog 184 [.agg (ca [.row 5 (uw F)])] X w (.a (feS (zdm F))) [] [] := by
 obtain ⟨G, hG⟩ : ∃ G, G = zdp (zdp F) := ⟨_, rfl⟩
 have hC : ∀ i, i < 5 → zdp F i < 9223372036854775808 := fun i hi => by have := zcr F hF i hi; omega
 have hGl : ∀ i, i < 5 → G i < 4503599627370496 := fun i hi => by rw [hG]; have := zcr (zdp F) hC i hi; omega
 have hU := zDi G hGl
 refine vFn (k0 := 0) (rs := [.cell 2 168]) (svs := [.a (feS F)]) (R0 := []) (hnQ []) Tryz.ntmps184 Tryz.func184 rfl rfl rfl rfl rfl zah (by kernel_rfl) hX (fun r hr => by cases hr) ?_
 conv => whnf
 refine zac rfl rfl rfl (by kernel_rfl) (fun h X w H => zgr hF H.xk) rfl rfl rfl ?_
 conv => whnf
 refine zac rfl rfl rfl (by kernel_rfl) (fun h X w H => zgr hC H.xk) rfl rfl rfl ?_
 rw [← hG]
 conv => whnf
 refine ⟨fun _ _ => rfl, ?_⟩
 conv => whnf
 refine ⟨Nat, fun k l m R n => ⟨k, (13, zam .i64 n) :: (3, zam .u64 ((quN G n : Nat) : Int)) :: zaC [1, 2, 12] l, m, R⟩, fun n => n ≤ 5, fun n => 5 - n, ⟨0, [], [], Nat.zero_le _, zaE⟩, fun n hn => ?_⟩
 have ob := ztD G hGl n hn
 conv => whnf
 refine vIf (fun hc => ?_) fun hc => ?_
 ·have hn2 : n < 5 := by
   have : (n : Int) < 5 := of_decide_eq_true hc
   omega
  have hfn := hGl n hn2
  conv => whnf
  refine ⟨n, ⟨rfl, hn2⟩, ?_⟩
  conv => whnf
  refine zaJ (x := G n) (y := quN G n) rfl rfl (by omega) ?_
  conv => whnf
  refine zDz ?_
  conv => whnf
  refine zbq (by omega) (by omega) ?_
  conv => whnf
  exact ⟨n + 1, [], [], ⟨hn2, Nat.sub_lt_sub_left hn2 (Nat.lt_succ_self n)⟩, zaE⟩
 have hn5 : n = 5 := by
   have : ¬ (n : Int) < 5 := of_decide_eq_false hc
   omega
 subst hn5
 have hG0 := hGl 0 (by decide)
 conv => whnf
 refine ⟨0, ⟨rfl, by omega⟩, .inr ?_⟩
 conv => whnf
 refine ⟨by decide, ?_⟩
 conv => whnf
 refine zmJ (x := 19) (y := quN G 5) rfl rfl (by omega) ?_
 conv => whnf
 refine zaJ (x := G 0) (y := 19 * quN G 5) rfl rfl (by omega) ?_
 conv => whnf
 refine ⟨0, ⟨rfl, by omega⟩, .inr ?_⟩
 conv => whnf
 refine zao (zfA (uw (upN G)) rfl rfl rfl rfl rfl rfl (by decide) (fun i => by by_cases h : i = 0 <;> simp [upd, uw, upN, h])) ?_
 conv => whnf
 obtain ⟨U, hUe⟩ : ∃ U, U = upN G := ⟨_, rfl⟩
 have hV : ∀ i, i < 5 → U i < 9223372036854775808 := fun i hi => by rw [hUe]; have := hU i hi; omega
 rw [← hUe]
 refine ⟨Nat, fun k l m R n => ⟨k, (28, zam .i64 n) :: (6, zam .u64 ((ovN U n : Nat) : Int)) :: zaC [1, 2, 27] l, feM (zcS (loN U) U n) m, R⟩, fun n => n ≤ 5, fun n => 5 - n, ⟨0, [], [], Nat.zero_le _, zaE⟩, fun n hn => ?_⟩
 have ob := zpY U hV n hn
 conv => whnf
 refine vIf (fun hc => ?_) fun hc => ?_
 ·have hn2 : n < 5 := by
   have : (n : Int) < 5 := of_decide_eq_true hc
   omega
  have hfn := hV n hn2
  conv => whnf
  refine ⟨n, ⟨rfl, hn2⟩, ?_⟩
  conv => whnf
  refine zaJ (x := U n) (y := ovN U n) rfl rfl (by omega) ?_
  conv => whnf
  refine zue ?_
  conv => whnf
  refine zDz ?_
  conv => whnf
  refine ⟨n, ⟨rfl, by omega⟩, .inr ?_⟩
  conv => whnf
  refine zao (zfA (uw (zcS (loN U) U (n + 1))) rfl rfl rfl rfl rfl rfl hn2 (zcJ rfl)) ?_
  conv => whnf
  refine zbq (by omega) (by omega) ?_
  conv => whnf
  exact ⟨n + 1, [], [], ⟨hn2, Nat.sub_lt_sub_left hn2 (Nat.lt_succ_self n)⟩, zaE⟩
 have hn5 : n = 5 := by
   have : ¬ (n : Int) < 5 := of_decide_eq_false hc
   omega
 subst hn5
 conv => whnf
 refine ⟨fun _ _ => rfl, ?_⟩
 conv => whnf
 refine ziq (.a (feS (zdm F))) (fun h => congrArg Value.agg (zeF fun i hi => ?_)) rfl (zag rfl)
 rw [zdJ hi, zdm, ← hG, ← hUe]
end
end
section
open Go.RowKit
section
variable {X : List Nat} {w : World} {F G : Nat → Nat}
theorem zFI {a b : Nat} (ha : a < 256) (hb : b < 256) : IntKind.u8.wrap ((BitVec.ofInt IntKind.u8.bits (a : Int) ||| BitVec.ofInt IntKind.u8.bits (b : Int)).toNat : Nat) = ((a ||| b : Nat) : Int) := by
 rw [show IntKind.u8.bits = 8 from rfl, BitVec.toNat_or, BitVec.toNat_ofInt, BitVec.toNat_ofInt]
 have e1 : ((a : Int) % ((2 ^ 8 : Nat) : Int)).toNat = a := by omega
 have e2 : ((b : Int) % ((2 ^ 8 : Nat) : Int)).toNat = b := by omega
 rw [e1, e2]
 have : a ||| b < 2 ^ 8 := Nat.or_lt_two_pow ha hb
 exact wU8 (by omega) (by omega)
theorem zAM {a b : Nat} (ha : a < 18446744073709551616) (hb : b < 18446744073709551616) : IntKind.u64.wrap ((BitVec.ofInt IntKind.u64.bits (a : Int) ||| BitVec.ofInt IntKind.u64.bits (b : Int)).toNat : Nat) = ((a ||| b : Nat) : Int) := by
 rw [show IntKind.u64.bits = 64 from rfl, BitVec.toNat_or, BitVec.toNat_ofInt, BitVec.toNat_ofInt]
 have e1 : ((a : Int) % ((2 ^ 64 : Nat) : Int)).toNat = a := by omega
 have e2 : ((b : Int) % ((2 ^ 64 : Nat) : Int)).toNat = b := by omega
 rw [e1, e2]
 have : a ||| b < 2 ^ 64 := Nat.or_lt_two_pow ha hb
 exact zq7 (by omega) (by omega)
theorem zAN (L : Nat → Nat) (m k t : Nat) : (zg6 (znM L m (k + 1))).getD t 0 = if t < 32 then (if t = k then zaO (zbo L (m + 1)) k else znM L m k t) else 0 := by
 by_cases ht : t < 32
 ·rw [if_pos ht, zct _ t ht]
  unfold znM
  by_cases h : t = k
  ·rw [if_pos h, h, if_pos (by omega)]
  ·rw [if_neg h]
   by_cases h2 : t < k
   ·rw [if_pos h2, if_pos (by omega)]
   ·rw [if_neg h2, if_neg (by omega)]
 ·rw [if_neg ht, jR, List.getElem?_eq_none (by rw [zp9]; omega)]
  rfl
theorem zuf (X : Nat → Nat) : zbo X 0 = 0 := rfl
attribute [local irreducible] zdm zbo zaO
theorem zug (hF : ∀ i, i < 5 → F i < 9223372036854775808) (hX : ∀ k ∈ X, k < w.heap.size) : Ct Tryz.prog 165 [.agg (ca [.row 5 (uw F)])] X w (.a (.agg [.key (zg6 (zaO (zbo (zdm F) 5)))])) [] [] := by
 obtain ⟨L, hL⟩ : ∃ L, L = zdm F := ⟨_, rfl⟩
 have hLl : ∀ i, L i < 2251799813685248 := fun i => by rw [hL]; exact ztE F i
 refine vFn (k0 := 0) (rs := [.cell 2 23]) (svs := [.a (feS F)]) (R0 := []) (hnQ []) Tryz.ntmps165 Tryz.func165 rfl rfl rfl rfl rfl zah (by kernel_rfl) hX (fun r hr => by cases hr) ?_
 conv => whnf
 refine zac rfl rfl rfl (by kernel_rfl) (fun h X w H => zxz hF H.xk) rfl rfl rfl ?_
 rw [← hL]
 conv => whnf
 refine ⟨fun _ _ => rfl, ?_⟩
 conv => whnf
 refine ⟨Nat × List Nat, fun k l m R g => ⟨k, (11, zam .i64 g.1) :: zaC [1, 2, 10] l, (1, .blk [.key g.2] 23) :: m, R⟩, fun g => g.1 ≤ 5 ∧ ∀ t, t < 32 → g.2.getD t 0 = zaO (zbo L g.1) t, fun g => 5 - g.1, ⟨(0, []), [], [], ⟨Nat.zero_le _, fun t ht => ?_⟩, zaE⟩, fun g hg => ?_⟩
 ·show 0 = zaO (zbo L 0) t
  rw [zuf]
  exact (zgN 0 t (Nat.two_pow_pos _)).symm
 obtain ⟨m, kk⟩ := g
 obtain ⟨hm, hkk⟩ : m ≤ 5 ∧ ∀ t, t < 32 → kk.getD t 0 = zaO (zbo L m) t := hg
 conv => whnf
 refine vIf (fun hc => ?_) fun hc => ?_
 ·have hm2 : m < 5 := by
   have : (m : Int) < 5 := of_decide_eq_true hc
   omega
  conv => whnf
  refine ⟨m, ⟨rfl, hm2⟩, ?_⟩
  conv => whnf
  refine za5 (show (51 : Int) * (m : Int) = ((51 * m : Nat) : Int) by omega) (by omega) (by omega) ?_
  conv => whnf
  refine zud (c := 8) rfl (by decide) (by omega) ?_
  conv => whnf
  refine ⟨Nat × List Nat, fun k l n R g => ⟨k, (6, zam .i64 g.1) :: zaC [1, 2, 3, 4, 5, 10, 11] l, (1, .blk [.key g.2] 23) :: n, R⟩, fun g => 51 * m / 8 ≤ g.1 ∧ g.1 ≤ 32 ∧ g.1 ≤ 51 * m / 8 + 8 ∧ ∀ t, t < 32 → g.2.getD t 0 = znM L m g.1 t, fun g => 32 - g.1, ⟨(51 * m / 8, kk), [], [], ⟨jV _, by omega, by omega, fun t ht => ?_⟩, zaE⟩, fun g hg => ?_⟩
  ·rw [hkk t ht]; exact zrn L m t
  obtain ⟨k, ks⟩ := g
  obtain ⟨h1, h2, h3, hks⟩ : 51 * m / 8 ≤ k ∧ k ≤ 32 ∧ k ≤ 51 * m / 8 + 8 ∧ ∀ t, t < 32 → ks.getD t 0 = znM L m k t := hg
  conv => whnf
  refine zud (c := 8) rfl (by decide) (by omega) ?_
  conv => whnf
  refine za5 (show ((51 * m / 8 : Nat) : Int) + 8 = ((51 * m / 8 + 8 : Nat) : Int) by omega) (by omega) (by omega) ?_
  conv => whnf
  have hmin : min ((51 * m / 8 + 8 : Nat) : Int) 32 = ((min (51 * m / 8 + 8) 32 : Nat) : Int) := by omega
  refine zof (zam .i64 ((min (51 * m / 8 + 8) 32 : Nat) : Int)) (fun h w => hmin ▸ zyS rfl rfl rfl) rfl rfl ?_
  conv => whnf
  refine vIf (fun hc => ?_) fun hc => ?_
  ·have hk : k < min (51 * m / 8 + 8) 32 := by
    have : (k : Int) < ((min (51 * m / 8 + 8) 32 : Nat) : Int) := of_decide_eq_true hc
    omega
   have hst : ∀ t, t < 32 → (zg6 (znM L m (k + 1))).getD t 0 = if t = k then zaO (zbo L (m + 1)) k else ks.getD t 0 := fun t ht => by rw [zAN, if_pos ht, hks t ht]
   have hkv := hks k (by omega)
   have e1 : znM L m k k = zaO (zbo L m) k := by unfold znM; rw [if_neg (by omega)]
   have hb1 : ks.getD k 0 < 256 := by rw [hkv, e1]; exact zkm _ _
   have hvl := zie L 5 (fun i _ => hLl i) m (by omega)
   have hlm := hLl m
   conv => whnf
   refine .inr ⟨Unit, fun k0 l n R _ => ⟨k0, zaC [1, 2, 3, 4, 5, 6, 10, 11] l, (1, .blk [.key (zg6 (znM L m (k + 1)))] 23) :: n, R⟩, fun _ => True, ?_, fun _ _ => ?_⟩
   rotate_left
   ·conv => whnf
    refine zbq (by omega) (by omega) ?_
    conv => whnf
    exact ⟨(k + 1, zg6 (znM L m (k + 1))), [], [], ⟨⟨by omega, by omega, by omega, fun t ht => zct _ t ht⟩, by show 32 - (k + 1) < 32 - k; omega⟩, zaE⟩
   conv => whnf
   refine za5 (show (8 : Int) * (k : Int) = ((8 * k : Nat) : Int) by omega) (by omega) (by omega) ?_
   conv => whnf
   refine zbq (by omega) (by omega) ?_
   conv => whnf
   refine vIf (fun hc => ?_) fun hc => ?_
   ·have h8 : 8 * k < 51 * m := by
     have : ((8 * k : Nat) : Int) - ((51 * m : Nat) : Int) < 0 := of_decide_eq_true hc
     omega
    conv => whnf
    refine zas 8 [] (by kernel_rfl) ?_
    conv => whnf
    refine ⟨k, ⟨rfl, by omega⟩, .inr ?_⟩
    conv => whnf
    refine ⟨by omega, ?_⟩
    conv => whnf
    refine za5 (show (0 : Int) - (((8 * k : Nat) : Int) - ((51 * m : Nat) : Int)) = ((51 * m - 8 * k : Nat) : Int) by omega) (by omega) (by omega) ?_
    conv => whnf
    refine zlU (k := 51 * m - 8 * k) rfl (by omega) ?_
    conv => whnf
    refine zb8 ?_
    conv => whnf
    refine ⟨((zaO (zbo L (m + 1)) k : Nat) : Int), ?_, ?_⟩
    ·show IntKind.u8.wrap ((BitVec.ofInt IntKind.u8.bits ((ks.getD k 0 : Nat) : Int) ||| BitVec.ofInt IntKind.u8.bits ((L m * 2 ^ (51 * m - 8 * k) % 18446744073709551616 % 256 : Nat) : Int)).toNat : Nat) = _
     rw [zFI hb1 (Nat.mod_lt _ (by decide)), hkv, e1, show L m * 2 ^ (51 * m - 8 * k) % 18446744073709551616 % 256 = L m * 2 ^ (51 * m - 8 * k) % 256 by omega, zxe _ _ _ _ hvl h8 (by omega), zdY]
    conv => whnf
    refine ⟨k, ⟨rfl, by omega⟩, .inr ?_⟩
    conv => whnf
    refine zao (zgR (zg6 (znM L m (k + 1))) hst rfl rfl rfl rfl (by kernel_rfl) (by omega)) ?_
    conv => whnf
    exact ⟨(), [], [], trivial, zaE⟩
   ·have h8 : 51 * m ≤ 8 * k := by
     have : ¬ ((8 * k : Nat) : Int) - ((51 * m : Nat) : Int) < 0 := of_decide_eq_false hc
     omega
    conv => whnf
    refine zas 7 [] (by kernel_rfl) ?_
    conv => whnf
    refine ⟨k, ⟨rfl, by omega⟩, .inr ?_⟩
    conv => whnf
    refine ⟨by omega, ?_⟩
    conv => whnf
    refine zrU (k := 8 * k - 51 * m) (by omega) (by omega) ?_
    conv => whnf
    refine zb8 ?_
    conv => whnf
    obtain ⟨b1, b2⟩ := ztG (zbo L m) (L m) m k hvl h8
    refine ⟨((zaO (zbo L (m + 1)) k : Nat) : Int), ?_, ?_⟩
    ·show IntKind.u8.wrap ((BitVec.ofInt IntKind.u8.bits ((ks.getD k 0 : Nat) : Int) ||| BitVec.ofInt IntKind.u8.bits ((L m / 2 ^ (8 * k - 51 * m) % 256 : Nat) : Int)).toNat : Nat) = _
     rw [zFI hb1 (Nat.mod_lt _ (by decide)), hkv, e1, b1, Nat.zero_or, b2, zdY]
    conv => whnf
    refine ⟨k, ⟨rfl, by omega⟩, .inr ?_⟩
    conv => whnf
    refine zao (zgR (zg6 (znM L m (k + 1))) hst rfl rfl rfl rfl (by kernel_rfl) (by omega)) ?_
    conv => whnf
    exact ⟨(), [], [], trivial, zaE⟩
  have hk : ¬ k < min (51 * m / 8 + 8) 32 := by
    have : ¬ (k : Int) < ((min (51 * m / 8 + 8) 32 : Nat) : Int) := of_decide_eq_false hc
    omega
  conv => whnf
  refine zbq (by omega) (by omega) ?_
  conv => whnf
  exact ⟨(m + 1, ks), [], [], ⟨⟨hm2, fun t ht => by rw [hks t ht]; exact ztH L (fun i _ => hLl i) m k t hm2 ht (by omega)⟩, Nat.sub_lt_sub_left hm2 (Nat.lt_succ_self m)⟩, zaE⟩
 have hm5 : m = 5 := by
   have : ¬ (m : Int) < 5 := of_decide_eq_false hc
   omega
 subst hm5
 conv => whnf
 refine ziq (.a (.agg [.key (zg6 (zaO (zbo L 5)))])) (fun h => congrArg Value.agg ?_) rfl (zag rfl)
 show ca [.key _] = ca [.key _]
 rw [zcf, zcf]
 refine zzC fun i hi => ?_
 rw [zct _ i hi, hkk i hi]
attribute [local irreducible] kvN ofN
theorem zqa {b Z : Nat → Nat} {m k : Nat} {v : Int} (hZ : Z = zp0 b m k) (hv : v = ((kvN b (k + 1) / 2 ^ (51 * m) : Nat) : Int)) (u : Nat) : upd (uw Z) m (.int .u64 v) u = uw (zp0 b m (k + 1)) u := by
 subst hZ hv
 unfold upd uw zp0
 by_cases h : u = m
 ·rw [if_pos h, if_pos h]
 ·rw [if_neg h, if_neg h, if_neg h]
theorem zxA {b Z : Nat → Nat} {m k : Nat} {v : Int} (hZ : Z = zp0 b m k) (hv : v = ((ofN b m : Nat) : Int)) (u : Nat) : upd (uw Z) m (.int .u64 v) u = uw (zcS (ofN b) (fun _ => 0) (m + 1)) u := by
 subst hZ hv
 unfold upd uw zp0 zcS
 by_cases h : u = m
 ·subst h; rw [if_pos rfl, if_pos (Nat.lt_succ_self _)]
 ·rw [if_neg h, if_neg h]
  by_cases h2 : u < m
  ·rw [if_pos h2, if_pos (by omega)]
  ·rw [if_neg h2, if_neg (by omega)]
theorem zAO {kk : List Nat} (hX : ∀ k ∈ X, k < w.heap.size) (hkb : ∀ x ∈ kk, x < 256) : Ct Tryz.prog 128 [.agg (ca [.key kk])] X w (.a (feS (ofN fun i => kk.getD i 0))) [] [] := by
 obtain ⟨b, hb⟩ : ∃ b : Nat → Nat, b = fun i => kk.getD i 0 := ⟨_, rfl⟩
 have hbk : ∀ i, kk.getD i 0 = b i := fun i => by rw [hb]
 have hbl : ∀ i, i < 32 → b i < 256 := fun i _ => by rw [hb]; exact zb1 hkb i
 rw [← hb]
 refine vFn (k0 := 0) (rs := [.cell 2 168]) (svs := [.a (.agg [.key kk])]) (R0 := []) (hnQ []) Tryz.ntmps128 Tryz.func128 rfl rfl rfl rfl rfl zah (by kernel_rfl) hX (fun r hr => by cases hr) ?_
 conv => whnf
 refine ⟨Nat, fun k l m R n => ⟨k, (8, zam .i64 n) :: zaC [1, 2] l, (1, .blk [.row 5 (uw (zcS (ofN b) (fun _ => 0) n))] 168) :: m, R⟩, fun n => n ≤ 5, fun n => 5 - n, ⟨0, [], [], Nat.zero_le _, zaE⟩, fun m hm => ?_⟩
 conv => whnf
 refine vIf (fun hc => ?_) fun hc => ?_
 ·have hm2 : m < 5 := by
   have : (m : Int) < 5 := of_decide_eq_true hc
   omega
  conv => whnf
  refine za5 (show (51 : Int) * (m : Int) = ((51 * m : Nat) : Int) by omega) (by omega) (by omega) ?_
  conv => whnf
  refine zud (c := 8) rfl (by decide) (by omega) ?_
  conv => whnf
  refine ⟨Nat × (Nat → Nat), fun k l n R g => ⟨k, (5, zam .i64 g.1) :: zaC [1, 2, 3, 4, 8] l, (1, .blk [.row 5 (uw g.2)] 168) :: n, R⟩, fun g => 51 * m / 8 ≤ g.1 ∧ g.1 ≤ 32 ∧ g.1 ≤ 51 * m / 8 + 8 ∧ g.2 = zp0 b m g.1, fun g => 32 - g.1, ⟨(51 * m / 8, zcS (ofN b) (fun _ => 0) m), [], [], ⟨jV _, by omega, by omega, funext fun q => zro b hbl m q hm2⟩, zaE⟩, fun g hg => ?_⟩
  obtain ⟨k, Z⟩ := g
  obtain ⟨h1, h2, h3, hZ⟩ : 51 * m / 8 ≤ k ∧ k ≤ 32 ∧ k ≤ 51 * m / 8 + 8 ∧ Z = zp0 b m k := hg
  have hkl := zpZ b 32 hbl k h2
  have hZm : Z m = kvN b k / 2 ^ (51 * m) := by rw [hZ]; unfold zp0; rw [if_pos rfl]
  have hsm := zxf b m k hkl (by omega)
  conv => whnf
  refine zud (c := 8) rfl (by decide) (by omega) ?_
  conv => whnf
  refine za5 (show ((51 * m / 8 : Nat) : Int) + 8 = ((51 * m / 8 + 8 : Nat) : Int) by omega) (by omega) (by omega) ?_
  conv => whnf
  have hmin : min ((51 * m / 8 + 8 : Nat) : Int) 32 = ((min (51 * m / 8 + 8) 32 : Nat) : Int) := by omega
  refine zof (zam .i64 ((min (51 * m / 8 + 8) 32 : Nat) : Int)) (fun h w => hmin ▸ zyS rfl rfl rfl) rfl rfl ?_
  conv => whnf
  refine vIf (fun hc => ?_) fun hc => ?_
  ·have hk : k < min (51 * m / 8 + 8) 32 := by
    have : (k : Int) < ((min (51 * m / 8 + 8) 32 : Nat) : Int) := of_decide_eq_true hc
    omega
   have hbk2 := hbl k (by omega)
   conv => whnf
   refine .inr ⟨Unit, fun k0 l n R _ => ⟨k0, zaC [1, 2, 3, 4, 5, 8] l, (1, .blk [.row 5 (uw (zp0 b m (k + 1)))] 168) :: n, R⟩, fun _ => True, ?_, fun _ _ => ?_⟩
   rotate_left
   ·conv => whnf
    refine zbq (by omega) (by omega) ?_
    conv => whnf
    exact ⟨(k + 1, zp0 b m (k + 1)), [], [], ⟨⟨by omega, by omega, by omega, rfl⟩, by show 32 - (k + 1) < 32 - k; omega⟩, zaE⟩
   conv => whnf
   refine ⟨k, ⟨rfl, by omega⟩, .inr ?_⟩
   conv => whnf
   refine ⟨by omega, ?_⟩
   conv => whnf
   rw [hbk k]
   refine zwc (by omega) (by omega) ?_
   conv => whnf
   refine za5 (show (8 : Int) * (k : Int) = ((8 * k : Nat) : Int) by omega) (by omega) (by omega) ?_
   conv => whnf
   refine zbq (by omega) (by omega) ?_
   conv => whnf
   refine vIf (fun hc => ?_) fun hc => ?_
   ·have h8 : 8 * k < 51 * m := by
     have : ((8 * k : Nat) : Int) - ((51 * m : Nat) : Int) < 0 := of_decide_eq_true hc
     omega
    have hd : b k / 2 ^ (51 * m - 8 * k) ≤ b k := Nat.div_le_self _ _
    conv => whnf
    refine zas 7 [] (by kernel_rfl) ?_
    conv => whnf
    refine ⟨m, ⟨rfl, by omega⟩, .inr ?_⟩
    conv => whnf
    refine ⟨by omega, ?_⟩
    conv => whnf
    refine za5 (show (0 : Int) - (((8 * k : Nat) : Int) - ((51 * m : Nat) : Int)) = ((51 * m - 8 * k : Nat) : Int) by omega) (by omega) (by omega) ?_
    conv => whnf
    refine zrU (k := 51 * m - 8 * k) rfl (by omega) ?_
    conv => whnf
    refine ⟨((kvN b (k + 1) / 2 ^ (51 * m) : Nat) : Int), ?_, ?_⟩
    ·show IntKind.u64.wrap ((BitVec.ofInt IntKind.u64.bits ((Z m : Nat) : Int) ||| BitVec.ofInt IntKind.u64.bits ((b k / 2 ^ (51 * m - 8 * k) : Nat) : Int)).toNat : Nat) = _
     rw [hZm, zAM hsm (by omega), ztI b m k hkl (by omega), Nat.zero_or, zDj b m k hkl h8]
    conv => whnf
    refine ⟨m, ⟨rfl, by omega⟩, .inr ?_⟩
    conv => whnf
    refine zao (zfA (uw (zp0 b m (k + 1))) rfl rfl rfl rfl rfl rfl hm2 (zqa hZ rfl)) ?_
    conv => whnf
    exact ⟨(), [], [], trivial, zaE⟩
   ·have h8 : 51 * m ≤ 8 * k := by
     have : ¬ ((8 * k : Nat) : Int) - ((51 * m : Nat) : Int) < 0 := of_decide_eq_false hc
     omega
    have hp : b k * 2 ^ (8 * k - 51 * m) < 18446744073709551616 := by
     have h3 : 2 ^ (8 * k - 51 * m) ≤ 2 ^ 56 := Nat.pow_le_pow_right (by omega) (by omega)
     have h4 : b k * 2 ^ (8 * k - 51 * m) ≤ 255 * 2 ^ 56 := Nat.mul_le_mul (by omega) h3
     omega
    conv => whnf
    refine zas 6 [] (by kernel_rfl) ?_
    conv => whnf
    refine ⟨m, ⟨rfl, by omega⟩, .inr ?_⟩
    conv => whnf
    refine ⟨by omega, ?_⟩
    conv => whnf
    refine zlU (k := 8 * k - 51 * m) (by omega) (by omega) ?_
    rw [Nat.mod_eq_of_lt hp]
    conv => whnf
    refine ⟨((kvN b (k + 1) / 2 ^ (51 * m) : Nat) : Int), ?_, ?_⟩
    ·show IntKind.u64.wrap ((BitVec.ofInt IntKind.u64.bits ((Z m : Nat) : Int) ||| BitVec.ofInt IntKind.u64.bits ((b k * 2 ^ (8 * k - 51 * m) : Nat) : Int)).toNat : Nat) = _
     rw [hZm, zAM hsm hp, zAk b m k hkl h8]
    conv => whnf
    refine ⟨m, ⟨rfl, by omega⟩, .inr ?_⟩
    conv => whnf
    refine zao (zfA (uw (zp0 b m (k + 1))) rfl rfl rfl rfl rfl rfl hm2 (zqa hZ rfl)) ?_
    conv => whnf
    exact ⟨(), [], [], trivial, zaE⟩
  have hk : ¬ k < min (51 * m / 8 + 8) 32 := by
    have : ¬ (k : Int) < ((min (51 * m / 8 + 8) 32 : Nat) : Int) := of_decide_eq_false hc
    omega
  conv => whnf
  refine ⟨m, ⟨rfl, by omega⟩, .inr ?_⟩
  conv => whnf
  refine ⟨by omega, ?_⟩
  conv => whnf
  refine zue (x := Z m) ?_
  rw [hZm, ztK b m k hm2 (by omega) h2]
  conv => whnf
  refine ⟨m, ⟨rfl, by omega⟩, .inr ?_⟩
  conv => whnf
  refine zao (zfA (uw (zcS (ofN b) (fun _ => 0) (m + 1))) rfl rfl rfl rfl rfl rfl hm2 (zxA hZ rfl)) ?_
  conv => whnf
  refine zbq (by omega) (by omega) ?_
  conv => whnf
  exact ⟨m + 1, [], [], ⟨hm2, Nat.sub_lt_sub_left hm2 (Nat.lt_succ_self m)⟩, zaE⟩
 have hm5 : m = 5 := by
   have : ¬ (m : Int) < 5 := of_decide_eq_false hc
   omega
 subst hm5
 conv => whnf
 refine ⟨fun _ _ => rfl, ?_⟩
 conv => whnf
 refine ziq (.a (feS (ofN b))) (fun h => congrArg Value.agg (zeF fun i hi => ?_)) rfl (zag rfl)
 rw [zdJ hi]
end
end
section
open Go.RowKit
def zrw : Ty (Nat → Nat) where
 μ := Unit
 dft := ()
 sz := 5
 pos := by decide
 ch F _ := [.row 5 (uw F)]
 nest _ _ _ := True
 len _ _ := rfl
 one _ _ := ⟨fun _ _ => rfl, trivial⟩
instance : Dec zrw := ⟨fun _ => (), fun _ => [], fun _ => rfl⟩
def UTy : Ty Nat where
 μ := Unit
 dft := ()
 sz := 1
 pos := by decide
 ch x _ := [.one (.int .u64 ((x : Nat) : Int))]
 nest _ _ _ := True
 len _ _ := rfl
 one _ _ := ⟨rfl, trivial⟩
instance : Dec UTy := ⟨fun _ => (), fun _ => [], fun _ => rfl⟩
def zDA (F : Nat → Nat) : List Nat := [F 0, F 1, F 2, F 3, F 4]
theorem zoy (F : Nat → Nat) (i : Nat) (hi : i < 5) : (zDA F)[i]? = some (F i) := by
 match i, hi with
 | 0, _ | 1, _ | 2, _ | 3, _ | 4, _ => rfl
theorem zxB {F : Nat → Nat} {ad : Addr} {w : World} {Y : List Nat} (h : St (AtC ad [.row 5 (uw F)]) w Y) : St (SlQ UTy (zDA F) (some ad, 5)) w Y := fun w' hk => ⟨fun e => (by cases e), fun _ => (), jV _, by simp [zDA], fun e => (by cases e), fun ad' hA i x hx => ⟨fun j u hu => by
 obtain rfl := Option.some.inj hA
 have hi : i < 5 := (List.getElem?_eq_some_iff.1 hx).1
 have hxF : x = F i := by rw [zoy F i hi] at hx; exact (Option.some.inj hx).symm
 have hj : j = 0 ∧ u = .int .u64 x := by
  cases j with
  | zero => simp [UTy, cl, Chunk.cells] at hu; exact ⟨rfl, hu.symm⟩
  | succ j => simp [UTy, cl, Chunk.cells] at hu
 obtain ⟨rfl, rfl⟩ := hj
 have := h w' hk i (.int .u64 x) (by simp [cl, Chunk.cells, hi, uw, hxF])
 rw [zav]
 simpa [UTy] using this, trivial⟩⟩
theorem zuh : ∀ (fs : List (Nat → Nat)) (i j : Nat) (F : Nat → Nat), fs[i]? = some F → j < 5 → (cl (fs.map fun F => Chunk.row 5 (uw F)))[i * 5 + j]? = some (uw F j)
 | F0 :: fs, 0, j, F, h, hj => by
  obtain rfl := Option.some.inj h
  rw [List.map_cons, show cl (Chunk.row 5 (uw F0) :: fs.map fun F => Chunk.row 5 (uw F)) = (Chunk.row 5 (uw F0)).cells ++ cl (fs.map fun F => Chunk.row 5 (uw F)) from rfl, Nat.zero_mul, Nat.zero_add, List.getElem?_append_left (by simp [Chunk.cells, hj])]
  simp [Chunk.cells, hj]
 | F0 :: fs, i + 1, j, F, h, hj => by
  have := zuh fs i j F h hj
  rw [List.map_cons, show cl (Chunk.row 5 (uw F0) :: fs.map fun F => Chunk.row 5 (uw F)) = (Chunk.row 5 (uw F0)).cells ++ cl (fs.map fun F => Chunk.row 5 (uw F)) from rfl, List.getElem?_append_right (by simp [Chunk.cells]; omega)]
  rw [← this]
  congr 1
  simp [Chunk.cells]
  omega
theorem zgS {fs : List (Nat → Nat)} {ad : Addr} {w : World} {Y : List Nat} (hl : fs.length ≤ 1000) (h : St (AtC ad (fs.map fun F => .row 5 (uw F))) w Y) : St (SlQ zrw fs (some ad, fs.length)) w Y := fun w' hk => ⟨fun e => (by cases e), fun _ => (), jV _, by omega, fun e => (by cases e), fun ad' hA i F hF => ⟨fun j u hu => by
 obtain rfl := Option.some.inj hA
 have hj : j < 5 := by
  have : j < (cl (zrw.ch F ())).length := (List.getElem?_eq_some_iff.1 hu).1
  simpa [zrw, cl, Chunk.cells] using this
 have hu2 : u = uw F j := by simp [zrw, cl, Chunk.cells, hj] at hu; exact hu.symm
 rw [hu2, Addr.add_add, show i * zrw.sz = i * 5 from rfl]
 exact h w' hk (i * 5 + j) _ (zuh fs i j F hF hj), trivial⟩⟩
section
variable {X : List Nat} {w : World} {F G : Nat → Nat} {q : Qd}
attribute [local irreducible] mxN
theorem zxC (F : Nat → Nat) : F 0 = mxN F 0 := by unfold mxN; rfl
theorem zDB (hF : ∀ i, i < 5 → F i < 18446744073709551616) (hX : ∀ k ∈ X, k < w.heap.size) (hq : St (SlQ UTy (zDA F) q) w X) : Ct Tryz.prog 183 [.slice q.1 5 q.2] X w (zam .u64 ((mxN F 4 : Nat) : Int)) [] [] := by
 refine vFn (k0 := 1) (rs := [.tmp 2]) (svs := [.a (.s (.p (.hd 0 5)))]) (R0 := [.sl 0 5 (SlF UTy (zDA F))]) (hnQ [q]) Tryz.ntmps183 Tryz.func183 rfl rfl rfl rfl rfl zah (by kernel_rfl) hX (fun r hr => by rcases List.mem_singleton.1 hr with rfl; exact hq) ?_
 conv => whnf
 refine .inl ?_
 conv => whnf
 refine ⟨0, ⟨rfl, by decide, by decide⟩, ?_⟩
 conv => whnf
 refine za8 (zaR (T := UTy) (sv := zam .u64 (F 0)) 0 (zoy F 0 (by decide)) (fun _ => rfl) rfl rfl rfl (by kernel_rfl) (fun _ => .inr ⟨rfl, rfl, rfl⟩)) rfl rfl ?_
 rw [zxC F]
 conv => whnf
 refine ⟨Nat, fun k l m R n => ⟨k, (4, zam .i64 ((n + 1 : Nat) : Int)) :: (3, zam .u64 ((mxN F n : Nat) : Int)) :: zaC [0] l, m, R⟩, fun n => n ≤ 4, fun n => 4 - n, ⟨0, [], [0], Nat.zero_le _, zaE⟩, fun n hn => ?_⟩
 conv => whnf
 refine vIf (fun hc => ?_) fun hc => ?_
 ·have hn2 : n < 4 := by
   have : ((n + 1 : Nat) : Int) < 5 := of_decide_eq_true hc
   omega
  conv => whnf
  refine ⟨n + 1, ⟨rfl, by omega, by omega⟩, ?_⟩
  conv => whnf
  refine za8 (zaR (T := UTy) (sv := zam .u64 (F (n + 1))) 0 (zoy F (n + 1) (by omega)) (fun _ => rfl) rfl rfl rfl (by kernel_rfl) (fun _ => .inr ⟨rfl, rfl, rfl⟩)) rfl rfl ?_
  conv => whnf
  have hmx : max ((mxN F n : Nat) : Int) ((F (n + 1) : Nat) : Int) = ((mxN F (n + 1) : Nat) : Int) := by rw [zxc]; omega
  refine zof (zam .u64 ((mxN F (n + 1) : Nat) : Int)) (fun h w => hmx ▸ zCQ rfl rfl rfl) rfl rfl ?_
  conv => whnf
  refine zbq (by omega) (by omega) ?_
  conv => whnf
  exact ⟨n + 1, [], [0], ⟨hn2, Nat.sub_lt_sub_left hn2 (Nat.lt_succ_self n)⟩, zaE⟩
 have hn5 : n = 4 := by
   have : ¬ ((n + 1 : Nat) : Int) < 5 := of_decide_eq_false hc
   omega
 subst hn5
 conv => whnf
 exact zag rfl
theorem zAP (hF : okF F 5) (hX : ∀ k ∈ X, k < w.heap.size) : Ct Tryz.prog 182 [.agg (ca [.row 5 (uw F)])] X w (za4 false) [] [] := by
 refine vFn (k0 := 0) (rs := [.tmp 2]) (svs := [.a (feS F)]) (R0 := []) (hnQ []) Tryz.ntmps182 Tryz.func182 rfl rfl rfl rfl rfl zah (by kernel_rfl) hX (fun r hr => by cases hr) ?_
 conv => whnf
 refine zao (zaG [0] rfl rfl (zan (rs := []) (Rs := []) (zaa (rs := []) (Rs := []) rfl rfl rfl (by kernel_rfl) rfl fun h X w H => zDB (q := (some ⟨h.b 0, 0, none⟩, 5)) (fun i hi => by have := hF i hi; omega) H.xk (zxB (H.fact 0 rfl))) rfl rfl)) ?_
 conv => whnf
 have := (zy9 F 4503599627370496 4).2 fun i hi => hF i hi
 refine vF (decide_eq_false (by omega)) ?_
 conv => whnf
 exact zag rfl
theorem zAQ {fs : List (Nat → Nat)} (hok : ∀ F ∈ fs, okF F 5) (hX : ∀ k ∈ X, k < w.heap.size) (hq : St (SlQ zrw fs q) w X) : Ct Tryz.prog 196 [.slice q.1 fs.length q.2, .func (.func 182) #[] #[]] X w (zam .i64 (-1)) [] [] := by
 have hbig := SlQ.big hq
 refine vFn (k0 := 1) (rs := [.tmp 4]) (svs := [.a (.s (.p (.hd 0 fs.length))), .a (.s (.p (.v (.func (.func 182) #[] #[]))))]) (R0 := [.sl 0 fs.length (SlF zrw fs)]) (hnQ [q]) Tryz.ntmps196 Tryz.func196 rfl rfl rfl rfl rfl zah (by kernel_rfl) hX (fun r hr => by rcases List.mem_singleton.1 hr with rfl; exact hq) ?_
 conv => whnf
 refine ⟨Nat, fun k l m R i => ⟨k, (8, zam .i64 i) :: zaC [0, 1, 7] l, m, R⟩, fun i => i ≤ fs.length, fun i => fs.length - i, ⟨0, [], [0], Nat.zero_le _, zaE⟩, fun i hi => ?_⟩
 conv => whnf
 refine vIf (fun h => ?_) fun h => ?_
 ·have hi2 : i < fs.length := by simpa [Sl.len] using h
  obtain ⟨F, hF⟩ : ∃ F, fs[i]? = some F := ⟨_, jP hi2⟩
  have hFo := hok F (List.mem_of_getElem? hF)
  conv => whnf
  refine ⟨i, ⟨rfl, hi2, hi2⟩, ?_⟩
  conv => whnf
  refine za8 (zaR (T := zrw) (n := 5) (off := 0) (sub := [.row 5 (uw F)]) (sv := .a (feS F)) 0 hF (fun _ => rfl) rfl rfl rfl (by kernel_rfl) (fun _ => .inl ⟨rfl, rfl⟩)) rfl rfl ?_
  conv => whnf
  refine zac rfl rfl rfl (by kernel_rfl) (fun h X w H => zAP hFo H.xk) rfl rfl rfl ?_
  conv => whnf
  refine zbq (by omega) (by omega) ?_
  conv => whnf
  exact ⟨i + 1, [], [0], ⟨hi2, Nat.sub_lt_sub_left hi2 (Nat.lt_succ_self i)⟩, zaE⟩
 ·conv => whnf
  exact zag rfl
theorem zjp {fs : List (Nat → Nat)} (hok : ∀ F ∈ fs, okF F 5) (hX : ∀ k ∈ X, k < w.heap.size) (hq : St (SlQ zrw fs q) w X) : Ct Tryz.prog 164 [.slice q.1 fs.length q.2] X w (za4 true) [] [] := by
 have hC : ∀ {X : List Nat} {w : World} {q : Qd}, (∀ k ∈ X, k < w.heap.size) → St (SlQ zrw fs q) w X → Ct Tryz.prog 181 [.slice q.1 fs.length q.2, .func (.func 182) #[] #[]] X w (za4 false) [] [] := fun {X w q} hX hq => by
  refine vFn (k0 := 1) (rs := [.tmp 4]) (svs := [.a (.s (.p (.hd 0 fs.length))), .a (.s (.p (.v (.func (.func 182) #[] #[]))))]) (R0 := [.sl 0 fs.length (SlF zrw fs)]) (hnQ [q]) Tryz.ntmps181 Tryz.func181 rfl rfl rfl rfl rfl zah (by kernel_rfl) hX (fun r hr => by rcases List.mem_singleton.1 hr with rfl; exact hq) ?_
  conv => whnf
  refine zac rfl rfl rfl (by kernel_rfl) (fun h X w H => zAQ hok H.xk (H.fact 0 rfl)) rfl rfl rfl ?_
  conv => whnf
  exact zag rfl
 refine vFn (k0 := 1) (rs := [.tmp 2]) (svs := [.a (.s (.p (.hd 0 fs.length)))]) (R0 := [.sl 0 fs.length (SlF zrw fs)]) (hnQ [q]) Tryz.ntmps164 Tryz.func164 rfl rfl rfl rfl rfl zah (by kernel_rfl) hX (fun r hr => by rcases List.mem_singleton.1 hr with rfl; exact hq) ?_
 conv => whnf
 refine zac rfl rfl rfl (by kernel_rfl) (fun h X w H => hC H.xk (H.fact 0 rfl)) rfl rfl rfl ?_
 conv => whnf
 exact zag rfl
theorem zrx (hX : ∀ k ∈ X, k < w.heap.size) (hF : okF F 5) : Ct Tryz.prog 135 [.agg (ca [.row 5 (uw F)])] X w (.tup [.agg [.key (zg6 (zg3 F))], .s (.p (.v (.int .i64 0)))]) [] [] := by
 refine vFn (k0 := 0) (rs := [.cell 2 23, .tmp 3]) (svs := [.a (feS F)]) (R0 := []) (hnQ []) Tryz.ntmps135 Tryz.func135 rfl rfl rfl rfl rfl zah (by kernel_rfl) hX (fun r hr => by cases hr) ?_
 conv => whnf
 refine zao (zaG [2] rfl rfl (zan (rs := []) (Rs := []) (zaa (rs := []) (Rs := []) rfl rfl rfl (by kernel_rfl) rfl fun h X w H => zjp (fs := [F]) (q := (some ⟨h.b 2, 0, none⟩, 1)) (fun G hG => by rcases List.mem_singleton.1 hG with rfl; exact hF) H.xk (zgS (fs := [F]) (by simp) (H.fact 0 rfl))) rfl rfl)) ?_
 conv => whnf
 refine zac rfl rfl rfl (by kernel_rfl) (fun h X w H => zug (fun i hi => by have := hF i hi; omega) H.xk) rfl rfl rfl ?_
 conv => whnf
 refine zag ?_
 rw [show zg3 F = zaO (zbo (zdm F) 5) from funext fun k => zmN F hF k]
 rfl
theorem zxD (hX : ∀ k ∈ X, k < w.heap.size) (hF : okF F 5) (hG : okF G 5) : Ct Tryz.prog 160 [.agg (ca [.row 5 (uw F)]), .agg (ca [.row 5 (uw G)])] X w (.tup [feS (zrp F G), .s (.p (.v (.int .i64 0)))]) [] [] := by
 refine vFn (k0 := 0) (rs := [.cell 4 168, .tmp 5]) (svs := [.a (feS F), .a (feS G)]) (R0 := []) (hnQ []) Tryz.ntmps160 Tryz.func160 rfl rfl rfl rfl rfl zah (by kernel_rfl) hX (fun r hr => by cases hr) ?_
 conv => whnf
 refine zao (zaG [3] rfl rfl (zan (rs := []) (Rs := []) (zaa (rs := []) (Rs := []) rfl rfl rfl (by kernel_rfl) rfl fun h X w H => zjp (fs := [F, G]) (q := (some ⟨h.b 3, 0, none⟩, 2)) (fun H' hH => by
  rcases List.mem_cons.1 hH with rfl | hH
  ·exact hF
  ·rcases List.mem_singleton.1 hH with rfl; exact hG) H.xk (zgS (fs := [F, G]) (by simp) (H.fact 0 rfl))) rfl rfl)) ?_
 conv => whnf
 refine ⟨Nat, fun k l m R n => ⟨k, (13, zam .i64 n) :: zaC [2, 3, 4, 5] l, feM (zcS (fun i => F i + G i) F n) m, R⟩, fun n => n ≤ 5, fun n => 5 - n, ⟨0, [], [0], Nat.zero_le _, zaE⟩, fun n hn => ?_⟩
 conv => whnf
 refine vIf (fun hc => ?_) fun hc => ?_
 ·have hn2 : n < 5 := by
   have : (n : Int) < 5 := of_decide_eq_true hc
   omega
  have h1 := hF n hn2
  have h2 := hG n hn2
  have hx : zcS (fun i => F i + G i) F n n = F n := zir (jV n)
  conv => whnf
  refine zas 6 [] (by kernel_rfl) ?_
  conv => whnf
  refine ⟨n, ⟨rfl, by omega⟩, .inr ?_⟩
  conv => whnf
  refine ⟨hn2, ?_⟩
  conv => whnf
  refine ⟨n, ⟨rfl, by omega⟩, .inr ?_⟩
  conv => whnf
  refine ⟨hn2, ?_⟩
  conv => whnf
  refine zaJ (x := zcS (fun i => F i + G i) F n n) (y := G n) rfl rfl (by rw [hx]; omega) ?_
  rw [hx]
  conv => whnf
  refine ⟨n, ⟨rfl, by omega⟩, .inr ?_⟩
  conv => whnf
  refine zao (zfA (uw (zcS (fun i => F i + G i) F (n + 1))) rfl rfl rfl rfl rfl rfl hn2 (zcJ rfl)) ?_
  conv => whnf
  refine zbq (by omega) (by omega) ?_
  conv => whnf
  exact ⟨n + 1, [], [0], ⟨hn2, Nat.sub_lt_sub_left hn2 (Nat.lt_succ_self n)⟩, zaE⟩
 have hn5 : n = 5 := by
   have : ¬ (n : Int) < 5 := of_decide_eq_false hc
   omega
 subst hn5
 conv => whnf
 refine zac rfl rfl rfl (by kernel_rfl) (fun h X w H => by
  have := zgr (F := fun i => F i + G i) (fun i hi => by have := hF i hi; have := hG i hi; show F i + G i < _; omega) H.xk
  rw [← zeF (f := zcS (fun i => F i + G i) F 5) fun i hi => zdJ hi] at this
  exact this) rfl rfl rfl ?_
 conv => whnf
 refine ⟨fun _ _ => rfl, ?_⟩
 conv => whnf
 exact zag rfl
theorem zxE (hX : ∀ k ∈ X, k < w.heap.size) (hF : okF F 5) (hG : okF G 5) : Ct Tryz.prog 161 [.agg (ca [.row 5 (uw F)]), .agg (ca [.row 5 (uw G)])] X w (.tup [feS (zrq F G), .s (.p (.v (.int .i64 0)))]) [] [] := by
 refine vFn (k0 := 0) (rs := [.cell 4 168, .tmp 5]) (svs := [.a (feS F), .a (feS G)]) (R0 := []) (hnQ []) Tryz.ntmps161 Tryz.func161 rfl rfl rfl rfl rfl zah (by kernel_rfl) hX (fun r hr => by cases hr) ?_
 conv => whnf
 refine zao (zaG [3] rfl rfl (zan (rs := []) (Rs := []) (zaa (rs := []) (Rs := []) rfl rfl rfl (by kernel_rfl) rfl fun h X w H => zjp (fs := [F, G]) (q := (some ⟨h.b 3, 0, none⟩, 2)) (fun H' hH => by
  rcases List.mem_cons.1 hH with rfl | hH
  ·exact hF
  ·rcases List.mem_singleton.1 hH with rfl; exact hG) H.xk (zgS (fs := [F, G]) (by simp) (H.fact 0 rfl))) rfl rfl)) ?_
 conv => whnf
 refine ⟨Nat, fun k l m R n => ⟨k, (14, zam .i64 n) :: zaC [2, 3, 4, 5] l, feM (zcS (zc7 F G) F n) m, R⟩, fun n => n ≤ 5, fun n => 5 - n, ⟨0, [], [0], Nat.zero_le _, zaE⟩, fun n hn => ?_⟩
 conv => whnf
 refine vIf (fun hc => ?_) fun hc => ?_
 ·have hn2 : n < 5 := by
   have : (n : Int) < 5 := of_decide_eq_true hc
   omega
  have h1 := hF n hn2
  have h2 := hG n hn2
  have hm : zgO n = 2251799813685229 ∨ zgO n = 2251799813685247 := by unfold zgO; split; exact .inl rfl; exact .inr rfl
  have hx : zcS (zc7 F G) F n n = F n := zir (jV n)
  conv => whnf
  refine .inr ⟨Unit, fun k l m R _ => ⟨k, (7, zam .u64 ((zgO n : Nat) : Int)) :: zaC [2, 3, 4, 5, 6, 14] l, m, R⟩, fun _ => True, ?_, fun _ _ => ?_⟩
  ·conv => whnf
   refine vIf (fun hc => ?_) fun hc => ?_
   ·have h0 : n = 0 := by have := eq_of_beq hc; omega
    conv => whnf
    refine zAL (z' := ((zgO n : Nat) : Int)) (by rw [h0]; rfl) (by decide) (by decide) ?_
    conv => whnf
    exact ⟨(), [], [0], trivial, zaE⟩
   ·have h0 : n ≠ 0 := fun e => by subst e; cases hc
    have e : (2251799813685247 : Int) = ((zgO n : Nat) : Int) := by unfold zgO; rw [if_neg h0]; rfl
    rw [e]
    conv => whnf
    exact ⟨(), [], [0], trivial, zaE⟩
  conv => whnf
  refine zas 9 [] (by kernel_rfl) ?_
  conv => whnf
  refine ⟨n, ⟨rfl, by omega⟩, .inr ?_⟩
  conv => whnf
  refine ⟨hn2, ?_⟩
  conv => whnf
  refine zmJ (x := 4) (y := zgO n) rfl rfl (by omega) ?_
  conv => whnf
  refine ⟨n, ⟨rfl, by omega⟩, .inr ?_⟩
  conv => whnf
  refine ⟨hn2, ?_⟩
  conv => whnf
  refine zsJ (x := 4 * zgO n) (y := G n) rfl rfl (by omega) (by omega) ?_
  conv => whnf
  refine zaJ (x := zcS (zc7 F G) F n n) (y := 4 * zgO n - G n) rfl rfl (by rw [hx]; omega) ?_
  rw [hx]
  conv => whnf
  refine ⟨n, ⟨rfl, by omega⟩, .inr ?_⟩
  conv => whnf
  refine zao (zfA (uw (zcS (zc7 F G) F (n + 1))) rfl rfl rfl rfl rfl rfl hn2 (zcJ rfl)) ?_
  conv => whnf
  refine zbq (by omega) (by omega) ?_
  conv => whnf
  exact ⟨n + 1, [], [0], ⟨hn2, Nat.sub_lt_sub_left hn2 (Nat.lt_succ_self n)⟩, zaE⟩
 have hn5 : n = 5 := by
   have : ¬ (n : Int) < 5 := of_decide_eq_false hc
   omega
 subst hn5
 conv => whnf
 refine zac rfl rfl rfl (by kernel_rfl) (fun h X w H => by
  have := zgr (F := zc7 F G) (fun i hi => ztQ F G hF i hi) H.xk
  rw [← zeF (f := zcS (zc7 F G) F 5) fun i hi => zdJ hi] at this
  exact this) rfl rfl rfl ?_
 conv => whnf
 refine ⟨fun _ _ => rfl, ?_⟩
 conv => whnf
 exact zag rfl
end
end
section
open Go.RowKit
section
variable {x y : Nat} {j : Int} {A : Int → Prop}
theorem zFe (h : A ((x % 4294967296 : Nat) : Int)) : ∃ z, IntKind.u64.wrap ((BitVec.ofInt IntKind.u64.bits (x : Int) &&& BitVec.ofInt IntKind.u64.bits 4294967295).toNat : Nat) = z ∧ A z := ⟨_, by
 have e : (BitVec.ofInt 64 4294967295).toNat = 4294967295 := rfl
 rw [show IntKind.u64.bits = 64 from rfl, BitVec.toNat_and, e, BitVec.toNat_ofInt, Nat.and_two_pow_sub_one_eq_mod _ 32]
 have : (((x : Int) % ((2 ^ 64 : Nat) : Int)).toNat % 2 ^ 32) = x % 4294967296 := by omega
 rw [this]
 exact zq7 (by omega) (by omega), h⟩
theorem zDC (h : A ((x / 4294967296 : Nat) : Int)) : 0 ≤ (32 : Int) ∧ ∃ z, ((x : Int)).fdiv (2 ^ (min (32 : Int).toNat IntKind.u64.bits)) = z ∧ A z := zrU (k := 32) rfl (by decide) (by rw [show (2 : Nat) ^ 32 = 4294967296 from rfl]; exact h)
theorem zmM (h : A ((x * y % 18446744073709551616 : Nat) : Int)) : ∃ z, IntKind.u64.wrap ((x : Int) * (y : Int)) = z ∧ A z := ⟨_, by rw [← Int.natCast_mul]; rw [IntKind.wrap_u64]; omega, h⟩
end
theorem zDD (x y : Nat) (w : World) : (callFunc 187 #[.int .u64 (x : Int), .int .u64 (y : Int), .int .u64 0]).run Tryz.prog w = .ok (.value (.tuple #[.int .u64 (((x + y) % 18446744073709551616 : Nat) : Int), .int .u64 (((x + y) / 18446744073709551616 : Nat) : Int)])) w := by
 rw [run_callFunc_extern Tryz.func187 (by kernel_rfl) (by kernel_rfl) (by kernel_rfl) (e := add64Entry) (by kernel_rfl), run_add64 x y 0 (by omega) (by omega) (by omega) (by omega)]
 simp only [Result.andThen]
 congr 5 <;> omega
theorem zqb {S : Nat → Prop} {ws : World} {l : List (Nat × Value)} {o : Oper} {x y : Nat} {a b c : Operand} {ts : Array TypeId} (ho : o.op = .call { callee := .value (.func 187), args := #[a, b, c], argTypes := ts }) (ha : ev l a = some (.int .u64 x)) (hb : ev l b = some (.int .u64 y)) (hc : ev l c = some (.int .u64 0)) : PK Tryz.prog S ws l o (.tuple #[.int .u64 (((x + y) % 18446744073709551616 : Nat) : Int), .int .u64 (((x + y) / 18446744073709551616 : Nat) : Int)]) := fun w' _ a N E => by
 have hx : ev l (.func 187) = some (.func (.func 187) #[] #[]) := rfl
 have hr := zDD x y w'
 unfold execOp
 rw [ho]
 simp only [resolve, Sem.run_bind, E.ev hx, List.map_toArray, List.map_cons, List.map_nil, E.ev ha, E.ev hb, E.ev hc, Deferred.ofValue, Sem.run_pure, Result.andThen_ok, invoke]
 simpa using hr
def hlS (v : Nat) : List SC := [.one (.p (.v (.int .u64 ((v / 18446744073709551616 : Nat) : Int)))), .one (.p (.v (.int .u64 ((v % 18446744073709551616 : Nat) : Int))))]
def hlC (v : Nat) : List Chunk := [.one (.int .u64 ((v / 18446744073709551616 : Nat) : Int)), .one (.int .u64 ((v % 18446744073709551616 : Nat) : Int))]
theorem zAR {S : Nat → Prop} {ws : World} {l : List (Nat × Value)} {o : Oper} {V : Nat → Nat} {n : Nat} {x y : Operand} (hn : n < 5) (ho : o.op = .index 223 x y) (hx : ev l x = some (.agg (ca (hlC (V 0) ++ hlC (V 1) ++ hlC (V 2) ++ hlC (V 3) ++ hlC (V 4))))) (hy : ev l y = some (.int .i64 (n : Nat))) : PK Tryz.prog S ws l o (.agg (ca (hlC (V n)))) := fun w' _ a N E => by
 have hT : zFC Tryz.prog 222 2 := ⟨_, Tryz.underlying222, rfl, by kernel_rfl⟩
 obtain ⟨d, hu, hd, hs⟩ := hT
 have hg : (isAgg 222).run Tryz.prog w' = .ok true w' := by
  unfold isAgg
  rw [Sem.run_bind, run_underlying hu w']
  cases d <;> simp_all
 have he : (ca (hlC (V 0) ++ hlC (V 1) ++ hlC (V 2) ++ hlC (V 3) ++ hlC (V 4))).extract (n * 2) (n * 2 + 2) = ca (hlC (V n)) := by
  have : n = 0 ∨ n = 1 ∨ n = 2 ∨ n = 3 ∨ n = 4 := by omega
  rcases this with rfl | rfl | rfl | rfl | rfl <;> rfl
 have h1 : (n : Int) < 5 := by omega
 unfold execOp
 simp only [ho, E.ev hx, E.ev hy]
 unfold Instr.index
 rw [← he]
 simp [Sem.run_bind, run_underlying Tryz.underlying223, asIntOf, hn, zbw hs, part, hg]
section
variable {X : List Nat} {w : World} {F G : Nat → Nat} {x y v a b : Nat}
theorem zqc (hx : x < 18446744073709551616) (hy : y < 18446744073709551616) (hX : ∀ k ∈ X, k < w.heap.size) : Ct Tryz.prog 186 [.int .u64 x, .int .u64 y] X w (.tup [.s (.p (.v (.int .u64 ((x * y / 18446744073709551616 : Nat) : Int)))), .s (.p (.v (.int .u64 ((x * y % 18446744073709551616 : Nat) : Int))))]) [] [] := by
 obtain ⟨bd, bt, bw, hhi⟩ := Lib.mul64_hi x y hx hy
 have ba := Lib.half_mul_le (a := x / 4294967296) (b := y / 4294967296) (by omega) (by omega)
 have bb := Lib.half_mul_le (a := x / 4294967296) (b := y % 4294967296) (by omega) (by omega)
 have bc := Lib.half_mul_le (a := x % 4294967296) (b := y / 4294967296) (by omega) (by omega)
 refine vFn (k0 := 0) (rs := [.tmp 4, .tmp 5]) (svs := [zam .u64 x, zam .u64 y]) (R0 := []) (hnQ []) Tryz.ntmps186 Tryz.func186 rfl rfl rfl rfl rfl zah (by kernel_rfl) hX (fun r hr => by cases hr) ?_
 conv => whnf
 refine zFe ?_
 conv => whnf
 refine zDC ?_
 conv => whnf
 refine zFe ?_
 conv => whnf
 refine zDC ?_
 conv => whnf
 refine zmJ (x := x % 4294967296) (y := y % 4294967296) rfl rfl bd ?_
 conv => whnf
 refine zmJ (x := x / 4294967296) (y := y % 4294967296) rfl rfl (by omega) ?_
 conv => whnf
 refine zDC ?_
 conv => whnf
 refine zaJ rfl rfl bt ?_
 conv => whnf
 refine zFe ?_
 conv => whnf
 refine zDC ?_
 conv => whnf
 refine zmJ (x := x % 4294967296) (y := y / 4294967296) rfl rfl (by omega) ?_
 conv => whnf
 refine zaJ rfl rfl bw ?_
 conv => whnf
 refine zmJ (x := x / 4294967296) (y := y / 4294967296) rfl rfl (by omega) ?_
 conv => whnf
 refine zaJ rfl rfl (by omega) ?_
 conv => whnf
 refine zDC ?_
 conv => whnf
 refine zaJ rfl rfl (by omega) ?_
 conv => whnf
 refine zmM ?_
 rw [hhi]
 conv => whnf
 exact zag rfl
theorem zui (ha : a < 18446744073709551616) (hb : b < 18446744073709551616) (hv : v + a * b < 340282366920938463463374607431768211456) (hX : ∀ k ∈ X, k < w.heap.size) : Ct Tryz.prog 185 [.agg (ca (hlC v)), .int .u64 a, .int .u64 b] X w (.a (.agg (hlS (v + a * b)))) [] [] := by
 obtain ⟨p, hp⟩ : ∃ p, p = a * b := ⟨_, rfl⟩
 rw [← hp] at hv ⊢
 refine vFn (k0 := 0) (rs := [.cell 6 222]) (svs := [.a (.agg (hlS v)), zam .u64 a, zam .u64 b]) (R0 := []) (hnQ []) Tryz.ntmps185 Tryz.func185 rfl rfl rfl rfl rfl zah (by kernel_rfl) hX (fun r hr => by cases hr) ?_
 conv => whnf
 refine zac rfl rfl rfl (by kernel_rfl) (fun h X w H => zqc ha hb H.xk) rfl rfl rfl ?_
 rw [← hp]
 conv => whnf
 refine zof (.tup [.s (.p (.v (.int .u64 (((p % 18446744073709551616 + v % 18446744073709551616) % 18446744073709551616 : Nat) : Int)))), .s (.p (.v (.int .u64 (((p % 18446744073709551616 + v % 18446744073709551616) / 18446744073709551616 : Nat) : Int))))]) (fun h w => zqb (x := p % 18446744073709551616) (y := v % 18446744073709551616) rfl rfl rfl rfl) rfl rfl ?_
 conv => whnf
 refine zaJ (x := v / 18446744073709551616) (y := p / 18446744073709551616) rfl rfl (by omega) ?_
 conv => whnf
 refine zaJ (y := (p % 18446744073709551616 + v % 18446744073709551616) / 18446744073709551616) rfl rfl (by omega) ?_
 conv => whnf
 have e0 : v / 18446744073709551616 + p / 18446744073709551616 + (p % 18446744073709551616 + v % 18446744073709551616) / 18446744073709551616 = (v + p) / 18446744073709551616 := by omega
 have e1 : (p % 18446744073709551616 + v % 18446744073709551616) % 18446744073709551616 = (v + p) % 18446744073709551616 := by omega
 rw [e0, e1]
 exact zag rfl
end
end
section
open Go.RowKit
section
variable {x y : Nat} {A : Int → Prop}
theorem zFJ (hx : x < 2251799813685248) (h : A ((x * 8192 : Nat) : Int)) : 0 ≤ (13 : Int) ∧ ∃ z, IntKind.u64.wrap ((x : Int) * 2 ^ (min (13 : Int).toNat IntKind.u64.bits)) = z ∧ A z := zlU (k := 13) rfl (by decide) (by rw [show (2 : Nat) ^ 13 = 8192 from rfl, Nat.mod_eq_of_lt (by omega)]; exact h)
theorem zhl (hx : x < 2251799813685248) (hy : y < 18446744073709551616) (h : A ((x * 8192 + y / 2251799813685248 : Nat) : Int)) : ∃ z, IntKind.u64.wrap ((BitVec.ofInt IntKind.u64.bits ((x * 8192 : Nat) : Int) ||| BitVec.ofInt IntKind.u64.bits ((y / 2251799813685248 : Nat) : Int)).toNat : Nat) = z ∧ A z := ⟨_, zAM (by omega) (by omega), by
 have : x * 8192 ||| y / 2251799813685248 = x * 8192 + y / 2251799813685248 := by
  have := ztF (y / 2251799813685248) x 13 (by omega)
  rw [Nat.or_comm, show (8192 : Nat) = 2 ^ 13 from rfl, this, Nat.add_comm]
 rw [this]
 exact h⟩
end
section
variable {X : List Nat} {w : World} {F G : Nat → Nat}
def wdM (V : Nat → Nat) (m : MB) : MB := (3, .blk (hlS (V 0) ++ hlS (V 1) ++ hlS (V 2) ++ hlS (V 3) ++ hlS (V 4)) 223) :: m
def loM (F : Nat → Nat) (m : MB) : MB := (2, .blk [.row 5 (uw F)] 168) :: m
theorem zAS {m j c : Nat} {V : Nat → Nat} (hm : m < 5) (hj : j < 5) (hV : V = zd7 F G (5 * m + j)) (hc : c = if m + j ≥ 5 then m + j - 5 else m + j) : (fun e => if e = c then V c + F m * (if m + j ≥ 5 then 19 * G j else G j) else V e) = zd7 F G (5 * m + (j + 1)) := funext fun e => by
 have h1 : (5 * m + j) / 5 = m := by omega
 have h2 : (5 * m + j) % 5 = j := by omega
 rw [← Nat.add_assoc, zmI, ← hV]
 unfold zbO
 rw [h1, h2]
 have e1 : (m + j) % 5 = c := by split at hc <;> omega
 rw [e1]
 by_cases h : e = c
 ·rw [if_pos h, if_pos h.symm, h]
 ·rw [if_neg h, if_neg (Ne.symm h), Nat.add_zero]
theorem zAT : (fun _ => 0) = zd7 F G (5 * 0) := rfl
theorem zDE (V : Nat → Nat) : zdt V 0 = (19 * ovN V 5 + loN V 0) % 2251799813685248 := rfl
theorem zDF (V : Nat → Nat) : zdt V 1 = loN V 1 + (19 * ovN V 5 + loN V 0) / 2251799813685248 := rfl
theorem zDG (V : Nat → Nat) (i : Nat) (h0 : i ≠ 0) (h1 : i ≠ 1) : zdt V i = loN V i := by unfold zdt; rw [if_neg h0, if_neg h1]
attribute [local irreducible] zd7 zdt zdp
theorem zqd (hF : okF F 5) (hG : okF G 5) (hX : ∀ k ∈ X, k < w.heap.size) : Ct Tryz.prog 167 [.agg (ca [.row 5 (uw F)]), .agg (ca [.row 5 (uw G)])] X w (.a (feS (zci F G))) [] [] := by
 have al := zza F G hF hG
 refine vFn (k0 := 0) (rs := [.cell 4 168]) (svs := [.a (feS F), .a (feS G)]) (R0 := []) (hnQ []) Tryz.ntmps167 Tryz.func167 rfl rfl rfl rfl rfl zah (by kernel_rfl) hX (fun r hr => by cases hr) ?_
 conv => whnf
 refine ⟨Nat × (Nat → Nat), fun k l m R n => ⟨k, (18, zam .i64 n.1) :: zaC [2, 3, 4, 5, 17] l, wdM n.2 m, R⟩, fun n => n.1 ≤ 5 ∧ n.2 = zd7 F G (5 * n.1), fun n => 5 - n.1, ⟨(0, fun _ => 0), [], [], ⟨Nat.zero_le _, zAT⟩, zaE⟩, ?_⟩
 rintro ⟨m, V⟩ ⟨hm, hV⟩
 replace hm : m ≤ 5 := hm
 replace hV : V = zd7 F G (5 * m) := hV
 conv => whnf
 refine vIf (fun hc => ?_) fun hc => ?_
 ·have hm2 : m < 5 := by
   have : (m : Int) < 5 := of_decide_eq_true hc
   omega
  have fb := hF m hm2
  conv => whnf
  refine ⟨m, ⟨rfl, hm2⟩, ?_⟩
  conv => whnf
  refine ⟨Nat × (Nat → Nat), fun k l n R j => ⟨k, (23, zam .i64 j.1) :: zaC [2, 3, 4, 5, 6, 7, 17, 18, 22] l, wdM j.2 n, R⟩, fun j => j.1 ≤ 5 ∧ j.2 = zd7 F G (5 * m + j.1), fun j => 5 - j.1, ⟨(0, V), [], [], ⟨Nat.zero_le _, hV⟩, zaE⟩, ?_⟩
  rintro ⟨j, U⟩ ⟨hj, hU⟩
  replace hj : j ≤ 5 := hj
  replace hU : U = zd7 F G (5 * m + j) := hU
  conv => whnf
  refine vIf (fun hc => ?_) fun hc => ?_
  ·have hj2 : j < 5 := by
    have : (j : Int) < 5 := of_decide_eq_true hc
    omega
   have gb := hG j hj2
   conv => whnf
   refine ⟨j, ⟨rfl, hj2⟩, ?_⟩
   conv => whnf
   refine zbq (z := (m : Int) + (j : Int)) (by omega) (by omega) ?_
   conv => whnf
   obtain ⟨c, hcc⟩ : ∃ c, c = if m + j ≥ 5 then m + j - 5 else m + j := ⟨_, rfl⟩
   obtain ⟨g, hg⟩ : ∃ g, g = if m + j ≥ 5 then 19 * G j else G j := ⟨_, rfl⟩
   have hgb : g < 85568392920039424 := by rw [hg]; split <;> omega
   have hc5 : c < 5 := by rw [hcc]; split <;> omega
   have hput := zAS hm2 hj2 hU hcc
   rw [← hg] at hput
   refine .inr ⟨Unit, fun k l m R _ => ⟨k, (10, zam .i64 ((c : Nat) : Int)) :: (9, zam .u64 ((g : Nat) : Int)) :: zaC [2, 3, 4, 5, 6, 7, 17, 18, 22, 23] l, m, R⟩, fun _ => True, ?_, fun _ _ => ?_⟩
   ·conv => whnf
    refine vIf (fun hc => ?_) fun hc => ?_
    ·have hge : m + j ≥ 5 := by
      have : (m : Int) + (j : Int) ≥ 5 := of_decide_eq_true hc
      omega
     conv => whnf
     refine za5 (z := (m : Int) + (j : Int) - 5) (z' := ((c : Nat) : Int)) (by rw [hcc, if_pos hge]; omega) (by omega) (by omega) ?_
     conv => whnf
     refine zmJ (x := 19) (y := G j) rfl rfl (by omega) ?_
     rw [if_pos hge] at hg
     rw [← hg]
     conv => whnf
     exact ⟨(), [], [], trivial, zaE⟩
    ·have hlt : ¬ (m + j ≥ 5) := by
      have : ¬ (m : Int) + (j : Int) ≥ 5 := of_decide_eq_false hc
      omega
     have e1 : (m : Int) + (j : Int) = ((c : Nat) : Int) := by rw [hcc, if_neg hlt]; omega
     rw [if_neg hlt] at hg
     subst hg
     conv => whnf
     rw [e1]
     exact ⟨(), [], [], trivial, zaE⟩
   have hvb : ∀ c, c < 5 → U c + F m * g < 340282366920938463463374607431768211456 := fun c hc => by
    have := al (5 * m + j) c (by omega)
    have : F m * g ≤ 4503599627370496 * 85568392920039424 := Nat.mul_le_mul (by omega) (by omega)
    rw [hU]
    omega
   have hcs : c = 0 ∨ c = 1 ∨ c = 2 ∨ c = 3 ∨ c = 4 := by omega
   rcases hcs with rfl | rfl | rfl | rfl | rfl
   all_goals
    conv => whnf
    refine ⟨_, ⟨rfl, by decide⟩, .inl ?_⟩
    conv => whnf
    refine zac rfl rfl rfl (by kernel_rfl) (fun h X w H => zui (by omega) (by omega) (hvb _ (by decide)) H.xk) rfl rfl rfl ?_
    conv => whnf
    refine ⟨_, ⟨rfl, by decide⟩, .inl ?_⟩
    conv => whnf
    refine zbq (z := (j : Int) + 1) (by omega) (by omega) ?_
    conv => whnf
    exact ⟨(j + 1, _), [], [], ⟨⟨hj2, hput⟩, Nat.sub_lt_sub_left hj2 (Nat.lt_succ_self j)⟩, zaE⟩
  have hj5 : j = 5 := by
    have : ¬ (j : Int) < 5 := of_decide_eq_false hc
    omega
  subst hj5
  conv => whnf
  refine zbq (by omega) (by omega) ?_
  conv => whnf
  exact ⟨(m + 1, U), [], [], ⟨⟨hm2, hU⟩, Nat.sub_lt_sub_left hm2 (Nat.lt_succ_self m)⟩, zaE⟩
 have hm5 : m = 5 := by
   have : ¬ (m : Int) < 5 := of_decide_eq_false hc
   omega
 subst hm5
 subst hV
 have vl : ∀ c, c < 5 → zd7 F G (5 * 5) c < 10384593717069655257060992658440192 := fun c _ => al 25 c (by omega)
 have ob := ztO (zd7 F G (5 * 5)) vl
 have fl := ztP (zd7 F G (5 * 5)) vl
 rw [show zci F G = zdp (zdt (zd7 F G (5 * 5))) from rfl]
 generalize zd7 F G (5 * 5) = V at *
 conv => whnf
 refine ⟨Nat, fun k l m R n => ⟨k, (47, zam .i64 n) :: (11, zam .u64 ((ovN V n : Nat) : Int)) :: zaC [2, 3, 4, 5, 46] l, loM (zcS (loN V) (fun _ => 0) n) m, R⟩, fun n => n ≤ 5, fun n => 5 - n, ⟨0, [], [], Nat.zero_le _, zaE⟩, fun n hn => ?_⟩
 conv => whnf
 refine vIf (fun hc => ?_) fun hc => ?_
 ·have hn2 : n < 5 := by
   have : (n : Int) < 5 := of_decide_eq_true hc
   omega
  conv => whnf
  refine zof (.a (.agg (hlS (V n)))) (fun h w => zAR hn2 rfl rfl rfl) rfl rfl ?_
  conv => whnf
  have hvl := vl n hn2
  have hob := ob n hn
  refine zac rfl rfl rfl (by kernel_rfl) (fun h X w H => zui (v := V n) (a := ovN V n) (b := 1) (by omega) (by omega) (by omega) H.xk) rfl rfl rfl ?_
  rw [Nat.mul_one]
  conv => whnf
  refine zas 13 [2] (by kernel_rfl) ?_
  conv => whnf
  refine zue ?_
  rw [show (V n + ovN V n) % 18446744073709551616 % 2251799813685248 = loN V n from by unfold loN; omega]
  conv => whnf
  refine zFJ (by omega) ?_
  conv => whnf
  refine zDz ?_
  conv => whnf
  refine zhl (by omega) (by omega) ?_
  rw [show (V n + ovN V n) / 18446744073709551616 * 8192 + (V n + ovN V n) % 18446744073709551616 / 2251799813685248 = ovN V (n + 1) from by rw [zkk]; omega]
  conv => whnf
  refine ⟨n, ⟨rfl, hn2⟩, .inr ?_⟩
  conv => whnf
  refine zcL rfl (zdB 2 (zfA (uw (zcS (loN V) (fun _ => 0) (n + 1))) rfl rfl rfl rfl rfl rfl hn2 (zcJ rfl)) (fun _ h => h) rfl) ?_
  conv => whnf
  refine zbq (by omega) (by omega) ?_
  conv => whnf
  exact ⟨n + 1, [], [], ⟨hn2, Nat.sub_lt_sub_left hn2 (Nat.lt_succ_self n)⟩, zaE⟩
 have hn5 : n = 5 := by
   have : ¬ (n : Int) < 5 := of_decide_eq_false hc
   omega
 subst hn5
 have ob5 := ob 5 (by omega)
 have lb0 : loN V 0 < 2251799813685248 := Nat.mod_lt _ (by omega)
 have lb1 : loN V 1 < 2251799813685248 := Nat.mod_lt _ (by omega)
 conv => whnf
 refine zac rfl rfl rfl (by kernel_rfl) (fun h X w H => zqc (x := ovN V 5) (y := 19) (by omega) (by omega) H.xk) rfl rfl rfl ?_
 obtain ⟨z, hz⟩ : ∃ z, z = loN V 0 := ⟨_, rfl⟩
 obtain ⟨p, hp⟩ : ∃ p, p = ovN V 5 * 19 := ⟨_, rfl⟩
 rw [← hp]
 conv => whnf
 refine ⟨0, ⟨rfl, by decide⟩, .inl ?_⟩
 conv => whnf
 refine zof (.tup [.s (.p (.v (.int .u64 (((p % 18446744073709551616 + loN V 0) % 18446744073709551616 : Nat) : Int)))), .s (.p (.v (.int .u64 (((p % 18446744073709551616 + loN V 0) / 18446744073709551616 : Nat) : Int))))]) (fun h w => zqb (x := p % 18446744073709551616) (y := loN V 0) rfl rfl rfl rfl) rfl rfl ?_
 rw [← hz]
 conv => whnf
 refine zue ?_
 rw [show (p % 18446744073709551616 + z) % 18446744073709551616 % 2251799813685248 = zdt V 0 from by rw [zDE, hz, hp]; omega]
 conv => whnf
 refine ⟨0, ⟨rfl, by decide⟩, .inr ?_⟩
 conv => whnf
 refine zao (zfA (j := 0) (upd (uw (zcS (loN V) (fun _ => 0) 5)) 0 (.int .u64 ((zdt V 0 : Nat) : Int))) rfl rfl rfl rfl rfl rfl (by decide) (fun _ => rfl)) ?_
 conv => whnf
 refine ⟨1, ⟨rfl, by decide⟩, .inl ?_⟩
 conv => whnf
 refine zaJ (x := p / 18446744073709551616) (y := (p % 18446744073709551616 + z) / 18446744073709551616) rfl rfl (by omega) ?_
 conv => whnf
 refine zFJ (by omega) ?_
 conv => whnf
 refine zDz ?_
 conv => whnf
 refine zhl (by omega) (by omega) ?_
 conv => whnf
 refine zaJ (x := loN V 1) (y := (p / 18446744073709551616 + (p % 18446744073709551616 + z) / 18446744073709551616) * 8192 + (p % 18446744073709551616 + z) % 18446744073709551616 / 2251799813685248) rfl rfl (by omega) ?_
 rw [show loN V 1 + ((p / 18446744073709551616 + (p % 18446744073709551616 + z) / 18446744073709551616) * 8192 + (p % 18446744073709551616 + z) % 18446744073709551616 / 2251799813685248) = zdt V 1 from by rw [zDF, hz, hp]; omega]
 conv => whnf
 refine ⟨1, ⟨rfl, by decide⟩, .inr ?_⟩
 conv => whnf
 refine zao (zfA (j := 1) (upd (upd (uw (zcS (loN V) (fun _ => 0) 5)) 0 (.int .u64 ((zdt V 0 : Nat) : Int))) 1 (.int .u64 ((zdt V 1 : Nat) : Int))) rfl rfl rfl rfl rfl rfl (by decide) (fun _ => rfl)) ?_
 conv => whnf
 refine zac rfl rfl rfl (by kernel_rfl) (fun h X w H => by
  have := zgr (F := zdt V) fl H.xk
  rw [← zuc (f := upd (upd (uw (zcS (loN V) (fun _ => 0) 5)) 0 (.int .u64 ((zdt V 0 : Nat) : Int))) 1 (.int .u64 ((zdt V 1 : Nat) : Int))) fun i hi => ?_] at this
  ·exact this
  ·unfold upd uw
   by_cases h1 : i = 1
   ·rw [if_pos h1, h1]
   ·rw [if_neg h1]
    by_cases h0 : i = 0
    ·rw [if_pos h0, h0]
    ·rw [if_neg h0, zdJ hi, zDG V i h0 h1]) rfl rfl rfl ?_
 conv => whnf
 refine ⟨fun _ _ => rfl, ?_⟩
 conv => whnf
 exact zag rfl
end
end
section
open Go.RowKit
section
variable {X : List Nat} {w : World} {F G : Nat → Nat} {N : Nat}
theorem zxF (hX : ∀ k ∈ X, k < w.heap.size) (hF : okF F 5) (hG : okF G 5) : Ct Tryz.prog 162 [.agg (ca [.row 5 (uw F)]), .agg (ca [.row 5 (uw G)])] X w (.tup [feS (zci F G), .s (.p (.v (.int .i64 0)))]) [] [] := by
 refine vFn (k0 := 0) (rs := [.cell 4 168, .tmp 5]) (svs := [.a (feS F), .a (feS G)]) (R0 := []) (hnQ []) Tryz.ntmps162 Tryz.func162 rfl rfl rfl rfl rfl zah (by kernel_rfl) hX (fun r hr => by cases hr) ?_
 conv => whnf
 refine zao (zaG [3] rfl rfl (zan (rs := []) (Rs := []) (zaa (rs := []) (Rs := []) rfl rfl rfl (by kernel_rfl) rfl fun h X w H => zjp (fs := [F, G]) (q := (some ⟨h.b 3, 0, none⟩, 2)) (fun H' hH => by
  rcases List.mem_cons.1 hH with rfl | hH
  ·exact hF
  ·rcases List.mem_singleton.1 hH with rfl; exact hG) H.xk (zgS (fs := [F, G]) (by simp) (H.fact 0 rfl))) rfl rfl)) ?_
 conv => whnf
 refine zac rfl rfl rfl (by kernel_rfl) (fun h X w H => zqd hF hG H.xk) rfl rfl rfl ?_
 conv => whnf
 refine ⟨fun _ _ => rfl, ?_⟩
 conv => whnf
 exact zag rfl
attribute [local irreducible] sqN
theorem zDH : F = sqN F 0 := by unfold sqN; rfl
theorem zis (hF : okF F 5) (hN : N < 1000) (hX : ∀ k ∈ X, k < w.heap.size) : Ct Tryz.prog 168 [.agg (ca [.row 5 (uw F)]), .int .i64 N] X w (.a (feS (sqN F N))) [] [] := by
 refine vFn (k0 := 0) (rs := [.cell 4 168]) (svs := [.a (feS F), zam .i64 N]) (R0 := []) (hnQ []) Tryz.ntmps168 Tryz.func168 rfl rfl rfl rfl rfl zah (by kernel_rfl) hX (fun r hr => by cases hr) ?_
 conv => whnf
 refine ⟨Nat × (Nat → Nat), fun k l m R n => ⟨k, (6, zam .i64 n.1) :: zaC [2, 4, 5] l, feM n.2 m, R⟩, fun n => n.1 ≤ N ∧ n.2 = sqN F n.1, fun n => N - n.1, ⟨(0, F), [], [], ⟨Nat.zero_le _, zDH⟩, zaE⟩, ?_⟩
 rintro ⟨n, V⟩ ⟨hn, hV⟩
 replace hn : n ≤ N := hn
 replace hV : V = sqN F n := hV
 have hVo : okF V 5 := hV ▸ zih F hF n
 conv => whnf
 refine vIf (fun hc => ?_) fun hc => ?_
 ·have hn2 : n < N := by
   have : (n : Int) < (N : Int) := of_decide_eq_true hc
   omega
  conv => whnf
  refine zac rfl rfl rfl (by kernel_rfl) (fun h X w H => zqd hVo hVo H.xk) rfl rfl rfl ?_
  conv => whnf
  refine ⟨fun _ _ => rfl, ?_⟩
  conv => whnf
  refine zbq (by show _ ≤ (n : Int) + 1; omega) (by show (n : Int) + 1 ≤ _; omega) ?_
  conv => whnf
  exact ⟨(n + 1, zci V V), [], [], ⟨⟨hn2, by rw [hV]; exact (zp2 F n).symm⟩, Nat.sub_lt_sub_left hn2 (Nat.lt_succ_self n)⟩, zaE⟩
 have hn5 : n = N := by
   have : ¬ (n : Int) < (N : Int) := of_decide_eq_false hc
   omega
 subst hn5
 subst hV
 conv => whnf
 refine ⟨fun _ _ => rfl, ?_⟩
 conv => whnf
 exact zag rfl
theorem zea (V : Nat → Nat) (hv : V = zgi F N G) (hF : okF F 5) (hG : okF G 5) (hN : N < 1000) (hX : ∀ k ∈ X, k < w.heap.size) : Ct Tryz.prog 166 [.agg (ca [.row 5 (uw F)]), .int .i64 N, .agg (ca [.row 5 (uw G)])] X w (.a (feS V)) [] [] := by
 subst hv
 refine vFn (k0 := 0) (rs := [.cell 6 168]) (svs := [.a (feS F), zam .i64 N, .a (feS G)]) (R0 := []) (hnQ []) Tryz.ntmps166 Tryz.func166 rfl rfl rfl rfl rfl zah (by kernel_rfl) hX (fun r hr => by cases hr) ?_
 conv => whnf
 refine zas 4 [] (by kernel_rfl) ?_
 conv => whnf
 refine zaq (zaa (sv := .a (feS (sqN F N))) (rs := []) (Rs := []) rfl rfl rfl (by kernel_rfl) rfl fun h X w H => zis hF hN H.xk) ?_
 conv => whnf
 refine zac rfl rfl rfl (by kernel_rfl) (fun h X w H => zqd (zih F hF N) hG H.xk) rfl rfl rfl ?_
 conv => whnf
 refine ⟨fun _ _ => rfl, ?_⟩
 conv => whnf
 exact zag rfl
theorem zoz (hX : ∀ k ∈ X, k < w.heap.size) (hF : okF F 5) : Ct Tryz.prog 163 [.agg (ca [.row 5 (uw F)]), .int .i64 1] X w (.tup [feS (sqN F 1), .s (.p (.v (.int .i64 0)))]) [] [] := by
 refine vFn (k0 := 0) (rs := [.cell 4 168, .tmp 5]) (svs := [.a (feS F), zam .i64 1]) (R0 := []) (hnQ []) Tryz.ntmps163 Tryz.func163 rfl rfl rfl rfl rfl zah (by kernel_rfl) hX (fun r hr => by cases hr) ?_
 conv => whnf
 refine zao (zaG [2] rfl rfl (zan (rs := []) (Rs := []) (zaa (rs := []) (Rs := []) rfl rfl rfl (by kernel_rfl) rfl fun h X w H => zjp (fs := [F]) (q := (some ⟨h.b 2, 0, none⟩, 1)) (fun G hG => by rcases List.mem_singleton.1 hG with rfl; exact hF) H.xk (zgS (fs := [F]) (by simp) (H.fact 0 rfl))) rfl rfl)) ?_
 conv => whnf
 refine zac rfl rfl rfl (by kernel_rfl) (fun h X w H => zis (N := 1) hF (by decide) H.xk) rfl rfl rfl ?_
 conv => whnf
 refine ⟨fun _ _ => rfl, ?_⟩
 conv => whnf
 exact zag rfl
theorem zjq (V : Nat → Nat) (hv : V = sqN F 1) (hF : okF F 5) (hX : ∀ k ∈ X, k < w.heap.size) : Ct Tryz.prog 168 [.agg (ca [.row 5 (uw F)]), .int .i64 1] X w (.a (feS V)) [] [] := hv ▸ zis (N := 1) hF (by decide) hX
theorem zuj (V : Nat → Nat) (hv : V = zci F G) (hF : okF F 5) (hG : okF G 5) (hX : ∀ k ∈ X, k < w.heap.size) : Ct Tryz.prog 167 [.agg (ca [.row 5 (uw F)]), .agg (ca [.row 5 (uw G)])] X w (.a (feS V)) [] [] := hv ▸ zqd hF hG hX
attribute [local irreducible] zkn zg4 zcH zeC zhm zcI zeD zcV zb3 zc8 zgj zgi zxp
theorem zoA (hX : ∀ k ∈ X, k < w.heap.size) (hF : okF F 5) : Ct Tryz.prog 137 [.agg (ca [.row 5 (uw F)])] X w (.tup [feS (zxp F), .s (.p (.v (.int .i64 0)))]) [] [] := by
 refine vFn (k0 := 0) (rs := [.cell 2 168, .tmp 3]) (svs := [.a (feS F)]) (R0 := []) (hnQ []) Tryz.ntmps137 Tryz.func137 rfl rfl rfl rfl rfl zah (by kernel_rfl) hX (fun r hr => by cases hr) ?_
 conv => whnf
 refine zao (zaG [2] rfl rfl (zan (rs := []) (Rs := []) (zaa (rs := []) (Rs := []) rfl rfl rfl (by kernel_rfl) rfl fun h X w H => zjp (fs := [F]) (q := (some ⟨h.b 2, 0, none⟩, 1)) (fun G hG => by rcases List.mem_singleton.1 hG with rfl; exact hF) H.xk (zgS (fs := [F]) (by simp) (H.fact 0 rfl))) rfl rfl)) ?_
 conv => whnf
 refine zac rfl rfl rfl (by kernel_rfl) (fun h X w H => zjq (zkn F) (by unfold zkn; rfl) hF H.xk) rfl rfl rfl ?_
 conv => whnf
 refine ⟨fun _ _ => rfl, ?_⟩
 conv => whnf
 refine zac rfl rfl rfl (by kernel_rfl) (fun h X w H => zea (F := zkn F) (G := F) (N := 2) (zg4 F) (by unfold zg4; rfl) (zp3 hF) hF (by decide) H.xk) rfl rfl rfl ?_
 conv => whnf
 refine ⟨fun _ _ => rfl, ?_⟩
 conv => whnf
 refine zac rfl rfl rfl (by kernel_rfl) (fun h X w H => zuj (zcH F) (by unfold zcH; rfl) (zko hF) (zp3 hF) H.xk) rfl rfl rfl ?_
 conv => whnf
 refine ⟨fun _ _ => rfl, ?_⟩
 conv => whnf
 refine zas 5 [1004] (by kernel_rfl) ?_
 conv => whnf
 refine zaq (zaa (sv := .a (feS (sqN (zcH F) 1))) (rs := []) (Rs := []) rfl rfl rfl (by kernel_rfl) rfl fun h X w H => zjq _ rfl (zgk hF) H.xk) ?_
 conv => whnf
 refine zaq (zaa (sv := .a (feS (zeC F))) (rs := []) (Rs := []) rfl rfl rfl (by kernel_rfl) rfl fun h X w H => zuj (zeC F) (by unfold zeC; rfl) (zih _ (zgk hF) 1) (zko hF) H.xk) ?_
 conv => whnf
 refine zcL rfl (zbU (z := [.row 5 (uw fun _ => 0)]) (fun hn => by kernel_rfl) rfl rfl) ?_
 conv => whnf
 refine ⟨fun _ _ => rfl, ?_⟩
 conv => whnf
 refine zac rfl rfl rfl (by kernel_rfl) (fun h X w H => zea (F := zeC F) (G := zeC F) (N := 5) (zhm F) (by unfold zhm; rfl) (zkp hF) (zkp hF) (by decide) H.xk) rfl rfl rfl ?_
 conv => whnf
 refine ⟨fun _ _ => rfl, ?_⟩
 conv => whnf
 refine zac rfl rfl rfl (by kernel_rfl) (fun h X w H => zea (F := zhm F) (G := zhm F) (N := 10) (zcI F) (by unfold zcI; rfl) (zjm hF) (zjm hF) (by decide) H.xk) rfl rfl rfl ?_
 conv => whnf
 refine ⟨fun _ _ => rfl, ?_⟩
 conv => whnf
 refine zac rfl rfl rfl (by kernel_rfl) (fun h X w H => zea (F := zcI F) (G := zcI F) (N := 20) (zeD F) (by unfold zeD; rfl) (zgm hF) (zgm hF) (by decide) H.xk) rfl rfl rfl ?_
 conv => whnf
 refine ⟨fun _ _ => rfl, ?_⟩
 conv => whnf
 refine zac rfl rfl rfl (by kernel_rfl) (fun h X w H => zea (F := zeD F) (G := zhm F) (N := 10) (zcV F) (by unfold zcV; rfl) (zp4 hF) (zjm hF) (by decide) H.xk) rfl rfl rfl ?_
 conv => whnf
 refine ⟨fun _ _ => rfl, ?_⟩
 conv => whnf
 refine zac rfl rfl rfl (by kernel_rfl) (fun h X w H => zea (F := zcV F) (G := zcV F) (N := 50) (zb3 F) (by unfold zb3; rfl) (ze5 hF) (ze5 hF) (by decide) H.xk) rfl rfl rfl ?_
 conv => whnf
 refine ⟨fun _ _ => rfl, ?_⟩
 conv => whnf
 refine zas 8 [1007] (by kernel_rfl) ?_
 conv => whnf
 refine zaq (zaa (sv := .a (feS (zc8 F))) (rs := []) (Rs := []) rfl rfl rfl (by kernel_rfl) rfl fun h X w H => zea (F := zb3 F) (G := zb3 F) (N := 100) (zc8 F) (by unfold zc8; rfl) (ze6 hF) (ze6 hF) (by decide) H.xk) ?_
 conv => whnf
 refine zaq (zaa (sv := .a (feS (zgj F))) (rs := []) (Rs := []) rfl rfl rfl (by kernel_rfl) rfl fun h X w H => zea (F := zc8 F) (G := zcV F) (N := 50) (zgj F) (by unfold zgj; rfl) (zmK hF) (ze5 hF) (by decide) H.xk) ?_
 conv => whnf
 refine zcL rfl (zbU (z := [.row 5 (uw fun _ => 0)]) (fun hn => by kernel_rfl) rfl rfl) ?_
 conv => whnf
 refine ⟨fun _ _ => rfl, ?_⟩
 conv => whnf
 refine zac rfl rfl rfl (by kernel_rfl) (fun h X w H => zea (F := zgj F) (G := zcH F) (N := 5) (zxp F) (by unfold zxp; rfl) (zAs hF) (zgk hF) (by decide) H.xk) rfl rfl rfl ?_
 conv => whnf
 refine ⟨fun _ _ => rfl, ?_⟩
 conv => whnf
 exact zag rfl
end
end
section
open Go.RowKit
theorem zEK {F : Nat → Nat} (hF : okF F 5) (i : Nat) (hi : i < 5) : F i < 18446744073709551616 := by have := hF i hi; omega
section
variable {X : List Nat} {w : World} {F G : Nat → Nat} {h0 : Hn}
def rkF (b : Nat) (w : World) : Prop := hdF [.one (.int .i64 0)] 166 b w
def hnB (bl : List Nat) (ql : List Qd) : Hn := ⟨zi3 bl, qs ql, fun _ _ => []⟩
def rkR : List SF := [.b 0 (hdF [.one (.int .i64 0)] 166), .blk 0 [.one (.p (.v (.int .i64 0)))]]
theorem zm4 {b : Nat} (hr : St (rkF b) w X) : ∀ r ∈ zaT (hnB [b] []) rkR, St r w X := fun r h => by
 rcases List.mem_cons.1 h with rfl | h
 ·exact hr
 ·rcases List.mem_singleton.1 h with rfl
  exact hr.imp fun w' hw => zy8 hw
theorem zgT {b : Nat} (hX : ∀ k ∈ X, k < w.heap.size) (hr : St (rkF b) w X) : Ct Tryz.prog 136 [.pointer (some ⟨b, 0, none⟩), .agg (ca [.row 5 (uw F)]), .int .i64 0] X w (.a (feS F)) [] [] := by
 refine vFn (k0 := 1) (rs := [.cell 6 168]) (svs := [atS 0 0, .a (feS F), zam .i64 0]) (R0 := rkR) (hnB [b] []) Tryz.ntmps136 Tryz.func136 rfl rfl rfl rfl rfl zah (by kernel_rfl) hX (zm4 hr) ?_
 conv => whnf
 refine .inl ?_
 conv => whnf
 refine zao (ztC 0 rfl rfl rfl rfl rfl (by kernel_rfl)) ?_
 conv => whnf
 refine ⟨fun _ _ => rfl, ?_⟩
 conv => whnf
 exact zag rfl
theorem zkz {b : Nat} (hF : okF F 5) (hG : okF G 5) (hX : ∀ k ∈ X, k < w.heap.size) (hr : St (rkF b) w X) : Ct Tryz.prog 130 [.pointer (some ⟨b, 0, none⟩), .agg (ca [.row 5 (uw F)]), .agg (ca [.row 5 (uw G)])] X w (.a (feS (zrp F G))) [] [] := by
 refine vFn (k0 := 1) (rs := [.cell 6 168]) (svs := [atS 0 0, .a (feS F), .a (feS G)]) (R0 := rkR) (hnB [b] []) Tryz.ntmps130 Tryz.func130 rfl rfl rfl rfl rfl zah (by kernel_rfl) hX (zm4 hr) ?_
 conv => whnf
 refine zac rfl rfl rfl (by kernel_rfl) (fun h X w H => zxD H.xk hF hG) rfl rfl rfl ?_
 conv => whnf
 refine zac rfl rfl rfl (by kernel_rfl) (fun h X w H => zgT H.xk (H.fact 0 rfl)) rfl rfl rfl ?_
 conv => whnf
 refine ⟨fun _ _ => rfl, ?_⟩
 conv => whnf
 exact zag rfl
theorem zkA {b : Nat} (hF : okF F 5) (hG : okF G 5) (hX : ∀ k ∈ X, k < w.heap.size) (hr : St (rkF b) w X) : Ct Tryz.prog 131 [.pointer (some ⟨b, 0, none⟩), .agg (ca [.row 5 (uw F)]), .agg (ca [.row 5 (uw G)])] X w (.a (feS (zrq F G))) [] [] := by
 refine vFn (k0 := 1) (rs := [.cell 6 168]) (svs := [atS 0 0, .a (feS F), .a (feS G)]) (R0 := rkR) (hnB [b] []) Tryz.ntmps131 Tryz.func131 rfl rfl rfl rfl rfl zah (by kernel_rfl) hX (zm4 hr) ?_
 conv => whnf
 refine zac rfl rfl rfl (by kernel_rfl) (fun h X w H => zxE H.xk hF hG) rfl rfl rfl ?_
 conv => whnf
 refine zac rfl rfl rfl (by kernel_rfl) (fun h X w H => zgT H.xk (H.fact 0 rfl)) rfl rfl rfl ?_
 conv => whnf
 refine ⟨fun _ _ => rfl, ?_⟩
 conv => whnf
 exact zag rfl
theorem zfG {b : Nat} (hF : okF F 5) (hG : okF G 5) (hX : ∀ k ∈ X, k < w.heap.size) (hr : St (rkF b) w X) : Ct Tryz.prog 132 [.pointer (some ⟨b, 0, none⟩), .agg (ca [.row 5 (uw F)]), .agg (ca [.row 5 (uw G)])] X w (.a (feS (zci F G))) [] [] := by
 refine vFn (k0 := 1) (rs := [.cell 6 168]) (svs := [atS 0 0, .a (feS F), .a (feS G)]) (R0 := rkR) (hnB [b] []) Tryz.ntmps132 Tryz.func132 rfl rfl rfl rfl rfl zah (by kernel_rfl) hX (zm4 hr) ?_
 conv => whnf
 refine zac rfl rfl rfl (by kernel_rfl) (fun h X w H => zxF H.xk hF hG) rfl rfl rfl ?_
 conv => whnf
 refine zac rfl rfl rfl (by kernel_rfl) (fun h X w H => zgT H.xk (H.fact 0 rfl)) rfl rfl rfl ?_
 conv => whnf
 refine ⟨fun _ _ => rfl, ?_⟩
 conv => whnf
 exact zag rfl
theorem zqe {b : Nat} (hF : okF F 5) (hX : ∀ k ∈ X, k < w.heap.size) (hr : St (rkF b) w X) : Ct Tryz.prog 133 [.pointer (some ⟨b, 0, none⟩), .agg (ca [.row 5 (uw F)])] X w (.a (feS (sqN F 1))) [] [] := by
 refine vFn (k0 := 1) (rs := [.cell 4 168]) (svs := [atS 0 0, .a (feS F)]) (R0 := rkR) (hnB [b] []) Tryz.ntmps133 Tryz.func133 rfl rfl rfl rfl rfl zah (by kernel_rfl) hX (zm4 hr) ?_
 conv => whnf
 refine zac rfl rfl rfl (by kernel_rfl) (fun h X w H => zoz H.xk hF) rfl rfl rfl ?_
 conv => whnf
 refine zac rfl rfl rfl (by kernel_rfl) (fun h X w H => zgT H.xk (H.fact 0 rfl)) rfl rfl rfl ?_
 conv => whnf
 refine ⟨fun _ _ => rfl, ?_⟩
 conv => whnf
 exact zag rfl
end
end
end Go.Proofs.YtcmmpiaogfnmoaaGreatDoor
