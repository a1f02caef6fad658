/- Two points change places, or none, by computing. A step of the ladder, by computing. Layer 6: a key clamped, by computing. The ladder's numbers (plain): of the point 0 all products are 0; what clamping changes, and a point's highest bit, play no part. Layer 6: a point, a number of times, by computing. The walks of texts: copies, sameness, a number's bytes. Sums with a key, keys of keys, plainly. No program is in sight. Sums with a key, by computing. The walk of slices.Clone of a text. The walks of bits.Len64 and of wire.fits: whether a number has room in so many bytes. The walk of the referenc -/
import Derived.Test.YtcmmpiaogfnmoaaGreatDoorStateNewE
import Derived.Lib.Tables
import Derived.Lib.BitFns
import Derived.RangeFuncKeeps
import Derived.RangeFuncLeaves
set_option linter.unusedSimpArgs false
set_option linter.unusedVariables false
set_option maxRecDepth 200000
set_option maxHeartbeats 6000000
namespace Go.Proofs.YtcmmpiaogfnmoaaGreatDoor
section
open Go.RowKit
def ptB (X Z : Nat → Nat) : RB := .blk [.row 5 (uw X), .row 5 (uw Z)] 171
def zFK (b : Nat) (F G : Nat → Nat) (i : Nat) : Nat := if b = 1 then G i else F i
def swN (b n : Nat) (F G : Nat → Nat) (i : Nat) : Nat := if i < n then zFK b F G i else F i
def zAU (b : Nat) : Nat := if b = 1 then 18446744073709551615 else 0
theorem zEL (x : Nat) (h : x < 18446744073709551616) : (BitVec.ofInt 64 (x : Int)).toNat = x := by
 rw [BitVec.toNat_ofInt]; omega
section
variable {x y b : Nat} {A : Int → Prop}
theorem zGf (hx : x < 18446744073709551616) (hy : y < 18446744073709551616) (h : A ((x ^^^ y : Nat) : Int)) : ∃ z, IntKind.u64.wrap ((BitVec.ofInt IntKind.u64.bits (x : Int) ^^^ BitVec.ofInt IntKind.u64.bits (y : Int)).toNat : Nat) = z ∧ A z := ⟨_, by
 have hh : x ^^^ y < 2 ^ 64 := Nat.xor_lt_two_pow (by omega) (by omega)
 rw [show IntKind.u64.bits = 64 from rfl, BitVec.toNat_xor, zEL x hx, zEL y hy, zn3, Nat.mod_eq_of_lt hh], h⟩
theorem zFf (hx : x < 18446744073709551616) (hy : y < 18446744073709551616) (h : A ((x &&& y : Nat) : Int)) : ∃ z, IntKind.u64.wrap ((BitVec.ofInt IntKind.u64.bits (x : Int) &&& BitVec.ofInt IntKind.u64.bits (y : Int)).toNat : Nat) = z ∧ A z := ⟨_, by
 have hh : x &&& y < 2 ^ 64 := Nat.and_lt_two_pow _ (by omega)
 rw [show IntKind.u64.bits = 64 from rfl, BitVec.toNat_and, zEL x hx, zEL y hy, zn3, Nat.mod_eq_of_lt hh], h⟩
theorem zry {x0 y0 : Nat} (ex : x = x0) (ey : y = y0) (hx : x0 < 18446744073709551616) (hy : y0 < 18446744073709551616) (h : A ((x0 ^^^ y0 : Nat) : Int)) : ∃ z, IntKind.u64.wrap ((BitVec.ofInt IntKind.u64.bits (x : Int) ^^^ BitVec.ofInt IntKind.u64.bits (y : Int)).toNat : Nat) = z ∧ A z := by
 subst ex ey
 exact zGf hx hy h
theorem zzn (hx : x < 18446744073709551616) (hy : y < 18446744073709551616) : x ^^^ y < 18446744073709551616 := Nat.xor_lt_two_pow (n := 64) (by omega) (by omega)
theorem zGg (hb : b = 0 ∨ b = 1) (h : A ((zAU b : Nat) : Int)) : ∃ z, IntKind.u64.wrap (0 - (b : Int)) = z ∧ A z := ⟨_, by rcases hb with rfl | rfl <;> decide, h⟩
theorem zuk : zAU b < 18446744073709551616 := by unfold zAU; split <;> omega
theorem zAV (hx : x < 18446744073709551616) : 18446744073709551615 &&& x = x := by
 have := Nat.and_two_pow_sub_one_eq_mod x 64
 rw [Nat.and_comm]
 rw [show (18446744073709551615 : Nat) = 2 ^ 64 - 1 by decide, this]
 omega
theorem zqf (hx : x < 18446744073709551616) (hy : y < 18446744073709551616) : zAU b &&& (x ^^^ y) < 18446744073709551616 := Nat.and_lt_two_pow (n := 64) _ (Nat.xor_lt_two_pow (by omega) (by omega))
theorem zAW (hx : x < 18446744073709551616) (hy : y < 18446744073709551616) : x ^^^ (zAU b &&& (x ^^^ y)) = if b = 1 then y else x := by
 unfold zAU
 by_cases h : b = 1
 ·rw [if_pos h, if_pos h, zAV (Nat.xor_lt_two_pow (n := 64) (by omega) (by omega)), ← Nat.xor_assoc, Nat.xor_self, Nat.zero_xor]
 ·rw [if_neg h, if_neg h, Nat.zero_and, Nat.xor_zero]
theorem zDI (hx : x < 18446744073709551616) (hy : y < 18446744073709551616) : y ^^^ (zAU b &&& (x ^^^ y)) = if b = 1 then x else y := by
 rw [Nat.xor_comm x y]
 exact zAW hy hx
end
theorem zg7 (b n : Nat) (F G : Nat → Nat) : swN b n F G n = F n := by unfold swN; rw [if_neg (by omega)]
theorem zhC {b n v : Nat} {F G : Nat → Nat} (hv : v = zFK b F G n) (j : Nat) : upd (uw (swN b n F G)) n (.int .u64 ((v : Nat) : Int)) j = uw (swN b (n + 1) F G) j := by
 unfold upd uw swN
 by_cases h : j = n
 ·subst h; rw [if_pos rfl, if_pos (by omega), hv]
 ·rw [if_neg h]
  by_cases h2 : j < n
  ·rw [if_pos h2, if_pos (by omega)]
  ·rw [if_neg h2, if_neg (by omega)]
section
variable {X : List Nat} {w : World} {h0 : Hn} {X1 Z1 X2 Z2 : Nat → Nat} {b : Nat}
def zCA (X1 Z1 X2 Z2 : Nat → Nat) : MB := [(0, ptB X1 Z1), (1, ptB X2 Z2)]
theorem zum (hb : b = 0 ∨ b = 1) (o1 : okF X1 5) (o2 : okF Z1 5) (o3 : okF X2 5) (o4 : okF Z2 5) (hsp : Sp X w (zae h0 [] (zCA X1 Z1 X2 Z2)) []) : CtG Tryz.prog 134 [.int .u64 b, .pointer (some ⟨h0.b 0, 0, none⟩), .pointer (some ⟨h0.b 1, 0, none⟩)] X w h0 (zCA X1 Z1 X2 Z2) [0, 1] (.tup []) (zCA (swN b 5 X1 X2) (swN b 5 Z1 Z2) (swN b 5 X2 X1) (swN b 5 Z2 Z1)) [] := by
 refine zy3 (g := 2) (k0 := 2) (bl := []) (ql := []) (svs := [zam .u64 b, atS 0 0, atS 1 0]) (given := zCA X1 Z1 X2 Z2) (Rg := []) (kb := [0, 1]) Tryz.ntmps134 Tryz.func134 rfl rfl rfl zah (by kernel_rfl) rfl rfl hsp ?_
 conv => whnf
 refine zGg hb ?_
 conv => whnf
 refine ⟨Nat, fun k l m R i => ⟨k, (12, zam .i64 i) :: zaC [1, 2, 6] l, (0, ptB (swN b i X1 X2) (swN b i Z1 Z2)) :: (1, ptB (swN b i X2 X1) (swN b i Z2 Z1)) :: m, R⟩, fun i => i ≤ 5, fun i => 5 - i, ⟨0, [], [0, 1], Nat.zero_le _, zaE⟩, fun i hi => ?_⟩
 conv => whnf
 refine vIf (fun hc => ?_) fun hc => ?_
 ·have hi2 : i < 5 := by
   have : (i : Int) < 5 := of_decide_eq_true hc
   omega
  have b1 : X1 i < 18446744073709551616 := zEK o1 i hi2
  have b2 : Z1 i < 18446744073709551616 := zEK o2 i hi2
  have b3 : X2 i < 18446744073709551616 := zEK o3 i hi2
  have b4 : Z2 i < 18446744073709551616 := zEK o4 i hi2
  conv => whnf
  refine zas 31 [] (by kernel_rfl) ?_
  conv => whnf
  refine ⟨i, ⟨rfl, hi2⟩, .inr ?_⟩
  conv => whnf
  refine ⟨hi2, ?_⟩
  conv => whnf
  refine ⟨i, ⟨rfl, hi2⟩, .inr ?_⟩
  conv => whnf
  refine ⟨hi2, ?_⟩
  conv => whnf
  refine zry (zg7 _ _ _ _) (zg7 _ _ _ _) b1 b3 ?_
  conv => whnf
  refine zFf zuk (zzn b1 b3) ?_
  conv => whnf
  refine ⟨i, ⟨rfl, hi2⟩, .inr ?_⟩
  conv => whnf
  refine ⟨hi2, ?_⟩
  conv => whnf
  refine ⟨i, ⟨rfl, hi2⟩, .inr ?_⟩
  conv => whnf
  refine ⟨hi2, ?_⟩
  conv => whnf
  refine zry (zg7 _ _ _ _) (zg7 _ _ _ _) b2 b4 ?_
  conv => whnf
  refine zFf zuk (zzn b2 b4) ?_
  conv => whnf
  refine zas 26 [0] (by kernel_rfl) ?_
  conv => whnf
  refine ⟨i, ⟨rfl, hi2⟩, .inr ?_⟩
  conv => whnf
  refine zcL rfl (zdB 0 (ztA rfl rfl rfl (by kernel_rfl) rfl hi2 rfl rfl) (fun _ h => h) rfl) ?_
  conv => whnf
  refine zry (zg7 _ _ _ _) rfl b1 (zqf b1 b3) ?_
  conv => whnf
  refine ⟨i, ⟨rfl, hi2⟩, .inr ?_⟩
  conv => whnf
  refine ⟨hi2, ?_⟩
  conv => whnf
  refine zry (zg7 _ _ _ _) rfl b3 (zqf b1 b3) ?_
  conv => whnf
  refine ⟨i, ⟨rfl, hi2⟩, .inr ?_⟩
  conv => whnf
  refine zcL rfl (zdB 0 (zfA (uw (swN b (i + 1) X1 X2)) rfl rfl rfl rfl rfl rfl hi2 (zhC (zAW b1 b3))) (fun _ h => h) rfl) ?_
  conv => whnf
  refine ⟨i, ⟨rfl, hi2⟩, .inr ?_⟩
  conv => whnf
  refine zao (zfA (uw (swN b (i + 1) X2 X1)) rfl rfl rfl rfl rfl rfl hi2 (zhC (zDI b1 b3))) ?_
  conv => whnf
  refine zas 26 [0] (by kernel_rfl) ?_
  conv => whnf
  refine ⟨i, ⟨rfl, hi2⟩, .inr ?_⟩
  conv => whnf
  refine zcL rfl (zdB 0 (ztA rfl rfl rfl (by kernel_rfl) rfl hi2 rfl rfl) (fun _ h => h) rfl) ?_
  conv => whnf
  refine zry (zg7 _ _ _ _) rfl b2 (zqf b2 b4) ?_
  conv => whnf
  refine ⟨i, ⟨rfl, hi2⟩, .inr ?_⟩
  conv => whnf
  refine ⟨hi2, ?_⟩
  conv => whnf
  refine zry (zg7 _ _ _ _) rfl b4 (zqf b2 b4) ?_
  conv => whnf
  refine ⟨i, ⟨rfl, hi2⟩, .inr ?_⟩
  conv => whnf
  refine zcL rfl (zdB 0 (zDh (uw (swN b (i + 1) Z1 Z2)) rfl rfl rfl rfl rfl rfl hi2 (zhC (zAW b2 b4))) (fun _ h => h) rfl) ?_
  conv => whnf
  refine ⟨i, ⟨rfl, hi2⟩, .inr ?_⟩
  conv => whnf
  refine zao (zDh (uw (swN b (i + 1) Z2 Z1)) rfl rfl rfl rfl rfl rfl hi2 (zhC (zDI b2 b4))) ?_
  conv => whnf
  refine zbq (by omega) (by omega) ?_
  conv => whnf
  exact ⟨i + 1, [], [0, 1], ⟨hi2, Nat.sub_lt_sub_left hi2 (Nat.lt_succ_self i)⟩, zaE⟩
 have hi5 : i = 5 := by
   have : ¬ (i : Int) < 5 := of_decide_eq_false hc
   omega
 subst hi5
 conv => whnf
 exact zdG [(0, 0), (1, 1)] [] [0, 1] (.inl rfl) ⟨.inl rfl, .inl rfl, trivial⟩ rfl trivial ⟨rfl, rfl, trivial⟩
end
end
section
open Go.RowKit
def zun (X1 Z1 X2 Z2 U : Nat → Nat) : MB := [(0, .blk [.one (.p (.at_ 4 0))] 164), (1, ptB X1 Z1), (2, ptB X2 Z2), (3, .blk [.row 5 (uw U)] 168), (4, .gone)]
section
variable {X : List Nat} {w : World} {h0 : Hn} {X1 Z1 X2 Z2 U : Nat → Nat}
theorem zAX (o1 : okF X1 5) (o2 : okF Z1 5) (o3 : okF X2 5) (o4 : okF Z2 5) (o5 : okF U 5) (hsp : Sp X w (zae h0 [] (zun X1 Z1 X2 Z2 U)) [rkF (h0.b 4)]) : CtG Tryz.prog 129 [.pointer (some ⟨h0.b 0, 0, none⟩), .pointer (some ⟨h0.b 1, 0, none⟩), .pointer (some ⟨h0.b 2, 0, none⟩), .pointer (some ⟨h0.b 3, 0, none⟩)] X w h0 (zun X1 Z1 X2 Z2 U) [0, 1, 2, 3, 4] (.tup []) (zun (sLX X1 Z1) (sLZ X1 Z1) (sHX X1 Z1 X2 Z2) (sHZ X1 Z1 X2 Z2 U) U) [] := by
 refine zy3 (g := 5) (k0 := 5) (bl := []) (ql := []) (svs := [atS 0 0, atS 1 0, atS 2 0, atS 3 0]) (given := zun X1 Z1 X2 Z2 U) (Rg := [.b 4 (hdF [.one (.int .i64 0)] 166)]) (kb := [0, 1, 2, 3, 4]) Tryz.ntmps129 Tryz.func129 rfl rfl rfl zah (by kernel_rfl) rfl rfl hsp ?_
 conv => whnf
 refine zas 14 [] (by kernel_rfl) ?_
 conv => whnf
 refine zaq (zaa (rs := []) (Rs := []) rfl rfl rfl (by kernel_rfl) rfl fun h X w H => zkz o1 o2 H.xk (H.fact 5 rfl)) ?_
 conv => whnf
 refine zaq (zaa (rs := []) (Rs := []) rfl rfl rfl (by kernel_rfl) rfl fun h X w H => zkA o1 o2 H.xk (H.fact 5 rfl)) ?_
 conv => whnf
 refine ⟨fun _ _ => rfl, ?_⟩
 conv => whnf
 refine ⟨fun _ _ => rfl, ?_⟩
 conv => whnf
 refine zas 20 [] (by kernel_rfl) ?_
 conv => whnf
 refine zaq (zaa (rs := []) (Rs := []) rfl rfl rfl (by kernel_rfl) rfl fun h X w H => zkA o3 o4 H.xk (H.fact 5 rfl)) ?_
 conv => whnf
 refine zaq (zaa (rs := []) (Rs := []) rfl rfl rfl (by kernel_rfl) rfl fun h X w H => zfG (zii o3) (zEF o1 o2) H.xk (H.fact 5 rfl)) ?_
 conv => whnf
 refine zaq (zaa (rs := []) (Rs := []) rfl rfl rfl (by kernel_rfl) rfl fun h X w H => zkz o3 o4 H.xk (H.fact 5 rfl)) ?_
 conv => whnf
 refine zaq (zaa (rs := []) (Rs := []) rfl rfl rfl (by kernel_rfl) rfl fun h X w H => zfG (zjn o3 o4) (zEG o1 o2) H.xk (H.fact 5 rfl)) ?_
 conv => whnf
 refine ⟨fun _ _ => rfl, ?_⟩
 conv => whnf
 refine ⟨fun _ _ => rfl, ?_⟩
 conv => whnf
 refine zas 14 [] (by kernel_rfl) ?_
 conv => whnf
 refine zaq (zaa (rs := []) (Rs := []) rfl rfl rfl (by kernel_rfl) rfl fun h X w H => zkz (ztS o1 o2 o3 o4) (zAu o1 o2 o3 o4) H.xk (H.fact 5 rfl)) ?_
 conv => whnf
 refine zaq (zaa (rs := []) (Rs := []) rfl rfl rfl (by kernel_rfl) rfl fun h X w H => zqe (zjn (ztS o1 o2 o3 o4) (zAu o1 o2 o3 o4)) H.xk (H.fact 5 rfl)) ?_
 conv => whnf
 refine zaq (zaa (rs := []) (Rs := []) rfl rfl rfl (by kernel_rfl) rfl fun h X w H => zkA (ztS o1 o2 o3 o4) (zAu o1 o2 o3 o4) H.xk (H.fact 5 rfl)) ?_
 conv => whnf
 refine zaq (zaa (rs := []) (Rs := []) rfl rfl rfl (by kernel_rfl) rfl fun h X w H => zqe (zii (ztS o1 o2 o3 o4)) H.xk (H.fact 5 rfl)) ?_
 conv => whnf
 refine zac rfl rfl rfl (by kernel_rfl) (fun h X w H => zfG o5 (zih _ (zii (ztS o1 o2 o3 o4)) 1) H.xk (H.fact 5 rfl)) rfl rfl rfl ?_
 conv => whnf
 refine ⟨fun _ _ => rfl, fun _ _ => rfl, ?_⟩
 conv => whnf
 refine zas 8 [] (by kernel_rfl) ?_
 conv => whnf
 refine zaq (zaa (rs := []) (Rs := []) rfl rfl rfl (by kernel_rfl) rfl fun h X w H => zqe (zEF o1 o2) H.xk (H.fact 5 rfl)) ?_
 conv => whnf
 refine zaq (zaa (rs := []) (Rs := []) rfl rfl rfl (by kernel_rfl) rfl fun h X w H => zqe (zEG o1 o2) H.xk (H.fact 5 rfl)) ?_
 conv => whnf
 refine ⟨fun _ _ => rfl, ?_⟩
 conv => whnf
 refine ⟨fun _ _ => rfl, ?_⟩
 conv => whnf
 refine zac rfl rfl rfl (by kernel_rfl) (fun h X w H => zkA (ztT o1 o2) (zDp o1 o2) H.xk (H.fact 5 rfl)) rfl rfl rfl ?_
 conv => whnf
 refine ⟨fun _ _ => rfl, ?_⟩
 conv => whnf
 refine zas 13 [] (by kernel_rfl) ?_
 conv => whnf
 refine zaq (zaa (rs := []) (Rs := []) rfl rfl rfl (by kernel_rfl) rfl fun h X w H => zfG (ztT o1 o2) (zDp o1 o2) H.xk (H.fact 5 rfl)) ?_
 conv => whnf
 refine ⟨uw (znN 121665), ⟨rfl, rfl, rfl, rfl, rfl, trivial⟩, ?_⟩
 conv => whnf
 refine zaq (zaa (rs := []) (Rs := []) rfl rfl rfl (by kernel_rfl) rfl fun h X w H => zfG zik (zEH o1 o2) H.xk (H.fact 5 rfl)) ?_
 conv => whnf
 refine zaq (zaa (rs := []) (Rs := []) rfl rfl rfl (by kernel_rfl) rfl fun h X w H => zkz (ztT o1 o2) (zd8 _ _ zik (zEH o1 o2)) H.xk (H.fact 5 rfl)) ?_
 conv => whnf
 refine zac rfl rfl rfl (by kernel_rfl) (fun h X w H => zfG (zEH o1 o2) (zjn (ztT o1 o2) (zd8 _ _ zik (zEH o1 o2))) H.xk (H.fact 5 rfl)) rfl rfl rfl ?_
 conv => whnf
 refine ⟨fun _ _ => rfl, fun _ _ => rfl, ?_⟩
 conv => whnf
 exact zdG [(0, 0), (1, 1), (2, 2), (3, 3), (4, 4)] [] [0, 1, 2, 3, 4] (.inl rfl) ⟨.inl rfl, .inl rfl, .inl rfl, .inl rfl, trivial⟩ rfl trivial ⟨rfl, rfl, rfl, rfl, rfl, trivial⟩
end
end
section
open Go.RowKit
theorem zFg : ∀ x : Nat, x < 256 → IntKind.u8.wrap ((BitVec.ofInt IntKind.u8.bits (x : Int) &&& ~~~(BitVec.ofInt IntKind.u8.bits 7)).toNat : Nat) = ((x / 8 * 8 : Nat) : Int) := by decide +kernel
theorem zDJ : ∀ x : Nat, x < 256 → IntKind.u8.wrap ((BitVec.ofInt IntKind.u8.bits (x : Int) &&& BitVec.ofInt IntKind.u8.bits 63).toNat : Nat) = ((x % 64 : Nat) : Int) := by decide +kernel
theorem zFh : ∀ x : Nat, x < 64 → IntKind.u8.wrap ((BitVec.ofInt IntKind.u8.bits (x : Int) ||| BitVec.ofInt IntKind.u8.bits 64).toNat : Nat) = ((x + 64 : Nat) : Int) := by decide +kernel
section
variable {P : Program} {N k : Nat} {l : LE} {m : MB} {R : List SF} {o : Oper} {i j t ty : Nat}
theorem zuo {S : Nat → Prop} {ws : World} {l : List (Nat × Value)} {t u : TypeId} {x y : Operand} {k : IntKind} {a b z : Int} (ho : o.op = .binOp .andNot t x y u) (hx : ev l x = some (.int k a)) (hy : ev l y = some (.int k b)) (hz : k.wrap ((BitVec.ofInt k.bits a &&& ~~~(BitVec.ofInt k.bits b)).toNat : Nat) = z) : PK P S ws l o (.int k z) := fun w' _ a N E => by
 subst hz
 unfold execOp; rw [ho]
 simp only [E.ev hx, E.ev hy, Sem.run_bind, zbT, Result.andThen_ok]
 simp [binOp, Op.intBits]
end
section
variable {X : List Nat} {w : World} {kk : List Nat}
def zrz (k : Nat → Nat) (i : Nat) : Nat := if i = 0 then k 0 / 8 * 8 else k i
def zeG (kk : List Nat) : List Nat := zg6 (zbe fun i => kk.getD i 0)
theorem zxG (hX : ∀ k ∈ X, k < w.heap.size) (hk : ∀ x ∈ kk, x < 256) : Ct Tryz.prog 127 [.agg (ca [.key kk])] X w (.a (.agg [.key (zeG kk)])) [] [] := by
 refine vFn (k0 := 0) (rs := [.cell 2 23]) (svs := [.a (.agg [.key kk])]) (R0 := []) (hnQ []) Tryz.ntmps127 Tryz.func127 rfl rfl rfl rfl rfl zah (by kernel_rfl) hX (fun r hr => by cases hr) ?_
 conv => whnf
 refine ⟨0, ⟨rfl, by decide⟩, .inl ?_⟩
 conv => whnf
 refine zof (zfM (bv (kk.getD 0 0 / 8 * 8))) (fun h w => zuo rfl rfl rfl (zFg _ (zb1 hk 0))) rfl rfl ?_
 conv => whnf
 refine ⟨0, ⟨rfl, by decide⟩, .inr ?_⟩
 conv => whnf
 refine zao (zgR (zg6 (zrz fun i => kk.getD i 0)) (fun t ht => zct _ t ht) rfl rfl rfl rfl (by kernel_rfl) (by decide)) ?_
 conv => whnf
 refine ⟨31, ⟨rfl, by decide⟩, .inl ?_⟩
 conv => whnf
 have h31 : (zg6 (zrz fun i => kk.getD i 0)).getD 31 0 = kk.getD 31 0 := zct _ 31 (by decide)
 have hb31 := zb1 hk 31
 refine ⟨((kk.getD 31 0 % 64 : Nat) : Int), by rw [h31]; exact zDJ _ hb31, ?_⟩
 conv => whnf
 refine ⟨((kk.getD 31 0 % 64 + 64 : Nat) : Int), zFh _ (Nat.mod_lt _ (by decide)), ?_⟩
 conv => whnf
 refine ⟨31, ⟨rfl, by decide⟩, .inr ?_⟩
 conv => whnf
 refine zao (zgR (zeG kk) (fun t ht => ?_) rfl rfl rfl rfl (by kernel_rfl) (by decide)) ?_
 ·rw [zeG, zct _ t ht, zct _ t ht, zbe, zrz]
  by_cases h0 : t = 0
  ·subst h0; rw [if_pos rfl, if_neg (by decide), if_pos rfl]
  ·rw [if_neg h0, if_neg h0]
 conv => whnf
 exact zag rfl
end
end
section
open Go.RowKit
theorem zup (a : Nat) : fM 0 a = 0 := by unfold fM; rw [Nat.zero_mul, Nat.zero_mod]
theorem zAY (a : Nat) (h : a < pN) : fS a a = 0 := by
 unfold fS
 rw [show a + (pN - a) = pN by omega, Nat.mod_self]
theorem zAZ (a : Nat) (h : a < pN) : fA a 0 = a := by unfold fA; rw [Nat.add_zero, Nat.mod_eq_of_lt h]
theorem zA0 (a : Nat) (h : a < pN) : fS a 0 = a := by unfold fS; rw [Nat.sub_zero, Nat.add_mod_right, Nat.mod_eq_of_lt h]
theorem zqg (q s : Pt) : (zks 0 q s).z = 0 := zup _
theorem zuq {q : Pt} (h : q.x < pN) (hz : q.z = 0) : zxx q = 0 := by
 unfold zxx
 rw [hz, zAZ _ h, zA0 _ h]
 exact zAY _ (zc9 _ _)
theorem zxH {q : Pt} (h : zxx q = 0) : (znO q).z = 0 := by
 unfold znO
 dsimp only
 rw [h]
 exact zup _
theorem zxI : zxx ⟨0, 1⟩ = 0 := by unfold zxx fS fM fA pN; decide +kernel
theorem zFL (k : Nat → Nat) : ∀ n, (zdP 0 k (n + 1)).1.z = 0 ∧ (zdP 0 k (n + 1)).2.z = 0
 | 0 => by
  rw [show zdP 0 k (0 + 1) = zgo 0 (zei k 0) ⟨1, 0⟩ ⟨0, 1⟩ from rfl]
  unfold zgo
  split
  ·exact ⟨zqg _ _, zxH zxI⟩
  ·exact ⟨zxH (zuq zhB rfl), zqg _ _⟩
 | n + 1 => by
  have ih := zFL k n
  have ok := zmT 0 zcO k (n + 1)
  rw [show zdP 0 k (n + 1 + 1) = zgo 0 (zei k (n + 1)) (zdP 0 k (n + 1)).1 (zdP 0 k (n + 1)).2 from rfl]
  unfold zgo
  split
  ·exact ⟨zqg _ _, zxH (zuq ok.2.1 ih.2)⟩
  ·exact ⟨zxH (zuq ok.1.1 ih.1), zqg _ _⟩
theorem zm5 (k : Nat → Nat) : zdu k 0 = 0 := by
 unfold zdu
 rw [(zFL (zbe k) 254).1]
 unfold fM
 rw [Nat.mul_mod, zmQ _ pN 0 (by omega) (Nat.zero_mod _), Nat.mul_zero, Nat.zero_mod]
theorem zA1 (k : Nat → Nat) (u : Nat) : zdu k u < pN := zc9 _ _
theorem zrA (i : Nat) : zaO 0 i = 0 := by unfold zaO; rw [Nat.zero_div, Nat.zero_mod]
theorem zA2 : pN < 57896044618658097711785492504343953926634992332820282019728792003956564819968 := by unfold pN; decide +kernel
theorem zA3 : pN < 2 ^ 256 := by unfold pN; decide +kernel
theorem zm6 (v : Nat) (h : v < pN) : zjo (zaO v) = v := by
 unfold zjo
 rw [ztW _ (fun i _ => zkm v i), zp1]
 rw [show 8 * 32 = 256 from rfl, Nat.mod_eq_of_lt (Nat.lt_trans h zA3), Nat.mod_eq_of_lt (Nat.lt_trans h zA2), Nat.mod_eq_of_lt h]
theorem zur (u : Nat → Nat) : zjo u < pN := Nat.mod_lt _ zcO
theorem zrB {u v : Nat → Nat} (h : ∀ i, i < 32 → zfC u i = zfC v i) : zjo u = zjo v := by
 unfold zjo
 rw [zig _ _ 32 h]
theorem zm7 : zjo (fun i => if i = 0 then 9 else 0) = 9 := by unfold zjo pN; decide +kernel
end
section
open Go.RowKit
theorem zoB {F G : Nat → Nat} {v : Nat} (h : ∀ i, i < 5 → F i = G i) (hF : zbc F v) : zbc G v := ⟨fun i hi => by rw [← h i hi]; exact hF.1 i hi, by rw [← zmL F G 5 h]; exact hF.2⟩
theorem zg8 {F G : Nat → Nat} {v : Nat} (h : zbc G v) : zbc (swN 1 5 F G) v := zoB (fun i hi => by rw [swN, if_pos hi]; rfl) h
theorem zeH {F G : Nat → Nat} {v : Nat} (h : zbc F v) : zbc (swN 0 5 F G) v := zoB (fun i hi => by rw [swN, if_pos hi]; rfl) h
def zhn (b : Nat) (p : Pt × Pt) : Pt × Pt := if b = 1 then (p.2, p.1) else p
theorem zus (u : Nat) (k : Nat → Nat) (n : Nat) : zhn (zei k n) (zdP u k (n + 1)) = (znO (zhn (zei k n) (zdP u k n)).1, zks u (zhn (zei k n) (zdP u k n)).1 (zhn (zei k n) (zdP u k n)).2) := by
 rw [show zdP u k (n + 1) = zgo u (zei k n) (zdP u k n).1 (zdP u k n).2 from rfl]
 unfold zgo zhn
 rcases zgQ k n with h | h <;> simp [h]
def zqh (k : Nat → Nat) : Nat → Nat
 | 0 => 0
 | n + 1 => zei k n
theorem zit (k : Nat → Nat) : ∀ n, zqh k n = 0 ∨ zqh k n = 1
 | 0 => .inl rfl
 | n + 1 => zgQ k n
theorem zA4 {p : Pt × Pt} (b : Nat) (h : zfN p.1 ∧ zfN p.2) : zfN (zhn b p).1 ∧ zfN (zhn b p).2 := by unfold zhn; split; exact ⟨h.2, h.1⟩; exact h
def zoC (a b : Nat) : Nat := if a = b then 0 else 1
theorem zA5 (a b : Nat) : zoC a b = 0 ∨ zoC a b = 1 := by unfold zoC; split; exact .inl rfl; exact .inr rfl
structure Fit4 (X1 Z1 X2 Z2 : Nat → Nat) (p : Pt × Pt) : Prop where
 a : zbc X1 p.1.x
 b : zbc Z1 p.1.z
 c : zbc X2 p.2.x
 d : zbc Z2 p.2.z
theorem zut {X1 Z1 X2 Z2 : Nat → Nat} {p : Pt × Pt} {a b : Nat} (ha : a = 0 ∨ a = 1) (hb : b = 0 ∨ b = 1) (h : Fit4 X1 Z1 X2 Z2 (zhn a p)) : Fit4 (swN (zoC a b) 5 X1 X2) (swN (zoC a b) 5 Z1 Z2) (swN (zoC a b) 5 X2 X1) (swN (zoC a b) 5 Z2 Z1) (zhn b p) := by
 rcases ha with rfl | rfl <;> rcases hb with rfl | rfl
 ·exact ⟨zeH h.a, zeH h.b, zeH h.c, zeH h.d⟩
 ·exact ⟨zg8 h.c, zg8 h.d, zg8 h.a, zg8 h.b⟩
 ·exact ⟨zg8 h.c, zg8 h.d, zg8 h.a, zg8 h.b⟩
 ·exact ⟨zeH h.a, zeH h.b, zeH h.c, zeH h.d⟩
theorem zxJ {X1 Z1 X2 Z2 U : Nat → Nat} {p : Pt × Pt} {u : Nat} (h : Fit4 X1 Z1 X2 Z2 p) (hU : zbc U u) (hp : zfN p.1 ∧ zfN p.2) : Fit4 (sLX X1 Z1) (sLZ X1 Z1) (sHX X1 Z1 X2 Z2) (sHZ X1 Z1 X2 Z2 U) (znO p.1, zks u p.1 p.2) :=
 ⟨zAE h.a h.b hp.1, zAF h.a h.b hp.1, zAG h.a h.b h.c h.d hp.1 hp.2, zAH h.a h.b h.c h.d hp.1 hp.2 hU⟩
theorem zA6 (u : Nat → Nat) (hu : ∀ i, i < 32 → u i < 256) : zbc (ofN u) (zjo u) := ⟨zDo u, by unfold zjo; rw [Nat.mod_mod]; exact zAD u hu⟩
theorem wsm {y : Nat} (h : y < 256) : IntKind.u64.wrap ((y : Nat) : Int) = ((y : Nat) : Int) := zq7 (by omega) (by omega)
section
variable {x k : Nat} {j : Int} {A : Int → Prop}
theorem zrG {K : IntKind} (hj : j = (k : Int)) (hk : k ≤ K.bits) (h : A ((x / 2 ^ k : Nat) : Int)) : 0 ≤ j ∧ ∃ z, ((x : Int)).fdiv (2 ^ (min j.toNat K.bits)) = z ∧ A z := ⟨by omega, _, by
 rw [zzK, hj, Int.toNat_natCast, Nat.min_eq_left hk], h⟩
theorem z7 {m : Nat} (h : A ((m % 8 : Nat) : Int)) : ∃ z, IntKind.i64.wrap ((BitVec.ofInt IntKind.i64.bits (m : Int) &&& BitVec.ofInt IntKind.i64.bits 7).toNat : Nat) = z ∧ A z := ⟨_, by
 have e : (BitVec.ofInt 64 7).toNat = 7 := rfl
 rw [show IntKind.i64.bits = 64 from rfl, BitVec.toNat_and, e, BitVec.toNat_ofInt, Nat.and_two_pow_sub_one_eq_mod _ 3]
 have : (((m : Int) % ((2 ^ 64 : Nat) : Int)).toNat % 2 ^ 3) = m % 8 := by omega
 rw [this]
 exact zv7 (by omega) (by omega), h⟩
end
section
variable {X : List Nat} {w : World} {kk uu : List Nat}
theorem zA7 (hX : ∀ k ∈ X, k < w.heap.size) (hk : ∀ x ∈ kk, x < 256) (hu : ∀ x ∈ uu, x < 256) : Ct Tryz.prog 103 [.agg (ca [.key kk]), .agg (ca [.key uu])] X w (.a (.agg [.key (zg6 (zaO (zdu (fun i => kk.getD i 0) (zjo fun i => uu.getD i 0))))])) [] [] := by
 obtain ⟨K, hK⟩ : ∃ K : Nat → Nat, K = zbe fun i => kk.getD i 0 := ⟨_, rfl⟩
 obtain ⟨u, hue⟩ : ∃ u : Nat, u = zjo fun i => uu.getD i 0 := ⟨_, rfl⟩
 have huf : zbc (ofN fun i => uu.getD i 0) u := by rw [hue]; exact zA6 _ fun i _ => zb1 hu i
 have hup : u < pN := by rw [hue]; exact zur _
 have hKb : ∀ i, i < 32 → K i < 256 := fun i hi => by
  rw [hK]
  have h0 := zb1 hk 0
  have h1 := zb1 hk 31
  have h2 := zb1 hk i
  unfold zbe
  dsimp only
  split
  ·omega
  ·split <;> omega
 have hKk : ∀ i, i < 32 → (zeG kk).getD i 0 = K i := fun i hi => by rw [zeG, zct _ i hi, hK]
 refine vFn (k0 := 0) (rs := [.cell 4 23]) (svs := [.a (.agg [.key kk]), .a (.agg [.key uu])]) (R0 := []) (hnQ []) Tryz.ntmps103 Tryz.func103 rfl rfl rfl rfl rfl zah (by kernel_rfl) hX (fun r hr => by cases hr) ?_
 conv => whnf
 refine zac rfl rfl rfl (by kernel_rfl) (fun h X w H => zxG H.xk hk) rfl rfl rfl ?_
 conv => whnf
 refine zao (ztB (cs0 := [.one (.int .i64 0)]) 3 rfl (fun _ => rfl) rfl (zan (rs := []) (Rs := []) (zaa (rs := []) (Rs := []) rfl rfl rfl (by kernel_rfl) rfl fun h X w H => zAO H.xk hu) rfl rfl)) ?_
 conv => whnf
 refine ⟨fun _ _ => rfl, ?_⟩
 conv => whnf
 refine zas 8 [1005] (by kernel_rfl) ?_
 conv => whnf
 refine ⟨uw (znN 1), ⟨rfl, rfl, rfl, rfl, rfl, trivial⟩, ?_⟩
 conv => whnf
 refine ⟨uw (znN 1), ⟨rfl, rfl, rfl, rfl, rfl, trivial⟩, ?_⟩
 conv => whnf
 refine zcL rfl (zbU (z := [.row 5 (uw fun _ => 0), .row 5 (uw fun _ => 0)]) (fun hn => by kernel_rfl) rfl rfl) ?_
 conv => whnf
 refine ⟨fun _ _ => rfl, fun _ _ => rfl, ?_⟩
 conv => whnf
 refine ⟨fun _ _ => rfl, fun _ _ => rfl, ?_⟩
 conv => whnf
 refine ⟨Nat × (Nat → Nat) × (Nat → Nat) × (Nat → Nat) × (Nat → Nat), fun k l m R g => ⟨k, (28, zam .i64 g.1) :: (10, zam .u64 (zqh K g.1)) :: zaC [2, 4, 5, 7, 8, 9] l, (6, ptB g.2.1 g.2.2.1) :: (7, ptB g.2.2.2.1 g.2.2.2.2) :: m, R⟩, fun g => g.1 ≤ 255 ∧ Fit4 g.2.1 g.2.2.1 g.2.2.2.1 g.2.2.2.2 (zhn (zqh K g.1) (zdP u K g.1)), fun g => 255 - g.1, ⟨(0, znN 1, fun _ => 0, ofN fun i => uu.getD i 0, znN 1), [], [0, 1], ⟨Nat.zero_le _, zhz (by decide), ?_, huf, zhz (by decide)⟩, zaE⟩, fun g hg => ?_⟩
 ·exact zoB (F := znN 0) (fun i _ => by unfold znN; split <;> rfl) (zhz (by decide))
 obtain ⟨i, X1, Z1, X2, Z2⟩ := g
 obtain ⟨hi, hfit⟩ : i ≤ 255 ∧ Fit4 X1 Z1 X2 Z2 (zhn (zqh K i) (zdP u K i)) := hg
 conv => whnf
 refine vIf (fun hc => ?_) fun hc => ?_
 ·have hi2 : i < 255 := by
   have : (i : Int) < 255 := of_decide_eq_true hc
   omega
  have hf2 := zut (zit K i) (zgQ K i) hfit
  have hf3 := zxJ hf2 huf (zA4 (zei K i) (zmT u hup K i))
  rw [← zus] at hf3
  conv => whnf
  have e1 : (254 : Int) - (i : Int) = ((254 - i : Nat) : Int) := by omega
  refine za5 e1 (by show (-9223372036854775808 : Int) ≤ 254 - (i : Int); omega) (by show 254 - (i : Int) ≤ _; omega) ?_
  conv => whnf
  refine zrG (k := 3) rfl (by decide) ?_
  conv => whnf
  refine ⟨(254 - i) / 2 ^ 3, ⟨rfl, by omega⟩, .inr ?_⟩
  conv => whnf
  refine ⟨by omega, ?_⟩
  conv => whnf
  refine z7 ?_
  conv => whnf
  refine zrG (K := .u8) (k := (254 - i) % 8) rfl (by show _ ≤ 8; omega) ?_
  conv => whnf
  have hb : (zeG kk).getD ((254 - i) / 2 ^ 3) 0 = K ((254 - i) / 2 ^ 3) := hKk _ (by omega)
  have hb2 : K ((254 - i) / 2 ^ 3) < 256 := hKb _ (by omega)
  have hb3 : K ((254 - i) / 2 ^ 3) / 2 ^ ((254 - i) % 8) < 256 := Nat.lt_of_le_of_lt (Nat.div_le_self _ _) hb2
  refine ⟨((K ((254 - i) / 2 ^ 3) / 2 ^ ((254 - i) % 8) : Nat) : Int), by rw [hb]; exact wsm hb3, ?_⟩
  conv => whnf
  refine zFf (x := K ((254 - i) / 2 ^ 3) / 2 ^ ((254 - i) % 8)) (y := 1) (by omega) (by decide) ?_
  have e2 : K ((254 - i) / 2 ^ 3) / 2 ^ ((254 - i) % 8) &&& 1 = zei K i := by rw [Nat.and_one_is_mod]; rfl
  rw [e2]
  conv => whnf
  refine ⟨((zoC (zqh K i) (zei K i) : Nat) : Int), ?_, ?_⟩
  ·rcases zit K i with h | h <;> rcases zgQ K i with h' | h' <;> rw [h, h'] <;> decide
  conv => whnf
  refine zao (za2 [6, 7] 0 rfl rfl rfl (by kernel_rfl) (fs := fun _ => []) (cs := fun _ => []) (fun h => rfl) rfl rfl (given := zCA X1 Z1 X2 Z2) ⟨rfl, rfl, trivial⟩ rfl rfl rfl rfl rfl rfl fun h X w L2 H => zum (zA5 _ _) hfit.a.1 hfit.b.1 hfit.c.1 hfit.d.1 (H.pick [] rfl)) ?_
  conv => whnf
  refine zao (za2 [4, 6, 7, 5, 3] 0 rfl rfl rfl (by kernel_rfl) (fs := fun _ => []) (cs := fun h => zhh h [.at_ 4 0, .at_ 6 0, .at_ 7 0, .at_ 5 0]) (fun h => rfl) rfl rfl (given := zun (swN (zoC (zqh K i) (zei K i)) 5 X1 X2) (swN (zoC (zqh K i) (zei K i)) 5 Z1 Z2) (swN (zoC (zqh K i) (zei K i)) 5 X2 X1) (swN (zoC (zqh K i) (zei K i)) 5 Z2 Z1) (ofN fun i => uu.getD i 0)) ⟨rfl, rfl, rfl, rfl, rfl, trivial⟩ rfl rfl rfl rfl rfl rfl fun h X w L2 H => zAX hf2.a.1 hf2.b.1 hf2.c.1 hf2.d.1 huf.1 (H.pick [0] rfl)) ?_
  conv => whnf
  refine zbq (by omega) (by omega) ?_
  conv => whnf
  exact ⟨(i + 1, _, _, _, _), [], [0, 1], ⟨⟨hi2, hf3⟩, Nat.sub_lt_sub_left hi2 (Nat.lt_succ_self i)⟩, zaE⟩
 have hi5 : i = 255 := by
   have : ¬ (i : Int) < 255 := of_decide_eq_false hc
   omega
 subst hi5
 have hf2 := zut (b := 0) (zit K 255) (.inl rfl) hfit
 obtain ⟨Y1, hY1⟩ : ∃ Y, Y = swN (zoC (zqh K 255) 0) 5 X1 X2 := ⟨_, rfl⟩
 obtain ⟨Y2, hY2⟩ : ∃ Y, Y = swN (zoC (zqh K 255) 0) 5 Z1 Z2 := ⟨_, rfl⟩
 have ew : zoC (zqh K 255) 0 = zqh K 255 := by rcases zit K 255 with h | h <;> rw [h] <;> rfl
 have f1 : zbc Y1 (zdP u K 255).1.x := by rw [hY1]; exact hf2.a
 have f2 : zbc Y2 (zdP u K 255).1.z := by rw [hY2]; exact hf2.b
 have f3 := zin f1 (zp5 f2)
 have o3 : okF (zxp Y2) 5 := (zp5 f2).1
 conv => whnf
 refine zao (za2 [6, 7] 0 rfl rfl rfl (by kernel_rfl) (fs := fun _ => []) (cs := fun _ => []) (fun h => rfl) rfl rfl (given := zCA X1 Z1 X2 Z2) ⟨rfl, rfl, trivial⟩ rfl rfl rfl rfl rfl rfl fun h X w L2 H => zum (zit K 255) hfit.a.1 hfit.b.1 hfit.c.1 hfit.d.1 (H.pick [] rfl)) ?_
 rw [← ew, ← hY1, ← hY2]
 conv => whnf
 refine zas 17 [1015] (by kernel_rfl) ?_
 conv => whnf
 refine zaq (zaa (rs := []) (Rs := []) rfl rfl rfl (by kernel_rfl) rfl fun h X w H => zoA H.xk f2.1) ?_
 conv => whnf
 refine zaq (zaa (rs := []) (Rs := []) rfl rfl rfl (by kernel_rfl) rfl fun h X w H => zgT H.xk (H.fact 0 rfl)) ?_
 conv => whnf
 refine zaq (zaa (rs := []) (Rs := []) rfl rfl rfl (by kernel_rfl) rfl fun h X w H => zfG f1.1 o3 H.xk (H.fact 0 rfl)) ?_
 conv => whnf
 refine zaq (zaa (rs := []) (Rs := []) rfl rfl rfl (by kernel_rfl) rfl fun h X w H => zrx H.xk f3.1) ?_
 conv => whnf
 refine zcL rfl (zbU (z := [.key []]) (fun hn => by kernel_rfl) rfl rfl) ?_
 conv => whnf
 refine zac rfl rfl rfl (by kernel_rfl) (fun h X w H => zgT (F := fun _ => 0) H.xk (H.fact 0 rfl)) rfl rfl rfl ?_
 conv => whnf
 refine zag ?_
 rw [show zg6 (zaO (zdu (fun i => kk.getD i 0) (zjo fun i => uu.getD i 0))) = zg6 (zg3 (zci Y1 (zxp Y2))) from List.map_congr_left fun i _ => ?_]
 ·rfl
 ·have h1 := zoq f3.1 (f3.2.trans (Nat.mod_eq_of_lt (zc9 _ _))) i
  rw [zdu, ← hue, ← hK]
  omega
end
end
section
open Go.RowKit
theorem BT : ByteT Tryz.prog 72 5 := ⟨Tryz.underlying72, Tryz.underlying5, by kernel_rfl⟩
def zDK (w : World) (l : List Nat) (e : Ending) (w' : World) : Prop := ∃ v, e = .returned v ∧ Own w' w.heap.size 5 v l ∧ Below w.heap.size w w'
theorem zuu (w : World) (e : TypeId) : Own (w.alloc (.cells #[] e)) w.heap.size e (.slice (some ⟨w.heap.size, 0, none⟩) 0 0) [] :=
 ⟨rfl, .inr ⟨w.heap.size, 0, #[], rfl, jV _, heap_alloc_new w _, jV _, Nat.zero_le _, rfl, rfl⟩⟩
def beK (w n k : Nat) : List Nat := (List.range k).map fun i => n / 2 ^ (8 * (w - 1 - i)) % 256
def beL (w n : Nat) : List Nat := beK w n w
theorem zuv (w n k : Nat) : (beK w n k).length = k := by unfold beK; simp
theorem zxK (w n k : Nat) : beK w n (k + 1) = beK w n k ++ [n / 2 ^ (8 * (w - 1 - k)) % 256] := by unfold beK; rw [List.range_succ, List.map_append]; rfl
theorem zqi (w n : Nat) : ∀ x ∈ beL w n, x < 256 := fun x hx => by
 unfold beL beK at hx
 obtain ⟨i, _, rfl⟩ := List.mem_map.1 hx
 exact Nat.mod_lt _ (by omega)
attribute [local irreducible] beK
theorem zA8 (w : World) (e : TypeId) (x : Nat) : Txt (w.alloc (.cells #[bv x] e)) (w.heap.size + 1) (some ⟨w.heap.size, 0, none⟩) 1 1 [x] :=
 ⟨rfl, (fun e => by cases e), fun _ => ⟨_, rfl, Nat.lt_succ_self _, fun i y hy => by
  cases i with
  | zero =>
   simp only [jD, Option.some.injEq] at hy
   subst hy
   rw [zck, cell_of_row _ _ _ _ _ _ (heap_alloc_new w (.cells #[bv x] e))]
   rfl
  | succ i => simp at hy⟩⟩
end
section
open Go.RowKit
def zcW (key : List Nat) (by_ : Nat) : List Nat := (List.range 64).map fun i => (key.getD i 0 % 256) ^^^ (by_ % 256)
def zm8 (gt : Nat → Nat) (key : List Nat) (ps : List (List Nat)) : List Nat := zk0 gt [zcW key 92, zk0 gt (zcW key 54 :: ps)]
theorem zbP (key : List Nat) (by_ : Nat) : (zcW key by_).length = 64 := by simp [zcW]
theorem zjr (key : List Nat) (by_ : Nat) : ∀ z ∈ zcW key by_, z < 256 := fun z hz => by
 obtain ⟨i, _, rfl⟩ := List.mem_map.1 hz
 exact Nat.xor_lt_two_pow (n := 8) (by omega) (by omega)
theorem zgs (gt : Nat → Nat) (key : List Nat) (ps : List (List Nat)) : (zm8 gt key ps).length = 32 := zgq _ _
theorem ziu (gt : Nat → Nat) (key : List Nat) (ps : List (List Nat)) : ∀ z ∈ zm8 gt key ps, z < 256 := zeE _ _
theorem zxL (n : Nat) (k : List Nat) (h : k.length ≤ n) : (List.range n).map (fun i => bv (k.getD i 0)) = ((List.range n).map fun _ => bv 0).take 0 ++ k.map bv ++ ((List.range n).map fun _ => bv 0).drop (0 + k.length) := by
 apply List.ext_getElem?
 intro i
 rw [jI, List.nil_append, Nat.zero_add]
 by_cases hi : i < n
 ·rcases Nat.lt_or_ge i k.length with h1 | h1
  ·rw [List.getElem?_append_left (by simpa using h1)]
   simp [hi, jR, jP h1]
  ·rw [List.getElem?_append_right (by simpa using h1), List.getElem?_drop]
   simp [hi, jR, List.getElem?_eq_none h1, show k.length + (i - k.length) = i by omega]
 ·rw [List.getElem?_eq_none (by simp; omega), List.getElem?_eq_none (by simp; omega)]
def zqj (key : List Nat) (by_ i j : Nat) : Nat := if j < i then (key.getD j 0 % 256) ^^^ (by_ % 256) else key.getD j 0
theorem zuw (key : List Nat) (by_ i j : Nat) : upd (fun j => bv (zqj key by_ i j)) i (bv ((key.getD i 0 % 256) ^^^ (by_ % 256))) j = bv (zqj key by_ (i + 1) j) := by
 unfold upd zqj
 by_cases h : j = i
 ·subst h; simp
 ·rw [if_neg h]
  show bv (if j < i then _ else _) = _
  by_cases h2 : j < i
  ·rw [if_pos h2, if_pos (by omega)]
  ·rw [if_neg h2, if_neg (by omega)]
theorem zA9 (key : List Nat) (by_ i : Nat) : zqj key by_ i i = key.getD i 0 := by simp [zqj]
theorem zBa (key : List Nat) (by_ : Nat) : cl [.row 64 (fun j => bv (zqj key by_ 64 j))] = (zcW key by_).map bv := by
 simp only [cl, Chunk.cells, List.append_nil, zcW, List.map_map]
 apply List.map_congr_left
 intro i hi
 simp only [Function.comp, zqj, if_pos (List.mem_range.1 hi)]
def exT (gt : Nat → Nat) (k info : List Nat) : Nat → List Nat × List Nat
 | 0 => ([], [])
 | j + 1 => (zm8 gt k [(exT gt k info j).1, info, [j + 1]], (exT gt k info j).2 ++ zm8 gt k [(exT gt k info j).1, info, [j + 1]])
def zrC (gt : Nat → Nat) (k info : List Nat) (n : Nat) : List Nat := (exT gt k info ((n + 31) / 32)).2.take n
theorem zqk {gt : Nat → Nat} {k info last out : List Nat} {j : Nat} (h : exT gt k info j = (last, out)) : exT gt k info (j + 1) = (zm8 gt k [last, info, [j + 1]], out ++ zm8 gt k [last, info, [j + 1]]) := by rw [exT, h]
theorem zkB (gt : Nat → Nat) (k info : List Nat) : ∀ j, (exT gt k info j).2.length = 32 * j ∧ (exT gt k info j).1.length ≤ 32 ∧ (∀ x ∈ (exT gt k info j).2, x < 256)
 | 0 => ⟨rfl, by show 0 ≤ 32; decide, fun x hx => by cases hx⟩
 | j + 1 => by
  obtain ⟨h1, _, h3⟩ := zkB gt k info j
  refine ⟨?_, ?_, ?_⟩
  ·rw [exT, jQ, h1, zgs]; omega
  ·rw [exT]; show (zm8 _ _ _).length ≤ 32; rw [zgs]; omega
  ·rw [exT]
   intro x hx
   rcases List.mem_append.1 hx with h | h
   ·exact h3 x h
   ·exact ziu _ _ _ x h
theorem ze8 (gt : Nat → Nat) (k info : List Nat) (n : Nat) : (zrC gt k info n).length = n := by
 unfold zrC
 rw [List.length_take, (zkB gt k info _).1]
 omega
theorem zux (gt : Nat → Nat) (k info : List Nat) (n : Nat) : ∀ x ∈ zrC gt k info n, x < 256 := fun x hx => (zkB gt k info _).2.2 x (List.mem_of_mem_take hx)
end
section
open Go.RowKit
theorem zx8 {x y : Nat} {A : Int → Prop} (h : A (((x % 256) ^^^ (y % 256) : Nat) : Int)) : ∃ z, IntKind.u8.wrap ((BitVec.ofInt IntKind.u8.bits (x : Int) ^^^ BitVec.ofInt IntKind.u8.bits (y : Int)).toNat : Nat) = z ∧ A z := ⟨_, zFY x y, h⟩
section
variable {X : List Nat} {w : World} {gt : Nat → Nat} {key : List Nat} {ps : List (List Nat)} {q q2 : Qd}
theorem zuy (by_ : Nat) (h64 : key.length ≤ 64) (hX : ∀ k ∈ X, k < w.heap.size) (hq : St (TxQ key q) w X) : Ct Tryz.prog 126 [.slice q.1 key.length q.2, bv by_] X w (slS 0 0 64 64) [.blk [.row 64 fun j => bv (zqj key by_ 64 j)] 5] [] := by
 refine vFn (k0 := 1) (rs := [.tmp 4]) (svs := [.a (.s (.p (.hd 0 key.length))), zfM (bv by_)]) (R0 := [.sl 0 key.length (TxG key)]) (hnQ [q]) Tryz.ntmps126 Tryz.func126 rfl rfl rfl rfl rfl zah (by kernel_rfl) hX (fun r hr => by rcases List.mem_singleton.1 hr with rfl; exact hq) ?_
 conv => whnf
 refine .inl ?_
 conv => whnf
 refine vF (by simp [Sl.len]; omega) ?_
 conv => whnf
 refine zbH (zy7 (e := 5) 64 ⟨by kernel_rfl, by kernel_rfl, by kernel_rfl⟩ rfl rfl rfl rfl rfl (by decide)) rfl rfl ?_
 conv => whnf
 refine zao (zw3 (cs' := [.row 64 fun j => bv (zqj key by_ 0 j)]) (ys := key) (r := 0) key.length rfl rfl rfl rfl rfl (by kernel_rfl) (by omega) (by show 0 + key.length ≤ 64; omega) fun h => by
  simp only [zaD, SC.den, cl, Chunk.cells, List.append_nil, List.take_length]
  have := zxL 64 key h64
  simpa [zqj] using this) ?_
 conv => whnf
 refine ⟨Nat, fun k l m R i => ⟨k, (21, zam .i64 i) :: zaC [1, 6, 20] l, (1, .blk [.row 64 fun j => bv (zqj key by_ i j)] 5) :: m, R⟩, fun i => i ≤ 64, fun i => 64 - i, ⟨0, [], [0], Nat.zero_le _, zaE⟩, fun i hi => ?_⟩
 conv => whnf
 refine vIf (fun hc => ?_) fun hc => ?_
 ·have hi2 : i < 64 := by
   have : (i : Int) < 64 := of_decide_eq_true hc
   omega
  conv => whnf
  refine ⟨i, ⟨rfl, hi2⟩, .inr ?_⟩
  conv => whnf
  refine ⟨hi2, ?_⟩
  conv => whnf
  refine zx8 ?_
  conv => whnf
  refine ⟨i, ⟨rfl, hi2⟩, .inr ?_⟩
  conv => whnf
  refine zao (zfA (fun j => bv (zqj key by_ (i + 1) j)) rfl rfl rfl rfl rfl rfl hi2 (by rw [zA9]; exact zuw key by_ i)) ?_
  conv => whnf
  refine zbq (by omega) (by omega) ?_
  conv => whnf
  exact ⟨i + 1, [], [0], ⟨hi2, Nat.sub_lt_sub_left hi2 (Nat.lt_succ_self i)⟩, zaE⟩
 have hi8 : i = 64 := by
   have : ¬ (i : Int) < 64 := of_decide_eq_false hc
   omega
 subst hi8
 conv => whnf
 exact zaK [(0, 1)] [] (.inl rfl) ⟨.inl rfl, trivial⟩ rfl trivial
theorem zqm {by_ : Nat} {h : Hn} {i : Nat} {Y : List Nat} {w : World} (hb : St (AtC ⟨h.b i, 0, none⟩ (zaD h [.row 64 fun j => bv (zqj key by_ 64 j)])) w Y) : St (TxF (some ⟨h.b i, 0, none⟩) 64 (zcW key by_)) w Y :=
 zer hb (zBa key by_) (Nat.le_of_eq (zbP key by_)) (by rw [zbP]; decide) (zjr key by_)
theorem zeb {kk : List Nat} {h : Hn} {i : Nat} {Y : List Nat} {w : World} (hk : kk.length = 32) (hbk : ∀ x ∈ kk, x < 256) (hb : St (AtC ⟨h.b i, 0, none⟩ (zaD h [.key kk])) w Y) : St (TxF (some ⟨h.b i, 0, none⟩) 32 kk) w Y :=
 zer hb (by rw [show zaD h [.key kk] = [.key kk] from rfl, zhR, zf1 hk]) (by omega) (by omega) hbk
theorem zDL (h64 : key.length ≤ 64) (hp : ∀ p ∈ ps, p.length ≤ 100000000) (hP : ps.length ≤ 900000) (hX : ∀ k ∈ X, k < w.heap.size) (hq : St (TxQ key q) w X) (hL : St (SlQ zat ps q2) w X) (hG : St (zbm gt 2) w X) : Ct Tryz.prog 102 [.slice q.1 key.length q.2, .slice q2.1 ps.length q2.2] X w (.a (.agg [.key (zm8 gt key ps)])) [] [] := by
 refine vFn (k0 := 2) (rs := [.cell 4 23]) (svs := [.a (.s (.p (.hd 0 key.length))), .a (.s (.p (.hd 1 ps.length)))]) (R0 := [.sl 0 key.length (TxG key), .sl 1 ps.length (SlF zat ps), .c (zbm gt 2)]) (hnQ [q, q2]) Tryz.ntmps102 Tryz.func102 rfl rfl rfl rfl rfl zah (by kernel_rfl) hX (fun r hr => by
  rcases List.mem_cons.1 hr with rfl | hr
  ·exact hq
  rcases List.mem_cons.1 hr with rfl | hr
  ·exact hL
  ·rcases List.mem_singleton.1 hr with rfl; exact hG) ?_
 conv => whnf
 refine zac rfl rfl rfl (by kernel_rfl) (fun h X w H => zuy 54 h64 H.xk (H.fact 0 rfl)) rfl rfl rfl ?_
 conv => whnf
 refine zaI (zaG [3] rfl rfl (zpW (e := 72) (xs := [zcW key 54]) (ys := ps) (r := 2) (by_ := 24) (fun h => [(some ⟨h.b 3, 0, none⟩, 64)]) rfl (fun h => by rfl) (fun h => rfl) (fun h X w H t x hx => by
  cases t with
  | zero => obtain rfl := Option.some.inj hx; exact zqm (H.fact 0 rfl)
  | succ t => simp at hx) rfl rfl rfl rfl rfl ⟨by kernel_rfl, by kernel_rfl⟩ (by simp; omega) (by simp; omega) rfl rfl)) ?_
 conv => whnf
 refine zao (zid (T := zat) (zs := [zcW key 54] ++ ps) 5 rfl (.head _) rfl (zan (rs := []) (Rs := []) (zaa (rs := []) (Rs := []) rfl rfl rfl (by kernel_rfl) rfl fun h X w H => zub H.xk (fun p hpm => by
  rcases List.mem_cons.1 hpm with rfl | hpm
  ·rw [zbP]; decide
  ·exact hp p hpm) (by simp; omega) (H.fact 0 rfl) (H.fact 5 rfl)) rfl rfl)) ?_
 conv => whnf
 obtain ⟨ink, hink⟩ : ∃ ink, ink = zk0 gt ([zcW key 54] ++ ps) := ⟨_, rfl⟩
 have hil : ink.length = 32 := by rw [hink]; exact zgq _ _
 have hib : ∀ x ∈ ink, x < 256 := by rw [hink]; exact zeE _ _
 rw [← hink]
 conv => whnf
 refine zas 3 [] (by kernel_rfl) ?_
 conv => whnf
 refine zaq (zaa (rs := [.blk [.row 64 fun j => bv (zqj key 92 64 j)] 5]) (Rs := []) rfl rfl rfl (by kernel_rfl) rfl fun h X w H => zuy 92 h64 H.xk (H.fact 3 rfl)) ?_
 conv => whnf
 refine zao (zaG [8, 7, 6] rfl rfl (zan (rs := []) (Rs := []) (zaa (rs := []) (Rs := []) rfl rfl rfl (by kernel_rfl) rfl fun h X w H => zub (ps := [zcW key 92, ink]) (q := (some ⟨h.b 8, 0, none⟩, 2)) H.xk (fun p hpm => by
  rcases List.mem_cons.1 hpm with rfl | hpm
  ·rw [zbP]; decide
  ·rcases List.mem_singleton.1 hpm with rfl; omega) (by simp) (zbI (ql := [(some ⟨h.b 7, 0, none⟩, 64), (some ⟨h.b 6, 0, none⟩, 32)]) rfl (by simp) (by
   have := H.fact 2 rfl
   have e : zaD h [.one (.p (.sl 7 0 64 64)), .one (.p (.sl 6 0 32 32))] = zbv [zcW key 92, ink] [(some ⟨h.b 7, 0, none⟩, 64), (some ⟨h.b 6, 0, none⟩, 32)] := by
    simp only [zbv, zbP, hil]
    rfl
   rw [← e]
   exact this) fun t x hx => by
   match t with
   | 0 => obtain rfl := Option.some.inj hx; exact zqm (H.fact 1 rfl)
   | 1 => obtain rfl := Option.some.inj hx; exact zeb hil hib (H.fact 0 rfl)
   | t + 2 => simp at hx) (H.fact 8 rfl)) rfl rfl)) ?_
 conv => whnf
 refine zag ?_
 rw [hink]
 rfl
def zxM (j : Nat) (kk : List Nat) (ln il : Nat) : MB := [(0, .blk [.one (.p (.v (bv j)))] 5), (1, .blk [.key kk] 23), (2, .blk [.one (.p (.hd 4 ln))] 72), (3, .blk [.one (.p (.hd 5 il))] 72), (4, .gone), (5, .gone)]
def TxN (n : Nat) (t : List Nat) (q : Qd) : World → Prop := fun w => (q.1 = none → n = 0) ∧ TxG t q w
theorem zBb {kk last info : List Nat} {j ln : Nat} {h0 : Hn} (hln : ln = last.length) (hj : j ≤ 254) (hk32 : kk.length = 32) (hkb : ∀ x ∈ kk, x < 256) (hll : last.length ≤ 100000000) (hil : info.length ≤ 100000000) (hsp : Sp X w (zae h0 [] (zxM j kk ln info.length)) [TxN ln last (h0.r 4), TxQ info (h0.r 5), zbm gt 2]) :
  CtG Tryz.prog 101 [.pointer (some ⟨h0.b 0, 0, none⟩), .pointer (some ⟨h0.b 1, 0, none⟩), .pointer (some ⟨h0.b 2, 0, none⟩), .pointer (some ⟨h0.b 3, 0, none⟩)] X w h0 (zxM j kk ln info.length) [0, 1, 2, 3, 5] (.a (.s (.p (.hd 6 32)))) [(0, .blk [.one (.p (.v (bv (j + 1))))] 5), (1, .blk [.key kk] 23), (2, .blk [.one (.p (.hd 6 32))] 72), (3, .blk [.one (.p (.hd 5 info.length))] 72), (5, .gone)] [.sl 6 32 (TxG (zm8 gt kk [last, info, [j + 1]]))] := by
 subst hln
 refine zy3 (g := 6) (k0 := 6) (bl := []) (ql := []) (svs := [atS 0 0, atS 1 0, atS 2 0, atS 3 0]) (given := zxM j kk last.length info.length) (Rg := [.sl 4 last.length (TxG last), .sl 5 info.length (TxG info), .c (zbm gt 2)]) (kb := [0, 1, 2, 3, 5]) Tryz.ntmps101 Tryz.func101 rfl rfl rfl zah (by kernel_rfl) rfl rfl hsp ?_
 conv => whnf
 refine ⟨((j + 1 : Nat) : Int), by rw [wU8 (by omega) (by omega)]; omega, ?_⟩
 conv => whnf
 refine zas 8 [] (by kernel_rfl) ?_
 conv => whnf
 refine zaq (zgh [7, 6, 1] rfl (zaa (sv := .a (.agg [.key (zm8 gt kk [last, info, [j + 1]])])) (rs := []) (Rs := []) rfl rfl rfl (by kernel_rfl) rfl fun h X w H => ?_)) ?_
 ·have h1 := H.fact 0 rfl
  have h7 := H.fact 2 rfl
  have h6 := H.fact 1 rfl
  have := zDL (gt := gt) (key := kk) (ps := [last, info, [j + 1]]) (q := (some ⟨h.b 1, 0, none⟩, 32)) (q2 := (some ⟨h.b 7, 0, none⟩, 3)) (by omega) (fun p hp => by
   rcases List.mem_cons.1 hp with rfl | hp
   ·exact hll
   rcases List.mem_cons.1 hp with rfl | hp
   ·exact hil
   ·rcases List.mem_singleton.1 hp with rfl; simp) (by simp) H.xk (zmw (zeb hk32 hkb h1)) (zbI (ql := [h.r 4, h.r 5, (some ⟨h.b 6, 0, none⟩, 1)]) rfl (by simp) h7 fun t x hx => by
    match t with
    | 0 => obtain rfl := Option.some.inj hx; exact zee (H.fact 8 rfl)
    | 1 => obtain rfl := Option.some.inj hx; exact zee (H.fact 9 rfl)
    | 2 => obtain rfl := Option.some.inj hx; exact zer h6 rfl (jV _) (by simp) (fun x hx => by rcases List.mem_singleton.1 hx with rfl; omega)
    | t + 3 => simp at hx) (H.fact 10 rfl)
  rw [hk32] at this
  exact this
 conv => whnf
 refine zw9 [7, 6] rfl ?_
 refine zw8 (kk := zm8 gt kk [last, info, [j + 1]]) (sv' := .a (.s (.p (.hd 9 32)))) (m' := [(2, .blk [.one (.p (.hd 9 32))] 72), (8, .gone), (7, .gone), (6, .gone), (0, .blk [.one (.p (.v (bv (j + 1))))] 5), (1, .blk [.key kk] 23), (3, .blk [.one (.p (.hd 5 info.length))] 72), (4, .gone), (5, .gone)]) 8 rfl (zgs _ _ _) (ziu _ _ _) (fun h hr => ⟨?_, ?_⟩) rfl ?_
 ·show Value.slice (h.r 9).1 32 (h.r 9).2 = _
  rw [hr]
  rfl
 ·have e : zaD h [.one (.p (.hd 9 32))] = zaD h [.one (.p (.sl 8 0 32 32))] := by
   show [Chunk.one (Value.slice (h.r 9).1 32 (h.r 9).2)] = _
   rw [hr]
   rfl
  show Res.blk (h.b 2) (ca (zaD h [.one (.p (.hd 9 32))])) _ :: _ = _
  rw [e]
  rfl
 exact zdG [(0, 0), (1, 1), (2, 2), (3, 3), (5, 5), (6, 9)] [0] [3, 4, 5, 6, 7] (.inl rfl) ⟨.inl rfl, .inl rfl, .inl rfl, .inl rfl, trivial⟩ rfl ⟨.inl rfl, trivial⟩ ⟨rfl, rfl, rfl, rfl, rfl, trivial⟩
theorem zuz {kk info : List Nat} {n : Nat} (hk32 : kk.length = 32) (hkb : ∀ x ∈ kk, x < 256) (hn : n ≤ 8160) (hi20 : info.length ≤ 1048576) (hX : ∀ k ∈ X, k < w.heap.size) (hq : St (TxQ info q) w X) (hG : St (zbm gt 2) w X) : Ct Tryz.prog 70 [.agg (ca [.key kk]), .slice q.1 info.length q.2, .int .i64 n] X w (.tup [.s (.p (.hd 0 n)), .s (.p (.v (.int .i64 0)))]) [.gone] [.sl 0 n (TxG (zrC gt kk info n))] := by
 refine vFn (k0 := 1) (rs := [.tmp 6, .tmp 7]) (svs := [.a (.agg [.key kk]), .a (.s (.p (.hd 0 info.length))), zam .i64 n]) (R0 := [.sl 0 info.length (TxG info), .c (zbm gt 2)]) (hnQ [q]) Tryz.ntmps70 Tryz.func70 rfl rfl rfl rfl rfl zah (by kernel_rfl) hX (fun r hr => by
  rcases List.mem_cons.1 hr with rfl | hr
  ·exact hq
  ·rcases List.mem_singleton.1 hr with rfl; exact hG) ?_
 conv => whnf
 refine vF (decide_eq_false (by omega)) ?_
 conv => whnf
 refine vF (decide_eq_false (by show ¬ (((info.length : Nat) : Int) > 1048576); omega)) ?_
 conv => whnf
 have e1 : (n : Int) + 64 = ((n + 64 : Nat) : Int) := by omega
 refine za5 e1 (by omega) (by omega) ?_
 conv => whnf
 refine zbH (zy5 (e := 5) 0 ⟨by kernel_rfl, by kernel_rfl, by kernel_rfl⟩ rfl rfl rfl rfl rfl (c := n + 64) (by omega) (by omega)) rfl rfl ?_
 conv => whnf
 refine ⟨Nat × Nat × List Nat × List Nat, fun k l m R g => ⟨7, (11, .a (.s (.p (.hd 5 g.2.2.2.length)))) :: zaC [2, 10] l, (3, .blk [.one (.p (.hd 6 g.2.1))] 72) :: (4, .blk [.one (.p (.v (bv g.1)))] 5) :: (5, zdI g.2.2.2 5) :: (6, .gone) :: (0, .gone) :: m, .sl 6 g.2.1 (TxG g.2.2.1) :: R⟩, fun g => g.2.1 = g.2.2.1.length ∧ exT gt kk info g.1 = (g.2.2.1, g.2.2.2) ∧ 32 * g.1 < n + 32, fun g => n - g.2.2.2.length, ⟨(0, 0, [], []), [], [2, 0, 1], ⟨rfl, rfl, by omega⟩, zaE (hR := ⟨.inr (ztz rfl), .inl rfl, .inl rfl, trivial⟩)⟩, fun g hg => ?_⟩
 obtain ⟨j, ln, last, out⟩ := g
 obtain ⟨hln, hex, hj⟩ : ln = last.length ∧ exT gt kk info j = (last, out) ∧ 32 * j < n + 32 := hg
 have hel := zkB gt kk info j
 rw [hex] at hel
 obtain ⟨hol, hll, hob⟩ : out.length = 32 * j ∧ last.length ≤ 32 ∧ ∀ x ∈ out, x < 256 := hel
 conv => whnf
 refine vIf (fun hc => ?_) fun hc => ?_
 ·have hlt : out.length < n := by
   have : ((out.length : Nat) : Int) < (n : Int) := of_decide_eq_true hc
   omega
  obtain ⟨mc, hmc⟩ : ∃ mc, mc = zm8 gt kk [last, info, [j + 1]] := ⟨_, rfl⟩
  have hml : mc.length = 32 := by rw [hmc]; exact zgs _ _ _
  conv => whnf
  refine zaI (za2 [4, 1, 3, 2, 6, 0] 1 rfl rfl rfl (by kernel_rfl) (fs := fun _ => []) (cs := fun h => zhh h [.at_ 4 0, .at_ 1 0, .at_ 3 0, .at_ 2 0]) (fun h => rfl) rfl rfl (given := zxM j kk ln info.length) ⟨rfl, rfl, rfl, rfl, rfl, rfl, trivial⟩ rfl rfl rfl rfl rfl rfl fun h X w L2 H => zBb hln (by omega) hk32 hkb (by omega) (by omega) (H.pick [0, 1, 2] rfl)) ?_
  rw [← hmc]
  conv => whnf
  refine zaI (zgM (xs := out) (ys := mc) (r := 0) (e := 5) rfl rfl hml.symm rfl rfl rfl ⟨by kernel_rfl, by kernel_rfl⟩ (by omega) rfl rfl) ?_
  conv => whnf
  exact ⟨(j + 1, 32, mc, out ++ mc), [(0, 0), (1, 1), (2, 2), (3, 3), (4, 4), (5, 8), (6, 7)], [0, 2, 3], ⟨⟨hml.symm, by rw [hmc]; exact zqk hex, by show 32 * (j + 1) < n + 32; omega⟩, by show n - (out ++ mc).length < n - out.length; rw [jQ]; omega⟩, zaE⟩
 have hge : n ≤ out.length := by
   have : ¬ ((out.length : Nat) : Int) < (n : Int) := of_decide_eq_false hc
   omega
 have hjn : j = (n + 31) / 32 := by omega
 have hys : zrC gt kk info n = out.take n := by rw [zrC, ← hjn, hex]
 conv => whnf
 refine zaI (zgf (xs := out) 5 rfl (by omega) hob rfl (zan (rs := [.gone]) (zty (n0 := out.length) (i := 5) (zrC gt kk info n) 0 hys rfl hge rfl (by kernel_rfl) rfl rfl rfl rfl rfl) rfl rfl)) ?_
 conv => whnf
 exact zaK [(0, 7)] [0] (.inl rfl) trivial rfl ⟨.inl rfl, trivial⟩
end
end
section
open Go.RowKit
theorem zuA (A : Option Addr) (n c : Nat) (l : List Nat) (w : World) (h : Txt w w.heap.size A n c l) (hn : n ≤ 140737488355328) :
  Calls Tryz.prog 67 #[.slice A n c] w (zDK w l) := by
 cases A with
 | none =>
  obtain ⟨rfl, rfl⟩ := h.nil rfl
  obtain rfl : l = [] := List.eq_nil_of_length_eq_zero h.len
  have he := fun w => Lib.run_eql_slice_nil (P := Tryz.prog) w 72 5 none 0 0 0 0 Tryz.underlying72
  go_enter Tryz.func67, Tryz.ntmps67
  go_wp2
  go_ret
  exact ⟨_, rfl, Own.nil_, Below.refl _ _⟩
 | some ad =>
  have he := fun w => Lib.run_eql_slice_nil (P := Tryz.prog) w 72 5 (some ad) n c 0 0 Tryz.underlying72
  have ho := zuu w 5
  have hb : Below w.heap.size w (w.alloc (.cells #[] 5)) := (Below.refl _ _).alloc (jV _) _
  go_enter Tryz.func67, Tryz.ntmps67
  go_wp2_with (refine zdR rfl rfl BT (l := []) rfl rfl ho (h.below hb) (by simpa using hn) (by simp) ?_; intro v1 w1 hown hg hat)
  go_ret
  exact ⟨v1, rfl, by simpa using hown, zk3 hb ho hg (jV _) (by simp)⟩
theorem zuB (v : Value) (l : List Nat) (base : Nat) (W n : Nat) (hW : W ≤ 8) (hn : n < 18446744073709551616) (hl : l.length + 8 ≤ 140737488355328) (w : World) (hown : Own w base 5 v l) (hbase : base ≤ w.heap.size) :
  Calls Tryz.prog 68 #[v, .int .i64 W, .int .u64 n] w fun e w' => (∃ v', e = .returned v' ∧ Own w' base 5 v' (l ++ beL W n)) ∧ Below base w w' := by
 go_enter Tryz.func68, Tryz.ntmps68
 go_wp2
 have hown' := Lib.hid hown
 clear hown
 go_loopg [0, 7] W (fun k v i wr => i = .int .i64 ((k : Int) - 1) ∧ k ≤ W ∧ Own wr base 5 v (l ++ beK W n (W - k)) ∧ Below base w wr ∧ base ≤ wr.heap.size)
 case atStart => exact ⟨rfl, jV _, (by rw [Nat.sub_self]; unfold beK; simpa using hown'.out), Below.refl _ _, hbase⟩
 case round =>
  obtain ⟨rfl, hk, ho, hB, hs⟩ := hrel
  have ho' := Lib.hid ho
  clear ho
  rcases Nat.eq_zero_or_pos gk with hz | hz
  ·subst hz
   go_wp2
   go_ret
   refine ⟨⟨_, rfl, ?_⟩, hB⟩
   exact ho'.out
  ·obtain ⟨k, rfl⟩ : ∃ k, gk = k + 1 := ⟨gk - 1, by omega⟩
   have ek : ((k + 1 : Nat) : Int) - 1 = (k : Int) := by omega
   rw [ek]
   obtain ⟨x, hx⟩ : ∃ x, x = n / 2 ^ (8 * k) % 256 := ⟨_, rfl⟩
   have ex : (n : Int) / 2 ^ (8 * k) % 256 = (x : Int) := by rw [hx, Int.natCast_emod, Int.natCast_ediv, Int.natCast_pow]; rfl
   have en : beK W n (W - (k + 1)) ++ [x] = beK W n (W - k) := by
    rw [show W - k = (W - (k + 1)) + 1 from by omega, zxK, hx, show W - 1 - (W - (k + 1)) = k from by omega]
   have EN := Lib.hid en
   have bl := zuv W n (W - (k + 1))
   have BL := Lib.hid bl
   clear hz ek hx en bl
   go_wp2_with (refine zdR rfl rfl BT rfl rfl (ho'.out.alloc (.cells #[bv x] 5)) (zA8 wr 5 x) (by have := BL.out; simp; omega) (by simp; omega) ?_; intro v1 w1 hown hg hat)
   have hb1 := zk3 (hB.alloc hs (.cells #[bv x] 5)) (ho'.out.alloc (.cells #[bv x] 5)) hg (jV _) (by simp; omega)
   go_roundg k
   case measure => omega
   case rel => exact ⟨by go_num, by omega, (by rw [← EN.out, ← List.append_assoc]; exact hown), hb1, jU hs (jU (by simp) hg.size)⟩
end
section
open Go.RowKit
theorem zBc : ∀ i : Fin 256, 0 ≤ Lib.len8 (i.val : Int) ∧ Lib.len8 (i.val : Int) ≤ 8 ∧ (i.val ≠ 0 → 1 ≤ Lib.len8 (i.val : Int)) ∧ (i.val = 0 → Lib.len8 (i.val : Int) = 0) := by decide +kernel
theorem zBd (n r k : Nat) (h1 : k = 0 ∨ 256 ^ k ≤ n) (h2 : n < 256 ^ (k + 1)) (h3 : (8 * k + 1 ≤ r ∧ 1 ≤ n) ∨ (n = 0 ∧ r = 0)) (h4 : r ≤ 8 * k + 8) (W : Nat) : r ≤ 8 * W ↔ n < 256 ^ W := by
 have hp : 0 < 256 ^ W := Nat.pow_pos (by omega)
 rcases h3 with ⟨h3, h5⟩ | ⟨rfl, rfl⟩
 ·rcases Nat.lt_or_ge k W with h | h
  ·have := Nat.pow_le_pow_right (n := 256) (by omega) h
   constructor
   ·intro _; exact jT h2 this
   ·intro _; omega
  ·have hle := Nat.pow_le_pow_right (n := 256) (by omega) h
   constructor
   ·intro hr; omega
   ·intro hn
    rcases h1 with rfl | h1
    ·obtain rfl : W = 0 := by omega
     rw [Nat.pow_zero] at hn
     omega
    ·omega
 ·exact ⟨fun _ => hp, fun _ => Nat.zero_le _⟩
theorem zeI (n k : Nat) (hk : k < 8) (h1 : k = 0 ∨ 256 ^ k ≤ n) (h2 : n < 256 ^ (k + 1)) (h0 : n = 0 ∨ 1 ≤ n / 256 ^ k) (W : Nat) :
  (8 * k + (Lib.len8 ((n / 256 ^ k : Nat) : Int)).toNat ≤ 8 * W ↔ n < 256 ^ W) ∧ 0 ≤ Lib.len8 ((n / 256 ^ k : Nat) : Int) ∧ Lib.len8 ((n / 256 ^ k : Nat) : Int) ≤ 8 := by
 have hlt : n / 256 ^ k < 256 := by
  rw [Nat.pow_succ] at h2
  exact Nat.div_lt_of_lt_mul h2
 obtain ⟨a, b, c, d⟩ := zBc ⟨n / 256 ^ k, hlt⟩
 simp only at a b c d
 refine ⟨zBd n _ k h1 h2 ?_ (by omega) W, a, b⟩
 rcases h0 with rfl | h0
 ·rcases h1 with rfl | h1
  ·rw [Nat.zero_div] at d
   have := d rfl
   rw [Nat.zero_div, this]
   exact .inr ⟨rfl, rfl⟩
  ·have : 0 < 256 ^ k := Nat.pow_pos (by omega)
   omega
 ·have := c (by omega)
  refine .inl ⟨by omega, ?_⟩
  rcases Nat.eq_zero_or_pos n with hz | hz
  ·rw [hz, Nat.zero_div] at h0; omega
  ·exact hz
theorem zBe (x : Int) (h0 : 0 ≤ x) (h1 : x < 256) (w : World) :
  Calls Tryz.prog 98 #[.int .u64 x] w fun e w' => (∃ r : Nat, e = .returned (.int .i64 r) ∧ ∀ W, r ≤ 8 * W ↔ x.toNat < 256 ^ W) ∧ w = w' := by
 have d_x1 : decide ((4294967296 : Int) ≤ x) = false := decide_eq_false (by omega)
 have d_x2 : decide ((65536 : Int) ≤ x) = false := decide_eq_false (by omega)
 have d_x3 : decide ((256 : Int) ≤ x) = false := decide_eq_false (by omega)
 have q0 : 0 ≤ x := by omega
 have q1 : x ≤ 255 := by omega
 have q2 : x = ((x.toNat / 256 ^ 0 : Nat) : Int) := by rw [show (256 : Nat) ^ 0 = 1 from rfl]; omega
 have rm := zeI x.toNat 0 (by omega) (.inl rfl) (by rw [show (256 : Nat) ^ (0 + 1) = 256 from rfl]; omega) (by rw [show (256 : Nat) ^ 0 = 1 from rfl]; omega)
 rw [← q2] at rm
 have bd := (rm 0).2
 obtain ⟨l, hl⟩ := Int.eq_ofNat_of_zero_le bd.1
 have tb := fun (w : World) => Lib.run_index_len8tab (P := Tryz.prog) (w := w) 9 .u8 x Tryz.underlying9 q0 q1
 rw [hl] at tb bd
 have bl : l ≤ 8 := by omega
 have RM := Lib.hid (fun W => (rm W).1)
 rw [hl, Int.toNat_natCast] at RM
 clear rm q2 hl bd
 go_enter Tryz.func98, Tryz.ntmps98
 go_wp2
 go_ret
 refine ⟨⟨0 + l, ?_, RM.out⟩, rfl⟩
 first | rfl | (congr 2; omega) | (show Ending.returned (Value.int .i64 _) = Ending.returned (Value.int .i64 _); congr 2; omega)
theorem zBf (x : Int) (h0 : 256 ≤ x) (h1 : x < 65536) (w : World) :
  Calls Tryz.prog 98 #[.int .u64 x] w fun e w' => (∃ r : Nat, e = .returned (.int .i64 r) ∧ ∀ W, r ≤ 8 * W ↔ x.toNat < 256 ^ W) ∧ w = w' := by
 have d_x1 : decide ((4294967296 : Int) ≤ x) = false := decide_eq_false (by omega)
 have d_x2 : decide ((65536 : Int) ≤ x) = false := decide_eq_false (by omega)
 have d_x3 : decide ((256 : Int) ≤ x) = true := decide_eq_true (by omega)
 obtain ⟨x3, hx3⟩ : ∃ y, y = x / 256 := ⟨_, rfl⟩
 have e_x3 : x / 256 = x3 := hx3.symm
 have q0 : 0 ≤ x3 := by omega
 have q1 : x3 ≤ 255 := by omega
 have q2 : x3 = ((x.toNat / 256 ^ 1 : Nat) : Int) := by rw [show (256 : Nat) ^ 1 = 256 from rfl]; omega
 have rm := zeI x.toNat 1 (by omega) (.inr (by rw [show (256 : Nat) ^ 1 = 256 from rfl]; omega)) (by rw [show (256 : Nat) ^ (1 + 1) = 65536 from rfl]; omega) (by rw [show (256 : Nat) ^ 1 = 256 from rfl]; omega)
 rw [← q2] at rm
 have bd := (rm 0).2
 obtain ⟨l, hl⟩ := Int.eq_ofNat_of_zero_le bd.1
 have tb := fun (w : World) => Lib.run_index_len8tab (P := Tryz.prog) (w := w) 9 .u8 x3 Tryz.underlying9 q0 q1
 rw [hl] at tb bd
 have bl : l ≤ 8 := by omega
 have RM := Lib.hid (fun W => (rm W).1)
 rw [hl, Int.toNat_natCast] at RM
 clear rm q2 hl bd hx3
 go_enter Tryz.func98, Tryz.ntmps98
 go_wp2
 go_ret
 refine ⟨⟨8 + l, ?_, RM.out⟩, rfl⟩
 first | rfl | (congr 2; omega) | (show Ending.returned (Value.int .i64 _) = Ending.returned (Value.int .i64 _); congr 2; omega)
theorem zBg (x : Int) (h0 : 65536 ≤ x) (h1 : x < 16777216) (w : World) :
  Calls Tryz.prog 98 #[.int .u64 x] w fun e w' => (∃ r : Nat, e = .returned (.int .i64 r) ∧ ∀ W, r ≤ 8 * W ↔ x.toNat < 256 ^ W) ∧ w = w' := by
 have d_x1 : decide ((4294967296 : Int) ≤ x) = false := decide_eq_false (by omega)
 have d_x2 : decide ((65536 : Int) ≤ x) = true := decide_eq_true (by omega)
 obtain ⟨x2, hx2⟩ : ∃ y, y = x / 65536 := ⟨_, rfl⟩
 have e_x2 : x / 65536 = x2 := hx2.symm
 have d_x3 : decide ((256 : Int) ≤ x2) = false := decide_eq_false (by omega)
 have q0 : 0 ≤ x2 := by omega
 have q1 : x2 ≤ 255 := by omega
 have q2 : x2 = ((x.toNat / 256 ^ 2 : Nat) : Int) := by rw [show (256 : Nat) ^ 2 = 65536 from rfl]; omega
 have rm := zeI x.toNat 2 (by omega) (.inr (by rw [show (256 : Nat) ^ 2 = 65536 from rfl]; omega)) (by rw [show (256 : Nat) ^ (2 + 1) = 16777216 from rfl]; omega) (by rw [show (256 : Nat) ^ 2 = 65536 from rfl]; omega)
 rw [← q2] at rm
 have bd := (rm 0).2
 obtain ⟨l, hl⟩ := Int.eq_ofNat_of_zero_le bd.1
 have tb := fun (w : World) => Lib.run_index_len8tab (P := Tryz.prog) (w := w) 9 .u8 x2 Tryz.underlying9 q0 q1
 rw [hl] at tb bd
 have bl : l ≤ 8 := by omega
 have RM := Lib.hid (fun W => (rm W).1)
 rw [hl, Int.toNat_natCast] at RM
 clear rm q2 hl bd hx2
 go_enter Tryz.func98, Tryz.ntmps98
 go_wp2
 go_ret
 refine ⟨⟨16 + l, ?_, RM.out⟩, rfl⟩
 first | rfl | (congr 2; omega) | (show Ending.returned (Value.int .i64 _) = Ending.returned (Value.int .i64 _); congr 2; omega)
theorem zBh (x : Int) (h0 : 16777216 ≤ x) (h1 : x < 4294967296) (w : World) :
  Calls Tryz.prog 98 #[.int .u64 x] w fun e w' => (∃ r : Nat, e = .returned (.int .i64 r) ∧ ∀ W, r ≤ 8 * W ↔ x.toNat < 256 ^ W) ∧ w = w' := by
 have d_x1 : decide ((4294967296 : Int) ≤ x) = false := decide_eq_false (by omega)
 have d_x2 : decide ((65536 : Int) ≤ x) = true := decide_eq_true (by omega)
 obtain ⟨x2, hx2⟩ : ∃ y, y = x / 65536 := ⟨_, rfl⟩
 have e_x2 : x / 65536 = x2 := hx2.symm
 have d_x3 : decide ((256 : Int) ≤ x2) = true := decide_eq_true (by omega)
 obtain ⟨x3, hx3⟩ : ∃ y, y = x2 / 256 := ⟨_, rfl⟩
 have e_x3 : x2 / 256 = x3 := hx3.symm
 have q0 : 0 ≤ x3 := by omega
 have q1 : x3 ≤ 255 := by omega
 have q2 : x3 = ((x.toNat / 256 ^ 3 : Nat) : Int) := by rw [show (256 : Nat) ^ 3 = 16777216 from rfl]; omega
 have rm := zeI x.toNat 3 (by omega) (.inr (by rw [show (256 : Nat) ^ 3 = 16777216 from rfl]; omega)) (by rw [show (256 : Nat) ^ (3 + 1) = 4294967296 from rfl]; omega) (by rw [show (256 : Nat) ^ 3 = 16777216 from rfl]; omega)
 rw [← q2] at rm
 have bd := (rm 0).2
 obtain ⟨l, hl⟩ := Int.eq_ofNat_of_zero_le bd.1
 have tb := fun (w : World) => Lib.run_index_len8tab (P := Tryz.prog) (w := w) 9 .u8 x3 Tryz.underlying9 q0 q1
 rw [hl] at tb bd
 have bl : l ≤ 8 := by omega
 have RM := Lib.hid (fun W => (rm W).1)
 rw [hl, Int.toNat_natCast] at RM
 clear rm q2 hl bd hx2 hx3
 go_enter Tryz.func98, Tryz.ntmps98
 go_wp2
 go_ret
 refine ⟨⟨24 + l, ?_, RM.out⟩, rfl⟩
 first | rfl | (congr 2; omega) | (show Ending.returned (Value.int .i64 _) = Ending.returned (Value.int .i64 _); congr 2; omega)
theorem zBi (x : Int) (h0 : 4294967296 ≤ x) (h1 : x < 1099511627776) (w : World) :
  Calls Tryz.prog 98 #[.int .u64 x] w fun e w' => (∃ r : Nat, e = .returned (.int .i64 r) ∧ ∀ W, r ≤ 8 * W ↔ x.toNat < 256 ^ W) ∧ w = w' := by
 have d_x1 : decide ((4294967296 : Int) ≤ x) = true := decide_eq_true (by omega)
 obtain ⟨x1, hx1⟩ : ∃ y, y = x / 4294967296 := ⟨_, rfl⟩
 have e_x1 : x / 4294967296 = x1 := hx1.symm
 have d_x2 : decide ((65536 : Int) ≤ x1) = false := decide_eq_false (by omega)
 have d_x3 : decide ((256 : Int) ≤ x1) = false := decide_eq_false (by omega)
 have q0 : 0 ≤ x1 := by omega
 have q1 : x1 ≤ 255 := by omega
 have q2 : x1 = ((x.toNat / 256 ^ 4 : Nat) : Int) := by rw [show (256 : Nat) ^ 4 = 4294967296 from rfl]; omega
 have rm := zeI x.toNat 4 (by omega) (.inr (by rw [show (256 : Nat) ^ 4 = 4294967296 from rfl]; omega)) (by rw [show (256 : Nat) ^ (4 + 1) = 1099511627776 from rfl]; omega) (by rw [show (256 : Nat) ^ 4 = 4294967296 from rfl]; omega)
 rw [← q2] at rm
 have bd := (rm 0).2
 obtain ⟨l, hl⟩ := Int.eq_ofNat_of_zero_le bd.1
 have tb := fun (w : World) => Lib.run_index_len8tab (P := Tryz.prog) (w := w) 9 .u8 x1 Tryz.underlying9 q0 q1
 rw [hl] at tb bd
 have bl : l ≤ 8 := by omega
 have RM := Lib.hid (fun W => (rm W).1)
 rw [hl, Int.toNat_natCast] at RM
 clear rm q2 hl bd hx1
 go_enter Tryz.func98, Tryz.ntmps98
 go_wp2
 go_ret
 refine ⟨⟨32 + l, ?_, RM.out⟩, rfl⟩
 first | rfl | (congr 2; omega) | (show Ending.returned (Value.int .i64 _) = Ending.returned (Value.int .i64 _); congr 2; omega)
theorem zBj (x : Int) (h0 : 1099511627776 ≤ x) (h1 : x < 281474976710656) (w : World) :
  Calls Tryz.prog 98 #[.int .u64 x] w fun e w' => (∃ r : Nat, e = .returned (.int .i64 r) ∧ ∀ W, r ≤ 8 * W ↔ x.toNat < 256 ^ W) ∧ w = w' := by
 have d_x1 : decide ((4294967296 : Int) ≤ x) = true := decide_eq_true (by omega)
 obtain ⟨x1, hx1⟩ : ∃ y, y = x / 4294967296 := ⟨_, rfl⟩
 have e_x1 : x / 4294967296 = x1 := hx1.symm
 have d_x2 : decide ((65536 : Int) ≤ x1) = false := decide_eq_false (by omega)
 have d_x3 : decide ((256 : Int) ≤ x1) = true := decide_eq_true (by omega)
 obtain ⟨x3, hx3⟩ : ∃ y, y = x1 / 256 := ⟨_, rfl⟩
 have e_x3 : x1 / 256 = x3 := hx3.symm
 have q0 : 0 ≤ x3 := by omega
 have q1 : x3 ≤ 255 := by omega
 have q2 : x3 = ((x.toNat / 256 ^ 5 : Nat) : Int) := by rw [show (256 : Nat) ^ 5 = 1099511627776 from rfl]; omega
 have rm := zeI x.toNat 5 (by omega) (.inr (by rw [show (256 : Nat) ^ 5 = 1099511627776 from rfl]; omega)) (by rw [show (256 : Nat) ^ (5 + 1) = 281474976710656 from rfl]; omega) (by rw [show (256 : Nat) ^ 5 = 1099511627776 from rfl]; omega)
 rw [← q2] at rm
 have bd := (rm 0).2
 obtain ⟨l, hl⟩ := Int.eq_ofNat_of_zero_le bd.1
 have tb := fun (w : World) => Lib.run_index_len8tab (P := Tryz.prog) (w := w) 9 .u8 x3 Tryz.underlying9 q0 q1
 rw [hl] at tb bd
 have bl : l ≤ 8 := by omega
 have RM := Lib.hid (fun W => (rm W).1)
 rw [hl, Int.toNat_natCast] at RM
 clear rm q2 hl bd hx1 hx3
 go_enter Tryz.func98, Tryz.ntmps98
 go_wp2
 go_ret
 refine ⟨⟨40 + l, ?_, RM.out⟩, rfl⟩
 first | rfl | (congr 2; omega) | (show Ending.returned (Value.int .i64 _) = Ending.returned (Value.int .i64 _); congr 2; omega)
theorem zBk (x : Int) (h0 : 281474976710656 ≤ x) (h1 : x < 72057594037927936) (w : World) :
  Calls Tryz.prog 98 #[.int .u64 x] w fun e w' => (∃ r : Nat, e = .returned (.int .i64 r) ∧ ∀ W, r ≤ 8 * W ↔ x.toNat < 256 ^ W) ∧ w = w' := by
 have d_x1 : decide ((4294967296 : Int) ≤ x) = true := decide_eq_true (by omega)
 obtain ⟨x1, hx1⟩ : ∃ y, y = x / 4294967296 := ⟨_, rfl⟩
 have e_x1 : x / 4294967296 = x1 := hx1.symm
 have d_x2 : decide ((65536 : Int) ≤ x1) = true := decide_eq_true (by omega)
 obtain ⟨x2, hx2⟩ : ∃ y, y = x1 / 65536 := ⟨_, rfl⟩
 have e_x2 : x1 / 65536 = x2 := hx2.symm
 have d_x3 : decide ((256 : Int) ≤ x2) = false := decide_eq_false (by omega)
 have q0 : 0 ≤ x2 := by omega
 have q1 : x2 ≤ 255 := by omega
 have q2 : x2 = ((x.toNat / 256 ^ 6 : Nat) : Int) := by rw [show (256 : Nat) ^ 6 = 281474976710656 from rfl]; omega
 have rm := zeI x.toNat 6 (by omega) (.inr (by rw [show (256 : Nat) ^ 6 = 281474976710656 from rfl]; omega)) (by rw [show (256 : Nat) ^ (6 + 1) = 72057594037927936 from rfl]; omega) (by rw [show (256 : Nat) ^ 6 = 281474976710656 from rfl]; omega)
 rw [← q2] at rm
 have bd := (rm 0).2
 obtain ⟨l, hl⟩ := Int.eq_ofNat_of_zero_le bd.1
 have tb := fun (w : World) => Lib.run_index_len8tab (P := Tryz.prog) (w := w) 9 .u8 x2 Tryz.underlying9 q0 q1
 rw [hl] at tb bd
 have bl : l ≤ 8 := by omega
 have RM := Lib.hid (fun W => (rm W).1)
 rw [hl, Int.toNat_natCast] at RM
 clear rm q2 hl bd hx1 hx2
 go_enter Tryz.func98, Tryz.ntmps98
 go_wp2
 go_ret
 refine ⟨⟨48 + l, ?_, RM.out⟩, rfl⟩
 first | rfl | (congr 2; omega) | (show Ending.returned (Value.int .i64 _) = Ending.returned (Value.int .i64 _); congr 2; omega)
theorem zBm (x : Int) (h0 : 72057594037927936 ≤ x) (h1 : x ≤ 18446744073709551615) (w : World) :
  Calls Tryz.prog 98 #[.int .u64 x] w fun e w' => (∃ r : Nat, e = .returned (.int .i64 r) ∧ ∀ W, r ≤ 8 * W ↔ x.toNat < 256 ^ W) ∧ w = w' := by
 have d_x1 : decide ((4294967296 : Int) ≤ x) = true := decide_eq_true (by omega)
 obtain ⟨x1, hx1⟩ : ∃ y, y = x / 4294967296 := ⟨_, rfl⟩
 have e_x1 : x / 4294967296 = x1 := hx1.symm
 have d_x2 : decide ((65536 : Int) ≤ x1) = true := decide_eq_true (by omega)
 obtain ⟨x2, hx2⟩ : ∃ y, y = x1 / 65536 := ⟨_, rfl⟩
 have e_x2 : x1 / 65536 = x2 := hx2.symm
 have d_x3 : decide ((256 : Int) ≤ x2) = true := decide_eq_true (by omega)
 obtain ⟨x3, hx3⟩ : ∃ y, y = x2 / 256 := ⟨_, rfl⟩
 have e_x3 : x2 / 256 = x3 := hx3.symm
 have q0 : 0 ≤ x3 := by omega
 have q1 : x3 ≤ 255 := by omega
 have q2 : x3 = ((x.toNat / 256 ^ 7 : Nat) : Int) := by rw [show (256 : Nat) ^ 7 = 72057594037927936 from rfl]; omega
 have rm := zeI x.toNat 7 (by omega) (.inr (by rw [show (256 : Nat) ^ 7 = 72057594037927936 from rfl]; omega)) (by rw [show (256 : Nat) ^ (7 + 1) = 18446744073709551616 from rfl]; omega) (by rw [show (256 : Nat) ^ 7 = 72057594037927936 from rfl]; omega)
 rw [← q2] at rm
 have bd := (rm 0).2
 obtain ⟨l, hl⟩ := Int.eq_ofNat_of_zero_le bd.1
 have tb := fun (w : World) => Lib.run_index_len8tab (P := Tryz.prog) (w := w) 9 .u8 x3 Tryz.underlying9 q0 q1
 rw [hl] at tb bd
 have bl : l ≤ 8 := by omega
 have RM := Lib.hid (fun W => (rm W).1)
 rw [hl, Int.toNat_natCast] at RM
 clear rm q2 hl bd hx1 hx2 hx3
 go_enter Tryz.func98, Tryz.ntmps98
 go_wp2
 go_ret
 refine ⟨⟨56 + l, ?_, RM.out⟩, rfl⟩
 first | rfl | (congr 2; omega) | (show Ending.returned (Value.int .i64 _) = Ending.returned (Value.int .i64 _); congr 2; omega)
theorem zuC (x : Int) (h0 : 0 ≤ x) (h1 : x ≤ 18446744073709551615) (w : World) :
  Calls Tryz.prog 98 #[.int .u64 x] w fun e w' => (∃ r : Nat, e = .returned (.int .i64 r) ∧ ∀ W, r ≤ 8 * W ↔ x.toNat < 256 ^ W) ∧ w = w' := by
 by_cases g0 : x < 256
 ·exact zBe x (by omega) g0 w
 by_cases g1 : x < 65536
 ·exact zBf x (by omega) g1 w
 by_cases g2 : x < 16777216
 ·exact zBg x (by omega) g2 w
 by_cases g3 : x < 4294967296
 ·exact zBh x (by omega) g3 w
 by_cases g4 : x < 1099511627776
 ·exact zBi x (by omega) g4 w
 by_cases g5 : x < 281474976710656
 ·exact zBj x (by omega) g5 w
 by_cases g6 : x < 72057594037927936
 ·exact zBk x (by omega) g6 w
 exact zBm x (by omega) h1 w
end
section
open Go.RowKit
attribute [local irreducible] beL beK
theorem zuD (w : World) (v : Value) (t : TypeId) : (w.alloc (.cells #[v] t)).cell? ⟨w.heap.size, 0, none⟩ = some v := by
 rw [cell_of_row _ _ _ _ _ _ (heap_alloc_new w (.cells #[v] t))]; rfl
theorem zd0 {B : Nat} {w w' : World} {g o : Nat} {v : Value} (hb : Below B w w') (hg : g < B) (h : w.cell? ⟨g, o, none⟩ = some v) : w'.cell? ⟨g, o, none⟩ = some v := (hb.cell (p := ⟨g, o, none⟩) hg).trans h
theorem zxN (k n : Nat) : beL (k + 1) n = (n / 2 ^ (8 * k) % 256) :: beL k n := by
 unfold beL beK
 rw [List.range_succ_eq_map, List.map_cons, List.map_map]
 congr 1
 apply List.map_congr_left
 intro i hi
 have := List.mem_range.1 hi
 simp only [Function.comp]
 rw [show k + 1 - 1 - (i + 1) = k - 1 - i from by omega]
theorem zxO (n : Nat) : beL 0 n = [] := by unfold beL beK; rfl
theorem zdK (k n : Nat) : (beL k n).length = k := by unfold beL; exact zuv k n k
end
section
open Go.RowKit
attribute [local irreducible] beL beK
theorem zxP (W n : Nat) (hW : W ≤ 8) (hn : n < 18446744073709551616) (w : World) :
  Calls Tryz.prog 66 #[.int .i64 W, .int .u64 n] w fun e w' => e = .returned (.bool (decide (n < 256 ^ W))) ∧ w = w' := by
 have hx : ((n : Int)) ≤ 18446744073709551615 := by omega
 have c := zuC (n : Int) (by omega) hx
 rw [Int.toNat_natCast] at c
 have C := Lib.hid c
 clear c hx hn
 go_enter Tryz.func66, Tryz.ntmps66
 go_wp2_with (go_at_call 98; fail)
 refine (C.out _).mono ?_
 rintro e w' ⟨⟨r, rfl, hr⟩, rfl⟩
 have HR := Lib.hid (hr W)
 clear hr
 go_wp2
 go_ret
 refine ⟨?_, rfl⟩
 have e1 : decide ((r : Int) ≤ 8 * (W : Int)) = decide (n < 256 ^ W) := decide_eq_decide.2 ⟨fun h => HR.out.1 (by omega), fun h => by have := HR.out.2 h; omega⟩
 rw [← e1]
 rfl
theorem zxQ (W n : Nat) (hW : W ≤ 8) (hn : n < 18446744073709551616) (g : Nat) (w : World) (hc : w.cell? ⟨g, 0, none⟩ = some (.int .i64 W)) :
  Calls Tryz.prog 65 #[.int .u64 n, .pointer (some ⟨g, 0, none⟩)] w fun e w' => e = .returned (.bool (!decide (n < 256 ^ W))) ∧ w = w' := by
 have HN := Lib.hid hn
 clear hn
 go_enter Tryz.func65, Tryz.ntmps65
 go_wp2_with (go_at_call 66; fail)
 refine (zxP W n hW HN.out _).mono ?_
 rintro e w' ⟨rfl, rfl⟩
 go_wp2
 go_ret
 exact ⟨rfl, rfl⟩
theorem zxR (W n : Nat) (hW : W ≤ 8) (hn : n < 18446744073709551616) (g h : Nat) (w : World) (hc : w.cell? ⟨g, 0, none⟩ = some (.int .i64 W)) (hx : w.cell? ⟨h, 0, none⟩ = some (.int .u64 n)) :
  Calls Tryz.prog 97 #[.slice (some ⟨h, 0, none⟩) 1 1, .func (.func 65) #[] #[.pointer (some ⟨g, 0, none⟩)]] w fun e w' => e = .returned (.int .i64 (if n < 256 ^ W then -1 else 0)) ∧ w = w' := by
 have HN := Lib.hid hn
 clear hn
 go_enter Tryz.func97, Tryz.ntmps97
 go_wp2
 go_loopg [8] 1 (fun k i wr => (k = 1 ∧ i = .int .i64 0 ∨ k = 0 ∧ i = .int .i64 1 ∧ n < 256 ^ W) ∧ w = wr)
 case atStart => exact ⟨.inl ⟨rfl, rfl⟩, rfl⟩
 case round =>
  obtain ⟨hr, rfl⟩ := hrel
  rcases hr with ⟨rfl, rfl⟩ | ⟨rfl, rfl, hlt⟩
  ·go_wp2_with (go_at_call 65; fail)
   refine (zxQ W n hW HN.out g _ hc).mono ?_
   rintro e w' ⟨rfl, rfl⟩
   by_cases hf : n < 256 ^ W
   ·rw [decide_eq_true hf]
    have HF := Lib.hid hf
    clear hf
    go_wp2
    go_roundg 0
    case measure => omega
    case rel => exact ⟨.inr ⟨rfl, rfl, HF.out⟩, rfl⟩
   ·rw [decide_eq_false hf]
    have HF := Lib.hid hf
    clear hf
    go_wp2
    go_ret
    refine ⟨?_, rfl⟩
    first | rfl | (rw [if_neg HF.out]; rfl)
  ·have HF := Lib.hid hlt
   clear hlt
   go_wp2
   go_ret
   refine ⟨?_, rfl⟩
   first | rfl | (rw [if_pos HF.out]; rfl)
theorem zoD (W n : Nat) (hW : W ≤ 8) (hn : n < 18446744073709551616) (g h : Nat) (w : World) (hc : w.cell? ⟨g, 0, none⟩ = some (.int .i64 W)) (hx : w.cell? ⟨h, 0, none⟩ = some (.int .u64 n)) :
  Calls Tryz.prog 64 #[.slice (some ⟨h, 0, none⟩) 1 1, .func (.func 65) #[] #[.pointer (some ⟨g, 0, none⟩)]] w fun e w' => e = .returned (.bool (!decide (n < 256 ^ W))) ∧ w = w' := by
 have c := Lib.hid (zxR W n hW hn g h w hc hx)
 by_cases hf : n < 256 ^ W
 ·rw [decide_eq_true hf]
  rw [if_pos hf] at c
  clear hf hn
  go_enter Tryz.func64, Tryz.ntmps64
  go_wp2_with (go_at_call 97; fail)
  refine c.out.mono ?_
  rintro e w' ⟨rfl, rfl⟩
  go_wp2
  go_ret
  exact ⟨rfl, rfl⟩
 ·rw [decide_eq_false hf]
  rw [if_neg hf] at c
  clear hf hn
  go_enter Tryz.func64, Tryz.ntmps64
  go_wp2_with (go_at_call 97; fail)
  refine c.out.mono ?_
  rintro e w' ⟨rfl, rfl⟩
  go_wp2
  go_ret
  exact ⟨rfl, rfl⟩
end
section
open Go.RowKit
attribute [local irreducible] beL beK
theorem zBn (A : Option Addr) (n0 c : Nat) (l0 : List Nat) (hl0 : n0 ≤ 100000000000) (W n : Nat) (h1 : 1 ≤ W) (h8 : W ≤ 8) (hn : n < 18446744073709551616) (hf : n < 256 ^ W) (h : Nat) (w : World) (hh : h < w.heap.size) (hx : w.cell? ⟨h, 0, none⟩ = some (.int .u64 n)) (ht : Txt w w.heap.size A n0 c l0) :
  Calls Tryz.prog 40 #[.slice A n0 c, .int .i64 W, .slice (some ⟨h, 0, none⟩) 1 1] w (fun e w' => ∃ v, e = .returned (.tuple #[v, .int .i64 0]) ∧ Own w' w.heap.size 5 v (l0 ++ beL W n) ∧ Below w.heap.size w w') := by
 have HN := Lib.hid hn
 have HF := Lib.hid hf
 clear hn hf
 go_enter Tryz.func40, Tryz.ntmps40
 have hb : Below w.heap.size w (w.alloc (.cells #[.int .i64 W] 3)) := (Below.refl _ _).alloc (jV _) _
 have c0 := zuD w (.int .i64 (W : Int)) 3
 have cx := zd0 hb hh hx
 have ht2 := ((ht.below hb).more (B' := (w.alloc (.cells #[.int .i64 W] 3)).heap.size) hb.size)
 have hln := ht.len
 go_wp2_with (go_at_call 64; fail)
 refine (zoD W n h8 HN.out w.heap.size h _ c0 cx).mono ?_
 rintro e w1 ⟨rfl, hw1⟩
 subst hw1
 rw [decide_eq_true HF.out]
 go_wp2_with (go_at_call 67; fail)
 refine (zuA A n0 c l0 _ ht2 (by omega)).mono ?_
 rintro e w2 ⟨v2, rfl, hown, b2⟩
 rw [World.size_alloc] at hown
 have hs := b2.size
 rw [World.size_alloc] at hs b2
 have hB := hb.trans (b2.mono (by omega))
 replace c0 := zd0 b2 (by omega) c0
 replace cx := zd0 b2 (by omega) cx
 clear b2 hb
 go_wp2
 go_loopg [8, 26] 1 (fun k v i wr => (k = 1 ∧ i = .int .i64 0 ∧ Own wr (w.heap.size + 1) 5 v l0 ∨ k = 0 ∧ i = .int .i64 1 ∧ Own wr (w.heap.size + 1) 5 v (l0 ++ beL W n)) ∧ wr.cell? ⟨w.heap.size, 0, none⟩ = some (.int .i64 W) ∧ wr.cell? ⟨h, 0, none⟩ = some (.int .u64 n) ∧ w.heap.size + 1 ≤ wr.heap.size ∧ Below w.heap.size w wr)
 case atStart => exact ⟨.inl ⟨rfl, rfl, hown⟩, c0, cx, hs, hB⟩
 case round =>
  clear c0 cx hs hB hown
  obtain ⟨hr, c0, cx, hs, hB⟩ := hrel
  rcases hr with ⟨rfl, rfl, ho⟩ | ⟨rfl, rfl, ho⟩
  ·have HO := Lib.hid ho
   clear ho
   go_wp2_with (go_at_call 68; fail)
   refine (zuB _ l0 (w.heap.size + 1) W n h8 HN.out (by omega) _ HO.out hs).mono ?_
   rintro e w3 ⟨⟨v3, rfl, ho3⟩, b3⟩
   have HO3 := Lib.hid ho3
   replace c0 := zd0 b3 (by omega) c0
   replace cx := zd0 b3 (by omega) cx
   have hs3 := jU hs b3.size
   have hB3 := hB.trans (b3.mono (by omega))
   clear b3 hB hs HO ho3
   go_wp2
   go_roundg 0
   case measure => omega
   case rel => exact ⟨.inr ⟨rfl, rfl, HO3.out⟩, c0, cx, hs3, hB3⟩
  ·have HO := Lib.hid ho
   clear ho
   go_wp2
   go_ret2
   exact ⟨_, rfl, HO.out.mono (by omega), hB⟩
end
section
open Go.RowKit
section
variable {P : Program} {Tb : Tab} {N k k0 ix : Nat} {l : LE} {m : MB} {R : List SF} {o : Oper} {sv : SV} {K : KS} {rs : List RB}
variable {i j n0 n e : Nat}
theorem zm9 {xs : List (List Nat)} {x : List Nat} {ty : Nat} {xop : Operand} (r : Nat) (hj : xs[j]? = some x) (hr : R[r]? = some (.sl i n0 (SlF zb5 xs))) (h32 : x.length = 32) (hb : ∀ y ∈ x, y < 256) (ho : o.op = .slice ty xop none none none) (ht : arK P ty = some (32, 1)) (hx : evS l xop = some (hpS i j 32 0)) : zfv P N k l m R o (.a (.s (.p (.hd k 32)))) [.gone] [.sl k 32 (TxG x)] := fun Q h X a w E H Kk hK => by
 have hfact : St (SlQ zb5 xs (h.r i)) w (X ++ zad (zae h [] m)) := fun w' hk => by
  have h1 : ((h.r i).1 = none → n0 = 0) ∧ SlF zb5 xs (h.r i) w' := H.facts _ (zaQ.2 ⟨_, List.mem_of_getElem? hr, rfl⟩) w' hk
  obtain ⟨mm, hm⟩ := h1.2
  exact ⟨fun e => (hm.nil e).1, h1.2⟩
 obtain ⟨mm, hm⟩ := zog zz5 hfact
 obtain ⟨ad, hA, h1, -⟩ := LiF.get hm hj
 let q : Qd := (some (ad.add (j * 32)), 32)
 let h1' : Hn := ⟨h.b, fun t => if t = k then q else h.r t, h.q⟩
 have er : h1'.r k = q := if_pos rfl
 have hx' : ev (zcd h l) xop = some (.pointer (some (ad.add (j * 32)))) := by
  rw [zaf (h := h) hx]
  show some (Value.pointer (some ((((h.r i).1.getD ⟨0, 0, none⟩).add (j * 32)).add 0))) = _
  rw [hA, zav]
  rfl
 have hrun := zn4 (P := P) (S := zgD) (ws := w) ho ht hx' w (CanB.Keep.refl _ _) a N E
 unfold Oper.wp
 rw [hrun]
 have := hK h1' w (fun t ht => ⟨rfl, if_neg (by simp at ht; omega), rfl⟩) (Frm.refl _ _) (by
  show Sep (X ++ zad (zae h [] m)) [] w w [] (zaT h1' [_])
  refine (Sep.none_ H.xk).refacts fun r hr => ?_
  rcases List.mem_singleton.1 hr with rfl
  rw [show (X ++ zad (zae h [] m)) ++ zad ([] : List Res) = X ++ zad (zae h [] m) by simp [zad]]
  have h2 : St (TxF (some (ad.add (j * 32))) 32 x) w (X ++ zad (zae h [] m)) := zer h1 (by show cl [.key x] = _; rw [zhR, zf1 h32]) (by omega) (by omega) hb
  refine h2.imp fun w' hw => ?_
  show ((h1'.r k).1 = none → 32 = 0) ∧ TxF (h1'.r k).1 (h1'.r k).2 x w'
  rw [er]
  exact ⟨fun e => (by cases e), hw⟩)
 rw [show SV.den h1' (.a (.s (.p (.hd k 32)))) = .slice (some (ad.add (j * 32))) 32 32 by show Value.slice (h1'.r k).1 32 (h1'.r k).2 = _; rw [er]] at this
 exact this
end
end
section
open Go.RowKit
section
variable {X G : List Nat} {w0 : World} {Rr : Ending → World → Prop} {k : Nat} {sv : SV} {m : MB} {R : List SF}
theorem zeJ {sv' : SV} (n : Nat) (F : Qd → World → Prop) (q : Hn → Qd) (hq : ∀ h h' : Hn, AgS (lt_ k) h h' → q h' = q h) (hF : ∀ (h : Hn) (X : List Nat) (w : World), Sp X w (zae h [] m) (zaT h R) → St (fun w => ((q h).1 = none → n = 0) ∧ F (q h) w) w (X ++ zad (zae h [] m))) (he : ∀ h : Hn, h.r k = q h → sv'.den h = sv.den h) (hw : sv'.wf (lt_ (k + 1)) = true) (hk : RetOk X G w0 Rr (k + 1) sv' m (.sl k n F :: R)) : RetOk X G w0 Rr k sv m R := ⟨fun h w ws wm wr H hX => by
 let h3 : Hn := ⟨h.b, fun t => if t = k then q h else h.r t, h.q⟩
 have er : h3.r k = q h := if_pos rfl
 have hag : AgS (lt_ k) h h3 := fun j hj => ⟨rfl, if_neg (by have := zbG hj; omega), rfl⟩
 have eq3 : q h3 = q h := hq h h3 hag
 rw [← SV.same hag ws, ← he h3 (er.trans eq3.symm)]
 have e3 : zae h3 [] m = zae h [] m := zaL hag wm
 refine hk.ok h3 w hw (zc5 (zdf (Nat.le_succ k)) wm) (zaz (Nat.ble_eq_true_of_le (jV _)) (zb6 (zdf (Nat.le_succ k)) wr)) ?_ fun j hj => hX j (by rw [← e3]; exact hj)
 rw [e3]
 refine ⟨H.frm, H.xlt, H.holds, H.apart, H.mine, fun r hr => ?_⟩
 rcases List.mem_cons.1 hr with rfl | hr
 ·have := hF h X w (Sp.of_sep H hX)
  show St (fun w => ((h3.r k).1 = none → n = 0) ∧ F (h3.r k) w) w _
  rw [er]
  exact this
 ·rw [za3 hag wr] at hr
  exact H.facts r hr⟩
end
section
variable {h : Hn} {i : Nat} {g : Nat → List Qd}
end
section
variable {P : Program} {Tb : Tab} {N k : Nat} {l : LE} {m : MB} {R : List SF} {o : Oper} {α : Type} {T : Ty α} [Dec T] {xs : List α} {x : α} {i j off ty e : Nat}
end
theorem Ct.frz {α : Type} {T : Ty α} [Dec T] {P : Program} {f : FuncId} {args : List Value} {X : List Nat} {w : World} {sv : SV} {zs : List α} {e : Nat} (hX : ∀ k ∈ X, k < w.heap.size) (h : Ct P f args X w sv [zba T zs e] [.q 0 (zbS T zs)]) : Ct P f args X w sv [.gone] [.sl 0 zs.length (SlF T zs)] := by
 refine Calls.mono h ?_
 rintro e w' ⟨h, rfl, S⟩
 have hmx : ∀ k ∈ zad (zae h [] [(0, zba T zs e)]), k ∉ X := fun k hk hm => by
  have h1 := hX k hm
  have h2 := (S.mine k hk).resolve_left (by simp)
  omega
 obtain ⟨h1, h2⟩ := zke (h := h) (m := [(0, zba T zs e)]) (R := [.q 0 (zbS T zs)]) (i := 0) rfl (.head _) (Sp.of_sep (show Sep X [] w w' (zae h [] [(0, zba T zs e)]) _ from S) hmx)
 exact ⟨h, rfl, S.frm, S.xlt, h1.holds, h1.apart, fun j hj => S.mine j (h2 j hj), fun r hr => h1.facts r (by rcases List.mem_singleton.1 hr with rfl; exact List.mem_cons_self ..)⟩
end
section
open Go.RowKit
def nd (o : Oper) : Bool := match o.op with | .defer _ => false | _ => true
theorem zFi {o : Oper} (h : nd o = true) : ∀ c, o.op ≠ .defer c := fun c e => by unfold nd at h; rw [e] at h; cases h
theorem zuE {r : Option Nat} {ρ : Operand → Value} {o : Oper} (h : nd o = true) : Oper.semAt r ρ o = execOp ρ o := by
 cases r with
 | none => rfl
 | some l => exact Oper.semAt_some l _ _ (zFi h)
abbrev dfr (ds : List Deferred) (a : Act) : Act := { a with defers := ds }
section
variable {P : Program} {r : Option Nat} {n : Nat} {ds : List Deferred}
abbrev zbK (r : Option Nat) : Fence := { Fence.wide with round := r }
theorem ziv (a : Act) (d : Option Tmp) (v : Value) : (dfr ds a).put d v = dfr ds (a.put d v) := by cases d <;> rfl
theorem zqn (a : Act) (x : Operand) : (dfr ds a).eval x = a.eval x := by cases x <;> rfl
theorem zFj {o : Oper} {a : Act} {w : World} {K K' : Act → World → Prop} {Q Q' : Exit → Act → World → Prop} (hd : nd o = true) (h : o.wp P a w K Q) (hK : ∀ a w, K a w → a.defers = [] ∧ K' (dfr ds a) w) (hQ : ∀ e a w, Q e a w → Q' e (dfr ds a) w) : o.wpIn (zbK r) n P (dfr ds a) w K' Q' := by
 refine ⟨fun _ _ => trivial, ?_⟩
 rw [zuE hd, show (dfr ds a).eval = a.eval from funext (zqn a)]
 unfold Oper.wp at h
 have hL : LetsOut Q → LetsOut Q' := fun ⟨a, w, hq⟩ => ⟨_, w, hQ _ _ _ hq⟩
 revert h
 generalize (execOp a.eval o).run P w = res
 intro h
 have hdep : (zbK r).depth.isSome = true → 1 ≤ n := fun e => by cases e
 cases res with
 | ok x w' =>
  cases x with
  | value v => show K' _ _; rw [ziv]; exact (hK _ _ h).2
  | skip => show K' _ _; rw [ziv]; exact (hK _ _ h).2
  | enter f args =>
   refine ⟨hdep, trivial, fun cs hr => ?_⟩
   obtain ⟨e, w2, fr, hR, hs, hx⟩ := (callsIn_wide (n := n - 1)).2 h |>.2 cs (room_wide _)
   refine ⟨e, w2, fr, ?_, hs, hx⟩
   cases e with
   | returned v => show K' _ _; rw [ziv]; exact (hK _ _ hR).2
   | panicked c => exact hQ _ _ _ hR
   | outgrown => exact hL hR
  | row row args =>
   refine ⟨hdep, fun c cs hr => ?_⟩
   obtain ⟨v, w2, hR, hs⟩ := h c cs
   refine ⟨v, w2, ?_, stepsIn_wide.2 hs⟩
   show K' _ _
   rw [ziv]
   exact (hK _ _ hR).2
  | defer d =>
   have h1 := (hK _ _ h).1
   have : ({ a with defers := d :: a.defers }.put o.dst undef).defers = d :: a.defers := by cases o.dst <;> rfl
   rw [this] at h1
   cases h1
  | round l f tmps assign body => exact h.elim
  | recover => exact h.elim
  | spawn d => exact h.elim
  | _ => exact h.elim
 | halt x w' =>
  cases x with
  | panic v => exact hQ _ _ _ h
  | _ => exact h.elim
variable {T : Tab} {N : Nat} {X G : List Nat} {w0 : World} {Q : Exit → Act → World → Prop}
theorem zhD (hT : zbC P T) {K : KS} {ops : Array Oper} {os2 : List Oper} : ∀ {os : List Oper} {k : Nat} {l : LE} {m : MB} {R : List SF} {h : Hn} {a : Act} {w : World}, os.all nd = true → zr5 P T N ops os k l m R K → VSt N X G w0 k l m R h a w → (∀ k' l' m' R' h' a' w', K k' l' m' R' → VSt N X G w0 k' l' m' R' h' a' w' → wpListIn (zbK r) n P ops Q os2 (dfr ds a') w') → wpListIn (zbK r) n P ops Q (os ++ os2) (dfr ds a) w
 | [], k, l, m, R, h, a, w, _, hv, H, hK => hK k l m R h a w hv H
 | o :: os, k, l, m, R, h, a, w, hnd, hv, H, hK => by
  have hnd2 : nd o = true ∧ os.all nd = true := by simpa using hnd
  unfold zr5 at hv
  split at hv
  ·rename_i b hg
   have hw := zdT (h := h) H.env hg
   show wpListIn (zbK r) n P ops Q (o :: (os ++ os2)) (dfr ds a) w
   unfold wpListIn
   cases b with
   | true =>
    simp only [cond_true] at hv
    rw [if_pos hw]
    exact zFj (K := fun a' w' => ∃ k' l' m' R' h', zr5 P T N ops os k' l' m' R' K ∧ VSt N X G w0 k' l' m' R' h' a' w') (Q := fun _ _ _ => False) hnd2.1 (zmi hT hv H fun k' l' m' R' h' a' w' hk HV => ⟨_, _, _, _, _, hk, HV⟩) (fun a' w' ⟨k', l', m', R', h', h1, h2⟩ => ⟨h2.env.defers, zhD hT hnd2.2 h1 h2 hK⟩) fun _ _ _ hq => hq.elim
   | false =>
    simp only [cond_false] at hv
    rw [if_neg (by rw [hw]; decide)]
    obtain ⟨l', h1, h2⟩ := H.put (sv := zeq undef) rfl hv
    refine ⟨fun _ _ => trivial, ?_⟩
    rw [ziv]
    exact zhD hT hnd2.2 h1 h2 hK
  ·exact hv.elim
theorem zBo (hT : zbC P T) {K : KS} {ops : Array Oper} {os : List Oper} {k : Nat} {l : LE} {m : MB} {R : List SF} {h : Hn} {a : Act} {w : World} (hn : os.all nd = true) (hv : zr5 P T N ops os k l m R K) (H : VSt N X G w0 k l m R h a w) (hK : ∀ k' l' m' R' h' a' w', K k' l' m' R' → VSt N X G w0 k' l' m' R' h' a' w' → Q .normal (dfr ds a') w') : wpListIn (zbK r) n P ops Q os (dfr ds a) w := by
 have := zhD (r := r) (n := n) (ds := ds) (os2 := []) hT hn hv H hK
 rwa [List.append_nil] at this
def znP : Code → Bool
 | .skip => true
 | .region _ ops dr => bif dr then false else ops.toList.all nd
 | .seq x y => bif znP x then znP y else false
 | .cond _ x y => bif znP x then znP y else false
 | .block _ c => znP c
 | .exit _ => true
 | .ret => true
 | _ => false
theorem zkC (hT : zbC P T) : ∀ (c : Code) {k : Nat} {l : LE} {m : MB} {R : List SF} {Kn : KS} {Kx : Nat → KS} {Kr : KS} {Q : Exit → Act → World → Prop} {h : Hn} {a : Act} {w : World}, znP c = true → vC P T N c k l m R Kn Kx Kr → VSt N X G w0 k l m R h a w →
  (∀ k l m R h a w, Kn k l m R → VSt N X G w0 k l m R h a w → Q .normal (dfr ds a) w) → (∀ j k l m R h a w, Kx j k l m R → VSt N X G w0 k l m R h a w → Q (.exit j) (dfr ds a) w) → (∀ k l m R h a w, Kr k l m R → VSt N X G w0 k l m R h a w → Q .ret (dfr ds a) w) → c.wpIn (zbK r) n P Q (dfr ds a) w
 | .skip, k, l, m, R, Kn, Kx, Kr, Q, h, a, w, _, hv, H, hn, hx, hr => wpIn_skip (hn _ _ _ _ _ _ _ hv H)
 | .region id ops dr, k, l, m, R, Kn, Kx, Kr, Q, h, a, w, hs, hv, H, hn, hx, hr => by
  unfold vC at hv
  unfold znP at hs
  obtain ⟨lo⟩ := ops
  cases dr with
  | true => cases hs
  | false => exact wpIn_region_lit (zBo hT hs hv H hn)
 | .seq x y, k, l, m, R, Kn, Kx, Kr, Q, h, a, w, hs, hv, H, hn, hx, hr => by
  unfold znP at hs
  have hs2 := zab hs
  have direct : vC P T N x k l m R (fun k l m R => vC P T N y k l m R Kn Kx Kr) Kx Kr → (Code.seq x y).wpIn (zbK r) n P Q (dfr ds a) w := fun hv =>
   wpIn_seq (zkC hT x hs2.1 hv H (fun k l m R h a w hk HV => zkC hT y hs2.2 hk HV hn hx hr) (fun j k l m R h a w hk HV => hx j k l m R h a w hk HV) fun k l m R h a w hk HV => hr k l m R h a w hk HV)
  unfold vC at hv
  cases hb : Nat.ble 2 (nrm x) with
  | false => rw [hb] at hv; exact direct hv
  | true =>
   rw [hb] at hv
   rcases hv with hv | ⟨γ, I, φ, hv, hg⟩
   ·exact direct hv
   ·exact wpIn_seq (zkC hT x hs2.1 hv H (fun k' l' m' R' h' a' w' hk HV => by
     obtain ⟨g, l2, h2, h3, _, h5, h4⟩ := HV.gen hk hg
     exact zkC hT y hs2.2 h5 h4 hn hx hr) (fun j k l m R h a w hk HV => hx j k l m R h a w hk HV) fun k l m R h a w hk HV => hr k l m R h a w hk HV)
 | .cond c x y, k, l, m, R, Kn, Kx, Kr, Q, h, a, w, hs, hv, H, hn, hx, hr => by
  unfold znP at hs
  have hs2 := zab hs
  unfold vC at hv
  split at hv
  ·rename_i b hb
   have hc := H.env.ev (zaf (h := h) (zet hb))
   rw [← zqn (ds := ds)] at hc
   cases b with
   | true => exact wpIn_cond_true hc (zkC hT x hs2.1 hv H hn hx hr)
   | false => exact wpIn_cond_false hc (zkC hT y hs2.2 hv H hn hx hr)
  ·exact hv.elim
 | .block id c, k, l, m, R, Kn, Kx, Kr, Q, h, a, w, hs, hv, H, hn, hx, hr => wpIn_block (zkC hT c hs hv H (fun k l m R h a w hk HV => hn k l m R h a w hk HV) (fun j k l m R h a w hk HV => by
   show if j = id then _ else _
   by_cases e : j = id
   ·subst e
    rw [if_pos rfl]
    rw [Nat.beq_refl] at hk
    exact hn k l m R h a w hk HV
   ·rw [if_neg e]
    have hb : Nat.beq j id = false := by cases hb : Nat.beq j id with | false => rfl | true => exact absurd (Nat.eq_of_beq_eq_true hb) e
    rw [hb] at hk
    exact hx j k l m R h a w hk HV) fun k l m R h a w hk HV => hr k l m R h a w hk HV)
 | .exit id, k, l, m, R, Kn, Kx, Kr, Q, h, a, w, _, hv, H, hn, hx, hr => wpIn_exit (hx _ _ _ _ _ _ _ _ hv H)
 | .ret, k, l, m, R, Kn, Kx, Kr, Q, h, a, w, _, hv, H, hn, hx, hr => wpIn_ret (hr _ _ _ _ _ _ _ hv H)
 | .loop _, _, _, _, _, _, _, _, _, _, _, _, hs, _, _, _, _, _ => by cases hs
 | .rangeFunc _ _ _ _, _, _, _, _, _, _, _, _, _, _, _, hs, _, _, _, _, _ => by cases hs
 | .scope _, _, _, _, _, _, _, _, _, _, _, _, hs, _, _, _, _, _ => by cases hs
 | .label _, _, _, _, _, _, _, _, _, _, _, _, hs, _, _, _, _, _ => by cases hs
 | .goto _, _, _, _, _, _, _, _, _, _, _, _, hs, _, _, _, _, _ => by cases hs
 | .refuse _, _, _, _, _, _, _, _, _, _, _, _, hs, _, _, _, _, _ => by cases hs
theorem VSt.anew {k : Nat} {l : LE} {m : MB} {R R' : List SF} {h : Hn} {a : Act} {w : World} {L : Nat} {o : Obj} (H : VSt N [] G w0 k l m R h a w) (hL : L ∉ zad (zae h [] m)) (hR : ∀ r ∈ zaT h R', ∀ w, r w) (hw : wfR (lt_ k) R' = true) : VSt N [] (zad (zae h [] m)) (w.putObj L o) k l m R' h a (w.putObj L o) := by
 refine ⟨H.env, ⟨fun _ hk => (by cases hk), fun q hq => ?_, H.sp.apart, fun _ _ hk => (by cases hk), fun r hr w' _ => hR r hr w'⟩, Frm.refl _ _, fun j hj => .inl hj, H.wl, H.wm, hw⟩
 exact zbx (H.sp.holds q hq) fun j hj => World.putObj_heap_other fun e => hL (by first | (rw [e]; exact zbL.2 ⟨q, hq, hj⟩) | (rw [← e]; exact zbL.2 ⟨q, hq, hj⟩))
theorem zgU {a : Act} (h : a.defers = []) : dfr [] a = a := by cases a; subst h; rfl
theorem zfr (hT : zbC P T) (c : Code) {k : Nat} {l : LE} {m : MB} {R : List SF} {Kn : KS} {Kx : Nat → KS} {Kr : KS} {Q : Exit → Act → World → Prop} {h : Hn} {a : Act} {w : World} (hs : znP c = true) (hv : vC P T N c k l m R Kn Kx Kr) (H : VSt N X G w0 k l m R h a w)
  (hn : ∀ k l m R h a w, Kn k l m R → VSt N X G w0 k l m R h a w → Q .normal a w) (hx : ∀ j k l m R h a w, Kx j k l m R → VSt N X G w0 k l m R h a w → Q (.exit j) a w) (hr : ∀ k l m R h a w, Kr k l m R → VSt N X G w0 k l m R h a w → Q .ret a w) : c.wpIn (zbK r) n P Q a w := by
 have := zkC (r := r) (n := n) (ds := []) (Q := Q) hT c hs hv H (fun k l m R h a w hk HV => by rw [zgU HV.env.defers]; exact hn _ _ _ _ _ _ _ hk HV) (fun j k l m R h a w hk HV => by rw [zgU HV.env.defers]; exact hx _ _ _ _ _ _ _ _ hk HV) fun k l m R h a w hk HV => by rw [zgU HV.env.defers]; exact hr _ _ _ _ _ _ _ hk HV
 rwa [zgU H.env.defers] at this
theorem zxS (hT : zbC P T) {K : KS} {ops : Array Oper} {os os2 : List Oper} {k : Nat} {l : LE} {m : MB} {R : List SF} {h : Hn} {a : Act} {w : World} (hn : os.all nd = true) (hv : zr5 P T N ops os k l m R K) (H : VSt N X G w0 k l m R h a w) (hK : ∀ k' l' m' R' h' a' w', K k' l' m' R' → VSt N X G w0 k' l' m' R' h' a' w' → wpListIn (zbK r) n P ops Q os2 a' w') : wpListIn (zbK r) n P ops Q (os ++ os2) a w := by
 have := zhD (r := r) (n := n) (ds := []) (Q := Q) (os2 := os2) hT hn hv H fun k l m R h a w hk HV => by rw [zgU HV.env.defers]; exact hK _ _ _ _ _ _ _ hk HV
 rwa [zgU H.env.defers] at this
theorem zoE {f : FuncId} {fn : Func} {c : Code} {args : Array Value} {w : World} {R : Ending → World → Prop} {m : Nat} (hn : fn.ntmps = N) (hf : P.funcs[f]? = some fn) (hb : fn.body = some c) (hs : Nat.ble args.size N = true) (h : ∀ a, Env a N (zjH 0 args.toList) → c.wpIn (zbK none) m P (bodyPost P fn R) a w) : CallsIn (zbK none) m P f args w R :=
 callsIn_of_wp hf hb trivial (by subst hn; exact h _ (Env.start _ hs rfl))
theorem zna {f : FuncId} {fn : Func} {c : Code} {args : Array Value} {w : World} {R : Ending → World → Prop} {m : Nat} (hn : fn.ntmps = N) (hf : P.funcs[f]? = some fn) (hb : fn.body = some c) (hs : Nat.ble args.size N = true) (h : ∀ a, Env a N (zjH 0 args.toList) → c.wpIn (zbK none) m P (bodyPostM (zbK none) m P fn R) a w) : CallsIn (zbK none) m P f args w R :=
 callsIn_of_wp_marks hf hb trivial (by subst hn; exact h _ (Env.start _ hs rfl))
theorem zoF (i : Nat) (hT : zbC P T) {K : KS} {ops : Array Oper} {os : List Oper} {k : Nat} {l : LE} {m : MB} {R : List SF} {h : Hn} {a : Act} {w : World} (H : VSt N X G w0 k l m R h a w) (hn : (os.take i).all nd = true) (hv : zr5 P T N ops (os.take i) k l m R K) (hK : ∀ k' l' m' R' h' a' w', K k' l' m' R' → VSt N X G w0 k' l' m' R' h' a' w' → wpListIn (zbK r) n P ops Q (os.drop i) a' w') : wpListIn (zbK r) n P ops Q os a w := by
 have := zxS hT hn hv H hK
 rwa [List.take_append_drop] at this
abbrev noX : Nat → KS := fun _ _ _ _ _ => False
theorem zDM (hT : zbC P T) (A B C D : Code) {Rg Tl : Code} {k : Nat} {l : LE} {m : MB} {R : List SF} {Kn Kr : KS} {h : Hn} {a : Act} {w : World} (hA : znP A = true) (hB : znP B = true) (hC : znP C = true) (hD : znP D = true)
  (hv : vC P T N A k l m R (fun k l m R => vC P T N B k l m R (fun k l m R => vC P T N C k l m R (fun k l m R => vC P T N D k l m R Kn noX Kr) noX Kr) noX Kr) noX Kr) (H : VSt N X G w0 k l m R h a w)
  (hn : ∀ k l m R h a w, Kn k l m R → VSt N X G w0 k l m R h a w → Rg.wpIn (zbK r) n P (Exit.then (Tl.wpIn (zbK r) n P Q) Q) a w) (hr : ∀ k l m R h a w, Kr k l m R → VSt N X G w0 k l m R h a w → Q .ret a w) : (A.seq (B.seq (C.seq ((D.seq Rg).seq Tl)))).wpIn (zbK r) n P Q a w :=
 wpIn_seq (zfr hT A hA hv H (fun _ _ _ _ _ _ _ hv H => wpIn_seq (zfr hT B hB hv H (fun _ _ _ _ _ _ _ hv H => wpIn_seq (zfr hT C hC hv H (fun _ _ _ _ _ _ _ hv H => wpIn_seq (wpIn_seq (zfr hT D hD hv H hn (fun _ _ _ _ _ _ _ _ hk _ => hk.elim) hr))) (fun _ _ _ _ _ _ _ _ hk _ => hk.elim) hr)) (fun _ _ _ _ _ _ _ _ hk _ => hk.elim) hr)) (fun _ _ _ _ _ _ _ _ hk _ => hk.elim) hr)
end
end
section
open Go.RowKit
structure Kept (n : Nat) (A B : World) : Prop where
 os : B.os = A.os
 tape : B.tape = A.tape
 output : B.output = A.output
 size : A.heap.size ≤ B.heap.size
 block : ∀ k, k < n → B.heap[k]? = A.heap[k]?
theorem Kept.refl (n : Nat) (A : World) : Kept n A A := ⟨rfl, rfl, rfl, jV _, fun _ _ => rfl⟩
theorem Kept.trans {n : Nat} {A B C : World} (h : Kept n A B) (k : Kept n B C) : Kept n A C := ⟨k.os.trans h.os, k.tape.trans h.tape, k.output.trans h.output, jU h.size k.size, fun i hi => (k.block i hi).trans (h.block i hi)⟩
theorem Kept.mono {n m : Nat} {A B : World} (h : Kept n A B) (hm : m ≤ n) : Kept m A B := ⟨h.os, h.tape, h.output, h.size, fun i hi => h.block i (jT hi hm)⟩
theorem Kept.put {n l : Nat} {A : World} {o : Obj} (hl : n ≤ l) : Kept n A (A.putObj l o) := ⟨rfl, rfl, rfl, by simp [World.putObj], fun i hi => World.putObj_heap_other (by omega)⟩
theorem Kept.alloc {n : Nat} {A : World} {o : Obj} (hn : n ≤ A.heap.size) : Kept n A (A.alloc o) := ⟨rfl, rfl, rfl, by rw [World.size_alloc]; omega, fun i hi => by
 show (A.heap.push o)[i]? = _
 rw [Array.getElem?_push_lt (by omega)]
 exact (Array.getElem?_eq_getElem (by omega)).symm⟩
def zzo (I : World → Prop) (Ix : Code → World → Prop) (D l : Nat) (A : World) : Exit → Act → World → Prop
 | .normal, _, B => I B ∧ B.heap[l]? = A.heap[l]? ∧ B.heap[D]? = A.heap[D]?
 | .ret, _, B => Ix .ret B ∧ B.heap[l]? = A.heap[l]? ∧ B.heap[D]? = A.heap[D]?
 | _, _, _ => False
abbrev zgV (a : Act) (D : Nat) : Act := { a with defers := { target := .collected D, args := #[] } :: a.defers }
theorem zuF {P : Program} {n : Nat} {g : Operand} {ps : Array Tmp} {assign body : Code} {Q : Exit → Act → World → Prop} {a : Act} {w : World} {gf : Nat} {lb : Array Value}
  (hg : a.eval g = .func (.func gf) #[] lb) (eg : ∀ args w, (callFunc gf args).run P w = .ok (.enter gf args) w)
  {N : Nat} {encs : Nat → Array Value} (hps : ∀ i, (encs i).size = ps.size) (I : Nat → World → Prop) (Ix : Code → World → Prop)
  (hI : ∀ i A B, Kept w.heap.size A B → I i A → I i B) (hIx : ∀ c A B, Kept w.heap.size A B → Ix c A → Ix c B) (h0 : I 0 w)
  (hseq : ∀ (l : Nat) (J : Nat → World → Prop) (Jx : World → Prop) (W : World), (∀ i A, J i A → I i A) → (∀ i A B, Kept A.heap.size A B → J i A → J i B) → (∀ A B, Kept A.heap.size A B → Jx A → Jx B) →
   (∀ i A, i < N → J i A → YieldAt (zbK none) (n - 1 - 1) P l (encs i) A fun e B => (e = .returned (.bool true) ∧ J (i + 1) B) ∨ (e = .returned (.bool false) ∧ Jx B)) → J 0 W →
   CallsIn (zbK none) (n - 1) P gf (#[.func (.yield l) #[] #[]] ++ lb) W fun e B => (∃ v, e = .returned v) ∧ (J N B ∨ Jx B))
  (hround : ∀ (i : Nat) (A : World), i < N → I i A → w.heap.size + 2 ≤ A.heap.size →
   assign.wpIn (zbK (some (w.heap.size + 1))) (n - 1 - 1) P (Exit.then (fun a1 A1 => (A1.heap[w.heap.size + 1]? = A.heap[w.heap.size + 1]? ∧ A1.heap[w.heap.size]? = A.heap[w.heap.size]?) ∧
    ∀ o, body.wpIn (zbK (some (w.heap.size + 1))) (n - 1 - 1) P (zzo (I (i + 1)) Ix w.heap.size (w.heap.size + 1) (A1.putObj (w.heap.size + 1) o)) a1 (A1.putObj (w.heap.size + 1) o)) (fun _ _ _ => False))
    { tmps := (ps.zip (encs i)).foldl (fun t (p, v) => t.setIfInBounds p v) a.tmps, defers := [] } A)
  (hdone : ∀ W, I N W → W.heap[w.heap.size]? = some (.deferred (some [])) → w.heap.size < W.heap.size → Q .normal (zgV a w.heap.size) W)
  (hstop : ∀ c W, Ix c W → W.heap[w.heap.size]? = some (.deferred (some [])) → c.wpIn (zbK none) n P Q (zgV a w.heap.size) W) :
  (Code.rangeFunc g ps assign body).wpIn (zbK none) n P Q a w := by
 refine wpIn_rangeFunc ?_
 intro fn hfn
 obtain ⟨rec, hrec⟩ : ∃ rec : LoopState → Option Code → Loop, rec = fun st pe => { state := st, pending := pe, fn, tmps := a.tmps, params := ps, assign, body, defers := w.heap.size } := ⟨_, rfl⟩
 obtain ⟨W1, hW1⟩ : ∃ W1, (w.alloc (.deferred (some []))).alloc (.loop (rec .ready none)) = W1 := ⟨_, rfl⟩
 have hL1 : W1.heap[w.heap.size + 1]? = some (.loop (rec .ready none)) := by
  rw [← hW1]; have := World.alloc_heap_new (w.alloc (.deferred (some []))) (.loop (rec .ready none)); rwa [World.size_alloc] at this
 have hK1 : W1.heap[w.heap.size]? = some (.deferred (some [])) := by
  rw [← hW1]; exact (Below.heap_alloc _ _ _ (by simp)).trans (World.alloc_heap_new w _)
 have hk1 : Kept w.heap.size w W1 := by
  rw [← hW1]; exact (Kept.alloc (jV _)).trans (Kept.alloc (by simp))
 have hI1 : I 0 W1 := hI _ _ _ hk1 h0
 refine ⟨w.heap.size + 1, [{ target := .collected w.heap.size, args := #[] }], W1, { target := .fn (.func gf) lb, args := #[.func (.yield (w.heap.size + 1)) #[] #[]] }, W1, gf,
  #[.func (.yield (w.heap.size + 1)) #[] #[]] ++ lb, W1, ?_, ?_, ?_, ?_, fun e => (by cases e), ?_⟩
 ·rw [← hW1, hrec]; exact run_enterLoop_outer _ _ _ _ _
 ·simp only [resolve, hg]
  simp [go_sem]
 ·intro f' hf'; trivial
 ·simp [invoke, go_sem, eg]
 ·refine (hseq (w.heap.size + 1)
   (fun i W => I i W ∧ W.heap[w.heap.size + 1]? = some (.loop (rec .ready none)) ∧ W.heap[w.heap.size]? = some (.deferred (some [])) ∧ w.heap.size + 2 ≤ W.heap.size)
   (fun W => ∃ c, Ix c W ∧ W.heap[w.heap.size + 1]? = some (.loop (rec .done (some c))) ∧ W.heap[w.heap.size]? = some (.deferred (some [])) ∧ w.heap.size + 2 ≤ W.heap.size)
   W1 (fun i A h => h.1) (fun i A B hk ⟨h1, h2, h3, h4⟩ => ⟨hI _ _ _ (hk.mono (by omega)) h1, (hk.block _ (by omega)).trans h2, (hk.block _ (by omega)).trans h3, jU h4 hk.size⟩)
   (fun A B hk ⟨c, h1, h2, h3, h4⟩ => ⟨c, hIx _ _ _ (hk.mono (by omega)) h1, (hk.block _ (by omega)).trans h2, (hk.block _ (by omega)).trans h3, jU h4 hk.size⟩)
   ?_ ⟨hI1, hL1, hK1, by rw [← hW1]; simp⟩).mono ?_
  ·rintro i W hiN ⟨hi, hl, hk, hsz⟩
   have hy := run_yield (P := P) (args := encs i) hl (by rw [hrec]; exact hps i)
   rw [hrec] at hy
   refine ⟨fn, _, assign, body, hy, roundIn_of_wpIn hfn (wpIn_mono (hround i W hiN hi hsz) ?_)⟩
   rintro e a1 A1 hq
   cases e with
   | normal =>
    obtain ⟨⟨hl1, hk1⟩, hb⟩ := hq
    have hlA := hl1.trans hl
    have hlt : w.heap.size + 1 < A1.heap.size := (Array.getElem?_eq_some_iff.1 hlA).1
    refine ⟨_, run_beginRound hlA (by rw [hrec]), ?_⟩
    have hl2 : (A1.putObj (w.heap.size + 1) (.loop { rec .ready none with state := .busy })).heap[w.heap.size + 1]? = some (.loop { rec .ready none with state := .busy }) := World.putObj_heap_same hlt
    have hk2 : (A1.putObj (w.heap.size + 1) (.loop { rec .ready none with state := .busy })).heap[w.heap.size]? = some (.deferred (some [])) := (World.putObj_heap_other (by omega)).trans (hk1.trans hk)
    refine wpIn_mono (hb _) ?_
    rintro e a3 W3 hp
    have fin : ∀ (jump : Option Code), W3.heap[w.heap.size + 1]? = some (.loop { rec .ready none with state := .busy }) → W3.heap[w.heap.size]? = some (.deferred (some [])) →
      (Instr.endRound (w.heap.size + 1) jump).run P W3 = .ok (.bool jump.isNone) (W3.putObj (w.heap.size + 1) (.loop (rec (if jump.isNone then .ready else .done) jump))) ∧
      (W3.putObj (w.heap.size + 1) (.loop (rec (if jump.isNone then .ready else .done) jump))).heap[w.heap.size + 1]? = some (.loop (rec (if jump.isNone then .ready else .done) jump)) ∧
      (W3.putObj (w.heap.size + 1) (.loop (rec (if jump.isNone then .ready else .done) jump))).heap[w.heap.size]? = some (.deferred (some [])) ∧ w.heap.size + 2 ≤ (W3.putObj (w.heap.size + 1) (.loop (rec (if jump.isNone then .ready else .done) jump))).heap.size := fun jump hl3 hk3 => by
     have := run_endRound (P := P) jump hl3
     have hlt3 := (Array.getElem?_eq_some_iff.1 hl3).1
     rw [hrec] at this ⊢
     exact ⟨this, World.putObj_heap_same hlt3, (World.putObj_heap_other (by omega)).trans hk3, by simp [World.putObj]; omega⟩
    cases e with
    | normal =>
     obtain ⟨hi3, hl3, hk3⟩ := hp
     obtain ⟨hr, h4, h5, h6⟩ := fin none (hl3.trans hl2) (hk3.trans hk2)
     exact ⟨_, _, hr, .inl ⟨rfl, hI _ _ _ (Kept.put (by omega)) hi3, h4, h5, h6⟩⟩
    | ret =>
     obtain ⟨hi3, hl3, hk3⟩ := hp
     obtain ⟨hr, h4, h5, h6⟩ := fin (some .ret) (hl3.trans hl2) (hk3.trans hk2)
     exact ⟨_, _, hr, .inr ⟨rfl, .ret, hIx _ _ _ (Kept.put (by omega)) hi3, h4, h5, h6⟩⟩
    | exit id => exact hp.elim
    | goto t => exact hp.elim
    | panic ch => exact hp.elim
    | outgrown => exact hp.elim
   | exit id => exact hq.elim
   | goto t => exact hq.elim
   | ret => exact hq.elim
   | panic ch => exact hq.elim
   | outgrown => exact hq.elim
  ·rintro e W2 ⟨⟨v, rfl⟩, (⟨hi, hl, hk, hs⟩ | ⟨c, hi, hl, hk, hs⟩)⟩
   ·exact ⟨none, _, by have := run_endLoop (P := P) hl (by rw [hrec]; simp); rw [hrec] at this; exact this, hdone _ (hI _ _ _ (Kept.put (by omega)) hi) ((World.putObj_heap_other (by omega)).trans hk) (by simp [World.putObj]; omega)⟩
   ·exact ⟨some c, _, by have := run_endLoop (P := P) hl (by rw [hrec]; simp); rw [hrec] at this; exact this, hstop c _ (hIx _ _ _ (Kept.put (by omega)) hi) ((World.putObj_heap_other (by omega)).trans hk)⟩
theorem zxT {P : Program} {n lo : Nat} {o : Oper} {a : Act} {w : World} {K : Act → World → Prop} {Q : Exit → Act → World → Prop} {x : Operand} {xs : Array Operand} {ts : Array TypeId} {args : Array Value} {fn : Nat} {tmps : Array Value} {cA cB : Code} {R : Ending → World → Prop}
  (ho : o.op = .call { callee := .value x, args := xs, argTypes := ts }) (hx : a.eval x = .func (.yield lo) #[] #[]) (ha : xs.map a.eval = args) (hr : (Instr.yield lo args).run P w = .ok (.round lo fn tmps cA cB) w)
  (hR : RoundIn (zbK none) (n - 1) P lo fn tmps cA cB w R) (hK : ∀ e w', R e w' → ∃ v, e = .returned v ∧ K (a.put o.dst v) w') : o.wpIn (zbK none) n P a w K Q := by
 refine ⟨fun _ _ => trivial, ?_⟩
 have : (Oper.semAt (zbK none).round a.eval o).run P w = .ok (.round lo fn tmps cA cB) w := by
  show (execOp a.eval o).run P w = _
  unfold execOp
  rw [ho]
  simp only [resolve, Sem.run_bind, hx, ha, Deferred.ofValue, Sem.run_pure, Result.andThen_ok, invoke, Array.empty_append]
  exact hr
 rw [this]
 refine ⟨fun e => (by cases e), hR.mono fun e w' h => ?_⟩
 obtain ⟨v, rfl, hk⟩ := hK e w' h
 exact hk
theorem zzp {S : Nat → Bool} : ∀ {R1 : List SF}, (∀ x ∈ R1, x.wf S = true) → wfR S R1 = true
 | [], _ => rfl
 | x :: R1, h => zaz (h x (List.mem_cons_self ..)) (zzp fun y hy => h y (List.mem_cons_of_mem _ hy))
theorem Frm.putL {G : List Nat} {A : World} {L : Nat} {o : Obj} : Frm (L :: G) A (A.putObj L o) := ⟨rfl, rfl, rfl, by simp [World.putObj], fun k hk hn => World.putObj_heap_other fun e => hn (by first | (rw [e]; exact List.mem_cons_self ..) | (rw [← e]; exact List.mem_cons_self ..))⟩
theorem Frm.wide {G G' : List Nat} {A B : World} (h : Frm G A B) (hG : ∀ k ∈ G, k ∈ G') : Frm G' A B := ⟨h.os, h.tape, h.output, h.size, fun k hk hn => h.block k hk fun hm => hn (hG k hm)⟩
theorem zxU {P : Program} {T : Tab} {N : Nat} {r : Option Nat} {n : Nat} {As Bd : Code} {G : List Nat} {k : Nat} {l : LE} {m : MB} {R : List SF} {h : Hn} {a : Act} {A : World} {Kn Kr : KS} {I : World → Prop} {Ix : Code → World → Prop} {L D : Nat} (R1 : List SF) (hT : zbC P T) (hsA : znP As = true) (hsB : znP Bd = true) (hL : L ∉ G) (hLw : L < A.heap.size) (hD : D ∉ G) (hDL : D < L) (H : VSt N [] G A k l m R h a A)
  (hv : vC P T N As k l m R (fun k' l' m' R' => (∀ x ∈ R1, x ∈ R') ∧ vC P T N Bd k' l' m' R1 Kn noX Kr) noX (fun _ _ _ _ => False)) (hR1 : ∀ (h : Hn) (r : World → Prop), r ∈ zaT h R1 → ∀ w w', r w → r w')
  (hn : ∀ k l m R h B, Kn k l m R → Sp [] B (zae h [] m) (zaT h R) → Frm (L :: G) A B → I B) (hr : ∀ k l m R h B, Kr k l m R → Sp [] B (zae h [] m) (zaT h R) → Frm (L :: G) A B → Ix .ret B) :
  As.wpIn (zbK r) n P (Exit.then (fun a1 A1 => (A1.heap[L]? = A.heap[L]? ∧ A1.heap[D]? = A.heap[D]?) ∧ ∀ o, Bd.wpIn (zbK r) n P (zzo I Ix D L (A1.putObj L o)) a1 (A1.putObj L o)) (fun _ _ _ => False)) a A := by
 refine zfr hT As hsA hv H (fun k' l' m' R' h' a' A1 ⟨hsub, hb⟩ H1 => ⟨⟨H1.frm.block L hLw hL, H1.frm.block D (by omega) hD⟩, fun o => ?_⟩) (fun _ _ _ _ _ _ _ _ hk _ => hk.elim) fun _ _ _ _ _ _ _ hk _ => hk.elim
 have hk1 : ∀ j, j < A.heap.size → j ∉ G → j ∉ zad (zae h' [] m') := fun j hj hg hm => (H1.mine j hm).elim hg (by omega)
 have hA2 : (A1.putObj L o).heap.size = A1.heap.size := by simp [World.putObj]
 have hs1 := H1.frm.size
 have fr : ∀ B, Frm (zad (zae h' [] m')) (A1.putObj L o) B → Frm (L :: G) A B := fun B hB =>
  (((H1.frm.wide (fun k hk => List.mem_cons_of_mem _ hk)).trans (Frm.putL (G := [])) (fun k hk => by rcases List.mem_singleton.1 hk with rfl; exact .inl (List.mem_cons_self ..))).trans hB fun k hk => (H1.mine k hk).imp (List.mem_cons_of_mem _) id)
 have HV := H1.anew (o := o) (R' := R1) (hk1 L hLw hL) (fun q hq w => by
  obtain ⟨x, hx, rfl⟩ := zaQ.1 hq
  exact hR1 h' _ hq _ _ (H1.sp.facts _ (zaQ.2 ⟨x, hsub x hx, rfl⟩)).now) (zzp fun x hx => zbW H1.wr _ (hsub x hx))
 exact zfr hT Bd hsB hb HV (fun k l m R h a B hk H2 => ⟨hn _ _ _ _ _ _ hk H2.sp (fr B H2.frm), H2.frm.block L (by omega) (hk1 L hLw hL), H2.frm.block D (by omega) (hk1 D (by omega) hD)⟩) (fun _ _ _ _ _ _ _ _ hk _ => hk.elim) fun k l m R h a B hk H2 => ⟨hr _ _ _ _ _ _ hk H2.sp (fr B H2.frm), H2.frm.block L (by omega) (hk1 L hLw hL), H2.frm.block D (by omega) (hk1 D (by omega) hD)⟩
end
section
open Go.RowKit
def znb (P : Program) : List Field → List (Option IntKind) → Nat → Prop
 | [], [], _ => True
 | f :: F, some k :: fs, off => (f.name ≠ "_" ∧ f.offset = off ∧ P.underlying f.type = some (.int k)) ∧ znb P F fs (off + 1)
 | f :: F, none :: fs, off => (f.name ≠ "_" ∧ f.offset = off ∧ ziZ P f.type .u8 32 ∧ (P.info? f.type).map (·.size) = some 32) ∧ znb P F fs (off + 32)
 | _, _, _ => False
structure StrT (P : Program) (t : TypeId) (fs : List (Option IntKind)) : Prop where
 under : P.underlying t = some (.struct (P.fieldsOf t))
 stood : P.stoodInHeld t = false
 guard : P.eqGuardType P.depth t = false
 flds : znb P (P.fieldsOf t).toList fs 0
def zrD (P : Program) (K : TypeId) : List Field → List (Option IntKind) → Nat → Bool
 | [], [], _ => true
 | f :: F, some k :: fs, off => (f.name != "_") && (Nat.beq f.offset off && ((match P.underlying f.type with | some (.int k') => ikB k' k | _ => false) && zrD P K F fs (off + 1)))
 | f :: F, none :: fs, off => (f.name != "_") && (Nat.beq f.offset off && (Nat.beq f.type K && ((match P.info? f.type with | some i => Nat.beq i.size 32 | none => false) && zrD P K F fs (off + 32))))
 | _, _, _ => false
theorem zhE {P : Program} {K : TypeId} (hK : ziZ P K .u8 32) : ∀ {F : List Field} {fs : List (Option IntKind)} {off : Nat}, zrD P K F fs off = true → znb P F fs off
 | [], [], _, _ => trivial
 | f :: F, some k :: fs, off, h => by
  unfold zrD at h
  simp only [Bool.and_eq_true] at h
  obtain ⟨h1, h2, h3, h4⟩ := h
  refine ⟨⟨bne_iff_ne.1 h1, Nat.eq_of_beq_eq_true h2, ?_⟩, zhE hK h4⟩
  split at h3
  ·rename_i k' hu
   rw [hu, (of_decide_eq_true h3 : k' = k)]
  ·cases h3
 | f :: F, none :: fs, off, h => by
  unfold zrD at h
  simp only [Bool.and_eq_true] at h
  obtain ⟨h1, h2, h3, h5, h4⟩ := h
  have e := Nat.eq_of_beq_eq_true h3
  refine ⟨⟨bne_iff_ne.1 h1, Nat.eq_of_beq_eq_true h2, by rw [e]; exact hK, ?_⟩, zhE hK h4⟩
  split at h5
  ·rename_i i hi
   rw [hi]
   show some i.size = some 32
   rw [Nat.eq_of_beq_eq_true h5]
  ·cases h5
 | [], _ :: _, _, h => by cases h
 | _ :: _, [], _, h => by unfold zrD at h; cases h
def zzq : List (Option IntKind) → List Chunk → Prop
 | [], [] => True
 | some k :: fs, .one (.int k' _) :: cs => k' = k ∧ zzq fs cs
 | none :: fs, .key _ :: cs => zzq fs cs
 | _, _ => False
def zwf : List Chunk → List Chunk → Bool
 | .one (.int _ a) :: cs, .one (.int _ b) :: ds => (a == b) && zwf cs ds
 | .key x :: cs, .key y :: ds => decide (za1 x = za1 y) && zwf cs ds
 | [], [] => true
 | _, _ => false
section
variable {P : Program} {w : World} {d : Nat}
theorem ziw {t : TypeId} {k m : List Nat} (hT : ziZ P t .u8 32) : (Op.equalIn (d + 2) t (.agg (ca [.key k])) (.agg (ca [.key m]))).run P w = .ok (decide (za1 k = za1 m)) w := by
 obtain ⟨e, h1, h2, h3, _⟩ := hT
 rw [zcf, zcf, zde h1 h2 h3]
 congr 1
 rw [Bool.eq_iff_iff, decide_eq_true_iff, zjT, zeY]
 constructor
 ·intro hs i hi
  have := hs i hi
  rw [Nat.zero_add] at this
  omega
 ·intro hs i hi
  rw [Nat.zero_add, hs i hi]
theorem zg9 {t : TypeId} {k : IntKind} {pre rest : List Value} {v : Value} (ht : P.underlying t = some (.int k)) : (part t (pre ++ v :: rest).toArray pre.length).run P w = .ok v w := by
 unfold part isAgg
 simp only [Sem.run_bind, run_underlying ht, Result.andThen_ok, Sem.run_pure]
 simp
theorem zha {t : TypeId} {pre rest : List Value} {x : List Nat} (hT : ziZ P t .u8 32) (hs : (P.info? t).map (·.size) = some 32) : (part t (pre ++ (cl [.key x] ++ rest)).toArray pre.length).run P w = .ok (.agg (ca [.key x])) w := by
 obtain ⟨e, h1, _⟩ := hT
 have hsz : (sizeOf t).run P w = .ok 32 w := by
  cases hq : P.info? t with
  | none => simp [hq] at hs
  | some i =>
   have : i.size = 32 := by simpa [hq] using hs
   simp [sizeOf, typeInfo, hq, this]
 have hl : (cl [.key x]).length = 32 := by rw [zhR, List.length_map]; simp [za1]
 unfold part isAgg
 simp only [Sem.run_bind, run_underlying h1, Result.andThen_ok, Sem.run_pure, hsz, if_true]
 congr 2
 rw [List.extract_toArray]
 unfold ca
 congr 1
 rw [List.extract_eq_take_drop]
 simp [hl]
theorem zkD : ∀ (F : List Field) (fs : List (Option IntKind)) (cs ds : List Chunk) (pre pre' : List Value), pre'.length = pre.length → znb P F fs pre.length → zzq fs cs → zzq fs ds → (Op.eqFields (d + 2) (pre ++ cl cs).toArray (pre' ++ cl ds).toArray F).run P w = .ok (zwf cs ds) w
 | [], [], [], [], pre, pre', _, _, _, _ => rfl
 | f :: F, some k :: fs, .one (.int ka a) :: cs, .one (.int kb b) :: ds, pre, pre', hp, hF, h1, h2 => by
  obtain ⟨⟨n1, n2, n3⟩, hF⟩ := hF
  obtain ⟨hk1, h1⟩ := h1
  obtain ⟨hk2, h2⟩ := h2
  subst hk1
  subst hk2
  unfold Op.eqFields
  rw [if_pos n1, n2]
  have e1 : cl (.one (.int kb a) :: cs) = .int kb a :: cl cs := rfl
  have e2 : cl (.one (.int kb b) :: ds) = .int kb b :: cl ds := rfl
  rw [e1, e2]
  simp only [Sem.run_bind, zg9 n3, Result.andThen_ok]
  rw [← hp]
  simp only [zg9 n3, Result.andThen_ok, run_equalIn_int w (d + 1) f.type kb kb a b n3]
  have ih := zkD F fs cs ds (pre ++ [.int kb a]) (pre' ++ [.int kb b]) (by simp [hp]) (by simpa using hF) h1 h2
  rw [List.append_assoc, List.append_assoc] at ih
  show _ = Result.ok ((a == b) && zwf cs ds) w
  cases hab : a == b with
  | true => simpa using ih
  | false => simp
 | f :: F, none :: fs, .key x :: cs, .key y :: ds, pre, pre', hp, hF, h1, h2 => by
  obtain ⟨⟨n1, n2, n3, n4⟩, hF⟩ := hF
  unfold Op.eqFields
  rw [if_pos n1, n2]
  have e1 : cl (.key x :: cs) = cl [.key x] ++ cl cs := by simp [cl]
  have e2 : cl (.key y :: ds) = cl [.key y] ++ cl ds := by simp [cl]
  have hl : ∀ z, (cl [.key z]).length = 32 := fun z => by rw [zhR, List.length_map]; simp [za1]
  rw [e1, e2]
  simp only [Sem.run_bind, zha n3 n4, Result.andThen_ok]
  rw [← hp]
  simp only [zha n3 n4, Result.andThen_ok, ziw n3]
  have ih := zkD F fs cs ds (pre ++ cl [.key x]) (pre' ++ cl [.key y]) (by simp [hp, hl]) (by rw [jQ, hl]; exact hF) h1 h2
  rw [List.append_assoc, List.append_assoc] at ih
  show _ = Result.ok (decide (za1 x = za1 y) && zwf cs ds) w
  cases hab : decide (za1 x = za1 y) with
  | true => simpa using ih
  | false => simp
variable {o : Oper} {l : List (Nat × Value)} {x y : Operand} {S : Nat → Prop} {ws : World}
theorem zDN {t u : TypeId} {fs : List (Option IntKind)} {cs ds : List Chunk} (hT : StrT P t fs) (h1 : zzq fs cs) (h2 : zzq fs ds) (ho : o.op = .binOp .neq t x y u) (hx : ev l x = some (.agg (ca cs))) (hy : ev l y = some (.agg (ca ds))) : PK P S ws l o (.bool (!zwf cs ds)) := fun w' _ a N E => by
 have hr := zkD (d := 9997) (w := w') _ fs cs ds [] [] rfl hT.flds h1 h2
 unfold execOp
 simp only [ho, E.ev hx, E.ev hy, Sem.run_bind, run_eqGuard_agg w' _ t x y _ _ hT.guard, Result.andThen_ok, run_neq_struct, run_equalIn_agg w' 9999 t _ _ hT.under hT.stood]
 rw [show (Op.eqFields 9999 (ca cs) (ca ds) (P.fieldsOf t).toList).run P w' = _ from hr]
 rfl
theorem zkE {t u : TypeId} {fs : List (Option IntKind)} {cs ds : List Chunk} {b : Bool} (hb : zwf cs ds = b) (hT : StrT P t fs) (h1 : zzq fs cs) (h2 : zzq fs ds) (ho : o.op = .binOp .neq t x y u) (hx : ev l x = some (.agg (ca cs))) (hy : ev l y = some (.agg (ca ds))) : PK P S ws l o (.bool (!b)) := hb ▸ zDN hT h1 h2 ho hx hy
end
end
section
open Go.RowKit
section
variable {α : Type} {T : Ty α} [D : Dec T] {P : Program} {N k i j n0 e : Nat} {l : LE} {m : MB} {R : List SF} {o : Oper} {xs ys : List α}
theorem znc (T : Ty α) [D : Dec T] {sv : SV} {m' : MB} {R' : List SF} (wl : wfE (lt_ k) l = true) (wm : wfM (lt_ k) m = true) (wr : wfR (lt_ k) R = true) (hs : wfM (lt_ (k + 1)) ((k, zba T [] e) :: m) = true → wfR (lt_ (k + 1)) (.h k (fun q _ => q = (none, 0)) :: .q k (zbS T []) :: R) = true → zcj P N (k + 1) l ((k, zba T [] e) :: m) (.h k (fun q _ => q = (none, 0)) :: .q k (zbS T []) :: R) o sv m' R') : zcj P N k l m R o sv m' R' :=
 zdA (m2 := (k, zba T [] e) :: m) (R2 := .h k (fun q _ => q = (none, 0)) :: .q k (zbS T []) :: R) (Nat.ble_eq_true_of_le (Nat.le_succ k)) (fun h X w H => by
  let h2 : Hn := ⟨h.b, fun t => if t = k then (none, 0) else h.r t, h.q⟩
  have er : h2.r k = (none, 0) := if_pos rfl
  have hag : AgS (lt_ k) h h2 := fun j hj => ⟨rfl, if_neg (by have := zbG hj; omega), rfl⟩
  have e1 : zae h2 [] ((k, zba T [] e) :: m) = .row (.slice none 0 0) e T.sz 0 [] :: zae h [] m := by
   rw [zap, show zaX k [] = false from rfl, cond_false, zce h2 m [] k fun p hp => Nat.ne_of_lt (zbG (zfm wm p hp)), zaL hag wm]
   simp only [zba, RB.den, er]
   rfl
  have H2 := H.nils (L1 := [.row (.slice none 0 0) e T.sz 0 []]) fun q hq => ⟨_, _, List.mem_singleton.1 hq⟩
  refine ⟨h2, hag, ?_, fun j hj => ?_⟩
  ·rw [e1]
   refine H2.refacts fun r hr => ?_
   obtain ⟨q, hq, rfl⟩ := zay.1 hr
   rcases List.mem_cons.1 hq with rfl | hq
   ·exact fun _ _ => er
   rcases List.mem_cons.1 hq with rfl | hq
   ·exact zdw
   ·rw [SF.same hag (zbW wr _ hq)]
    exact H2.facts _ (zay.2 ⟨q, hq, rfl⟩)
  ·rw [e1] at hj
   exact hj) wl (by
  have hS : ∀ i, lt_ k i = true → lt_ (k + 1) i = true := fun i h => Nat.ble_eq_true_of_le (Nat.le_succ_of_le (zbG h))
  have hk : lt_ (k + 1) k = true := Nat.ble_eq_true_of_le (jV _)
  refine hs ?_ ?_
  ·rw [show wfM (lt_ (k + 1)) ((k, zba T [] e) :: m) = (bif lt_ (k + 1) k then wfM (lt_ (k + 1)) m else false) from rfl, hk]
   exact zc5 hS wm
  ·rw [show wfR (lt_ (k + 1)) (.h k (fun q _ => q = (none, 0)) :: .q k (zbS T []) :: R) = (bif lt_ (k + 1) k then (bif lt_ (k + 1) k then wfR (lt_ (k + 1)) R else false) else false) from rfl, hk]
   exact zb6 hS wr)
theorem zuG {s : Operand} {f : Qd → World → Prop} {R2 : List SF} {m2 : MB} (hs : evS l s = some (zfM (.slice none 0 0))) (h : Hn) (X : List Nat) (w : World) (H : Sp X w (zae h [] m2) (zaT h (.h k (fun q _ => q = (none, 0)) :: R2))) : ev (zcd h l) s = some (.slice (h.r k).1 0 (h.r k).2) := by
 have := zaf (h := h) hs
 have hq : h.r k = (none, 0) := (H.facts _ (zaQ.2 ⟨_, List.mem_cons_self .., rfl⟩)).now
 rw [this, hq]
 rfl
theorem zBp {t by_ r : Nat} {s y : Operand} (hI : Inj T) (hrr : R[r]? = some (.sl j ys.length (SlF T ys))) (ho : o.op = .call { callee := .builtin .append, args := #[s, y], argTypes := #[t, t] }) (hs : evS l s = some (zfM (.slice none 0 0))) (hy : evS l y = some (.a (.s (.p (.hd j ys.length)))))
  (hT : AppK P t e T.sz by_) (hn : ys.length ≤ 9223372036854775807) (hby : ys.length * by_ ≤ 140737488355328) (wl : wfE (lt_ k) l = true) (wm : wfM (lt_ k) m = true) (wr : wfR (lt_ k) R = true) : zcj P N k l m R o (.a (.s (.p (.hd (k + 1) ys.length)))) ((k + 1, zba T ys e) :: (k, .gone) :: (k, zba T [] e) :: m) (.q (k + 1) (zbS T ys) :: .h k (fun q _ => q = (none, 0)) :: .q k (zbS T []) :: R) :=
 znc T wl wm wr fun h1 h2 => by
  have := zpV (N := N) (k := k + 1) (i := k) (xs := []) (r := r + 2) (e := e) (R := .h k (fun q _ => q = (none, 0)) :: .q k (zbS T []) :: R) (m := (k, zba T [] e) :: m) hI (by simp [zaA]) (by simpa using hrr) ho (zuG (f := fun _ _ => True) hs) hy hT (by simpa using hn) (by simpa using hby) h1 h2 (.tail _ (.head _))
  simpa using this
theorem zqo {cs : List SC} {x : α} {μs : Hn → List Qd} {t by_ : Nat} {s y : Operand} (ho : o.op = .call { callee := .builtin .append, args := #[s, y], argTypes := #[t, t] }) (hs : evS l s = some (zfM (.slice none 0 0))) (hy : evS l y = some (slS j 0 1 1)) (hj : zaA m j = some (.blk cs e)) (hq : ∀ h, zaD h cs = T.ch x (Dec.dec (μs h)))
  (hT : AppK P t e T.sz by_) (hby : by_ ≤ 140737488355328) (wl : wfE (lt_ k) l = true) (wm : wfM (lt_ k) m = true) (wr : wfR (lt_ k) R = true) (hμ : ∀ h h', AgS (lt_ k) h h' → μs h' = μs h)
  (hnest : ∀ (h : Hn) (w : World) (Y : List Nat), (∀ r ∈ R, St (r.den h) w Y) → St (T.nest x (Dec.dec (μs h))) w Y) : zcj P N k l m R o (.a (.s (.p (.hd (k + 1) 1)))) ((k + 1, zba T [x] e) :: (k, .gone) :: (k, zba T [] e) :: m) (.q (k + 1) (zbS T [x]) :: .h k (fun q _ => q = (none, 0)) :: .q k (zbS T []) :: R) :=
 znc T wl wm wr fun h1 h2 => by
  have hjk : j < k := zcq hj wm
  have := zpO (N := N) (k := k + 1) (i := k) (xs := []) (n0 := 0) (x := x) (cs := cs) (μs := μs) (e := e) (R := .h k (fun q _ => q = (none, 0)) :: .q k (zbS T []) :: R) (m := (k, zba T [] e) :: m) (by simp [zaA]) ho (zuG (f := fun _ _ => True) hs) rfl hy (by
   rw [zaA, show Nat.beq k j = false from Bool.eq_false_iff.2 fun e => by have := Nat.eq_of_beq_eq_true e; omega, cond_false]
   exact hj) (by cases hb : zaX j [k] with | false => rfl | true => exact absurd (zax.1 hb) (by simp; omega)) hq hT (by simp) (by simpa using hby) h1 h2 (.tail _ (.head _)) (fun h h' hag => hμ h h' fun i hi => hag i (Nat.ble_eq_true_of_le (Nat.le_succ_of_le (zbG hi)))) fun h w Y hR => hnest h w Y fun r hr => hR r (.tail _ (.tail _ hr))
  simpa using this
end
section
variable {P : Program} {N k i j n0 e : Nat} {l : LE} {m : MB} {R : List SF} {o : Oper} {xs ys : List Nat}
theorem zxV {t r ny : Nat} {s y : Operand} {cs : List SC} (hm : zaA m i = some (.blk cs e)) (hcs : ∀ h, cl (zaD h cs) = xs.map bv) (hr : R[r]? = some (.sl j ny (TxG ys))) (hny : ny = ys.length) (ho : o.op = .call { callee := .builtin .append, args := #[s, y], argTypes := #[t, t] }) (hs : evS l s = some (slS i 0 n0 n0)) (hn0 : n0 = xs.length) (hy : evS l y = some (.a (.s (.p (.hd j ny)))))
  (hT : AppK P t e 1 1) (hn : xs.length + ys.length ≤ 140737488355328) (wm : wfM (lt_ k) m = true) (wr : wfR (lt_ k) R = true) : zcj P N k l m R o (.a (.s (.p (.hd k (xs ++ ys).length)))) ((k, zdI (xs ++ ys) e) :: (i, .gone) :: m) R := fun Q h X a w E H Kk hK => by
 subst hn0 hny
 have hik : i < k := zcq hm wm
 have hp1 := zaM h m [] i _ hm (by simp)
 have hf := (zge H hr).now
 have H1 : Sp X w (.row (.slice (some ⟨h.b i, 0, none⟩) xs.length xs.length) e 1 xs.length (xs.map bv) :: zae h [i] m) (zaT h R) := by
  have h3 : Sp X w (.blk (h.b i) (ca (zaD h cs)) e :: zae h [i] m) (zaT h R) := H.perm hp1
  have e0 : ca (zaD h cs) = ca [.row xs.length fun t => ((xs.map bv)[t]?).getD (.bool false)] := by
   refine zja ?_
   rw [hcs]
   refine List.ext_getElem? fun t => ?_
   by_cases ht : t < xs.length
   ·simp [ht]
   ·rw [List.getElem?_eq_none (by simpa using ht), List.getElem?_eq_none (by simpa using ht)]
  rw [e0] at h3
  have h4 := Sep.rowOf (n := xs.length) h3.sep (jV _) (by omega)
  have e1 : ((List.range xs.length).map fun t => ((xs.map bv)[t]?).getD (.bool false)) = xs.map bv := by
   refine List.ext_getElem? fun t => ?_
   by_cases ht : t < xs.length
   ·simp [ht]
   ·rw [List.getElem?_eq_none (by simpa using ht), List.getElem?_eq_none (by simpa using ht)]
  rw [e1] at h4
  refine Sp.of_sep h4 fun t ht hX => h3.xap t ?_ hX
  simpa [zad, Res.keys, Value.ownBlock] using ht
 refine zhK (news := ys.map bv) 0 E H1.sep ho (zaf hs) (zaf hy) rfl hT (by omega) (by simp) (fun hA => hf.nil hA) (by have := zf0 (m := ys.length) hf; rwa [List.take_length] at this) (fun u hu => by obtain ⟨z, _, rfl⟩ := List.mem_map.1 hu; rfl) (by omega) (by omega) fun A' c' w' _ HS F => ?_
 rw [← jQ, ← List.map_append] at HS
 let h1 : Hn := ⟨h.b, fun t => if t = k then (A', c') else h.r t, h.q⟩
 have hag : AgS (lt_ k) h h1 := fun t ht => by
  have := zbG ht
  exact ⟨rfl, if_neg (by omega), rfl⟩
 have er : h1.r k = (A', c') := if_pos rfl
 have e1 : zae h1 [] ((k, zdI (xs ++ ys) e) :: (i, .gone) :: m) = .row (.slice A' (xs ++ ys).length c') e 1 (xs ++ ys).length ((xs ++ ys).map bv) :: zae h [i] m := by
  rw [zap]
  show RB.den h1 k (zdI (xs ++ ys) e) ++ zae h1 [k] ((i, .gone) :: m) = _
  rw [zdV (by omega) wm, zaL hag wm, ze4, er]
  rfl
 have e2 : SV.den h1 (.a (.s (.p (.hd k (xs ++ ys).length)))) = .slice A' (xs.length + ys.length) c' := by
  show Value.slice (h1.r k).1 (xs ++ ys).length (h1.r k).2 = _
  rw [er, jQ]
 have hkk : ∀ t, t ∈ zad (zae h [] m) ↔ t ∈ zad (.row (.slice (some ⟨h.b i, 0, none⟩) xs.length xs.length) e 1 xs.length (xs.map bv) :: zae h [i] m) := fun t => by
  have := (zaw hp1).mem_iff (a := t)
  simpa [zad, RB.den, Res.keys, Value.ownBlock] using this
 have hX : ∀ t ∈ zad (.row (.slice A' (xs ++ ys).length c') e 1 (xs ++ ys).length ((xs ++ ys).map bv) :: zae h [i] m), t ∉ X := fun t ht hX => by
  rcases HS.mine t ht with h3 | h3
  ·exact H1.xap t h3 hX
  ·have := H.xlt t hX; omega
 have := hK h1 w' hag ⟨HS.frm.os, HS.frm.tape, HS.frm.output, HS.frm.size, fun t ht hn => HS.frm.block t ht fun hm' => hn ((hkk t).2 hm')⟩ (by
  rw [e1, za3 hag wr]
  exact Sp.of_sep HS hX) fun t ht => by
   rw [e1] at ht
   exact (HS.mine t ht).imp_left (hkk t).2
 rw [e2] at this
 exact this
theorem zxX {t : Nat} {s y : Operand} {cs : List SC} (hm : zaA m i = some (zdI xs e)) (hj : zf6 R m j = some cs) (hcs : ∀ h, cl (zaD h cs) = ys.map bv) (ho : o.op = .call { callee := .builtin .append, args := #[s, y], argTypes := #[t, t] }) (hs : ∀ (h : Hn) (X : List Nat) (w : World), Sp X w (zae h [] m) (zaT h R) → ev (zcd h l) s = some (.slice (h.r i).1 xs.length (h.r i).2)) (hy : evS l y = some (slS j 0 n0 n0)) (hn0 : n0 = ys.length)
  (hT : AppK P t e 1 1) (hn : xs.length + ys.length ≤ 140737488355328) (wm : wfM (lt_ k) m = true) (wr : wfR (lt_ k) R = true) : zcj P N k l m R o (.a (.s (.p (.hd k (xs ++ ys).length)))) ((k, zdI (xs ++ ys) e) :: (i, .gone) :: m) R :=
 zts hm wm wr fun Q h X a w E H Kk hK => by
  subst hn0
  have hat := zjX H hj
  have H1 := zki H hm
  refine zhK (news := ys.map bv) 0 E H1.sep ho (hs h X w H) (zaf hy) rfl hT (by omega) (by simp) (fun hA => by cases hA) (fun ad hA t u hu => by
   obtain rfl := Option.some.inj hA
   exact hat t u (by rw [hcs]; exact hu)) (fun u hu => by obtain ⟨z, _, rfl⟩ := List.mem_map.1 hu; rfl) (by omega) (by omega) fun A' c' w' _ HS F => ?_
  rw [← jQ, ← List.map_append] at HS
  have := hK A' c' w' HS
  rw [jQ] at this
  exact this
theorem zxY {t : Nat} {s y : Operand} {cs : List SC} (hj : zf6 R m j = some cs) (hcs : ∀ h, cl (zaD h cs) = ys.map bv) (ho : o.op = .call { callee := .builtin .append, args := #[s, y], argTypes := #[t, t] }) (hs : evS l s = some (zfM (.slice none 0 0))) (hy : evS l y = some (slS j 0 n0 n0)) (hn0 : n0 = ys.length)
  (hT : AppK P t e 1 1) (hn : ys.length ≤ 140737488355328) (wl : wfE (lt_ k) l = true) (wm : wfM (lt_ k) m = true) (wr : wfR (lt_ k) R = true) : zcj P N k l m R o (.a (.s (.p (.hd (k + 1) ys.length)))) ((k + 1, zdI ys e) :: (k, .gone) :: (k, zdI [] e) :: m) (.h k (fun q _ => q = (none, 0)) :: R) :=
 zdA (m2 := (k, zdI [] e) :: m) (R2 := .h k (fun q _ => q = (none, 0)) :: R) (Nat.ble_eq_true_of_le (Nat.le_succ k)) (fun h X w H => by
  let h2 : Hn := ⟨h.b, fun t => if t = k then (none, 0) else h.r t, h.q⟩
  have er : h2.r k = (none, 0) := if_pos rfl
  have hag : AgS (lt_ k) h h2 := fun j hj => ⟨rfl, if_neg (by have := zbG hj; omega), rfl⟩
  have e1 : zae h2 [] ((k, zdI [] e) :: m) = .row (.slice none 0 0) e 1 0 [] :: zae h [] m := by
   rw [zap, show zaX k [] = false from rfl, cond_false, zce h2 m [] k fun p hp => Nat.ne_of_lt (zbG (zfm wm p hp)), zaL hag wm, ze4, er]
   rfl
  have H2 := H.nils (L1 := [.row (.slice none 0 0) e 1 0 []]) fun q hq => ⟨_, _, List.mem_singleton.1 hq⟩
  refine ⟨h2, hag, ?_, fun j hj => ?_⟩
  ·rw [e1]
   refine H2.refacts fun r hr => ?_
   obtain ⟨q, hq, rfl⟩ := zay.1 hr
   rcases List.mem_cons.1 hq with rfl | hq
   ·exact fun _ _ => er
   ·rw [SF.same hag (zbW wr _ hq)]
    exact H2.facts _ (zay.2 ⟨q, hq, rfl⟩)
  ·rw [e1] at hj
   exact hj) wl (by
  have hS : ∀ i, lt_ k i = true → lt_ (k + 1) i = true := fun i h => Nat.ble_eq_true_of_le (Nat.le_succ_of_le (zbG h))
  have hk : lt_ (k + 1) k = true := Nat.ble_eq_true_of_le (jV _)
  have h1 : wfM (lt_ (k + 1)) ((k, zdI [] e) :: m) = true := by
   rw [show wfM (lt_ (k + 1)) ((k, zdI [] e) :: m) = (bif lt_ (k + 1) k then wfM (lt_ (k + 1)) m else false) from rfl, hk]
   exact zc5 hS wm
  have h2 : wfR (lt_ (k + 1)) (.h k (fun q _ => q = (none, 0)) :: R) = true := by
   rw [show wfR (lt_ (k + 1)) (.h k (fun q _ => q = (none, 0)) :: R) = (bif lt_ (k + 1) k then wfR (lt_ (k + 1)) R else false) from rfl, hk]
   exact zb6 hS wr
  have hj2 : zf6 (.h k (fun q _ => q = (none, 0)) :: R) ((k, zdI [] e) :: m) j = some cs := by
   unfold zf6 at hj ⊢
   by_cases e1 : k = j
   ·subst e1
    have e2 : zaA ((k, zdI [] e) :: m) k = some (zdI [] e) := by simp [zaA]
    rw [e2]
    split at hj
    ·rename_i cs0 t0 e3
     exact absurd (zcq e3 wm) (Nat.lt_irrefl _)
    ·exact hj
   ·have e2 : zaA ((k, zdI [] e) :: m) j = zaA m j := by rw [zaA, show Nat.beq k j = false from Bool.eq_false_iff.2 fun e => e1 (Nat.eq_of_beq_eq_true e), cond_false]
    rw [e2]
    exact hj
  have := zxX (N := N) (k := k + 1) (i := k) (xs := []) (e := e) (R := .h k (fun q _ => q = (none, 0)) :: R) (m := (k, zdI [] e) :: m) (by simp [zaA]) hj2 hcs ho (fun h X w H => by
   have := zaf (h := h) hs
   have hq : h.r k = (none, 0) := (H.facts _ (zaQ.2 ⟨_, List.mem_cons_self .., rfl⟩)).now
   rw [this, hq]
   rfl) hy hn0 hT (by simpa using hn) h1 h2
  simpa using this)
end
end
section
open Go.RowKit
def zuH (x : Nat) : Nat := zcA x 4294967295
def zek (x b : Nat) : Nat := orW (zrb x b) (zr4 x (32 - b))
def zzr (x y : Nat) : Nat := (x * y) % 4294967296
def zxZ (l : List Nat) : Nat := zb0 (zb0 (zb0 (zzr (l.getD 0 0 % 4294967296) 16777216) (zzr (l.getD 1 0 % 4294967296) 65536)) (zzr (l.getD 2 0 % 4294967296) 256)) (l.getD 3 0 % 4294967296)
def s0R (x : Nat) : Nat := zcA (zcA (zek x 7) (zek x 18)) (zrb x 3)
def s1R (x : Nat) : Nat := zcA (zcA (zek x 17) (zek x 19)) (zrb x 10)
def S1R (x : Nat) : Nat := zcA (zcA (zek x 6) (zek x 11)) (zek x 25)
def S0R (x : Nat) : Nat := zcA (zcA (zek x 2) (zek x 13)) (zek x 22)
def znd (k : List Nat) (t : Nat) : Nat :=
 if t < 16 then zxZ (k.drop (4 * t)) else zb0 (zb0 (zb0 (znd k (t - 16)) (s0R (znd k (t - 15)))) (znd k (t - 7))) (s1R (znd k (t - 2)))
termination_by t
def t1R (gt : Nat → Nat) (k : List Nat) (v : Nat → Nat) (t : Nat) : Nat := zb0 (zb0 (zb0 (zb0 (v 7) (S1R (v 4))) (zcA (zem (v 4) (v 5)) (zem (zuH (v 4)) (v 6)))) (gt t)) (znd k t)
def t2R (v : Nat → Nat) : Nat := zb0 (S0R (v 0)) (zcA (zcA (zem (v 0) (v 1)) (zem (v 0) (v 2))) (zem (v 1) (v 2)))
def vR (gt : Nat → Nat) (k : List Nat) (h : Nat → Nat) : Nat → Nat → Nat
 | 0 => h
 | t + 1 => zgp (vR gt k h t) (t1R gt k (vR gt k h t) t) (t2R (vR gt k h t))
def zqp (gt h : Nat → Nat) (k : List Nat) : Nat → Nat := zrr h (vR gt k h 64) 8
def tb (x : Nat) : BitVec 32 := BitVec.ofNat 32 x
theorem zuI (x y : Nat) : zcA x y = (tb x ^^^ tb y).toNat := by simp [zcA, tb]
theorem zzs (x y : Nat) : zem x y = (tb x &&& tb y).toNat := by simp [zem, tb]
theorem zFk (x y : Nat) : orW x y = (tb x ||| tb y).toNat := by simp [orW, tb]
theorem zkF (b : BitVec 32) : tb b.toNat = b := by simp [tb]
theorem zDO (x : Nat) : tb (zuH x) = ~~~ tb x := by
 rw [zuH, zuI, zkF]
 have : tb 4294967295 = BitVec.allOnes 32 := by decide
 rw [this, BitVec.xor_allOnes]
theorem zGh (e f g : BitVec 32) : g ^^^ (e &&& (f ^^^ g)) = (e &&& f) ^^^ (~~~e &&& g) := by
 apply BitVec.eq_of_getLsbD_eq
 intro i hi
 simp only [BitVec.getLsbD_xor, BitVec.getLsbD_and, BitVec.getLsbD_not, hi, decide_true, Bool.true_and]
 cases e.getLsbD i <;> cases f.getLsbD i <;> cases g.getLsbD i <;> rfl
theorem zGi (a b c : BitVec 32) : (a &&& b) ||| (c &&& (a ||| b)) = ((a &&& b) ^^^ (a &&& c)) ^^^ (b &&& c) := by
 apply BitVec.eq_of_getLsbD_eq
 intro i hi
 simp only [BitVec.getLsbD_xor, BitVec.getLsbD_and, BitVec.getLsbD_or]
 cases a.getLsbD i <;> cases b.getLsbD i <;> cases c.getLsbD i <;> rfl
theorem zFm (e f g : Nat) : zcA g (zem e (zcA f g)) = zcA (zem e f) (zem (zuH e) g) := by
 simp only [zuI, zzs, zkF, zDO, zGh]
theorem zDP (a b c : Nat) : orW (zem a b) (zem c (orW a b)) = zcA (zcA (zem a b) (zem a c)) (zem b c) := by
 simp only [zuI, zzs, zFk, zkF, zGi]
theorem zne (x a : Nat) (h1 : 1 ≤ a) (h2 : a ≤ 31) : zzj x (32 - a) = zek x a := by
 unfold zzj zek
 rw [show 32 - (32 - a) = a by omega]
 unfold orW
 exact Nat.or_comm _ _
theorem zqq (x a b s : Nat) (h1 : 1 ≤ a) (h2 : a ≤ 31) (h3 : 1 ≤ b) (h4 : b ≤ 31) : zmX x a b s = zcA (zcA (zek x a) (zek x b)) (zrb x s) := by
 rw [zmX, zne _ _ h1 h2, zne _ _ h3 h4]
theorem zqr (x a b c : Nat) (h1 : 1 ≤ a) (h2 : a ≤ 31) (h3 : 1 ≤ b) (h4 : b ≤ 31) (h5 : 1 ≤ c) (h6 : c ≤ 31) : zg5 x a b c = zcA (zcA (zek x a) (zek x b)) (zek x c) := by
 rw [zg5, zne _ _ h1 h2, zne _ _ h3 h4, zne _ _ h5 h6]
theorem zjs (a b c : Nat) : zb0 a (zb0 b c) = zb0 (zb0 a b) c := by unfold zb0; omega
theorem zuJ (a b k : Nat) (hb : b < 2 ^ k) : (a * 2 ^ k) ||| b = a * 2 ^ k + b := by
 have := Nat.two_pow_add_eq_or_of_lt hb a
 rw [Nat.mul_comm] at this
 exact this.symm
theorem zBq (l : List Nat) (h : ∀ i, l.getD i 0 < 256) : zt0 l = zxZ l := by
 have h0 := h 0; have h1 := h 1; have h2 := h 2; have h3 := h 3
 unfold zt0 zxZ
 generalize l.getD 0 0 = a at *
 generalize l.getD 1 0 = b at *
 generalize l.getD 2 0 = c at *
 generalize l.getD 3 0 = d at *
 have e1 : orW (zr4 (a % 4294967296) 24) (zr4 (b % 4294967296) 16) = (a * 256 + b) * 2 ^ 16 := by
  unfold orW zr4
  have q : (a * 2 ^ 8) ||| b = a * 2 ^ 8 + b := zuJ a b 8 (by omega)
  have e : ((a * 2 ^ 24 ||| b * 2 ^ 16) : Nat) = (a * 2 ^ 8 ||| b) * 2 ^ 16 := by
   rw [← Nat.shiftLeft_eq, ← Nat.shiftLeft_eq, ← Nat.shiftLeft_eq, ← Nat.shiftLeft_eq, Nat.shiftLeft_or_distrib, ← Nat.shiftLeft_add]
  simp only [show min 24 32 = 24 from rfl, show min 16 32 = 16 from rfl]
  rw [Nat.mod_eq_of_lt (show a < 4294967296 by omega), Nat.mod_eq_of_lt (show b < 4294967296 by omega), Nat.mod_eq_of_lt (show a * 2 ^ 24 < 4294967296 by omega), Nat.mod_eq_of_lt (show b * 2 ^ 16 < 4294967296 by omega), Nat.mod_eq_of_lt (show a * 2 ^ 24 < 4294967296 by omega), Nat.mod_eq_of_lt (show b * 2 ^ 16 < 4294967296 by omega), e, q]
 have e2 : orW ((a * 256 + b) * 2 ^ 16) (zr4 (c % 4294967296) 8) = ((a * 256 + b) * 256 + c) * 2 ^ 8 := by
  unfold orW zr4
  have q : ((a * 256 + b) * 2 ^ 8) ||| c = (a * 256 + b) * 2 ^ 8 + c := zuJ _ c 8 (by omega)
  have e : (((a * 256 + b) * 2 ^ 16 ||| c * 2 ^ 8) : Nat) = ((a * 256 + b) * 2 ^ 8 ||| c) * 2 ^ 8 := by
   rw [← Nat.shiftLeft_eq, ← Nat.shiftLeft_eq, ← Nat.shiftLeft_eq, ← Nat.shiftLeft_eq, Nat.shiftLeft_or_distrib, ← Nat.shiftLeft_add]
  simp only [show min 8 32 = 8 from rfl]
  rw [Nat.mod_eq_of_lt (show c < 4294967296 by omega), Nat.mod_eq_of_lt (show c * 2 ^ 8 < 4294967296 by omega), Nat.mod_eq_of_lt (show c * 2 ^ 8 < 4294967296 by omega), Nat.mod_eq_of_lt (show (a * 256 + b) * 2 ^ 16 < 4294967296 by omega), e, q]
 have e3 : orW (((a * 256 + b) * 256 + c) * 2 ^ 8) (d % 4294967296) = ((a * 256 + b) * 256 + c) * 2 ^ 8 + d := by
  unfold orW
  rw [Nat.mod_mod, Nat.mod_eq_of_lt (show d < 4294967296 by omega), Nat.mod_eq_of_lt (show ((a * 256 + b) * 256 + c) * 2 ^ 8 < 4294967296 by omega)]
  exact zuJ _ d 8 (by omega)
 rw [e1, e2, e3]
 unfold zb0 zzr
 omega
theorem zFM (gt h : Nat → Nat) (k : List Nat) (hk : ∀ i, k.getD i 0 < 256) : ∀ t, t ≤ 64 → ∀ i, i < 16 → (zi4 gt k h t).1 i = znd k (if t ≤ 16 then i else t - 1 - (t - 1 - i) % 16)
 | 0, _, i, hi => by
  rw [zi4, if_pos (by omega)]
  show zku k 16 i = _
  rw [zku, if_pos hi, znd, if_pos hi]
  exact zBq _ fun j => by rw [jR, List.getElem?_drop, ← jR]; exact hk _
 | t + 1, ht, i, hi => by
  have ih := zFM gt h k hk t (by omega)
  rw [zi4]
  show zej (zi4 gt k h t).1 t i = _
  unfold zej
  by_cases h16 : 16 ≤ t
  ·rw [if_pos h16, if_neg (by omega)]
   have pos : ∀ j, j < 16 → (if t ≤ 16 then j else t - 1 - (t - 1 - j) % 16) = t - 1 - (t - 1 - j) % 16 := fun j hj => by
    split
    ·omega
    ·rfl
   unfold upd
   by_cases hit : i = t % 16
   ·rw [if_pos hit]
    rw [ih _ (Nat.mod_lt _ (by decide)), ih _ (Nat.mod_lt _ (by decide)), ih _ (Nat.mod_lt _ (by decide)), ih _ (Nat.mod_lt _ (by decide)), pos _ (Nat.mod_lt _ (by decide)), pos _ (Nat.mod_lt _ (by decide)), pos _ (Nat.mod_lt _ (by decide)), pos _ (Nat.mod_lt _ (by decide))]
    rw [show t - 1 - (t - 1 - t % 16) % 16 = t - 16 by omega, show t - 1 - (t - 1 - (t + 1) % 16) % 16 = t - 15 by omega, show t - 1 - (t - 1 - (t + 9) % 16) % 16 = t - 7 by omega, show t - 1 - (t - 1 - (t + 14) % 16) % 16 = t - 2 by omega]
    rw [show t + 1 - 1 - (t + 1 - 1 - i) % 16 = t by omega]
    rw [znd.eq_def k t, if_neg (by omega), zqq _ _ _ _ (by decide) (by decide) (by decide) (by decide), zqq _ _ _ _ (by decide) (by decide) (by decide) (by decide), zjs, zjs]
    rfl
   ·rw [if_neg hit, ih i hi, pos i hi]
    congr 1
    omega
  ·rw [if_neg h16, ih i hi, if_pos (by omega), if_pos (by omega)]
theorem zzt (gt h : Nat → Nat) (k : List Nat) (hk : ∀ i, k.getD i 0 < 256) : ∀ t, t ≤ 64 → (zi4 gt k h t).2 = vR gt k h t
 | 0, _ => rfl
 | t + 1, ht => by
  have ih := zzt gt h k hk t (by omega)
  have hr := zFM gt h k hk (t + 1) ht (t % 16) (Nat.mod_lt _ (by decide))
  rw [zi4] at hr
  rw [zi4, vR]
  show zgp (zi4 gt k h t).2 _ _ = _
  rw [ih] at hr ⊢
  have hw : zej (zi4 gt k h t).1 t (t % 16) = znd k t := by
   rw [show zej (zi4 gt k h t).1 t (t % 16) = znd k (if t + 1 ≤ 16 then t % 16 else t + 1 - 1 - (t + 1 - 1 - t % 16) % 16) from hr]
   congr 1
   split <;> omega
  congr 1
  ·unfold zzk t1R
   rw [hw, zqr _ _ _ _ (by decide) (by decide) (by decide) (by decide) (by decide) (by decide), zFm]
   rfl
  ·unfold zAJ t2R
   rw [zqr _ _ _ _ (by decide) (by decide) (by decide) (by decide) (by decide) (by decide), zDP]
   rfl
theorem zx0 (gt h : Nat → Nat) (k : List Nat) (hk : ∀ i, k.getD i 0 < 256) : zfp gt h k = zqp gt h k := by
 rw [zfp, zqp, zzt gt h k hk 64 (by decide)]
def zkG (k : List Nat) (n : Nat) : Nat → Nat := fun i => if i < n then znd k i else 0
theorem zix (k : List Nat) {n i : Nat} (h : i < n) : zkG k n i = znd k i := if_pos h
theorem znf (k : List Nat) (n j : Nat) : upd (fun i => u32 (zkG k n i)) n (u32 (znd k n)) j = u32 (zkG k (n + 1) j) := by
 rw [zkv]
 congr 2
 unfold upd zkG
 by_cases h : j = n
 ·subst h; simp
 ·rw [if_neg h]
  by_cases h2 : j < n
  ·rw [if_pos h2, if_pos (by omega)]
  ·rw [if_neg h2, if_neg (by omega)]
theorem zBr (k : List Nat) {n : Nat} (h : n < 16) : zb0 (zb0 (zb0 (zzr (k.getD (4 * n) 0 % 4294967296) 16777216) (zzr (k.getD (4 * n + 1) 0 % 4294967296) 65536)) (zzr (k.getD (4 * n + 2) 0 % 4294967296) 256)) (k.getD (4 * n + 3) 0 % 4294967296) = znd k n := by
 have e : ∀ j, (k.drop (4 * n)).getD j 0 = k.getD (4 * n + j) 0 := fun j => by rw [jR, List.getElem?_drop, ← jR]
 rw [znd, if_pos h, zxZ, e, e, e, e]
 all_goals rfl
theorem zx1 (k : List Nat) {n : Nat} (h : 16 ≤ n) : zb0 (zb0 (zb0 (zkG k n (n - 16)) (zcA (zcA (zek (zkG k n (n - 15)) 7) (zek (zkG k n (n - 15)) 18)) (zrb (zkG k n (n - 15)) 3))) (zkG k n (n - 7))) (zcA (zcA (zek (zkG k n (n - 2)) 17) (zek (zkG k n (n - 2)) 19)) (zrb (zkG k n (n - 2)) 10)) = znd k n := by
 rw [zix k (show n - 16 < n by omega), zix k (show n - 15 < n by omega), zix k (show n - 7 < n by omega), zix k (show n - 2 < n by omega)]
 conv => rhs; rw [znd, if_neg (show ¬ n < 16 by omega)]
 rfl
theorem zzu (gt : Nat → Nat) (k : List Nat) (v : Nat → Nat) {t : Nat} (ht : t < 64) : zb0 (zb0 (zb0 (zb0 (v 7) (zcA (zcA (zek (v 4) 6) (zek (v 4) 11)) (zek (v 4) 25))) (zcA (zem (v 4) (v 5)) (zem (zuH (v 4)) (v 6)))) (gt t)) (zkG k 64 t) = t1R gt k v t := by
 rw [zix k ht]; rfl
theorem zDQ (v : Nat → Nat) : zb0 (zcA (zcA (zek (v 0) 2) (zek (v 0) 13)) (zek (v 0) 22)) (zcA (zcA (zem (v 0) (v 1)) (zem (v 0) (v 2))) (zem (v 1) (v 2))) = t2R v := rfl
theorem zBs {gt h v : Nat → Nat} {k : List Nat} {t : Nat} (hM : v = vR gt k h t) : zgp v (t1R gt k v t) (t2R v) = vR gt k h (t + 1) := by
 rw [vR, ← hM]
theorem zkH (gt : Nat → Nat) : ∀ (n : Nat) (h : Nat → Nat) (l b : List Nat), l.length ≤ n → zfD gt h (l ++ b) = zfD gt (zfD gt h l).1 ((zfD gt h l).2 ++ b)
 | 0, h, l, b, hl => by rw [zda (l := l) (by omega)]
 | n + 1, h, l, b, hl => by
  by_cases h1 : 64 ≤ l.length
  ·rw [zdZ (l := l ++ b) (by rw [jQ]; omega), zdZ h1, List.take_append_of_le_length h1, List.drop_append_of_le_length h1]
   exact zkH gt n _ _ _ (by rw [List.length_drop]; omega)
  ·rw [zda h1]
theorem ziy (gt : Nat → Nat) : ∀ (ps : List (List Nat)) (h : Nat → Nat) (n : Nat) (r : List Nat), r.length < 64 → ps.foldl (zt5 gt) (h, n, r) = ((zfD gt h (r ++ ps.flatten)).1, n + ps.flatten.length, (zfD gt h (r ++ ps.flatten)).2)
 | [], h, n, r, hr => by
  rw [List.foldl_nil, List.flatten_nil, List.append_nil, zda (by omega)]; rfl
 | p :: ps, h, n, r, hr => by
  rw [List.foldl_cons]
  have e : zt5 gt (h, n, r) p = ((zfD gt h (r ++ p)).1, n + p.length, (zfD gt h (r ++ p)).2) := rfl
  rw [e, ziy gt ps _ _ _ (zkw gt _ _ _ (jV _)), ← zkH gt _ _ _ _ (jV _), List.flatten_cons, List.append_assoc, jQ, Nat.add_assoc]
theorem ziz (gt : Nat → Nat) (ps : List (List Nat)) : zk0 gt ps = zdn (zfD gt iv0 (ps.flatten ++ zfE ps.flatten.length)).1 8 := by
 have h := ziy gt ps iv0 0 [] (by show 0 < 64; decide)
 rw [List.nil_append, Nat.zero_add] at h
 rw [zk0, zEI, zfq, h, ← zkH gt _ _ _ _ (jV _)]
theorem zDR (m : Nat) : zru m 8 = beL 8 m := rfl
theorem zBt (x : Nat) : zov x = beL 4 x := by
 show [x / 2 ^ (min 24 32) % 256, x / 2 ^ (min 16 32) % 256, x / 2 ^ (min 8 32) % 256, x % 256] = [x / 2 ^ (8 * (4 - 1 - 0)) % 256, x / 2 ^ (8 * (4 - 1 - 1)) % 256, x / 2 ^ (8 * (4 - 1 - 2)) % 256, x / 2 ^ (8 * (4 - 1 - 3)) % 256]
 simp
theorem zx2 (n : Nat) : (n + (zfE n).length) % 64 = 0 := by
 unfold zfE
 rw [jQ, zkx, zky]
 omega
theorem zjt (n : Nat) : ∀ x ∈ zfE n, x < 256 := fun x hx => by
 rcases List.mem_append.1 hx with h | h
 ·exact zmZ n x h
 ·exact zm0 _ _ x h
theorem zng (n : Nat) : (zfE n).length ≤ 72 := by unfold zfE; rw [jQ, zky, zkx]; omega
theorem zDS (h v : Nat → Nat) (n i : Nat) (hi : i < n) : zrr h v n i < 4294967296 := by
 unfold zrr
 rw [if_pos hi]
 exact Nat.mod_lt _ (by decide)
theorem zDT : ∀ i, i < 8 → iv0 i < 4294967296 := by decide
theorem zrE {ps : List (List Nat)} {i : Nat} {p : List Nat} (h : ps[i]? = some p) : (ps.take (i + 1)).flatten = (ps.take i).flatten ++ p := by
 rw [List.take_add_one, h, List.flatten_append]; simp
theorem zuK (ps : List (List Nat)) (i : Nat) : (ps.take i).flatten.length ≤ ps.flatten.length := by
 have h := congrArg (fun l => l.flatten.length) (List.take_append_drop i ps)
 simp only [List.flatten_append, jQ] at h
 omega
theorem zuL (gt h : Nat → Nat) (k : List Nat) : ∀ i, i < 8 → zfp gt h k i < 4294967296 := fun i hi => by
 unfold zfp; exact zDS _ _ 8 i hi
theorem zBu {l : List Nat} (h : ∀ x ∈ l, x < 256) : ∀ i, l.getD i 0 < 256 := fun i => by
 rw [jR]
 cases hq : l[i]? with
 | none => simp
 | some z => exact h z (List.mem_of_getElem? hq)
def znQ (key : List Nat) (by_ i j : Nat) : Nat := if j < i then (key.getD j 0 % 256) ^^^ (by_ % 256) else 0
def zuM (key : List Nat) (by_ i j : Nat) : Nat := if j = i then by_ else znQ key by_ i j
theorem zBv (key : List Nat) (by_ i : Nat) : zuM key by_ i i = by_ := if_pos rfl
theorem zx3 (key : List Nat) (by_ i j : Nat) : upd (fun j => bv (znQ key by_ i j)) i (bv by_) j = bv (zuM key by_ i j) := by
 unfold upd zuM; split <;> rfl
theorem zuN (key : List Nat) (by_ : Nat) {i j : Nat} (h : j ≠ i) : zuM key by_ i j = znQ key by_ (i + 1) j := by
 unfold zuM znQ
 rw [if_neg h]
 by_cases h2 : j < i
 ·rw [if_pos h2, if_pos (by omega)]
 ·rw [if_neg h2, if_neg (by omega)]
theorem zBw (key : List Nat) (by_ i j : Nat) : upd (fun j => bv (zuM key by_ i j)) i (bv ((by_ % 256) ^^^ (key.getD i 0 % 256))) j = bv (znQ key by_ (i + 1) j) := by
 unfold upd
 by_cases h : j = i
 ·subst h; rw [if_pos rfl]; unfold znQ; rw [if_pos (by omega), Nat.xor_comm]
 ·rw [if_neg h]
  show bv (zuM key by_ i j) = _
  rw [zuN _ _ h]
theorem zx4 (key : List Nat) {by_ i : Nat} (hb : by_ < 256) (hi : key.length ≤ i) : (fun j => bv (zuM key by_ i j)) = fun j => bv (znQ key by_ (i + 1) j) := by
 funext j
 by_cases h : j = i
 ·subst h
  unfold zuM znQ
  rw [if_pos rfl, if_pos (by omega), jR, List.getElem?_eq_none hi, Nat.mod_eq_of_lt hb]
  simp
 ·rw [zuN _ _ h]
theorem zDU (key : List Nat) (by_ : Nat) : cl [.row 64 (fun j => bv (znQ key by_ 64 j))] = (zcW key by_).map bv := by
 simp only [cl, Chunk.cells, List.append_nil, zcW, List.map_map]
 apply List.map_congr_left
 intro i hi
 simp only [Function.comp, znQ, if_pos (List.mem_range.1 hi)]
theorem zx5 (gt : Nat → Nat) (key : List Nat) (ps : List (List Nat)) : zk0 gt [zcW key 92, zk0 gt [zcW key 54, ps.flatten]] = zm8 gt key ps := by
 have e : zk0 gt [zcW key 54, ps.flatten] = zk0 gt (zcW key 54 :: ps) := by rw [ziz, ziz]; simp
 rw [e, zm8]
end
section
def zai (v i : Nat) : Nat := v / 2 ^ (16 * i) % 65536
def zaP (X : Nat → Nat) : Nat → Nat
 | 0 => 0
 | i + 1 => zaP X i + X i * 2 ^ (16 * i)
theorem zaU (X : Nat → Nat) (i : Nat) : zaP X (i + 1) = zaP X i + X i * 2 ^ (16 * i) := rfl
theorem zb9 (X Y : Nat → Nat) : ∀ n, (∀ i, i < n → X i = Y i) → zaP X n = zaP Y n
 | 0, _ => rfl
 | n + 1, h => by rw [zaU, zaU, zb9 X Y n (fun i hi => h i (by omega)), h n (by omega)]
theorem zoG (m : Nat) : 2 ^ (16 * (m + 1)) = 2 ^ (16 * m) * 65536 := by rw [Nat.mul_add, Nat.pow_add]
theorem zgt (v : Nat) : ∀ n, zaP (zai v) n = v % 2 ^ (16 * n)
 | 0 => by simp [zaP, Nat.mod_one]
 | n + 1 => by
  rw [zaU, zgt v n, zoG, Nat.mod_mul]
  unfold zai
  rw [Nat.mul_comm (2 ^ (16 * n))]
theorem zkI (X : Nat → Nat) : ∀ n, (∀ i, i < n → X i < 65536) → zaP X n < 2 ^ (16 * n)
 | 0, _ => by simp [zaP]
 | n + 1, h => by
  have h1 := zkI X n (fun i hi => h i (by omega))
  have h2 := h n (by omega)
  rw [zaU, zoG]
  have h3 : X n * 2 ^ (16 * n) ≤ 65535 * 2 ^ (16 * n) := Nat.mul_le_mul_right _ (by omega)
  omega
theorem zx6 (X : Nat → Nat) (n : Nat) (hX : ∀ i, i < n → X i < 65536) (i : Nat) (hi : i < n) : zai (zaP X n) i = X i := by
 have up : ∀ m, i < m → m ≤ n → zai (zaP X m) i = X i := by
  intro m
  induction m with
  | zero => intro h; omega
  | succ m ih =>
   intro h hm
   have hl := zkI X m (fun j hj => hX j (by omega))
   by_cases him : i = m
   ·subst him
    unfold zai
    rw [zaU, Nat.add_mul_div_right _ _ (Nat.two_pow_pos _), Nat.div_eq_of_lt hl, Nat.zero_add, Nat.mod_eq_of_lt (hX i hi)]
   ·rw [← ih (by omega) (by omega)]
    unfold zai
    rw [zaU]
    have : 2 ^ (16 * m) = 2 ^ (16 * i) * (65536 * 2 ^ (16 * (m - i - 1))) := by
     rw [← Nat.mul_assoc, ← zoG, ← Nat.pow_add]
     congr 1
     omega
    rw [this, Nat.mul_left_comm, Nat.add_mul_div_left _ _ (Nat.two_pow_pos _), Nat.mul_left_comm (X m), Nat.add_mul_mod_self_left]
 exact up n hi (jV n)
theorem ziA (A B : Nat → Nat) (c : Nat) : ∀ n, zaP (fun i => A i + c * B i) n = zaP A n + c * zaP B n
 | 0 => by simp [zaP]
 | n + 1 => by
  simp only [zaU]
  rw [ziA A B c n, Nat.mul_add, Nat.add_mul, Nat.mul_assoc]
  omega
theorem zfH (L : Nat → Nat) (k : Nat) : ∀ n, zaP L (k + n) = zaP L k + 2 ^ (16 * k) * zaP (fun i => L (k + i)) n
 | 0 => by simp [zaP]
 | n + 1 => by
  rw [← Nat.add_assoc, zaU, zfH L k n, zaU, Nat.mul_add 16 k n, Nat.pow_add, Nat.mul_add, Nat.mul_left_comm (L (k + n)), Nat.add_assoc]
theorem zrF (L : Nat → Nat) : zaP (fun i => L i + 38 * L (16 + i)) 16 % pN = zaP L 32 % pN := by
 rw [ziA L (fun i => L (16 + i)) 38 16, zfH L 16 16, show (2 : Nat) ^ (16 * 16) = 38 + pN * 2 from by decide +kernel, Nat.add_mul, ← Nat.add_assoc, Nat.mul_assoc pN 2, Nat.add_mul_mod_self_left]
def ovR (X : Nat → Nat) : Nat → Nat
 | 0 => 0
 | m + 1 => (X m + ovR X m) / 65536
def loR (X : Nat → Nat) (m : Nat) : Nat := (X m + ovR X m) % 65536
theorem zqs (X : Nat → Nat) (m : Nat) : ovR X (m + 1) = (X m + ovR X m) / 65536 := rfl
theorem zuO (X : Nat → Nat) : ∀ m, zaP (loR X) m + ovR X m * 2 ^ (16 * m) = zaP X m
 | 0 => by simp [zaP, ovR]
 | m + 1 => by
  rw [zaU, zaU, ← zuO X m, zqs, zoG]
  unfold loR
  have h := Nat.div_add_mod (X m + ovR X m) 65536
  generalize (X m + ovR X m) / 65536 = d at *
  generalize (X m + ovR X m) % 65536 = r at *
  have e : X m * 2 ^ (16 * m) + ovR X m * 2 ^ (16 * m) = (65536 * d + r) * 2 ^ (16 * m) := by rw [h, Nat.add_mul]
  rw [Nat.add_mul, Nat.mul_comm 65536 d, Nat.mul_assoc d] at e
  rw [Nat.mul_comm (2 ^ (16 * m)) 65536]
  omega
theorem zuP (X : Nat → Nat) (hX : ∀ i, i < 16 → X i < 70368744177664) : ∀ m, m ≤ 16 → ovR X m < 2147483648
 | 0, _ => by unfold ovR; omega
 | m + 1, h => by
  have := zuP X hX m (by omega)
  have := hX m (by omega)
  rw [zqs]
  omega
theorem znh (X : Nat → Nat) (m : Nat) : loR X m < 65536 := Nat.mod_lt _ (by omega)
def zho (X : Nat → Nat) (i : Nat) : Nat := if i = 0 then loR X 0 + 38 * ovR X 16 else loR X i
theorem ziB (X Y : Nat → Nat) (h : ∀ i, 1 ≤ i → X i = Y i) : ∀ n, zaP X (n + 1) + Y 0 = zaP Y (n + 1) + X 0
 | 0 => by simp [zaP]; omega
 | n + 1 => by
  have := ziB X Y h n
  rw [zaU X (n + 1), zaU Y (n + 1), h (n + 1) (by omega)]
  omega
theorem zqt (X : Nat → Nat) : zaP (zho X) 16 + ovR X 16 * (pN * 2) = zaP X 16 := by
 have h1 := zuO X 16
 have h2 := ziB (zho X) (loR X) (fun i hi => by unfold zho; rw [if_neg (by omega)]) 15
 have e : zho X 0 = loR X 0 + 38 * ovR X 16 := by unfold zho; rw [if_pos rfl]
 rw [e] at h2
 rw [show (2 : Nat) ^ (16 * 16) = 38 + pN * 2 from by decide +kernel] at h1
 rw [Nat.mul_add] at h1
 simp only [Nat.reduceAdd] at h2
 generalize ovR X 16 * (pN * 2) = z at *
 omega
theorem zBx (X : Nat → Nat) (hX : ∀ i, i < 16 → X i < 70368744177664) (i : Nat) (_hi : i < 16) : zho X i < 70368744177664 := by
 have := zuP X hX 16 (by omega)
 have := znh X 0
 have := znh X i
 unfold zho
 split <;> omega
theorem zuQ (X : Nat → Nat) (h : ovR X 16 = 0) (i : Nat) : zho X i < 65536 := by
 have := znh X 0
 have := znh X i
 unfold zho
 rw [h]
 split <;> omega
theorem zDV : ∀ i, i < 16 → zai pN i = if i = 0 then 65517 else if i = 15 then 32767 else 65535 := by decide +kernel
theorem zbY (v i : Nat) : zai v i < 65536 := Nat.mod_lt _ (by omega)
theorem zqu (v i : Nat) : v / 2 ^ (16 * i) = v / 2 ^ (16 * (i + 1)) * 65536 + zai v i := by
 unfold zai
 rw [zoG, ← Nat.div_div_eq_div_mul]
 omega
theorem zuR (v p i : Nat) (h : v / 2 ^ (16 * (i + 1)) = p / 2 ^ (16 * (i + 1))) (hne : zai v i ≠ zai p i) : decide (v < p) = decide (zai v i < zai p i) := by
 have e1 := zqu v i
 have e2 := zqu p i
 rw [h] at e1
 apply decide_eq_decide.2
 constructor
 ·intro hl
  have := Nat.div_le_div_right (c := 2 ^ (16 * i)) (Nat.le_of_lt hl)
  omega
 ·intro hl
  have : v / 2 ^ (16 * i) < p / 2 ^ (16 * i) := by omega
  rcases Nat.lt_or_ge v p with h' | h'
  ·exact h'
  ·have := Nat.div_le_div_right (c := 2 ^ (16 * i)) h'
   omega
def boN (v p m : Nat) : Nat := if v % 2 ^ (16 * m) < p % 2 ^ (16 * m) then 1 else 0
theorem zqv (v p m : Nat) (h : p ≤ v) : (65536 + zai v m - zai p m - boN v p m) % 65536 = zai (v - p) m ∧ 1 - (65536 + zai v m - zai p m - boN v p m) / 65536 = boN v p (m + 1) := by
 have hv := Nat.div_add_mod v (2 ^ (16 * m))
 have hp := Nat.div_add_mod p (2 ^ (16 * m))
 have pos := Nat.two_pow_pos (16 * m)
 have lv := Nat.mod_lt v pos
 have lp := Nat.mod_lt p pos
 have mv : v % 2 ^ (16 * (m + 1)) = v % 2 ^ (16 * m) + 2 ^ (16 * m) * zai v m := by rw [zoG, Nat.mod_mul]; rfl
 have mp : p % 2 ^ (16 * (m + 1)) = p % 2 ^ (16 * m) + 2 ^ (16 * m) * zai p m := by rw [zoG, Nat.mod_mul]; rfl
 have key : (v - p) / 2 ^ (16 * m) = v / 2 ^ (16 * m) - p / 2 ^ (16 * m) - boN v p m := by
  have hle := Nat.div_le_div_right (c := 2 ^ (16 * m)) h
  unfold boN
  generalize 2 ^ (16 * m) = B at *
  generalize v / B = A at *
  generalize p / B = C at *
  obtain ⟨D, rfl⟩ : ∃ D, A = C + D := ⟨A - C, by omega⟩
  rw [Nat.mul_add] at hv
  split
  ·rename_i hlt
   have hD : D ≠ 0 := by
    intro e
    rw [e, Nat.mul_zero] at hv
    omega
   obtain ⟨E, rfl⟩ : ∃ E, D = E + 1 := ⟨D - 1, by omega⟩
   rw [Nat.mul_add, Nat.mul_one] at hv
   rw [show v - p = v % B + B - p % B + B * E from by omega, Nat.add_mul_div_left _ _ pos, Nat.div_eq_of_lt (by omega)]
   omega
  ·rw [show v - p = v % B - p % B + B * D from by omega, Nat.add_mul_div_left _ _ pos, Nat.div_eq_of_lt (by omega)]
   omega
 have pv := zbY v m
 have pp := zbY p m
 have hb : boN v p m ≤ 1 := by unfold boN; split <;> omega
 constructor
 ·have hle := Nat.div_le_div_right (c := 2 ^ (16 * m)) h
  have hpos : boN v p m + p / 2 ^ (16 * m) ≤ v / 2 ^ (16 * m) := by
   unfold boN
   split
   ·rename_i hlt
    rcases Nat.lt_or_ge (p / 2 ^ (16 * m)) (v / 2 ^ (16 * m)) with h' | h'
    ·omega
    ·have e : v / 2 ^ (16 * m) = p / 2 ^ (16 * m) := by omega
     rw [e] at hv
     omega
   ·omega
  have e3 : zai (v - p) m = (v / 2 ^ (16 * m) - p / 2 ^ (16 * m) - boN v p m) % 65536 := by unfold zai; rw [key]
  rw [e3]
  unfold zai at *
  omega
 ·have hb2 : boN v p (m + 1) = if zai v m < zai p m + boN v p m then 1 else 0 := by
   unfold boN
   rw [mv, mp]
   generalize 2 ^ (16 * m) = B at *
   generalize v % B = a at *
   generalize p % B = b at *
   rcases Nat.lt_trichotomy (zai v m) (zai p m) with h1 | h1 | h1
   ·have : B * zai v m + B ≤ B * zai p m := by rw [← Nat.mul_succ]; exact Nat.mul_le_mul_left B h1
    rw [if_pos (by omega), if_pos (by omega)]
   ·rw [h1]
    by_cases h2 : a < b
    ·rw [if_pos (by omega), if_pos h2, if_pos (by omega)]
    ·rw [if_neg (by omega), if_neg h2, if_neg (by omega)]
   ·have : B * zai p m + B ≤ B * zai v m := by rw [← Nat.mul_succ]; exact Nat.mul_le_mul_left B h1
    rw [if_neg (by omega)]
    by_cases h2 : a < b
    ·rw [if_pos h2, if_neg (by omega)]
    ·rw [if_neg h2, if_neg (by omega)]
  rw [hb2]
  split <;> omega
theorem zBy (v p : Nat) : boN v p 0 = 0 := by unfold boN; simp [Nat.mod_one]
end
section
theorem zqw : 0 < pN := by unfold pN; omega
theorem zBz (L : Nat → Nat) (h : ∀ i, 16 ≤ i → L i = 0) : zaP L 32 = zaP L 16 := by
 rw [zfH L 16 16, zb9 (fun i => L (16 + i)) (fun _ => 0) 16 (fun i _ => h _ (by omega))]
 have : ∀ n, zaP (fun _ => 0) n = 0 := by
  intro n
  induction n with
  | zero => rfl
  | succ n ih => rw [zaU, ih, Nat.zero_mul]
 rw [this, Nat.mul_zero, Nat.add_zero]
theorem zrH (A B : Nat → Nat) (n : Nat) : zaP (fun i => A i + B i) n = zaP A n + zaP B n := by
 have := ziA A B 1 n
 rw [Nat.one_mul] at this
 rw [← this]
 exact zb9 _ _ n (fun i _ => by rw [Nat.one_mul])
def zrI (a b : Nat) (i : Nat) : Nat := if i < 16 then zai a i + zai b i else 0
theorem zqx (a b : Nat) (ha : a < 2 ^ 256) (hb : b < 2 ^ 256) : zaP (zrI a b) 32 = a + b := by
 rw [zBz _ (fun i hi => by unfold zrI; rw [if_neg (by omega)]), zb9 (zrI a b) (fun i => zai a i + zai b i) 16 (fun i hi => by unfold zrI; rw [if_pos hi]), zrH, zgt, zgt, Nat.mod_eq_of_lt ha, Nat.mod_eq_of_lt hb]
theorem zuS (a b i : Nat) : zrI a b i < 1099511627776 := by
 have := zbY a i
 have := zbY b i
 unfold zrI
 split <;> omega
theorem ziC (X : Nat → Nat) (c t : Nat) : ∀ n, zaP (fun j => X j + if c = j then t else 0) n = zaP X n + if c < n then t * 2 ^ (16 * c) else 0
 | 0 => rfl
 | n + 1 => by
  rw [zaU, ziC X c t n, zaU, Nat.add_mul]
  by_cases h : c = n
  ·subst h
   rw [if_pos rfl, if_neg (by omega), if_pos (by omega)]
   omega
  ·rw [if_neg h, Nat.zero_mul]
   by_cases h2 : c < n
   ·rw [if_pos h2, if_pos (by omega)]; omega
   ·rw [if_neg h2, if_neg (by omega)]; omega
def zhb (A B : Nat → Nat) : Nat → Nat → Nat
 | 0, _ => 0
 | n + 1, c => zhb A B n c + if n / 16 + n % 16 = c then A (n / 16) * B (n % 16) else 0
theorem ziD (A B : Nat → Nat) (n c : Nat) : zhb A B (n + 1) c = zhb A B n c + if n / 16 + n % 16 = c then A (n / 16) * B (n % 16) else 0 := rfl
theorem zuT (A B : Nat → Nat) (hA : ∀ i, i < 16 → A i < 65536) (hB : ∀ i, i < 16 → B i < 65536) (c : Nat) : ∀ n, n ≤ 256 → zhb A B n c ≤ n * 4294836225
 | 0, _ => by unfold zhb; omega
 | n + 1, h => by
  have h1 := zuT A B hA hB c n (by omega)
  have ha := hA (n / 16) (by omega)
  have hb := hB (n % 16) (by omega)
  rw [ziD]
  have h2 : A (n / 16) * B (n % 16) ≤ 4294836225 := jU (Nat.mul_le_mul (show A (n / 16) ≤ 65535 by omega) (show B (n % 16) ≤ 65535 by omega)) (by decide)
  rw [Nat.succ_mul]
  refine Nat.add_le_add h1 ?_
  split
  ·exact h2
  ·exact Nat.zero_le _
theorem ze9 (X : Nat → Nat) : zaP X 0 = 0 := rfl
theorem zgW (X : Nat → Nat) (h : ∀ i, X i = 0) : ∀ n, zaP X n = 0
 | 0 => rfl
 | n + 1 => by rw [zaU, zgW X h n, h n, Nat.zero_mul]
theorem zx7 (A B : Nat → Nat) (N : Nat) (hN : 32 ≤ N) : ∀ i, i ≤ 16 → ∀ k, k ≤ 16 → i * 16 + k ≤ 256 → zaP (zhb A B (16 * i + k)) N = zaP A i * zaP B 16 + A i * 2 ^ (16 * i) * zaP B k := by
 have step : ∀ i k, i < 16 → k < 16 → zaP (zhb A B (16 * i + (k + 1))) N = zaP (zhb A B (16 * i + k)) N + A i * B k * 2 ^ (16 * (i + k)) := by
  intro i k hi hk
  have e : ∀ c, zhb A B (16 * i + (k + 1)) c = zhb A B (16 * i + k) c + if i + k = c then A i * B k else 0 := by
   intro c
   rw [← Nat.add_assoc, ziD]
   rw [show (16 * i + k) / 16 = i from by omega, show (16 * i + k) % 16 = k from by omega]
  rw [zb9 _ _ N (fun c _ => e c), ziC, if_pos (by omega)]
 have row : ∀ i, i < 16 → ∀ v, zaP (zhb A B (16 * i)) N = v → ∀ k, k ≤ 16 → zaP (zhb A B (16 * i + k)) N = v + A i * 2 ^ (16 * i) * zaP B k := by
  intro i hi v hv k
  induction k with
  | zero => intro _; rw [Nat.add_zero, hv, ze9, Nat.mul_zero, Nat.add_zero]
  | succ k ih =>
   intro hk
   rw [step i k hi (by omega), ih (by omega), zaU B k, Nat.mul_add 16 i k, Nat.pow_add, Nat.mul_add, Nat.mul_mul_mul_comm, Nat.add_assoc]
 have heads : ∀ i, i ≤ 16 → zaP (zhb A B (16 * i)) N = zaP A i * zaP B 16 := by
  intro i
  induction i with
  | zero => intro _; rw [Nat.mul_zero, zgW (zhb A B 0) (fun _ => rfl), ze9, Nat.zero_mul]
  | succ i ih =>
   intro hi
   rw [show 16 * (i + 1) = 16 * i + 16 from by omega, row i (by omega) _ (ih (by omega)) 16 (jV _), zaU A i, Nat.add_mul]
 intro i hi k hk h
 by_cases h16 : i = 16
 ·obtain rfl : k = 0 := by omega
  rw [Nat.add_zero, heads i hi, ze9, Nat.mul_zero, Nat.add_zero]
 ·exact row i (by omega) _ (heads i hi) k hk
theorem zBA (a b : Nat) (ha : a < 2 ^ 256) (hb : b < 2 ^ 256) : zaP (zhb (zai a) (zai b) 256) 32 = a * b := by
 have := zx7 (zai a) (zai b) 32 (by omega) 16 (by omega) 0 (by omega) (by omega)
 rw [zgt, zgt, Nat.mod_eq_of_lt ha, Nat.mod_eq_of_lt hb, ze9, Nat.mul_zero, Nat.add_zero] at this
 exact this
theorem zju (v i : Nat) : zai v i % 256 = v / 2 ^ (8 * (2 * i)) % 256 ∧ zai v i / 256 = v / 2 ^ (8 * (2 * i + 1)) % 256 := by
 unfold zai
 rw [show 8 * (2 * i) = 16 * i from by omega, show 8 * (2 * i + 1) = 16 * i + 8 from by omega, Nat.pow_add, ← Nat.div_div_eq_div_mul]
 constructor <;> omega
theorem zuU (v : Nat) : v % pN < 2 ^ 256 := Nat.lt_trans (Nat.mod_lt _ zqw) (by unfold pN; decide +kernel)
theorem zx9 : pN < 2 ^ 256 := by unfold pN; decide +kernel
def zfI (a : Nat) : Nat → Nat
 | 0 => 1
 | k + 1 => if k = 252 ∨ k = 250 then zfI a k * zfI a k % pN else zfI a k * zfI a k % pN * a % pN
theorem zgu (a k : Nat) : zfI a (k + 1) = if k = 252 ∨ k = 250 then zfI a k * zfI a k % pN else zfI a k * zfI a k % pN * a % pN := rfl
theorem zBB : ∀ k, k < 255 → (pN - 2) / 2 ^ (255 - (k + 1)) = 2 * ((pN - 2) / 2 ^ (255 - k)) + if k = 252 ∨ k = 250 then 0 else 1 := by unfold pN; decide +kernel
theorem zuV (a : Nat) : ∀ k, zfI a k < pN
 | 0 => by unfold zfI pN; omega
 | k + 1 => by rw [zgu]; split <;> exact Nat.mod_lt _ zqw
theorem zqy (a : Nat) : ∀ k, k ≤ 255 → zfI a k % pN = zcN a ((pN - 2) / 2 ^ (255 - k)) % pN
 | 0, _ => by
  rw [show (pN - 2) / 2 ^ (255 - 0) = 0 from by unfold pN; decide +kernel]
  unfold zfI zcN
  rw [Nat.pow_zero]
 | k + 1, h => by
  have ih := zqy a k (by omega)
  rw [zgu, zBB k (by omega)]
  generalize (pN - 2) / 2 ^ (255 - k) = e at *
  have sq : zfI a k * zfI a k % pN = zcN a (e * 2) % pN := by
   rw [Nat.mul_mod, ih, ← Nat.mul_mod, Nat.mul_two, ← zhA]
  split
  ·rw [Nat.mod_mod, sq, Nat.add_zero, Nat.mul_comm]
  ·rw [Nat.mod_mod, Nat.mul_mod, Nat.mod_mod, sq, ← Nat.mul_mod, Nat.mul_comm 2, ← zhA, zkr]
theorem zya (a : Nat) : zfI a 255 % pN = zcN a (pN - 2) % pN := by
 have := zqy a 255 (jV _)
 rwa [Nat.sub_self, Nat.pow_zero, Nat.div_one] at this
theorem zqz (v i : Nat) : zai v i % 256 = zaO v (2 * i) := by rw [(zju v i).1]; unfold zaO; rfl
theorem zni (v i : Nat) : zai v i / 256 = zaO v (2 * i + 1) := by rw [(zju v i).2]; unfold zaO; rfl
theorem hi8 (x m : Nat) (h : m % 2 = 1) : 256 * x * 2 ^ (16 * (m / 2)) = x * 2 ^ (8 * m) := by
 rw [show 8 * m = 16 * (m / 2) + 8 from by omega, Nat.pow_add]
 generalize 2 ^ (16 * (m / 2)) = z
 rw [show (2 : Nat) ^ 8 = 256 from rfl, Nat.mul_comm 256 x, Nat.mul_assoc, Nat.mul_comm 256 z]
theorem zBC (L : Nat → Nat) (c t v : Nat) (hc : c < 32) (h : zaP L 32 + t * 2 ^ (16 * c) = v) : zaP (fun j => L j + if c = j then t else 0) 32 = v := by
 rw [ziC, if_pos hc, h]
end
end Go.Proofs.YtcmmpiaogfnmoaaGreatDoor
