/- slices.Clone, by computing. SHA-256 by computing: bytes taken; a new one; the sum. The walks of texts: copies, sameness, a number's bytes. Sums with a key, keys of keys, plainly. No program is in sight. Sums with a key, by computing. SHA-256 of the document, plainly: the same as the program's. No program is in sight. The walk of the reference's Bytes. The walk of slices.Clone of a text. The walks of bits.Len64 and of wire.fits: whether a number has room in so many bytes. x[i] of an array that is a value; no program is in sight. The walks of layer 5: whether numbers may be. The walks of layer 5 -/
import Derived.Test.YtcmmpiaogfnmoaaGreatDoorStateSecretsD
import Derived.Test.YtcmmpiaogfnmoaaGreatDoorRows
import Derived.Lib.Tables
import Derived.Lib.BitFns
import Derived.Great.Walk
import Derived.Laws.Bits64b
import Derived.Lib.Mul64
import Derived.Laws.Externs
set_option linter.unusedSimpArgs false
set_option linter.unusedVariables false
set_option maxRecDepth 200000
set_option maxHeartbeats 6000000
namespace Go.Proofs.YtcmmpiaogfnmoaaGreatDoor
section
open Go.RowKit
section
variable {X : List Nat} {w : World}
theorem znF (hX : ∀ k ∈ X, k < w.heap.size) (xs : List Nat) (q : Qd) (hq : St (SlQ ByT xs q) w X) (hl : xs.length * 1 ≤ 140737488355328) : Ct Tryz.prog 67 [.slice q.1 xs.length q.2] X w (.a (.s (.p (.hd 0 xs.length)))) [zbA ByT xs 5] [.q 0 (zc3 ByT xs)] := by
 have hbig := SlQ.big hq
 refine vFn (k0 := 1) (rs := [.tmp 2]) (svs := [.a (.s (.p (.hd 0 xs.length)))]) (R0 := [.sl 0 xs.length (SlF ByT xs), .h 0 fun q' _ => q' = q]) (hnQ [q]) Tryz.ntmps67 Tryz.func67 rfl rfl rfl rfl rfl zan (by kernel_rfl) hX (fun r hr => by
  rcases List.mem_cons.1 hr with rfl | hr
  ·exact hq
  ·rcases List.mem_singleton.1 hr with rfl; exact fun _ _ => rfl) ?_
 conv => whnf
 refine zb4 (zxZ 1 rfl rfl rfl rfl (by kernel_rfl)) rfl rfl ?_
 conv => whnf
 refine vIf (fun h => ?_) fun h => ?_
 ·obtain rfl : xs = [] := List.eq_nil_of_length_eq_zero (hq.now.1 (Option.isNone_iff_eq_none.1 h))
  conv => whnf
  exact zaZ [(0, 1)] [0] (.inr rfl) ⟨.inr ⟨rfl, rfl, fun _ => rfl⟩, trivial⟩ rfl ⟨.inr fun _ _ _ _ => zf8, trivial⟩
 ·conv => whnf
  refine zbO (zx0 (T := ByT) (e := 5) rfl (by kernel_rfl) (by kernel_rfl)) rfl rfl ?_
  conv => whnf
  refine zaT (zns (.q 1 (zc3 ByT [])) (fun _ _ _ => zf8) rfl (zBf (T := ByT) (e := 5) (xs := []) (ys := xs) (r := 1) (by_ := 1) zzY rfl rfl rfl rfl rfl ⟨by kernel_rfl, by kernel_rfl⟩ (by simp; exact hbig) (by simpa using hl) rfl rfl (.head _))) ?_
  rw [List.nil_append]
  conv => whnf
  exact zaZ [(0, 2)] [0] (.inl rfl) ⟨.inl rfl, trivial⟩ rfl ⟨.inl rfl, trivial⟩
end
end
section
open Go.RowKit
section
variable {x k : Nat} {j : Int} {A : Int → Prop}
theorem zlU (hj : j = (k : Int)) (hk : k ≤ 64) (h : A ((x * 2 ^ k % 18446744073709551616 : Nat) : Int)) : 0 ≤ j ∧ ∃ z, IntKind.u64.wrap ((x : Int) * 2 ^ (min j.toNat IntKind.u64.bits)) = z ∧ A z := ⟨by omega, _, by
 rw [← zoT, hj, Int.toNat_natCast, show IntKind.u64.bits = 64 from rfl, Nat.min_eq_left hk]
 norm_cast, h⟩
theorem zrU (hj : j = (k : Int)) (hk : k ≤ 64) (h : A ((x / 2 ^ k : Nat) : Int)) : 0 ≤ j ∧ ∃ z, ((x : Int)).fdiv (2 ^ (min j.toNat IntKind.u64.bits)) = z ∧ A z := ⟨by omega, _, by
 rw [zAO, hj, Int.toNat_natCast, show IntKind.u64.bits = 64 from rfl, Nat.min_eq_left hk], h⟩
theorem zEg {z z' : Int} (e : z = z') (h1 : 0 ≤ z) (h2 : z ≤ 18446744073709551615) (h : A z') : ∃ x, IntKind.u64.wrap z = x ∧ A x := ⟨z', by rw [zw6 h1 h2, e], h⟩
theorem zb8 (h : A ((x % 256 : Nat) : Int)) : ∃ z, IntKind.u8.wrap (x : Int) = z ∧ A z := ⟨_, zDR x, h⟩
theorem ziM {c : Nat} (hc : j = (c : Int)) (h0 : c ≠ 0) (h : A ((x % c : Nat) : Int)) : j ≠ 0 ∧ ∃ z, ((x : Int)).tmod j = z ∧ A z := ⟨by omega, _, by
 rw [hc, Int.tmod_eq_emod_of_nonneg (by omega)]
 norm_cast, h⟩
end
def zuJ (h : Nat → Nat) (n : Nat) (rest : List Nat) : MB := [(0, zF5 h n rest.length), (1, zdK rest 5)]
section
variable {X : List Nat} {w : World} {h0 : Hn} {gt h h2 : Nat → Nat} {rest bs r2 : List Nat} {n : Nat} {q : Qd}
theorem zuK (hF : zfK gt h (rest ++ bs) = (h2, r2)) (hN : n + bs.length ≤ 4611686018427387904) (hrl : rest.length ≤ 64) (hbl : bs.length ≤ 100000000) (hrb : ∀ x ∈ rest, x < 256) (hbb : ∀ x ∈ bs, x < 256) (hsp : Sp X w (zaf h0 [] (zuJ h n rest)) [zbH gt 2, TxQ bs q]) :
  CtG Tryz.prog 115 [.pointer (some ⟨h0.b 0, 0, none⟩), .slice q.1 bs.length q.2] X w h0 (zuJ h n rest) [0] (.tup []) [(0, zFG 2 h2 ((n + bs.length : Nat) : Int) r2.length), (2, zdK r2 5)] [] := by
 refine zzW (g := 2) (k0 := 3) (bl := []) (ql := [q]) (svs := [atS 0 0, .a (.s (.p (.hd 2 bs.length)))]) (given := zuJ h n rest) (Rg := [.c (zbH gt 2), .sl 2 bs.length (TxG bs)]) (kb := [0]) Tryz.ntmps115 Tryz.func115 rfl rfl rfl zan (by kernel_rfl) rfl rfl hsp ?_
 have hall : ∀ x ∈ rest ++ bs, x < 256 := fun x hx => (List.mem_append.1 hx).elim (hrb x) (hbb x)
 have hal : (rest ++ bs).length ≤ 140737488355328 := by rw [jQ]; omega
 conv => whnf
 refine zA9 (by omega) (by show ((bs.length : Nat) : Int) ≤ _; omega) ?_
 conv => whnf
 refine ⟨((n + bs.length : Nat) : Int), by show IntKind.u64.wrap ((n : Int) + ((bs.length : Nat) : Int)) = _; rw [zw6 (by omega) (by omega)]; omega, ?_⟩
 conv => whnf
 refine zaT (zjS 3 (zg1 (xs := rest) (ys := bs) (r := 2) (e := 5) rfl rfl rfl rfl rfl rfl ⟨by kernel_rfl, by kernel_rfl⟩ (by rw [jQ] at hal; exact hal) rfl rfl) rfl hal hall) ?_
 conv => whnf
 refine ⟨(Nat → Nat) × List Nat, fun k l m R g => ⟨k, (4, .a (.s (.p (.hd 3 g.2.length)))) :: za2 [0] l, (0, zFG 1 g.1 ((n + bs.length : Nat) : Int) rest.length) :: m, .sl 3 g.2.length (TxG g.2) :: R.drop 1⟩, fun g => zfK gt g.1 g.2 = (h2, r2) ∧ g.2.length ≤ (rest ++ bs).length ∧ ∀ x ∈ g.2, x < 256, fun g => g.2.length, ⟨(h, rest ++ bs), [], [0, 1, 2, 3], ⟨hF, jV _, hall⟩, za3⟩, fun g hg => ?_⟩
 obtain ⟨hh, rs⟩ := g
 obtain ⟨hf, hlen, hby⟩ : zfK gt hh rs = (h2, r2) ∧ rs.length ≤ (rest ++ bs).length ∧ ∀ x ∈ rs, x < 256 := hg
 conv => whnf
 refine vIf (fun hc => ?_) fun hc => ?_
 ·have h64 : 64 ≤ rs.length := by
   have : (64 : Int) ≤ ((rs.length : Nat) : Int) := by simpa [Sl.len] using hc
   omega
  obtain ⟨bk, hbk⟩ : ∃ bk, bk = (rs.drop 0).take (64 - 0) := ⟨_, rfl⟩
  have hbl : bk.length = 64 := by rw [hbk]; simp; omega
  have hbk2 : bk = rs.take 64 := by rw [hbk]; simp
  obtain ⟨r3, hr3⟩ : ∃ r3, r3 = (rs.drop 64).take (rs.length - 64) := ⟨_, rfl⟩
  have hr32 : r3 = rs.drop 64 := by rw [hr3, List.take_of_length_le (by rw [List.length_drop]; omega)]
  have hrl : r3.length < rs.length := by rw [hr32, List.length_drop]; omega
  conv => whnf
  refine zaK 5 [] (by kernel_rfl) ?_
  conv => whnf
  refine zaA (zgs bk (lo := 0) (hi := 64) 0 hbk rfl (Nat.zero_le _) h64 fun h w hf => zit rfl (by kernel_rfl) rfl rfl rfl (by have := hf.cap; omega)) ?_
  conv => whnf
  refine zaH (za4 [0, 1] 0 rfl rfl rfl (by kernel_rfl) (fs := fun _ => []) (cs := fun _ => []) (fun h => rfl) rfl rfl (given := zEe hh ((n + bs.length : Nat) : Int) rest.length) ⟨rfl, rfl, trivial⟩ rfl rfl rfl rfl rfl rfl fun h X w L2 H => zEf hbl (H.pick [3, 0] rfl)) ?_
  conv => whnf
  refine zbO (zgs r3 (lo := 64) (hi := rs.length) 1 hr3 rfl h64 (jV _) fun h w hf => ziu rfl (by kernel_rfl) rfl rfl rfl h64) rfl rfl ?_
  conv => whnf
  exact ⟨(zft gt hh bk, r3), [(3, 5), (0, 0), (1, 1)], [0, 3, 4, 5], ⟨⟨by rw [hbk2, hr32, ← zd0 h64]; exact hf, jU (Nat.le_of_lt hrl) hlen, fun x hx => hby x (by rw [hr32] at hx; exact List.mem_of_mem_drop hx)⟩, hrl⟩, za3⟩
 have h64 : ¬ 64 ≤ rs.length := fun h => by
   have : ¬ (64 : Int) ≤ ((rs.length : Nat) : Int) := by simpa [Sl.len] using hc
   omega
 obtain ⟨rfl, rfl⟩ := Prod.mk.inj ((zdd h64).symm.trans hf)
 conv => whnf
 refine zae rfl rfl rfl (by kernel_rfl) (fun h X w H => znF H.xk rs _ (zqS (H.fact 0 rfl)) (by omega)) rfl rfl rfl ?_
 conv => whnf
 exact zdJ [(0, 0), (2, 4)] [] [2] (.inl rfl) ⟨.inl rfl, .inl rfl, trivial⟩ rfl trivial ⟨rfl, trivial⟩
theorem zEh (hX : ∀ k ∈ X, k < w.heap.size) : Ct Tryz.prog 114 [] X w (.a (.agg [.row 8 fun i => u32 (iv0 i), .one (.p (.v (.int .u64 0))), .one (.p (.v (.slice none 0 0)))])) [] [] := by
 refine vFn (k0 := 0) (rs := [.cell 0 150]) (svs := []) (R0 := []) (hnQ []) Tryz.ntmps114 Tryz.func114 rfl rfl rfl rfl rfl zan (by kernel_rfl) hX (fun r hr => by cases hr) ?_
 conv => whnf
 refine ⟨fun i => u32 (iv0 i), ⟨rfl, rfl, rfl, rfl, rfl, rfl, rfl, rfl, trivial⟩, ?_⟩
 conv => whnf
 refine ⟨fun i _ => rfl, ?_⟩
 conv => whnf
 exact zav rfl
theorem zuL (hX : ∀ k ∈ X, k < w.heap.size) (hn : n ≤ 1000000000000000000) (hrl : rest.length ≤ 64) (hq : St (TxQ rest q) w X) (hG : St (zbH gt 2) w X) : Ct Tryz.prog 116 [.agg (ca [.row 8 fun i => u32 (h i), .one (.int .u64 ((n : Nat) : Int)), .one (.slice q.1 rest.length q.2)])] X w (.a (.agg [.key (zFF gt h n rest)])) [] [] := by
 have hrb : ∀ x ∈ rest, x < 256 := hq.now.2.byt
 have hP : (n + 8) % 64 < 64 := Nat.mod_lt _ (by decide)
 refine vFn (k0 := 1) (rs := [.cell 2 23]) (svs := [.a (.agg [.row 8 fun i => u32 (h i), .one (.p (.v (.int .u64 ((n : Nat) : Int)))), .one (.p (.hd 0 rest.length))])]) (R0 := [.c (zbH gt 2), .sl 0 rest.length (TxG rest)]) (hnQ [q]) Tryz.ntmps116 Tryz.func116 rfl rfl rfl rfl rfl zan (by kernel_rfl) hX (fun r hr => by
  rcases List.mem_cons.1 hr with rfl | hr
  ·exact hG
  ·rcases List.mem_singleton.1 hr with rfl; exact hq) ?_
 conv => whnf
 refine zlU (k := 3) rfl (by decide) ?_
 conv => whnf
 have e1 : (n : Int) + 8 = ((n + 8 : Nat) : Int) := by omega
 refine zEg e1 (by omega) (by omega) ?_
 conv => whnf
 refine ziM (c := 64) rfl (by decide) ?_
 conv => whnf
 refine zc2 (by omega) (by omega) ?_
 conv => whnf
 have e2 : (64 : Int) - (((n + 8) % 64 : Nat) : Int) = ((64 - (n + 8) % 64 : Nat) : Int) := by omega
 refine zbi e2 (by omega) (by omega) ?_
 conv => whnf
 obtain ⟨pl, hpl⟩ : ∃ pl, pl = 64 - (n + 8) % 64 := ⟨_, rfl⟩
 rw [← hpl]
 refine zbO (zzX (e := 5) pl ⟨by kernel_rfl, by kernel_rfl, by kernel_rfl⟩ rfl rfl rfl rfl rfl (c := 128) (by omega) (by decide)) rfl rfl ?_
 conv => whnf
 refine ⟨0, ⟨rfl, by omega, by simp; omega⟩, ?_⟩
 conv => whnf
 refine zaH (zEb (zst n) ?_ zan rfl (by simp; omega) rfl rfl rfl rfl) ?_
 ·rw [hpl, show 64 - (n + 8) % 64 = (63 - (n + 8) % 64) + 1 by omega]
  rfl
 have hpl2 : pl = (zst n).length := by rw [zkY, hpl]
 have hplb : pl ≤ 64 := by omega
 clear hpl
 subst hpl2
 conv => whnf
 refine ⟨Nat × List Nat, fun k l m R g => ⟨k, (5, zaD .i64 (7 - (g.1 : Int))) :: (4, .a (.s (.p (.hd 3 g.2.length)))) :: za2 [1, 2, 3] l, (3, zdK g.2 5) :: m, R⟩, fun g => g.1 ≤ 8 ∧ g.2 = zst n ++ zsu (n * 2 ^ 3 % 18446744073709551616) g.1, fun g => 8 - g.1, ⟨(0, zst n), [], [0, 1], ⟨Nat.zero_le _, by simp [zsu]⟩, za3⟩, fun g hg => ?_⟩
 obtain ⟨j, tl⟩ := g
 obtain ⟨hj8, htl⟩ : j ≤ 8 ∧ tl = zst n ++ zsu (n * 2 ^ 3 % 18446744073709551616) j := hg
 have htll : tl.length = (zst n).length + j := by rw [htl, jQ, zkZ]
 conv => whnf
 refine vIf (fun hc => ?_) fun hc => ?_
 ·have hj : j < 8 := by
   have : (0 : Int) ≤ 7 - (j : Int) := by simpa using hc
   omega
  conv => whnf
  have e3 : (8 : Int) * (7 - (j : Int)) = ((8 * (7 - j) : Nat) : Int) := by omega
  refine zbi e3 (by show (-9223372036854775808 : Int) ≤ 8 * (7 - (j : Int)); omega) (by show 8 * (7 - (j : Int)) ≤ _; omega) ?_
  conv => whnf
  refine zrU (k := 8 * (7 - j)) rfl (by omega) ?_
  conv => whnf
  refine zb8 ?_
  conv => whnf
  refine zaT (zpd (b := n * 2 ^ 3 % 18446744073709551616 / 2 ^ (8 * (7 - j)) % 256) (zst n ++ zsu (n * 2 ^ 3 % 18446744073709551616) (j + 1)) (by rw [zuH, htl, List.append_assoc]) rfl rfl rfl rfl rfl rfl ⟨by kernel_rfl, by kernel_rfl⟩ (by show tl.length + 1 ≤ _; omega) rfl rfl rfl) ?_
  conv => whnf
  have e4 : (7 : Int) - (j : Int) - 1 = 7 - ((j + 1 : Nat) : Int) := by omega
  refine zbi e4 (by show (-9223372036854775808 : Int) ≤ 7 - (j : Int) - 1; omega) (by show 7 - (j : Int) - 1 ≤ _; omega) ?_
  conv => whnf
  exact ⟨(j + 1, zst n ++ zsu (n * 2 ^ 3 % 18446744073709551616) (j + 1)), [(1, 1), (2, 2), (3, 5)], [0, 1], ⟨⟨hj, rfl⟩, Nat.sub_lt_sub_left hj (Nat.lt_succ_self j)⟩, za3⟩
 have hj8' : j = 8 := by
   have : ¬ (0 : Int) ≤ 7 - (j : Int) := by simpa using hc
   omega
 subst hj8'
 obtain ⟨⟨h2, r2⟩, hF⟩ : ∃ hr, zfK gt h (rest ++ tl) = hr := ⟨_, rfl⟩
 have hA : tl.length ≤ 72 := by omega
 have htb : ∀ x ∈ tl, x < 256 := fun x hx => by
  rw [htl] at hx
  exact (List.mem_append.1 hx).elim (znB n x) (znC _ _ x)
 conv => whnf
 refine zae rfl rfl rfl (by kernel_rfl) (fun h X w H => znF H.xk rest _ (zqS (H.fact 1 rfl)) (by omega)) rfl rfl rfl ?_
 conv => whnf
 refine zaT (zgr (xs := tl) 3 rfl (by omega) htb rfl (za4 [1, 4] 1 rfl rfl rfl (by kernel_rfl) (fs := fun _ => []) (cs := fun _ => []) (fun h => rfl) rfl rfl (given := zuJ h n rest) ⟨rfl, rfl, trivial⟩ rfl rfl rfl rfl rfl rfl fun h X w L2 H => zuK (bs := tl) hF (by omega) hrl (by omega) hrb htb (H.pick [2, 0] rfl))) ?_
 conv => whnf
 refine ⟨Nat, fun k l m R i => ⟨k, (40, zaD .i64 i) :: za2 [2, 39] l, (2, .blk [.key (zdt h2 i)] 23) :: m, []⟩, fun i => i ≤ 8, fun i => 8 - i, ⟨0, [], [], Nat.zero_le _, za3⟩, fun i hi => ?_⟩
 conv => whnf
 refine vIf (fun hc => ?_) fun hc => ?_
 ·have hi2 : i < 8 := by
   have : (i : Int) < 8 := by simpa using hc
   omega
  conv => whnf
  refine ⟨i, ⟨rfl, hi2⟩, ?_⟩
  conv => whnf
  have e5 : (4 : Int) * (i : Int) = ((4 * i : Nat) : Int) := by omega
  refine zbi e5 (by omega) (by omega) ?_
  conv => whnf
  refine zD7 (slS 2 (4 * i) (32 - 4 * i) (32 - 4 * i)) (zEc rfl (by kernel_rfl) rfl rfl rfl (by omega)) rfl rfl ?_
  conv => whnf
  refine zrW (k := 24) rfl ?_
  conv => whnf
  refine zb8 ?_
  conv => whnf
  refine zrW (k := 16) rfl ?_
  conv => whnf
  refine zb8 ?_
  conv => whnf
  refine zrW (k := 8) rfl ?_
  conv => whnf
  refine zb8 ?_
  conv => whnf
  refine zb8 ?_
  conv => whnf
  refine zaH (zxY (ys := zpe (h2 i)) (zdt h2 (i + 1)) (zfM h2 i).symm rfl rfl (fun _ => rfl) rfl rfl rfl rfl (ze6 h2 i).symm (by kernel_rfl) (by omega) (by omega)) ?_
  conv => whnf
  refine zc2 (by omega) (by omega) ?_
  conv => whnf
  exact ⟨i + 1, [], [], ⟨hi2, Nat.sub_lt_sub_left hi2 (Nat.lt_succ_self i)⟩, za3⟩
 have hi8 : i = 8 := by
   have : ¬ (i : Int) < 8 := by simpa using hc
   omega
 subst hi8
 conv => whnf
 refine zav ?_
 rw [zFF, show zfL n = tl from htl.symm, hF]
 rfl
theorem zuM {ps : List (List Nat)} (hX : ∀ k ∈ X, k < w.heap.size) (hp : ∀ p ∈ ps, p.length ≤ 100000000) (hP : ps.length ≤ 1000000) (hq : St (SlQ zay ps q) w X) (hG : St (zbH gt 2) w X) : Ct Tryz.prog 91 [.slice q.1 ps.length q.2] X w (.a (.agg [.key (znA gt ps)])) [] [] := by
 refine vFn (k0 := 1) (rs := [.cell 2 23]) (svs := [.a (.s (.p (.hd 0 ps.length)))]) (R0 := [.c (zbH gt 2), .sl 0 ps.length (SlF zay ps)]) (hnQ [q]) Tryz.ntmps91 Tryz.func91 rfl rfl rfl rfl rfl zan (by kernel_rfl) hX (fun r hr => by
  rcases List.mem_cons.1 hr with rfl | hr
  ·exact hG
  ·rcases List.mem_singleton.1 hr with rfl; exact hq) ?_
 have hpb : ∀ p ∈ ps, ∀ x ∈ p, x < 256 := fun p hpm => by
  obtain ⟨mm, hm⟩ := zo7 ziL hq
  obtain ⟨i, hi⟩ := List.mem_iff_getElem?.1 hpm
  obtain ⟨ad, _, _, h2⟩ := LiF.get hm hi
  exact h2.now.byt
 conv => whnf
 refine zae rfl rfl rfl (by kernel_rfl) (fun h X w H => zEh H.xk) rfl rfl rfl ?_
 conv => whnf
 refine ⟨fun i _ => rfl, ?_⟩
 conv => whnf
 refine ⟨Nat × (Nat → Nat) × Nat × List Nat, fun k l m R g => ⟨4, (9, zaD .i64 g.1) :: za2 [2, 3, 7, 8] l, (2, zFG 3 g.2.1 ((g.2.2.1 : Nat) : Int) g.2.2.2.length) :: (3, zdK g.2.2.2 5) :: m, R⟩, fun g => g.1 ≤ ps.length ∧ g.2 = zfu gt (ps.take g.1) ∧ g.2.2.1 ≤ g.1 * 100000000 ∧ g.2.2.2.length < 64 ∧ ∀ x ∈ g.2.2.2, x < 256, fun g => ps.length - g.1, ⟨(0, iv0, 0, []), [], [0, 1], ⟨Nat.zero_le _, rfl, jV _, by simp, by simp⟩, za3⟩, fun g hg => ?_⟩
 obtain ⟨i, h, n, rest⟩ := g
 obtain ⟨hi, hS, hn, hrl, hrb⟩ : i ≤ ps.length ∧ (h, n, rest) = zfu gt (ps.take i) ∧ n ≤ i * 100000000 ∧ rest.length < 64 ∧ ∀ x ∈ rest, x < 256 := hg
 conv => whnf
 refine vIf (fun hc => ?_) fun hc => ?_
 ·have hi2 : i < ps.length := by
   have : (i : Int) < ((ps.length : Nat) : Int) := by simpa [Sl.len] using hc
   omega
  obtain ⟨p, hpi⟩ : ∃ p, ps[i]? = some p := ⟨_, jP hi2⟩
  have hpl := hp p (List.mem_of_getElem? hpi)
  obtain ⟨⟨h2, r2⟩, hF⟩ : ∃ hr, zfK gt h (rest ++ p) = hr := ⟨_, rfl⟩
  conv => whnf
  refine ⟨i, ⟨rfl, hi2, hi2⟩, ?_⟩
  conv => whnf
  refine zbO (zuu (x := p) 1 hpi rfl rfl rfl (by kernel_rfl)) rfl rfl ?_
  conv => whnf
  refine zaT (za4 [2, 3] 1 rfl rfl rfl (by kernel_rfl) (fs := fun _ => []) (cs := fun _ => []) (fun h => rfl) rfl rfl (given := zuJ h n rest) ⟨rfl, rfl, trivial⟩ rfl rfl rfl rfl rfl rfl fun h X w L2 H => zuK hF (by omega) (by omega) hpl hrb (hpb p (List.mem_of_getElem? hpi)) (H.pick [1, 0] rfl)) ?_
  conv => whnf
  refine zc2 (by omega) (by omega) ?_
  conv => whnf
  have h3 : (h2, n + p.length, r2) = zfu gt (ps.take (i + 1)) := by
   rw [zpg hpi, ← hS, zuG]
   show _ = ((zfK gt h (rest ++ p)).1, n + p.length, (zfK gt h (rest ++ p)).2)
   rw [hF]
  have h4 := zkX gt _ h (rest ++ p) (jV _)
  have h5 := znD gt _ h (rest ++ p) (jV _) fun x hx => (List.mem_append.1 hx).elim (hrb x) (hpb p (List.mem_of_getElem? hpi) x)
  rw [hF] at h4 h5
  exact ⟨(i + 1, h2, n + p.length, r2), [(0, 0), (1, 1), (2, 2), (3, 5)], [1, 2], ⟨⟨hi2, h3, by show n + p.length ≤ (i + 1) * 100000000; omega, h4, h5⟩, Nat.sub_lt_sub_left hi2 (Nat.lt_succ_self i)⟩, za3⟩
 have hi8 : i = ps.length := by
   have : ¬ (i : Int) < ((ps.length : Nat) : Int) := by simpa [Sl.len] using hc
   omega
 subst hi8
 conv => whnf
 refine zaH (zgr (xs := rest) 3 rfl (by omega) hrb rfl (zaE (rs := []) (Rs := []) (zab (rs := []) (Rs := []) rfl rfl rfl (by kernel_rfl) rfl fun h X w H => zuL (n := n) (rest := rest) H.xk (by omega) (by omega) (H.fact 0 rfl) (H.fact 1 rfl)) rfl rfl)) ?_
 conv => whnf
 refine zav ?_
 rw [znA, ← List.take_length (l := ps), ← hS]
 rfl
end
end
section
open Go.RowKit
theorem BT : ByteT Tryz.prog 72 5 := ⟨Tryz.underlying72, Tryz.underlying5, by kernel_rfl⟩
def zEi (w : World) (l : List Nat) (e : Ending) (w' : World) : Prop := ∃ v, e = .returned v ∧ Own w' w.heap.size 5 v l ∧ Below w.heap.size w w'
theorem zuN (w : World) (e : TypeId) : Own (w.alloc (.cells #[] e)) w.heap.size e (.slice (some ⟨w.heap.size, 0, none⟩) 0 0) [] :=
 ⟨rfl, .inr ⟨w.heap.size, 0, #[], rfl, jV _, heap_alloc_new w _, jV _, Nat.zero_le _, rfl, rfl⟩⟩
def beK (w n k : Nat) : List Nat := (List.range k).map fun i => n / 2 ^ (8 * (w - 1 - i)) % 256
def beL (w n : Nat) : List Nat := beK w n w
theorem zuO (w n k : Nat) : (beK w n k).length = k := by unfold beK; simp
theorem zx9 (w n k : Nat) : beK w n (k + 1) = beK w n k ++ [n / 2 ^ (8 * (w - 1 - k)) % 256] := by unfold beK; rw [List.range_succ, List.map_append]; rfl
theorem zqY (w n : Nat) : ∀ x ∈ beL w n, x < 256 := fun x hx => by
 unfold beL beK at hx
 obtain ⟨i, _, rfl⟩ := List.mem_map.1 hx
 exact Nat.mod_lt _ (by omega)
attribute [local irreducible] beK
theorem zBo (w : World) (e : TypeId) (x : Nat) : Txt (w.alloc (.cells #[bv x] e)) (w.heap.size + 1) (some ⟨w.heap.size, 0, none⟩) 1 1 [x] :=
 ⟨rfl, (fun e => by cases e), fun _ => ⟨_, rfl, Nat.lt_succ_self _, fun i y hy => by
  cases i with
  | zero =>
   simp only [jD, Option.some.injEq] at hy
   subst hy
   rw [zbU, cell_of_row _ _ _ _ _ _ (heap_alloc_new w (.cells #[bv x] e))]
   rfl
  | succ i => simp at hy⟩⟩
end
section
open Go.RowKit
def zcW (key : List Nat) (by_ : Nat) : List Nat := (List.range 64).map fun i => (key.getD i 0 % 256) ^^^ (by_ % 256)
def znG (gt : Nat → Nat) (key : List Nat) (ps : List (List Nat)) : List Nat := znA gt [zcW key 92, znA gt (zcW key 54 :: ps)]
theorem zbP (key : List Nat) (by_ : Nat) : (zcW key by_).length = 64 := by simp [zcW]
theorem zjU (key : List Nat) (by_ : Nat) : ∀ z ∈ zcW key by_, z < 256 := fun z hz => by
 obtain ⟨i, _, rfl⟩ := List.mem_map.1 hz
 exact Nat.xor_lt_two_pow (n := 8) (by omega) (by omega)
theorem zgv (gt : Nat → Nat) (key : List Nat) (ps : List (List Nat)) : (znG gt key ps).length = 32 := zhX _ _
theorem ziN (gt : Nat → Nat) (key : List Nat) (ps : List (List Nat)) : ∀ z ∈ znG gt key ps, z < 256 := zgu _ _
theorem zya (n : Nat) (k : List Nat) (h : k.length ≤ n) : (List.range n).map (fun i => bv (k.getD i 0)) = ((List.range n).map fun _ => bv 0).take 0 ++ k.map bv ++ ((List.range n).map fun _ => bv 0).drop (0 + k.length) := by
 apply List.ext_getElem?
 intro i
 rw [jI, List.nil_append, Nat.zero_add]
 by_cases hi : i < n
 ·rcases Nat.lt_or_ge i k.length with h1 | h1
  ·rw [List.getElem?_append_left (by simpa using h1)]
   simp [hi, jR, jP h1]
  ·rw [List.getElem?_append_right (by simpa using h1), List.getElem?_drop]
   simp [hi, jR, List.getElem?_eq_none h1, show k.length + (i - k.length) = i by omega]
 ·rw [List.getElem?_eq_none (by simp; omega), List.getElem?_eq_none (by simp; omega)]
def zqZ (key : List Nat) (by_ i j : Nat) : Nat := if j < i then (key.getD j 0 % 256) ^^^ (by_ % 256) else key.getD j 0
theorem zuP (key : List Nat) (by_ i j : Nat) : upd (fun j => bv (zqZ key by_ i j)) i (bv ((key.getD i 0 % 256) ^^^ (by_ % 256))) j = bv (zqZ key by_ (i + 1) j) := by
 unfold upd zqZ
 by_cases h : j = i
 ·subst h; simp
 ·rw [if_neg h]
  show bv (if j < i then _ else _) = _
  by_cases h2 : j < i
  ·rw [if_pos h2, if_pos (by omega)]
  ·rw [if_neg h2, if_neg (by omega)]
theorem zBp (key : List Nat) (by_ i : Nat) : zqZ key by_ i i = key.getD i 0 := by simp [zqZ]
theorem zBq (key : List Nat) (by_ : Nat) : cl [.row 64 (fun j => bv (zqZ key by_ 64 j))] = (zcW key by_).map bv := by
 simp only [cl, Chunk.cells, List.append_nil, zcW, List.map_map]
 apply List.map_congr_left
 intro i hi
 simp only [Function.comp, zqZ, if_pos (List.mem_range.1 hi)]
def exT (gt : Nat → Nat) (k info : List Nat) : Nat → List Nat × List Nat
 | 0 => ([], [])
 | j + 1 => (znG gt k [(exT gt k info j).1, info, [j + 1]], (exT gt k info j).2 ++ znG gt k [(exT gt k info j).1, info, [j + 1]])
def zsw (gt : Nat → Nat) (k info : List Nat) (n : Nat) : List Nat := (exT gt k info ((n + 31) / 32)).2.take n
theorem zq0 {gt : Nat → Nat} {k info last out : List Nat} {j : Nat} (h : exT gt k info j = (last, out)) : exT gt k info (j + 1) = (znG gt k [last, info, [j + 1]], out ++ znG gt k [last, info, [j + 1]]) := by rw [exT, h]
theorem zk0 (gt : Nat → Nat) (k info : List Nat) : ∀ j, (exT gt k info j).2.length = 32 * j ∧ (exT gt k info j).1.length ≤ 32 ∧ (∀ x ∈ (exT gt k info j).2, x < 256)
 | 0 => ⟨rfl, by show 0 ≤ 32; decide, fun x hx => by cases hx⟩
 | j + 1 => by
  obtain ⟨h1, _, h3⟩ := zk0 gt k info j
  refine ⟨?_, ?_, ?_⟩
  ·rw [exT, jQ, h1, zgv]; omega
  ·rw [exT]; show (znG _ _ _).length ≤ 32; rw [zgv]; omega
  ·rw [exT]
   intro x hx
   rcases List.mem_append.1 hx with h | h
   ·exact h3 x h
   ·exact ziN _ _ _ x h
theorem ze7 (gt : Nat → Nat) (k info : List Nat) (n : Nat) : (zsw gt k info n).length = n := by
 unfold zsw
 rw [List.length_take, (zk0 gt k info _).1]
 omega
theorem zuQ (gt : Nat → Nat) (k info : List Nat) (n : Nat) : ∀ x ∈ zsw gt k info n, x < 256 := fun x hx => (zk0 gt k info _).2.2 x (List.mem_of_mem_take hx)
end
section
open Go.RowKit
theorem zx8 {x y : Nat} {A : Int → Prop} (h : A (((x % 256) ^^^ (y % 256) : Nat) : Int)) : ∃ z, IntKind.u8.wrap ((BitVec.ofInt IntKind.u8.bits (x : Int) ^^^ BitVec.ofInt IntKind.u8.bits (y : Int)).toNat : Nat) = z ∧ A z := ⟨_, zG3 x y, h⟩
section
variable {X : List Nat} {w : World} {gt : Nat → Nat} {key : List Nat} {ps : List (List Nat)} {q q2 : Qd}
theorem zuR (by_ : Nat) (h64 : key.length ≤ 64) (hX : ∀ k ∈ X, k < w.heap.size) (hq : St (TxQ key q) w X) : Ct Tryz.prog 126 [.slice q.1 key.length q.2, bv by_] X w (slS 0 0 64 64) [.blk [.row 64 fun j => bv (zqZ key by_ 64 j)] 5] [] := by
 refine vFn (k0 := 1) (rs := [.tmp 4]) (svs := [.a (.s (.p (.hd 0 key.length))), zgW (bv by_)]) (R0 := [.sl 0 key.length (TxG key)]) (hnQ [q]) Tryz.ntmps126 Tryz.func126 rfl rfl rfl rfl rfl zan (by kernel_rfl) hX (fun r hr => by rcases List.mem_singleton.1 hr with rfl; exact hq) ?_
 conv => whnf
 refine .inl ?_
 conv => whnf
 refine vF (by simp [Sl.len]; omega) ?_
 conv => whnf
 refine zbO (zzZ (e := 5) 64 ⟨by kernel_rfl, by kernel_rfl, by kernel_rfl⟩ rfl rfl rfl rfl rfl (by decide)) rfl rfl ?_
 conv => whnf
 refine zaH (zxV (cs' := [.row 64 fun j => bv (zqZ key by_ 0 j)]) (ys := key) (r := 0) key.length rfl rfl rfl rfl rfl (by kernel_rfl) (by omega) (by show 0 + key.length ≤ 64; omega) fun h => by
  simp only [zaC, SC.den, cl, Chunk.cells, List.append_nil, List.take_length]
  have := zya 64 key h64
  simpa [zqZ] using this) ?_
 conv => whnf
 refine ⟨Nat, fun k l m R i => ⟨k, (21, zaD .i64 i) :: za2 [1, 6, 20] l, (1, .blk [.row 64 fun j => bv (zqZ key by_ i j)] 5) :: m, R⟩, fun i => i ≤ 64, fun i => 64 - i, ⟨0, [], [0], Nat.zero_le _, za3⟩, fun i hi => ?_⟩
 conv => whnf
 refine vIf (fun hc => ?_) fun hc => ?_
 ·have hi2 : i < 64 := by
   have : (i : Int) < 64 := of_decide_eq_true hc
   omega
  conv => whnf
  refine ⟨i, ⟨rfl, hi2⟩, .inr ?_⟩
  conv => whnf
  refine ⟨hi2, ?_⟩
  conv => whnf
  refine zx8 ?_
  conv => whnf
  refine ⟨i, ⟨rfl, hi2⟩, .inr ?_⟩
  conv => whnf
  refine zaH (zkQ (fun j => bv (zqZ key by_ (i + 1) j)) rfl rfl rfl rfl rfl rfl hi2 (by rw [zBp]; exact zuP key by_ i)) ?_
  conv => whnf
  refine zc2 (by omega) (by omega) ?_
  conv => whnf
  exact ⟨i + 1, [], [0], ⟨hi2, Nat.sub_lt_sub_left hi2 (Nat.lt_succ_self i)⟩, za3⟩
 have hi8 : i = 64 := by
   have : ¬ (i : Int) < 64 := of_decide_eq_false hc
   omega
 subst hi8
 conv => whnf
 exact zaZ [(0, 1)] [] (.inl rfl) ⟨.inl rfl, trivial⟩ rfl trivial
theorem zq1 {by_ : Nat} {h : Hn} {i : Nat} {Y : List Nat} {w : World} (hb : St (AtC ⟨h.b i, 0, none⟩ (zaC h [.row 64 fun j => bv (zqZ key by_ 64 j)])) w Y) : St (TxF (some ⟨h.b i, 0, none⟩) 64 (zcW key by_)) w Y :=
 zfp hb (zBq key by_) (Nat.le_of_eq (zbP key by_)) (by rw [zbP]; decide) (zjU key by_)
theorem zg2 {kk : List Nat} {h : Hn} {i : Nat} {Y : List Nat} {w : World} (hk : kk.length = 32) (hbk : ∀ x ∈ kk, x < 256) (hb : St (AtC ⟨h.b i, 0, none⟩ (zaC h [.key kk])) w Y) : St (TxF (some ⟨h.b i, 0, none⟩) 32 kk) w Y :=
 zfp hb (by rw [show zaC h [.key kk] = [.key kk] from rfl, zm1, zgd hk]) (by omega) (by omega) hbk
theorem zEj (h64 : key.length ≤ 64) (hp : ∀ p ∈ ps, p.length ≤ 100000000) (hP : ps.length ≤ 900000) (hX : ∀ k ∈ X, k < w.heap.size) (hq : St (TxQ key q) w X) (hL : St (SlQ zay ps q2) w X) (hG : St (zbH gt 2) w X) : Ct Tryz.prog 102 [.slice q.1 key.length q.2, .slice q2.1 ps.length q2.2] X w (.a (.agg [.key (znG gt key ps)])) [] [] := by
 refine vFn (k0 := 2) (rs := [.cell 4 23]) (svs := [.a (.s (.p (.hd 0 key.length))), .a (.s (.p (.hd 1 ps.length)))]) (R0 := [.sl 0 key.length (TxG key), .sl 1 ps.length (SlF zay ps), .c (zbH gt 2)]) (hnQ [q, q2]) Tryz.ntmps102 Tryz.func102 rfl rfl rfl rfl rfl zan (by kernel_rfl) hX (fun r hr => by
  rcases List.mem_cons.1 hr with rfl | hr
  ·exact hq
  rcases List.mem_cons.1 hr with rfl | hr
  ·exact hL
  ·rcases List.mem_singleton.1 hr with rfl; exact hG) ?_
 conv => whnf
 refine zae rfl rfl rfl (by kernel_rfl) (fun h X w H => zuR 54 h64 H.xk (H.fact 0 rfl)) rfl rfl rfl ?_
 conv => whnf
 refine zaT (zba [3] rfl rfl (zqU (e := 72) (xs := [zcW key 54]) (ys := ps) (r := 2) (by_ := 24) (fun h => [(some ⟨h.b 3, 0, none⟩, 64)]) rfl (fun h => by rfl) (fun h => rfl) (fun h X w H t x hx => by
  cases t with
  | zero => obtain rfl := Option.some.inj hx; exact zq1 (H.fact 0 rfl)
  | succ t => simp at hx) rfl rfl rfl rfl rfl ⟨by kernel_rfl, by kernel_rfl⟩ (by simp; omega) (by simp; omega) rfl rfl)) ?_
 conv => whnf
 refine zaH (znv (T := zay) (zs := [zcW key 54] ++ ps) 5 rfl (.head _) rfl (zaE (rs := []) (Rs := []) (zab (rs := []) (Rs := []) rfl rfl rfl (by kernel_rfl) rfl fun h X w H => zuM H.xk (fun p hpm => by
  rcases List.mem_cons.1 hpm with rfl | hpm
  ·rw [zbP]; decide
  ·exact hp p hpm) (by simp; omega) (H.fact 0 rfl) (H.fact 5 rfl)) rfl rfl)) ?_
 conv => whnf
 obtain ⟨ink, hink⟩ : ∃ ink, ink = znA gt ([zcW key 54] ++ ps) := ⟨_, rfl⟩
 have hil : ink.length = 32 := by rw [hink]; exact zhX _ _
 have hib : ∀ x ∈ ink, x < 256 := by rw [hink]; exact zgu _ _
 rw [← hink]
 conv => whnf
 refine zaK 3 [] (by kernel_rfl) ?_
 conv => whnf
 refine zaA (zab (rs := [.blk [.row 64 fun j => bv (zqZ key 92 64 j)] 5]) (Rs := []) rfl rfl rfl (by kernel_rfl) rfl fun h X w H => zuR 92 h64 H.xk (H.fact 3 rfl)) ?_
 conv => whnf
 refine zaH (zba [8, 7, 6] rfl rfl (zaE (rs := []) (Rs := []) (zab (rs := []) (Rs := []) rfl rfl rfl (by kernel_rfl) rfl fun h X w H => zuM (ps := [zcW key 92, ink]) (q := (some ⟨h.b 8, 0, none⟩, 2)) H.xk (fun p hpm => by
  rcases List.mem_cons.1 hpm with rfl | hpm
  ·rw [zbP]; decide
  ·rcases List.mem_singleton.1 hpm with rfl; omega) (by simp) (zcM (ql := [(some ⟨h.b 7, 0, none⟩, 64), (some ⟨h.b 6, 0, none⟩, 32)]) rfl (by simp) (by
   have := H.fact 2 rfl
   have e : zaC h [.one (.p (.sl 7 0 64 64)), .one (.p (.sl 6 0 32 32))] = zcB [zcW key 92, ink] [(some ⟨h.b 7, 0, none⟩, 64), (some ⟨h.b 6, 0, none⟩, 32)] := by
    simp only [zcB, zbP, hil]
    rfl
   rw [← e]
   exact this) fun t x hx => by
   match t with
   | 0 => obtain rfl := Option.some.inj hx; exact zq1 (H.fact 1 rfl)
   | 1 => obtain rfl := Option.some.inj hx; exact zg2 hil hib (H.fact 0 rfl)
   | t + 2 => simp at hx) (H.fact 8 rfl)) rfl rfl)) ?_
 conv => whnf
 refine zav ?_
 rw [hink]
 rfl
def zyb (j : Nat) (kk : List Nat) (ln il : Nat) : MB := [(0, .blk [.one (.p (.v (bv j)))] 5), (1, .blk [.key kk] 23), (2, .blk [.one (.p (.hd 4 ln))] 72), (3, .blk [.one (.p (.hd 5 il))] 72), (4, .gone), (5, .gone)]
def TxN (n : Nat) (t : List Nat) (q : Qd) : World → Prop := fun w => (q.1 = none → n = 0) ∧ TxG t q w
theorem zBr {kk last info : List Nat} {j ln : Nat} {h0 : Hn} (hln : ln = last.length) (hj : j ≤ 254) (hk32 : kk.length = 32) (hkb : ∀ x ∈ kk, x < 256) (hll : last.length ≤ 100000000) (hil : info.length ≤ 100000000) (hsp : Sp X w (zaf h0 [] (zyb j kk ln info.length)) [TxN ln last (h0.r 4), TxQ info (h0.r 5), zbH gt 2]) :
  CtG Tryz.prog 101 [.pointer (some ⟨h0.b 0, 0, none⟩), .pointer (some ⟨h0.b 1, 0, none⟩), .pointer (some ⟨h0.b 2, 0, none⟩), .pointer (some ⟨h0.b 3, 0, none⟩)] X w h0 (zyb j kk ln info.length) [0, 1, 2, 3, 5] (.a (.s (.p (.hd 6 32)))) [(0, .blk [.one (.p (.v (bv (j + 1))))] 5), (1, .blk [.key kk] 23), (2, .blk [.one (.p (.hd 6 32))] 72), (3, .blk [.one (.p (.hd 5 info.length))] 72), (5, .gone)] [.sl 6 32 (TxG (znG gt kk [last, info, [j + 1]]))] := by
 subst hln
 refine zzW (g := 6) (k0 := 6) (bl := []) (ql := []) (svs := [atS 0 0, atS 1 0, atS 2 0, atS 3 0]) (given := zyb j kk last.length info.length) (Rg := [.sl 4 last.length (TxG last), .sl 5 info.length (TxG info), .c (zbH gt 2)]) (kb := [0, 1, 2, 3, 5]) Tryz.ntmps101 Tryz.func101 rfl rfl rfl zan (by kernel_rfl) rfl rfl hsp ?_
 conv => whnf
 refine ⟨((j + 1 : Nat) : Int), by rw [wU8 (by omega) (by omega)]; omega, ?_⟩
 conv => whnf
 refine zaK 8 [] (by kernel_rfl) ?_
 conv => whnf
 refine zaA (znu [7, 6, 1] rfl (zab (sv := .a (.agg [.key (znG gt kk [last, info, [j + 1]])])) (rs := []) (Rs := []) rfl rfl rfl (by kernel_rfl) rfl fun h X w H => ?_)) ?_
 ·have h1 := H.fact 0 rfl
  have h7 := H.fact 2 rfl
  have h6 := H.fact 1 rfl
  have := zEj (gt := gt) (key := kk) (ps := [last, info, [j + 1]]) (q := (some ⟨h.b 1, 0, none⟩, 32)) (q2 := (some ⟨h.b 7, 0, none⟩, 3)) (by omega) (fun p hp => by
   rcases List.mem_cons.1 hp with rfl | hp
   ·exact hll
   rcases List.mem_cons.1 hp with rfl | hp
   ·exact hil
   ·rcases List.mem_singleton.1 hp with rfl; simp) (by simp) H.xk (zno (zg2 hk32 hkb h1)) (zcM (ql := [h.r 4, h.r 5, (some ⟨h.b 6, 0, none⟩, 1)]) rfl (by simp) h7 fun t x hx => by
    match t with
    | 0 => obtain rfl := Option.some.inj hx; exact zeB (H.fact 8 rfl)
    | 1 => obtain rfl := Option.some.inj hx; exact zeB (H.fact 9 rfl)
    | 2 => obtain rfl := Option.some.inj hx; exact zfp h6 rfl (jV _) (by simp) (fun x hx => by rcases List.mem_singleton.1 hx with rfl; omega)
    | t + 3 => simp at hx) (H.fact 10 rfl)
  rw [hk32] at this
  exact this
 conv => whnf
 refine zx2 [7, 6] rfl ?_
 refine zx1 (kk := znG gt kk [last, info, [j + 1]]) (sv' := .a (.s (.p (.hd 9 32)))) (m' := [(2, .blk [.one (.p (.hd 9 32))] 72), (8, .gone), (7, .gone), (6, .gone), (0, .blk [.one (.p (.v (bv (j + 1))))] 5), (1, .blk [.key kk] 23), (3, .blk [.one (.p (.hd 5 info.length))] 72), (4, .gone), (5, .gone)]) 8 rfl (zgv _ _ _) (ziN _ _ _) (fun h hr => ⟨?_, ?_⟩) rfl ?_
 ·show Value.slice (h.r 9).1 32 (h.r 9).2 = _
  rw [hr]
  rfl
 ·have e : zaC h [.one (.p (.hd 9 32))] = zaC h [.one (.p (.sl 8 0 32 32))] := by
   show [Chunk.one (Value.slice (h.r 9).1 32 (h.r 9).2)] = _
   rw [hr]
   rfl
  show Res.blk (h.b 2) (ca (zaC h [.one (.p (.hd 9 32))])) _ :: _ = _
  rw [e]
  rfl
 exact zdJ [(0, 0), (1, 1), (2, 2), (3, 3), (5, 5), (6, 9)] [0] [3, 4, 5, 6, 7] (.inl rfl) ⟨.inl rfl, .inl rfl, .inl rfl, .inl rfl, trivial⟩ rfl ⟨.inl rfl, trivial⟩ ⟨rfl, rfl, rfl, rfl, rfl, trivial⟩
theorem zuS {kk info : List Nat} {n : Nat} (hk32 : kk.length = 32) (hkb : ∀ x ∈ kk, x < 256) (hn : n ≤ 8160) (hi20 : info.length ≤ 1048576) (hX : ∀ k ∈ X, k < w.heap.size) (hq : St (TxQ info q) w X) (hG : St (zbH gt 2) w X) : Ct Tryz.prog 70 [.agg (ca [.key kk]), .slice q.1 info.length q.2, .int .i64 n] X w (.tup [.s (.p (.hd 0 n)), .s (.p (.v (.int .i64 0)))]) [.gone] [.sl 0 n (TxG (zsw gt kk info n))] := by
 refine vFn (k0 := 1) (rs := [.tmp 6, .tmp 7]) (svs := [.a (.agg [.key kk]), .a (.s (.p (.hd 0 info.length))), zaD .i64 n]) (R0 := [.sl 0 info.length (TxG info), .c (zbH gt 2)]) (hnQ [q]) Tryz.ntmps70 Tryz.func70 rfl rfl rfl rfl rfl zan (by kernel_rfl) hX (fun r hr => by
  rcases List.mem_cons.1 hr with rfl | hr
  ·exact hq
  ·rcases List.mem_singleton.1 hr with rfl; exact hG) ?_
 conv => whnf
 refine vF (decide_eq_false (by omega)) ?_
 conv => whnf
 refine vF (decide_eq_false (by show ¬ (((info.length : Nat) : Int) > 1048576); omega)) ?_
 conv => whnf
 have e1 : (n : Int) + 64 = ((n + 64 : Nat) : Int) := by omega
 refine zbi e1 (by omega) (by omega) ?_
 conv => whnf
 refine zbO (zzX (e := 5) 0 ⟨by kernel_rfl, by kernel_rfl, by kernel_rfl⟩ rfl rfl rfl rfl rfl (c := n + 64) (by omega) (by omega)) rfl rfl ?_
 conv => whnf
 refine ⟨Nat × Nat × List Nat × List Nat, fun k l m R g => ⟨7, (11, .a (.s (.p (.hd 5 g.2.2.2.length)))) :: za2 [2, 10] l, (3, .blk [.one (.p (.hd 6 g.2.1))] 72) :: (4, .blk [.one (.p (.v (bv g.1)))] 5) :: (5, zdK g.2.2.2 5) :: (6, .gone) :: (0, .gone) :: m, .sl 6 g.2.1 (TxG g.2.2.1) :: R⟩, fun g => g.2.1 = g.2.2.1.length ∧ exT gt kk info g.1 = (g.2.2.1, g.2.2.2) ∧ 32 * g.1 < n + 32, fun g => n - g.2.2.2.length, ⟨(0, 0, [], []), [], [2, 0, 1], ⟨rfl, rfl, by omega⟩, za3 (hR := ⟨.inr (zux rfl), .inl rfl, .inl rfl, trivial⟩)⟩, fun g hg => ?_⟩
 obtain ⟨j, ln, last, out⟩ := g
 obtain ⟨hln, hex, hj⟩ : ln = last.length ∧ exT gt kk info j = (last, out) ∧ 32 * j < n + 32 := hg
 have hel := zk0 gt kk info j
 rw [hex] at hel
 obtain ⟨hol, hll, hob⟩ : out.length = 32 * j ∧ last.length ≤ 32 ∧ ∀ x ∈ out, x < 256 := hel
 conv => whnf
 refine vIf (fun hc => ?_) fun hc => ?_
 ·have hlt : out.length < n := by
   have : ((out.length : Nat) : Int) < (n : Int) := of_decide_eq_true hc
   omega
  obtain ⟨mc, hmc⟩ : ∃ mc, mc = znG gt kk [last, info, [j + 1]] := ⟨_, rfl⟩
  have hml : mc.length = 32 := by rw [hmc]; exact zgv _ _ _
  conv => whnf
  refine zaT (za4 [4, 1, 3, 2, 6, 0] 1 rfl rfl rfl (by kernel_rfl) (fs := fun _ => []) (cs := fun h => zhD h [.at_ 4 0, .at_ 1 0, .at_ 3 0, .at_ 2 0]) (fun h => rfl) rfl rfl (given := zyb j kk ln info.length) ⟨rfl, rfl, rfl, rfl, rfl, rfl, trivial⟩ rfl rfl rfl rfl rfl rfl fun h X w L2 H => zBr hln (by omega) hk32 hkb (by omega) (by omega) (H.pick [0, 1, 2] rfl)) ?_
  rw [← hmc]
  conv => whnf
  refine zaT (zg1 (xs := out) (ys := mc) (r := 0) (e := 5) rfl rfl hml.symm rfl rfl rfl ⟨by kernel_rfl, by kernel_rfl⟩ (by omega) rfl rfl) ?_
  conv => whnf
  exact ⟨(j + 1, 32, mc, out ++ mc), [(0, 0), (1, 1), (2, 2), (3, 3), (4, 4), (5, 8), (6, 7)], [0, 2, 3], ⟨⟨hml.symm, by rw [hmc]; exact zq0 hex, by show 32 * (j + 1) < n + 32; omega⟩, by show n - (out ++ mc).length < n - out.length; rw [jQ]; omega⟩, za3⟩
 have hge : n ≤ out.length := by
   have : ¬ ((out.length : Nat) : Int) < (n : Int) := of_decide_eq_false hc
   omega
 have hjn : j = (n + 31) / 32 := by omega
 have hys : zsw gt kk info n = out.take n := by rw [zsw, ← hjn, hex]
 conv => whnf
 refine zaT (zgr (xs := out) 5 rfl (by omega) hob rfl (zaE (rs := [.gone]) (zuw (n0 := out.length) (i := 5) (zsw gt kk info n) 0 hys rfl hge rfl (by kernel_rfl) rfl rfl rfl rfl rfl) rfl rfl)) ?_
 conv => whnf
 exact zaZ [(0, 7)] [0] (.inl rfl) trivial rfl ⟨.inl rfl, trivial⟩
end
end
section
open Go.RowKit
def zuT (x : Nat) : Nat := zcy x 4294967295
def zen (x b : Nat) : Nat := orW (zsh x b) (ztb x (32 - b))
def zz4 (x y : Nat) : Nat := (x * y) % 4294967296
def zyc (l : List Nat) : Nat := zb1 (zb1 (zb1 (zz4 (l.getD 0 0 % 4294967296) 16777216) (zz4 (l.getD 1 0 % 4294967296) 65536)) (zz4 (l.getD 2 0 % 4294967296) 256)) (l.getD 3 0 % 4294967296)
def s0R (x : Nat) : Nat := zcy (zcy (zen x 7) (zen x 18)) (zsh x 3)
def s1R (x : Nat) : Nat := zcy (zcy (zen x 17) (zen x 19)) (zsh x 10)
def S1R (x : Nat) : Nat := zcy (zcy (zen x 6) (zen x 11)) (zen x 25)
def S0R (x : Nat) : Nat := zcy (zcy (zen x 2) (zen x 13)) (zen x 22)
def znH (k : List Nat) (t : Nat) : Nat :=
 if t < 16 then zyc (k.drop (4 * t)) else zb1 (zb1 (zb1 (znH k (t - 16)) (s0R (znH k (t - 15)))) (znH k (t - 7))) (s1R (znH k (t - 2)))
termination_by t
def t1R (gt : Nat → Nat) (k : List Nat) (v : Nat → Nat) (t : Nat) : Nat := zb1 (zb1 (zb1 (zb1 (v 7) (S1R (v 4))) (zcy (zeq (v 4) (v 5)) (zeq (zuT (v 4)) (v 6)))) (gt t)) (znH k t)
def t2R (v : Nat → Nat) : Nat := zb1 (S0R (v 0)) (zcy (zcy (zeq (v 0) (v 1)) (zeq (v 0) (v 2))) (zeq (v 1) (v 2)))
def vR (gt : Nat → Nat) (k : List Nat) (h : Nat → Nat) : Nat → Nat → Nat
 | 0 => h
 | t + 1 => zgt (vR gt k h t) (t1R gt k (vR gt k h t) t) (t2R (vR gt k h t))
def zq2 (gt h : Nat → Nat) (k : List Nat) : Nat → Nat := zsr h (vR gt k h 64) 8
def tb (x : Nat) : BitVec 32 := BitVec.ofNat 32 x
theorem zuU (x y : Nat) : zcy x y = (tb x ^^^ tb y).toNat := by simp [zcy, tb]
theorem zz5 (x y : Nat) : zeq x y = (tb x &&& tb y).toNat := by simp [zeq, tb]
theorem zF8 (x y : Nat) : orW x y = (tb x ||| tb y).toNat := by simp [orW, tb]
theorem zk1 (b : BitVec 32) : tb b.toNat = b := by simp [tb]
theorem zEk (x : Nat) : tb (zuT x) = ~~~ tb x := by
 rw [zuT, zuU, zk1]
 have : tb 4294967295 = BitVec.allOnes 32 := by decide
 rw [this, BitVec.xor_allOnes]
theorem zG7 (e f g : BitVec 32) : g ^^^ (e &&& (f ^^^ g)) = (e &&& f) ^^^ (~~~e &&& g) := by
 apply BitVec.eq_of_getLsbD_eq
 intro i hi
 simp only [BitVec.getLsbD_xor, BitVec.getLsbD_and, BitVec.getLsbD_not, hi, decide_true, Bool.true_and]
 cases e.getLsbD i <;> cases f.getLsbD i <;> cases g.getLsbD i <;> rfl
theorem zG8 (a b c : BitVec 32) : (a &&& b) ||| (c &&& (a ||| b)) = ((a &&& b) ^^^ (a &&& c)) ^^^ (b &&& c) := by
 apply BitVec.eq_of_getLsbD_eq
 intro i hi
 simp only [BitVec.getLsbD_xor, BitVec.getLsbD_and, BitVec.getLsbD_or]
 cases a.getLsbD i <;> cases b.getLsbD i <;> cases c.getLsbD i <;> rfl
theorem zF9 (e f g : Nat) : zcy g (zeq e (zcy f g)) = zcy (zeq e f) (zeq (zuT e) g) := by
 simp only [zuU, zz5, zk1, zEk, zG7]
theorem zEm (a b c : Nat) : orW (zeq a b) (zeq c (orW a b)) = zcy (zcy (zeq a b) (zeq a c)) (zeq b c) := by
 simp only [zuU, zz5, zF8, zk1, zG8]
theorem znI (x a : Nat) (h1 : 1 ≤ a) (h2 : a ≤ 31) : zz1 x (32 - a) = zen x a := by
 unfold zz1 zen
 rw [show 32 - (32 - a) = a by omega]
 unfold orW
 exact Nat.or_comm _ _
theorem zq3 (x a b s : Nat) (h1 : 1 ≤ a) (h2 : a ≤ 31) (h3 : 1 ≤ b) (h4 : b ≤ 31) : zny x a b s = zcy (zcy (zen x a) (zen x b)) (zsh x s) := by
 rw [zny, znI _ _ h1 h2, znI _ _ h3 h4]
theorem zq4 (x a b c : Nat) (h1 : 1 ≤ a) (h2 : a ≤ 31) (h3 : 1 ≤ b) (h4 : b ≤ 31) (h5 : 1 ≤ c) (h6 : c ≤ 31) : zho x a b c = zcy (zcy (zen x a) (zen x b)) (zen x c) := by
 rw [zho, znI _ _ h1 h2, znI _ _ h3 h4, znI _ _ h5 h6]
theorem zjV (a b c : Nat) : zb1 a (zb1 b c) = zb1 (zb1 a b) c := by unfold zb1; omega
theorem zuV (a b k : Nat) (hb : b < 2 ^ k) : (a * 2 ^ k) ||| b = a * 2 ^ k + b := by
 have := Nat.two_pow_add_eq_or_of_lt hb a
 rw [Nat.mul_comm] at this
 exact this.symm
theorem zBs (l : List Nat) (h : ∀ i, l.getD i 0 < 256) : zuB l = zyc l := by
 have h0 := h 0; have h1 := h 1; have h2 := h 2; have h3 := h 3
 unfold zuB zyc
 generalize l.getD 0 0 = a at *
 generalize l.getD 1 0 = b at *
 generalize l.getD 2 0 = c at *
 generalize l.getD 3 0 = d at *
 have e1 : orW (ztb (a % 4294967296) 24) (ztb (b % 4294967296) 16) = (a * 256 + b) * 2 ^ 16 := by
  unfold orW ztb
  have q : (a * 2 ^ 8) ||| b = a * 2 ^ 8 + b := zuV a b 8 (by omega)
  have e : ((a * 2 ^ 24 ||| b * 2 ^ 16) : Nat) = (a * 2 ^ 8 ||| b) * 2 ^ 16 := by
   rw [← Nat.shiftLeft_eq, ← Nat.shiftLeft_eq, ← Nat.shiftLeft_eq, ← Nat.shiftLeft_eq, Nat.shiftLeft_or_distrib, ← Nat.shiftLeft_add]
  simp only [show min 24 32 = 24 from rfl, show min 16 32 = 16 from rfl]
  rw [Nat.mod_eq_of_lt (show a < 4294967296 by omega), Nat.mod_eq_of_lt (show b < 4294967296 by omega), Nat.mod_eq_of_lt (show a * 2 ^ 24 < 4294967296 by omega), Nat.mod_eq_of_lt (show b * 2 ^ 16 < 4294967296 by omega), Nat.mod_eq_of_lt (show a * 2 ^ 24 < 4294967296 by omega), Nat.mod_eq_of_lt (show b * 2 ^ 16 < 4294967296 by omega), e, q]
 have e2 : orW ((a * 256 + b) * 2 ^ 16) (ztb (c % 4294967296) 8) = ((a * 256 + b) * 256 + c) * 2 ^ 8 := by
  unfold orW ztb
  have q : ((a * 256 + b) * 2 ^ 8) ||| c = (a * 256 + b) * 2 ^ 8 + c := zuV _ c 8 (by omega)
  have e : (((a * 256 + b) * 2 ^ 16 ||| c * 2 ^ 8) : Nat) = ((a * 256 + b) * 2 ^ 8 ||| c) * 2 ^ 8 := by
   rw [← Nat.shiftLeft_eq, ← Nat.shiftLeft_eq, ← Nat.shiftLeft_eq, ← Nat.shiftLeft_eq, Nat.shiftLeft_or_distrib, ← Nat.shiftLeft_add]
  simp only [show min 8 32 = 8 from rfl]
  rw [Nat.mod_eq_of_lt (show c < 4294967296 by omega), Nat.mod_eq_of_lt (show c * 2 ^ 8 < 4294967296 by omega), Nat.mod_eq_of_lt (show c * 2 ^ 8 < 4294967296 by omega), Nat.mod_eq_of_lt (show (a * 256 + b) * 2 ^ 16 < 4294967296 by omega), e, q]
 have e3 : orW (((a * 256 + b) * 256 + c) * 2 ^ 8) (d % 4294967296) = ((a * 256 + b) * 256 + c) * 2 ^ 8 + d := by
  unfold orW
  rw [Nat.mod_mod, Nat.mod_eq_of_lt (show d < 4294967296 by omega), Nat.mod_eq_of_lt (show ((a * 256 + b) * 256 + c) * 2 ^ 8 < 4294967296 by omega)]
  exact zuV _ d 8 (by omega)
 rw [e1, e2, e3]
 unfold zb1 zz4
 omega
theorem zGM (gt h : Nat → Nat) (k : List Nat) (hk : ∀ i, k.getD i 0 < 256) : ∀ t, t ≤ 64 → ∀ i, i < 16 → (zjF gt k h t).1 i = znH k (if t ≤ 16 then i else t - 1 - (t - 1 - i) % 16)
 | 0, _, i, hi => by
  rw [zjF, if_pos (by omega)]
  show zkV k 16 i = _
  rw [zkV, if_pos hi, znH, if_pos hi]
  exact zBs _ fun j => by rw [jR, List.getElem?_drop, ← jR]; exact hk _
 | t + 1, ht, i, hi => by
  have ih := zGM gt h k hk t (by omega)
  rw [zjF]
  show zem (zjF gt k h t).1 t i = _
  unfold zem
  by_cases h16 : 16 ≤ t
  ·rw [if_pos h16, if_neg (by omega)]
   have pos : ∀ j, j < 16 → (if t ≤ 16 then j else t - 1 - (t - 1 - j) % 16) = t - 1 - (t - 1 - j) % 16 := fun j hj => by
    split
    ·omega
    ·rfl
   unfold upd
   by_cases hit : i = t % 16
   ·rw [if_pos hit]
    rw [ih _ (Nat.mod_lt _ (by decide)), ih _ (Nat.mod_lt _ (by decide)), ih _ (Nat.mod_lt _ (by decide)), ih _ (Nat.mod_lt _ (by decide)), pos _ (Nat.mod_lt _ (by decide)), pos _ (Nat.mod_lt _ (by decide)), pos _ (Nat.mod_lt _ (by decide)), pos _ (Nat.mod_lt _ (by decide))]
    rw [show t - 1 - (t - 1 - t % 16) % 16 = t - 16 by omega, show t - 1 - (t - 1 - (t + 1) % 16) % 16 = t - 15 by omega, show t - 1 - (t - 1 - (t + 9) % 16) % 16 = t - 7 by omega, show t - 1 - (t - 1 - (t + 14) % 16) % 16 = t - 2 by omega]
    rw [show t + 1 - 1 - (t + 1 - 1 - i) % 16 = t by omega]
    rw [znH.eq_def k t, if_neg (by omega), zq3 _ _ _ _ (by decide) (by decide) (by decide) (by decide), zq3 _ _ _ _ (by decide) (by decide) (by decide) (by decide), zjV, zjV]
    rfl
   ·rw [if_neg hit, ih i hi, pos i hi]
    congr 1
    omega
  ·rw [if_neg h16, ih i hi, if_pos (by omega), if_pos (by omega)]
theorem zz6 (gt h : Nat → Nat) (k : List Nat) (hk : ∀ i, k.getD i 0 < 256) : ∀ t, t ≤ 64 → (zjF gt k h t).2 = vR gt k h t
 | 0, _ => rfl
 | t + 1, ht => by
  have ih := zz6 gt h k hk t (by omega)
  have hr := zGM gt h k hk (t + 1) ht (t % 16) (Nat.mod_lt _ (by decide))
  rw [zjF] at hr
  rw [zjF, vR]
  show zgt (zjF gt k h t).2 _ _ = _
  rw [ih] at hr ⊢
  have hw : zem (zjF gt k h t).1 t (t % 16) = znH k t := by
   rw [show zem (zjF gt k h t).1 t (t % 16) = znH k (if t + 1 ≤ 16 then t % 16 else t + 1 - 1 - (t + 1 - 1 - t % 16) % 16) from hr]
   congr 1
   split <;> omega
  congr 1
  ·unfold zz2 t1R
   rw [hw, zq4 _ _ _ _ (by decide) (by decide) (by decide) (by decide) (by decide) (by decide), zF9]
   rfl
  ·unfold zBm t2R
   rw [zq4 _ _ _ _ (by decide) (by decide) (by decide) (by decide) (by decide) (by decide), zEm]
   rfl
theorem zyd (gt h : Nat → Nat) (k : List Nat) (hk : ∀ i, k.getD i 0 < 256) : zft gt h k = zq2 gt h k := by
 rw [zft, zq2, zz6 gt h k hk 64 (by decide)]
def zk2 (k : List Nat) (n : Nat) : Nat → Nat := fun i => if i < n then znH k i else 0
theorem ziO (k : List Nat) {n i : Nat} (h : i < n) : zk2 k n i = znH k i := if_pos h
theorem znJ (k : List Nat) (n j : Nat) : upd (fun i => u32 (zk2 k n i)) n (u32 (znH k n)) j = u32 (zk2 k (n + 1) j) := by
 rw [zkW]
 congr 2
 unfold upd zk2
 by_cases h : j = n
 ·subst h; simp
 ·rw [if_neg h]
  by_cases h2 : j < n
  ·rw [if_pos h2, if_pos (by omega)]
  ·rw [if_neg h2, if_neg (by omega)]
theorem zBt (k : List Nat) {n : Nat} (h : n < 16) : zb1 (zb1 (zb1 (zz4 (k.getD (4 * n) 0 % 4294967296) 16777216) (zz4 (k.getD (4 * n + 1) 0 % 4294967296) 65536)) (zz4 (k.getD (4 * n + 2) 0 % 4294967296) 256)) (k.getD (4 * n + 3) 0 % 4294967296) = znH k n := by
 have e : ∀ j, (k.drop (4 * n)).getD j 0 = k.getD (4 * n + j) 0 := fun j => by rw [jR, List.getElem?_drop, ← jR]
 rw [znH, if_pos h, zyc, e, e, e, e]
 all_goals rfl
theorem zye (k : List Nat) {n : Nat} (h : 16 ≤ n) : zb1 (zb1 (zb1 (zk2 k n (n - 16)) (zcy (zcy (zen (zk2 k n (n - 15)) 7) (zen (zk2 k n (n - 15)) 18)) (zsh (zk2 k n (n - 15)) 3))) (zk2 k n (n - 7))) (zcy (zcy (zen (zk2 k n (n - 2)) 17) (zen (zk2 k n (n - 2)) 19)) (zsh (zk2 k n (n - 2)) 10)) = znH k n := by
 rw [ziO k (show n - 16 < n by omega), ziO k (show n - 15 < n by omega), ziO k (show n - 7 < n by omega), ziO k (show n - 2 < n by omega)]
 conv => rhs; rw [znH, if_neg (show ¬ n < 16 by omega)]
 rfl
theorem zz7 (gt : Nat → Nat) (k : List Nat) (v : Nat → Nat) {t : Nat} (ht : t < 64) : zb1 (zb1 (zb1 (zb1 (v 7) (zcy (zcy (zen (v 4) 6) (zen (v 4) 11)) (zen (v 4) 25))) (zcy (zeq (v 4) (v 5)) (zeq (zuT (v 4)) (v 6)))) (gt t)) (zk2 k 64 t) = t1R gt k v t := by
 rw [ziO k ht]; rfl
theorem zEn (v : Nat → Nat) : zb1 (zcy (zcy (zen (v 0) 2) (zen (v 0) 13)) (zen (v 0) 22)) (zcy (zcy (zeq (v 0) (v 1)) (zeq (v 0) (v 2))) (zeq (v 1) (v 2))) = t2R v := rfl
theorem zBu {gt h v : Nat → Nat} {k : List Nat} {t : Nat} (hM : v = vR gt k h t) : zgt v (t1R gt k v t) (t2R v) = vR gt k h (t + 1) := by
 rw [vR, ← hM]
theorem zk3 (gt : Nat → Nat) : ∀ (n : Nat) (h : Nat → Nat) (l b : List Nat), l.length ≤ n → zfK gt h (l ++ b) = zfK gt (zfK gt h l).1 ((zfK gt h l).2 ++ b)
 | 0, h, l, b, hl => by rw [zdd (l := l) (by omega)]
 | n + 1, h, l, b, hl => by
  by_cases h1 : 64 ≤ l.length
  ·rw [zd0 (l := l ++ b) (by rw [jQ]; omega), zd0 h1, List.take_append_of_le_length h1, List.drop_append_of_le_length h1]
   exact zk3 gt n _ _ _ (by rw [List.length_drop]; omega)
  ·rw [zdd h1]
theorem ziP (gt : Nat → Nat) : ∀ (ps : List (List Nat)) (h : Nat → Nat) (n : Nat) (r : List Nat), r.length < 64 → ps.foldl (zuG gt) (h, n, r) = ((zfK gt h (r ++ ps.flatten)).1, n + ps.flatten.length, (zfK gt h (r ++ ps.flatten)).2)
 | [], h, n, r, hr => by
  rw [List.foldl_nil, List.flatten_nil, List.append_nil, zdd (by omega)]; rfl
 | p :: ps, h, n, r, hr => by
  rw [List.foldl_cons]
  have e : zuG gt (h, n, r) p = ((zfK gt h (r ++ p)).1, n + p.length, (zfK gt h (r ++ p)).2) := rfl
  rw [e, ziP gt ps _ _ _ (zkX gt _ _ _ (jV _)), ← zk3 gt _ _ _ _ (jV _), List.flatten_cons, List.append_assoc, jQ, Nat.add_assoc]
theorem ziQ (gt : Nat → Nat) (ps : List (List Nat)) : znA gt ps = zdt (zfK gt iv0 (ps.flatten ++ zfL ps.flatten.length)).1 8 := by
 have h := ziP gt ps iv0 0 [] (by show 0 < 64; decide)
 rw [List.nil_append, Nat.zero_add] at h
 rw [znA, zFF, zfu, h, ← zk3 gt _ _ _ _ (jV _)]
theorem zEo (m : Nat) : zsu m 8 = beL 8 m := rfl
theorem zBv (x : Nat) : zpe x = beL 4 x := by
 show [x / 2 ^ (min 24 32) % 256, x / 2 ^ (min 16 32) % 256, x / 2 ^ (min 8 32) % 256, x % 256] = [x / 2 ^ (8 * (4 - 1 - 0)) % 256, x / 2 ^ (8 * (4 - 1 - 1)) % 256, x / 2 ^ (8 * (4 - 1 - 2)) % 256, x / 2 ^ (8 * (4 - 1 - 3)) % 256]
 simp
theorem zyf (n : Nat) : (n + (zfL n).length) % 64 = 0 := by
 unfold zfL
 rw [jQ, zkY, zkZ]
 omega
theorem zjW (n : Nat) : ∀ x ∈ zfL n, x < 256 := fun x hx => by
 rcases List.mem_append.1 hx with h | h
 ·exact znB n x h
 ·exact znC _ _ x h
theorem znK (n : Nat) : (zfL n).length ≤ 72 := by unfold zfL; rw [jQ, zkZ, zkY]; omega
theorem zEp (h v : Nat → Nat) (n i : Nat) (hi : i < n) : zsr h v n i < 4294967296 := by
 unfold zsr
 rw [if_pos hi]
 exact Nat.mod_lt _ (by decide)
theorem zEq : ∀ i, i < 8 → iv0 i < 4294967296 := by decide
theorem zsx {ps : List (List Nat)} {i : Nat} {p : List Nat} (h : ps[i]? = some p) : (ps.take (i + 1)).flatten = (ps.take i).flatten ++ p := by
 rw [List.take_add_one, h, List.flatten_append]; simp
theorem zuW (ps : List (List Nat)) (i : Nat) : (ps.take i).flatten.length ≤ ps.flatten.length := by
 have h := congrArg (fun l => l.flatten.length) (List.take_append_drop i ps)
 simp only [List.flatten_append, jQ] at h
 omega
theorem zuX (gt h : Nat → Nat) (k : List Nat) : ∀ i, i < 8 → zft gt h k i < 4294967296 := fun i hi => by
 unfold zft; exact zEp _ _ 8 i hi
theorem zBw {l : List Nat} (h : ∀ x ∈ l, x < 256) : ∀ i, l.getD i 0 < 256 := fun i => by
 rw [jR]
 cases hq : l[i]? with
 | none => simp
 | some z => exact h z (List.mem_of_getElem? hq)
def zoC (key : List Nat) (by_ i j : Nat) : Nat := if j < i then (key.getD j 0 % 256) ^^^ (by_ % 256) else 0
def zuY (key : List Nat) (by_ i j : Nat) : Nat := if j = i then by_ else zoC key by_ i j
theorem zBx (key : List Nat) (by_ i : Nat) : zuY key by_ i i = by_ := if_pos rfl
theorem zyg (key : List Nat) (by_ i j : Nat) : upd (fun j => bv (zoC key by_ i j)) i (bv by_) j = bv (zuY key by_ i j) := by
 unfold upd zuY; split <;> rfl
theorem zuZ (key : List Nat) (by_ : Nat) {i j : Nat} (h : j ≠ i) : zuY key by_ i j = zoC key by_ (i + 1) j := by
 unfold zuY zoC
 rw [if_neg h]
 by_cases h2 : j < i
 ·rw [if_pos h2, if_pos (by omega)]
 ·rw [if_neg h2, if_neg (by omega)]
theorem zBy (key : List Nat) (by_ i j : Nat) : upd (fun j => bv (zuY key by_ i j)) i (bv ((by_ % 256) ^^^ (key.getD i 0 % 256))) j = bv (zoC key by_ (i + 1) j) := by
 unfold upd
 by_cases h : j = i
 ·subst h; rw [if_pos rfl]; unfold zoC; rw [if_pos (by omega), Nat.xor_comm]
 ·rw [if_neg h]
  show bv (zuY key by_ i j) = _
  rw [zuZ _ _ h]
theorem zyh (key : List Nat) {by_ i : Nat} (hb : by_ < 256) (hi : key.length ≤ i) : (fun j => bv (zuY key by_ i j)) = fun j => bv (zoC key by_ (i + 1) j) := by
 funext j
 by_cases h : j = i
 ·subst h
  unfold zuY zoC
  rw [if_pos rfl, if_pos (by omega), jR, List.getElem?_eq_none hi, Nat.mod_eq_of_lt hb]
  simp
 ·rw [zuZ _ _ h]
theorem zEr (key : List Nat) (by_ : Nat) : cl [.row 64 (fun j => bv (zoC key by_ 64 j))] = (zcW key by_).map bv := by
 simp only [cl, Chunk.cells, List.append_nil, zcW, List.map_map]
 apply List.map_congr_left
 intro i hi
 simp only [Function.comp, zoC, if_pos (List.mem_range.1 hi)]
theorem zyi (gt : Nat → Nat) (key : List Nat) (ps : List (List Nat)) : znA gt [zcW key 92, znA gt [zcW key 54, ps.flatten]] = znG gt key ps := by
 have e : znA gt [zcW key 54, ps.flatten] = znA gt (zcW key 54 :: ps) := by rw [ziQ, ziQ]; simp
 rw [e, znG]
end
section
open Go.RowKit
attribute [local irreducible] beL beK
theorem zu0 (w : World) (v : Value) (t : TypeId) : (w.alloc (.cells #[v] t)).cell? ⟨w.heap.size, 0, none⟩ = some v := by
 rw [cell_of_row _ _ _ _ _ _ (heap_alloc_new w (.cells #[v] t))]; rfl
theorem zd1 {B : Nat} {w w' : World} {g o : Nat} {v : Value} (hb : Below B w w') (hg : g < B) (h : w.cell? ⟨g, o, none⟩ = some v) : w'.cell? ⟨g, o, none⟩ = some v := (hb.cell (p := ⟨g, o, none⟩) hg).trans h
theorem zyj (k n : Nat) : beL (k + 1) n = (n / 2 ^ (8 * k) % 256) :: beL k n := by
 unfold beL beK
 rw [List.range_succ_eq_map, List.map_cons, List.map_map]
 congr 1
 apply List.map_congr_left
 intro i hi
 have := List.mem_range.1 hi
 simp only [Function.comp]
 rw [show k + 1 - 1 - (i + 1) = k - 1 - i from by omega]
theorem zyk (n : Nat) : beL 0 n = [] := by unfold beL beK; rfl
theorem zdL (k n : Nat) : (beL k n).length = k := by unfold beL; exact zuO k n k
end
section
open Go.RowKit
theorem zu1 (A : Option Addr) (n c : Nat) (l : List Nat) (w : World) (h : Txt w w.heap.size A n c l) (hn : n ≤ 140737488355328) :
  Calls Tryz.prog 67 #[.slice A n c] w (zEi w l) := by
 cases A with
 | none =>
  obtain ⟨rfl, rfl⟩ := h.nil rfl
  obtain rfl : l = [] := List.eq_nil_of_length_eq_zero h.len
  have he := fun w => Lib.run_eql_slice_nil (P := Tryz.prog) w 72 5 none 0 0 0 0 Tryz.underlying72
  go_enter Tryz.func67, Tryz.ntmps67
  go_wp2
  go_ret
  exact ⟨_, rfl, Own.nil_, Below.refl _ _⟩
 | some ad =>
  have he := fun w => Lib.run_eql_slice_nil (P := Tryz.prog) w 72 5 (some ad) n c 0 0 Tryz.underlying72
  have ho := zuN w 5
  have hb : Below w.heap.size w (w.alloc (.cells #[] 5)) := (Below.refl _ _).alloc (jV _) _
  go_enter Tryz.func67, Tryz.ntmps67
  go_wp2_with (refine zdS rfl rfl BT (l := []) rfl rfl ho (h.below hb) (by simpa using hn) (by simp) ?_; intro v1 w1 hown hg hat)
  go_ret
  exact ⟨v1, rfl, by simpa using hown, zmS hb ho hg (jV _) (by simp)⟩
theorem zu2 (v : Value) (l : List Nat) (base : Nat) (W n : Nat) (hW : W ≤ 8) (hn : n < 18446744073709551616) (hl : l.length + 8 ≤ 140737488355328) (w : World) (hown : Own w base 5 v l) (hbase : base ≤ w.heap.size) :
  Calls Tryz.prog 68 #[v, .int .i64 W, .int .u64 n] w fun e w' => (∃ v', e = .returned v' ∧ Own w' base 5 v' (l ++ beL W n)) ∧ Below base w w' := by
 go_enter Tryz.func68, Tryz.ntmps68
 go_wp2
 have hown' := Lib.hid hown
 clear hown
 go_loopg [0, 7] W (fun k v i wr => i = .int .i64 ((k : Int) - 1) ∧ k ≤ W ∧ Own wr base 5 v (l ++ beK W n (W - k)) ∧ Below base w wr ∧ base ≤ wr.heap.size)
 case atStart => exact ⟨rfl, jV _, (by rw [Nat.sub_self]; unfold beK; simpa using hown'.out), Below.refl _ _, hbase⟩
 case round =>
  obtain ⟨rfl, hk, ho, hB, hs⟩ := hrel
  have ho' := Lib.hid ho
  clear ho
  rcases Nat.eq_zero_or_pos gk with hz | hz
  ·subst hz
   go_wp2
   go_ret
   refine ⟨⟨_, rfl, ?_⟩, hB⟩
   exact ho'.out
  ·obtain ⟨k, rfl⟩ : ∃ k, gk = k + 1 := ⟨gk - 1, by omega⟩
   have ek : ((k + 1 : Nat) : Int) - 1 = (k : Int) := by omega
   rw [ek]
   obtain ⟨x, hx⟩ : ∃ x, x = n / 2 ^ (8 * k) % 256 := ⟨_, rfl⟩
   have ex : (n : Int) / 2 ^ (8 * k) % 256 = (x : Int) := by rw [hx, Int.natCast_emod, Int.natCast_ediv, Int.natCast_pow]; rfl
   have en : beK W n (W - (k + 1)) ++ [x] = beK W n (W - k) := by
    rw [show W - k = (W - (k + 1)) + 1 from by omega, zx9, hx, show W - 1 - (W - (k + 1)) = k from by omega]
   have EN := Lib.hid en
   have bl := zuO W n (W - (k + 1))
   have BL := Lib.hid bl
   clear hz ek hx en bl
   go_wp2_with (refine zdS rfl rfl BT rfl rfl (ho'.out.alloc (.cells #[bv x] 5)) (zBo wr 5 x) (by have := BL.out; simp; omega) (by simp; omega) ?_; intro v1 w1 hown hg hat)
   have hb1 := zmS (hB.alloc hs (.cells #[bv x] 5)) (ho'.out.alloc (.cells #[bv x] 5)) hg (jV _) (by simp; omega)
   go_roundg k
   case measure => omega
   case rel => exact ⟨by go_num, by omega, (by rw [← EN.out, ← List.append_assoc]; exact hown), hb1, jU hs (jU (by simp) hg.size)⟩
end
section
open Go.RowKit
theorem zBz : ∀ i : Fin 256, 0 ≤ Lib.len8 (i.val : Int) ∧ Lib.len8 (i.val : Int) ≤ 8 ∧ (i.val ≠ 0 → 1 ≤ Lib.len8 (i.val : Int)) ∧ (i.val = 0 → Lib.len8 (i.val : Int) = 0) := by decide +kernel
theorem zBA (n r k : Nat) (h1 : k = 0 ∨ 256 ^ k ≤ n) (h2 : n < 256 ^ (k + 1)) (h3 : (8 * k + 1 ≤ r ∧ 1 ≤ n) ∨ (n = 0 ∧ r = 0)) (h4 : r ≤ 8 * k + 8) (W : Nat) : r ≤ 8 * W ↔ n < 256 ^ W := by
 have hp : 0 < 256 ^ W := Nat.pow_pos (by omega)
 rcases h3 with ⟨h3, h5⟩ | ⟨rfl, rfl⟩
 ·rcases Nat.lt_or_ge k W with h | h
  ·have := Nat.pow_le_pow_right (n := 256) (by omega) h
   constructor
   ·intro _; exact jT h2 this
   ·intro _; omega
  ·have hle := Nat.pow_le_pow_right (n := 256) (by omega) h
   constructor
   ·intro hr; omega
   ·intro hn
    rcases h1 with rfl | h1
    ·obtain rfl : W = 0 := by omega
     rw [Nat.pow_zero] at hn
     omega
    ·omega
 ·exact ⟨fun _ => hp, fun _ => Nat.zero_le _⟩
theorem zeD (n k : Nat) (hk : k < 8) (h1 : k = 0 ∨ 256 ^ k ≤ n) (h2 : n < 256 ^ (k + 1)) (h0 : n = 0 ∨ 1 ≤ n / 256 ^ k) (W : Nat) :
  (8 * k + (Lib.len8 ((n / 256 ^ k : Nat) : Int)).toNat ≤ 8 * W ↔ n < 256 ^ W) ∧ 0 ≤ Lib.len8 ((n / 256 ^ k : Nat) : Int) ∧ Lib.len8 ((n / 256 ^ k : Nat) : Int) ≤ 8 := by
 have hlt : n / 256 ^ k < 256 := by
  rw [Nat.pow_succ] at h2
  exact Nat.div_lt_of_lt_mul h2
 obtain ⟨a, b, c, d⟩ := zBz ⟨n / 256 ^ k, hlt⟩
 simp only at a b c d
 refine ⟨zBA n _ k h1 h2 ?_ (by omega) W, a, b⟩
 rcases h0 with rfl | h0
 ·rcases h1 with rfl | h1
  ·rw [Nat.zero_div] at d
   have := d rfl
   rw [Nat.zero_div, this]
   exact .inr ⟨rfl, rfl⟩
  ·have : 0 < 256 ^ k := Nat.pow_pos (by omega)
   omega
 ·have := c (by omega)
  refine .inl ⟨by omega, ?_⟩
  rcases Nat.eq_zero_or_pos n with hz | hz
  ·rw [hz, Nat.zero_div] at h0; omega
  ·exact hz
theorem zBB (x : Int) (h0 : 0 ≤ x) (h1 : x < 256) (w : World) :
  Calls Tryz.prog 98 #[.int .u64 x] w fun e w' => (∃ r : Nat, e = .returned (.int .i64 r) ∧ ∀ W, r ≤ 8 * W ↔ x.toNat < 256 ^ W) ∧ w = w' := by
 have d_x1 : decide ((4294967296 : Int) ≤ x) = false := decide_eq_false (by omega)
 have d_x2 : decide ((65536 : Int) ≤ x) = false := decide_eq_false (by omega)
 have d_x3 : decide ((256 : Int) ≤ x) = false := decide_eq_false (by omega)
 have q0 : 0 ≤ x := by omega
 have q1 : x ≤ 255 := by omega
 have q2 : x = ((x.toNat / 256 ^ 0 : Nat) : Int) := by rw [show (256 : Nat) ^ 0 = 1 from rfl]; omega
 have rm := zeD x.toNat 0 (by omega) (.inl rfl) (by rw [show (256 : Nat) ^ (0 + 1) = 256 from rfl]; omega) (by rw [show (256 : Nat) ^ 0 = 1 from rfl]; omega)
 rw [← q2] at rm
 have bd := (rm 0).2
 obtain ⟨l, hl⟩ := Int.eq_ofNat_of_zero_le bd.1
 have tb := fun (w : World) => Lib.run_index_len8tab (P := Tryz.prog) (w := w) 9 .u8 x Tryz.underlying9 q0 q1
 rw [hl] at tb bd
 have bl : l ≤ 8 := by omega
 have RM := Lib.hid (fun W => (rm W).1)
 rw [hl, Int.toNat_natCast] at RM
 clear rm q2 hl bd
 go_enter Tryz.func98, Tryz.ntmps98
 go_wp2
 go_ret
 refine ⟨⟨0 + l, ?_, RM.out⟩, rfl⟩
 first | rfl | (congr 2; omega) | (show Ending.returned (Value.int .i64 _) = Ending.returned (Value.int .i64 _); congr 2; omega)
theorem zBC (x : Int) (h0 : 256 ≤ x) (h1 : x < 65536) (w : World) :
  Calls Tryz.prog 98 #[.int .u64 x] w fun e w' => (∃ r : Nat, e = .returned (.int .i64 r) ∧ ∀ W, r ≤ 8 * W ↔ x.toNat < 256 ^ W) ∧ w = w' := by
 have d_x1 : decide ((4294967296 : Int) ≤ x) = false := decide_eq_false (by omega)
 have d_x2 : decide ((65536 : Int) ≤ x) = false := decide_eq_false (by omega)
 have d_x3 : decide ((256 : Int) ≤ x) = true := decide_eq_true (by omega)
 obtain ⟨x3, hx3⟩ : ∃ y, y = x / 256 := ⟨_, rfl⟩
 have e_x3 : x / 256 = x3 := hx3.symm
 have q0 : 0 ≤ x3 := by omega
 have q1 : x3 ≤ 255 := by omega
 have q2 : x3 = ((x.toNat / 256 ^ 1 : Nat) : Int) := by rw [show (256 : Nat) ^ 1 = 256 from rfl]; omega
 have rm := zeD x.toNat 1 (by omega) (.inr (by rw [show (256 : Nat) ^ 1 = 256 from rfl]; omega)) (by rw [show (256 : Nat) ^ (1 + 1) = 65536 from rfl]; omega) (by rw [show (256 : Nat) ^ 1 = 256 from rfl]; omega)
 rw [← q2] at rm
 have bd := (rm 0).2
 obtain ⟨l, hl⟩ := Int.eq_ofNat_of_zero_le bd.1
 have tb := fun (w : World) => Lib.run_index_len8tab (P := Tryz.prog) (w := w) 9 .u8 x3 Tryz.underlying9 q0 q1
 rw [hl] at tb bd
 have bl : l ≤ 8 := by omega
 have RM := Lib.hid (fun W => (rm W).1)
 rw [hl, Int.toNat_natCast] at RM
 clear rm q2 hl bd hx3
 go_enter Tryz.func98, Tryz.ntmps98
 go_wp2
 go_ret
 refine ⟨⟨8 + l, ?_, RM.out⟩, rfl⟩
 first | rfl | (congr 2; omega) | (show Ending.returned (Value.int .i64 _) = Ending.returned (Value.int .i64 _); congr 2; omega)
theorem zBD (x : Int) (h0 : 65536 ≤ x) (h1 : x < 16777216) (w : World) :
  Calls Tryz.prog 98 #[.int .u64 x] w fun e w' => (∃ r : Nat, e = .returned (.int .i64 r) ∧ ∀ W, r ≤ 8 * W ↔ x.toNat < 256 ^ W) ∧ w = w' := by
 have d_x1 : decide ((4294967296 : Int) ≤ x) = false := decide_eq_false (by omega)
 have d_x2 : decide ((65536 : Int) ≤ x) = true := decide_eq_true (by omega)
 obtain ⟨x2, hx2⟩ : ∃ y, y = x / 65536 := ⟨_, rfl⟩
 have e_x2 : x / 65536 = x2 := hx2.symm
 have d_x3 : decide ((256 : Int) ≤ x2) = false := decide_eq_false (by omega)
 have q0 : 0 ≤ x2 := by omega
 have q1 : x2 ≤ 255 := by omega
 have q2 : x2 = ((x.toNat / 256 ^ 2 : Nat) : Int) := by rw [show (256 : Nat) ^ 2 = 65536 from rfl]; omega
 have rm := zeD x.toNat 2 (by omega) (.inr (by rw [show (256 : Nat) ^ 2 = 65536 from rfl]; omega)) (by rw [show (256 : Nat) ^ (2 + 1) = 16777216 from rfl]; omega) (by rw [show (256 : Nat) ^ 2 = 65536 from rfl]; omega)
 rw [← q2] at rm
 have bd := (rm 0).2
 obtain ⟨l, hl⟩ := Int.eq_ofNat_of_zero_le bd.1
 have tb := fun (w : World) => Lib.run_index_len8tab (P := Tryz.prog) (w := w) 9 .u8 x2 Tryz.underlying9 q0 q1
 rw [hl] at tb bd
 have bl : l ≤ 8 := by omega
 have RM := Lib.hid (fun W => (rm W).1)
 rw [hl, Int.toNat_natCast] at RM
 clear rm q2 hl bd hx2
 go_enter Tryz.func98, Tryz.ntmps98
 go_wp2
 go_ret
 refine ⟨⟨16 + l, ?_, RM.out⟩, rfl⟩
 first | rfl | (congr 2; omega) | (show Ending.returned (Value.int .i64 _) = Ending.returned (Value.int .i64 _); congr 2; omega)
theorem zBE (x : Int) (h0 : 16777216 ≤ x) (h1 : x < 4294967296) (w : World) :
  Calls Tryz.prog 98 #[.int .u64 x] w fun e w' => (∃ r : Nat, e = .returned (.int .i64 r) ∧ ∀ W, r ≤ 8 * W ↔ x.toNat < 256 ^ W) ∧ w = w' := by
 have d_x1 : decide ((4294967296 : Int) ≤ x) = false := decide_eq_false (by omega)
 have d_x2 : decide ((65536 : Int) ≤ x) = true := decide_eq_true (by omega)
 obtain ⟨x2, hx2⟩ : ∃ y, y = x / 65536 := ⟨_, rfl⟩
 have e_x2 : x / 65536 = x2 := hx2.symm
 have d_x3 : decide ((256 : Int) ≤ x2) = true := decide_eq_true (by omega)
 obtain ⟨x3, hx3⟩ : ∃ y, y = x2 / 256 := ⟨_, rfl⟩
 have e_x3 : x2 / 256 = x3 := hx3.symm
 have q0 : 0 ≤ x3 := by omega
 have q1 : x3 ≤ 255 := by omega
 have q2 : x3 = ((x.toNat / 256 ^ 3 : Nat) : Int) := by rw [show (256 : Nat) ^ 3 = 16777216 from rfl]; omega
 have rm := zeD x.toNat 3 (by omega) (.inr (by rw [show (256 : Nat) ^ 3 = 16777216 from rfl]; omega)) (by rw [show (256 : Nat) ^ (3 + 1) = 4294967296 from rfl]; omega) (by rw [show (256 : Nat) ^ 3 = 16777216 from rfl]; omega)
 rw [← q2] at rm
 have bd := (rm 0).2
 obtain ⟨l, hl⟩ := Int.eq_ofNat_of_zero_le bd.1
 have tb := fun (w : World) => Lib.run_index_len8tab (P := Tryz.prog) (w := w) 9 .u8 x3 Tryz.underlying9 q0 q1
 rw [hl] at tb bd
 have bl : l ≤ 8 := by omega
 have RM := Lib.hid (fun W => (rm W).1)
 rw [hl, Int.toNat_natCast] at RM
 clear rm q2 hl bd hx2 hx3
 go_enter Tryz.func98, Tryz.ntmps98
 go_wp2
 go_ret
 refine ⟨⟨24 + l, ?_, RM.out⟩, rfl⟩
 first | rfl | (congr 2; omega) | (show Ending.returned (Value.int .i64 _) = Ending.returned (Value.int .i64 _); congr 2; omega)
theorem zBF (x : Int) (h0 : 4294967296 ≤ x) (h1 : x < 1099511627776) (w : World) :
  Calls Tryz.prog 98 #[.int .u64 x] w fun e w' => (∃ r : Nat, e = .returned (.int .i64 r) ∧ ∀ W, r ≤ 8 * W ↔ x.toNat < 256 ^ W) ∧ w = w' := by
 have d_x1 : decide ((4294967296 : Int) ≤ x) = true := decide_eq_true (by omega)
 obtain ⟨x1, hx1⟩ : ∃ y, y = x / 4294967296 := ⟨_, rfl⟩
 have e_x1 : x / 4294967296 = x1 := hx1.symm
 have d_x2 : decide ((65536 : Int) ≤ x1) = false := decide_eq_false (by omega)
 have d_x3 : decide ((256 : Int) ≤ x1) = false := decide_eq_false (by omega)
 have q0 : 0 ≤ x1 := by omega
 have q1 : x1 ≤ 255 := by omega
 have q2 : x1 = ((x.toNat / 256 ^ 4 : Nat) : Int) := by rw [show (256 : Nat) ^ 4 = 4294967296 from rfl]; omega
 have rm := zeD x.toNat 4 (by omega) (.inr (by rw [show (256 : Nat) ^ 4 = 4294967296 from rfl]; omega)) (by rw [show (256 : Nat) ^ (4 + 1) = 1099511627776 from rfl]; omega) (by rw [show (256 : Nat) ^ 4 = 4294967296 from rfl]; omega)
 rw [← q2] at rm
 have bd := (rm 0).2
 obtain ⟨l, hl⟩ := Int.eq_ofNat_of_zero_le bd.1
 have tb := fun (w : World) => Lib.run_index_len8tab (P := Tryz.prog) (w := w) 9 .u8 x1 Tryz.underlying9 q0 q1
 rw [hl] at tb bd
 have bl : l ≤ 8 := by omega
 have RM := Lib.hid (fun W => (rm W).1)
 rw [hl, Int.toNat_natCast] at RM
 clear rm q2 hl bd hx1
 go_enter Tryz.func98, Tryz.ntmps98
 go_wp2
 go_ret
 refine ⟨⟨32 + l, ?_, RM.out⟩, rfl⟩
 first | rfl | (congr 2; omega) | (show Ending.returned (Value.int .i64 _) = Ending.returned (Value.int .i64 _); congr 2; omega)
theorem zBG (x : Int) (h0 : 1099511627776 ≤ x) (h1 : x < 281474976710656) (w : World) :
  Calls Tryz.prog 98 #[.int .u64 x] w fun e w' => (∃ r : Nat, e = .returned (.int .i64 r) ∧ ∀ W, r ≤ 8 * W ↔ x.toNat < 256 ^ W) ∧ w = w' := by
 have d_x1 : decide ((4294967296 : Int) ≤ x) = true := decide_eq_true (by omega)
 obtain ⟨x1, hx1⟩ : ∃ y, y = x / 4294967296 := ⟨_, rfl⟩
 have e_x1 : x / 4294967296 = x1 := hx1.symm
 have d_x2 : decide ((65536 : Int) ≤ x1) = false := decide_eq_false (by omega)
 have d_x3 : decide ((256 : Int) ≤ x1) = true := decide_eq_true (by omega)
 obtain ⟨x3, hx3⟩ : ∃ y, y = x1 / 256 := ⟨_, rfl⟩
 have e_x3 : x1 / 256 = x3 := hx3.symm
 have q0 : 0 ≤ x3 := by omega
 have q1 : x3 ≤ 255 := by omega
 have q2 : x3 = ((x.toNat / 256 ^ 5 : Nat) : Int) := by rw [show (256 : Nat) ^ 5 = 1099511627776 from rfl]; omega
 have rm := zeD x.toNat 5 (by omega) (.inr (by rw [show (256 : Nat) ^ 5 = 1099511627776 from rfl]; omega)) (by rw [show (256 : Nat) ^ (5 + 1) = 281474976710656 from rfl]; omega) (by rw [show (256 : Nat) ^ 5 = 1099511627776 from rfl]; omega)
 rw [← q2] at rm
 have bd := (rm 0).2
 obtain ⟨l, hl⟩ := Int.eq_ofNat_of_zero_le bd.1
 have tb := fun (w : World) => Lib.run_index_len8tab (P := Tryz.prog) (w := w) 9 .u8 x3 Tryz.underlying9 q0 q1
 rw [hl] at tb bd
 have bl : l ≤ 8 := by omega
 have RM := Lib.hid (fun W => (rm W).1)
 rw [hl, Int.toNat_natCast] at RM
 clear rm q2 hl bd hx1 hx3
 go_enter Tryz.func98, Tryz.ntmps98
 go_wp2
 go_ret
 refine ⟨⟨40 + l, ?_, RM.out⟩, rfl⟩
 first | rfl | (congr 2; omega) | (show Ending.returned (Value.int .i64 _) = Ending.returned (Value.int .i64 _); congr 2; omega)
theorem zBH (x : Int) (h0 : 281474976710656 ≤ x) (h1 : x < 72057594037927936) (w : World) :
  Calls Tryz.prog 98 #[.int .u64 x] w fun e w' => (∃ r : Nat, e = .returned (.int .i64 r) ∧ ∀ W, r ≤ 8 * W ↔ x.toNat < 256 ^ W) ∧ w = w' := by
 have d_x1 : decide ((4294967296 : Int) ≤ x) = true := decide_eq_true (by omega)
 obtain ⟨x1, hx1⟩ : ∃ y, y = x / 4294967296 := ⟨_, rfl⟩
 have e_x1 : x / 4294967296 = x1 := hx1.symm
 have d_x2 : decide ((65536 : Int) ≤ x1) = true := decide_eq_true (by omega)
 obtain ⟨x2, hx2⟩ : ∃ y, y = x1 / 65536 := ⟨_, rfl⟩
 have e_x2 : x1 / 65536 = x2 := hx2.symm
 have d_x3 : decide ((256 : Int) ≤ x2) = false := decide_eq_false (by omega)
 have q0 : 0 ≤ x2 := by omega
 have q1 : x2 ≤ 255 := by omega
 have q2 : x2 = ((x.toNat / 256 ^ 6 : Nat) : Int) := by rw [show (256 : Nat) ^ 6 = 281474976710656 from rfl]; omega
 have rm := zeD x.toNat 6 (by omega) (.inr (by rw [show (256 : Nat) ^ 6 = 281474976710656 from rfl]; omega)) (by rw [show (256 : Nat) ^ (6 + 1) = 72057594037927936 from rfl]; omega) (by rw [show (256 : Nat) ^ 6 = 281474976710656 from rfl]; omega)
 rw [← q2] at rm
 have bd := (rm 0).2
 obtain ⟨l, hl⟩ := Int.eq_ofNat_of_zero_le bd.1
 have tb := fun (w : World) => Lib.run_index_len8tab (P := Tryz.prog) (w := w) 9 .u8 x2 Tryz.underlying9 q0 q1
 rw [hl] at tb bd
 have bl : l ≤ 8 := by omega
 have RM := Lib.hid (fun W => (rm W).1)
 rw [hl, Int.toNat_natCast] at RM
 clear rm q2 hl bd hx1 hx2
 go_enter Tryz.func98, Tryz.ntmps98
 go_wp2
 go_ret
 refine ⟨⟨48 + l, ?_, RM.out⟩, rfl⟩
 first | rfl | (congr 2; omega) | (show Ending.returned (Value.int .i64 _) = Ending.returned (Value.int .i64 _); congr 2; omega)
theorem zBI (x : Int) (h0 : 72057594037927936 ≤ x) (h1 : x ≤ 18446744073709551615) (w : World) :
  Calls Tryz.prog 98 #[.int .u64 x] w fun e w' => (∃ r : Nat, e = .returned (.int .i64 r) ∧ ∀ W, r ≤ 8 * W ↔ x.toNat < 256 ^ W) ∧ w = w' := by
 have d_x1 : decide ((4294967296 : Int) ≤ x) = true := decide_eq_true (by omega)
 obtain ⟨x1, hx1⟩ : ∃ y, y = x / 4294967296 := ⟨_, rfl⟩
 have e_x1 : x / 4294967296 = x1 := hx1.symm
 have d_x2 : decide ((65536 : Int) ≤ x1) = true := decide_eq_true (by omega)
 obtain ⟨x2, hx2⟩ : ∃ y, y = x1 / 65536 := ⟨_, rfl⟩
 have e_x2 : x1 / 65536 = x2 := hx2.symm
 have d_x3 : decide ((256 : Int) ≤ x2) = true := decide_eq_true (by omega)
 obtain ⟨x3, hx3⟩ : ∃ y, y = x2 / 256 := ⟨_, rfl⟩
 have e_x3 : x2 / 256 = x3 := hx3.symm
 have q0 : 0 ≤ x3 := by omega
 have q1 : x3 ≤ 255 := by omega
 have q2 : x3 = ((x.toNat / 256 ^ 7 : Nat) : Int) := by rw [show (256 : Nat) ^ 7 = 72057594037927936 from rfl]; omega
 have rm := zeD x.toNat 7 (by omega) (.inr (by rw [show (256 : Nat) ^ 7 = 72057594037927936 from rfl]; omega)) (by rw [show (256 : Nat) ^ (7 + 1) = 18446744073709551616 from rfl]; omega) (by rw [show (256 : Nat) ^ 7 = 72057594037927936 from rfl]; omega)
 rw [← q2] at rm
 have bd := (rm 0).2
 obtain ⟨l, hl⟩ := Int.eq_ofNat_of_zero_le bd.1
 have tb := fun (w : World) => Lib.run_index_len8tab (P := Tryz.prog) (w := w) 9 .u8 x3 Tryz.underlying9 q0 q1
 rw [hl] at tb bd
 have bl : l ≤ 8 := by omega
 have RM := Lib.hid (fun W => (rm W).1)
 rw [hl, Int.toNat_natCast] at RM
 clear rm q2 hl bd hx1 hx2 hx3
 go_enter Tryz.func98, Tryz.ntmps98
 go_wp2
 go_ret
 refine ⟨⟨56 + l, ?_, RM.out⟩, rfl⟩
 first | rfl | (congr 2; omega) | (show Ending.returned (Value.int .i64 _) = Ending.returned (Value.int .i64 _); congr 2; omega)
theorem zu3 (x : Int) (h0 : 0 ≤ x) (h1 : x ≤ 18446744073709551615) (w : World) :
  Calls Tryz.prog 98 #[.int .u64 x] w fun e w' => (∃ r : Nat, e = .returned (.int .i64 r) ∧ ∀ W, r ≤ 8 * W ↔ x.toNat < 256 ^ W) ∧ w = w' := by
 by_cases g0 : x < 256
 ·exact zBB x (by omega) g0 w
 by_cases g1 : x < 65536
 ·exact zBC x (by omega) g1 w
 by_cases g2 : x < 16777216
 ·exact zBD x (by omega) g2 w
 by_cases g3 : x < 4294967296
 ·exact zBE x (by omega) g3 w
 by_cases g4 : x < 1099511627776
 ·exact zBF x (by omega) g4 w
 by_cases g5 : x < 281474976710656
 ·exact zBG x (by omega) g5 w
 by_cases g6 : x < 72057594037927936
 ·exact zBH x (by omega) g6 w
 exact zBI x (by omega) h1 w
end
section
open Go.RowKit
section
variable {P : Program} {ops : Array Oper} {rest : List Oper} {o : Oper} {a : Act} {w : World} {Q : Exit → Act → World → Prop}
theorem zph (k : IntKind) (N : Nat) (f : Nat → Int) (off n : Nat) (h : off + n ≤ N) : (arr k N f).extract off (off + n) = arr k n fun i => f (off + i) := by
 apply Array.ext_getElem?
 intro j
 by_cases hj : j < n
 ·rw [zia _ _ _ _ hj, Array.getElem?_extract, if_pos (by rw [zeR]; omega), zia _ _ _ _ (by omega)]
 ·rw [Array.getElem?_eq_none (by simp [zeR]; omega), Array.getElem?_eq_none (by rw [zeR]; omega)]
theorem zk4 {e n : Nat} (hT : zkd P e n) : (isAgg e).run P w = .ok true w := by
 obtain ⟨d, hu, hd, _⟩ := hT
 unfold isAgg
 rw [Sem.run_bind, run_underlying hu w]
 cases d <;> simp_all
theorem zhH {t e n N len : Nat} {k : IntKind} {f : Nat → Int} {x y : Operand} {i : Int} (ho : o.op = .index t x y) (ht : P.underlying t = some (.array len e)) (hT : zkd P e n) (hx : a.eval x = .agg (arr k N f)) (hy : a.eval y = .int .i64 i) (h0 : 0 ≤ i) (hi : i < len) (hle : i.toNat * n + n ≤ N) :
  (execOp a.eval o).run P w = .ok (.value (.agg (arr k n fun j => f (i.toNat * n + j)))) w := by
 have hs := hT
 obtain ⟨_, _, _, hs⟩ := hs
 unfold execOp
 simp only [ho, hx, hy]
 unfold Instr.index
 have h1 : 0 ≤ i ∧ i < (len : Int) := ⟨h0, hi⟩
 simp [Sem.run_bind, run_underlying ht, asIntOf, h1, zbd hs, part, zk4 hT, zph k N f _ n hle]
theorem zg3 {t e N len : Nat} {k : IntKind} {d : TypeDesc} {f : Nat → Int} {x y : Operand} {i : Int} (ho : o.op = .index t x y) (ht : P.underlying t = some (.array len e)) (he : P.underlying e = some d) (hd : (match d with | .struct _ | .array _ _ => true | _ => false) = false) (hs : (P.info? e).map (·.size) = some 1) (hx : a.eval x = .agg (arr k N f)) (hy : a.eval y = .int .i64 i) (h0 : 0 ≤ i) (hi : i < len) (hle : i.toNat < N) :
  (execOp a.eval o).run P w = .ok (.value (.int k (f i.toNat))) w := by
 have hg : (isAgg e).run P w = .ok false w := by
  unfold isAgg
  rw [Sem.run_bind, run_underlying he w]
  cases d <;> simp_all
 unfold execOp
 simp only [ho, hx, hy]
 unfold Instr.index
 have h1 : 0 ≤ i ∧ i < (len : Int) := ⟨h0, hi⟩
 simp [Sem.run_bind, run_underlying ht, asIntOf, h1, zbd hs, part, hg, zia _ _ _ _ hle]
theorem zhI {t e n N len : Nat} {k : IntKind} {f : Nat → Int} {x y : Operand} {i : Int} (hgd : o.guard = none) (ho : o.op = .index t x y) (ht : P.underlying t = some (.array len e)) (hT : zkd P e n) (hx : a.eval x = .agg (arr k N f)) (hy : a.eval y = .int .i64 i) (h0 : 0 ≤ i) (hi : i < len) (hle : i.toNat * n + n ≤ N)
  (f' : Nat → Int) (hf : ∀ j, j < n → f (i.toNat * n + j) = f' j) (h : wpList P ops Q rest (a.put o.dst (.agg (arr k n f'))) w) : wpList P ops Q (o :: rest) a w :=
 zeS hgd (zhH ho ht hT hx hy h0 hi hle) (by rw [zdh hf]; exact h)
theorem za6 {t e N len : Nat} {k : IntKind} {d : TypeDesc} {f : Nat → Int} {x y : Operand} {i : Int} (hgd : o.guard = none) (ho : o.op = .index t x y) (ht : P.underlying t = some (.array len e)) (he : P.underlying e = some d) (hd : (match d with | .struct _ | .array _ _ => true | _ => false) = false) (hs : (P.info? e).map (·.size) = some 1) (hx : a.eval x = .agg (arr k N f)) (hy : a.eval y = .int .i64 i) (h0 : 0 ≤ i) (hi : i < len) (hle : i.toNat < N)
  (h : wpList P ops Q rest (a.put o.dst (.int k (f i.toNat))) w) : wpList P ops Q (o :: rest) a w :=
 zeS hgd (zg3 ho ht he hd hs hx hy h0 hi hle) h
theorem zbQ {ty : TypeId} {parts : Array (Nat × Operand)} {c : Array Value} {l : List (Nat × Value)} (ho : o.op = .build ty parts) (hl : (parts.map fun (i, x) => (i, a.eval x)).toList = l) (hb : P.built ty l = some c) : (execOp a.eval o).run P w = .ok (.value (.agg c)) w := by
 subst hl
 unfold execOp
 simp only [ho, Sem.run_bind, run_build w ty _ c hb, Result.andThen_ok]
 rfl
theorem zcs {t e len : Nat} {parts : Array (Nat × Operand)} {c : Array Value} {l : List (Nat × Value)} (hgd : o.guard = none) (ho : o.op = .buildSlice t len parts) (hu : P.underlying t = some (.slice e)) (hl : (parts.map fun (i, x) => (i, a.eval x)).toList = l) (hb : P.builtSlice e len l = some c)
  (h : wpList P ops Q rest (a.put o.dst (.slice (some ⟨w.heap.size, 0, none⟩) len len)) (w.alloc (.cells c e))) : wpList P ops Q (o :: rest) a w := by
 subst hl
 exact Go.Great.wpList_buildSliceTo hgd t e len parts ho _ rfl _ rfl hu c hb h
end
end
section
open Go.RowKit
theorem zbZ : zkd Tryz.prog 168 5 := ⟨_, Tryz.underlying168, rfl, by kernel_rfl⟩
theorem zxb : zic Tryz.prog 168 .u64 5 := by unfold zic; kernel_rfl
theorem znL : (Tryz.prog.info? 32).map (·.size) = some 1 := by kernel_rfl
def mxN (F : Nat → Nat) : Nat → Nat
 | 0 => F 0
 | m + 1 => max (mxN F m) (F (m + 1))
theorem zz8 (F : Nat → Nat) (b : Nat) : ∀ m, (mxN F m < b ↔ ∀ i, i < m + 1 → F i < b)
 | 0 => by
  unfold mxN
  exact ⟨fun h i hi => by rw [show i = 0 from by omega]; exact h, fun h => h 0 (by omega)⟩
 | m + 1 => by
  unfold mxN
  rw [Nat.max_lt, zz8 F b m]
  constructor
  ·rintro ⟨h1, h2⟩ i hi
   by_cases h : i < m + 1
   ·exact h1 i h
   ·rw [show i = m + 1 from by omega]; exact h2
  ·intro h
   exact ⟨fun i hi => h i (by omega), h _ (by omega)⟩
theorem zym (F : Nat → Nat) (m : Nat) : mxN F (m + 1) = max (mxN F m) (F (m + 1)) := rfl
attribute [local irreducible] mxN
theorem zBJ (F : Nat → Nat) (hF : ∀ i, i < 5 → F i < 18446744073709551616) (g : Nat) (w : World) (hg : w.heap[g]? = some (.cells (arr .u64 5 fun i => ((F i : Nat) : Int)) 168 (0, 0))) :
  Calls Tryz.prog 183 #[.slice (some ⟨g, 0, none⟩) 5 5] w fun e w' => e = .returned (.int .u64 ((mxN F 4 : Nat) : Int)) ∧ w = w' := by
 go_enter Tryz.func183, Tryz.ntmps183
 have c0 := za7 hg 0 (by omega)
 go_wp2
 have e0 : mxN F 0 = F 0 := by unfold mxN; rfl
 go_loopg [3, 4] 4 (fun n x i wr => ∃ m : Nat, m + n = 4 ∧ i = .int .i64 ((m : Int) + 1) ∧ x = .int .u64 ((mxN F m : Nat) : Int) ∧ w = wr)
 case atStart => exact ⟨0, rfl, rfl, by rw [e0], rfl⟩
 case round =>
  obtain ⟨m, hm, rfl, rfl, rfl⟩ := hrel
  have hm' := Lib.hid hm
  clear hm c0 e0
  by_cases hlt : m < 4
  ·have c1 := za7 hg (m + 1) (by omega)
   go_wp2
   all_goals
    go_roundg (gk - 1)
    case measure => have := hm'.out; omega
    case rel =>
     have hm'' := hm'.out
     exact ⟨m + 1, by omega, by go_num, by rw [zym]; congr 2; omega, rfl⟩
  ·obtain rfl : m = 4 := by have := hm'.out; omega
   go_wp2
   go_ret
   exact ⟨rfl, rfl⟩
def okF (F : Nat → Nat) (n : Nat) : Prop := ∀ i, i < n → F i < 4503599627370496
instance (F : Nat → Nat) (n : Nat) : Decidable (okF F n) := Nat.decidableBallLT n fun i _ => F i < 4503599627370496
theorem zyn (F : Nat → Nat) (off k : Nat) (h : okF F (off + 5 * k)) : okF F (off + 5 * (k + 1)) ↔ okF (fun i => F (off + 5 * k + i)) 5 := by
 constructor
 ·intro h i hi; exact h _ (by omega)
 ·intro h' i hi
  by_cases hlt : i < off + 5 * k
  ·exact h i hlt
  ·have := h' (i - (off + 5 * k)) (by omega)
   simpa only [show off + 5 * k + (i - (off + 5 * k)) = i from by omega] using this
theorem zu4 (F : Nat → Nat) (hF : ∀ i, i < 5 → F i < 18446744073709551616) (w : World) :
  Calls Tryz.prog 182 #[.agg (arr .u64 5 fun i => ((F i : Nat) : Int))] w fun e w' => e = .returned (.bool (!decide (okF F 5))) ∧ Below w.heap.size w w' := by
 go_enter Tryz.func182, Tryz.ntmps182
 obtain ⟨g0, hz, hb0⟩ := zhk w (.cells (arr .u64 5 fun i => ((F i : Nat) : Int)) 168)
 have hl := zz8 F 4503599627370496 4
 have e0 : (!decide (okF F 5)) = decide (4503599627370496 ≤ mxN F 4) := by
  rw [← decide_not]
  exact decide_eq_decide.2 (by rw [← Nat.not_lt, hl]; rfl)
 rw [e0]
 clear e0 hl
 go_wp2_with (first | (refine zbK rfl (zhB rfl Tryz.underlying168 znL rfl) ?_) | (go_at_call 183; refine (zBJ F hF _ _ g0).mono ?_; rintro e w' ⟨rfl, rfl⟩))
 go_ret
 refine ⟨?_, hb0⟩
 show Ending.returned (Value.bool _) = Ending.returned (Value.bool _)
 rw [show decide ((4503599627370496 : Int) ≤ ((mxN F 4 : Nat) : Int)) = decide (4503599627370496 ≤ mxN F 4) from decide_eq_decide.2 (by omega)]
theorem zk5 (n : Nat) (hn : n < 1000) (F : Nat → Nat) (hF : ∀ i, i < 5 * n → F i < 18446744073709551616) (g t : Nat) (w : World) (hg : w.heap[g]? = some (.cells (arr .u64 (5 * n) fun i => ((F i : Nat) : Int)) t (0, 0))) :
  Calls Tryz.prog 196 #[.slice (some ⟨g, 0, none⟩) n n, .func (.func 182) #[] #[]] w fun e w' => (∃ r : Int, e = .returned (.int .i64 r) ∧ decide (r ≥ 0) = !decide (okF F (5 * n))) ∧ Below w.heap.size w w' := by
 go_enter Tryz.func196, Tryz.ntmps196
 have hgl := jM hg
 go_wp2
 go_loopg [8] n (fun q i wr => ∃ m : Nat, m + q = n ∧ i = .int .i64 m ∧ okF F (5 * m) ∧ wr.heap[g]? = some (.cells (arr .u64 (5 * n) fun i => ((F i : Nat) : Int)) t (0, 0)) ∧ Below w.heap.size w wr)
 case atStart => exact ⟨0, by omega, rfl, fun i hi => absurd hi (by omega), hg, Below.refl _ _⟩
 case round =>
  clear hg
  obtain ⟨m, hm, rfl, hok, hg, hB⟩ := hrel
  have hm' := Lib.hid hm
  clear hm
  by_cases hlt : m < n
  ·have h5 := zyn F 0 m (by simpa using hok)
   simp only [Nat.zero_add] at h5
   by_cases hq : okF (fun i => F (5 * m + i)) 5
   ·go_wp2_with (first | (refine zcH (off := m * 5) (fun i => ((F (5 * m + i) : Nat) : Int)) rfl rfl rfl zbZ hg (by omega) (fun i hi => by rw [Nat.mul_comm m 5]) ?_) | (go_at_call 182; refine (zu4 (fun i => F (5 * m + i)) (fun i hi => hF _ (by omega)) _).mono ?_; rintro e w2 ⟨rfl, b2⟩; rw [show (!decide (okF (fun i => F (5 * m + i)) 5)) = false from by rw [decide_eq_true hq]; rfl]))
    go_roundg (gk - 1)
    case measure => have := hm'.out; omega
    case rel =>
     have hm'' := hm'.out
     exact ⟨m + 1, by omega, by go_num, h5.2 hq, zam b2 (jM hg) hg, hB.trans (b2.mono hB.size)⟩
   ·go_wp2_with (first | (refine zcH (off := m * 5) (fun i => ((F (5 * m + i) : Nat) : Int)) rfl rfl rfl zbZ hg (by omega) (fun i hi => by rw [Nat.mul_comm m 5]) ?_) | (go_at_call 182; refine (zu4 (fun i => F (5 * m + i)) (fun i hi => hF _ (by omega)) _).mono ?_; rintro e w2 ⟨rfl, b2⟩; rw [show (!decide (okF (fun i => F (5 * m + i)) 5)) = true from by rw [decide_eq_false hq]; rfl]))
    go_ret
    refine ⟨⟨_, rfl, ?_⟩, hB.trans (b2.mono hB.size)⟩
    rw [show decide (okF F (5 * n)) = false from decide_eq_false fun h => hq (h5.1 fun i hi => h i (by omega))]
    exact decide_eq_true (by omega)
  ·obtain rfl : m = n := by have := hm'.out; omega
   go_wp2
   go_ret
   refine ⟨⟨_, rfl, ?_⟩, hB⟩
   rw [decide_eq_true hok]; rfl
theorem znM (n : Nat) (hn : n < 1000) (F : Nat → Nat) (hF : ∀ i, i < 5 * n → F i < 18446744073709551616) (g t : Nat) (w : World) (hg : w.heap[g]? = some (.cells (arr .u64 (5 * n) fun i => ((F i : Nat) : Int)) t (0, 0))) :
  Calls Tryz.prog 181 #[.slice (some ⟨g, 0, none⟩) n n, .func (.func 182) #[] #[]] w fun e w' => e = .returned (.bool (!decide (okF F (5 * n)))) ∧ Below w.heap.size w w' := by
 go_enter Tryz.func181, Tryz.ntmps181
 go_wp2_with (go_at_call 196; refine (zk5 n hn F hF g t _ hg).mono ?_; rintro e w2 ⟨⟨r, rfl, hr⟩, b2⟩)
 go_ret
 exact ⟨rfl, b2⟩
theorem zg4 (n m : Nat) (hm : 5 * n = m) (hn : n < 1000) (F : Nat → Nat) (hF : ∀ i, i < m → F i < 18446744073709551616) (g t : Nat) (w : World) (hg : w.heap[g]? = some (.cells (arr .u64 m fun i => ((F i : Nat) : Int)) t (0, 0))) :
  Calls Tryz.prog 164 #[.slice (some ⟨g, 0, none⟩) n n] w fun e w' => e = .returned (.bool (decide (okF F m))) ∧ Below w.heap.size w w' := by
 subst hm
 go_enter Tryz.func164, Tryz.ntmps164
 go_wp2_with (go_at_call 181; refine (znM n hn F hF g t _ hg).mono ?_; rintro e w2 ⟨rfl, b2⟩)
 go_ret
 exact ⟨by simp, b2⟩
theorem znN (F : Nat → Int) : Tryz.prog.builtSlice 168 1 [(0, .agg (arr .u64 5 F))] = some (arr .u64 5 F) := by kernel_rfl
def zk6 (F G : Nat → Nat) (i : Nat) : Nat := if i < 5 then F i else G (i - 5)
theorem ziR (F G : Nat → Nat) : Tryz.prog.builtSlice 168 2 [(0, .agg (arr .u64 5 fun i => ((F i : Nat) : Int))), (1, .agg (arr .u64 5 fun i => ((G i : Nat) : Int)))] = some (arr .u64 10 fun i => ((zk6 F G i : Nat) : Int)) := by kernel_rfl
theorem zg5 (F G : Nat → Nat) : okF (zk6 F G) 10 ↔ okF F 5 ∧ okF G 5 := by
 constructor
 ·intro h
  refine ⟨fun i hi => ?_, fun i hi => ?_⟩
  ·have := h i (by omega); unfold zk6 at this; rwa [if_pos hi] at this
  ·have := h (5 + i) (by omega); unfold zk6 at this; rwa [if_neg (by omega), Nat.add_sub_cancel_left] at this
 ·rintro ⟨h1, h2⟩ i hi
  unfold zk6
  by_cases h : i < 5
  ·rw [if_pos h]; exact h1 i h
  ·rw [if_neg h]; exact h2 _ (by omega)
theorem zpi (F G : Nat → Nat) (b : Nat) (hF : ∀ i, i < 5 → F i < b) (hG : ∀ i, i < 5 → G i < b) (i : Nat) (hi : i < 10) : zk6 F G i < b := by
 unfold zk6
 by_cases h : i < 5
 ·rw [if_pos h]; exact hF i h
 ·rw [if_neg h]; exact hG _ (by omega)
end
section
open Go.RowKit
theorem zk7 (a b : Nat) (h : a + b < 18446744073709551616) : bits .and .u64 ((a : Int) + (b : Int)) 2251799813685247 = (((a + b) % 2251799813685248 : Nat) : Int) := by
 have h1 := bits_and_u64_nat (a + b) 2251799813685247 h (by omega)
 have e : (a + b) &&& 2251799813685247 = (a + b) % 2251799813685248 := Nat.and_two_pow_sub_one_eq_mod (a + b) 51
 rw [e] at h1
 rw [← h1]
 rfl
def ovN (F : Nat → Nat) : Nat → Nat
 | 0 => 0
 | m + 1 => (F m + ovN F m) / 2251799813685248
def loN (F : Nat → Nat) (m : Nat) : Nat := (F m + ovN F m) % 2251799813685248
def zc4 (F : Nat → Nat) (i : Nat) : Nat := if i = 0 then loN F 0 + 19 * ovN F 5 else loN F i
theorem zgw (F : Nat → Nat) (m : Nat) : ovN F (m + 1) = (F m + ovN F m) / 2251799813685248 := rfl
theorem zq5 (F : Nat → Nat) (hF : ∀ i, i < 5 → F i < 9223372036854775808) : ∀ m, m ≤ 5 → ovN F m < 8192
 | 0, _ => by unfold ovN; omega
 | m + 1, h => by
  have := zq5 F hF m (by omega)
  have := hF m (by omega)
  rw [zgw]
  omega
attribute [local irreducible] ovN
theorem zeE (F : Nat → Nat) (hF : ∀ i, i < 5 → F i < 9223372036854775808) (w : World) :
  Calls Tryz.prog 180 #[.agg (arr .u64 5 fun i => ((F i : Nat) : Int))] w fun e w' => e = .returned (.agg (arr .u64 5 fun i => ((zc4 F i : Nat) : Int))) ∧ Below w.heap.size w w' := by
 go_enter Tryz.func180, Tryz.ntmps180
 obtain ⟨h0, h1, hsz, hb⟩ := zhm w (.cells (arr .u64 5 fun i => ((F i : Nat) : Int)) 168) (.cells (arr .u64 5 fun _ => 0) 168)
 go_wp2_with (first | (refine zat rfl rfl zxb ?_) | (refine zad rfl rfl rfl zbZ h0 ?_))
 have hF' := Lib.hid hF
 have hov := Lib.hid (zq5 F hF)
 clear hF
 go_loopg [3, 7] 5 (fun n x i wr => ∃ m : Nat, m + n = 5 ∧ i = .int .i64 m ∧ x = .int .u64 ((ovN F m : Nat) : Int) ∧ wr.heap[w.heap.size]? = some (.cells (arr .u64 5 fun i => ((if i < m then loN F i else F i : Nat) : Int)) 168 (0, 0)) ∧
  wr.heap[w.heap.size + 1]? = some (.cells (arr .u64 5 fun _ => 0) 168 (0, 0)) ∧ Below w.heap.size w wr)
 case atStart => exact ⟨0, rfl, rfl, by unfold ovN; rfl, zaz h0 (fun i _ => by rw [if_neg (Nat.not_lt_zero i)]), h1, hb⟩
 case round =>
  obtain ⟨m, hm, rfl, rfl, g0, g1, hB⟩ := hrel
  have hm' := Lib.hid hm
  clear h0 h1 hsz hb hm
  by_cases hlt : m < 5
  ·have fb := hF'.out m hlt
   have ob := hov.out m (by omega)
   have c0 := za7 g0 m hlt
   have fz := zb6 g0 m
   go_wp2_with (refine za6 rfl rfl Tryz.underlying168 Tryz.underlying32 rfl znL rfl rfl (by omega) (by omega) (by omega) ?_)
   go_roundg (gk - 1)
   case measure => have := hm'.out; omega
   case rel =>
    have hm'' := hm'.out
    refine ⟨m + 1, by omega, by go_num, ?_, zaz (zcj g0 m _) (fun i _ => ?_), zck g1 _ _ (by omega), hB.setCell (jV _) _⟩
    ·rw [zgw]; rfl
    ·rw [zk7 _ _ (by omega)]
     unfold upd
     by_cases h : i = m
     ·rw [if_pos h, h, if_pos (by omega)]; rfl
     ·rw [if_neg h]
      dsimp only
      by_cases h2 : i < m
      ·rw [if_pos h2, if_pos (by omega)]
      ·rw [if_neg h2, if_neg (by omega)]
  ·obtain rfl : m = 5 := by have := hm'.out; omega
   have ob := hov.out 5 (by omega)
   have g0' := zaz (f' := fun i => ((loN F i : Nat) : Int)) g0 (fun i hi => by rw [if_pos hi])
   clear g0
   have c0 := za7 g0' 0 (by omega)
   have fz := zb6 g0' 0
   have lb : loN F 0 < 2251799813685248 := Nat.mod_lt _ (by omega)
   go_upto_region 9 with (fail)
   have g2 := zaz (f' := fun i => ((zc4 F i : Nat) : Int)) (zcj g0' 0 (((loN F 0 : Nat) : Int) + 19 * ((ovN F 5 : Nat) : Int))) (fun i _ => by
    unfold upd zc4
    by_cases h : i = 0
    ·rw [if_pos h, if_pos h]; omega
    ·rw [if_neg h, if_neg h])
   have g3 := zck (i := 0) (v := .int .u64 (((loN F 0 : Nat) : Int) + 19 * ((ovN F 5 : Nat) : Int))) g1 (C := w.heap.size) (by omega)
   have hBq := hB.setCell (p := ⟨w.heap.size, 0, none⟩) (jV _) (.int .u64 (((loN F 0 : Nat) : Int) + 19 * ((ovN F 5 : Nat) : Int)))
   go_wp2_with (first | (refine zad rfl rfl rfl zbZ g2 ?_) | (refine zah rfl rfl rfl rfl zbZ g3 ?_))
   exact bodyPost_ret (zbJ rfl rfl zbZ (zaF g3)) rfl ⟨rfl, zaG hBq (by omega) _⟩
end
section
open Go.RowKit
theorem zct (F : Nat → Nat) (hF : ∀ i, i < 5 → F i < 9223372036854775808) (i : Nat) (_hi : i < 5) : zc4 F i < 2251799813840896 := by
 have h1 := zq5 F hF 5 (by omega)
 have h2 : ∀ i, loN F i < 2251799813685248 := fun i => Nat.mod_lt _ (by omega)
 unfold zc4
 have := h2 0
 have := h2 i
 split <;> omega
def quN (F : Nat → Nat) : Nat → Nat
 | 0 => 19
 | m + 1 => (F m + quN F m) / 2251799813685248
theorem zq6 (F : Nat → Nat) (m : Nat) : quN F (m + 1) = (F m + quN F m) / 2251799813685248 := rfl
theorem zu5 (F : Nat → Nat) (hF : ∀ i, i < 5 → F i < 4503599627370496) : ∀ m, m ≤ 5 → quN F m < 20
 | 0, _ => by unfold quN; omega
 | m + 1, h => by
  have := zu5 F hF m (by omega)
  have := hF m (by omega)
  rw [zq6]
  omega
def upN (F : Nat → Nat) (i : Nat) : Nat := if i = 0 then F 0 + 19 * quN F 5 else F i
def zdE (F : Nat → Nat) (i : Nat) : Nat := loN (upN (zc4 (zc4 F))) i
theorem zEs (F : Nat → Nat) (hF : ∀ i, i < 5 → F i < 4503599627370496) (i : Nat) (hi : i < 5) : upN F i < 4503599627370877 := by
 have := zu5 F hF 5 (by omega)
 have := hF 0 (by omega)
 have := hF i hi
 unfold upN
 split <;> omega
theorem zu6 (F : Nat → Nat) (i : Nat) : zdE F i < 2251799813685248 := Nat.mod_lt _ (by omega)
attribute [local irreducible] ovN quN
theorem zu7 (F : Nat → Nat) (hF : ∀ i, i < 5 → F i < 9223372036854775808) (w : World) :
  Calls Tryz.prog 184 #[.agg (arr .u64 5 fun i => ((F i : Nat) : Int))] w fun e w' => e = .returned (.agg (arr .u64 5 fun i => ((zdE F i : Nat) : Int))) ∧ Below w.heap.size w w' := by
 go_enter Tryz.func184, Tryz.ntmps184
 obtain ⟨h0, h1, hsz, hb⟩ := zhm w (.cells (arr .u64 5 fun i => ((F i : Nat) : Int)) 168) (.cells (arr .u64 5 fun _ => 0) 168)
 go_wp2_with (first | (refine zat rfl rfl zxb ?_) | (refine zad rfl rfl rfl zbZ h0 ?_) | (go_at_call 180; fail))
 refine (zeE F hF _).mono ?_
 rintro e w1 ⟨rfl, b1⟩
 have c1 := zct F hF
 go_wp2_with (go_at_call 180; fail)
 refine (zeE (zc4 F) (fun i hi => by have := c1 i hi; omega) _).mono ?_
 rintro e w2 ⟨rfl, b2⟩
 have c2 : ∀ i, i < 5 → zc4 (zc4 F) i < 4503599627370496 := fun i hi => by have := zct (zc4 F) (fun i hi => by have := c1 i hi; omega) i hi; omega
 have b3 := b1.trans (b2.mono b1.size)
 have g0 := zam b3 (by omega) h0
 have g1 := zam b3 (by omega) h1
 have hB := hb.trans (b3.mono (by omega))
 clear h0 h1 b1 b2 b3 c1 hF hb hsz
 generalize hGe : zc4 (zc4 F) = G at c2 ⊢
 have hGe' := Lib.hid hGe
 clear hGe
 go_upto_region 2 with (refine zah rfl rfl rfl rfl zbZ g0 ?_)
 have q0 := zaF (w := w2) (c' := arr .u64 5 fun i => ((G i : Nat) : Int)) g0
 have q1 := zc9 (w := w2) (c' := arr .u64 5 fun i => ((G i : Nat) : Int)) (g := w.heap.size) g1 (by omega)
 have hBq := zaG hB (g := w.heap.size) (by omega) (arr .u64 5 fun i => ((G i : Nat) : Int))
 clear g0 g1 hB
 generalize w2.setRow w.heap.size (arr .u64 5 fun i => ((G i : Nat) : Int)) = w3 at *
 (try simp only [Act.put, jA, jB, jC])
 have hq := Lib.hid (zu5 G c2)
 have hu := Lib.hid (zEs G c2)
 have hG := Lib.hid c2
 clear c2
 go_wp2_with (refine zad rfl rfl rfl zbZ q0 ?_)
 go_loopg [3, 13] 5 (fun n x i wr => ∃ m : Nat, m + n = 5 ∧ i = .int .i64 m ∧ x = .int .u64 ((quN G m : Nat) : Int) ∧ wr.heap[w.heap.size]? = some (.cells (arr .u64 5 fun i => ((G i : Nat) : Int)) 168 (0, 0)) ∧
  wr.heap[w.heap.size + 1]? = some (.cells (arr .u64 5 fun _ => 0) 168 (0, 0)) ∧ Below w.heap.size w wr)
 case atStart => exact ⟨0, rfl, rfl, by unfold quN; rfl, q0, q1, hBq⟩
 case round =>
  clear q0 q1 hBq
  obtain ⟨m, hm, rfl, rfl, g0, g1, hB⟩ := hrel
  have hm' := Lib.hid hm
  clear hm
  by_cases hlt : m < 5
  ·have fb := hG.out m hlt
   have ob := hq.out m (by omega)
   go_wp2_with (refine za6 rfl rfl Tryz.underlying168 Tryz.underlying32 rfl znL rfl rfl (by omega) (by omega) (by omega) ?_)
   go_roundg (gk - 1)
   case measure => have := hm'.out; omega
   case rel =>
    have hm'' := hm'.out
    exact ⟨m + 1, by omega, by go_num, by rw [zq6]; rfl, g0, g1, hB⟩
  ·obtain rfl : m = 5 := by have := hm'.out; omega
   have ob := hq.out 5 (by omega)
   have fb := hG.out 0 (by omega)
   have c0 := za7 g0 0 (by omega)
   have fz := zb6 g0 0
   go_upto_region 9 with (fail)
   have q0 := zaz (f' := fun i => ((upN G i : Nat) : Int)) (zcj g0 0 (((G 0 : Nat) : Int) + 19 * ((quN G 5 : Nat) : Int))) (fun i _ => by
    unfold upd upN
    by_cases h : i = 0
    ·rw [if_pos h, if_pos h]; omega
    ·rw [if_neg h, if_neg h])
   have q1 := zck (i := 0) (v := .int .u64 (((G 0 : Nat) : Int) + 19 * ((quN G 5 : Nat) : Int))) g1 (C := w.heap.size) (by omega)
   have hBq := hB.setCell (p := ⟨w.heap.size, 0, none⟩) (jV _) (.int .u64 (((G 0 : Nat) : Int) + 19 * ((quN G 5 : Nat) : Int)))
   clear g0 g1 hB c0 fz ob fb
   generalize wr.setCell ⟨w.heap.size, 0, none⟩ (.int .u64 (((G 0 : Nat) : Int) + 19 * ((quN G 5 : Nat) : Int))) = w4 at *
   generalize hUe : upN G = U at hu q0 ⊢
   have hUe' := Lib.hid hUe
   clear hUe
   have hov := Lib.hid (zq5 U (fun i hi => by have := hu.out i hi; omega))
   go_wp2_with (refine zad rfl rfl rfl zbZ q0 ?_)
   go_loopg [6, 28] 5 (fun n x i wr => ∃ m : Nat, m + n = 5 ∧ i = .int .i64 m ∧ x = .int .u64 ((ovN U m : Nat) : Int) ∧ wr.heap[w.heap.size]? = some (.cells (arr .u64 5 fun i => ((if i < m then loN U i else U i : Nat) : Int)) 168 (0, 0)) ∧
    wr.heap[w.heap.size + 1]? = some (.cells (arr .u64 5 fun _ => 0) 168 (0, 0)) ∧ Below w.heap.size w wr)
   case atStart => exact ⟨0, rfl, rfl, by unfold ovN; rfl, zaz q0 (fun i _ => by rw [if_neg (Nat.not_lt_zero i)]), q1, hBq⟩
   case round =>
    clear q0 q1 hBq
    obtain ⟨m, hm, rfl, rfl, g0, g1, hB⟩ := hrel
    have hm' := Lib.hid hm
    clear hm
    by_cases hlt : m < 5
    ·have fb := hu.out m hlt
     have ob := hov.out m (by omega)
     have c0 := za7 g0 m hlt
     have fz := zb6 g0 m
     go_wp2_with (refine za6 rfl rfl Tryz.underlying168 Tryz.underlying32 rfl znL rfl rfl (by omega) (by omega) (by omega) ?_)
     go_roundg (gk - 1)
     case measure => have := hm'.out; omega
     case rel =>
      have hm'' := hm'.out
      refine ⟨m + 1, by omega, by go_num, ?_, zaz (zcj g0 m _) (fun i _ => ?_), zck g1 _ _ (by omega), hB.setCell (jV _) _⟩
      ·rw [zgw]; rfl
      ·rw [zk7 _ _ (by omega)]
       unfold upd
       by_cases h : i = m
       ·rw [if_pos h, h, if_pos (by omega)]; rfl
       ·rw [if_neg h]
        dsimp only
        by_cases h2 : i < m
        ·rw [if_pos h2, if_pos (by omega)]
        ·rw [if_neg h2, if_neg (by omega)]
    ·obtain rfl : m = 5 := by have := hm'.out; omega
     have p0 := zaz (f' := fun i => ((loN U i : Nat) : Int)) g0 (fun i hi => by rw [if_pos hi])
     clear g0
     go_wp2_with (first | (refine zad rfl rfl rfl zbZ p0 ?_) | (refine zah rfl rfl rfl rfl zbZ g1 ?_))
     exact bodyPost_ret (zbJ rfl rfl zbZ (zaF g1)) rfl ⟨by rw [← hUe'.out, ← hGe'.out]; rfl, zaG hB (by omega) _⟩
end
section
def zbr (X : Nat → Nat) : Nat → Nat
 | 0 => 0
 | i + 1 => zbr X i + X i * 2 ^ (51 * i)
theorem zd2 (X : Nat → Nat) (i : Nat) : zbr X (i + 1) = zbr X i + X i * 2 ^ (51 * i) := rfl
theorem zg6 (X : Nat → Nat) (n : Nat) (hX : ∀ i, i < n → X i < 2251799813685248) : ∀ i, i ≤ n → zbr X i < 2 ^ (51 * i)
 | 0, _ => by unfold zbr; decide
 | i + 1, h => by
  have h1 := zg6 X n hX i (by omega)
  have h2 : X i + 1 ≤ 2251799813685248 := hX i (by omega)
  have h3 := Nat.mul_le_mul_right (2 ^ (51 * i)) h2
  rw [zd2, show 51 * (i + 1) = 51 + 51 * i from by omega, Nat.pow_add]
  rw [Nat.add_mul] at h3
  have : (2 : Nat) ^ 51 = 2251799813685248 := by decide
  rw [this]
  omega
def zaR (v k : Nat) : Nat := v / 2 ^ (8 * k) % 256
theorem zu8 (a b t : Nat) (ha : a < 2 ^ t) : a ||| (b * 2 ^ t) = a + b * 2 ^ t := by
 rw [Nat.or_comm, Nat.mul_comm, ← Nat.two_pow_add_eq_or_of_lt ha, Nat.add_comm]
theorem zyo (v x i k : Nat) (hv : v < 2 ^ (51 * i)) (h : 8 * k < 51 * i) (h2 : 51 * i < 8 * k + 8) :
  zaR v k ||| (x * 2 ^ (51 * i - 8 * k) % 256) = zaR (v + x * 2 ^ (51 * i)) k := by
 obtain ⟨t, ht⟩ : ∃ t, 51 * i = 8 * k + t := ⟨51 * i - 8 * k, by omega⟩
 unfold zaR
 rw [show 51 * i - 8 * k = t from by omega, ht, Nat.pow_add]
 have ha : v / 2 ^ (8 * k) < 2 ^ t := by
  rw [Nat.div_lt_iff_lt_mul (Nat.two_pow_pos _), ← Nat.pow_add]
  rw [show t + 8 * k = 51 * i from by omega]; exact hv
 have e : (v + x * (2 ^ (8 * k) * 2 ^ t)) / 2 ^ (8 * k) = v / 2 ^ (8 * k) + x * 2 ^ t := by
  rw [show x * (2 ^ (8 * k) * 2 ^ t) = 2 ^ (8 * k) * (x * 2 ^ t) from by rw [Nat.mul_left_comm], Nat.add_mul_div_left _ _ (Nat.two_pow_pos _)]
 rw [e]
 generalize v / 2 ^ (8 * k) = a at *
 obtain ⟨u, hu⟩ : ∃ u, t + u = 8 := ⟨8 - t, by omega⟩
 have hp : (256 : Nat) = 2 ^ t * 2 ^ u := by rw [← Nat.pow_add, hu]
 have hl : a < 256 := jT ha (by rw [hp]; exact Nat.le_mul_of_pos_right _ (Nat.two_pow_pos _))
 have hm : x * 2 ^ t % 256 = x % 2 ^ u * 2 ^ t := by rw [hp, Nat.mul_comm x, Nat.mul_mod_mul_left, Nat.mul_comm]
 have hlt : a + x * 2 ^ t % 256 < 256 := by
  rw [hm]
  have h1 : x % 2 ^ u + 1 ≤ 2 ^ u := Nat.mod_lt _ (Nat.two_pow_pos _)
  have h3 := Nat.mul_le_mul_right (2 ^ t) h1
  rw [Nat.add_mul, Nat.mul_comm (2 ^ u), ← hp] at h3
  omega
 rw [Nat.mod_eq_of_lt hl]
 have ho := zu8 a (x % 2 ^ u) t ha
 rw [← hm] at ho
 rw [ho]
 generalize x * 2 ^ t = y at *
 omega
theorem zu9 (v x i k : Nat) (hv : v < 2 ^ (51 * i)) (h : 51 * i ≤ 8 * k) : zaR v k = 0 ∧ x / 2 ^ (8 * k - 51 * i) % 256 = zaR (v + x * 2 ^ (51 * i)) k := by
 obtain ⟨t, ht⟩ : ∃ t, 8 * k = 51 * i + t := ⟨8 * k - 51 * i, by omega⟩
 unfold zaR
 rw [show 8 * k - 51 * i = t from by omega, ht, Nat.pow_add]
 constructor
 ·rw [Nat.div_eq_of_lt (jT hv (Nat.le_mul_of_pos_right _ (Nat.two_pow_pos _)))]
 ·rw [← Nat.div_div_eq_div_mul, Nat.mul_comm x, Nat.add_mul_div_left _ _ (Nat.two_pow_pos _), Nat.div_eq_of_lt hv, Nat.zero_add]
theorem zsy (v x i k : Nat) (h : 8 * k + 8 ≤ 51 * i) : zaR (v + x * 2 ^ (51 * i)) k = zaR v k := by
 obtain ⟨t, ht⟩ : ∃ t, 51 * i = 8 * k + (8 + t) := ⟨51 * i - 8 * k - 8, by omega⟩
 unfold zaR
 rw [ht, Nat.pow_add, show x * (2 ^ (8 * k) * 2 ^ (8 + t)) = 2 ^ (8 * k) * (x * 2 ^ (8 + t)) from by rw [Nat.mul_left_comm], Nat.add_mul_div_left _ _ (Nat.two_pow_pos _)]
 rw [Nat.pow_add, show x * (2 ^ 8 * 2 ^ t) = 256 * (x * 2 ^ t) from by rw [show (2 : Nat) ^ 8 = 256 from rfl, Nat.mul_left_comm], Nat.add_mul_mod_self_left]
theorem zg7 (v k : Nat) (h : v < 2 ^ (8 * k)) : zaR v k = 0 := by
 unfold zaR
 rw [Nat.div_eq_of_lt h]
end
section
def pN : Nat := 57896044618658097711785492504343953926634992332820282019728792003956564819949
theorem zaS (X : Nat → Nat) : zbr X 5 = X 0 + X 1 * 2251799813685248 + X 2 * 5070602400912917605986812821504 + X 3 * 11417981541647679048466287755595961091061972992 + X 4 * 25711008708143844408671393477458601640355247900524685364822016 := by
 simp [zbr]
theorem zyp (F : Nat → Nat) : ovN F 1 = F 0 / 2251799813685248 ∧ ovN F 2 = (F 1 + ovN F 1) / 2251799813685248 ∧ ovN F 3 = (F 2 + ovN F 2) / 2251799813685248 ∧ ovN F 4 = (F 3 + ovN F 3) / 2251799813685248 ∧ ovN F 5 = (F 4 + ovN F 4) / 2251799813685248 := by
 refine ⟨?_, rfl, rfl, rfl, rfl⟩
 show (F 0 + 0) / 2251799813685248 = _
 rw [Nat.add_zero]
theorem zyq (F : Nat → Nat) : loN F 0 = F 0 % 2251799813685248 ∧ loN F 1 = (F 1 + ovN F 1) % 2251799813685248 ∧ loN F 2 = (F 2 + ovN F 2) % 2251799813685248 ∧ loN F 3 = (F 3 + ovN F 3) % 2251799813685248 ∧ loN F 4 = (F 4 + ovN F 4) % 2251799813685248 := by
 refine ⟨?_, rfl, rfl, rfl, rfl⟩
 show (F 0 + 0) % 2251799813685248 = _
 rw [Nat.add_zero]
theorem zva (F : Nat → Nat) : zbr (loN F) 5 + ovN F 5 * 57896044618658097711785492504343953926634992332820282019728792003956564819968 = zbr F 5 := by
 obtain ⟨o1, o2, o3, o4, o5⟩ := zyp F
 obtain ⟨l0, l1, l2, l3, l4⟩ := zyq F
 rw [zaS, zaS, l0, l1, l2, l3, l4]
 generalize ovN F 5 = u5 at *
 generalize ovN F 4 = u4 at *
 generalize ovN F 3 = u3 at *
 generalize ovN F 2 = u2 at *
 generalize ovN F 1 = u1 at *
 generalize F 0 = a0 at *
 generalize F 1 = a1 at *
 generalize F 2 = a2 at *
 generalize F 3 = a3 at *
 generalize F 4 = a4 at *
 omega
theorem ziS (F : Nat → Nat) : zbr (zc4 F) 5 + ovN F 5 * pN = zbr F 5 := by
 have h := zva F
 rw [zaS] at h
 rw [zaS]
 have c0 : zc4 F 0 = loN F 0 + 19 * ovN F 5 := rfl
 have c1 : zc4 F 1 = loN F 1 := rfl
 have c2 : zc4 F 2 = loN F 2 := rfl
 have c3 : zc4 F 3 = loN F 3 := rfl
 have c4 : zc4 F 4 = loN F 4 := rfl
 rw [c0, c1, c2, c3, c4]
 unfold pN
 omega
theorem zyr (F : Nat → Nat) : quN F 1 = (F 0 + 19) / 2251799813685248 ∧ quN F 2 = (F 1 + quN F 1) / 2251799813685248 ∧ quN F 3 = (F 2 + quN F 2) / 2251799813685248 ∧ quN F 4 = (F 3 + quN F 3) / 2251799813685248 ∧ quN F 5 = (F 4 + quN F 4) / 2251799813685248 := ⟨rfl, rfl, rfl, rfl, rfl⟩
theorem zEt (G : Nat → Nat) : quN G 5 = (zbr G 5 + 19) / 57896044618658097711785492504343953926634992332820282019728792003956564819968 := by
 obtain ⟨o1, o2, o3, o4, o5⟩ := zyr G
 rw [zaS]
 generalize quN G 5 = u5 at *
 generalize quN G 4 = u4 at *
 generalize quN G 3 = u3 at *
 generalize quN G 2 = u2 at *
 generalize quN G 1 = u1 at *
 generalize G 0 = a0 at *
 generalize G 1 = a1 at *
 generalize G 2 = a2 at *
 generalize G 3 = a3 at *
 generalize G 4 = a4 at *
 omega
theorem zEu (G : Nat → Nat) (h : zbr G 5 < 2 * pN) : zbr (loN (upN G)) 5 = zbr G 5 % pN := by
 have h1 := zva (upN G)
 have h2 := zEt G
 have h3 : zbr (upN G) 5 = zbr G 5 + 19 * quN G 5 := by
  rw [zaS, zaS]
  have c0 : upN G 0 = G 0 + 19 * quN G 5 := rfl
  have c1 : upN G 1 = G 1 := rfl
  have c2 : upN G 2 = G 2 := rfl
  have c3 : upN G 3 = G 3 := rfl
  have c4 : upN G 4 = G 4 := rfl
  rw [c0, c1, c2, c3, c4]
  omega
 have h4 : zbr (loN (upN G)) 5 < 2 ^ (51 * 5) := zg6 _ 5 (fun i _ => Nat.mod_lt _ (by omega)) 5 (jV _)
 have h5 : (2 : Nat) ^ (51 * 5) = 57896044618658097711785492504343953926634992332820282019728792003956564819968 := by decide
 rw [h5] at h4
 generalize zbr (loN (upN G)) 5 = r at *
 generalize ovN (upN G) 5 = o at *
 generalize zbr (upN G) 5 = s at *
 generalize quN G 5 = q at *
 generalize zbr G 5 = v at *
 unfold pN at *
 by_cases hv : v < 57896044618658097711785492504343953926634992332820282019728792003956564819949
 ·rw [Nat.mod_eq_of_lt hv]
  have hq : q = 0 := by omega
  subst hq
  omega
 ·have hm : v % 57896044618658097711785492504343953926634992332820282019728792003956564819949 = v - 57896044618658097711785492504343953926634992332820282019728792003956564819949 := by
   rw [Nat.mod_eq_sub_mod (by omega), Nat.mod_eq_of_lt (by omega)]
  have hq : q = 1 := by omega
  subst hq
  rw [hm]
  have ho : o = 1 := by omega
  subst ho
  omega
theorem zEv (F : Nat → Nat) (hF : ∀ i, i < 5 → F i < 9223372036854775808) : zbr (zc4 (zc4 F)) 5 < 2 * pN := by
 have a0 := zct (zc4 F) (fun i hi => by have := zct F hF i hi; omega) 0 (by omega)
 have a1 := zct (zc4 F) (fun i hi => by have := zct F hF i hi; omega) 1 (by omega)
 have a2 := zct (zc4 F) (fun i hi => by have := zct F hF i hi; omega) 2 (by omega)
 have a3 := zct (zc4 F) (fun i hi => by have := zct F hF i hi; omega) 3 (by omega)
 have a4 := zct (zc4 F) (fun i hi => by have := zct F hF i hi; omega) 4 (by omega)
 rw [zaS]
 unfold pN
 omega
theorem zvb (F : Nat → Nat) (hF : ∀ i, i < 5 → F i < 9223372036854775808) : zbr (zdE F) 5 = zbr F 5 % pN := by
 show zbr (loN (upN (zc4 (zc4 F)))) 5 = _
 rw [zEu _ (zEv F hF)]
 have h1 := ziS F
 have h2 := ziS (zc4 F)
 rw [← h1, ← h2, Nat.add_mul_mod_self_right, Nat.add_mul_mod_self_right]
end
section
def zai (v i : Nat) : Nat := v / 2 ^ (16 * i) % 65536
def zaP (X : Nat → Nat) : Nat → Nat
 | 0 => 0
 | i + 1 => zaP X i + X i * 2 ^ (16 * i)
theorem zaU (X : Nat → Nat) (i : Nat) : zaP X (i + 1) = zaP X i + X i * 2 ^ (16 * i) := rfl
theorem zcc (X Y : Nat → Nat) : ∀ n, (∀ i, i < n → X i = Y i) → zaP X n = zaP Y n
 | 0, _ => rfl
 | n + 1, h => by rw [zaU, zaU, zcc X Y n (fun i hi => h i (by omega)), h n (by omega)]
theorem zpj (m : Nat) : 2 ^ (16 * (m + 1)) = 2 ^ (16 * m) * 65536 := by rw [Nat.mul_add, Nat.pow_add]
theorem zgx (v : Nat) : ∀ n, zaP (zai v) n = v % 2 ^ (16 * n)
 | 0 => by simp [zaP, Nat.mod_one]
 | n + 1 => by
  rw [zaU, zgx v n, zpj, Nat.mod_mul]
  unfold zai
  rw [Nat.mul_comm (2 ^ (16 * n))]
theorem zk8 (X : Nat → Nat) : ∀ n, (∀ i, i < n → X i < 65536) → zaP X n < 2 ^ (16 * n)
 | 0, _ => by simp [zaP]
 | n + 1, h => by
  have h1 := zk8 X n (fun i hi => h i (by omega))
  have h2 := h n (by omega)
  rw [zaU, zpj]
  have h3 : X n * 2 ^ (16 * n) ≤ 65535 * 2 ^ (16 * n) := Nat.mul_le_mul_right _ (by omega)
  omega
theorem zys (X : Nat → Nat) (n : Nat) (hX : ∀ i, i < n → X i < 65536) (i : Nat) (hi : i < n) : zai (zaP X n) i = X i := by
 have up : ∀ m, i < m → m ≤ n → zai (zaP X m) i = X i := by
  intro m
  induction m with
  | zero => intro h; omega
  | succ m ih =>
   intro h hm
   have hl := zk8 X m (fun j hj => hX j (by omega))
   by_cases him : i = m
   ·subst him
    unfold zai
    rw [zaU, Nat.add_mul_div_right _ _ (Nat.two_pow_pos _), Nat.div_eq_of_lt hl, Nat.zero_add, Nat.mod_eq_of_lt (hX i hi)]
   ·rw [← ih (by omega) (by omega)]
    unfold zai
    rw [zaU]
    have : 2 ^ (16 * m) = 2 ^ (16 * i) * (65536 * 2 ^ (16 * (m - i - 1))) := by
     rw [← Nat.mul_assoc, ← zpj, ← Nat.pow_add]
     congr 1
     omega
    rw [this, Nat.mul_left_comm, Nat.add_mul_div_left _ _ (Nat.two_pow_pos _), Nat.mul_left_comm (X m), Nat.add_mul_mod_self_left]
 exact up n hi (jV n)
theorem ziT (A B : Nat → Nat) (c : Nat) : ∀ n, zaP (fun i => A i + c * B i) n = zaP A n + c * zaP B n
 | 0 => by simp [zaP]
 | n + 1 => by
  simp only [zaU]
  rw [ziT A B c n, Nat.mul_add, Nat.add_mul, Nat.mul_assoc]
  omega
theorem zfN (L : Nat → Nat) (k : Nat) : ∀ n, zaP L (k + n) = zaP L k + 2 ^ (16 * k) * zaP (fun i => L (k + i)) n
 | 0 => by simp [zaP]
 | n + 1 => by
  rw [← Nat.add_assoc, zaU, zfN L k n, zaU, Nat.mul_add 16 k n, Nat.pow_add, Nat.mul_add, Nat.mul_left_comm (L (k + n)), Nat.add_assoc]
theorem zsz (L : Nat → Nat) : zaP (fun i => L i + 38 * L (16 + i)) 16 % pN = zaP L 32 % pN := by
 rw [ziT L (fun i => L (16 + i)) 38 16, zfN L 16 16, show (2 : Nat) ^ (16 * 16) = 38 + pN * 2 from by decide +kernel, Nat.add_mul, ← Nat.add_assoc, Nat.mul_assoc pN 2, Nat.add_mul_mod_self_left]
def ovR (X : Nat → Nat) : Nat → Nat
 | 0 => 0
 | m + 1 => (X m + ovR X m) / 65536
def loR (X : Nat → Nat) (m : Nat) : Nat := (X m + ovR X m) % 65536
theorem zq7 (X : Nat → Nat) (m : Nat) : ovR X (m + 1) = (X m + ovR X m) / 65536 := rfl
theorem zvc (X : Nat → Nat) : ∀ m, zaP (loR X) m + ovR X m * 2 ^ (16 * m) = zaP X m
 | 0 => by simp [zaP, ovR]
 | m + 1 => by
  rw [zaU, zaU, ← zvc X m, zq7, zpj]
  unfold loR
  have h := Nat.div_add_mod (X m + ovR X m) 65536
  generalize (X m + ovR X m) / 65536 = d at *
  generalize (X m + ovR X m) % 65536 = r at *
  have e : X m * 2 ^ (16 * m) + ovR X m * 2 ^ (16 * m) = (65536 * d + r) * 2 ^ (16 * m) := by rw [h, Nat.add_mul]
  rw [Nat.add_mul, Nat.mul_comm 65536 d, Nat.mul_assoc d] at e
  rw [Nat.mul_comm (2 ^ (16 * m)) 65536]
  omega
theorem zvd (X : Nat → Nat) (hX : ∀ i, i < 16 → X i < 70368744177664) : ∀ m, m ≤ 16 → ovR X m < 2147483648
 | 0, _ => by unfold ovR; omega
 | m + 1, h => by
  have := zvd X hX m (by omega)
  have := hX m (by omega)
  rw [zq7]
  omega
theorem znO (X : Nat → Nat) (m : Nat) : loR X m < 65536 := Nat.mod_lt _ (by omega)
def zhJ (X : Nat → Nat) (i : Nat) : Nat := if i = 0 then loR X 0 + 38 * ovR X 16 else loR X i
theorem ziU (X Y : Nat → Nat) (h : ∀ i, 1 ≤ i → X i = Y i) : ∀ n, zaP X (n + 1) + Y 0 = zaP Y (n + 1) + X 0
 | 0 => by simp [zaP]; omega
 | n + 1 => by
  have := ziU X Y h n
  rw [zaU X (n + 1), zaU Y (n + 1), h (n + 1) (by omega)]
  omega
theorem zq8 (X : Nat → Nat) : zaP (zhJ X) 16 + ovR X 16 * (pN * 2) = zaP X 16 := by
 have h1 := zvc X 16
 have h2 := ziU (zhJ X) (loR X) (fun i hi => by unfold zhJ; rw [if_neg (by omega)]) 15
 have e : zhJ X 0 = loR X 0 + 38 * ovR X 16 := by unfold zhJ; rw [if_pos rfl]
 rw [e] at h2
 rw [show (2 : Nat) ^ (16 * 16) = 38 + pN * 2 from by decide +kernel] at h1
 rw [Nat.mul_add] at h1
 simp only [Nat.reduceAdd] at h2
 generalize ovR X 16 * (pN * 2) = z at *
 omega
theorem zBK (X : Nat → Nat) (hX : ∀ i, i < 16 → X i < 70368744177664) (i : Nat) (_hi : i < 16) : zhJ X i < 70368744177664 := by
 have := zvd X hX 16 (by omega)
 have := znO X 0
 have := znO X i
 unfold zhJ
 split <;> omega
theorem zve (X : Nat → Nat) (h : ovR X 16 = 0) (i : Nat) : zhJ X i < 65536 := by
 have := znO X 0
 have := znO X i
 unfold zhJ
 rw [h]
 split <;> omega
theorem zEw : ∀ i, i < 16 → zai pN i = if i = 0 then 65517 else if i = 15 then 32767 else 65535 := by decide +kernel
theorem zb0 (v i : Nat) : zai v i < 65536 := Nat.mod_lt _ (by omega)
theorem zq9 (v i : Nat) : v / 2 ^ (16 * i) = v / 2 ^ (16 * (i + 1)) * 65536 + zai v i := by
 unfold zai
 rw [zpj, ← Nat.div_div_eq_div_mul]
 omega
theorem zvf (v p i : Nat) (h : v / 2 ^ (16 * (i + 1)) = p / 2 ^ (16 * (i + 1))) (hne : zai v i ≠ zai p i) : decide (v < p) = decide (zai v i < zai p i) := by
 have e1 := zq9 v i
 have e2 := zq9 p i
 rw [h] at e1
 apply decide_eq_decide.2
 constructor
 ·intro hl
  have := Nat.div_le_div_right (c := 2 ^ (16 * i)) (Nat.le_of_lt hl)
  omega
 ·intro hl
  have : v / 2 ^ (16 * i) < p / 2 ^ (16 * i) := by omega
  rcases Nat.lt_or_ge v p with h' | h'
  ·exact h'
  ·have := Nat.div_le_div_right (c := 2 ^ (16 * i)) h'
   omega
def boN (v p m : Nat) : Nat := if v % 2 ^ (16 * m) < p % 2 ^ (16 * m) then 1 else 0
theorem zra (v p m : Nat) (h : p ≤ v) : (65536 + zai v m - zai p m - boN v p m) % 65536 = zai (v - p) m ∧ 1 - (65536 + zai v m - zai p m - boN v p m) / 65536 = boN v p (m + 1) := by
 have hv := Nat.div_add_mod v (2 ^ (16 * m))
 have hp := Nat.div_add_mod p (2 ^ (16 * m))
 have pos := Nat.two_pow_pos (16 * m)
 have lv := Nat.mod_lt v pos
 have lp := Nat.mod_lt p pos
 have mv : v % 2 ^ (16 * (m + 1)) = v % 2 ^ (16 * m) + 2 ^ (16 * m) * zai v m := by rw [zpj, Nat.mod_mul]; rfl
 have mp : p % 2 ^ (16 * (m + 1)) = p % 2 ^ (16 * m) + 2 ^ (16 * m) * zai p m := by rw [zpj, Nat.mod_mul]; rfl
 have key : (v - p) / 2 ^ (16 * m) = v / 2 ^ (16 * m) - p / 2 ^ (16 * m) - boN v p m := by
  have hle := Nat.div_le_div_right (c := 2 ^ (16 * m)) h
  unfold boN
  generalize 2 ^ (16 * m) = B at *
  generalize v / B = A at *
  generalize p / B = C at *
  obtain ⟨D, rfl⟩ : ∃ D, A = C + D := ⟨A - C, by omega⟩
  rw [Nat.mul_add] at hv
  split
  ·rename_i hlt
   have hD : D ≠ 0 := by
    intro e
    rw [e, Nat.mul_zero] at hv
    omega
   obtain ⟨E, rfl⟩ : ∃ E, D = E + 1 := ⟨D - 1, by omega⟩
   rw [Nat.mul_add, Nat.mul_one] at hv
   rw [show v - p = v % B + B - p % B + B * E from by omega, Nat.add_mul_div_left _ _ pos, Nat.div_eq_of_lt (by omega)]
   omega
  ·rw [show v - p = v % B - p % B + B * D from by omega, Nat.add_mul_div_left _ _ pos, Nat.div_eq_of_lt (by omega)]
   omega
 have pv := zb0 v m
 have pp := zb0 p m
 have hb : boN v p m ≤ 1 := by unfold boN; split <;> omega
 constructor
 ·have hle := Nat.div_le_div_right (c := 2 ^ (16 * m)) h
  have hpos : boN v p m + p / 2 ^ (16 * m) ≤ v / 2 ^ (16 * m) := by
   unfold boN
   split
   ·rename_i hlt
    rcases Nat.lt_or_ge (p / 2 ^ (16 * m)) (v / 2 ^ (16 * m)) with h' | h'
    ·omega
    ·have e : v / 2 ^ (16 * m) = p / 2 ^ (16 * m) := by omega
     rw [e] at hv
     omega
   ·omega
  have e3 : zai (v - p) m = (v / 2 ^ (16 * m) - p / 2 ^ (16 * m) - boN v p m) % 65536 := by unfold zai; rw [key]
  rw [e3]
  unfold zai at *
  omega
 ·have hb2 : boN v p (m + 1) = if zai v m < zai p m + boN v p m then 1 else 0 := by
   unfold boN
   rw [mv, mp]
   generalize 2 ^ (16 * m) = B at *
   generalize v % B = a at *
   generalize p % B = b at *
   rcases Nat.lt_trichotomy (zai v m) (zai p m) with h1 | h1 | h1
   ·have : B * zai v m + B ≤ B * zai p m := by rw [← Nat.mul_succ]; exact Nat.mul_le_mul_left B h1
    rw [if_pos (by omega), if_pos (by omega)]
   ·rw [h1]
    by_cases h2 : a < b
    ·rw [if_pos (by omega), if_pos h2, if_pos (by omega)]
    ·rw [if_neg (by omega), if_neg h2, if_neg (by omega)]
   ·have : B * zai p m + B ≤ B * zai v m := by rw [← Nat.mul_succ]; exact Nat.mul_le_mul_left B h1
    rw [if_neg (by omega)]
    by_cases h2 : a < b
    ·rw [if_pos h2, if_neg (by omega)]
    ·rw [if_neg h2, if_neg (by omega)]
  rw [hb2]
  split <;> omega
theorem zBL (v p : Nat) : boN v p 0 = 0 := by unfold boN; simp [Nat.mod_one]
end
section
open Go.RowKit
theorem zpk : zkd Tryz.prog 23 32 := ⟨_, Tryz.underlying23, rfl, by kernel_rfl⟩
theorem zEx : zic Tryz.prog 23 .u8 32 := by unfold zic; kernel_rfl
def zpm (X : Nat → Nat) (m k q : Nat) : Nat := if q < k then zaR (zbr X (m + 1)) q else zaR (zbr X m) q
theorem zsA (X : Nat → Nat) (m q : Nat) : zaR (zbr X m) q = zpm X m (51 * m / 8) q := by
 unfold zpm
 by_cases h : q < 51 * m / 8
 ·rw [if_pos h, zd2, zsy _ _ _ _ (by omega)]
 ·rw [if_neg h]
theorem zvg (X : Nat → Nat) (hX : ∀ i, i < 5 → X i < 2251799813685248) (m k q : Nat) (hm : m < 5) (hq : q < 32) (hk : 51 * m / 8 + 8 ≤ k ∨ 32 ≤ k) : zpm X m k q = zaR (zbr X (m + 1)) q := by
 unfold zpm
 by_cases h : q < k
 ·rw [if_pos h]
 ·rw [if_neg h, zg7, zg7]
  ·exact jT (zg6 X 5 hX (m + 1) (by omega)) (Nat.pow_le_pow_right (by omega) (by omega))
  ·exact jT (zg6 X 5 hX m (by omega)) (Nat.pow_le_pow_right (by omega) (by omega))
theorem zfv (a b : Nat) (ha : a < 256) (hb : b < 256) : bits .or .u8 (a : Int) (b : Int) = ((a ||| b : Nat) : Int) := by
 have hx : a ||| b < 2 ^ 8 := Nat.or_lt_two_pow (by omega) (by omega)
 have h1 : (BitVec.ofInt 8 (a : Int)).toNat = a := by
  rw [BitVec.ofInt_natCast, BitVec.toNat_ofNat]; exact Nat.mod_eq_of_lt (by omega)
 have h2 : (BitVec.ofInt 8 (b : Int)).toNat = b := by
  rw [BitVec.ofInt_natCast, BitVec.toNat_ofNat]; exact Nat.mod_eq_of_lt (by omega)
 show IntKind.u8.wrap ((BitVec.ofInt 8 (a : Int) ||| BitVec.ofInt 8 (b : Int)).toNat : Int) = _
 rw [BitVec.toNat_or, h1, h2, IntKind.wrap_u8]
 omega
theorem zk9 (v k : Nat) : zaR v k < 256 := Nat.mod_lt _ (by omega)
theorem zBM (X : Nat → Nat) (hX : ∀ i, X i < 2251799813685248) (m k : Nat) (hm : m < 5) (h : 8 * k < 51 * m) (h2 : 51 * m / 8 ≤ k) :
  bits .or .u8 ((zpm X m k k : Nat) : Int) (IntKind.u64.wrap (((X m : Nat) : Int) * 2 ^ (-(8 * (k : Int) - 51 * (m : Int))).toNat) % 256) = ((zaR (zbr X (m + 1)) k : Nat) : Int) := by
 have e1 : zpm X m k k = zaR (zbr X m) k := by unfold zpm; rw [if_neg (by omega)]
 have e2 : (-(8 * (k : Int) - 51 * (m : Int))).toNat = 51 * m - 8 * k := by omega
 have e3 : IntKind.u64.wrap (((X m : Nat) : Int) * 2 ^ (51 * m - 8 * k)) % 256 = ((X m * 2 ^ (51 * m - 8 * k) % 256 : Nat) : Int) := by
  rw [show ((X m : Nat) : Int) * 2 ^ (51 * m - 8 * k) = ((X m * 2 ^ (51 * m - 8 * k) : Nat) : Int) from by rw [Int.natCast_mul, Int.natCast_pow]; rfl]
  generalize X m * 2 ^ (51 * m - 8 * k) = y
  rw [IntKind.wrap_u64]
  omega
 rw [e1, e2, e3, zfv _ _ (zk9 _ _) (Nat.mod_lt _ (by omega)), zyo _ _ _ _ (zg6 X 5 (fun i _ => hX i) m (by omega)) h (by omega), zd2]
theorem zyt (X : Nat → Nat) (hX : ∀ i, X i < 2251799813685248) (m k : Nat) (hm : m < 5) (h : 51 * m ≤ 8 * k) :
  bits .or .u8 ((zpm X m k k : Nat) : Int) (((X m : Nat) : Int) / 2 ^ (8 * k - 51 * m) % 256) = ((zaR (zbr X (m + 1)) k : Nat) : Int) := by
 have e1 : zpm X m k k = zaR (zbr X m) k := by unfold zpm; rw [if_neg (by omega)]
 obtain ⟨b1, b2⟩ := zu9 (zbr X m) (X m) m k (zg6 X 5 (fun i _ => hX i) m (by omega)) h
 have e3 : (((X m : Nat) : Int) / 2 ^ (8 * k - 51 * m) % 256) = ((X m / 2 ^ (8 * k - 51 * m) % 256 : Nat) : Int) := by
  rw [Int.natCast_emod, Int.natCast_ediv, Int.natCast_pow]; rfl
 rw [e1, b1, e3, zfv _ _ (by omega) (Nat.mod_lt _ (by omega)), Nat.zero_or, b2, zd2]
theorem zrb (X : Nat → Nat) (m k q : Nat) (v : Int) (hv : v = ((zaR (zbr X (m + 1)) k : Nat) : Int)) : upd (fun q => ((zpm X m k q : Nat) : Int)) k v q = ((zpm X m (k + 1) q : Nat) : Int) := by
 unfold upd zpm
 by_cases h : q = k
 ·rw [if_pos h, hv, h, if_pos (by omega)]
 ·rw [if_neg h]
  dsimp only
  by_cases h2 : q < k
  ·rw [if_pos h2, if_pos (by omega)]
  ·rw [if_neg h2, if_neg (by omega)]
attribute [local irreducible] zdE zbr zaR
theorem zvh (F : Nat → Nat) (hF : ∀ i, i < 5 → F i < 9223372036854775808) (w : World) :
  Calls Tryz.prog 165 #[.agg (arr .u64 5 fun i => ((F i : Nat) : Int))] w fun e w' => e = .returned (.agg (arr .u8 32 fun k => ((zaR (zbr (zdE F) 5) k : Nat) : Int))) ∧ Below w.heap.size w w' := by
 go_enter Tryz.func165, Tryz.ntmps165
 obtain ⟨h0, h1, hsz, hb⟩ := zhm w (.cells (arr .u64 5 fun i => ((F i : Nat) : Int)) 168) (.cells (arr .u8 32 fun _ => 0) 23)
 go_wp2_with (first | (refine zat rfl rfl zEx ?_) | (refine zad rfl rfl rfl zbZ h0 ?_) | (go_at_call 184; fail))
 refine (zu7 F hF _).mono ?_
 rintro e w1 ⟨rfl, b1⟩
 have hX := zu6 F
 generalize hXe : zdE F = X at hX ⊢
 have hXe' := Lib.hid hXe
 have hX' := Lib.hid hX
 clear hXe hF
 have g0 := zam b1 (by omega) h0
 have g1 := zam b1 (by omega) h1
 have hB := hb.trans (b1.mono (by omega))
 clear h0 h1 b1 hb hsz
 go_upto_region 2 with (refine zah rfl rfl rfl rfl zbZ g0 ?_)
 have q0 := zaF (w := w1) (c' := arr .u64 5 fun i => ((X i : Nat) : Int)) g0
 have q1 := zc9 (w := w1) (c' := arr .u64 5 fun i => ((X i : Nat) : Int)) (g := w.heap.size) g1 (by omega)
 have hBq := zaG hB (g := w.heap.size) (by omega) (arr .u64 5 fun i => ((X i : Nat) : Int))
 clear g0 g1 hB hX
 generalize w1.setRow w.heap.size (arr .u64 5 fun i => ((X i : Nat) : Int)) = w3 at *
 (try simp only [Act.put, jA, jB, jC])
 go_wp2_with (refine zad rfl rfl rfl zbZ q0 ?_)
 go_loopg [11] 5 (fun n i wr => ∃ m : Nat, m + n = 5 ∧ i = .int .i64 m ∧ wr.heap[w.heap.size + 1]? = some (.cells (arr .u8 32 fun k => ((zaR (zbr X m) k : Nat) : Int)) 23 (0, 0)) ∧ Below w.heap.size w wr)
 case atStart => exact ⟨0, rfl, rfl, zaz q1 (fun k _ => by rw [zg7 _ _ (by unfold zbr; exact Nat.two_pow_pos _)]; rfl), hBq⟩
 case round =>
  clear q0 q1 hBq
  obtain ⟨m, hm, rfl, g1, hB⟩ := hrel
  obtain ⟨go1, rfl⟩ : ∃ x, x = gk := ⟨_, rfl⟩
  have hm' := Lib.hid hm
  clear hm
  by_cases hlt : m < 5
  ·have xb := hX'.out m
   have g2 := zaz g1 (f' := fun q => ((zpm X m (51 * m / 8) q : Nat) : Int)) (fun q _ => by rw [zsA X m q])
   clear g1
   obtain ⟨K, hK1, hK2, hK3⟩ : ∃ K, K ≤ 51 * m / 8 + 8 ∧ K ≤ 32 ∧ (51 * m / 8 + 8 ≤ K ∨ 32 ≤ K) := ⟨min (51 * m / 8 + 8) 32, by omega, by omega, by omega⟩
   go_upto_region 5 with (refine za6 rfl rfl Tryz.underlying168 Tryz.underlying32 rfl znL rfl rfl (by omega) (by omega) (by omega) ?_)
   (try simp only [Act.put, jA, jB, jC])
   try rw [show decide ((m : Int) < 5) = true from decide_eq_true (by omega)]
   go_wp2
   go_loopg [6] (K - 51 * m / 8) (fun n i wr => ∃ k : Nat, k + n = K ∧ 51 * m / 8 ≤ k ∧ i = .int .i64 k ∧ wr.heap[w.heap.size + 1]? = some (.cells (arr .u8 32 fun q => ((zpm X m k q : Nat) : Int)) 23 (0, 0)) ∧ Below w.heap.size w wr)
   case atStart => exact ⟨51 * m / 8, by omega, by omega, by go_num, g2, hB⟩
   case round =>
    clear g2 hB
    obtain ⟨k, hk, hkm, rfl, g2, hB⟩ := hrel
    have hk' := Lib.hid hk
    clear hk
    by_cases hlk : k < K
    ·have c0 := za7 g2 k (by omega)
     have fz := zb6 g2 k
     by_cases hs : 8 * k < 51 * m
     ·go_wp2
      all_goals
       refine zbB 10 (by kernel_rfl) (by kernel_rfl) ?_
       (simp only [jH, jI, jF, jG])
       repeat (refine wpStill_step (fun K hK => ?_); go_simp; (try (simp only [↓IntWalk.iteOmega]; go_simp)); (try go_bits); refine hK _ ?_; clear hK K)
       refine wpStill_nil ?_
       go_wp2
       go_roundg (gk - 1)
       case measure => have := hk'.out; omega
       case rel =>
        have hk'' := hk'.out
        exact ⟨k + 1, by omega, by omega, by go_num, zaz (zcj g2 _ _) (fun q _ => zrb X m k q _ (zBM X hX'.out m k hlt hs hkm)), (hB.setCell (by show w.heap.size ≤ w.heap.size + 1; omega) _).drew⟩
     ·go_wp2
      all_goals
       refine zbB 9 (by kernel_rfl) (by kernel_rfl) ?_
       (simp only [jH, jI, jF, jG])
       repeat (refine wpStill_step (fun K hK => ?_); go_simp; (try (simp only [↓IntWalk.iteOmega]; go_simp)); (try go_bits); refine hK _ ?_; clear hK K)
       refine wpStill_nil ?_
       go_wp2
       go_roundg (gk - 1)
       case measure => have := hk'.out; omega
       case rel =>
        have hk'' := hk'.out
        exact ⟨k + 1, by omega, by omega, by go_num, zaz (zcj g2 _ _) (fun q _ => zrb X m k q _ (zyt X hX'.out m k hlt (by omega))), (hB.setCell (by show w.heap.size ≤ w.heap.size + 1; omega) _).drew⟩
    ·obtain rfl : k = K := by have := hk'.out; omega
     have g3 := zaz g2 (f' := fun q => ((zaR (zbr X (m + 1)) q : Nat) : Int)) (fun q hq => by rw [zvg X (fun i _ => hX'.out i) m k q hlt hq hK3])
     go_wp2
     all_goals
      go_roundg (go1 - 1)
      case measure => have := hm'.out; omega
      case rel =>
       have hm'' := hm'.out
       exact ⟨m + 1, by omega, by go_num, g3, hB⟩
  ·obtain rfl : m = 5 := by have := hm'.out; omega
   go_wp2_with (first | (refine zad rfl rfl rfl zpk g1 ?_) | (refine zah rfl rfl rfl rfl zpk g1 ?_))
   exact bodyPost_ret (zbJ rfl rfl zpk (zaF g1)) rfl ⟨by rw [hXe'.out], zaG hB (by omega) _⟩
end
section
open Go.RowKit
def kvN (b : Nat → Nat) : Nat → Nat
 | 0 => 0
 | k + 1 => kvN b k + b k * 2 ^ (8 * k)
theorem zdF (b : Nat → Nat) (k : Nat) : kvN b (k + 1) = kvN b k + b k * 2 ^ (8 * k) := rfl
theorem zjX (b : Nat → Nat) (n : Nat) (hb : ∀ i, i < n → b i < 256) : ∀ k, k ≤ n → kvN b k < 2 ^ (8 * k)
 | 0, _ => by unfold kvN; decide
 | k + 1, h => by
  have h1 := zjX b n hb k (by omega)
  have h2 : b k + 1 ≤ 256 := hb k (by omega)
  have h3 := Nat.mul_le_mul_right (2 ^ (8 * k)) h2
  rw [zdF, show 8 * (k + 1) = 8 + 8 * k from by omega, Nat.pow_add]
  rw [Nat.add_mul] at h3
  have : (2 : Nat) ^ 8 = 256 := by decide
  rw [this]
  omega
theorem zvi (b : Nat → Nat) (i k : Nat) (hk : kvN b k < 2 ^ (8 * k)) (h : 8 * k ≤ 51 * i) : kvN b k / 2 ^ (51 * i) = 0 :=
 Nat.div_eq_of_lt (jT hk (Nat.pow_le_pow_right (by omega) h))
theorem zEy (b : Nat → Nat) (i k : Nat) (hk : kvN b k < 2 ^ (8 * k)) (h : 8 * k < 51 * i) : b k / 2 ^ (51 * i - 8 * k) = kvN b (k + 1) / 2 ^ (51 * i) := by
 obtain ⟨t, ht⟩ : ∃ t, 51 * i = 8 * k + t := ⟨51 * i - 8 * k, by omega⟩
 rw [show 51 * i - 8 * k = t from by omega, ht, Nat.pow_add, ← Nat.div_div_eq_div_mul, zdF, Nat.mul_comm (b k), Nat.add_mul_div_left _ _ (Nat.two_pow_pos _), Nat.div_eq_of_lt hk, Nat.zero_add]
theorem zBN (b : Nat → Nat) (i k : Nat) (hk : kvN b k < 2 ^ (8 * k)) (h : 51 * i ≤ 8 * k) : (kvN b k / 2 ^ (51 * i)) ||| (b k * 2 ^ (8 * k - 51 * i)) = kvN b (k + 1) / 2 ^ (51 * i) := by
 obtain ⟨t, ht⟩ : ∃ t, 8 * k = 51 * i + t := ⟨8 * k - 51 * i, by omega⟩
 have ha : kvN b k / 2 ^ (51 * i) < 2 ^ t := by
  rw [Nat.div_lt_iff_lt_mul (Nat.two_pow_pos _), ← Nat.pow_add, show t + 51 * i = 8 * k from by omega]; exact hk
 rw [show 8 * k - 51 * i = t from by omega, zu8 _ _ _ ha, zdF, ht, Nat.pow_add, show b k * (2 ^ (51 * i) * 2 ^ t) = 2 ^ (51 * i) * (b k * 2 ^ t) from by rw [Nat.mul_left_comm], Nat.add_mul_div_left _ _ (Nat.two_pow_pos _)]
theorem zvj (b : Nat → Nat) (i k : Nat) (h : 51 * i + 51 ≤ 8 * k) : ∀ d, kvN b (k + d) / 2 ^ (51 * i) % 2251799813685248 = kvN b k / 2 ^ (51 * i) % 2251799813685248
 | 0 => rfl
 | d + 1 => by
  rw [show k + (d + 1) = k + d + 1 from by omega, zdF, ← zvj b i k h d]
  obtain ⟨t, ht⟩ : ∃ t, 8 * (k + d) = 51 * i + (51 + t) := ⟨8 * (k + d) - 51 * i - 51, by omega⟩
  rw [ht, Nat.pow_add, show b (k + d) * (2 ^ (51 * i) * 2 ^ (51 + t)) = 2 ^ (51 * i) * (b (k + d) * 2 ^ (51 + t)) from by rw [Nat.mul_left_comm], Nat.add_mul_div_left _ _ (Nat.two_pow_pos _)]
  rw [Nat.pow_add, show b (k + d) * (2 ^ 51 * 2 ^ t) = 2251799813685248 * (b (k + d) * 2 ^ t) from by rw [show (2 : Nat) ^ 51 = 2251799813685248 from by decide, Nat.mul_left_comm], Nat.add_mul_mod_self_left]
def ofN (b : Nat → Nat) (i : Nat) : Nat := kvN b 32 / 2 ^ (51 * i) % 2251799813685248
def znP (b : Nat → Nat) (m k q : Nat) : Nat := if q = m then kvN b k / 2 ^ (51 * m) else if q < m then ofN b q else 0
theorem ziV (a : Nat) (h : a < 18446744073709551616) : bits .and .u64 (a : Int) 2251799813685247 = ((a % 2251799813685248 : Nat) : Int) := zk7 a 0 (by omega)
theorem zrc (b : Nat → Nat) (i k : Nat) (hk : kvN b k < 2 ^ (8 * k)) (h : 8 * k ≤ 51 * i + 64) : kvN b k / 2 ^ (51 * i) < 18446744073709551616 := by
 rw [Nat.div_lt_iff_lt_mul (Nat.two_pow_pos _)]
 refine jT hk ?_
 rw [show (18446744073709551616 : Nat) = 2 ^ 64 from by decide, ← Nat.pow_add]
 exact Nat.pow_le_pow_right (by omega) (by omega)
theorem zyu (b : Nat → Nat) (hb : ∀ i, i < 32 → b i < 256) (m k : Nat) (hk : k < 32) (h : 8 * k < 51 * m) :
  bits .or .u64 ((znP b m k m : Nat) : Int) (((b k : Nat) : Int) / 2 ^ (-(8 * (k : Int) - 51 * (m : Int))).toNat) = ((kvN b (k + 1) / 2 ^ (51 * m) : Nat) : Int) := by
 have hl := zjX b 32 hb k (by omega)
 have e1 : znP b m k m = 0 := by unfold znP; rw [if_pos rfl, zvi b m k hl (by omega)]
 have e2 : (-(8 * (k : Int) - 51 * (m : Int))).toNat = 51 * m - 8 * k := by omega
 have e3 : ((b k : Nat) : Int) / 2 ^ (51 * m - 8 * k) = ((b k / 2 ^ (51 * m - 8 * k) : Nat) : Int) := by rw [Int.natCast_ediv, Int.natCast_pow]; rfl
 have hb' := hb k hk
 have hd : b k / 2 ^ (51 * m - 8 * k) ≤ b k := Nat.div_le_self _ _
 rw [e1, e2, e3, bits_or_u64_nat _ _ (by omega) (by omega), Nat.zero_or, zEy b m k hl h]
theorem zvk (b : Nat → Nat) (hb : ∀ i, i < 32 → b i < 256) (m k : Nat) (hk : k < 32) (h : 51 * m ≤ 8 * k) (h2 : 8 * k ≤ 51 * m + 56) :
  bits .or .u64 ((znP b m k m : Nat) : Int) (IntKind.u64.wrap (((b k : Nat) : Int) * 2 ^ (8 * k - 51 * m))) = ((kvN b (k + 1) / 2 ^ (51 * m) : Nat) : Int) := by
 have hl := zjX b 32 hb k (by omega)
 have e1 : znP b m k m = kvN b k / 2 ^ (51 * m) := by unfold znP; rw [if_pos rfl]
 have hb' := hb k hk
 have hp : b k * 2 ^ (8 * k - 51 * m) < 18446744073709551616 := by
  have h3 : 2 ^ (8 * k - 51 * m) ≤ 2 ^ 56 := Nat.pow_le_pow_right (by omega) (by omega)
  have h4 : b k * 2 ^ (8 * k - 51 * m) ≤ 255 * 2 ^ 56 := Nat.mul_le_mul (by omega) h3
  omega
 have e3 : IntKind.u64.wrap (((b k : Nat) : Int) * 2 ^ (8 * k - 51 * m)) = ((b k * 2 ^ (8 * k - 51 * m) : Nat) : Int) := by
  rw [show ((b k : Nat) : Int) * 2 ^ (8 * k - 51 * m) = ((b k * 2 ^ (8 * k - 51 * m) : Nat) : Int) from by rw [Int.natCast_mul, Int.natCast_pow]; rfl, IntKind.wrap_u64]
  omega
 rw [e1, e3, bits_or_u64_nat _ _ (zrc b m k hl (by omega)) hp, zBN b m k hl h]
theorem znQ (b : Nat → Nat) (m k q : Nat) (v : Int) (hv : v = ((kvN b (k + 1) / 2 ^ (51 * m) : Nat) : Int)) : upd (fun q => ((znP b m k q : Nat) : Int)) m v q = ((znP b m (k + 1) q : Nat) : Int) := by
 unfold upd znP
 by_cases h : q = m
 ·rw [if_pos h, hv, if_pos h]
 ·rw [if_neg h, if_neg h]; dsimp only; rw [if_neg h]
theorem zsB (b : Nat → Nat) (hb : ∀ i, i < 32 → b i < 256) (m q : Nat) (hm : m < 5) : (if q < m then ofN b q else 0) = znP b m (51 * m / 8) q := by
 unfold znP
 by_cases h : q = m
 ·rw [if_pos h, if_neg (by omega), zvi b m _ (zjX b 32 hb _ (by omega)) (by omega)]
 ·rw [if_neg h]
theorem zvm (b : Nat → Nat) (m k : Nat) (hm : m < 5) (hk : 51 * m / 8 + 8 ≤ k ∨ 32 ≤ k) (hk2 : k ≤ 32) : kvN b k / 2 ^ (51 * m) % 2251799813685248 = ofN b m := by
 unfold ofN
 have := zvj b m k (by omega) (32 - k)
 rw [show k + (32 - k) = 32 from by omega] at this
 exact this.symm
theorem zyv (b : Nat → Nat) (_hb : ∀ i, i < 32 → b i < 256) (m k q : Nat) (hm : m < 5) (hk : 51 * m / 8 + 8 ≤ k ∨ 32 ≤ k) (hk2 : k ≤ 32) (sm : kvN b k / 2 ^ (51 * m) < 18446744073709551616) :
  upd (fun q => ((znP b m k q : Nat) : Int)) m (bits .and .u64 (((kvN b k : Nat) : Int) / 2 ^ (51 * m)) 2251799813685247) q = ((if q < m + 1 then ofN b q else 0 : Nat) : Int) := by
 have e3 : ((kvN b k : Nat) : Int) / 2 ^ (51 * m) = ((kvN b k / 2 ^ (51 * m) : Nat) : Int) := by rw [Int.natCast_ediv, Int.natCast_pow]; rfl
 rw [e3, ziV _ sm, zvm b m k hm hk hk2]
 unfold upd znP
 by_cases h : q = m
 ·rw [if_pos h, h, if_pos (by omega)]
 ·rw [if_neg h]; dsimp only; rw [if_neg h]
  by_cases h2 : q < m
  ·rw [if_pos h2, if_pos (by omega)]
  ·rw [if_neg h2, if_neg (by omega)]
attribute [local irreducible] kvN ofN
theorem zEz (b : Nat → Nat) (hb : ∀ i, i < 32 → b i < 256) (w : World) :
  Calls Tryz.prog 128 #[.agg (arr .u8 32 fun i => ((b i : Nat) : Int))] w fun e w' => e = .returned (.agg (arr .u64 5 fun i => ((ofN b i : Nat) : Int))) ∧ Below w.heap.size w w' := by
 go_enter Tryz.func128, Tryz.ntmps128
 obtain ⟨h0, h1, hsz, hbl⟩ := zhm w (.cells (arr .u8 32 fun i => ((b i : Nat) : Int)) 23) (.cells (arr .u64 5 fun _ => 0) 168)
 have hb' := Lib.hid hb
 clear hb
 go_wp2_with (refine zat rfl rfl zxb ?_)
 go_loopg [8] 5 (fun n i wr => ∃ m : Nat, m + n = 5 ∧ i = .int .i64 m ∧ wr.heap[w.heap.size]? = some (.cells (arr .u8 32 fun i => ((b i : Nat) : Int)) 23 (0, 0)) ∧ wr.heap[w.heap.size + 1]? = some (.cells (arr .u64 5 fun q => ((if q < m then ofN b q else 0 : Nat) : Int)) 168 (0, 0)) ∧ Below w.heap.size w wr)
 case atStart => exact ⟨0, rfl, rfl, h0, zaz h1 (fun k _ => by rw [if_neg (Nat.not_lt_zero k)]; rfl), hbl⟩
 case round =>
  clear h0 h1 hbl hsz
  obtain ⟨m, hm, rfl, g0, g1, hB⟩ := hrel
  obtain ⟨go1, rfl⟩ : ∃ x, x = gk := ⟨_, rfl⟩
  have hm' := Lib.hid hm
  clear hm
  by_cases hlt : m < 5
  ·have g2 := zaz g1 (f' := fun q => ((znP b m (51 * m / 8) q : Nat) : Int)) (fun q _ => by rw [← zsB b hb'.out m q hlt])
   clear g1
   obtain ⟨K, hK1, hK2, hK3⟩ : ∃ K, K ≤ 51 * m / 8 + 8 ∧ K ≤ 32 ∧ (51 * m / 8 + 8 ≤ K ∨ 32 ≤ K) := ⟨min (51 * m / 8 + 8) 32, by omega, by omega, by omega⟩
   go_upto_region 4 with (fail)
   (try simp only [Act.put, jA, jB, jC])
   try rw [show decide ((m : Int) < 5) = true from decide_eq_true (by omega)]
   go_wp2
   go_loopg [5] (K - 51 * m / 8) (fun n i wr => ∃ k : Nat, k + n = K ∧ 51 * m / 8 ≤ k ∧ i = .int .i64 k ∧ wr.heap[w.heap.size]? = some (.cells (arr .u8 32 fun i => ((b i : Nat) : Int)) 23 (0, 0)) ∧ wr.heap[w.heap.size + 1]? = some (.cells (arr .u64 5 fun q => ((znP b m k q : Nat) : Int)) 168 (0, 0)) ∧ Below w.heap.size w wr)
   case atStart => exact ⟨51 * m / 8, by omega, by omega, by go_num, g0, g2, hB⟩
   case round =>
    clear g0 g2 hB
    obtain ⟨k, hk, hkm, rfl, g0, g2, hB⟩ := hrel
    have hk' := Lib.hid hk
    clear hk
    by_cases hlk : k < K
    ·have c0 := za7 g2 m (by omega)
     have c1 := za7 g0 k (by omega)
     have bk := hb'.out k (by omega)
     have fz := zb6 g2 m
     by_cases hs : 8 * k < 51 * m
     ·go_wp2
      all_goals
       refine zbB 9 (by kernel_rfl) (by kernel_rfl) ?_
       (simp only [jH, jI, jF, jG])
       repeat (refine wpStill_step (fun K hK => ?_); go_simp; (try (simp only [↓IntWalk.iteOmega]; go_simp)); (try go_bits); refine hK _ ?_; clear hK K)
       refine wpStill_nil ?_
       go_wp2
       go_roundg (gk - 1)
       case measure => have := hk'.out; omega
       case rel =>
        have hk'' := hk'.out
        exact ⟨k + 1, by omega, by omega, by go_num, zck g0 _ _ (by omega), zaz (zcj g2 _ _) (fun q _ => znQ b m k q _ (zyu b hb'.out m k (by omega) hs)), (hB.setCell (by show w.heap.size ≤ w.heap.size + 1; omega) _).drew⟩
     ·go_wp2
      all_goals
       refine zbB 8 (by kernel_rfl) (by kernel_rfl) ?_
       (simp only [jH, jI, jF, jG])
       repeat (refine wpStill_step (fun K hK => ?_); go_simp; (try (simp only [↓IntWalk.iteOmega]; go_simp)); (try go_bits); refine hK _ ?_; clear hK K)
       refine wpStill_nil ?_
       go_wp2
       go_roundg (gk - 1)
       case measure => have := hk'.out; omega
       case rel =>
        have hk'' := hk'.out
        exact ⟨k + 1, by omega, by omega, by go_num, zck g0 _ _ (by omega), zaz (zcj g2 _ _) (fun q _ => znQ b m k q _ (zvk b hb'.out m k (by omega) (by omega) (by omega))), (hB.setCell (by show w.heap.size ≤ w.heap.size + 1; omega) _).drew⟩
    ·obtain rfl : k = K := by have := hk'.out; omega
     have c0 := za7 g2 m (by omega)
     have fz := zb6 g2 m
     have sm := zrc b m k (zjX b 32 hb'.out k hK2) (by omega)
     have e1 : znP b m k m = kvN b k / 2 ^ (51 * m) := by unfold znP; rw [if_pos rfl]
     rw [e1] at c0
     go_wp2
     all_goals
      go_roundg (go1 - 1)
      case measure => have := hm'.out; omega
      case rel =>
       have hm'' := hm'.out
       refine ⟨m + 1, by omega, by go_num, zck g0 _ _ (by omega), zaz (zcj g2 _ _) (fun q _ => ?_), hB.setCell (by show w.heap.size ≤ w.heap.size + 1; omega) _⟩
       exact zyv b hb'.out m k q hlt hK3 hK2 sm
  ·obtain rfl : m = 5 := by have := hm'.out; omega
   have g2 := zaz g1 (f' := fun q => ((ofN b q : Nat) : Int)) (fun q hq => by rw [if_pos hq])
   clear g1
   go_wp2_with (first | (refine zad rfl rfl rfl zbZ g2 ?_) | (refine zah rfl rfl rfl rfl zbZ g2 ?_))
   exact bodyPost_ret (zbJ rfl rfl zbZ (zaF g2)) rfl ⟨rfl, zaG hB (by omega) _⟩
end
section
open Go.RowKit
inductive CPlan where
 | done (p : List (Nat × Bool))
 | fork (p : List (Nat × Bool)) (i : Nat) (pi : CPlan) (j : Nat) (pj : CPlan)
def CPlan.size : CPlan → Nat
 | .done p => p.length
 | .fork p _ pi _ _ => p.length + (pi.size + 1)
section
variable {P : Program} {md : Region.Mode} {Q : Exit → Act → World → Prop} {N n : Nat} {w0 : World} {l : List Oper}
end
end
section
open Go.RowKit
theorem zaM {P : Program} {w : World} {fn : Func} {p q : Tmp} {ty : TypeId} {n t g : Nat} {k : IntKind} {f : Nat → Int} {fr : Nat × Nat} {v : Value} (h : fn.results = #[.cell p ty, .tmp q]) {tmps : Array Value} (hp : tmps.getD p undef = .pointer (some ⟨g, 0, none⟩)) (hq : tmps.getD q undef = v)
  (hT : zkd P ty n) (hg : w.heap[g]? = some (.cells (arr k n f) t fr)) : (results fn tmps).run P w = .ok (.tuple #[.agg (arr k n f), v]) w := by
 have hp' : tmps[p]?.getD undef = .pointer (some ⟨g, 0, none⟩) := by simpa using hp
 have hq' : tmps[q]?.getD undef = v := by simpa using hq
 simp [results, h, hp', hq', asAddr, zb7 hT hg]
theorem zvn : Tryz.prog.built 23 [] = some (arr .u8 32 fun _ => 0) := by kernel_rfl
theorem ze8 : Tryz.prog.built 168 [] = some (arr .u64 5 fun _ => 0) := by kernel_rfl
attribute [local irreducible] zdE zbr zaR
def zdG (F : Nat → Nat) (k : Nat) : Nat := if okF F 5 then zaR (zbr (zdE F) 5) k else 0
theorem zrd {F : Nat → Nat} (h : okF F 5) (i : Nat) (hi : i < 5) : F i < 9223372036854775808 := by have := h i hi; omega
theorem zpn (F : Nat → Nat) (hF : ∀ i, i < 5 → F i < 18446744073709551616) (w : World) :
  Calls Tryz.prog 135 #[.agg (arr .u64 5 fun i => ((F i : Nat) : Int))] w fun e w' => e = .returned (.tuple #[.agg (arr .u8 32 fun k => ((zdG F k : Nat) : Int)), .int .i64 (if okF F 5 then 0 else 1)]) ∧ Below w.heap.size w w' := by
 go_enter Tryz.func135, Tryz.ntmps135
 obtain ⟨h0, h1, hsz, hb⟩ := zhm w (.cells (arr .u64 5 fun i => ((F i : Nat) : Int)) 168) (.cells (arr .u8 32 fun _ => 0) 23)
 go_upto_region 1 with (refine zat rfl rfl zEx ?_)
 generalize (w.alloc (.cells (arr .u64 5 fun i => ((F i : Nat) : Int)) 168)).alloc (.cells (arr .u8 32 fun _ => 0) 23) = wa at *
 (try simp only [Act.put, jA, jB, jC])
 obtain ⟨g2, hz2, bl⟩ := zhk wa (.cells (arr .u64 5 fun i => ((F i : Nat) : Int)) 168)
 rw [hsz] at g2
 go_wp2_with (first | (refine zad rfl rfl rfl zbZ h0 ?_) | (refine zcs rfl rfl Tryz.underlying217 (by simp [Act.eval, Act.put]) (znN fun i => ((F i : Nat) : Int)) ?_) | (go_at_call 164; fail))
 refine (zg4 1 5 rfl (by omega) F hF _ _ _ g2).mono ?_
 rintro e w2 ⟨rfl, b2⟩
 have b3 := bl.trans (b2.mono (by omega))
 have q0 := zam b3 (by omega) h0
 have q1 := zam b3 (by omega) h1
 have hB := hb.trans (b3.mono (by omega))
 clear b2 b3 bl g2 h0 h1 hb hz2 hsz
 by_cases hq : okF F 5
 ·rw [show decide (okF F 5) = true from decide_eq_true hq]
  go_wp2_with (first | (refine zad rfl rfl rfl zbZ q0 ?_) | (go_at_call 165; fail))
  refine (zvh F (fun i hi => zrd hq i hi) _).mono ?_
  rintro e w4 ⟨rfl, b4⟩
  have e1 := zam b4 (jM q1) q1
  have hBe := hB.trans (b4.mono hB.size)
  go_wp2_with (refine zah rfl rfl rfl rfl zpk e1 ?_)
  refine bodyPost_ret (zaM rfl rfl rfl zpk (zaF e1)) rfl ⟨?_, zaG hBe (by omega) _⟩
  rw [show (arr .u8 32 fun k => ((zdG F k : Nat) : Int)) = arr .u8 32 fun k => ((zaR (zbr (zdE F) 5) k : Nat) : Int) from zdh fun k _ => by unfold zdG; rw [if_pos hq]]
  first | rfl | (rw [if_pos hq]; rfl)
 ·rw [show decide (okF F 5) = false from decide_eq_false hq]
  go_wp2_with (first | (refine zbK rfl (zbQ rfl (by simp [Act.eval, Act.put]) zvn) ?_) | (refine zah rfl rfl rfl rfl zpk q1 ?_))
  refine bodyPost_ret (zaM rfl rfl rfl zpk (zaF q1)) rfl ⟨?_, zaG hB (by omega) _⟩
  rw [show (arr .u8 32 fun k => ((zdG F k : Nat) : Int)) = arr .u8 32 fun _ => 0 from zdh fun k _ => by unfold zdG; rw [if_neg hq]; rfl]
  first | rfl | (rw [if_neg hq]; rfl)
def addN (F G : Nat → Nat) (i : Nat) : Nat := if okF F 5 ∧ okF G 5 then zc4 (fun i => F i + G i) i else 0
theorem zBO (F G : Nat → Nat) (hF : ∀ i, i < 5 → F i < 18446744073709551616) (hG : ∀ i, i < 5 → G i < 18446744073709551616) (w : World) :
  Calls Tryz.prog 160 #[.agg (arr .u64 5 fun i => ((F i : Nat) : Int)), .agg (arr .u64 5 fun i => ((G i : Nat) : Int))] w fun e w' => e = .returned (.tuple #[.agg (arr .u64 5 fun k => ((addN F G k : Nat) : Int)), .int .i64 (if okF F 5 ∧ okF G 5 then 0 else 1)]) ∧ Below w.heap.size w w' := by
 go_enter Tryz.func160, Tryz.ntmps160
 obtain ⟨h0, h1, h2, hsz, hb⟩ := zmP w (.cells (arr .u64 5 fun i => ((F i : Nat) : Int)) 168) (.cells (arr .u64 5 fun i => ((G i : Nat) : Int)) 168) (.cells (arr .u64 5 fun _ => 0) 168)
 go_upto_region 1 with (refine zat rfl rfl zxb ?_)
 generalize ((w.alloc (.cells (arr .u64 5 fun i => ((F i : Nat) : Int)) 168)).alloc (.cells (arr .u64 5 fun i => ((G i : Nat) : Int)) 168)).alloc (.cells (arr .u64 5 fun _ => 0) 168) = wa at *
 (try simp only [Act.put, jA, jB, jC])
 obtain ⟨g3, hz2, bl⟩ := zhk wa (.cells (arr .u64 10 fun i => ((zk6 F G i : Nat) : Int)) 168)
 rw [hsz] at g3
 go_wp2_with (first | (refine zad rfl rfl rfl zbZ h0 ?_) | (refine zad rfl rfl rfl zbZ h1 ?_) | (refine zcs rfl rfl Tryz.underlying217 (by simp [Act.eval, Act.put]) (ziR F G) ?_) | (go_at_call 164; fail))
 refine (zg4 2 10 rfl (by omega) (zk6 F G) (fun i hi => zpi F G _ hF hG i hi) _ _ _ g3).mono ?_
 rintro e w2 ⟨rfl, b2⟩
 have b3 := bl.trans (b2.mono (by omega))
 have q0 := zam b3 (by omega) h0
 have q1 := zam b3 (by omega) h1
 have q2 := zam b3 (by omega) h2
 have hB := hb.trans (b3.mono (by omega))
 clear b2 b3 bl g3 h0 h1 h2 hb hz2 hsz
 by_cases hq : okF F 5 ∧ okF G 5
 ·rw [show decide (okF (zk6 F G) 10) = true from decide_eq_true ((zg5 F G).2 hq)]
  have hq' := Lib.hid hq
  go_wp2
  go_loopg [13] 5 (fun n i wr => ∃ m : Nat, m + n = 5 ∧ i = .int .i64 m ∧ wr.heap[w.heap.size]? = some (.cells (arr .u64 5 fun i => ((if i < m then F i + G i else F i : Nat) : Int)) 168 (0, 0)) ∧
   wr.heap[w.heap.size + 1]? = some (.cells (arr .u64 5 fun i => ((G i : Nat) : Int)) 168 (0, 0)) ∧ wr.heap[w.heap.size + 1 + 1]? = some (.cells (arr .u64 5 fun _ => 0) 168 (0, 0)) ∧ Below w.heap.size w wr)
  case atStart => exact ⟨0, rfl, rfl, zaz q0 (fun i _ => by rw [if_neg (Nat.not_lt_zero i)]), q1, q2, hB⟩
  case round =>
   clear q0 q1 q2 hB
   obtain ⟨m, hm, rfl, q0, q1, q2, hB⟩ := hrel
   have hm' := Lib.hid hm
   clear hm
   by_cases hlt : m < 5
   ·have f1 := hq'.out.1 m hlt
    have f2 := hq'.out.2 m hlt
    have c0 := za7 q0 m hlt
    have c1 := za7 q1 m hlt
    have fz := zb6 q0 m
    simp only [Nat.lt_irrefl, if_false] at c0
    go_wp2
    refine zbB 8 (by kernel_rfl) (by kernel_rfl) ?_
    (simp only [jH, jI, jF, jG])
    repeat (refine wpStill_step (fun K hK => ?_); go_simp; (try (simp only [↓IntWalk.iteOmega]; go_simp)); (try go_bits); refine hK _ ?_; clear hK K)
    refine wpStill_nil ?_
    go_wp2
    go_roundg (gk - 1)
    case measure => have := hm'.out; omega
    case rel =>
     have hm'' := hm'.out
     refine ⟨m + 1, by omega, by go_num, zaz (zcj q0 m _) (fun i _ => ?_), zck q1 _ _ (by omega), zck q2 _ _ (by omega), (hB.setCell (jV _) _).drew⟩
     unfold upd
     by_cases h : i = m
     ·rw [if_pos h, h, if_pos (by omega)]; rfl
     ·rw [if_neg h]
      dsimp only
      by_cases h2 : i < m
      ·rw [if_pos h2, if_pos (by omega)]
      ·rw [if_neg h2, if_neg (by omega)]
   ·obtain rfl : m = 5 := by have := hm'.out; omega
    have p0 := zaz (f' := fun i => ((F i + G i : Nat) : Int)) q0 (fun i hi => by rw [if_pos hi])
    clear q0
    go_wp2_with (first | (refine zad rfl rfl rfl zbZ p0 ?_) | (go_at_call 180; fail))
    refine (zeE (fun i => F i + G i) (fun i hi => by have := hq'.out.1 i hi; have := hq'.out.2 i hi; show F i + G i < _; omega) _).mono ?_
    rintro e w4 ⟨rfl, b4⟩
    have e2 := zam b4 (jM q2) q2
    have hBe := hB.trans (b4.mono hB.size)
    go_wp2_with (refine zah rfl rfl rfl rfl zbZ e2 ?_)
    refine bodyPost_ret (zaM rfl rfl rfl zbZ (zaF e2)) rfl ⟨?_, zaG hBe (by omega) _⟩
    rw [show (arr .u64 5 fun k => ((addN F G k : Nat) : Int)) = arr .u64 5 fun k => ((zc4 (fun i => F i + G i) k : Nat) : Int) from zdh fun k _ => by unfold addN; rw [if_pos hq'.out]]
    first | rfl | (rw [if_pos hq'.out]; rfl)
 ·rw [show decide (okF (zk6 F G) 10) = false from decide_eq_false fun h => hq ((zg5 F G).1 h)]
  go_wp2_with (first | (refine zbK rfl (zbQ rfl (by simp [Act.eval, Act.put]) ze8) ?_) | (refine zah rfl rfl rfl rfl zbZ q2 ?_))
  refine bodyPost_ret (zaM rfl rfl rfl zbZ (zaF q2)) rfl ⟨?_, zaG hB (by omega) _⟩
  rw [show (arr .u64 5 fun k => ((addN F G k : Nat) : Int)) = arr .u64 5 fun _ => 0 from zdh fun k _ => by unfold addN; rw [if_neg hq]; rfl]
  first | rfl | (rw [if_neg hq]; rfl)
end
section
open Go.RowKit
namespace M64
theorem maskN (a : Nat) (ha : a < 18446744073709551616) : bits .and .u64 (a : Int) 4294967295 = ((a % 4294967296 : Nat) : Int) := by
 have h := bits_and_u64_nat a 4294967295 ha (by omega)
 have e : a &&& 4294967295 = a % 4294967296 := Nat.and_two_pow_sub_one_eq_mod a 32
 rw [e] at h
 exact h
theorem divN (a : Nat) : (a : Int) / 4294967296 = ((a / 4294967296 : Nat) : Int) := by omega
theorem mulN (a b : Nat) : (a : Int) * (b : Int) = ((a * b : Nat) : Int) := (Int.natCast_mul a b).symm
theorem addN (a b : Nat) : (a : Int) + (b : Int) = ((a + b : Nat) : Int) := (Int.natCast_add a b).symm
theorem wrapN (a : Nat) (ha : a < 18446744073709551616) : IntKind.u64.wrap (a : Int) = (a : Int) := by rw [IntKind.wrap_u64]; omega
theorem wrapM (a : Nat) : IntKind.u64.wrap (a : Int) = ((a % 18446744073709551616 : Nat) : Int) := by rw [IntKind.wrap_u64]; omega
end M64
theorem znR (x y : Nat) (hx : x < 18446744073709551616) (hy : y < 18446744073709551616) (w : World) :
  Calls Tryz.prog 186 #[.int .u64 x, .int .u64 y] w fun e w' => e = .returned (.tuple #[.int .u64 ((x * y / 18446744073709551616 : Nat) : Int), .int .u64 ((x * y % 18446744073709551616 : Nat) : Int)]) ∧ w = w' := by
 obtain ⟨bd, bt, bw, hhi⟩ := Lib.mul64_hi x y hx hy
 have ba := Lib.half_mul_le (a := x / 4294967296) (b := y / 4294967296) (by omega) (by omega)
 have bb := Lib.half_mul_le (a := x / 4294967296) (b := y % 4294967296) (by omega) (by omega)
 have bc := Lib.half_mul_le (a := x % 4294967296) (b := y / 4294967296) (by omega) (by omega)
 have ba' : x / 4294967296 * (y / 4294967296) < 18446744073709551616 := by omega
 have bb' : x / 4294967296 * (y % 4294967296) < 18446744073709551616 := by omega
 have bc' : x % 4294967296 * (y / 4294967296) < 18446744073709551616 := by omega
 have bh1 : x / 4294967296 * (y / 4294967296) + (x / 4294967296 * (y % 4294967296) + x % 4294967296 * (y % 4294967296) / 4294967296) / 4294967296 < 18446744073709551616 := by omega
 have bh : x / 4294967296 * (y / 4294967296) + (x / 4294967296 * (y % 4294967296) + x % 4294967296 * (y % 4294967296) / 4294967296) / 4294967296 + ((x / 4294967296 * (y % 4294967296) + x % 4294967296 * (y % 4294967296) / 4294967296) % 4294967296 + x % 4294967296 * (y / 4294967296)) / 4294967296 < 18446744073709551616 := by omega
 go_enter Tryz.func186, Tryz.ntmps186
 go_wp2
 simp only [M64.maskN x hx, M64.maskN y hy, M64.divN, M64.mulN, M64.addN, M64.wrapN _ bd, M64.wrapN _ bb', M64.wrapN _ bt, M64.maskN _ bt, M64.wrapN _ bc', M64.wrapN _ bw, M64.wrapN _ ba', M64.wrapN _ bh1, M64.wrapN _ bh, M64.wrapM (x * y)]
 rw [hhi]
 go_ret2
 exact ⟨rfl, rfl⟩
theorem znS (x y : Nat) (w : World) :
  (callFunc 187 #[.int .u64 (x : Int), .int .u64 (y : Int), .int .u64 0]).run Tryz.prog w =
   .ok (.value (.tuple #[.int .u64 (((x + y) % 18446744073709551616 : Nat) : Int), .int .u64 (((x + y) / 18446744073709551616 : Nat) : Int)])) w := by
 rw [run_callFunc_extern Tryz.func187 (by kernel_rfl) (by kernel_rfl) (by kernel_rfl) (e := add64Entry) (by kernel_rfl), run_add64 x y 0 (by omega) (by omega) (by omega) (by omega)]
 simp only [Result.andThen]
 congr 5 <;> omega
theorem zfw : zkd Tryz.prog 222 2 := ⟨_, Tryz.underlying222, rfl, by kernel_rfl⟩
theorem zz9 : zic Tryz.prog 222 .u64 2 := by unfold zic; kernel_rfl
def hlN (v : Nat) (i : Nat) : Nat := if i = 0 then v / 18446744073709551616 else v % 18446744073709551616
theorem zsC (x y : Int) : Tryz.prog.built 222 [(0, .int .u64 x), (1, .int .u64 y)] = some (arr .u64 2 fun i => if i = 0 then x else y) := by kernel_rfl
theorem zma (v a b : Nat) (ha : a < 18446744073709551616) (hb : b < 18446744073709551616) (hv : v + a * b < 340282366920938463463374607431768211456) (w : World) :
  Calls Tryz.prog 185 #[.agg (arr .u64 2 fun i => ((hlN v i : Nat) : Int)), .int .u64 a, .int .u64 b] w fun e w' => e = .returned (.agg (arr .u64 2 fun i => ((hlN (v + a * b) i : Nat) : Int))) ∧ Below w.heap.size w w' := by
 obtain ⟨p, hp⟩ : ∃ p, p = a * b := ⟨_, rfl⟩
 rw [← hp] at hv ⊢
 have Hp := Lib.hid hp
 clear hp
 go_enter Tryz.func185, Tryz.ntmps185
 obtain ⟨g0, g1, hz, hb0⟩ := zhm w (.cells (arr .u64 2 fun i => ((hlN v i : Nat) : Int)) 222) (.cells (arr .u64 2 fun _ => 0) 222)
 go_upto_region 1 with (refine zat rfl rfl zz9 ?_)
 generalize (w.alloc (.cells (arr .u64 2 fun i => ((hlN v i : Nat) : Int)) 222)).alloc (.cells (arr .u64 2 fun _ => 0) 222) = wa at *
 (try simp only [Act.put, jA, jB, jC])
 go_wp2_with (go_at_call 186; fail)
 refine (znR a b ha hb _).mono ?_
 rintro e w1 ⟨rfl, rfl⟩
 rw [← Hp.out]
 obtain ⟨ph, hph⟩ : ∃ x, x = p / 18446744073709551616 := ⟨_, rfl⟩
 obtain ⟨pl, hpl⟩ : ∃ x, x = p % 18446744073709551616 := ⟨_, rfl⟩
 obtain ⟨vh, hvh⟩ : ∃ x, x = v / 18446744073709551616 := ⟨_, rfl⟩
 obtain ⟨vl, hvl⟩ : ∃ x, x = v % 18446744073709551616 := ⟨_, rfl⟩
 obtain ⟨so, hso⟩ : ∃ x, x = (pl + vl) / 18446744073709551616 := ⟨_, rfl⟩
 obtain ⟨sl, hsl⟩ : ∃ x, x = (pl + vl) % 18446744073709551616 := ⟨_, rfl⟩
 have c0 : wa.cell? ⟨w.heap.size, 0, none⟩ = some (.int .u64 (vh : Int)) := by rw [hvh]; exact za7 g0 0 (by omega)
 have c1 : wa.cell? ⟨w.heap.size, 1, none⟩ = some (.int .u64 (vl : Int)) := by rw [hvl]; exact za7 g0 1 (by omega)
 have ra := znS pl vl
 rw [← hso, ← hsl] at ra
 rw [← hph, ← hpl]
 have e0 : sl = (v + p) % 18446744073709551616 := by omega
 have e1 : vh + ph + so = (v + p) / 18446744073709551616 := by omega
 have b1 : vh + ph + so < 18446744073709551616 := by omega
 have E0 := Lib.hid e0
 have E1 := Lib.hid e1
 clear e0 e1 hph hpl hvh hvl hso hsl
 go_wp2_with (first | (refine zmR rfl rfl (by simp [Act.eval, Act.put]) (zsC _ _) ?_) | (refine zah (f' := fun i => if i = 0 then ((vh : Int) + ph + so) else (sl : Int)) rfl rfl rfl rfl zfw g1 ?_))
 refine bodyPost_ret (zbJ rfl rfl zfw (zaF g1)) rfl ⟨?_, zaG hb0 (by omega) _⟩
 rw [zdh (f := fun i => ((hlN (v + p) i : Nat) : Int)) (g := fun i => if i = 0 then ((vh : Int) + ph + so) else (sl : Int)) (fun i _ => by
  unfold hlN
  split
  ·rw [← E1.out]; omega
  ·rw [← E0.out])]
end
section
theorem ziW (b c : Nat → Nat) : ∀ k, (∀ i, i < k → b i = c i) → kvN b k = kvN c k
 | 0, _ => rfl
 | k + 1, h => by rw [zdF, zdF, ziW b c k (fun i hi => h i (by omega)), h k (by omega)]
theorem zre (v : Nat) : ∀ k, kvN (zaR v) k = v % 2 ^ (8 * k)
 | 0 => by unfold kvN; rw [Nat.mul_zero, Nat.pow_zero, Nat.mod_one]
 | k + 1 => by
  rw [zdF, zre v k, show 8 * (k + 1) = 8 * k + 8 from by omega, Nat.pow_add, Nat.mod_mul]
  unfold zaR
  rw [Nat.mul_comm (v / 2 ^ (8 * k) % 256)]
def zFH (v i : Nat) : Nat := v / 2 ^ (51 * i) % 2251799813685248
theorem zBP (v : Nat) : zbr (zFH v) 5 = v % 57896044618658097711785492504343953926634992332820282019728792003956564819968 := by
 rw [zaS]
 unfold zFH
 rw [show (2 : Nat) ^ (51 * 0) = 1 from by decide, show (2 : Nat) ^ (51 * 1) = 2251799813685248 from by decide, show (2 : Nat) ^ (51 * 2) = 5070602400912917605986812821504 from by decide, show (2 : Nat) ^ (51 * 3) = 11417981541647679048466287755595961091061972992 from by decide, show (2 : Nat) ^ (51 * 4) = 25711008708143844408671393477458601640355247900524685364822016 from by decide]
 omega
theorem zBQ (b : Nat → Nat) (i : Nat) : ofN b i = zFH (kvN b 32) i := rfl
end
section
def zbF (F G : Nat → Nat) (n c : Nat) : Nat := if (n / 5 + n % 5) % 5 = c then F (n / 5) * (if 5 ≤ n / 5 + n % 5 then 19 * G (n % 5) else G (n % 5)) else 0
def zdO (F G : Nat → Nat) : Nat → Nat → Nat
 | 0, _ => 0
 | n + 1, c => zdO F G n c + zbF F G n c
theorem ziX (F G : Nat → Nat) (n c : Nat) : zdO F G (n + 1) c = zdO F G n c + zbF F G n c := rfl
theorem zBR (F G : Nat → Nat) (hF : ∀ i, i < 5 → F i < 4503599627370496) (hG : ∀ i, i < 5 → G i < 4503599627370496) (n c : Nat) (hn : n < 25) :
  zbF F G n c ≤ 385365782469381738054997774434304 := by
 unfold zbF
 have f := hF (n / 5) (by omega)
 have g := hG (n % 5) (by omega)
 split
 ·have : F (n / 5) * (if 5 ≤ n / 5 + n % 5 then 19 * G (n % 5) else G (n % 5)) ≤ 4503599627370496 * (19 * 4503599627370496) := Nat.mul_le_mul (by omega) (by split <;> omega)
  omega
 ·omega
theorem zvo (F G : Nat → Nat) (hF : ∀ i, i < 5 → F i < 4503599627370496) (hG : ∀ i, i < 5 → G i < 4503599627370496) (c : Nat) : ∀ n, n ≤ 25 → zdO F G n c ≤ n * 385365782469381738054997774434304
 | 0, _ => by unfold zdO; omega
 | n + 1, h => by
  have := zvo F G hF hG c n (by omega)
  have := zBR F G hF hG n c (by omega)
  rw [ziX]; omega
theorem zyw (a b0 b1 b2 b3 b4 c1 c2 c3 c4 : Nat) : a * (b0 + b1 * c1 + b2 * c2 + b3 * c3 + b4 * c4) = a * b0 + a * b1 * c1 + a * b2 * c2 + a * b3 * c3 + a * b4 * c4 := by
 simp only [Nat.mul_add, Nat.mul_assoc]
theorem zhY (a c b0 b1 b2 b3 b4 c1 c2 c3 c4 : Nat) : a * c * (b0 + b1 * c1 + b2 * c2 + b3 * c3 + b4 * c4) = a * b0 * c + a * b1 * (c * c1) + a * b2 * (c * c2) + a * b3 * (c * c3) + a * b4 * (c * c4) := by
 rw [Nat.mul_add, Nat.mul_add, Nat.mul_add, Nat.mul_add, Nat.mul_mul_mul_comm a c b1, Nat.mul_mul_mul_comm a c b2, Nat.mul_mul_mul_comm a c b3, Nat.mul_mul_mul_comm a c b4, Nat.mul_right_comm a c b0]
theorem zBS (F G : Nat → Nat) : ∃ q, zbr F 5 * zbr G 5 = zbr (zdO F G 25) 5 + q * pN := by
 refine ⟨?_, ?_⟩
 ·exact (F 1 * G 4 + F 2 * G 3 + F 3 * G 2 + F 4 * G 1) + (F 2 * G 4 + F 3 * G 3 + F 4 * G 2) * 2251799813685248 + (F 3 * G 4 + F 4 * G 3) * 5070602400912917605986812821504 + (F 4 * G 4) * 11417981541647679048466287755595961091061972992
 ·rw [zaS, zaS, zaS]
  have e : ∀ c, zdO F G 25 c = zbF F G 0 c + zbF F G 1 c + zbF F G 2 c + zbF F G 3 c + zbF F G 4 c + zbF F G 5 c + zbF F G 6 c + zbF F G 7 c + zbF F G 8 c + zbF F G 9 c + zbF F G 10 c + zbF F G 11 c + zbF F G 12 c + zbF F G 13 c + zbF F G 14 c + zbF F G 15 c + zbF F G 16 c + zbF F G 17 c + zbF F G 18 c + zbF F G 19 c + zbF F G 20 c + zbF F G 21 c + zbF F G 22 c + zbF F G 23 c + zbF F G 24 c := by
   intro c; simp only [zdO]; omega
  have e0 : zdO F G 25 0 = F 0 * G 0 + 19 * (F 1 * G 4 + F 2 * G 3 + F 3 * G 2 + F 4 * G 1) := by rw [e]; simp [zbF]; simp only [Nat.mul_left_comm _ 19 _]; omega
  have e1 : zdO F G 25 1 = F 0 * G 1 + F 1 * G 0 + 19 * (F 2 * G 4 + F 3 * G 3 + F 4 * G 2) := by rw [e]; simp [zbF]; simp only [Nat.mul_left_comm _ 19 _]; omega
  have e2 : zdO F G 25 2 = F 0 * G 2 + F 1 * G 1 + F 2 * G 0 + 19 * (F 3 * G 4 + F 4 * G 3) := by rw [e]; simp [zbF]; simp only [Nat.mul_left_comm _ 19 _]; omega
  have e3 : zdO F G 25 3 = F 0 * G 3 + F 1 * G 2 + F 2 * G 1 + F 3 * G 0 + 19 * (F 4 * G 4) := by rw [e]; simp [zbF, Nat.mul_left_comm _ 19 _]
  have e4 : zdO F G 25 4 = F 0 * G 4 + F 1 * G 3 + F 2 * G 2 + F 3 * G 1 + F 4 * G 0 := by rw [e]; simp [zbF]
  rw [e0, e1, e2, e3, e4]
  unfold pN
  rw [Nat.add_mul, Nat.add_mul, Nat.add_mul, Nat.add_mul, zyw, zhY, zhY, zhY, zhY]
  omega
attribute [local irreducible] zdO
def ziY (V : Nat → Nat) (i : Nat) : Nat := if i = 0 then (19 * ovN V 5 + loN V 0) % 2251799813685248 else if i = 1 then loN V 1 + (19 * ovN V 5 + loN V 0) / 2251799813685248 else loN V i
theorem zyx (V : Nat → Nat) : zbr (ziY V) 5 + ovN V 5 * pN = zbr V 5 := by
 have h := zva V
 rw [zaS] at h
 rw [zaS, ← h]
 unfold ziY pN
 simp only [if_true, show (1 : Nat) ≠ 0 from by omega, show (2 : Nat) ≠ 0 from by omega, show (2 : Nat) ≠ 1 from by omega, show (3 : Nat) ≠ 0 from by omega, show (3 : Nat) ≠ 1 from by omega, show (4 : Nat) ≠ 0 from by omega, show (4 : Nat) ≠ 1 from by omega, if_false]
 omega
theorem zvp (V : Nat → Nat) (hV : ∀ i, i < 5 → V i < 10384593717069655257060992658440192) : ∀ m, m ≤ 5 → ovN V m < 9223372036854775808
 | 0, _ => by unfold ovN; omega
 | m + 1, h => by
  have := zvp V hV m (by omega)
  have := hV m (by omega)
  rw [zgw]
  omega
theorem zvq (V : Nat → Nat) (hV : ∀ i, i < 5 → V i < 10384593717069655257060992658440192) (i : Nat) (_hi : i < 5) : ziY V i < 9223372036854775808 := by
 have := zvp V hV 5 (by omega)
 have l : ∀ m, loN V m < 2251799813685248 := fun m => Nat.mod_lt _ (by omega)
 have := l 0
 have := l 1
 have := l i
 unfold ziY
 split
 ·omega
 ·split <;> omega
theorem zAa (F G : Nat → Nat) (hF : ∀ i, i < 5 → F i < 4503599627370496) (hG : ∀ i, i < 5 → G i < 4503599627370496) (n c : Nat) (hn : n ≤ 25) : zdO F G n c < 10384593717069655257060992658440192 := by
 have := zvo F G hF hG c n hn
 omega
def zcd (F G : Nat → Nat) (i : Nat) : Nat := zc4 (ziY (zdO F G 25)) i
theorem zyy (F G : Nat → Nat) : zbr (zcd F G) 5 % pN = zbr F 5 * zbr G 5 % pN := by
 obtain ⟨q, hq⟩ := zBS F G
 have h1 := ziS (ziY (zdO F G 25))
 have h2 := zyx (zdO F G 25)
 have e : zbr (zcd F G) 5 = zbr (zc4 (ziY (zdO F G 25))) 5 := rfl
 rw [e, hq, ← h2, ← h1]
 rw [Nat.add_mul_mod_self_right, Nat.add_mul_mod_self_right, Nat.add_mul_mod_self_right]
theorem zeb (F G : Nat → Nat) (hF : okF F 5) (hG : okF G 5) : okF (zcd F G) 5 := fun i hi => by
 have := zct (ziY (zdO F G 25)) (fun i hi => zvq _ (fun c hc => zAa F G hF hG 25 c (by omega)) i hi) i hi
 show zc4 _ i < _
 omega
def zsD (i : Nat) : Nat := if i = 0 then 2251799813685229 else 2251799813685247
def zcX (F G : Nat → Nat) (i : Nat) : Nat := F i + (4 * zsD i - G i)
theorem zvr (F G : Nat → Nat) (hF : okF F 5) (i : Nat) (hi : i < 5) : zcX F G i < 9223372036854775808 := by
 have := hF i hi
 unfold zcX zsD
 split <;> omega
theorem zyz (F G : Nat → Nat) (hG : okF G 5) : zbr (zcX F G) 5 + zbr G 5 = zbr F 5 + 4 * pN := by
 rw [zaS, zaS, zaS]
 have := hG 0 (by omega); have := hG 1 (by omega); have := hG 2 (by omega); have := hG 3 (by omega); have := hG 4 (by omega)
 unfold zcX zsD pN
 simp only [if_true, show (1 : Nat) ≠ 0 from by omega, show (2 : Nat) ≠ 0 from by omega, show (3 : Nat) ≠ 0 from by omega, show (4 : Nat) ≠ 0 from by omega, if_false]
 omega
theorem zBT (F G : Nat → Nat) (hG : okF G 5) : (zbr (zc4 (zcX F G)) 5 + zbr G 5) % pN = zbr F 5 % pN := by
 have h1 := ziS (zcX F G)
 have h2 := zyz F G hG
 have e : zbr (zc4 (zcX F G)) 5 + zbr G 5 + ovN (zcX F G) 5 * pN = zbr F 5 + 4 * pN := by omega
 rw [← Nat.add_mul_mod_self_right _ (ovN (zcX F G) 5), e, Nat.add_mul_mod_self_right]
theorem zBU (F G : Nat → Nat) : zbr (zc4 fun i => F i + G i) 5 % pN = (zbr F 5 + zbr G 5) % pN := by
 have h1 := ziS (fun i => F i + G i)
 have e : zbr (fun i => F i + G i) 5 = zbr F 5 + zbr G 5 := by rw [zaS, zaS, zaS]; omega
 rw [← e, ← h1, Nat.add_mul_mod_self_right]
theorem zAb (F : Nat → Nat) (hF : ∀ i, i < 5 → F i < 9223372036854775808) : okF (zc4 F) 5 := fun i hi => by
 have := zct F hF i hi
 omega
end
end Go.Proofs.YtcmmpiaogfnmoaaGreatDoor
