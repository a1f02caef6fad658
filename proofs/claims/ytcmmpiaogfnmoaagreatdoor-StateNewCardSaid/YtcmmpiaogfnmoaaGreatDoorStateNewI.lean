/- The document's wire, by computing. SHA-256 of the document, by computing: words, blocks. SHA-256 of the document, by computing: the sum. Sums with a key, of the document, by computing. The document's keys of keys (mac), by computing. The document's numbers modulo the prime, by computing: the prime's parts, which is less, folding. The document's sums, differences, products modulo the prime, by computing. The document's numbers of keys, and powers, by computing. The document's ladder, by computing. Layer 17's example, and what is plain about a member that is alone. The document's secrets of node -/
import Derived.Test.YtcmmpiaogfnmoaaGreatDoorStateNewH
set_option linter.unusedSimpArgs false
set_option linter.unusedVariables false
set_option maxRecDepth 200000
set_option maxHeartbeats 6000000
namespace Go.Proofs.YtcmmpiaogfnmoaaGreatDoor
section
open Go.RowKit
section
variable {X : List Nat} {w : World}
theorem zq1 (hX : ∀ k ∈ X, k < w.heap.size) (xs : List Nat) (q : Qd) (hq : St (SlQ ByT xs q) w X) (hl : xs.length * 1 ≤ 140737488355328) : Ct Tryz.prog 117 [.slice q.1 xs.length q.2] X w (.a (.s (.p (.hd 0 xs.length)))) [zba ByT xs 5] [.q 0 (zbS ByT xs)] := by
 have hbig := SlQ.big hq
 refine vFn (k0 := 1) (rs := [.tmp 2]) (svs := [.a (.s (.p (.hd 0 xs.length)))]) (R0 := [.sl 0 xs.length (SlF ByT xs)]) (hnQ [q]) Tryz.ntmps117 Tryz.func117 rfl rfl rfl rfl rfl zah (by kernel_rfl) hX (fun r hr => by
  rcases List.mem_singleton.1 hr with rfl; exact hq) ?_
 conv => whnf
 refine zia 2 (zBp (T := ByT) (e := 5) (ys := xs) (r := 0) (by_ := 1) zy6 rfl rfl rfl rfl ⟨by kernel_rfl, by kernel_rfl⟩ (by simpa using hbig) hl rfl rfl rfl) ?_
 conv => whnf
 exact zaK [(0, 2)] [0] (.inl rfl) ⟨.inl rfl, trivial⟩ rfl ⟨.inl rfl, trivial⟩
theorem zkW {Y : List Nat} {ps : List (List Nat)} {q : Qd} (hq : St (SlQ zat ps q) w Y) : ∀ p ∈ ps, ∀ x ∈ p, x < 256 := fun p hpm => by
 obtain ⟨mm, hm⟩ := zog zic hq
 obtain ⟨i, hi⟩ := List.mem_iff_getElem?.1 hpm
 obtain ⟨ad, _, _, h2⟩ := LiF.get hm hi
 exact h2.now.byt
theorem zvB {x c : Nat} {j : Int} {A : Int → Prop} (hc : j = (c : Int)) (h0 : c ≠ 0) (hx : x < 18446744073709551616) (h : A ((x / c : Nat) : Int)) : j ≠ 0 ∧ ∃ z, IntKind.u64.wrap ((x : Int).tdiv j) = z ∧ A z := ⟨by omega, _, by
 have : x / c ≤ x := Nat.div_le_self _ _
 rw [hc, ← Int.ofNat_tdiv]
 generalize x / c = y at this ⊢
 exact zq7 (by omega) (by omega), h⟩
theorem zd3 (W n : Nat) (hW : W ≤ 8) (hn : n < 18446744073709551616) (hX : ∀ k ∈ X, k < w.heap.size) : Ct Tryz.prog 62 [.int .i64 W, .int .u64 n] X w (.a (.s (.p (.hd 0 W)))) [.gone] [.sl 0 W (TxG (beL W n))] := by
 refine vFn (k0 := 0) (rs := [.tmp 4]) (svs := [zam .i64 W, zam .u64 n]) (R0 := []) (hnQ []) Tryz.ntmps62 Tryz.func62 rfl rfl rfl rfl rfl zah (by kernel_rfl) hX (fun r hr => by cases hr) ?_
 conv => whnf
 refine ⟨Nat, fun k l m R i => ⟨1, (1, zam .u64 ((n / 2 ^ (8 * i) : Nat) : Int)) :: (7, zam .i64 i) :: (5, .a (.s (.p (.hd 0 i)))) :: zaC [0, 4, 6] l, [], [.sl 0 i (TxG (beL i n))]⟩, fun i => i ≤ W, fun i => W - i, ⟨0, [], [0], Nat.zero_le _, ?_⟩, fun i hi => ?_⟩
 ·have := zxO n
  simp only [Nat.mul_zero, Nat.pow_zero, Nat.div_one, this]
  exact zaE (hR := ⟨.inr (ztz rfl), trivial⟩)
 have hbl := zdK i n
 have hdl : n / 2 ^ (8 * i) ≤ n := Nat.div_le_self _ _
 conv => whnf
 refine vIf (fun hc => ?_) fun hc => ?_
 ·have hi2 : i < W := by
   have : (i : Int) < (W : Int) := of_decide_eq_true hc
   omega
  conv => whnf
  refine zio (c := 256) rfl (by decide) ?_
  conv => whnf
  refine zb8 ?_
  conv => whnf
  refine zaI (zjj 2 (zxV (xs := [n / 2 ^ (8 * i) % 256 % 256]) (ys := beL i n) (r := 0) (e := 5) rfl (fun _ => rfl) rfl hbl.symm rfl rfl rfl rfl ⟨by kernel_rfl, by kernel_rfl⟩ (by rw [hbl]; simp; omega) rfl rfl) rfl (by rw [jQ, hbl]; simp; omega) ?_) ?_
  ·intro x hx
   rcases List.mem_cons.1 hx with rfl | hx
   ·omega
   ·exact zqi _ _ x hx
  conv => whnf
  refine zvB (c := 256) rfl (by decide) (by omega) ?_
  conv => whnf
  refine zbq (by omega) (by omega) ?_
  conv => whnf
  have e1 : n / 2 ^ (8 * i) / 256 = n / 2 ^ (8 * (i + 1)) := by rw [Nat.div_div_eq_div_mul, show 8 * (i + 1) = 8 * i + 8 by omega, Nat.pow_add]
  have e2 : [n / 2 ^ (8 * i) % 256 % 256] ++ beL i n = beL (i + 1) n := by rw [Nat.mod_mod, zxN]; rfl
  rw [e1, e2, zdK (i + 1)]
  exact ⟨i + 1, [(0, 2)], [0], ⟨hi2, Nat.sub_lt_sub_left hi2 (Nat.lt_succ_self i)⟩, zaE⟩
 have hi8 : i = W := by
   have : ¬ (i : Int) < (W : Int) := of_decide_eq_false hc
   omega
 subst hi8
 conv => whnf
 exact zaK [(0, 0)] [0] (.inl rfl) trivial rfl ⟨.inl rfl, trivial⟩
theorem zq2 {m0 : List Nat} {ts : List (List Nat)} {q q2 : Qd} (hok : okT ts) (hm0 : m0.length ≤ 100000000) (hts : ts.length ≤ 1000000) (hX : ∀ k ∈ X, k < w.heap.size) (hA : St (TxQ m0 q) w X) (hL : St (SlQ zat ts q2) w X) : Ct Tryz.prog 92 [.slice q.1 m0.length q.2, .slice q2.1 ts.length q2.2] X w (.tup [.s (.p (.hd 0 (m0 ++ zcz ts).length)), .s (.p (.v (.int .i64 0)))]) [.gone] [.sl 0 (m0 ++ zcz ts).length (TxG (m0 ++ zcz ts))] := by
 refine vFn (k0 := 2) (rs := [.tmp 4, .tmp 5]) (svs := [.a (.s (.p (.hd 0 m0.length))), .a (.s (.p (.hd 1 ts.length)))]) (R0 := [.sl 0 m0.length (TxG m0), .sl 1 ts.length (SlF zat ts)]) (hnQ [q, q2]) Tryz.ntmps92 Tryz.func92 rfl rfl rfl rfl rfl zah (by kernel_rfl) hX (fun r hr => by
  rcases List.mem_cons.1 hr with rfl | hr
  ·exact hA
  ·rcases List.mem_singleton.1 hr with rfl; exact hL) ?_
 conv => whnf
 refine zac rfl rfl rfl (by kernel_rfl) (fun h X w H => zq1 H.xk m0 _ (zpU (H.fact 0 rfl)) (by omega)) rfl rfl rfl ?_
 conv => whnf
 refine ⟨Nat × List Nat, fun k l m R g => ⟨3, (13, zam .i64 g.1) :: (6, .a (.s (.p (.hd 2 g.2.length)))) :: zaC [1, 11, 12] l, [(2, zdI g.2 5)], [.sl 1 ts.length (SlF zat ts)]⟩, fun g => g.1 ≤ ts.length ∧ g.2 = m0 ++ zcz (ts.take g.1), fun g => ts.length - g.1, ⟨(0, m0), [], [2], ⟨Nat.zero_le _, (List.append_nil _).symm⟩, zaE⟩, fun g hg => ?_⟩
 obtain ⟨i, out⟩ := g
 obtain ⟨hi, hout⟩ : i ≤ ts.length ∧ out = m0 ++ zcz (ts.take i) := hg
 have hol : out.length ≤ 100000000 + 65537 * i := by
  have h1 := zkR (ts.take i) fun t ht => hok t (List.mem_of_mem_take ht)
  rw [List.length_take, Nat.min_eq_left hi] at h1
  rw [hout, jQ]
  omega
 conv => whnf
 refine vIf (fun hc => ?_) fun hc => ?_
 ·have hi2 : i < ts.length := by
   have : (i : Int) < ((ts.length : Nat) : Int) := by simpa [Sl.len] using hc
   omega
  obtain ⟨x, hxi⟩ : ∃ x, ts[i]? = some x := ⟨_, jP hi2⟩
  have hxl := hok x (List.mem_of_getElem? hxi)
  have hE : out ++ beL 2 x.length ++ x = m0 ++ zcz (ts.take (i + 1)) := by rw [hout, zns hxi]; simp only [List.append_assoc]
  conv => whnf
  refine ⟨i, ⟨rfl, hi2, hi2⟩, ?_⟩
  conv => whnf
  refine zbH (ztv (x := x) 0 hxi rfl rfl rfl (by kernel_rfl)) rfl rfl ?_
  conv => whnf
  refine vF (decide_eq_false (by show ¬ (((x.length : Nat) : Int) > 65535); omega)) ?_
  conv => whnf
  refine zwc (by omega) (by show ((x.length : Nat) : Int) ≤ _; omega) ?_
  conv => whnf
  refine zac rfl rfl rfl (by kernel_rfl) (fun h X w H => zd3 2 x.length (by decide) (by omega) H.xk) rfl rfl rfl ?_
  conv => whnf
  refine zaI (zgM (xs := out) (ys := beL 2 x.length) (r := 0) (e := 5) rfl rfl (zdK _ _).symm rfl rfl rfl ⟨by kernel_rfl, by kernel_rfl⟩ (by rw [zdK]; omega) rfl rfl) ?_
  obtain ⟨o1, ho1⟩ : ∃ o1, o1 = out ++ beL 2 x.length := ⟨_, rfl⟩
  have ho1l : o1.length = out.length + 2 := by rw [ho1, jQ, zdK]
  rw [← ho1] at hE ⊢
  conv => whnf
  refine zaI (zgM (xs := o1) (ys := x) (r := 1) (e := 5) rfl rfl rfl rfl rfl rfl ⟨by kernel_rfl, by kernel_rfl⟩ (by omega) rfl rfl) ?_
  conv => whnf
  refine zbq (by omega) (by omega) ?_
  conv => whnf
  exact ⟨(i + 1, o1 ++ x), [(2, 6)], [2], ⟨⟨hi2, hE⟩, Nat.sub_lt_sub_left hi2 (Nat.lt_succ_self i)⟩, zaE⟩
 have hi8 : i = ts.length := by
   have : ¬ (i : Int) < ((ts.length : Nat) : Int) := by simpa [Sl.len] using hc
   omega
 subst hi8
 rw [List.take_length] at hout
 conv => whnf
 rw [← hout]
 refine zkj (xs := out) 2 rfl (by omega) (fun x hx => ?_) rfl ?_
 ·rw [hout] at hx
  exact (List.mem_append.1 hx).elim (hA.now.2.byt x) (znt ts (zkW hL) x)
 exact zaK [(0, 2)] [0] (.inl rfl) trivial rfl ⟨.inl rfl, trivial⟩
end
end
section
open Go.RowKit
section
variable {x y k : Nat} {j : Int} {A : Int → Prop}
theorem zmW (h : A ((zzr x k : Nat) : Int)) : ∃ z, IntKind.u32.wrap ((x : Int) * ((k : Nat) : Int)) = z ∧ A z := ⟨_, by rw [← Int.natCast_mul, zfu]; rfl, h⟩
end
section
variable {X : List Nat} {w : World} {x n a b c : Nat}
theorem zyB {P : Program} {N : Nat} {l : LE} {m : MB} {R : List SF} {o : Oper} {t : TypeId} {xop : Operand} (ho : o.op = .unOp .xor t xop) (hx : evS l xop = some (wS x)) : zfk P N l m R o (wS (zuH x)) := fun h X a w E H => by
 have e : IntKind.u32.wrap (((BitVec.ofInt 32 ((4294967295 : Nat) : Int) ^^^ BitVec.ofInt 32 (x : Int)).toNat : Nat) : Int) = ((zuH x : Nat) : Int) := by
  rw [zCS]; unfold zuH zcA; rw [Nat.xor_comm]
 have h0 : Op.intBits BinOp.xor IntKind.u32 (if IntKind.u32.signed = true then -1 else IntKind.u32.max) ((x : Nat) : Int) = pure (u32 (zuH x)) := congrArg (fun z => (pure (Value.int .u32 z) : Sem Value)) e
 have h1 : ev (zcd h l) xop = some (u32 x) := zaf (h := h) hx
 unfold execOp; rw [ho]; simp only [E.ev h1, Op.unary, h0, Sem.run_bind, Sem.run_pure, Result.andThen_ok]
 rfl
theorem zEq {P : Program} {N g t ty : Nat} {gt : Nat → Nat} {l : LE} {m : MB} {R : List SF} {o : Oper} {xop : Operand} (r : Nat) (hr : R[r]? = some (.c (zbm gt g))) (ht2 : t < 64) (ho : o.op = .load ty xop) (hx : evS l xop = some (zsy ((⟨g, 0, none⟩ : Addr).add (t * 1)))) (ht : tyK P ty = some (1, false)) : zfk P N l m R o (wS (gt t)) := fun h X a w E H => by
 have hG : zbm gt g w := (H.facts _ (zaQ.2 ⟨_, List.mem_of_getElem? hr, rfl⟩)).now
 refine za0 E ho (zaf (h := h) hx) ht fun j u hu => ?_
 match j with
 | 0 =>
  obtain rfl := Option.some.inj hu
  have := hG t (u32 (gt t)) (by simp [cl, Chunk.cells, ht2])
  rw [Nat.mul_one, zav]
  exact this
 | j + 1 => simp [cl, Chunk.cells] at hu
theorem zfs (hX : ∀ k ∈ X, k < w.heap.size) (h1 : 1 ≤ n) (h2 : n < 32) : Ct Tryz.prog 156 [u32 x, .int .i64 n] X w (wS (zek x n)) [] [] := by
 refine vFn (k0 := 0) (rs := [.tmp 4]) (svs := [wS x, zam .i64 n]) (R0 := []) (hnQ []) Tryz.ntmps156 Tryz.func156 rfl rfl rfl rfl rfl zah (by kernel_rfl) hX (fun r hr => by cases hr) ?_
 conv => whnf
 refine zas 7 [] (by kernel_rfl) ?_
 conv => whnf
 refine zrW rfl ?_
 conv => whnf
 refine za5 (show (32 : Int) - (n : Int) = ((32 - n : Nat) : Int) by omega) (by omega) (by omega) ?_
 conv => whnf
 refine zlW rfl ?_
 conv => whnf
 refine zoW ?_
 conv => whnf
 exact zag rfl
def zFU (k : List Nat) (i : Nat) : RB := .blk [.row 64 fun j => u32 (zkG k i j)] 199
theorem zvC {bk : List Nat} {q : Qd} (hl : bk.length = 64) (hX : ∀ k ∈ X, k < w.heap.size) (hq : St (TxQ bk q) w X) : Ct Tryz.prog 155 [.slice q.1 bk.length q.2] X w (.a (.agg [.row 64 fun j => u32 (zkG bk 64 j)])) [] [] := by
 have hg : ∀ i, i < 64 → bk[i]? = some (bk.getD i 0) := fun i hi => zfB 0 (by omega)
 refine vFn (k0 := 1) (rs := [.cell 2 199]) (svs := [.a (.s (.p (.hd 0 bk.length)))]) (R0 := [.sl 0 bk.length (TxG bk)]) (hnQ [q]) Tryz.ntmps155 Tryz.func155 rfl rfl rfl rfl rfl zah (by kernel_rfl) hX (fun r hr => by rcases List.mem_singleton.1 hr with rfl; exact hq) ?_
 conv => whnf
 refine ⟨Nat, fun k l m R i => ⟨k, (10, zam .i64 i) :: zaC [0, 2, 3] l, (2, zFU bk i) :: m, R⟩, fun i => i ≤ 16, fun i => 16 - i, ⟨0, [], [0], Nat.zero_le _, zaE⟩, fun i hi => ?_⟩
 conv => whnf
 refine vIf (fun hc => ?_) fun hc => ?_
 ·have hi2 : i < 16 := by
   have : (i : Int) < 16 := of_decide_eq_true hc
   omega
  conv => whnf
  refine zas 34 [] (by kernel_rfl) ?_
  conv => whnf
  refine za5 (show (4 : Int) * (i : Int) = ((4 * i : Nat) : Int) by omega) (by omega) (by omega) ?_
  conv => whnf
  refine ⟨4 * i, ⟨rfl, by omega, by omega⟩, ?_⟩
  conv => whnf
  refine zbD (zez 0 (hg (4 * i) (by omega)) rfl rfl rfl (by kernel_rfl)) ?_
  conv => whnf
  refine zzm ?_
  conv => whnf
  refine zmW ?_
  conv => whnf
  refine za5 (show (4 : Int) * (i : Int) = ((4 * i : Nat) : Int) by omega) (by omega) (by omega) ?_
  conv => whnf
  refine za5 (show ((4 * i : Nat) : Int) + 1 = ((4 * i + 1 : Nat) : Int) by omega) (by omega) (by omega) ?_
  conv => whnf
  refine ⟨4 * i + 1, ⟨rfl, by omega, by omega⟩, ?_⟩
  conv => whnf
  refine zbD (zez 0 (hg (4 * i + 1) (by omega)) rfl rfl rfl (by kernel_rfl)) ?_
  conv => whnf
  refine zzm ?_
  conv => whnf
  refine zmW ?_
  conv => whnf
  refine zaW ?_
  conv => whnf
  refine za5 (show (4 : Int) * (i : Int) = ((4 * i : Nat) : Int) by omega) (by omega) (by omega) ?_
  conv => whnf
  refine za5 (show ((4 * i : Nat) : Int) + 2 = ((4 * i + 2 : Nat) : Int) by omega) (by omega) (by omega) ?_
  conv => whnf
  refine ⟨4 * i + 2, ⟨rfl, by omega, by omega⟩, ?_⟩
  conv => whnf
  refine zbD (zez 0 (hg (4 * i + 2) (by omega)) rfl rfl rfl (by kernel_rfl)) ?_
  conv => whnf
  refine zzm ?_
  conv => whnf
  refine zmW ?_
  conv => whnf
  refine zaW ?_
  conv => whnf
  refine za5 (show (4 : Int) * (i : Int) = ((4 * i : Nat) : Int) by omega) (by omega) (by omega) ?_
  conv => whnf
  refine za5 (show ((4 * i : Nat) : Int) + 3 = ((4 * i + 3 : Nat) : Int) by omega) (by omega) (by omega) ?_
  conv => whnf
  refine ⟨4 * i + 3, ⟨rfl, by omega, by omega⟩, ?_⟩
  conv => whnf
  refine zbD (zez 0 (hg (4 * i + 3) (by omega)) rfl rfl rfl (by kernel_rfl)) ?_
  conv => whnf
  refine zzm ?_
  conv => whnf
  refine zaW ?_
  conv => whnf
  refine ⟨i, ⟨rfl, by omega⟩, .inr ?_⟩
  conv => whnf
  refine zao (zfA (fun j => u32 (zkG bk (i + 1) j)) rfl rfl rfl rfl rfl rfl (by omega) (by rw [zBr bk hi2]; exact znf bk i)) ?_
  conv => whnf
  refine zbq (by omega) (by omega) ?_
  conv => whnf
  exact ⟨i + 1, [], [0], ⟨hi2, Nat.sub_lt_sub_left hi2 (Nat.lt_succ_self i)⟩, zaE⟩
 have hi16 : i = 16 := by
   have : ¬ (i : Int) < 16 := of_decide_eq_false hc
   omega
 subst hi16
 conv => whnf
 refine ⟨Nat, fun k l m R i => ⟨k, (5, zam .i64 i) :: zaC [2, 3] l, (2, zFU bk i) :: m, []⟩, fun i => 16 ≤ i ∧ i ≤ 64, fun i => 64 - i, ⟨16, [], [], ⟨jV _, by decide⟩, zaE⟩, fun i hi => ?_⟩
 obtain ⟨h16, hi⟩ : 16 ≤ i ∧ i ≤ 64 := hi
 conv => whnf
 refine vIf (fun hc => ?_) fun hc => ?_
 ·have hi2 : i < 64 := by
   have : (i : Int) < 64 := of_decide_eq_true hc
   omega
  conv => whnf
  refine za5 (show (i : Int) - 15 = ((i - 15 : Nat) : Int) by omega) (by omega) (by omega) ?_
  conv => whnf
  refine ⟨i - 15, ⟨rfl, by omega⟩, .inr ?_⟩
  conv => whnf
  refine ⟨by omega, ?_⟩
  conv => whnf
  refine za5 (show (i : Int) - 2 = ((i - 2 : Nat) : Int) by omega) (by omega) (by omega) ?_
  conv => whnf
  refine ⟨i - 2, ⟨rfl, by omega⟩, .inr ?_⟩
  conv => whnf
  refine ⟨by omega, ?_⟩
  conv => whnf
  refine zac rfl rfl rfl (by kernel_rfl) (fun h X w H => zfs (n := 7) H.xk (by decide) (by decide)) rfl rfl rfl ?_
  conv => whnf
  refine zac rfl rfl rfl (by kernel_rfl) (fun h X w H => zfs (n := 18) H.xk (by decide) (by decide)) rfl rfl rfl ?_
  conv => whnf
  refine zxW ?_
  conv => whnf
  refine zrW rfl ?_
  conv => whnf
  refine zxW ?_
  conv => whnf
  refine zac rfl rfl rfl (by kernel_rfl) (fun h X w H => zfs (n := 17) H.xk (by decide) (by decide)) rfl rfl rfl ?_
  conv => whnf
  refine zac rfl rfl rfl (by kernel_rfl) (fun h X w H => zfs (n := 19) H.xk (by decide) (by decide)) rfl rfl rfl ?_
  conv => whnf
  refine zxW ?_
  conv => whnf
  refine zrW rfl ?_
  conv => whnf
  refine zxW ?_
  conv => whnf
  refine zas 14 [] (by kernel_rfl) ?_
  conv => whnf
  refine za5 (show (i : Int) - 16 = ((i - 16 : Nat) : Int) by omega) (by omega) (by omega) ?_
  conv => whnf
  refine ⟨i - 16, ⟨rfl, by omega⟩, .inr ?_⟩
  conv => whnf
  refine ⟨by omega, ?_⟩
  conv => whnf
  refine zaW ?_
  conv => whnf
  refine za5 (show (i : Int) - 7 = ((i - 7 : Nat) : Int) by omega) (by omega) (by omega) ?_
  conv => whnf
  refine ⟨i - 7, ⟨rfl, by omega⟩, .inr ?_⟩
  conv => whnf
  refine ⟨by omega, ?_⟩
  conv => whnf
  refine zaW ?_
  conv => whnf
  refine zaW ?_
  conv => whnf
  refine ⟨i, ⟨rfl, by omega⟩, .inr ?_⟩
  conv => whnf
  refine zao (zfA (fun j => u32 (zkG bk (i + 1) j)) rfl rfl rfl rfl rfl rfl (by omega) (by rw [zx1 bk h16]; exact znf bk i)) ?_
  conv => whnf
  refine zbq (by omega) (by omega) ?_
  conv => whnf
  exact ⟨i + 1, [], [], ⟨⟨by omega, hi2⟩, Nat.sub_lt_sub_left hi2 (Nat.lt_succ_self i)⟩, zaE⟩
 have hi64 : i = 64 := by
   have : ¬ (i : Int) < 64 := of_decide_eq_false hc
   omega
 subst hi64
 conv => whnf
 refine ⟨fun i _ => rfl, ?_⟩
 conv => whnf
 exact zag rfl
theorem zEr (gt v : Nat → Nat) (k : List Nat) {t : Nat} (ht : t < 64) : zb0 (zb0 (zb0 (zb0 (zb0 (v 7) (zcA (zcA (zek (v 4) 6) (zek (v 4) 11)) (zek (v 4) 25))) (zcA (zem (v 4) (v 5)) (zem (zuH (v 4)) (v 6)))) (gt t)) (zkG k 64 t)) (zb0 (zcA (zcA (zek (v 0) 2) (zek (v 0) 13)) (zek (v 0) 22)) (zcA (zcA (zem (v 0) (v 1)) (zem (v 0) (v 2))) (zem (v 1) (v 2)))) = zgp v (t1R gt k v t) (t2R v) 0 := by
 rw [zzu gt k v ht, zDQ, zt1]
theorem zEs (gt v : Nat → Nat) (k : List Nat) {t : Nat} (ht : t < 64) : zb0 (v 3) (zb0 (zb0 (zb0 (zb0 (v 7) (zcA (zcA (zek (v 4) 6) (zek (v 4) 11)) (zek (v 4) 25))) (zcA (zem (v 4) (v 5)) (zem (zuH (v 4)) (v 6)))) (gt t)) (zkG k 64 t)) = zgp v (t1R gt k v t) (t2R v) 4 := by
 rw [zzu gt k v ht, zt2]
theorem zvD {bk : List Nat} {q : Qd} {gt hh : Nat → Nat} (hl : bk.length = 64) (hX : ∀ k ∈ X, k < w.heap.size) (hq : St (TxQ bk q) w X) (hG : St (zbm gt 0) w X) : Ct Tryz.prog 122 [.agg (ca [.row 8 fun i => u32 (hh i)]), .slice q.1 bk.length q.2] X w (.a (.agg [.row 8 fun i => u32 (zqp gt hh bk i)])) [] [] := by
 refine vFn (k0 := 1) (rs := [.cell 4 148]) (svs := [.a (.agg [.row 8 fun i => u32 (hh i)]), .a (.s (.p (.hd 0 bk.length)))]) (R0 := [.sl 0 bk.length (TxG bk), .c (zbm gt 0)]) (hnQ [q]) Tryz.ntmps122 Tryz.func122 rfl rfl rfl rfl rfl zah (by kernel_rfl) hX (fun r hr => by
  rcases List.mem_cons.1 hr with rfl | hr
  ·exact hq
  ·rcases List.mem_singleton.1 hr with rfl; exact hG) ?_
 conv => whnf
 refine zac rfl rfl rfl (by kernel_rfl) (fun h X w H => zvC hl H.xk (H.fact 0 rfl)) rfl rfl rfl ?_
 conv => whnf
 refine ⟨fun i _ => rfl, ?_⟩
 conv => whnf
 refine ⟨fun i _ => rfl, ?_⟩
 conv => whnf
 refine ⟨Nat × (Nat → Nat), fun k l m R g => ⟨k, (16, zam .i64 g.1) :: zaC [2, 4, 5, 6] l, (4, .blk [.row 8 fun i => u32 (g.2 i)] 148) :: m, [.c (zbm gt 0)]⟩, fun g => g.1 ≤ 64 ∧ g.2 = vR gt bk hh g.1, fun g => 64 - g.1, ⟨(0, hh), [], [1], ⟨Nat.zero_le _, rfl⟩, zaE⟩, fun g hg => ?_⟩
 obtain ⟨t, v⟩ := g
 obtain ⟨ht, hM⟩ : t ≤ 64 ∧ v = vR gt bk hh t := hg
 conv => whnf
 refine vIf (fun hc => ?_) fun hc => ?_
 ·have ht2 : t < 64 := by
   have : (t : Int) < 64 := of_decide_eq_true hc
   omega
  conv => whnf
  refine zas 5 [] (by kernel_rfl) ?_
  conv => whnf
  refine ⟨0, ⟨rfl, by decide⟩, .inl ?_⟩
  conv => whnf
  refine ⟨4, ⟨rfl, by decide⟩, .inl ?_⟩
  conv => whnf
  refine zas 29 [] (by kernel_rfl) ?_
  conv => whnf
  refine ⟨7, ⟨rfl, by decide⟩, .inl ?_⟩
  conv => whnf
  refine zaq (zaa (rs := []) (Rs := []) rfl rfl rfl (by kernel_rfl) rfl fun h X w H => zfs (n := 6) H.xk (by decide) (by decide)) ?_
  conv => whnf
  refine zaq (zaa (rs := []) (Rs := []) rfl rfl rfl (by kernel_rfl) rfl fun h X w H => zfs (n := 11) H.xk (by decide) (by decide)) ?_
  conv => whnf
  refine zxW ?_
  conv => whnf
  refine zaq (zaa (rs := []) (Rs := []) rfl rfl rfl (by kernel_rfl) rfl fun h X w H => zfs (n := 25) H.xk (by decide) (by decide)) ?_
  conv => whnf
  refine zxW ?_
  conv => whnf
  refine zaW ?_
  conv => whnf
  refine ⟨5, ⟨rfl, by decide⟩, .inl ?_⟩
  conv => whnf
  refine znW ?_
  conv => whnf
  refine zbD (zyB rfl rfl) ?_
  conv => whnf
  refine ⟨6, ⟨rfl, by decide⟩, .inl ?_⟩
  conv => whnf
  refine znW ?_
  conv => whnf
  refine zxW ?_
  conv => whnf
  refine zaW ?_
  conv => whnf
  refine ⟨t, ⟨rfl, ht2⟩, ?_⟩
  conv => whnf
  refine zbD (zEq 0 rfl ht2 rfl rfl (by kernel_rfl)) ?_
  conv => whnf
  refine zaW ?_
  conv => whnf
  refine ⟨t, ⟨rfl, ht2⟩, .inr ?_⟩
  conv => whnf
  refine ⟨ht2, ?_⟩
  conv => whnf
  refine zaW ?_
  conv => whnf
  refine zas 23 [] (by kernel_rfl) ?_
  conv => whnf
  refine zaq (zaa (rs := []) (Rs := []) rfl rfl rfl (by kernel_rfl) rfl fun h X w H => zfs (n := 2) H.xk (by decide) (by decide)) ?_
  conv => whnf
  refine zaq (zaa (rs := []) (Rs := []) rfl rfl rfl (by kernel_rfl) rfl fun h X w H => zfs (n := 13) H.xk (by decide) (by decide)) ?_
  conv => whnf
  refine zxW ?_
  conv => whnf
  refine zaq (zaa (rs := []) (Rs := []) rfl rfl rfl (by kernel_rfl) rfl fun h X w H => zfs (n := 22) H.xk (by decide) (by decide)) ?_
  conv => whnf
  refine zxW ?_
  conv => whnf
  refine ⟨1, ⟨rfl, by decide⟩, .inl ?_⟩
  conv => whnf
  refine znW ?_
  conv => whnf
  refine ⟨2, ⟨rfl, by decide⟩, .inl ?_⟩
  conv => whnf
  refine znW ?_
  conv => whnf
  refine zxW ?_
  conv => whnf
  refine ⟨1, ⟨rfl, by decide⟩, .inl ?_⟩
  conv => whnf
  refine ⟨2, ⟨rfl, by decide⟩, .inl ?_⟩
  conv => whnf
  refine znW ?_
  conv => whnf
  refine zxW ?_
  conv => whnf
  refine zaW ?_
  conv => whnf
  refine zaW ?_
  conv => whnf
  refine ⟨0, ⟨rfl, by decide⟩, .inl ?_⟩
  conv => whnf
  refine ⟨1, ⟨rfl, by decide⟩, .inl ?_⟩
  conv => whnf
  refine ⟨2, ⟨rfl, by decide⟩, .inl ?_⟩
  conv => whnf
  refine ⟨3, ⟨rfl, by decide⟩, .inl ?_⟩
  conv => whnf
  refine zaW ?_
  conv => whnf
  refine ⟨4, ⟨rfl, by decide⟩, .inl ?_⟩
  conv => whnf
  refine ⟨5, ⟨rfl, by decide⟩, .inl ?_⟩
  conv => whnf
  refine ⟨6, ⟨rfl, by decide⟩, .inl ?_⟩
  conv => whnf
  refine ⟨fun i => u32 (zgp v (t1R gt bk v t) (t2R v) i), ⟨congrArg u32 (zEr gt v bk ht2).symm, rfl, rfl, rfl, congrArg u32 (zEs gt v bk ht2).symm, rfl, rfl, rfl, trivial⟩, ?_⟩
  conv => whnf
  refine ⟨fun i _ => rfl, ?_⟩
  conv => whnf
  refine zbq (by omega) (by omega) ?_
  conv => whnf
  exact ⟨(t + 1, zgp v (t1R gt bk v t) (t2R v)), [], [0], ⟨⟨ht2, zBs hM⟩, Nat.sub_lt_sub_left ht2 (Nat.lt_succ_self t)⟩, zaE⟩
 have hi64 : t = 64 := by
   have : ¬ (t : Int) < 64 := of_decide_eq_false hc
   omega
 subst hi64
 conv => whnf
 refine ⟨Nat, fun k l m R i => ⟨k, (98, zam .i64 i) :: zaC [2, 4, 6] l, (1, .blk [.row 8 fun j => u32 (zrr hh v i j)] 148) :: m, []⟩, fun i => i ≤ 8, fun i => 8 - i, ⟨0, [], [], Nat.zero_le _, zaE⟩, fun i hi => ?_⟩
 conv => whnf
 refine vIf (fun hc => ?_) fun hc => ?_
 ·have hi2 : i < 8 := by
   have : (i : Int) < 8 := of_decide_eq_true hc
   omega
  conv => whnf
  refine zas 6 [] (by kernel_rfl) ?_
  conv => whnf
  refine ⟨i, ⟨rfl, hi2⟩, .inr ?_⟩
  conv => whnf
  refine ⟨hi2, ?_⟩
  conv => whnf
  refine ⟨i, ⟨rfl, hi2⟩, .inr ?_⟩
  conv => whnf
  refine ⟨hi2, ?_⟩
  conv => whnf
  refine zaW ?_
  conv => whnf
  refine ⟨i, ⟨rfl, hi2⟩, .inr ?_⟩
  conv => whnf
  refine zao (zfA (fun j => u32 (zrr hh v (i + 1) j)) rfl rfl rfl rfl rfl rfl hi2 (by rw [zt4]; exact zmY hh v i)) ?_
  conv => whnf
  refine zbq (by omega) (by omega) ?_
  conv => whnf
  exact ⟨i + 1, [], [], ⟨hi2, Nat.sub_lt_sub_left hi2 (Nat.lt_succ_self i)⟩, zaE⟩
 have hi8 : i = 8 := by
   have : ¬ (i : Int) < 8 := of_decide_eq_false hc
   omega
 subst hi8
 conv => whnf
 refine ⟨fun i _ => rfl, ?_⟩
 conv => whnf
 refine zag ?_
 rw [zqp, ← hM]
 rfl
end
end
section
open Go.RowKit
section
variable {X : List Nat} {w : World} {q : Qd}
theorem zrV {kk : List Nat} (hl : kk.length ≤ 1000000000000) (hX : ∀ k ∈ X, k < w.heap.size) (hq : St (TxQ kk q) w X) : Ct Tryz.prog 119 [.slice q.1 kk.length q.2] X w (.a (.s (.p (.hd 0 (kk ++ zfE kk.length).length)))) [.gone] [.sl 0 (kk ++ zfE kk.length).length (TxG (kk ++ zfE kk.length))] := by
 refine vFn (k0 := 1) (rs := [.tmp 2]) (svs := [.a (.s (.p (.hd 0 kk.length)))]) (R0 := [.sl 0 kk.length (TxG kk)]) (hnQ [q]) Tryz.ntmps119 Tryz.func119 rfl rfl rfl rfl rfl zah (by kernel_rfl) hX (fun r hr => by rcases List.mem_singleton.1 hr with rfl; exact hq) ?_
 conv => whnf
 refine zac rfl rfl rfl (by kernel_rfl) (fun h X w H => zq1 H.xk kk _ (zpU (H.fact 0 rfl)) (by omega)) rfl rfl rfl ?_
 conv => whnf
 refine zaI (zon (xs := kk) (b := 128) (kk ++ [128]) rfl rfl rfl rfl rfl rfl rfl ⟨by kernel_rfl, by kernel_rfl⟩ (by omega) rfl rfl rfl) ?_
 conv => whnf
 refine ⟨Nat × List Nat, fun k l m R g => ⟨2, (3, .a (.s (.p (.hd 1 g.2.length)))) :: zaC [0] l, [(1, zdI g.2 5)], [.sl 0 kk.length (TxG kk)]⟩, fun g => g.1 ≤ 63 - (kk.length + 8) % 64 ∧ g.2 = kk ++ 128 :: List.replicate g.1 0, fun g => 64 - g.1, ⟨(0, kk ++ [128]), [(1, 3)], [1], ⟨Nat.zero_le _, rfl⟩, zaE⟩, fun g hg => ?_⟩
 obtain ⟨j, out⟩ := g
 obtain ⟨hj, hout⟩ : j ≤ 63 - (kk.length + 8) % 64 ∧ out = kk ++ 128 :: List.replicate j 0 := hg
 have hjl : out.length = kk.length + 1 + j := by rw [hout, jQ, List.length_cons, List.length_replicate]; omega
 conv => whnf
 refine zio (c := 64) rfl (by decide) ?_
 conv => whnf
 have e1 : (((Sl.hd 1 (j, out).snd.length).len % 64 : Nat) : Int) = (((kk.length + 1 + j) % 64 : Nat) : Int) := by
  show ((out.length % 64 : Nat) : Int) = _
  rw [hjl]
 rw [e1]
 refine vIf (fun hc => ?_) fun hc => ?_
 ·have hne : (kk.length + 1 + j) % 64 ≠ 56 := by
   have h := bne_iff_ne.1 hc
   omega
  conv => whnf
  refine zaI (zon (xs := out) (b := 0) (out ++ [0]) rfl rfl rfl rfl rfl rfl rfl ⟨by kernel_rfl, by kernel_rfl⟩ (by omega) rfl rfl rfl) ?_
  conv => whnf
  exact ⟨(j + 1, out ++ [0]), [(1, 3)], [0], ⟨⟨by omega, by show out ++ [0] = _; rw [hout, List.replicate_succ', List.append_assoc]; rfl⟩, Nat.sub_lt_sub_left (by omega) (Nat.lt_succ_self j)⟩, zaE⟩
 have heq : (kk.length + 1 + j) % 64 = 56 := by
  have h := bne_eq_false_iff_eq.1 hc
  omega
 obtain rfl : j = 63 - (kk.length + 8) % 64 := by omega
 have et : out ++ beL 8 (8 * kk.length) = kk ++ zfE kk.length := by
  rw [hout, zfE, zrt, zDR, show kk.length * 2 ^ 3 % 18446744073709551616 = 8 * kk.length from by omega, List.append_assoc]
 conv => whnf
 refine zwc (by omega) (by show ((kk.length : Nat) : Int) ≤ _; omega) ?_
 conv => whnf
 refine zAL (show (8 : Int) * ((kk.length : Nat) : Int) = ((8 * kk.length : Nat) : Int) by omega) (by show (0 : Int) ≤ 8 * ((kk.length : Nat) : Int); omega) (by show 8 * ((kk.length : Nat) : Int) ≤ _; omega) ?_
 conv => whnf
 refine zac rfl rfl rfl (by kernel_rfl) (fun h X w H => zd3 8 (8 * kk.length) (by decide) (by omega) H.xk) rfl rfl rfl ?_
 conv => whnf
 refine zaI (zgM (xs := out) (ys := beL 8 (8 * kk.length)) (r := 0) (e := 5) rfl rfl (zdK _ _).symm rfl rfl rfl ⟨by kernel_rfl, by kernel_rfl⟩ (by rw [zdK]; omega) rfl rfl) ?_
 rw [et]
 conv => whnf
 refine zkj (xs := kk ++ zfE kk.length) 3 rfl (by have := zng kk.length; rw [jQ]; omega) (fun x hx => (List.mem_append.1 hx).elim (hq.now.2.byt x) (zjt _ x)) rfl ?_
 exact zaK [(0, 3)] [0] (.inl rfl) trivial rfl ⟨.inl rfl, trivial⟩
theorem zvE {ps : List (List Nat)} (hfl : ps.flatten.length ≤ 1000000000000) (hX : ∀ k ∈ X, k < w.heap.size) (hq : St (SlQ zat ps q) w X) : Ct Tryz.prog 120 [.slice q.1 ps.length q.2] X w (.a (.s (.p (.hd 0 ps.flatten.length)))) [.gone] [.sl 0 ps.flatten.length (TxG ps.flatten)] := by
 have hbig := SlQ.big hq
 refine vFn (k0 := 1) (rs := [.tmp 2]) (svs := [.a (.s (.p (.hd 0 ps.length)))]) (R0 := [.sl 0 ps.length (SlF zat ps)]) (hnQ [q]) Tryz.ntmps120 Tryz.func120 rfl rfl rfl rfl rfl zah (by kernel_rfl) hX (fun r hr => by rcases List.mem_singleton.1 hr with rfl; exact hq) ?_
 conv => whnf
 refine ⟨Nat × List Nat, fun k l m R g => ⟨2, (8, zam .i64 g.1) :: (3, .a (.s (.p (.hd 1 g.2.length)))) :: zaC [6, 7] l, [(1, zdI g.2 5)], [.sl 0 ps.length (SlF zat ps)]⟩, fun g => g.1 ≤ ps.length ∧ g.2 = (ps.take g.1).flatten, fun g => ps.length - g.1, ⟨(0, []), [], [0], ⟨Nat.zero_le _, rfl⟩, zaE⟩, fun g hg => ?_⟩
 obtain ⟨i, out⟩ := g
 obtain ⟨hi, hout⟩ : i ≤ ps.length ∧ out = (ps.take i).flatten := hg
 have hol : out.length ≤ ps.flatten.length := by rw [hout]; exact zuK ps i
 conv => whnf
 refine vIf (fun hc => ?_) fun hc => ?_
 ·have hi2 : i < ps.length := by
   have : (i : Int) < ((ps.length : Nat) : Int) := by simpa [Sl.len] using hc
   omega
  obtain ⟨x, hxi⟩ : ∃ x, ps[i]? = some x := ⟨_, jP hi2⟩
  have hE : out ++ x = (ps.take (i + 1)).flatten := by rw [hout, zrE hxi]
  have hol2 : (out ++ x).length ≤ ps.flatten.length := by rw [hE]; exact zuK ps (i + 1)
  conv => whnf
  refine ⟨i, ⟨rfl, hi2, hi2⟩, ?_⟩
  conv => whnf
  refine zbH (ztv (x := x) 0 hxi rfl rfl rfl (by kernel_rfl)) rfl rfl ?_
  conv => whnf
  refine zaI (zgM (xs := out) (ys := x) (r := 0) (e := 5) rfl rfl rfl rfl rfl rfl ⟨by kernel_rfl, by kernel_rfl⟩ (by rw [← jQ]; omega) rfl rfl) ?_
  conv => whnf
  refine zbq (by omega) (by omega) ?_
  conv => whnf
  exact ⟨(i + 1, out ++ x), [(1, 3)], [1], ⟨⟨hi2, hE⟩, Nat.sub_lt_sub_left hi2 (Nat.lt_succ_self i)⟩, zaE⟩
 have hi8 : i = ps.length := by
   have : ¬ (i : Int) < ((ps.length : Nat) : Int) := by simpa [Sl.len] using hc
   omega
 subst hi8
 rw [List.take_length] at hout
 conv => whnf
 rw [← hout]
 refine zkj (xs := out) 1 rfl (by omega) (fun x hx => ?_) rfl ?_
 ·rw [hout] at hx
  obtain ⟨t, ht, hxt⟩ := List.mem_flatten.1 hx
  exact zkW hq t ht x hxt
 exact zaK [(0, 1)] [0] (.inl rfl) trivial rfl ⟨.inl rfl, trivial⟩
theorem zvF (hX : ∀ k ∈ X, k < w.heap.size) : Ct Tryz.prog 121 [] X w (.a (.agg [.row 8 fun i => u32 (iv0 i)])) [] [] := by
 refine vFn (k0 := 0) (rs := [.cell 0 148]) (svs := []) (R0 := []) (hnQ []) Tryz.ntmps121 Tryz.func121 rfl rfl rfl rfl rfl zah (by kernel_rfl) hX (fun r hr => by cases hr) ?_
 conv => whnf
 refine ⟨fun i => u32 (iv0 i), ⟨rfl, rfl, rfl, rfl, rfl, rfl, rfl, rfl, trivial⟩, ?_⟩
 conv => whnf
 refine ⟨fun i _ => rfl, ?_⟩
 conv => whnf
 exact zag rfl
theorem zfe {kk : List Nat} {b j : Nat} (hj : j = kk.length) (h : kk.length < 32) : cl [.key (kk ++ [b])] = (cl [.key kk]).set j (bv b) := by
 subst hj
 have e : ∀ l : List Nat, cl [.key l] = (List.range 32).map fun i => bv (l.getD i 0) := fun l => by simp [cl, Chunk.cells, zgC, Function.comp_def]
 rw [e, e]
 refine List.ext_getElem? fun t => ?_
 rw [List.getElem?_set]
 by_cases ht : t < 32
 ·by_cases htk : kk.length = t
  ·subst htk
   simp [h]
  ·rw [if_neg htk]
   simp only [List.getElem?_map, List.getElem?_range ht, Option.map_some, jR]
   by_cases h2 : t < kk.length
   ·rw [List.getElem?_append_left h2]
   ·rw [List.getElem?_eq_none (by simp; omega), List.getElem?_eq_none (by omega)]
 ·rw [List.getElem?_eq_none (by simpa using ht), if_neg (by omega), List.getElem?_eq_none (by simpa using ht)]
theorem zyC {h : Nat → Nat} (hh : ∀ i, i < 8 → h i < 4294967296) (hX : ∀ k ∈ X, k < w.heap.size) : Ct Tryz.prog 123 [.agg (ca [.row 8 fun i => u32 (h i)])] X w (.a (.agg [.key (zdn h 8)])) [] [] := by
 refine vFn (k0 := 0) (rs := [.cell 2 23]) (svs := [.a (.agg [.row 8 fun i => u32 (h i)])]) (R0 := []) (hnQ []) Tryz.ntmps123 Tryz.func123 rfl rfl rfl rfl rfl zah (by kernel_rfl) hX (fun r hr => by cases hr) ?_
 conv => whnf
 refine ⟨Nat, fun k l m R i => ⟨3, (9, zam .i64 i) :: zaC [2, 3, 8] l, (2, .blk [.key (zdn h i)] 23) :: m, []⟩, fun i => i ≤ 8, fun i => 8 - i, ⟨0, [], [], Nat.zero_le _, zaE⟩, fun i hi => ?_⟩
 conv => whnf
 refine vIf (fun hc => ?_) fun hc => ?_
 ·have hi2 : i < 8 := by
   have : (i : Int) < 8 := of_decide_eq_true hc
   omega
  have hh2 := hh i hi2
  conv => whnf
  refine ⟨i, ⟨rfl, hi2⟩, ?_⟩
  conv => whnf
  refine zwc (by omega) (by omega) ?_
  conv => whnf
  refine zac rfl rfl rfl (by kernel_rfl) (fun h1 X w H => zd3 4 (h i) (by decide) (by omega) H.xk) rfl rfl rfl ?_
  conv => whnf
  refine ⟨Nat × List Nat, fun k l m R g => ⟨4, (17, zam .i64 g.1) :: zaC [2, 3, 4, 8, 9, 15, 16] l, (2, .blk [.key g.2] 23) :: m, R⟩, fun g => g.1 ≤ 4 ∧ g.2 = zdn h i ++ (beL 4 (h i)).take g.1, fun g => 4 - g.1, ⟨(0, zdn h i), [], [0], ⟨Nat.zero_le _, (List.append_nil _).symm⟩, zaE⟩, fun g hg => ?_⟩
  obtain ⟨n, kk⟩ := g
  obtain ⟨hn, hkk⟩ : n ≤ 4 ∧ kk = zdn h i ++ (beL 4 (h i)).take n := hg
  have hkl : kk.length = 4 * i + n := by rw [hkk, jQ, ze7, List.length_take, zdK]; omega
  conv => whnf
  refine vIf (fun hc => ?_) fun hc => ?_
  ·have hn2 : n < 4 := by
    have : (n : Int) < ((4 : Nat) : Int) := of_decide_eq_true hc
    omega
   obtain ⟨b, hb⟩ : ∃ b, (beL 4 (h i))[n]? = some b := ⟨_, jP (by rw [zdK]; exact hn2)⟩
   conv => whnf
   refine ⟨n, ⟨rfl, hn2, hn2⟩, ?_⟩
   conv => whnf
   refine za8 (zez 0 hb rfl rfl rfl (by kernel_rfl)) rfl rfl ?_
   conv => whnf
   refine za5 (show (4 : Int) * (i : Int) = ((4 * i : Nat) : Int) by omega) (by omega) (by omega) ?_
   conv => whnf
   refine za5 (z' := ((4 * i + n : Nat) : Int)) (show ((4 * i : Nat) : Int) + (n : Int) = _ by omega) (by show (-9223372036854775808 : Int) ≤ ((4 * i : Nat) : Int) + (n : Int); omega) (by show ((4 * i : Nat) : Int) + (n : Int) ≤ _; omega) ?_
   conv => whnf
   refine ⟨4 * i + n, ⟨rfl, by omega⟩, ?_⟩
   conv => whnf
   refine .inr ?_
   conv => whnf
   refine zao (zh9 (cs := [.key kk]) (cs' := [.key (kk ++ [b])]) rfl rfl rfl rfl rfl (by kernel_rfl) (by show 0 + (4 * i + n) * 1 < 32; omega) fun h => zfe (kk := kk) (b := b) (j := 0 + (4 * i + n) * 1) (by omega) (by omega)) ?_
   conv => whnf
   refine zbq (by omega) (by omega) ?_
   conv => whnf
   exact ⟨(n + 1, kk ++ [b]), [], [0], ⟨⟨hn2, by show kk ++ [b] = _; rw [hkk, List.take_add_one, hb, List.append_assoc]; rfl⟩, Nat.sub_lt_sub_left hn2 (Nat.lt_succ_self n)⟩, zaE⟩
  have hn4 : n = 4 := by
    have : ¬ (n : Int) < ((4 : Nat) : Int) := of_decide_eq_false hc
    omega
  subst hn4
  have hE : kk = zdn h (i + 1) := by rw [hkk, zfF, zBt, List.take_of_length_le (by rw [zdK]; decide)]
  subst hE
  conv => whnf
  refine zbq (by omega) (by omega) ?_
  conv => whnf
  exact ⟨i + 1, [], [], ⟨hi2, Nat.sub_lt_sub_left hi2 (Nat.lt_succ_self i)⟩, zaE⟩
 have hi8 : i = 8 := by
   have : ¬ (i : Int) < 8 := of_decide_eq_false hc
   omega
 subst hi8
 conv => whnf
 exact zag rfl
theorem zoZ {ps : List (List Nat)} {gt : Nat → Nat} (hfl : ps.flatten.length ≤ 100000000000) (hX : ∀ k ∈ X, k < w.heap.size) (hq : St (SlQ zat ps q) w X) (hG : St (zbm gt 0) w X) : Ct Tryz.prog 95 [.slice q.1 ps.length q.2] X w (.a (.agg [.key (zk0 gt ps)])) [] [] := by
 refine vFn (k0 := 1) (rs := [.cell 2 23]) (svs := [.a (.s (.p (.hd 0 ps.length)))]) (R0 := [.sl 0 ps.length (SlF zat ps), .c (zbm gt 0)]) (hnQ [q]) Tryz.ntmps95 Tryz.func95 rfl rfl rfl rfl rfl zah (by kernel_rfl) hX (fun r hr => by
  rcases List.mem_cons.1 hr with rfl | hr
  ·exact hq
  ·rcases List.mem_singleton.1 hr with rfl; exact hG) ?_
 conv => whnf
 refine zac rfl rfl rfl (by kernel_rfl) (fun h X w H => zvE (by omega) H.xk (H.fact 0 rfl)) rfl rfl rfl ?_
 obtain ⟨fl, hf⟩ : ∃ fl, fl = ps.flatten := ⟨_, rfl⟩
 rw [← hf] at hfl ⊢
 conv => whnf
 refine zac rfl rfl rfl (by kernel_rfl) (fun h X w H => zrV (kk := fl) (by omega) H.xk (H.fact 0 rfl)) rfl rfl rfl ?_
 obtain ⟨bs, hb⟩ : ∃ bs, bs = fl ++ zfE fl.length := ⟨_, rfl⟩
 have hbl : bs.length % 64 = 0 := by rw [hb, jQ]; exact zx2 _
 have hbb : bs.length ≤ 100000000072 := by have := zng fl.length; rw [hb, jQ]; omega
 have hby : ∀ x ∈ bs, x < 256 := fun x hx => by
  rw [hb, hf] at hx
  rcases List.mem_append.1 hx with h | h
  ·obtain ⟨t, ht, hxt⟩ := List.mem_flatten.1 h
   exact zkW hq t ht x hxt
  ·exact zjt _ x h
 rw [← hb]
 conv => whnf
 refine zac rfl rfl rfl (by kernel_rfl) (fun h X w H => zvF H.xk) rfl rfl rfl ?_
 conv => whnf
 refine ⟨fun i _ => rfl, ?_⟩
 conv => whnf
 refine ⟨Nat × (Nat → Nat), fun k l m R g => ⟨k, (5, zam .i64 g.1) :: zaC [2, 3, 4] l, (4, .blk [.row 8 fun i => u32 (g.2 i)] 148) :: m, [.sl 3 bs.length (TxG bs), .c (zbm gt 0)]⟩, fun g => g.1 ≤ bs.length ∧ g.1 % 64 = 0 ∧ zfD gt g.2 (bs.drop g.1) = zfD gt iv0 bs ∧ ∀ i, i < 8 → g.2 i < 4294967296, fun g => bs.length - g.1, ⟨(0, iv0), [], [0, 3], ⟨Nat.zero_le _, rfl, rfl, zDT⟩, zaE⟩, fun g hg => ?_⟩
 obtain ⟨i, h⟩ := g
 obtain ⟨hi, him, hF, hlt⟩ : i ≤ bs.length ∧ i % 64 = 0 ∧ zfD gt h (bs.drop i) = zfD gt iv0 bs ∧ ∀ i, i < 8 → h i < 4294967296 := hg
 conv => whnf
 refine vIf (fun hc => ?_) fun hc => ?_
 ·have hi2 : i < bs.length := by
   have : (i : Int) < ((bs.length : Nat) : Int) := by simpa [Sl.len] using hc
   omega
  obtain ⟨bk, hbk⟩ : ∃ bk, bk = (bs.drop i).take (i + 64 - i) := ⟨_, rfl⟩
  have hkl : bk.length = 64 := by rw [hbk, List.length_take, List.length_drop]; omega
  have hkb : ∀ x ∈ bk, x < 256 := fun x hx => by rw [hbk] at hx; exact hby x (List.mem_of_mem_drop (List.mem_of_mem_take hx))
  conv => whnf
  refine zas 6 [] (by kernel_rfl) ?_
  conv => whnf
  refine za5 (show (i : Int) + 64 = ((i + 64 : Nat) : Int) by omega) (by omega) (by omega) ?_
  conv => whnf
  refine zaq (zgg bk (lo := i) (hi := i + 64) 0 hbk rfl (by omega) (by omega) fun h w hf => zsw rfl (by kernel_rfl) rfl rfl rfl rfl rfl (by omega) (by have := hf.cap; omega)) ?_
  conv => whnf
  refine zac rfl rfl rfl (by kernel_rfl) (fun h1 X w H => zvD (hh := h) hkl H.xk (H.fact 0 rfl) (H.fact 2 rfl)) rfl rfl rfl ?_
  rw [← zx0 gt h bk (zBu hkb)]
  conv => whnf
  refine ⟨fun i _ => rfl, ?_⟩
  conv => whnf
  refine za5 (show (i : Int) + 64 = ((i + 64 : Nat) : Int) by omega) (by omega) (by omega) ?_
  conv => whnf
  have hbk2 : (bs.drop i).take 64 = bk := by rw [hbk, show i + 64 - i = 64 by omega]
  have hd : (bs.drop i).drop 64 = bs.drop (i + 64) := by rw [List.drop_drop]
  refine ⟨(i + 64, zfp gt h bk), [], [1, 2], ⟨⟨by omega, by omega, ?_, zuL gt h bk⟩, Nat.sub_lt_sub_left hi2 (Nat.lt_add_of_pos_right (by decide))⟩, zaE⟩
  rw [← hF, zdZ (l := bs.drop i) (by rw [List.length_drop]; omega), hbk2, hd]
 have hi8 : i = bs.length := by
   have : ¬ (i : Int) < ((bs.length : Nat) : Int) := by simpa [Sl.len] using hc
   omega
 subst hi8
 conv => whnf
 refine zac rfl rfl rfl (by kernel_rfl) (fun h1 X w H => zyC hlt H.xk) rfl rfl rfl ?_
 conv => whnf
 refine zag ?_
 rw [ziz, ← hf, ← hb, ← hF, List.drop_length, zda (by simp)]
 rfl
end
end
section
open Go.RowKit
section
variable {X : List Nat} {w : World} {gt : Nat → Nat} {key : List Nat} {ps : List (List Nat)} {q q2 : Qd}
theorem zvG (by_ : Nat) (hby : by_ < 256) (h64 : key.length ≤ 64) (hX : ∀ k ∈ X, k < w.heap.size) (hq : St (TxQ key q) w X) : Ct Tryz.prog 154 [.slice q.1 key.length q.2, bv by_] X w (slS 0 0 64 64) [.blk [.row 64 fun j => bv (znQ key by_ 64 j)] 5] [] := by
 refine vFn (k0 := 1) (rs := [.tmp 4]) (svs := [.a (.s (.p (.hd 0 key.length))), zfM (bv by_)]) (R0 := [.sl 0 key.length (TxG key)]) (hnQ [q]) Tryz.ntmps154 Tryz.func154 rfl rfl rfl rfl rfl zah (by kernel_rfl) hX (fun r hr => by rcases List.mem_singleton.1 hr with rfl; exact hq) ?_
 conv => whnf
 refine .inl ?_
 conv => whnf
 refine vF (by simp [Sl.len]; omega) ?_
 conv => whnf
 refine zbH (zy7 (e := 5) 64 ⟨by kernel_rfl, by kernel_rfl, by kernel_rfl⟩ rfl rfl rfl rfl rfl (by decide)) rfl rfl ?_
 conv => whnf
 refine ⟨Nat, fun k l m R i => ⟨k, (18, zam .i64 i) :: zaC [0, 1, 6, 17] l, (1, .blk [.row 64 fun j => bv (znQ key by_ i j)] 5) :: m, R⟩, fun i => i ≤ 64, fun i => 64 - i, ⟨0, [], [0], Nat.zero_le _, zaE⟩, fun i hi => ?_⟩
 conv => whnf
 refine vIf (fun hc => ?_) fun hc => ?_
 ·have hi2 : i < 64 := by
   have : (i : Int) < 64 := of_decide_eq_true hc
   omega
  conv => whnf
  refine .inr ⟨Unit, fun k l m R _ => ⟨k, zaC [0, 1, 6, 17, 18] l, (1, .blk [.row 64 fun j => bv (znQ key by_ (i + 1) j)] 5) :: m, R⟩, fun _ => True, ?_, fun _ _ => ?_⟩
  rotate_left
  ·conv => whnf
   refine zbq (by omega) (by omega) ?_
   conv => whnf
   exact ⟨i + 1, [], [0], ⟨hi2, Nat.sub_lt_sub_left hi2 (Nat.lt_succ_self i)⟩, zaE⟩
  conv => whnf
  refine ⟨i, ⟨rfl, hi2⟩, .inr ?_⟩
  conv => whnf
  refine zao (zfA (fun j => bv (zuM key by_ i j)) rfl rfl rfl rfl rfl rfl hi2 (fun j => zx3 key by_ i j)) ?_
  conv => whnf
  refine vIf (fun hc => ?_) fun hc => ?_
  ·have hi3 : i < key.length := by
    have : (i : Int) < ((key.length : Nat) : Int) := of_decide_eq_true hc
    omega
   conv => whnf
   refine zas 8 [] (by kernel_rfl) ?_
   conv => whnf
   refine ⟨i, ⟨rfl, hi2⟩, .inr ?_⟩
   conv => whnf
   refine ⟨hi2, ?_⟩
   conv => whnf
   refine ⟨i, ⟨rfl, hi3, hi3⟩, ?_⟩
   conv => whnf
   refine zbD (zez 0 (zfB 0 hi3) rfl rfl rfl (by kernel_rfl)) ?_
   conv => whnf
   refine zx8 (x := zuM key by_ i i) ?_
   conv => whnf
   refine ⟨i, ⟨rfl, hi2⟩, .inr ?_⟩
   conv => whnf
   refine zao (zfA (fun j => bv (znQ key by_ (i + 1) j)) rfl rfl rfl rfl rfl rfl hi2 (fun j => by rw [zBv]; exact zBw key by_ i j)) ?_
   conv => whnf
   exact ⟨(), [], [0], trivial, zaE⟩
  ·have hi3 : key.length ≤ i := by
    have : ¬ (i : Int) < ((key.length : Nat) : Int) := of_decide_eq_false hc
    omega
   conv => whnf
   refine ⟨(), [], [0], trivial, ?_⟩
   rw [zx4 key hby hi3]
   exact zaE
 have hi8 : i = 64 := by
   have : ¬ (i : Int) < 64 := of_decide_eq_false hc
   omega
 subst hi8
 conv => whnf
 exact zaK [(0, 1)] [] (.inl rfl) ⟨.inl rfl, trivial⟩ rfl trivial
theorem zvH {by_ : Nat} {h : Hn} {i : Nat} {Y : List Nat} {w : World} (hb : St (AtC ⟨h.b i, 0, none⟩ (zaD h [.row 64 fun j => bv (znQ key by_ 64 j)])) w Y) : St (TxF (some ⟨h.b i, 0, none⟩) 64 (zcW key by_)) w Y :=
 zer hb (zDU key by_) (Nat.le_of_eq (zbP key by_)) (by rw [zbP]; decide) (zjr key by_)
theorem zCg (h64 : key.length ≤ 64) (hfl : ps.flatten.length ≤ 10000000000) (hX : ∀ k ∈ X, k < w.heap.size) (hq : St (TxQ key q) w X) (hL : St (SlQ zat ps q2) w X) (hG : St (zbm gt 0) w X) : Ct Tryz.prog 118 [.slice q.1 key.length q.2, .slice q2.1 ps.length q2.2] X w (.a (.agg [.key (zm8 gt key ps)])) [] [] := by
 refine vFn (k0 := 2) (rs := [.cell 4 23]) (svs := [.a (.s (.p (.hd 0 key.length))), .a (.s (.p (.hd 1 ps.length)))]) (R0 := [.sl 0 key.length (TxG key), .sl 1 ps.length (SlF zat ps), .c (zbm gt 0)]) (hnQ [q, q2]) Tryz.ntmps118 Tryz.func118 rfl rfl rfl rfl rfl zah (by kernel_rfl) hX (fun r hr => by
  rcases List.mem_cons.1 hr with rfl | hr
  ·exact hq
  rcases List.mem_cons.1 hr with rfl | hr
  ·exact hL
  ·rcases List.mem_singleton.1 hr with rfl; exact hG) ?_
 conv => whnf
 refine zac rfl rfl rfl (by kernel_rfl) (fun h X w H => zvG 54 (by decide) h64 H.xk (H.fact 0 rfl)) rfl rfl rfl ?_
 conv => whnf
 refine zac rfl rfl rfl (by kernel_rfl) (fun h X w H => zvE (by omega) H.xk (H.fact 1 rfl)) rfl rfl rfl ?_
 obtain ⟨fl, hf⟩ : ∃ fl, fl = ps.flatten := ⟨_, rfl⟩
 rw [← hf] at hfl ⊢
 conv => whnf
 refine zao (zaG [5, 3] rfl rfl (zan (rs := []) (Rs := []) (zaa (rs := []) (Rs := []) rfl rfl rfl (by kernel_rfl) rfl fun h X w H => zoZ (ps := [zcW key 54, fl]) (q := (some ⟨h.b 5, 0, none⟩, 2)) (by simp [zbP]; omega) H.xk (zbI (ql := [(some ⟨h.b 3, 0, none⟩, 64), h.r 4]) rfl (by simp) (by
   have := H.fact 1 rfl
   have e : zaD h [.one (.p (.sl 3 0 64 64)), .one (.p (.hd 4 fl.length))] = zbv [zcW key 54, fl] [(some ⟨h.b 3, 0, none⟩, 64), h.r 4] := by
    simp only [zbv, zbP]
    rfl
   rw [← e]
   exact this) fun t x hx => by
   match t with
   | 0 => obtain rfl := Option.some.inj hx; exact zvH (H.fact 0 rfl)
   | 1 => obtain rfl := Option.some.inj hx; exact zee (H.fact 2 rfl)
   | t + 2 => simp at hx) (H.fact 5 rfl)) rfl rfl)) ?_
 conv => whnf
 obtain ⟨ink, hink⟩ : ∃ ink, ink = zk0 gt [zcW key 54, fl] := ⟨_, rfl⟩
 have hil : ink.length = 32 := by rw [hink]; exact zgq _ _
 have hib : ∀ x ∈ ink, x < 256 := by rw [hink]; exact zeE _ _
 rw [← hink]
 conv => whnf
 refine zas 3 [] (by kernel_rfl) ?_
 conv => whnf
 refine zaq (zaa (rs := [.blk [.row 64 fun j => bv (znQ key 92 64 j)] 5]) (Rs := []) rfl rfl rfl (by kernel_rfl) rfl fun h X w H => zvG 92 (by decide) h64 H.xk (H.fact 3 rfl)) ?_
 conv => whnf
 refine zao (zaG [8, 7, 6] rfl rfl (zan (rs := []) (Rs := []) (zaa (rs := []) (Rs := []) rfl rfl rfl (by kernel_rfl) rfl fun h X w H => zoZ (ps := [zcW key 92, ink]) (q := (some ⟨h.b 8, 0, none⟩, 2)) (by simp [zbP]; omega) H.xk (zbI (ql := [(some ⟨h.b 7, 0, none⟩, 64), (some ⟨h.b 6, 0, none⟩, 32)]) rfl (by simp) (by
   have := H.fact 2 rfl
   have e : zaD h [.one (.p (.sl 7 0 64 64)), .one (.p (.sl 6 0 32 32))] = zbv [zcW key 92, ink] [(some ⟨h.b 7, 0, none⟩, 64), (some ⟨h.b 6, 0, none⟩, 32)] := by
    simp only [zbv, zbP, hil]
    rfl
   rw [← e]
   exact this) fun t x hx => by
   match t with
   | 0 => obtain rfl := Option.some.inj hx; exact zvH (H.fact 1 rfl)
   | 1 => obtain rfl := Option.some.inj hx; exact zeb hil hib (H.fact 0 rfl)
   | t + 2 => simp at hx) (H.fact 8 rfl)) rfl rfl)) ?_
 conv => whnf
 refine zag ?_
 rw [hink, hf, zx5]
 rfl
end
end
section
open Go.RowKit
section
variable {P : Program} {T : Tab} {N : Nat}
theorem zvI {c : Code} {k : Nat} {l : LE} {m : MB} {R : List SF} {Kx : Nat → KS} {Kr : KS} (s : Nat → LE → MB → List SF → VS) (f : List (Nat × Nat)) (js : List Nat) (h0 : SubV f js k l m R (s k l m R))
  (h : (s k l m R).on fun k1 l1 m1 R1 => vC P T N c k1 l1 m1 R1 (fun k' l' m' R' => ∃ (s' : Nat → LE → MB → List SF → VS) (f : List (Nat × Nat)) (js : List Nat), SubV f js k' l' m' R' (s' k' l' m' R') ∧ (s' k' l' m' R').on fun k l m R => vC P T N c k l m R (fun _ _ _ _ => False) Kx Kr) Kx Kr) :
  ∃ (γ : Type) (I : Nat → LE → MB → List SF → γ → VS) (φ : γ → Prop) (μ : γ → Nat), zCx γ (I k l m R) φ k l m R ∧
   ∀ g, φ g → (I k l m R g).on fun k1 l1 m1 R1 => vC P T N c k1 l1 m1 R1 (fun k' l' m' R' => ∃ (g' : γ) (f : List (Nat × Nat)) (js : List Nat), (φ g' ∧ μ g' < μ g) ∧ SubV f js k' l' m' R' (I k l m R g')) Kx Kr := by
 refine ⟨Option VS, fun k l m R g => g.getD (s k l m R), fun g => ∀ t, g = some t → t.on fun k l m R => vC P T N c k l m R (fun _ _ _ _ => False) Kx Kr, fun g => cond g.isNone 1 0, ⟨none, f, js, fun t ht => (by cases ht), h0⟩, fun g hg => ?_⟩
 cases g with
 | none =>
  refine Eq.mp (congrArg (fun K : KS => (s k l m R).on fun k1 l1 m1 R1 => vC P T N c k1 l1 m1 R1 K Kx Kr) ?_) h
  funext k' l' m' R'
  refine propext ⟨?_, ?_⟩
  ·rintro ⟨s', f, js, h1, h2⟩
   exact ⟨some (s' k' l' m' R'), f, js, ⟨fun t ht => by obtain rfl := Option.some.inj ht; exact h2, Nat.zero_lt_one⟩, h1⟩
  ·rintro ⟨g', f, js, ⟨h1, h2⟩, h3⟩
   cases g' with
   | none => exact absurd h2 (Nat.lt_irrefl _)
   | some t => exact ⟨fun _ _ _ _ => t, f, js, h3, h1 t rfl⟩
 | some t =>
  refine Eq.mp (congrArg (fun K : KS => t.on fun k1 l1 m1 R1 => vC P T N c k1 l1 m1 R1 K Kx Kr) ?_) (hg t rfl)
  funext k' l' m' R'
  refine propext ⟨False.elim, ?_⟩
  rintro ⟨g', f, js, ⟨h1, h2⟩, h3⟩
  exact Nat.not_lt_zero _ h2
end
section
variable {X : List Nat} {w : World} {gt : Nat → Nat} {key : List Nat} {ps : List (List Nat)} {q q2 : Qd}
theorem zrX {kk info : List Nat} {n : Nat} (hk32 : kk.length = 32) (hkb : ∀ x ∈ kk, x < 256) (hn1 : 1 ≤ n) (hn : n ≤ 32) (hi20 : info.length ≤ 1048576) (hX : ∀ k ∈ X, k < w.heap.size) (hq : St (TxQ info q) w X) (hG : St (zbm gt 0) w X) : Ct Tryz.prog 93 [.agg (ca [.key kk]), .slice q.1 info.length q.2, .int .i64 n] X w (.tup [.s (.p (.hd 0 n)), .s (.p (.v (.int .i64 0)))]) [.gone] [.sl 0 n (TxG (zrC gt kk info n))] := by
 obtain ⟨mc, hmc⟩ : ∃ mc, mc = zm8 gt kk [[], info, [1]] := ⟨_, rfl⟩
 have hml : mc.length = 32 := by rw [hmc]; exact zgs _ _ _
 have hmb : ∀ x ∈ mc, x < 256 := by rw [hmc]; exact ziu _ _ _
 have hE : zrC gt kk info n = mc.take n := by
  rw [zrC, show (n + 31) / 32 = 0 + 1 by omega, zqk (last := []) (out := []) rfl, hmc, List.nil_append]
 refine vFn (k0 := 1) (rs := [.tmp 6, .tmp 7]) (svs := [.a (.agg [.key kk]), .a (.s (.p (.hd 0 info.length))), zam .i64 n]) (R0 := [.sl 0 info.length (TxG info), .c (zbm gt 0)]) (hnQ [q]) Tryz.ntmps93 Tryz.func93 rfl rfl rfl rfl rfl zah (by kernel_rfl) hX (fun r hr => by
  rcases List.mem_cons.1 hr with rfl | hr
  ·exact hq
  ·rcases List.mem_singleton.1 hr with rfl; exact hG) ?_
 conv => whnf
 refine vF (decide_eq_false (by omega)) ?_
 conv => whnf
 refine vF (decide_eq_false (by show ¬ (((info.length : Nat) : Int) > 1048576); omega)) ?_
 conv => whnf
 refine zvI (fun k l m R => ⟨2, zaC [1, 2, 3, 8, 9, 10] l, m, R⟩) [] [0, 1] zaE ?_
 conv => whnf
 refine vT (decide_eq_true (by show (0 : Int) < n; omega)) ?_
 conv => whnf
 refine ⟨1, rfl, ?_⟩
 conv => whnf
 refine zao (zaG [3, 2, 1] rfl rfl (zan (rs := []) (Rs := []) (zaa (sv := .a (.agg [.key (zm8 gt kk [[], info, [1]])])) (rs := []) (Rs := []) rfl rfl rfl (by kernel_rfl) rfl fun h X w H => ?_) rfl rfl)) ?_
 ·have := zCg (gt := gt) (key := kk) (ps := [[], info, [1]]) (q := (some ⟨h.b 1, 0, none⟩, 32)) (q2 := (some ⟨h.b 3, 0, none⟩, 3)) (by omega) (by simp; omega) H.xk (zmw (zeb hk32 hkb (H.fact 0 rfl))) (zbI (ql := [(none, 0), h.r 0, (some ⟨h.b 2, 0, none⟩, 1)]) rfl (by simp) (H.fact 2 rfl) fun t x hx => by
   match t with
   | 0 => obtain rfl := Option.some.inj hx; exact zjM
   | 1 => obtain rfl := Option.some.inj hx; exact zee (H.fact 3 rfl)
   | 2 => obtain rfl := Option.some.inj hx; exact zer (H.fact 1 rfl) rfl (jV _) (by simp) (fun x hx => by rcases List.mem_singleton.1 hx with rfl; omega)
   | t + 3 => simp at hx) (H.fact 4 rfl)
  rw [hk32] at this
  exact this
 rw [← hmc]
 conv => whnf
 refine zia 2 (zxY (cs := [.key mc]) (ys := mc) (e := 5) rfl (fun h => by rw [← zf1 hml]; exact zhR _) rfl rfl rfl hml.symm ⟨by kernel_rfl, by kernel_rfl⟩ (by omega) rfl rfl rfl) ?_
 conv => whnf
 refine ⟨2, rfl, ?_⟩
 conv => whnf
 refine ⟨fun k l m R => ⟨k, (8, .a (.s (.p (.hd 6 mc.length)))) :: zaC [2] l, [(6, zdI mc 5)], []⟩, [], [], zaE, ?_⟩
 conv => whnf
 refine vF (decide_eq_false (by show ¬ (((mc.length : Nat) : Int) < n); omega)) ?_
 conv => whnf
 refine zaI (zgf (xs := mc) 6 rfl (by omega) hmb rfl (zan (rs := [.gone]) (zgg (zrC gt kk info n) (lo := 0) (hi := n) 0 (by rw [hE]; rfl) rfl (Nat.zero_le _) (by omega) fun h w hf => zhP rfl (by kernel_rfl) rfl rfl rfl (by have := hf.cap; omega)) rfl rfl)) ?_
 rw [ze8]
 conv => whnf
 exact zaK [(0, 7)] [0] (.inl rfl) trivial rfl ⟨.inl rfl, trivial⟩
theorem zCh {kk : List Nat} (h32 : kk.length = 32) (hX : ∀ k ∈ X, k < w.heap.size) (hq : St (TxQ kk q) w X) : Ct Tryz.prog 94 [.slice q.1 kk.length q.2] X w (.a (.agg [.key kk])) [] [] := by
 refine vFn (k0 := 1) (rs := [.cell 2 23]) (svs := [.a (.s (.p (.hd 0 kk.length)))]) (R0 := [.sl 0 kk.length (TxG kk)]) (hnQ [q]) Tryz.ntmps94 Tryz.func94 rfl rfl rfl rfl rfl zah (by kernel_rfl) hX (fun r hr => by rcases List.mem_singleton.1 hr with rfl; exact hq) ?_
 conv => whnf
 refine ⟨Nat × List Nat, fun k l m R g => ⟨k, (5, zam .i64 g.1) :: zaC [0, 2, 3] l, (2, .blk [.key g.2] 23) :: m, R⟩, fun g => g.1 ≤ 32 ∧ g.2 = kk.take g.1, fun g => 32 - g.1, ⟨(0, []), [], [0], ⟨Nat.zero_le _, rfl⟩, zaE⟩, fun g hg => ?_⟩
 obtain ⟨i, k2⟩ := g
 obtain ⟨hi, hk2⟩ : i ≤ 32 ∧ k2 = kk.take i := hg
 have hk2l : k2.length = i := by rw [hk2, List.length_take]; omega
 conv => whnf
 refine vIf (fun hc => ?_) fun hc => ?_
 ·have hi2 : i < 32 := by
   have : (i : Int) < 32 := of_decide_eq_true hc
   omega
  obtain ⟨b, hb⟩ : ∃ b, kk[i]? = some b := ⟨_, jP (by omega)⟩
  conv => whnf
  refine .inl ?_
  conv => whnf
  refine vT (decide_eq_true (by show (i : Int) < ((kk.length : Nat) : Int); omega)) ?_
  conv => whnf
  refine ⟨i, ⟨rfl, by omega, by omega⟩, ?_⟩
  conv => whnf
  refine za8 (zez 0 hb rfl rfl rfl (by kernel_rfl)) rfl rfl ?_
  conv => whnf
  refine ⟨i, ⟨rfl, by omega⟩, .inr ?_⟩
  conv => whnf
  refine zao (zh9 (cs := [.key k2]) (cs' := [.key (k2 ++ [b])]) rfl rfl rfl rfl rfl (by kernel_rfl) (by show 0 + i * 1 < 32; omega) fun h => zfe (kk := k2) (b := b) (j := 0 + i * 1) (by omega) (by omega)) ?_
  conv => whnf
  refine zbq (by omega) (by omega) ?_
  conv => whnf
  exact ⟨(i + 1, k2 ++ [b]), [], [0], ⟨⟨hi2, by show k2 ++ [b] = _; rw [hk2, List.take_add_one, hb]; rfl⟩, Nat.sub_lt_sub_left hi2 (Nat.lt_succ_self i)⟩, zaE⟩
 have hi8 : k2 = kk := by
   have : ¬ (i : Int) < 32 := of_decide_eq_false hc
   rw [hk2, List.take_of_length_le (by omega)]
 subst hi8
 conv => whnf
 exact zag rfl
theorem zch {s : ByteArray} {kk lab : List Nat} {ts : List (List Nat)} (hs : s.data.toList.map UInt8.toNat = lab) (hlab : lab.length ≤ 100) (hk32 : kk.length = 32) (hkb : ∀ x ∈ kk, x < 256) (hts : zjx ts) (hX : ∀ k ∈ X, k < w.heap.size) (hL : St (SlQ zat ts q) w X) (hG : St (zbm gt 0) w X) : Ct Tryz.prog 60 [.agg (ca [.key kk]), .string s, .slice q.1 ts.length q.2] X w (.tup [.agg [.key (zfb gt kk lab ts)], .s (.p (.v (.int .i64 0)))]) [] [] := by
 have hst := hts.1
 have hsl := zgX ts hts.2
 have hs2 : (zcz [zk1, lab]).length = 11 + lab.length := by
  show ((beL 2 zk1.length ++ zk1) ++ ((beL 2 lab.length ++ lab) ++ [])).length = _
  rw [jQ, jQ, jQ, jQ, zdD, zdD]
  show 2 + 7 + (2 + lab.length + 0) = _
  omega
 have hln : (zcz [zk1, lab] ++ zcz ts).length ≤ 1048576 := by rw [jQ]; omega
 refine vFn (k0 := 1) (rs := [.cell 6 23, .tmp 7]) (svs := [.a (.agg [.key kk]), zfM (.string s), .a (.s (.p (.hd 0 ts.length)))]) (R0 := [.sl 0 ts.length (SlF zat ts), .c (zbm gt 0)]) (hnQ [q]) Tryz.ntmps60 Tryz.func60 rfl rfl rfl rfl rfl zah (by kernel_rfl) hX (fun r hr => by
  rcases List.mem_cons.1 hr with rfl | hr
  ·exact hL
  ·rcases List.mem_singleton.1 hr with rfl; exact hG) ?_
 conv => whnf
 refine zao (zdW (i := 3) (n := 7) (e := 5) rfl rfl rfl (by kernel_rfl) (by kernel_rfl)) ?_
 conv => whnf
 refine zbH (zpX (e := 5) lab rfl rfl (by kernel_rfl) (by kernel_rfl) (by kernel_rfl) hs (by omega)) rfl rfl ?_
 conv => whnf
 refine zaI (zpW (e := 72) (xs := [zk1, lab]) (ys := ts) (r := 2) (by_ := 24) (fun h => [(some ⟨h.b 3, 0, none⟩, 7), h.r 4]) rfl (fun h => by rfl) (fun h => rfl) (fun h X w H t x hx => by
  match t with
  | 0 => obtain rfl := Option.some.inj hx; exact zer (H.fact 1 rfl) rfl (jV _) (by decide) (by decide)
  | 1 => obtain rfl := Option.some.inj hx; exact zee (H.fact 0 rfl)
  | t + 2 => simp at hx) rfl rfl rfl rfl rfl ⟨by kernel_rfl, by kernel_rfl⟩ (by simp; omega) (by simp; omega) rfl rfl) ?_
 conv => whnf
 obtain ⟨t2, ht2⟩ : ∃ t2, t2 = [] ++ zcz ([zk1, lab] ++ ts) := ⟨_, rfl⟩
 have ht2e : t2 = zcz [zk1, lab] ++ zcz ts := by
  rw [ht2, List.nil_append]
  unfold zcz
  rw [List.flatMap_append]
 refine zaI (zid (T := zat) (zs := [zk1, lab] ++ ts) 6 rfl (.head _) rfl (zan (sv := .tup [.s (.p (.hd 7 t2.length)), .s (.p (.v (.int .i64 0)))]) (rs := [.gone]) (Rs := [.sl 7 t2.length (TxG t2)]) (zaa (sv := .tup [.s (.p (.hd 0 t2.length)), .s (.p (.v (.int .i64 0)))]) (rs := [.gone]) (Rs := [.sl 0 t2.length (TxG t2)]) rfl rfl rfl (by kernel_rfl) rfl fun h X w H => by
  have := zq2 (m0 := []) (ts := [zk1, lab] ++ ts) (q := (none, 0)) (q2 := h.r 6) (fun t ht => (List.mem_append.1 ht).elim (fun h => zvg hlab t h) fun h => znv hts t h) (by simp) (by simp; omega) H.xk zh6 (H.fact 0 rfl)
  rw [← ht2] at this
  exact this) rfl rfl)) ?_
 conv => whnf
 refine zac (sv := .tup [.s (.p (.hd 0 32)), .s (.p (.v (.int .i64 0)))]) (rs := [.gone]) rfl rfl rfl (by kernel_rfl) (fun h X w H => zrX (n := 32) hk32 hkb (by decide) (by decide) (by rw [ht2e]; exact hln) H.xk (H.fact 0 rfl) (H.fact 6 rfl)) rfl rfl rfl ?_
 conv => whnf
 refine zac rfl rfl rfl (by kernel_rfl) (fun h X w H => by
  have := zCh (kk := zrC gt kk t2 32) (q := h.r 8) (ze8 _ _ _ _) H.xk (H.fact 0 rfl)
  rw [ze8] at this
  exact this) rfl rfl rfl ?_
 conv => whnf
 refine zag ?_
 rw [ht2e, zqQ]
 rfl
end
end
section
open Go.RowKit
section
variable {X : List Nat} {w : World}
theorem zEN {i : Nat} (hi : i < 16) (hX : ∀ k ∈ X, k < w.heap.size) : Ct Tryz.prog 189 [.int .i64 i] X w (zam .u64 ((zai pN i : Nat) : Int)) [] [] := by
 rw [zDV i hi]
 refine vFn (k0 := 0) (rs := [.tmp 2]) (svs := [zam .i64 i]) (R0 := []) (hnQ []) Tryz.ntmps189 Tryz.func189 rfl rfl rfl rfl rfl zah (by kernel_rfl) hX (fun r hr => by cases hr) ?_
 conv => whnf
 refine vIf (fun hc => ?_) fun hc => ?_
 ·obtain rfl : i = 0 := by have := eq_of_beq hc; omega
  conv => whnf
  exact zag rfl
 have h0 : i ≠ 0 := fun e => by subst e; cases hc
 rw [if_neg h0]
 conv => whnf
 refine vIf (fun hc => ?_) fun hc => ?_
 ·obtain rfl : i = 15 := by have := eq_of_beq hc; omega
  conv => whnf
  exact zag rfl
 have h15 : i ≠ 15 := fun e => by subst e; cases hc
 rw [if_neg h15]
 conv => whnf
 exact zag rfl
theorem zvJ {v p i : Nat} (h : v / 2 ^ (16 * (i + 1)) = p / 2 ^ (16 * (i + 1))) (hne : zai v i ≠ zai p i) : decide ((zai v i : Int) < (zai p i : Int)) = decide (v < p) := by
 rw [zuR v p i h hne]
 exact decide_eq_decide.2 (by omega)
theorem zq3 {v : Nat} (hv : v < 2 ^ 256) (hX : ∀ k ∈ X, k < w.heap.size) : Ct Tryz.prog 188 [.agg (ca [.row 16 (uw (zai v))])] X w (za4 (decide (v < pN))) [] [] := by
 have hv0 : v / 2 ^ (16 * 16) = pN / 2 ^ (16 * 16) := by rw [Nat.div_eq_of_lt hv, Nat.div_eq_of_lt (by unfold pN; decide +kernel)]
 refine vFn (k0 := 0) (rs := [.tmp 2]) (svs := [.a (.agg [.row 16 (uw (zai v))])]) (R0 := []) (hnQ []) Tryz.ntmps188 Tryz.func188 rfl rfl rfl rfl rfl zah (by kernel_rfl) hX (fun r hr => by cases hr) ?_
 conv => whnf
 refine ⟨Nat, fun k l m R n => ⟨k, (3, zam .i64 ((n : Int) - 1)) :: zaC [1, 2] l, m, R⟩, fun n => n ≤ 16 ∧ v / 2 ^ (16 * n) = pN / 2 ^ (16 * n), fun n => n, ⟨16, [], [], ⟨jV _, hv0⟩, zaE⟩, fun n hg => ?_⟩
 obtain ⟨hn, heq⟩ := hg
 conv => whnf
 refine vIf (fun hc => ?_) fun hc => ?_
 ·obtain ⟨k, rfl⟩ : ∃ k, n = k + 1 := ⟨n - 1, by
   have : (n : Int) - 1 ≥ 0 := of_decide_eq_true hc
   omega⟩
  have ek : ((k + 1 : Nat) : Int) - 1 = (k : Int) := by omega
  rw [ek]
  conv => whnf
  refine zas 5 [] (by kernel_rfl) ?_
  conv => whnf
  refine ⟨k, ⟨rfl, by omega⟩, .inr ?_⟩
  conv => whnf
  refine ⟨by omega, ?_⟩
  conv => whnf
  refine zaq (zaa (rs := []) (Rs := []) rfl rfl rfl (by kernel_rfl) rfl fun h X w H => zEN (by omega) H.xk) ?_
  conv => whnf
  refine vIf (fun hc => ?_) fun hc => ?_
  ·have hne : zai v k ≠ zai pN k := fun e => by rw [e] at hc; simp at hc
   conv => whnf
   refine zas 5 [] (by kernel_rfl) ?_
   conv => whnf
   refine ⟨k, ⟨rfl, by omega⟩, .inr ?_⟩
   conv => whnf
   refine ⟨by omega, ?_⟩
   conv => whnf
   refine zaq (zaa (rs := []) (Rs := []) rfl rfl rfl (by kernel_rfl) rfl fun h X w H => zEN (by omega) H.xk) ?_
   conv => whnf
   refine vIf (fun hc2 => ?_) fun hc2 => ?_ <;> (conv => whnf) <;> refine zag ?_ <;> rw [← zvJ heq hne] <;> exact congrArg za4 hc2.symm
  ·have he : zai v k = zai pN k := by
    have : ¬ (((zai v k : Nat) : Int) ≠ ((zai pN k : Nat) : Int)) := by simpa using hc
    omega
   conv => whnf
   refine zbq (by omega) (by omega) ?_
   conv => whnf
   exact ⟨k, [], [], ⟨⟨by omega, by rw [zqu v k, zqu pN k, heq, he]⟩, Nat.lt_succ_self k⟩, zaE⟩
 ·obtain rfl : n = 0 := by
   have : ¬ (n : Int) - 1 ≥ 0 := of_decide_eq_false hc
   omega
  conv => whnf
  refine zag ?_
  have : v = pN := by simpa using heq
  rw [this, decide_eq_false (Nat.lt_irrefl _)]
  rfl
def zvK (X : Nat → Nat) (m : MB) : MB := (2, .blk [.row 16 (uw X)] 181) :: m
def zyD (L : Nat → Nat) (g : (Nat → Nat) × Nat) : Prop := (∀ i, i < 16 → g.1 i < 70368744177664) ∧ zaP g.1 16 % pN = zaP L 32 % pN ∧ (g.2 = 0 → ∀ i, i < 16 → g.1 i < 65536)
theorem zrY {L : Nat → Nat} (hL : ∀ i, i < 32 → L i < 1099511627776) (g : Nat → Nat) : zyD L (zcS (fun i => L i + 38 * L (16 + i)) g 16, 1) := by
 obtain ⟨F, hF⟩ : ∃ F : Nat → Nat, F = fun i => L i + 38 * L (16 + i) := ⟨_, rfl⟩
 rw [← hF]
 refine ⟨fun i hi => ?_, ?_, fun h => by cases h⟩
 ·have h1 := hL i (by omega)
  have h2 := hL (16 + i) (by omega)
  show zcS F g 16 i < _
  rw [zdJ hi, hF]
  show L i + 38 * L (16 + i) < _
  omega
 ·show zaP (zcS F g 16) 16 % pN = _
  rw [zb9 _ F 16 fun i hi => zdJ hi, hF]
  exact zrF L
theorem zvL {L : Nat → Nat} {g : (Nat → Nat) × Nat} (h : zyD L g) (hz : g.2 ≠ 0) (X : Nat → Nat) (hX : ∀ i, i < 16 → X i = zho g.1 i) : zyD L (X, ovR g.1 16) ∧ (if ovR g.1 16 = 0 then 0 else zaP X 16 + 1) < (if g.2 = 0 then 0 else zaP g.1 16 + 1) := by
 obtain ⟨h1, h2, h3⟩ := h
 have hv := zb9 X (zho g.1) 16 hX
 have hp := zqt g.1
 refine ⟨⟨fun i hi => by show X i < _; rw [hX i hi]; exact zBx g.1 h1 i hi, ?_, fun h i hi => by show X i < _; rw [hX i hi]; exact zuQ g.1 h i⟩, ?_⟩
 ·show zaP X 16 % pN = _
  rw [hv, ← h2, ← zqt g.1, Nat.mul_left_comm, Nat.mul_comm, Nat.add_mul_mod_self_right]
 ·rw [if_neg hz, hv]
  have h5 := zqw
  split
  ·omega
  ·rename_i h6
   have : 1 ≤ ovR g.1 16 * (pN * 2) := Nat.mul_pos (by omega) (by omega)
   omega
theorem zkX {L : Nat → Nat} (hL : ∀ i, i < 32 → L i < 1099511627776) {v : Nat} (hv : zaP L 32 = v) (hX : ∀ k ∈ X, k < w.heap.size) : Ct Tryz.prog 169 [.agg (ca [.row 32 (uw L)])] X w (.a (.agg [.row 16 (uw (zai (v % pN)))])) [] [] := by
 subst hv
 refine vFn (k0 := 0) (rs := [.cell 2 181]) (svs := [.a (.agg [.row 32 (uw L)])]) (R0 := []) (hnQ []) Tryz.ntmps169 Tryz.func169 rfl rfl rfl rfl rfl zah (by kernel_rfl) hX (fun r hr => by cases hr) ?_
 conv => whnf
 refine ⟨Nat, fun k l m R n => ⟨k, (10, zam .i64 n) :: zaC [1, 2, 3] l, zvK (zcS (fun i => L i + 38 * L (16 + i)) (fun _ => 0) n) m, R⟩, fun n => n ≤ 16, fun n => 16 - n, ⟨0, [], [], Nat.zero_le _, zaE⟩, fun n hn => ?_⟩
 conv => whnf
 refine vIf (fun hc => ?_) fun hc => ?_
 ·have hn2 : n < 16 := by
   have : (n : Int) < 16 := of_decide_eq_true hc
   omega
  have b0 := hL n (by omega)
  have b1 := hL (16 + n) (by omega)
  conv => whnf
  refine zas 10 [] (by kernel_rfl) ?_
  conv => whnf
  refine ⟨n, ⟨rfl, by omega⟩, .inr ?_⟩
  conv => whnf
  refine ⟨by omega, ?_⟩
  conv => whnf
  refine za5 (show (16 : Int) + (n : Int) = ((16 + n : Nat) : Int) by omega) (by omega) (by omega) ?_
  conv => whnf
  refine ⟨16 + n, ⟨rfl, by omega⟩, .inr ?_⟩
  conv => whnf
  refine ⟨by omega, ?_⟩
  conv => whnf
  refine zmJ (x := 38) (y := L (16 + n)) rfl rfl (by omega) ?_
  conv => whnf
  refine zaJ (x := L n) (y := 38 * L (16 + n)) rfl rfl (by omega) ?_
  conv => whnf
  refine ⟨n, ⟨rfl, by omega⟩, .inr ?_⟩
  conv => whnf
  refine zao (zfA (uw (zcS (fun i => L i + 38 * L (16 + i)) (fun _ => 0) (n + 1))) rfl rfl rfl rfl rfl rfl hn2 (zcJ rfl)) ?_
  conv => whnf
  refine zbq (by omega) (by omega) ?_
  conv => whnf
  exact ⟨n + 1, [], [], ⟨hn2, Nat.sub_lt_sub_left hn2 (Nat.lt_succ_self n)⟩, zaE⟩
 have hn16 : n = 16 := by
   have : ¬ (n : Int) < 16 := of_decide_eq_false hc
   omega
 subst hn16
 conv => whnf
 refine ⟨(Nat → Nat) × Nat, fun k l m R g => ⟨k, (5, zam .u64 g.2) :: zaC [2, 3] l, zvK g.1 m, R⟩, zyD L, fun g => if g.2 = 0 then 0 else zaP g.1 16 + 1, ⟨(_, 1), [], [], zrY hL (fun _ => 0), zaE⟩, fun g hg => ?_⟩
 obtain ⟨Y, ov⟩ := g
 conv => whnf
 refine vIf (fun hc => ?_) fun hc => ?_
 ·have hz : ov ≠ 0 := fun e => by subst e; cases hc
  have hYb := hg.1
  conv => whnf
  refine ⟨Nat, fun k l m R n => ⟨k, (27, zam .i64 n) :: (5, zam .u64 ((ovR Y n : Nat) : Int)) :: zaC [2, 3] l, zvK (zcS (loR Y) Y n) m, R⟩, fun n => n ≤ 16, fun n => 16 - n, ⟨0, [], [], Nat.zero_le _, zaE⟩, fun n hn => ?_⟩
  have ob := zuP Y hYb n hn
  conv => whnf
  refine vIf (fun hc => ?_) fun hc => ?_
  ·have hn2 : n < 16 := by
    have : (n : Int) < 16 := of_decide_eq_true hc
    omega
   have hyn : Y n < 70368744177664 := hYb n hn2
   conv => whnf
   refine ⟨n, ⟨rfl, by omega⟩, .inr ?_⟩
   conv => whnf
   refine ⟨hn2, ?_⟩
   conv => whnf
   refine zaJ (x := ovR Y n) (y := zcS (loR Y) Y n n) rfl rfl (by rw [zir (jV n)]; omega) ?_
   rw [zir (jV n), Nat.add_comm (ovR Y n)]
   conv => whnf
   refine zio (c := 65536) rfl (by decide) ?_
   conv => whnf
   refine ⟨n, ⟨rfl, by omega⟩, .inr ?_⟩
   conv => whnf
   refine zao (zfA (uw (zcS (loR Y) Y (n + 1))) rfl rfl rfl rfl rfl rfl hn2 (zcJ rfl)) ?_
   conv => whnf
   refine zvB (c := 65536) rfl (by decide) (by omega) ?_
   conv => whnf
   refine zbq (by omega) (by omega) ?_
   conv => whnf
   exact ⟨n + 1, [], [], ⟨hn2, Nat.sub_lt_sub_left hn2 (Nat.lt_succ_self n)⟩, zaE⟩
  have hn16 : n = 16 := by
    have : ¬ (n : Int) < 16 := of_decide_eq_false hc
    omega
  subst hn16
  obtain ⟨Z, hZ⟩ : ∃ Z, Z = zcS (loR Y) Y 16 := ⟨_, rfl⟩
  have hZi : ∀ i, i < 16 → Z i = loR Y i := fun i hi => by rw [hZ, zdJ hi]
  have hZ0 : Z 0 < 65536 := by rw [hZi 0 (by decide)]; exact znh Y 0
  rw [← hZ]
  conv => whnf
  refine ⟨0, ⟨rfl, by omega⟩, .inr ?_⟩
  conv => whnf
  refine ⟨by decide, ?_⟩
  conv => whnf
  refine zmJ (x := 38) (y := ovR Y 16) rfl rfl (by omega) ?_
  conv => whnf
  refine zaJ (x := Z 0) (y := 38 * ovR Y 16) rfl rfl (by omega) ?_
  conv => whnf
  refine ⟨0, ⟨rfl, by omega⟩, .inr ?_⟩
  conv => whnf
  refine zao (zfA (uw fun i => if i = 0 then Z 0 + 38 * ovR Y 16 else Z i) rfl rfl rfl rfl rfl rfl (by decide) (fun i => by by_cases h : i = 0 <;> simp [upd, uw, h])) ?_
  conv => whnf
  have hnx := zvL hg hz (fun i => if i = 0 then Z 0 + 38 * ovR Y 16 else Z i) fun i hi => by
   unfold zho
   by_cases h : i = 0
   ·rw [if_pos h, if_pos h, hZi 0 (by decide)]
   ·rw [if_neg h, if_neg h, hZi i hi]
  exact ⟨(fun i => if i = 0 then Z 0 + 38 * ovR Y 16 else Z i, ovR Y 16), [], [], hnx, zaE⟩
 have hz : ov = 0 := by
   have : ¬ (ov : Int) > 0 := of_decide_eq_false hc
   omega
 subst hz
 conv => whnf
 obtain ⟨V, hV⟩ : ∃ V, V = zaP Y 16 := ⟨_, rfl⟩
 have hV256 : V < 2 ^ 256 := by rw [hV]; exact zkI Y 16 (hg.2.2 rfl)
 have hVp : V % pN = zaP L 32 % pN := by rw [hV]; exact hg.2.1
 have hVi : ∀ i, i < 16 → Y i = zai V i := fun i hi => by rw [hV, zx6 Y 16 (hg.2.2 rfl) i hi]
 refine ⟨(Nat → Nat) × Nat, fun k l m R g => ⟨k, zaC [2, 3] l, zvK g.1 m, R⟩, fun g => g.2 < 2 ^ 256 ∧ g.2 % pN = zaP L 32 % pN ∧ ∀ i, i < 16 → g.1 i = zai g.2 i, fun g => g.2, ⟨(Y, V), [], [], ⟨hV256, hVp, hVi⟩, zaE⟩, fun g hg => ?_⟩
 clear hV hV256 hVp hVi
 obtain ⟨Z, V⟩ := g
 obtain ⟨hV, hVp, hVi⟩ : V < 2 ^ 256 ∧ V % pN = zaP L 32 % pN ∧ ∀ i, i < 16 → Z i = zai V i := hg
 conv => whnf
 by_cases hp : V < pN
 ·refine zac rfl rfl rfl (by kernel_rfl) (fun h X w H => by
   have := zq3 hV H.xk
   rw [decide_eq_true hp, ← zeF hVi] at this
   exact this) rfl rfl rfl ?_
  conv => whnf
  refine ⟨fun _ _ => rfl, ?_⟩
  conv => whnf
  refine ziq (.a (.agg [.row 16 (uw (zai (zaP L 32 % pN)))])) (fun h => congrArg Value.agg (zeF fun i hi => ?_)) rfl (zag rfl)
  rw [← hVp, Nat.mod_eq_of_lt hp]
  exact (hVi i hi).symm
 have hle : pN ≤ V := Nat.le_of_not_lt hp
 refine zac rfl rfl rfl (by kernel_rfl) (fun h X w H => by
  have := zq3 hV H.xk
  rw [decide_eq_false hp, ← zeF hVi] at this
  exact this) rfl rfl rfl ?_
 conv => whnf
 refine ⟨Nat, fun k l m R n => ⟨k, (51, zam .i64 n) :: (7, zam .u64 ((boN V pN n : Nat) : Int)) :: zaC [2, 3] l, zvK (zcS (zai (V - pN)) Z n) m, R⟩, fun n => n ≤ 16, fun n => 16 - n, ⟨0, [], [], Nat.zero_le _, zaE⟩, fun n hn => ?_⟩
 conv => whnf
 refine vIf (fun hc => ?_) fun hc => ?_
 ·have hn2 : n < 16 := by
   have : (n : Int) < 16 := of_decide_eq_true hc
   omega
  have hx : zcS (zai (V - pN)) Z n n = zai V n := by rw [zir (jV n), hVi n hn2]
  have pv := zbY V n
  have pp := zbY pN n
  have ub : boN V pN n ≤ 1 := by unfold boN; split <;> omega
  have ss := zqv V pN n hle
  conv => whnf
  refine zas 8 [] (by kernel_rfl) ?_
  conv => whnf
  refine ⟨n, ⟨rfl, by omega⟩, .inr ?_⟩
  conv => whnf
  refine ⟨hn2, ?_⟩
  conv => whnf
  refine zaJ (x := 65536) (y := zcS (zai (V - pN)) Z n n) rfl rfl (by rw [hx]; omega) ?_
  rw [hx]
  conv => whnf
  refine zaq (zaa (rs := []) (Rs := []) rfl rfl rfl (by kernel_rfl) rfl fun h X w H => zEN hn2 H.xk) ?_
  conv => whnf
  refine zsJ (x := 65536 + zai V n) (y := zai pN n) rfl rfl (by omega) (by omega) ?_
  conv => whnf
  refine zsJ (x := 65536 + zai V n - zai pN n) (y := boN V pN n) rfl rfl (by omega) (by omega) ?_
  conv => whnf
  refine zio (c := 65536) rfl (by decide) ?_
  conv => whnf
  refine ⟨n, ⟨rfl, by omega⟩, .inr ?_⟩
  conv => whnf
  refine zao (zfA (uw (zcS (zai (V - pN)) Z (n + 1))) rfl rfl rfl rfl rfl rfl hn2 (zcJ (by rw [ss.1]))) ?_
  conv => whnf
  refine zvB (c := 65536) rfl (by decide) (by omega) ?_
  conv => whnf
  refine zsJ (x := 1) (y := (65536 + zai V n - zai pN n - boN V pN n) / 65536) rfl rfl (by omega) (by omega) ?_
  rw [ss.2]
  conv => whnf
  refine zbq (by omega) (by omega) ?_
  conv => whnf
  exact ⟨n + 1, [], [], ⟨hn2, Nat.sub_lt_sub_left hn2 (Nat.lt_succ_self n)⟩, zaE⟩
 have hn16 : n = 16 := by
   have : ¬ (n : Int) < 16 := of_decide_eq_false hc
   omega
 subst hn16
 conv => whnf
 have hp0 := zqw
 exact ⟨(zcS (zai (V - pN)) Z 16, V - pN), [], [], ⟨⟨Nat.lt_of_le_of_lt (Nat.sub_le _ _) hV, by show (V - pN) % pN = _; rw [← hVp, ← Nat.mod_eq_sub_mod hle], fun i hi => zdJ hi⟩, Nat.sub_lt (jT hp0 hle) hp0⟩, zaE⟩
end
end
section
open Go.RowKit
theorem zCi {A B : Nat → Nat} {i k : Nat} {v : Int} (hi : i < 16) (hk : k < 16) (hv : v = ((zhb A B (16 * i + k) (i + k) + A i * B k : Nat) : Int)) (u : Nat) : upd (uw (zhb A B (16 * i + k))) (i + k) (.int .u64 v) u = uw (zhb A B (16 * i + (k + 1))) u := by
 subst hv
 have e : zhb A B (16 * i + (k + 1)) u = zhb A B (16 * i + k) u + if i + k = u then A i * B k else 0 := by
  rw [← Nat.add_assoc, ziD, show (16 * i + k) / 16 = i from by omega, show (16 * i + k) % 16 = k from by omega]
 unfold upd uw
 rw [e]
 by_cases h : u = i + k
 ·subst h; rw [if_pos rfl, if_pos rfl]
 ·rw [if_neg h, if_neg (Ne.symm h), Nat.add_zero]
section
variable {X : List Nat} {w : World} {a b : Nat}
def lM (f : Nat → Nat) (m : MB) : MB := (3, .blk [.row 32 (uw f)] 210) :: m
theorem zCj (ha : a < 2 ^ 256) (hb : b < 2 ^ 256) (hX : ∀ k ∈ X, k < w.heap.size) : Ct Tryz.prog 171 [.agg (ca [.row 16 (uw (zai a))]), .agg (ca [.row 16 (uw (zai b))])] X w (.a (.agg [.row 16 (uw (zai ((a + b) % pN)))])) [] [] := by
 refine vFn (k0 := 0) (rs := [.cell 4 181]) (svs := [.a (.agg [.row 16 (uw (zai a))]), .a (.agg [.row 16 (uw (zai b))])]) (R0 := []) (hnQ []) Tryz.ntmps171 Tryz.func171 rfl rfl rfl rfl rfl zah (by kernel_rfl) hX (fun r hr => by cases hr) ?_
 conv => whnf
 refine ⟨Nat, fun k l m R n => ⟨k, (7, zam .i64 n) :: zaC [2, 3, 4, 5] l, lM (zcS (fun i => zai a i + zai b i) (fun _ => 0) n) m, R⟩, fun n => n ≤ 16, fun n => 16 - n, ⟨0, [], [], Nat.zero_le _, zaE⟩, fun n hn => ?_⟩
 conv => whnf
 refine vIf (fun hc => ?_) fun hc => ?_
 ·have hn2 : n < 16 := by
   have : (n : Int) < 16 := of_decide_eq_true hc
   omega
  have pv := zbY a n
  have pp := zbY b n
  conv => whnf
  refine zas 8 [] (by kernel_rfl) ?_
  conv => whnf
  refine ⟨n, ⟨rfl, by omega⟩, .inr ?_⟩
  conv => whnf
  refine ⟨hn2, ?_⟩
  conv => whnf
  refine ⟨n, ⟨rfl, by omega⟩, .inr ?_⟩
  conv => whnf
  refine ⟨hn2, ?_⟩
  conv => whnf
  refine zaJ (x := zai a n) (y := zai b n) rfl rfl (by omega) ?_
  conv => whnf
  refine ⟨n, ⟨rfl, by omega⟩, .inr ?_⟩
  conv => whnf
  refine zao (zfA (uw (zcS (fun i => zai a i + zai b i) (fun _ => 0) (n + 1))) rfl rfl rfl rfl rfl rfl (by omega) (zcJ rfl)) ?_
  conv => whnf
  refine zbq (by omega) (by omega) ?_
  conv => whnf
  exact ⟨n + 1, [], [], ⟨hn2, Nat.sub_lt_sub_left hn2 (Nat.lt_succ_self n)⟩, zaE⟩
 have hn16 : n = 16 := by
   have : ¬ (n : Int) < 16 := of_decide_eq_false hc
   omega
 subst hn16
 conv => whnf
 refine zac rfl rfl rfl (by kernel_rfl) (fun h X w H => zkX (L := zcS (fun i => zai a i + zai b i) (fun _ => 0) 16) (fun i _ => zuS a b i) (zqx a b ha hb) H.xk) rfl rfl rfl ?_
 conv => whnf
 refine ⟨fun _ _ => rfl, ?_⟩
 conv => whnf
 exact zag rfl
theorem zCk (ha : a < 2 ^ 256) (hb : b < pN) (hX : ∀ k ∈ X, k < w.heap.size) : Ct Tryz.prog 170 [.agg (ca [.row 16 (uw (zai a))]), .agg (ca [.row 16 (uw (zai b))])] X w (.a (.agg [.row 16 (uw (zai ((a + (pN - b)) % pN)))])) [] [] := by
 refine vFn (k0 := 0) (rs := [.cell 4 181]) (svs := [.a (.agg [.row 16 (uw (zai a))]), .a (.agg [.row 16 (uw (zai b))])]) (R0 := []) (hnQ []) Tryz.ntmps170 Tryz.func170 rfl rfl rfl rfl rfl zah (by kernel_rfl) hX (fun r hr => by cases hr) ?_
 conv => whnf
 refine ⟨Nat × Nat, fun k l m R g => ⟨k, (9, zam .i64 g.1) :: (6, zam .u64 g.2) :: zaC [2, 3, 4, 5] l, lM (zcS (fun i => zai a i + zai (pN - b) i) (fun _ => 0) g.1) m, R⟩, fun g => g.1 ≤ 16 ∧ g.2 = boN pN b g.1, fun g => 16 - g.1, ⟨(0, 0), [], [], ⟨Nat.zero_le _, (zBy _ _).symm⟩, zaE⟩, fun g hg => ?_⟩
 obtain ⟨n, u⟩ := g
 obtain ⟨hn, hu⟩ : n ≤ 16 ∧ u = boN pN b n := hg
 subst hu
 conv => whnf
 refine vIf (fun hc => ?_) fun hc => ?_
 ·have hn2 : n < 16 := by
   have : (n : Int) < 16 := of_decide_eq_true hc
   omega
  have pv := zbY b n
  have pp := zbY pN n
  have pa := zbY a n
  have ub : boN pN b n ≤ 1 := by unfold boN; split <;> omega
  have ss := zqv pN b n (Nat.le_of_lt hb)
  conv => whnf
  refine zas 8 [] (by kernel_rfl) ?_
  conv => whnf
  refine zaq (zaa (rs := []) (Rs := []) rfl rfl rfl (by kernel_rfl) rfl fun h X w H => zEN hn2 H.xk) ?_
  conv => whnf
  refine zaJ (x := 65536) (y := zai pN n) rfl rfl (by omega) ?_
  conv => whnf
  refine ⟨n, ⟨rfl, by omega⟩, .inr ?_⟩
  conv => whnf
  refine ⟨hn2, ?_⟩
  conv => whnf
  refine zsJ (x := 65536 + zai pN n) (y := zai b n) rfl rfl (by omega) (by omega) ?_
  conv => whnf
  refine zsJ (x := 65536 + zai pN n - zai b n) (y := boN pN b n) rfl rfl (by omega) (by omega) ?_
  conv => whnf
  refine ⟨n, ⟨rfl, by omega⟩, .inr ?_⟩
  conv => whnf
  refine ⟨hn2, ?_⟩
  conv => whnf
  refine zio (c := 65536) rfl (by decide) ?_
  conv => whnf
  refine zaJ (x := zai a n) (y := (65536 + zai pN n - zai b n - boN pN b n) % 65536) rfl rfl (by omega) ?_
  conv => whnf
  refine ⟨n, ⟨rfl, by omega⟩, .inr ?_⟩
  conv => whnf
  refine zao (zfA (uw (zcS (fun i => zai a i + zai (pN - b) i) (fun _ => 0) (n + 1))) rfl rfl rfl rfl rfl rfl (by omega) (zcJ (by rw [ss.1]))) ?_
  conv => whnf
  refine zvB (c := 65536) rfl (by decide) (by omega) ?_
  conv => whnf
  refine zsJ (x := 1) (y := (65536 + zai pN n - zai b n - boN pN b n) / 65536) rfl rfl (by omega) (by omega) ?_
  rw [ss.2]
  conv => whnf
  refine zbq (by omega) (by omega) ?_
  conv => whnf
  exact ⟨(n + 1, boN pN b (n + 1)), [], [], ⟨⟨hn2, rfl⟩, Nat.sub_lt_sub_left hn2 (Nat.lt_succ_self n)⟩, zaE⟩
 have hn16 : n = 16 := by
   have : ¬ (n : Int) < 16 := of_decide_eq_false hc
   omega
 subst hn16
 conv => whnf
 refine zac rfl rfl rfl (by kernel_rfl) (fun h X w H => zkX (L := zcS (fun i => zai a i + zai (pN - b) i) (fun _ => 0) 16) (fun i _ => zuS a (pN - b) i) (zqx a (pN - b) ha (Nat.lt_of_le_of_lt (Nat.sub_le _ _) zx9)) H.xk) rfl rfl rfl ?_
 conv => whnf
 refine ⟨fun _ _ => rfl, ?_⟩
 conv => whnf
 exact zag rfl
theorem zo0 (ha : a < 2 ^ 256) (hb : b < 2 ^ 256) (hX : ∀ k ∈ X, k < w.heap.size) : Ct Tryz.prog 143 [.agg (ca [.row 16 (uw (zai a))]), .agg (ca [.row 16 (uw (zai b))])] X w (.a (.agg [.row 16 (uw (zai (a * b % pN)))])) [] [] := by
 have hacc : ∀ n c, n ≤ 256 → zhb (zai a) (zai b) n c ≤ n * 4294836225 := fun n c hn => zuT _ _ (fun i _ => zbY a i) (fun i _ => zbY b i) c n hn
 refine vFn (k0 := 0) (rs := [.cell 4 181]) (svs := [.a (.agg [.row 16 (uw (zai a))]), .a (.agg [.row 16 (uw (zai b))])]) (R0 := []) (hnQ []) Tryz.ntmps143 Tryz.func143 rfl rfl rfl rfl rfl zah (by kernel_rfl) hX (fun r hr => by cases hr) ?_
 conv => whnf
 refine ⟨Nat, fun k l m R n => ⟨k, (11, zam .i64 n) :: zaC [2, 3, 4, 5, 10] l, lM (zhb (zai a) (zai b) (16 * n)) m, R⟩, fun n => n ≤ 16, fun n => 16 - n, ⟨0, [], [], Nat.zero_le _, zaE⟩, fun n hn => ?_⟩
 conv => whnf
 refine vIf (fun hc => ?_) fun hc => ?_
 ·have hn2 : n < 16 := by
   have : (n : Int) < 16 := of_decide_eq_true hc
   omega
  have pa := zbY a n
  conv => whnf
  refine ⟨n, ⟨rfl, hn2⟩, ?_⟩
  conv => whnf
  refine ⟨Nat, fun k l m R j => ⟨k, (16, zam .i64 j) :: zaC [2, 3, 4, 5, 6, 7, 10, 11, 15] l, lM (zhb (zai a) (zai b) (16 * n + j)) m, R⟩, fun j => j ≤ 16, fun j => 16 - j, ⟨0, [], [], Nat.zero_le _, zaE⟩, fun j hj => ?_⟩
  conv => whnf
  refine vIf (fun hc => ?_) fun hc => ?_
  ·have hj2 : j < 16 := by
    have : (j : Int) < 16 := of_decide_eq_true hc
    omega
   have pb := zbY b j
   have h1 : zai a n * zai b j ≤ 4294836225 := jU (Nat.mul_le_mul (show zai a n ≤ 65535 by omega) (show zai b j ≤ 65535 by omega)) (by decide)
   have h2 := hacc (16 * n + j) (n + j) (by omega)
   conv => whnf
   refine ⟨j, ⟨rfl, hj2⟩, ?_⟩
   conv => whnf
   refine za5 (show (n : Int) + (j : Int) = ((n + j : Nat) : Int) by omega) (by omega) (by omega) ?_
   conv => whnf
   refine ⟨n + j, ⟨rfl, by omega⟩, .inr ?_⟩
   conv => whnf
   refine ⟨by omega, ?_⟩
   conv => whnf
   refine zmJ (x := zai a n) (y := zai b j) rfl rfl (by omega) ?_
   conv => whnf
   refine zaJ (x := zhb (zai a) (zai b) (16 * n + j) (n + j)) (y := zai a n * zai b j) rfl rfl (by omega) ?_
   conv => whnf
   refine ⟨n + j, ⟨rfl, by omega⟩, .inr ?_⟩
   conv => whnf
   refine zao (zfA (uw (zhb (zai a) (zai b) (16 * n + (j + 1)))) rfl rfl rfl rfl rfl rfl (by omega) (zCi hn2 hj2 rfl)) ?_
   conv => whnf
   refine zbq (by omega) (by omega) ?_
   conv => whnf
   exact ⟨j + 1, [], [], ⟨hj2, Nat.sub_lt_sub_left hj2 (Nat.lt_succ_self j)⟩, zaE⟩
  have hj16 : j = 16 := by
    have : ¬ (j : Int) < 16 := of_decide_eq_false hc
    omega
  subst hj16
  conv => whnf
  refine zbq (by omega) (by omega) ?_
  conv => whnf
  exact ⟨n + 1, [], [], ⟨hn2, Nat.sub_lt_sub_left hn2 (Nat.lt_succ_self n)⟩, zaE⟩
 have hn16 : n = 16 := by
   have : ¬ (n : Int) < 16 := of_decide_eq_false hc
   omega
 subst hn16
 conv => whnf
 refine zac rfl rfl rfl (by kernel_rfl) (fun h X w H => zkX (L := zhb (zai a) (zai b) 256) (fun i _ => by have := hacc 256 i (jV _); omega) (zBA a b ha hb) H.xk) rfl rfl rfl ?_
 conv => whnf
 refine ⟨fun _ _ => rfl, ?_⟩
 conv => whnf
 exact zag rfl
def zzA (f : Nat → Nat) : Nat → List Nat
 | 0 => []
 | n + 1 => zzA f n ++ [f n]
theorem zq4 (f : Nat → Nat) : ∀ n, (zzA f n).length = n
 | 0 => rfl
 | n + 1 => by rw [zzA, jQ, zq4 f n]; rfl
theorem zvM (f : Nat → Nat) : ∀ n, zzA f n = (List.range n).map f
 | 0 => rfl
 | n + 1 => by rw [zzA, zvM f n, List.range_succ, List.map_append]; rfl
theorem zyE (f : Nat → Nat) : zzA f 32 = zg6 f := zvM f 32
theorem zvN {v : Nat} (hX : ∀ k ∈ X, k < w.heap.size) : Ct Tryz.prog 142 [.agg (ca [.row 16 (uw (zai v))])] X w (.a (.agg [.key (zg6 (zaO v))])) [] [] := by
 refine vFn (k0 := 0) (rs := [.cell 2 23]) (svs := [.a (.agg [.row 16 (uw (zai v))])]) (R0 := []) (hnQ []) Tryz.ntmps142 Tryz.func142 rfl rfl rfl rfl rfl zah (by kernel_rfl) hX (fun r hr => by cases hr) ?_
 conv => whnf
 refine ⟨Nat × List Nat, fun k l m R g => ⟨k, (7, zam .i64 g.1) :: zaC [1, 2, 3, 6] l, (2, .blk [.key g.2] 23) :: m, R⟩, fun g => g.1 ≤ 16 ∧ g.2 = zzA (zaO v) (2 * g.1), fun g => 16 - g.1, ⟨(0, []), [], [], ⟨Nat.zero_le _, rfl⟩, zaE⟩, fun g hg => ?_⟩
 obtain ⟨n, kk⟩ := g
 obtain ⟨hn, hkk⟩ : n ≤ 16 ∧ kk = zzA (zaO v) (2 * n) := hg
 have hkl : kk.length = 2 * n := by rw [hkk, zq4]
 conv => whnf
 refine vIf (fun hc => ?_) fun hc => ?_
 ·have hn2 : n < 16 := by
   have : (n : Int) < 16 := of_decide_eq_true hc
   omega
  have pv := zbY v n
  conv => whnf
  refine ⟨n, ⟨rfl, hn2⟩, ?_⟩
  conv => whnf
  refine za5 (show (2 : Int) * (n : Int) = ((2 * n : Nat) : Int) by omega) (by omega) (by omega) ?_
  conv => whnf
  refine zio (c := 256) rfl (by decide) ?_
  rw [zqz]
  conv => whnf
  have hb1 : zaO v (2 * n) < 256 := by rw [← zqz]; omega
  have hb2 : zaO v (2 * n + 1) < 256 := by rw [← zni]; omega
  refine ⟨((zaO v (2 * n) : Nat) : Int), wU8 (by omega) (by omega), ?_⟩
  conv => whnf
  refine ⟨2 * n, ⟨rfl, by omega⟩, ?_⟩
  conv => whnf
  refine .inr ?_
  conv => whnf
  refine zao (zh9 (cs := [.key kk]) (cs' := [.key (kk ++ [zaO v (2 * n)])]) rfl rfl rfl rfl rfl (by kernel_rfl) (by show 0 + (2 * n) * 1 < 32; omega) fun h => zfe (kk := kk) (b := zaO v (2 * n)) (j := 0 + (2 * n) * 1) (by omega) (by omega)) ?_
  conv => whnf
  refine za5 (show (2 : Int) * (n : Int) = ((2 * n : Nat) : Int) by omega) (by omega) (by omega) ?_
  conv => whnf
  refine za5 (z' := ((2 * n + 1 : Nat) : Int)) (show ((2 * n : Nat) : Int) + 1 = _ by omega) (by omega) (by omega) ?_
  conv => whnf
  refine zvB (c := 256) rfl (by decide) (by omega) ?_
  rw [zni]
  conv => whnf
  refine ⟨((zaO v (2 * n + 1) : Nat) : Int), wU8 (by omega) (by omega), ?_⟩
  conv => whnf
  refine ⟨2 * n + 1, ⟨rfl, by omega⟩, ?_⟩
  conv => whnf
  refine .inr ?_
  conv => whnf
  refine zao (zh9 (cs := [.key (kk ++ [zaO v (2 * n)])]) (cs' := [.key (kk ++ [zaO v (2 * n)] ++ [zaO v (2 * n + 1)])]) rfl rfl rfl rfl rfl (by kernel_rfl) (by show 0 + (2 * n + 1) * 1 < 32; omega) fun h => zfe (kk := kk ++ [zaO v (2 * n)]) (b := zaO v (2 * n + 1)) (j := 0 + (2 * n + 1) * 1) (by simp; omega) (by simp; omega)) ?_
  conv => whnf
  refine zbq (by omega) (by omega) ?_
  conv => whnf
  exact ⟨(n + 1, kk ++ [zaO v (2 * n)] ++ [zaO v (2 * n + 1)]), [], [], ⟨⟨hn2, by rw [hkk]; rfl⟩, Nat.sub_lt_sub_left hn2 (Nat.lt_succ_self n)⟩, zaE⟩
 have hn16 : n = 16 := by
   have : ¬ (n : Int) < 16 := of_decide_eq_false hc
   omega
 subst hn16
 have hkf : kk = zg6 (zaO v) := by rw [hkk]; exact zyE _
 subst hkf
 conv => whnf
 exact zag rfl
end
end
section
open Go.RowKit
def putL (L : Nat → Nat) (c t j : Nat) : Nat := L j + if c = j then t else 0
theorem zyF {L : Nat → Nat} {c t : Nat} {v : Int} (hv : v = ((L c + t : Nat) : Int)) (u : Nat) : upd (uw L) c (.int .u64 v) u = uw (putL L c t) u := by
 subst hv
 unfold upd uw putL
 by_cases h : u = c
 ·subst h; rw [if_pos rfl, if_pos rfl]
 ·rw [if_neg h, if_neg (Ne.symm h), Nat.add_zero]
def zgY (k : Nat → Nat) (i : Nat) : Nat := if i % 2 = 1 then 256 * zfC k i else zfC k i
theorem zyG (L k : Nat → Nat) (i : Nat) (hi : i < 32) (h : zaP L 32 = kvN (zfC k) i) : zaP (putL L (i / 2) (zgY k i)) 32 = kvN (zfC k) (i + 1) := by
 refine zBC L (i / 2) (zgY k i) _ (by omega) ?_
 rw [h, zdC]
 unfold zgY
 split
 ·rename_i ho
  rw [hi8 _ i ho]
 ·rw [show 8 * i = 16 * (i / 2) from by omega]
theorem zvO {k : Nat → Nat} (hk : ∀ i, i < 32 → k i < 256) (i : Nat) (hi : i < 32) : zfC k i < 256 := by
 have := hk i hi
 unfold zfC
 split <;> omega
section
variable {X : List Nat} {w : World} {a b : Nat}
theorem zCm {kk : List Nat} (hkb : ∀ x ∈ kk, x < 256) (hX : ∀ k ∈ X, k < w.heap.size) : Ct Tryz.prog 139 [.agg (ca [.key kk])] X w (.a (.agg [.row 16 (uw (zai (zjo fun i => kk.getD i 0)))])) [] [] := by
 obtain ⟨K, hK⟩ : ∃ K : Nat → Nat, K = fun i => kk.getD i 0 := ⟨_, rfl⟩
 rw [← hK]
 have hKb : ∀ i, i < 32 → K i < 256 := fun i _ => by rw [hK]; exact zb1 hkb i
 refine vFn (k0 := 0) (rs := [.cell 2 181]) (svs := [.a (.agg [.key kk])]) (R0 := []) (hnQ []) Tryz.ntmps139 Tryz.func139 rfl rfl rfl rfl rfl zah (by kernel_rfl) hX (fun r hr => by cases hr) ?_
 conv => whnf
 refine ⟨Nat × (Nat → Nat), fun k l m R g => ⟨k, (8, zam .i64 g.1) :: zaC [2, 3, 7] l, (2, .blk [.row 32 (uw g.2)] 210) :: m, R⟩, fun g => g.1 ≤ 32 ∧ (∀ c, g.2 c ≤ g.1 * 65280) ∧ zaP g.2 32 = kvN (zfC K) g.1, fun g => 32 - g.1, ⟨(0, fun _ => 0), [], [], ⟨Nat.zero_le _, fun _ => Nat.zero_le _, zgW _ (fun _ => rfl) 32⟩, zaE⟩, fun g hg => ?_⟩
 obtain ⟨i, L⟩ := g
 obtain ⟨hi, hLl, hLv⟩ : i ≤ 32 ∧ (∀ c, L c ≤ i * 65280) ∧ zaP L 32 = kvN (zfC K) i := hg
 conv => whnf
 refine vIf (fun hc => ?_) fun hc => ?_
 ·have hi2 : i < 32 := by
   have : (i : Int) < 32 := of_decide_eq_true hc
   omega
  have hcb := zvO hKb i hi2
  have hLi := hLl (i / 2)
  have ht : zgY K i ≤ 65280 := by unfold zgY; split <;> omega
  have ki := hKb i hi2
  have hKi : kk.getD i 0 = K i := by rw [hK]
  conv => whnf
  refine ⟨i, ⟨rfl, hi2⟩, ?_⟩
  rw [hKi]
  conv => whnf
  refine zwc (by omega) (by omega) ?_
  conv => whnf
  refine .inr ⟨Unit, fun k l m R _ => ⟨k, (6, zam .u64 ((zfC K i : Nat) : Int)) :: zaC [2, 3, 4, 7, 8] l, m, R⟩, fun _ => True, ?_, fun _ _ => ?_⟩
  ·conv => whnf
   refine vIf (fun hc => ?_) fun hc => ?_
   ·have h31 : i = 31 := by have := eq_of_beq hc; omega
    conv => whnf
    refine zio (c := 128) rfl (by decide) ?_
    rw [show K i % 128 = zfC K i by unfold zfC; rw [if_pos h31, h31]]
    conv => whnf
    exact ⟨(), [], [], trivial, zaE⟩
   ·have h31 : i ≠ 31 := fun e => by subst e; cases hc
    rw [show K i = zfC K i by unfold zfC; rw [if_neg h31]]
    conv => whnf
    exact ⟨(), [], [], trivial, zaE⟩
  conv => whnf
  refine .inr ⟨Unit, fun k l m R _ => ⟨k, (6, zam .u64 ((zgY K i : Nat) : Int)) :: zaC [2, 3, 4, 7, 8] l, m, R⟩, fun _ => True, ?_, fun _ _ => ?_⟩
  ·conv => whnf
   refine zio (c := 2) rfl (by decide) ?_
   conv => whnf
   refine vIf (fun hc => ?_) fun hc => ?_
   ·have ho : i % 2 = 1 := by have := eq_of_beq hc; omega
    conv => whnf
    refine zmJ (x := 256) (y := zfC K i) rfl rfl (by omega) ?_
    rw [show 256 * zfC K i = zgY K i by unfold zgY; rw [if_pos ho]]
    conv => whnf
    exact ⟨(), [], [], trivial, zaE⟩
   ·have ho : i % 2 ≠ 1 := fun e => by rw [e] at hc; cases hc
    rw [show zfC K i = zgY K i by unfold zgY; rw [if_neg ho]]
    conv => whnf
    exact ⟨(), [], [], trivial, zaE⟩
  conv => whnf
  refine zud (c := 2) rfl (by decide) (by omega) ?_
  conv => whnf
  refine ⟨i / 2, ⟨rfl, by omega⟩, .inr ?_⟩
  conv => whnf
  refine ⟨by omega, ?_⟩
  conv => whnf
  refine zaJ (x := L (i / 2)) (y := zgY K i) rfl rfl (by omega) ?_
  conv => whnf
  refine ⟨i / 2, ⟨rfl, by omega⟩, .inr ?_⟩
  conv => whnf
  refine zao (zfA (uw (putL L (i / 2) (zgY K i))) rfl rfl rfl rfl rfl rfl (by omega) (zyF rfl)) ?_
  conv => whnf
  refine zbq (by omega) (by omega) ?_
  conv => whnf
  refine ⟨(i + 1, putL L (i / 2) (zgY K i)), [], [], ⟨⟨hi2, fun c => ?_, zyG L K i hi2 hLv⟩, Nat.sub_lt_sub_left hi2 (Nat.lt_succ_self i)⟩, zaE⟩
  have h1 := hLl c
  show putL L _ _ c ≤ (i + 1) * 65280
  rw [Nat.succ_mul]
  refine Nat.add_le_add h1 ?_
  split
  ·exact ht
  ·exact Nat.zero_le _
 have hi32 : i = 32 := by
   have : ¬ (i : Int) < 32 := of_decide_eq_false hc
   omega
 subst hi32
 conv => whnf
 refine zac rfl rfl rfl (by kernel_rfl) (fun h X w H => zkX (L := L) (fun c _ => by have := hLl c; omega) hLv H.xk) rfl rfl rfl ?_
 conv => whnf
 refine ⟨fun _ _ => rfl, ?_⟩
 conv => whnf
 exact zag rfl
theorem zvP (a : Nat) : zfI a 0 = 1 := rfl
attribute [local irreducible] zfI pN
theorem zrZ (ha : a < pN) (hX : ∀ k ∈ X, k < w.heap.size) : Ct Tryz.prog 144 [.agg (ca [.row 16 (uw (zai a))])] X w (.a (.agg [.row 16 (uw (zai (zfI a 255)))])) [] [] := by
 have hlt : ∀ k, zfI a k < 2 ^ 256 := fun k => Nat.lt_trans (zuV a k) zx9
 refine vFn (k0 := 0) (rs := [.cell 2 181]) (svs := [.a (.agg [.row 16 (uw (zai a))])]) (R0 := []) (hnQ []) Tryz.ntmps144 Tryz.func144 rfl rfl rfl rfl rfl zah (by kernel_rfl) hX (fun r hr => by cases hr) ?_
 conv => whnf
 refine ⟨uw (zai 1), ⟨rfl, rfl, rfl, rfl, rfl, rfl, rfl, rfl, rfl, rfl, rfl, rfl, rfl, rfl, rfl, rfl, trivial⟩, ?_⟩
 conv => whnf
 refine ⟨fun _ _ => rfl, ?_⟩
 conv => whnf
 refine ⟨Nat × Nat, fun k l m R g => ⟨k, (4, zam .i64 (254 - (g.1 : Int))) :: zaC [1, 2, 3] l, (2, .blk [.row 16 (uw (zai g.2))] 181) :: m, R⟩, fun g => g.1 ≤ 255 ∧ g.2 = zfI a g.1, fun g => 255 - g.1, ⟨(0, 1), [], [], ⟨Nat.zero_le _, (zvP a).symm⟩, zaE⟩, fun g hg => ?_⟩
 obtain ⟨n, v⟩ := g
 obtain ⟨hn, hv⟩ : n ≤ 255 ∧ v = zfI a n := hg
 have hvl : v < 2 ^ 256 := by rw [hv]; exact hlt n
 conv => whnf
 refine vIf (fun hc => ?_) fun hc => ?_
 ·replace hc : decide ((254 : Int) - (n : Int) ≥ 0) = true := hc
  have hn2 : n < 255 := by
   have := of_decide_eq_true hc
   omega
  conv => whnf
  refine .inr ⟨Unit, fun k l m R _ => ⟨k, zaC [1, 2, 3, 4] l, (2, .blk [.row 16 (uw (zai (zfI a (n + 1))))] 181) :: m, R⟩, fun _ => True, ?_, fun _ _ => ?_⟩
  ·conv => whnf
   refine zac rfl rfl rfl (by kernel_rfl) (fun h X w H => zo0 hvl hvl H.xk) rfl rfl rfl ?_
   conv => whnf
   refine ⟨fun _ _ => rfl, ?_⟩
   conv => whnf
   have hsq : zfI a n * zfI a n % pN < 2 ^ 256 := zuU _
   have same : n = 252 ∨ n = 250 → v * v % pN = zfI a (n + 1) := fun h => by rw [zgu, if_pos h, hv]
   refine vIf (fun hc => ?_) fun hc => ?_
   ·replace hc : ((254 : Int) - (n : Int) != 2) = true := hc
    have h2 := bne_iff_ne.1 hc
    conv => whnf
    refine vIf (fun hc => ?_) fun hc => ?_
    ·replace hc : ((254 : Int) - (n : Int) != 4) = true := hc
     have h4 := bne_iff_ne.1 hc
     have hs : v * v % pN * a % pN = zfI a (n + 1) := by rw [zgu, if_neg (by omega), hv]
     conv => whnf
     refine zac rfl rfl rfl (by kernel_rfl) (fun h X w H => zo0 (zuU _) (Nat.lt_trans ha zx9) H.xk) rfl rfl rfl ?_
     rw [hs]
     conv => whnf
     refine ⟨fun _ _ => rfl, ?_⟩
     conv => whnf
     exact ⟨(), [], [], trivial, zaE⟩
    ·replace hc : ((254 : Int) - (n : Int) != 4) = false := hc
     have h4 := bne_eq_false_iff_eq.1 hc
     rw [same (by omega)]
     conv => whnf
     exact ⟨(), [], [], trivial, zaE⟩
   ·replace hc : ((254 : Int) - (n : Int) != 2) = false := hc
    have h2 := bne_eq_false_iff_eq.1 hc
    rw [same (by omega)]
    conv => whnf
    exact ⟨(), [], [], trivial, zaE⟩
  conv => whnf
  refine za5 (z' := 254 - ((n + 1 : Nat) : Int)) (show (254 : Int) - (n : Int) - 1 = _ by omega) (by show (-9223372036854775808 : Int) ≤ 254 - (n : Int) - 1; omega) (by show (254 : Int) - (n : Int) - 1 ≤ _; omega) ?_
  conv => whnf
  exact ⟨(n + 1, zfI a (n + 1)), [], [], ⟨⟨hn2, rfl⟩, Nat.sub_lt_sub_left hn2 (Nat.lt_succ_self n)⟩, zaE⟩
 replace hc : decide ((254 : Int) - (n : Int) ≥ 0) = false := hc
 have hn5 : n = 255 := by
  have := of_decide_eq_false hc
  omega
 subst hn5
 subst hv
 conv => whnf
 refine ⟨fun _ _ => rfl, ?_⟩
 conv => whnf
 exact zag rfl
end
end
section
open Go.RowKit
theorem zvQ {a : Nat} (h : a < pN) : a < 2 ^ 256 := Nat.lt_trans h zx9
theorem zvR : 121665 < pN := by unfold pN; decide +kernel
theorem zEt : pN - 2 = 57896044618658097711785492504343953926634992332820282019728792003956564819947 := by unfold pN; decide +kernel
attribute [local irreducible] zfI pN
section
variable {X : List Nat} {w : World} {a b : Nat} {kk : List Nat} {q s : Pt}
def ptV (q : Pt) : List SC := [.row 16 (uw (zai q.x)), .row 16 (uw (zai q.z))]
def ptW (q : Pt) : List Chunk := [.row 16 (uw (zai q.x)), .row 16 (uw (zai q.z))]
theorem zvS (ha : a < pN) (hb : b < pN) (hX : ∀ k ∈ X, k < w.heap.size) : Ct Tryz.prog 171 [.agg (ca [.row 16 (uw (zai a))]), .agg (ca [.row 16 (uw (zai b))])] X w (.a (.agg [.row 16 (uw (zai (fA a b)))])) [] [] := zCj (zvQ ha) (zvQ hb) hX
theorem zvT (ha : a < pN) (hb : b < pN) (hX : ∀ k ∈ X, k < w.heap.size) : Ct Tryz.prog 170 [.agg (ca [.row 16 (uw (zai a))]), .agg (ca [.row 16 (uw (zai b))])] X w (.a (.agg [.row 16 (uw (zai (fS a b)))])) [] [] := zCk (zvQ ha) hb hX
theorem ziP (ha : a < pN) (hb : b < pN) (hX : ∀ k ∈ X, k < w.heap.size) : Ct Tryz.prog 143 [.agg (ca [.row 16 (uw (zai a))]), .agg (ca [.row 16 (uw (zai b))])] X w (.a (.agg [.row 16 (uw (zai (fM a b)))])) [] [] := zo0 (zvQ ha) (zvQ hb) hX
theorem zvU (hX : ∀ k ∈ X, k < w.heap.size) (hk : ∀ x ∈ kk, x < 256) : Ct Tryz.prog 138 [.agg (ca [.key kk])] X w (.a (.agg [.key (zeG kk)])) [] [] := by
 refine vFn (k0 := 0) (rs := [.cell 2 23]) (svs := [.a (.agg [.key kk])]) (R0 := []) (hnQ []) Tryz.ntmps138 Tryz.func138 rfl rfl rfl rfl rfl zah (by kernel_rfl) hX (fun r hr => by cases hr) ?_
 have hb0 := zb1 hk 0
 conv => whnf
 refine ⟨0, ⟨rfl, by decide⟩, .inl ?_⟩
 conv => whnf
 refine ⟨by decide, ((kk.getD 0 0 / 8 : Nat) : Int), ?_, ?_⟩
 ·show IntKind.u8.wrap (((kk.getD 0 0 : Nat) : Int).tdiv ((8 : Nat) : Int)) = _
  rw [← Int.ofNat_tdiv, wU8 (by omega) (by omega)]
 conv => whnf
 refine ⟨((kk.getD 0 0 / 8 * 8 : Nat) : Int), ?_, ?_⟩
 ·show IntKind.u8.wrap (((kk.getD 0 0 / 8 : Nat) : Int) * ((8 : Nat) : Int)) = _
  rw [← Int.natCast_mul, wU8 (by omega) (by omega)]
 conv => whnf
 refine ⟨0, ⟨rfl, by decide⟩, .inr ?_⟩
 conv => whnf
 refine zao (zgR (zg6 (zrz fun i => kk.getD i 0)) (fun t ht => zct _ t ht) rfl rfl rfl rfl (by kernel_rfl) (by decide)) ?_
 conv => whnf
 refine ⟨31, ⟨rfl, by decide⟩, .inl ?_⟩
 conv => whnf
 have h31 : (zg6 (zrz fun i => kk.getD i 0)).getD 31 0 = kk.getD 31 0 := zct _ 31 (by decide)
 have hb31 := zb1 hk 31
 refine zio (c := 64) rfl (by decide) ?_
 rw [h31]
 conv => whnf
 refine ⟨((kk.getD 31 0 % 64 + 64 : Nat) : Int), ?_, ?_⟩
 ·show IntKind.u8.wrap (((kk.getD 31 0 % 64 : Nat) : Int) + ((64 : Nat) : Int)) = _
  rw [← Int.natCast_add, wU8 (by omega) (by omega)]
 conv => whnf
 refine ⟨31, ⟨rfl, by decide⟩, .inr ?_⟩
 conv => whnf
 refine zao (zgR (zeG kk) (fun t ht => ?_) rfl rfl rfl rfl (by kernel_rfl) (by decide)) ?_
 ·rw [zeG, zct _ t ht, zct _ t ht, zbe, zrz]
  by_cases h0 : t = 0
  ·subst h0; rw [if_pos rfl, if_neg (by decide), if_pos rfl]
  ·rw [if_neg h0, if_neg h0]
 conv => whnf
 exact zag rfl
theorem zjD (hq : zfN q) (hX : ∀ k ∈ X, k < w.heap.size) : Ct Tryz.prog 141 [.agg (ca (ptW q))] X w (.a (.agg (ptV (znO q)))) [] [] := by
 refine vFn (k0 := 0) (rs := [.cell 2 184]) (svs := [.a (.agg (ptV q))]) (R0 := []) (hnQ []) Tryz.ntmps141 Tryz.func141 rfl rfl rfl rfl rfl zah (by kernel_rfl) hX (fun r hr => by cases hr) ?_
 conv => whnf
 refine zac rfl rfl rfl (by kernel_rfl) (fun h X w H => zvS hq.1 hq.2 H.xk) rfl rfl rfl ?_
 conv => whnf
 refine ⟨fun _ _ => rfl, ?_⟩
 conv => whnf
 refine zac rfl rfl rfl (by kernel_rfl) (fun h X w H => zvT hq.1 hq.2 H.xk) rfl rfl rfl ?_
 conv => whnf
 refine ⟨fun _ _ => rfl, ?_⟩
 conv => whnf
 refine zac rfl rfl rfl (by kernel_rfl) (fun h X w H => ziP (zot _ _) (zot _ _) H.xk) rfl rfl rfl ?_
 conv => whnf
 refine ⟨fun _ _ => rfl, ?_⟩
 conv => whnf
 refine zac rfl rfl rfl (by kernel_rfl) (fun h X w H => ziP (zmS _ _) (zmS _ _) H.xk) rfl rfl rfl ?_
 conv => whnf
 refine ⟨fun _ _ => rfl, ?_⟩
 conv => whnf
 refine zac rfl rfl rfl (by kernel_rfl) (fun h X w H => zvT (zc9 _ _) (zc9 _ _) H.xk) rfl rfl rfl ?_
 conv => whnf
 refine ⟨fun _ _ => rfl, ?_⟩
 conv => whnf
 refine ⟨uw (zai 121665), ⟨rfl, rfl, rfl, rfl, rfl, rfl, rfl, rfl, rfl, rfl, rfl, rfl, rfl, rfl, rfl, rfl, trivial⟩, ?_⟩
 conv => whnf
 refine ⟨fun _ _ => rfl, ?_⟩
 conv => whnf
 refine zas 9 [] (by kernel_rfl) ?_
 conv => whnf
 refine zaq (zaa (rs := []) (Rs := []) rfl rfl rfl (by kernel_rfl) rfl fun h X w H => ziP (zc9 _ _) (zc9 _ _) H.xk) ?_
 conv => whnf
 refine zaq (zaa (rs := []) (Rs := []) rfl rfl rfl (by kernel_rfl) rfl fun h X w H => ziP zvR (zmS _ _) H.xk) ?_
 conv => whnf
 refine zaq (zaa (rs := []) (Rs := []) rfl rfl rfl (by kernel_rfl) rfl fun h X w H => zvS (zc9 _ _) (zc9 _ _) H.xk) ?_
 conv => whnf
 refine zac rfl rfl rfl (by kernel_rfl) (fun h X w H => ziP (zmS _ _) (zot _ _) H.xk) rfl rfl rfl ?_
 conv => whnf
 refine ⟨fun _ _ => rfl, ?_⟩
 conv => whnf
 refine ⟨fun _ _ => rfl, ?_⟩
 conv => whnf
 exact zag rfl
theorem zvV {u : Nat} (hu : u < pN) (hq : zfN q) (hs : zfN s) (hX : ∀ k ∈ X, k < w.heap.size) : Ct Tryz.prog 140 [.agg (ca [.row 16 (uw (zai u))]), .agg (ca (ptW q)), .agg (ca (ptW s))] X w (.a (.agg (ptV (zks u q s)))) [] [] := by
 refine vFn (k0 := 0) (rs := [.cell 6 184]) (svs := [.a (.agg [.row 16 (uw (zai u))]), .a (.agg (ptV q)), .a (.agg (ptV s))]) (R0 := []) (hnQ []) Tryz.ntmps140 Tryz.func140 rfl rfl rfl rfl rfl zah (by kernel_rfl) hX (fun r hr => by cases hr) ?_
 conv => whnf
 refine zas 12 [1011] (by kernel_rfl) ?_
 conv => whnf
 refine zaq (zaa (rs := []) (Rs := []) rfl rfl rfl (by kernel_rfl) rfl fun h X w H => zvT hs.1 hs.2 H.xk) ?_
 conv => whnf
 refine zaq (zaa (rs := []) (Rs := []) rfl rfl rfl (by kernel_rfl) rfl fun h X w H => zvS hq.1 hq.2 H.xk) ?_
 conv => whnf
 refine zaq (zaa (rs := []) (Rs := []) rfl rfl rfl (by kernel_rfl) rfl fun h X w H => ziP (zmS _ _) (zot _ _) H.xk) ?_
 conv => whnf
 refine zcL rfl (zbU (z := [.row 16 (uw fun _ => 0)]) (fun hn => by kernel_rfl) rfl rfl) ?_
 conv => whnf
 refine ⟨fun _ _ => rfl, ?_⟩
 conv => whnf
 refine zas 12 [1011] (by kernel_rfl) ?_
 conv => whnf
 refine zaq (zaa (rs := []) (Rs := []) rfl rfl rfl (by kernel_rfl) rfl fun h X w H => zvS hs.1 hs.2 H.xk) ?_
 conv => whnf
 refine zaq (zaa (rs := []) (Rs := []) rfl rfl rfl (by kernel_rfl) rfl fun h X w H => zvT hq.1 hq.2 H.xk) ?_
 conv => whnf
 refine zaq (zaa (rs := []) (Rs := []) rfl rfl rfl (by kernel_rfl) rfl fun h X w H => ziP (zot _ _) (zmS _ _) H.xk) ?_
 conv => whnf
 refine zcL rfl (zbU (z := [.row 16 (uw fun _ => 0)]) (fun hn => by kernel_rfl) rfl rfl) ?_
 conv => whnf
 refine ⟨fun _ _ => rfl, ?_⟩
 conv => whnf
 refine zac rfl rfl rfl (by kernel_rfl) (fun h X w H => zvS (zc9 _ _) (zc9 _ _) H.xk) rfl rfl rfl ?_
 conv => whnf
 refine ⟨fun _ _ => rfl, ?_⟩
 conv => whnf
 refine zac rfl rfl rfl (by kernel_rfl) (fun h X w H => zvT (zc9 _ _) (zc9 _ _) H.xk) rfl rfl rfl ?_
 conv => whnf
 refine ⟨fun _ _ => rfl, ?_⟩
 conv => whnf
 refine zas 7 [] (by kernel_rfl) ?_
 conv => whnf
 refine zaq (zaa (rs := []) (Rs := []) rfl rfl rfl (by kernel_rfl) rfl fun h X w H => ziP (zot _ _) (zot _ _) H.xk) ?_
 conv => whnf
 refine zaq (zaa (rs := []) (Rs := []) rfl rfl rfl (by kernel_rfl) rfl fun h X w H => ziP (zmS _ _) (zmS _ _) H.xk) ?_
 conv => whnf
 refine zac rfl rfl rfl (by kernel_rfl) (fun h X w H => ziP hu (zc9 _ _) H.xk) rfl rfl rfl ?_
 conv => whnf
 refine ⟨fun _ _ => rfl, ?_⟩
 conv => whnf
 refine ⟨fun _ _ => rfl, ?_⟩
 conv => whnf
 exact zag rfl
end
theorem zyH : (fun _ : Nat => Value.int .u64 0) = uw (zai 0) := funext fun i => by unfold uw zai; rw [Nat.zero_div]; rfl
def ldM (p : Pt × Pt) (m : MB) : MB := (5, .blk (ptV p.1) 184) :: (6, .blk (ptV p.2) 184) :: m
section
variable {X : List Nat} {w : World} {kk uu : List Nat}
theorem zyI (hX : ∀ k ∈ X, k < w.heap.size) (hk : ∀ x ∈ kk, x < 256) (hu : ∀ x ∈ uu, x < 256) : Ct Tryz.prog 104 [.agg (ca [.key kk]), .agg (ca [.key uu])] X w (.a (.agg [.key (zg6 (zaO (zdu (fun i => kk.getD i 0) (zjo fun i => uu.getD i 0))))])) [] [] := by
 obtain ⟨K, hK⟩ : ∃ K : Nat → Nat, K = zbe fun i => kk.getD i 0 := ⟨_, rfl⟩
 obtain ⟨u, hue⟩ : ∃ u : Nat, u = zjo fun i => uu.getD i 0 := ⟨_, rfl⟩
 have hup : u < pN := by rw [hue]; exact zur _
 have hKk : ∀ i, i < 32 → (zeG kk).getD i 0 = K i := fun i hi => by rw [zeG, zct _ i hi, hK]
 have hlad := zmT u hup K
 refine vFn (k0 := 0) (rs := [.cell 4 23]) (svs := [.a (.agg [.key kk]), .a (.agg [.key uu])]) (R0 := []) (hnQ []) Tryz.ntmps104 Tryz.func104 rfl rfl rfl rfl rfl zah (by kernel_rfl) hX (fun r hr => by cases hr) ?_
 conv => whnf
 refine zac rfl rfl rfl (by kernel_rfl) (fun h X w H => zvU H.xk hk) rfl rfl rfl ?_
 conv => whnf
 refine zac rfl rfl rfl (by kernel_rfl) (fun h X w H => zCm hu H.xk) rfl rfl rfl ?_
 rw [← hue]
 conv => whnf
 refine ⟨fun _ _ => rfl, ?_⟩
 conv => whnf
 refine ⟨uw (zai 1), ⟨rfl, rfl, rfl, rfl, rfl, rfl, rfl, rfl, rfl, rfl, rfl, rfl, rfl, rfl, rfl, rfl, trivial⟩, ?_⟩
 conv => whnf
 refine ⟨fun _ _ => rfl, ?_⟩
 conv => whnf
 rw [zyH]
 refine ⟨fun _ _ => rfl, fun _ _ => rfl, ?_⟩
 conv => whnf
 refine ⟨fun _ _ => rfl, ?_⟩
 conv => whnf
 refine ⟨fun _ _ => rfl, ?_⟩
 conv => whnf
 refine ⟨Nat × (Pt × Pt), fun k l m R g => ⟨k, (9, zam .i64 (254 - (g.1 : Int))) :: zaC [2, 4, 5, 7, 8] l, ldM g.2 m, R⟩, fun g => g.1 ≤ 255 ∧ g.2 = zdP u K g.1, fun g => 255 - g.1, ⟨(0, (⟨1, 0⟩, ⟨u, 1⟩)), [], [], ⟨Nat.zero_le _, rfl⟩, zaE⟩, fun g hg => ?_⟩
 obtain ⟨n, ⟨p1, p2⟩⟩ := g
 obtain ⟨hn, hp⟩ : n ≤ 255 ∧ (p1, p2) = zdP u K n := hg
 have hp1 : zfN p1 := by have := (hlad n).1; rw [← hp] at this; exact this
 have hp2 : zfN p2 := by have := (hlad n).2; rw [← hp] at this; exact this
 have hnx : zdP u K (n + 1) = zgo u (zei K n) p1 p2 := by
  show zgo u (zei K n) (zdP u K n).1 (zdP u K n).2 = _
  rw [← hp]
 conv => whnf
 refine vIf (fun hc => ?_) fun hc => ?_
 ·replace hc : decide ((254 : Int) - (n : Int) ≥ 0) = true := hc
  have hn2 : n < 255 := by
   have := of_decide_eq_true hc
   omega
  have e1 : (254 : Int) - (n : Int) = ((254 - n : Nat) : Int) := by omega
  refine .inr ⟨Pt × Pt, fun k l m R g => ⟨k, zaC [2, 4, 5, 7, 8, 9] l, ldM g m, R⟩, fun g => g = zdP u K (n + 1), ?_, fun g hg => ?_⟩
  rotate_left
  ·conv => whnf
   refine za5 (z' := 254 - ((n + 1 : Nat) : Int)) (show (254 : Int) - (n : Int) - 1 = _ by omega) (by show (-9223372036854775808 : Int) ≤ 254 - (n : Int) - 1; omega) (by show (254 : Int) - (n : Int) - 1 ≤ _; omega) ?_
   conv => whnf
   exact ⟨(n + 1, g), [], [], ⟨⟨hn2, hg⟩, Nat.sub_lt_sub_left hn2 (Nat.lt_succ_self n)⟩, zaE⟩
  conv => whnf
  refine ⟨by decide, (((254 - n) / 8 : Nat) : Int), ?_, ?_⟩
  ·show IntKind.i64.wrap (((254 : Int) - (n : Int)).tdiv ((8 : Nat) : Int)) = _
   rw [e1, ← Int.ofNat_tdiv]
   exact zv7 (by omega) (by omega)
  conv => whnf
  refine ⟨(254 - n) / 8, ⟨rfl, by omega⟩, .inr ?_⟩
  conv => whnf
  refine ⟨by omega, ?_⟩
  conv => whnf
  refine ⟨by decide, (((254 - n) % 8 : Nat) : Int), ?_, ?_⟩
  ·show ((254 : Int) - (n : Int)).tmod ((8 : Nat) : Int) = _
   rw [e1, ← Int.ofNat_tmod]
  conv => whnf
  refine zrG (K := .u8) (k := (254 - n) % 8) rfl (by show _ ≤ 8; omega) ?_
  rw [hKk _ (by omega)]
  conv => whnf
  refine zio (c := 2) rfl (by decide) ?_
  rw [show K ((254 - n) / 8) / 2 ^ ((254 - n) % 8) % 2 = zei K n from rfl]
  conv => whnf
  refine vIf (fun hc => ?_) fun hc => ?_
  ·have hb : zei K n = 1 := by have := eq_of_beq hc; omega
   have hs : (zks u p2 p1, znO p2) = zdP u K (n + 1) := by rw [hnx, zgo, if_pos hb]
   conv => whnf
   refine zas 5 [] (by kernel_rfl) ?_
   conv => whnf
   refine zaq (zaa (rs := []) (Rs := []) rfl rfl rfl (by kernel_rfl) rfl fun h X w H => zvV hup hp2 hp1 H.xk) ?_
   conv => whnf
   refine zac rfl rfl rfl (by kernel_rfl) (fun h X w H => zjD hp2 H.xk) rfl rfl rfl ?_
   conv => whnf
   refine ⟨fun _ _ => rfl, fun _ _ => rfl, ?_⟩
   conv => whnf
   refine ⟨fun _ _ => rfl, fun _ _ => rfl, ?_⟩
   conv => whnf
   exact ⟨(zks u p2 p1, znO p2), [], [], hs, zaE⟩
  ·have hb : zei K n ≠ 1 := fun e => by rw [e] at hc; cases hc
   have hs : (znO p1, zks u p1 p2) = zdP u K (n + 1) := by rw [hnx, zgo, if_neg hb]
   conv => whnf
   refine zas 5 [] (by kernel_rfl) ?_
   conv => whnf
   refine zaq (zaa (rs := []) (Rs := []) rfl rfl rfl (by kernel_rfl) rfl fun h X w H => zjD hp1 H.xk) ?_
   conv => whnf
   refine zac rfl rfl rfl (by kernel_rfl) (fun h X w H => zvV hup hp1 hp2 H.xk) rfl rfl rfl ?_
   conv => whnf
   refine ⟨fun _ _ => rfl, fun _ _ => rfl, ?_⟩
   conv => whnf
   refine ⟨fun _ _ => rfl, fun _ _ => rfl, ?_⟩
   conv => whnf
   exact ⟨(znO p1, zks u p1 p2), [], [], hs, zaE⟩
 replace hc : decide ((254 : Int) - (n : Int) ≥ 0) = false := hc
 have hn5 : n = 255 := by
  have := of_decide_eq_false hc
  omega
 subst hn5
 conv => whnf
 refine zas 5 [] (by kernel_rfl) ?_
 conv => whnf
 refine zaq (zaa (rs := []) (Rs := []) rfl rfl rfl (by kernel_rfl) rfl fun h X w H => zrZ hp1.2 H.xk) ?_
 conv => whnf
 refine zac rfl rfl rfl (by kernel_rfl) (fun h X w H => ziP hp1.1 (zuV _ _) H.xk) rfl rfl rfl ?_
 conv => whnf
 refine zac rfl rfl rfl (by kernel_rfl) (fun h X w H => zvN H.xk) rfl rfl rfl ?_
 conv => whnf
 refine zag ?_
 have e : fM p1.x (zfI p1.z 255) = zdu (fun i => kk.getD i 0) u := by
  rw [zdu, ← hK, ← hp]
  show p1.x * zfI p1.z 255 % pN = p1.x * _ % pN
  rw [Nat.mul_mod, zya, ← Nat.mul_mod, zEt]
 rw [← e]
 rfl
theorem zyJ (hX : ∀ k ∈ X, k < w.heap.size) (hk : ∀ x ∈ kk, x < 256) : Ct Tryz.prog 73 [.agg (ca [.key kk])] X w (.a (.agg [.key (zkS kk)])) [] [] := by
 refine vFn (k0 := 0) (rs := [.cell 2 23]) (svs := [.a (.agg [.key kk])]) (R0 := []) (hnQ []) Tryz.ntmps73 Tryz.func73 rfl rfl rfl rfl rfl zah (by kernel_rfl) hX (fun r hr => by cases hr) ?_
 have e9 : zjo (fun i => ([9] : List Nat).getD i 0) = 9 := by
  rw [show (fun i => ([9] : List Nat).getD i 0) = fun i => if i = 0 then 9 else 0 from funext fun i => by cases i <;> rfl]
  exact zm7
 conv => whnf
 refine zof (.a (.agg [.key [9]])) (fun h w => zhS (n := 32) (z := [.one (bv 0), .row 31 fun _ => bv 0]) [.key [9]] rfl (by kernel_rfl) (by kernel_rfl) ⟨_, [.one _], 0, _, rfl, rfl, rfl, rfl, rfl⟩ (by kernel_rfl)) rfl rfl ?_
 conv => whnf
 refine zac rfl rfl rfl (by kernel_rfl) (fun h X w H => zyI (kk := kk) (uu := [9]) H.xk hk (by decide)) rfl rfl rfl ?_
 rw [e9]
 conv => whnf
 exact zag rfl
end
end
section
open Go.RowKit
theorem zvW {v : Nat} (hv : v < pN) (h : ∀ i, i < 32 → zaO v i = 0) : v = 0 := by
 have cg : ∀ {u v : Nat → Nat}, (∀ i, i < 32 → u i = v i) → ∀ i, i < 32 → zfC u i = zfC v i := fun {u v} h i hi => by
  unfold zfC
  split
  ·rw [h 31 (by decide)]
  ·exact h i hi
 have h1 := zm6 v hv
 have h2 : zjo (zaO v) = zjo (zaO 0) := zrB (cg fun i hi => by rw [h i hi, zrA])
 rw [h1, zm6 0 zcO] at h2
 exact h2
theorem zff (b : List Nat) : za1 [] ≠ za1 (zkS b) := by
 unfold zkS
 have hb := zBW (fun i => b.getD i 0)
 have hl := zA1 (fun i => b.getD i 0) 9
 revert hb hl
 generalize zdu (fun i => b.getD i 0) 9 = v
 intro hb hl h
 have h1 := zjT.1 h
 refine hb (zvW hl fun i hi => ?_)
 have h2 := h1 i hi
 rw [zct _ i hi] at h2
 exact h2.symm
theorem zCn {kd : Int} {n : Nat} (hk : kd = 1 ∨ kd = 2) (hn : n ≤ 1048576) : zdo kd [(n : Int)] [] = true := by
 have h1 : zjf (n : Int) = false := by unfold zjf; simp; omega
 have h2 : zbp [(n : Int)] [] = true := by
  unfold zbp
  rw [show ([(n : Int)].any zjf) = false by simp [h1], show zey [(n : Int)] = true by rfl, show zbz [(n : Int)].length [] = true by rfl]
  rfl
 unfold zdo
 rw [h2]
 rcases hk with rfl | rfl <;> rfl
theorem zkY {kd id : Int} : zdo kd [id] [] = (decide (kd = 1 ∨ kd = 2) && decide (0 ≤ id ∧ id ≤ 1048576)) := by
 have h2 : zbp [id] [] = !zjf id := by
  unfold zbp
  rw [show ([id].any zjf) = zjf id by simp, show zey [id] = true by rfl, show zbz [id].length [] = true by rfl]
  simp
 unfold zdo
 rw [h2]
 unfold zjf
 by_cases a : kd = 1 <;> by_cases b : kd = 2 <;> by_cases c : id < 0 <;> by_cases d : id > 1048576 <;> simp_all <;> omega
theorem zCo {kd id : Int} {p : List Nat} (hm : zdo kd [id] [] = true) (hp : za1 [] ≠ za1 p) : (zaY kd id p).ok = true := by
 have h := zqT hm hp
 cases ho : (zaY kd id p).ok with
 | true => rfl
 | false =>
  unfold Tre.nodes at h
  rw [ho, if_neg (by simp)] at h
  simp at h
theorem zvX (kd id : Int) (p : List Nat) : (zaY kd id p).good := by
 have e : zbu (zaY kd id p).two (zaY kd id p).ls (zaY kd id p).ids.length = [zcC] := rfl
 refine ⟨ziL kd id p, fun _ => ?_, fun _ => ?_⟩
 ·rw [e]; decide
 ·rw [e]
  intro j x h
  match j with
  | 0 => obtain rfl := Option.some.inj h; exact .inl (by decide)
  | j + 1 => simp at h
theorem zvY {gt : Nat → Nat} {kd : Int} {n : Nat} {seed : List Nat} (hm : zdo kd [(n : Int)] [] = true) : (zoS gt kd n seed).path = ([0], [zcC], 0) := by
 show zeA (kd == 1) kd [(n : Int)] [] n = _
 unfold zeA
 rw [if_pos hm, if_pos (by simp)]
 have e : zbu (kd == 1) [] [(n : Int)].length = [zcC] := rfl
 have e2 : zeh [(n : Int)] n = 0 := by unfold zeh; simp
 rw [e, e2]
 rfl
theorem zCp {gt : Nat → Nat} {kd : Int} {n : Nat} {seed : List Nat} (hm : zdo kd [(n : Int)] [] = true) : (zoS gt kd n seed).ok = true := by
 have h1 : (zoS gt kd n seed).t.ok = true := zCo hm (zff _)
 unfold Mem.ok
 rw [h1, zvY hm]
 rfl
def zr0 : List Nat := 1 :: List.replicate 31 0
section
variable {X : List Nat} {w : World} {gt : Nat → Nat}
theorem zvZ (hX : ∀ k ∈ X, k < w.heap.size) (hG : St (zbm gt 2) w X) : Ct Tryz.prog 8 [] X w (za4 true) [] [] := by
 have hm := zCn (kd := 1) (n := 5) (.inl rfl) (by decide)
 have hok := zCp (gt := gt) (seed := zr0) hm
 have hgd : (zoS gt 1 5 zr0).t.good := zvX _ _ _
 obtain ⟨pt, lf, ep, rt, hx⟩ : ∃ pt lf ep rt, zoS gt 1 5 zr0 = ⟨zaY 1 5 pt, 5, lf, [], [], ep, [rt]⟩ := ⟨_, _, _, _, rfl⟩
 have her : (zoS gt 1 5 zr0).err = 0 := by rw [Mem.err, if_pos hok]
 rw [hx] at her hgd
 refine vFn (k0 := 0) (rs := [.tmp 0]) (svs := []) (R0 := [.c (zbm gt 2)]) (hnQ []) Tryz.ntmps8 Tryz.func8 rfl rfl rfl rfl rfl zah (by kernel_rfl) hX (fun r hr => by rcases List.mem_singleton.1 hr with rfl; exact hG) ?_
 conv => whnf
 refine zof (.a (.agg [.key zr0])) (fun h w => zhS (n := 32) (z := [.one (bv 0), .row 31 fun _ => bv 0]) [.key zr0] rfl (by kernel_rfl) (by kernel_rfl) ⟨_, [.one _], 0, _, rfl, rfl, rfl, rfl, rfl⟩ (by kernel_rfl)) rfl rfl ?_
 conv => whnf
 refine zac (sv := .tup [zqU ⟨zaY 1 5 pt, 5, lf, [], [], ep, [rt]⟩ 0, .s (.p (.v (.int .i64 0)))]) (rs := [.gone, .gone, .gone, .gone, .gone]) (Rs := zqV ⟨zaY 1 5 pt, 5, lf, [], [], ep, [rt]⟩ 0) rfl rfl rfl (by kernel_rfl) (fun h X w H => hx ▸ zvp (kd := 1) (n := 5) hm (zff _) (by decide) rfl (by decide) H.xk (H.fact 0 rfl)) rfl rfl rfl ?_
 conv => whnf
 refine zac (sv := zam .i64 0) (rs := []) (Rs := []) rfl rfl rfl (by kernel_rfl) (fun h X w H => her ▸ zvu (x := ⟨zaY 1 5 pt, 5, lf, [], [], ep, [rt]⟩) (q1 := h.r 0) (q2 := h.r 1) (q3 := h.r 2) (q4 := h.r 3) (q5 := h.r 4) H.xk hgd (Nat.zero_le _) ⟨H.fact 0 rfl, H.fact 1 rfl, H.fact 2 rfl, H.fact 3 rfl, H.fact 4 rfl⟩) rfl rfl rfl ?_
 conv => whnf
 exact zag rfl
end
end
section
open Go.RowKit
section
variable {X : List Nat} {w : World} {kk : List Nat} {gt : Nat → Nat}
theorem zyK (hk32 : kk.length = 32) (hkb : ∀ x ∈ kk, x < 256) (hX : ∀ k ∈ X, k < w.heap.size) (hG : St (zbm gt 0) w X) : Ct Tryz.prog 43 [.agg (ca [.key kk])] X w (.tup [.agg [.key (zvh gt kk)], .agg [.key (zkS (zvh gt kk))]]) [] [] := by
 refine vFn (k0 := 0) (rs := [.cell 2 23, .cell 3 23]) (svs := [.a (.agg [.key kk])]) (R0 := [.c (zbm gt 0)]) (hnQ []) Tryz.ntmps43 Tryz.func43 rfl rfl rfl rfl rfl zah (by kernel_rfl) hX (fun r hr => by rcases List.mem_singleton.1 hr with rfl; exact hG) ?_
 conv => whnf
 refine zac rfl rfl rfl (by kernel_rfl) (fun h X w H => zch (lab := zB4) (ts := []) (q := (none, 0)) rfl (by decide) hk32 hkb zbi H.xk za7 (H.fact 0 rfl)) rfl rfl rfl ?_
 conv => whnf
 refine zas 3 [] (by kernel_rfl) ?_
 conv => whnf
 refine zaq (zaa (rs := []) (Rs := []) rfl rfl rfl (by kernel_rfl) rfl fun h X w H => zyJ H.xk (zbs _ _ _ _)) ?_
 conv => whnf
 exact zag rfl
theorem zgZ {s : ByteArray} {lab : List Nat} (hs : s.data.toList.map UInt8.toNat = lab) (hlab : lab.length ≤ 100) (hk32 : kk.length = 32) (hkb : ∀ x ∈ kk, x < 256) (hX : ∀ k ∈ X, k < w.heap.size) (hG : St (zbm gt 0) w X) : Ct Tryz.prog 34 [.agg (ca [.key kk]), .string s] X w (.a (.agg [.key (zfb gt kk lab [])])) [] [] := by
 refine vFn (k0 := 0) (rs := [.cell 4 23]) (svs := [.a (.agg [.key kk]), zfM (.string s)]) (R0 := [.c (zbm gt 0)]) (hnQ []) Tryz.ntmps34 Tryz.func34 rfl rfl rfl rfl rfl zah (by kernel_rfl) hX (fun r hr => by rcases List.mem_singleton.1 hr with rfl; exact hG) ?_
 conv => whnf
 refine zac rfl rfl rfl (by kernel_rfl) (fun h X w H => zch (ts := []) (q := (none, 0)) hs hlab hk32 hkb zbi H.xk za7 (H.fact 0 rfl)) rfl rfl rfl ?_
 conv => whnf
 exact zag rfl
theorem zv0 (hk32 : kk.length = 32) (hkb : ∀ x ∈ kk, x < 256) (hX : ∀ k ∈ X, k < w.heap.size) (hG : St (zbm gt 0) w X) : Ct Tryz.prog 17 [.agg (ca [.key kk])] X w (.a (.agg [.key (zgz gt kk)])) [] [] := by
 refine vFn (k0 := 0) (rs := [.cell 2 23]) (svs := [.a (.agg [.key kk])]) (R0 := [.c (zbm gt 0)]) (hnQ []) Tryz.ntmps17 Tryz.func17 rfl rfl rfl rfl rfl zah (by kernel_rfl) hX (fun r hr => by rcases List.mem_singleton.1 hr with rfl; exact hG) ?_
 conv => whnf
 refine zac rfl rfl rfl (by kernel_rfl) (fun h X w H => zgZ (lab := zB7) rfl (by decide) hk32 hkb H.xk (H.fact 0 rfl)) rfl rfl rfl ?_
 conv => whnf
 refine zac rfl rfl rfl (by kernel_rfl) (fun h X w H => zyK (zcv _ _ _ _) (zbs _ _ _ _) H.xk (H.fact 0 rfl)) rfl rfl rfl ?_
 conv => whnf
 exact zag rfl
end
end
section
open Go.RowKit
section
variable {X : List Nat} {w : World} {gt : Nat → Nat}
theorem zr1 {kd id : Int} {p : List Nat} (hm : zdo kd [id] [] = true) (hp : za1 [] ≠ za1 p) (hid : ziK id) (h32 : p.length = 32) (hpb : ∀ x ∈ p, x < 256) (hX : ∀ k ∈ X, k < w.heap.size) (q1 q2 q3 : Qd) (hq1 : St (SlQ zaF [id] q1) w X) (hq2 : St (SlQ (zcM zaF) [] q2) w X) (hq3 : St (SlQ zb5 [p] q3) w X) (hG : St (zbm gt 0) w X) :
  Ct Tryz.prog 61 [(zaY kd id p).val q1 q2 q3] X w (.tup [.s (.p (.hd 0 1)), .s (.p (.v (.int .i64 0)))]) [zba zb5 [zcY gt id p] 23] [] := by
 obtain ⟨n, rfl⟩ : ∃ n : Nat, id = n := ⟨id.toNat, by unfold ziK at hid; omega⟩
 have hn : n ≤ 1048576 := by unfold ziK at hid; omega
 refine vFn (k0 := 3) (rs := [.tmp 2, .tmp 3]) (svs := [.a (.agg [zdH kd, .one (.p (.hd 0 1)), .one (.p (.hd 1 0)), .one (.p (.hd 2 1))])]) (R0 := [.sl 0 1 (SlF zaF [(n : Int)]), .sl 1 0 (SlF (zcM zaF) []), .sl 2 1 (SlF zb5 [p]), .c (zbm gt 0)]) (hnQ [q1, q2, q3]) Tryz.ntmps61 Tryz.func61 rfl rfl rfl rfl rfl zah (by kernel_rfl) hX (fun r hr => by
  rcases List.mem_cons.1 hr with rfl | hr
  ·exact hq1
  rcases List.mem_cons.1 hr with rfl | hr
  ·exact hq2
  rcases List.mem_cons.1 hr with rfl | hr
  ·exact hq3
  ·rcases List.mem_singleton.1 hr with rfl; exact hG) ?_
 conv => whnf
 refine zac (sv := zam .i64 0) (rs := []) (Rs := []) rfl rfl rfl (by kernel_rfl) (fun h X w H => zoY hm hp H.xk (h.r 0) (h.r 1) (h.r 2) (H.fact 0 rfl) (H.fact 1 rfl) (H.fact 2 rfl)) rfl rfl rfl ?_
 conv => whnf
 refine zac (sv := .tup [.s (.p (.hd 0 1)), .s (.p (.v (.int .i64 0)))]) (rs := [.gone]) (Rs := [.sl 0 1 (SlF zbd [zcC])]) rfl rfl rfl (by kernel_rfl) (fun h X w H => Ct.frz H.xk (zjC H.xk hm (h.r 0) (h.r 1) (H.fact 0 rfl) (H.fact 1 rfl))) rfl rfl rfl ?_
 conv => whnf
 refine zvI (fun k l m R => ⟨5, zaC [1, 6, 26, 27, 28] l, m, R⟩) [] [0, 1, 2, 3, 4] zaE ?_
 conv => whnf
 refine ⟨0, ⟨rfl, by decide, by decide⟩, ?_⟩
 conv => whnf
 refine zbH (zdF zkh (T := zbd) (x := zcC) (n := 7) (off := 0) (sub := [zdH 0, zdH 0, .one (.p (.v (.bool false))), zdH 0, zdH 1, .one (.p (.hd 5 0)), zdH (-1)]) (Rs := []) 0 (fun μ => [μ]) 1 rfl rfl rfl rfl (by kernel_rfl) (.inl ⟨rfl, rfl⟩) (fun μ h hh => by
  have e : h.r 5 = μ := hh 0 (by omega)
  show some [Chunk.one (.int .i64 0), .one (.int .i64 0), .one (.bool false), .one (.int .i64 0), .one (.int .i64 (0 + 1)), .one (.slice μ.1 0 μ.2), .one (.int .i64 (-1))] = some _
  rw [← e]
  rfl) fun μ h w Y hh hn r hr => by cases hr) rfl rfl ?_
 conv => whnf
 refine ⟨0, ⟨rfl, by decide, by decide⟩, ?_⟩
 conv => whnf
 refine za8 (zaR (T := zb5) (xs := [p]) (j := 0) (n := 32) (off := 0) (sub := [.key p]) (sv := .a (.agg [.key p])) 3 rfl (fun _ => rfl) rfl rfl rfl (by kernel_rfl) (fun _ => .inl ⟨rfl, rfl⟩)) rfl rfl ?_
 conv => whnf
 refine zao (zdW (i := 8) (n := 4) (e := 5) rfl rfl rfl (by kernel_rfl) (by kernel_rfl)) ?_
 conv => whnf
 refine .inl ?_
 conv => whnf
 refine zas 12 [] (by kernel_rfl) ?_
 conv => whnf
 refine ⟨0, ⟨rfl, by decide, by decide⟩, ?_⟩
 conv => whnf
 refine zbD (zaR (T := zaF) (xs := [(n : Int)]) (j := 0) (sv := zam .i64 n) 2 rfl (fun _ => rfl) rfl rfl rfl (by kernel_rfl) (fun _ => .inr ⟨rfl, rfl, rfl⟩)) ?_
 conv => whnf
 refine zwc (by omega) (by omega) ?_
 conv => whnf
 obtain ⟨nb, hnb⟩ : ∃ nb, nb = beL 4 n := ⟨_, rfl⟩
 have hnl : nb.length = 4 := by rw [hnb]; simp [beL, beK]
 refine zaq (zaa (sv := .a (.s (.p (.hd 0 4)))) (rs := [.gone]) (Rs := [.sl 0 4 (TxG nb)]) rfl rfl rfl (by kernel_rfl) rfl fun h X w H => by
  have := zd3 4 n (by decide) (by omega) H.xk
  rw [← hnb] at this
  exact this) ?_
 conv => whnf
 refine zaI (zaG [11, 7] rfl rfl (ztw (e := 72) (xs := [zfK]) (ys := [nb, p]) (by_ := 24) (fun h => [(some ⟨h.b 8, 0, none⟩, 4)]) rfl (fun h => by rfl) (fun h => rfl) (fun h X w H t x hx => by
  match t with
  | 0 => obtain rfl := Option.some.inj hx; exact zer (H.fact 3 rfl) rfl (jV _) (by decide) (by decide)
  | t + 1 => simp at hx) (fun h X w H => by
   refine zbI (ql := [h.r 10, (some ⟨h.b 7, 0, none⟩, 32)]) rfl (by simp) ?_ fun t x hx => by
    match t with
    | 0 => obtain rfl := Option.some.inj hx; have h2 : St (TxN 4 nb (h.r 10)) w _ := H.fact 2 rfl; exact fun w' hk => (h2 w' hk).2
    | 1 => obtain rfl := Option.some.inj hx; exact zeb h32 hpb (H.fact 0 rfl)
    | t + 2 => simp at hx
   have := H.fact 1 rfl
   have e : zaD h [.one (.p (.hd 10 4)), .one (.p (.sl 7 0 32 32))] = zbv [nb, p] [h.r 10, (some ⟨h.b 7, 0, none⟩, 32)] := by
    simp only [zbv, hnl, h32]
    rfl
   rw [← e]
   exact this) rfl rfl rfl rfl ⟨by kernel_rfl, by kernel_rfl⟩ (by simp) (by simp) rfl rfl)) ?_
 conv => whnf
 obtain ⟨t1, ht1⟩ : ∃ t1, t1 = [] ++ zcz ([zfK] ++ [nb, p]) := ⟨_, rfl⟩
 have ht1e : t1 = zcz [zfK, nb, p] := by rw [ht1, List.nil_append]; rfl
 have ht1l : t1.length = 46 := by rw [ht1e, zEm, hnl, h32]; rfl
 refine zaI (zid (T := zat) (zs := [zfK] ++ [nb, p]) 12 rfl (.head _) rfl (zan (sv := .tup [.s (.p (.hd 13 t1.length)), .s (.p (.v (.int .i64 0)))]) (rs := [.gone]) (Rs := [.sl 13 t1.length (TxG t1)]) (zaa (sv := .tup [.s (.p (.hd 0 t1.length)), .s (.p (.v (.int .i64 0)))]) (rs := [.gone]) (Rs := [.sl 0 t1.length (TxG t1)]) rfl rfl rfl (by kernel_rfl) rfl fun h X w H => by
  have := zq2 (m0 := []) (ts := [zfK] ++ [nb, p]) (q := (none, 0)) (q2 := h.r 12) (fun t ht => by
   have : t = zfK ∨ t = nb ∨ t = p := by simpa using ht
   rcases this with rfl | rfl | rfl
   ·decide
   ·omega
   ·omega) (by simp) (by simp) H.xk zh6 (H.fact 0 rfl)
  rw [← ht1] at this
  exact this) rfl rfl)) ?_
 conv => whnf
 obtain ⟨s, hs⟩ : ∃ s, s = zk0 gt [t1] := ⟨_, rfl⟩
 have hsE : s = zcY gt n p := by rw [hs, ht1e, hnb]; rfl
 refine zao (zaG [14] rfl rfl (zan (rs := []) (Rs := []) (zaa (sv := .a (.agg [.key s])) (rs := []) (Rs := []) rfl rfl rfl (by kernel_rfl) rfl fun h X w H => by
  have := zoZ (gt := gt) (ps := [t1]) (q := (some ⟨h.b 14, 0, none⟩, 1)) (by simp [ht1l]) H.xk (zbI (ql := [h.r 13]) rfl (by simp) (H.fact 0 rfl) fun t x hx => by
   match t with
   | 0 => obtain rfl := Option.some.inj hx; exact zee (H.fact 1 rfl)
   | t + 1 => simp at hx) (H.fact 12 rfl)
  rw [← hs] at this
  exact this) rfl rfl)) ?_
 conv => whnf
 refine zia 2 (zqo (T := zb5) (e := 23) (x := s) (μs := fun _ => []) rfl rfl rfl rfl (fun h => rfl) (by_ := 32) ⟨by kernel_rfl, by kernel_rfl⟩ (by decide) rfl rfl rfl (fun h h' ag => rfl) fun h w Y H => fun _ _ => trivial) ?_
 conv => whnf
 refine ⟨1, rfl, ?_⟩
 conv => whnf
 refine ⟨fun k l m R => ⟨18, (28, zam .i64 1) :: (6, .a (.s (.p (.hd 17 1)))) :: zaC [27] l, [(17, zba zb5 [s] 23)], []⟩, [], [], zaE, ?_⟩
 conv => whnf
 subst hsE
 exact zaK [(0, 17)] [] (.inl rfl) ⟨.inl rfl, trivial⟩ rfl trivial
theorem zv1 {kd id : Int} {p : List Nat} (hm : zdo kd [id] [] = true) (hp : za1 [] ≠ za1 p) (hid : ziK id) (h32 : p.length = 32) (hpb : ∀ x ∈ p, x < 256) (hX : ∀ k ∈ X, k < w.heap.size) (q1 q2 q3 : Qd) (hq1 : St (SlQ zaF [id] q1) w X) (hq2 : St (SlQ (zcM zaF) [] q2) w X) (hq3 : St (SlQ zb5 [p] q3) w X) (hG : St (zbm gt 0) w X) :
  Ct Tryz.prog 35 [(zaY kd id p).val q1 q2 q3] X w (.tup [.agg [.key (zcY gt id p)], .s (.p (.v (.int .i64 0)))]) [] [] := by
 refine vFn (k0 := 3) (rs := [.cell 2 23, .tmp 3]) (svs := [.a (.agg [zdH kd, .one (.p (.hd 0 1)), .one (.p (.hd 1 0)), .one (.p (.hd 2 1))])]) (R0 := [.sl 0 1 (SlF zaF [id]), .sl 1 0 (SlF (zcM zaF) []), .sl 2 1 (SlF zb5 [p]), .c (zbm gt 0)]) (hnQ [q1, q2, q3]) Tryz.ntmps35 Tryz.func35 rfl rfl rfl rfl rfl zah (by kernel_rfl) hX (fun r hr => by
  rcases List.mem_cons.1 hr with rfl | hr
  ·exact hq1
  rcases List.mem_cons.1 hr with rfl | hr
  ·exact hq2
  rcases List.mem_cons.1 hr with rfl | hr
  ·exact hq3
  ·rcases List.mem_singleton.1 hr with rfl; exact hG) ?_
 conv => whnf
 obtain ⟨s, hs⟩ : ∃ s, s = zcY gt id p := ⟨_, rfl⟩
 rw [← hs]
 refine zac (sv := .tup [.s (.p (.hd 0 1)), .s (.p (.v (.int .i64 0)))]) (rs := [zba zb5 [s] 23]) (Rs := []) rfl rfl rfl (by kernel_rfl) (fun h X w H => hs ▸ zr1 hm hp hid h32 hpb H.xk (h.r 0) (h.r 1) (h.r 2) (H.fact 0 rfl) (H.fact 1 rfl) (H.fact 2 rfl) (H.fact 3 rfl)) rfl rfl rfl ?_
 conv => whnf
 refine ⟨0, rfl, ?_⟩
 conv => whnf
 refine ⟨0, ⟨rfl, Nat.zero_lt_one, Nat.zero_lt_one⟩, ?_⟩
 conv => whnf
 refine za8 (zg2 (T := zb5) (n := 32) (off := 0) (sub := [.key s]) (x := s) (sv := .a (.agg [.key s])) (e := 23) rfl rfl (fun _ => rfl) rfl rfl (by kernel_rfl) (fun _ => .inl ⟨rfl, rfl⟩)) rfl rfl ?_
 conv => whnf
 exact zag rfl
end
end
section
open Go.RowKit
section
variable {X : List Nat} {w : World} {kk : List Nat} {gt : Nat → Nat} {q : Qd}
theorem zjE {n : Nat} (hn : n ≤ 1048576) (hk32 : kk.length = 32) (hkb : ∀ x ∈ kk, x < 256) (hX : ∀ k ∈ X, k < w.heap.size) (hG : St (zbm gt 0) w X) : Ct Tryz.prog 37 [.agg (ca [.key kk]), .int .i64 n] X w (.tup [zzv (ziG gt kk n) 0 zzw, .s (.p (.v (.int .i64 0)))]) [] [] := by
 refine vFn (k0 := 0) (rs := [.cell 4 46, .tmp 5]) (svs := [.a (.agg [.key kk]), zam .i64 n]) (R0 := [.c (zbm gt 0)]) (hnQ []) Tryz.ntmps37 Tryz.func37 rfl rfl rfl rfl rfl zah (by kernel_rfl) hX (fun r hr => by rcases List.mem_singleton.1 hr with rfl; exact hG) ?_
 conv => whnf
 refine vF (decide_eq_false (show ¬ ((n : Nat) : Int) > 1048576 by omega)) ?_
 conv => whnf
 refine zas 11 [1009] (by kernel_rfl) ?_
 conv => whnf
 refine zwc (by omega) (by omega) ?_
 conv => whnf
 obtain ⟨nb, hnb⟩ : ∃ nb, nb = beL 4 n := ⟨_, rfl⟩
 have hnl : nb.length = 4 := by rw [hnb]; simp [beL, beK]
 refine zaq (zaa (sv := .a (.s (.p (.hd 0 4)))) (rs := [.gone]) (Rs := [.sl 0 4 (TxG nb)]) rfl rfl rfl (by kernel_rfl) rfl fun h X w H => by
  have := zd3 4 n (by decide) (by omega) H.xk
  rw [← hnb] at this
  exact this) ?_
 conv => whnf
 refine zaq (zgh [3] rfl (zaa (sv := .tup [.agg [.key (zfb gt kk zkT [nb])], .s (.p (.v (.int .i64 0)))]) (rs := []) (Rs := []) rfl rfl rfl (by kernel_rfl) rfl fun h X w H => ?_)) ?_
 ·refine zch (lab := zkT) (ts := [nb]) (q := (some ⟨h.b 3, 0, none⟩, 1)) rfl (by decide) hk32 hkb (znx (by omega)) H.xk (zbI (ql := [h.r 2]) rfl (by simp) ?_ fun t x hx => ?_) (H.fact 2 rfl)
  ·have := H.fact 0 rfl
   have e : zaD h [.one (.p (.hd 2 4))] = zbv [nb] [h.r 2] := by
    simp only [zbv, hnl]
    rfl
   rw [← e]
   exact this
  ·match t with
   | 0 => obtain rfl := Option.some.inj hx; have h2 : St (TxN 4 nb (h.r 2)) w _ := H.fact 1 rfl; exact fun w' hk => (h2 w' hk).2
   | t + 1 => simp at hx
 conv => whnf
 refine zcL rfl (zbU (z := [.key []]) (fun hn => by kernel_rfl) rfl rfl) ?_
 conv => whnf
 refine zag ?_
 rw [hnb]
 rfl
theorem zv2 {z : Int} (hz : z < 0 ∨ z > 1048576) (hX : ∀ k ∈ X, k < w.heap.size) : Ct Tryz.prog 37 [.agg (ca [.key kk]), .int .i64 z] X w (.tup [zzv [] 0 zzw, .s (.p (.v (.int .i64 1)))]) [] [] := by
 refine vFn (k0 := 0) (rs := [.cell 4 46, .tmp 5]) (svs := [.a (.agg [.key kk]), zam .i64 z]) (R0 := []) (hnQ []) Tryz.ntmps37 Tryz.func37 rfl rfl rfl rfl rfl zah (by kernel_rfl) hX (fun r hr => by cases hr) ?_
 conv => whnf
 refine vIf (fun h => ?_) fun h => ?_
 ·conv => whnf
  exact zag rfl
 ·have h1 : ¬ z < 0 := of_decide_eq_false h
  conv => whnf
  refine vT (decide_eq_true (by omega)) ?_
  conv => whnf
  exact zag rfl
theorem ziQ {ids : List Int} (hall : ∀ id ∈ ids, ziK id) (hil : ids.length ≤ 1000000) (hk32 : kk.length = 32) (hkb : ∀ x ∈ kk, x < 256) (hX : ∀ k ∈ X, k < w.heap.size) (hq : St (SlQ zaF ids q) w X) (hG : St (zbm gt 0) w X) : Ct Tryz.prog 12 [.agg (ca [.key kk]), .slice q.1 ids.length q.2] X w (.tup [.s (.p (.hd 0 ids.length)), .s (.p (.v (.int .i64 0)))]) [zba zdL (zcw gt kk ids) 46] [.q 0 (zbS zdL (zcw gt kk ids))] := by
 refine vFn (k0 := 1) (rs := [.tmp 4, .tmp 5]) (svs := [.a (.agg [.key kk]), .a (.s (.p (.hd 0 ids.length)))]) (R0 := [.sl 0 ids.length (SlF zaF ids), .c (zbm gt 0)]) (hnQ [q]) Tryz.ntmps12 Tryz.func12 rfl rfl rfl rfl rfl zah (by kernel_rfl) hX (fun r hr => by
  rcases List.mem_cons.1 hr with rfl | hr
  ·exact hq
  ·rcases List.mem_singleton.1 hr with rfl; exact hG) ?_
 conv => whnf
 refine ⟨Nat, fun k l m R i => ⟨3, (13, zam .i64 i) :: (6, .a (.s (.p (.hd 2 i)))) :: zaC [2, 11, 12] l, (2, zba zdL (zcw gt kk (ids.take i)) 46) :: m, .q 2 (zbS zdL (zcw gt kk (ids.take i))) :: R⟩, fun i => i ≤ ids.length, fun i => ids.length - i, ⟨0, [], [2, 0, 1], Nat.zero_le _, zaE (hR := ⟨.inr fun _ _ _ _ => zdw, .inl rfl, .inl rfl, trivial⟩)⟩, fun i hi => ?_⟩
 conv => whnf
 refine vIf (fun hc => ?_) fun hc => ?_
 ·have hi2 : i < ids.length := by
   have : (i : Int) < ((ids.length : Nat) : Int) := of_decide_eq_true hc
   omega
  obtain ⟨id, hid⟩ : ∃ id, ids[i]? = some id := ⟨_, jP hi2⟩
  obtain ⟨h0, h1⟩ := hall id (List.mem_of_getElem? hid)
  have hidn : id = ((id.toNat : Nat) : Int) := by omega
  have hrl : (zcw gt kk (ids.take i)).length = i := by unfold zcw; rw [List.length_map, List.length_take]; omega
  conv => whnf
  refine ⟨i, ⟨rfl, hi2, hi2⟩, ?_⟩
  conv => whnf
  refine za8 (zaR (T := zaF) (sv := zam .i64 id) 1 hid (fun _ => rfl) rfl rfl rfl (by kernel_rfl) (fun _ => .inr ⟨rfl, rfl, rfl⟩)) rfl rfl ?_
  conv => whnf
  refine zac (sv := .tup [zzv (ziG gt kk id.toNat) 0 zzw, .s (.p (.v (.int .i64 0)))]) (rs := []) (Rs := []) rfl rfl rfl (by kernel_rfl) (fun h X w H => by
   have := zjE (gt := gt) (n := id.toNat) (by omega) hk32 hkb H.xk (H.fact 2 rfl)
   rw [← hidn] at this
   exact this) rfl rfl rfl ?_
  conv => whnf
  refine zaI (zfz (T := zdL) (e := 46) (x := zcQ gt kk id) (μs := fun _ => [(none, 0)]) (by_ := 64) rfl rfl rfl hrl.symm rfl rfl rfl (fun _ => rfl) ⟨by kernel_rfl, by kernel_rfl⟩ (by omega) (by omega) rfl rfl (.head _) (fun _ _ _ => rfl) fun h w Y _ => za7) ?_
  rw [← zgA hid]
  conv => whnf
  refine zbq (by omega) (by omega) ?_
  conv => whnf
  exact ⟨i + 1, [(0, 0), (1, 1), (2, 5)], [0, 2, 3], ⟨hi2, Nat.sub_lt_sub_left hi2 (Nat.lt_succ_self i)⟩, zaE⟩
 have hi5 : i = ids.length := by
   have : ¬ (i : Int) < ((ids.length : Nat) : Int) := of_decide_eq_false hc
   omega
 subst hi5
 rw [List.take_length]
 conv => whnf
 exact zaK [(0, 2)] [0] (.inl rfl) ⟨.inl rfl, trivial⟩ rfl ⟨.inl rfl, trivial⟩
theorem zr2 {ids : List Int} (hbad : ∃ id ∈ ids, ¬ ziK id) (hil : ids.length ≤ 1000000) (hk32 : kk.length = 32) (hkb : ∀ x ∈ kk, x < 256) (hX : ∀ k ∈ X, k < w.heap.size) (hq : St (SlQ zaF ids q) w X) (hG : St (zbm gt 0) w X) : Ct Tryz.prog 12 [.agg (ca [.key kk]), .slice q.1 ids.length q.2] X w (.tup [.s (.p (.v (.slice none 0 0))), .s (.p (.v (.int .i64 1)))]) [] [] := by
 refine vFn (k0 := 1) (rs := [.tmp 4, .tmp 5]) (svs := [.a (.agg [.key kk]), .a (.s (.p (.hd 0 ids.length)))]) (R0 := [.sl 0 ids.length (SlF zaF ids), .c (zbm gt 0)]) (hnQ [q]) Tryz.ntmps12 Tryz.func12 rfl rfl rfl rfl rfl zah (by kernel_rfl) hX (fun r hr => by
  rcases List.mem_cons.1 hr with rfl | hr
  ·exact hq
  ·rcases List.mem_singleton.1 hr with rfl; exact hG) ?_
 conv => whnf
 refine ⟨Nat, fun k l m R i => ⟨3, (13, zam .i64 i) :: (6, .a (.s (.p (.hd 2 i)))) :: zaC [2, 11, 12] l, (2, zba zdL (zcw gt kk (ids.take i)) 46) :: m, .q 2 (zbS zdL (zcw gt kk (ids.take i))) :: R⟩, fun i => i ≤ ids.length ∧ ∀ id ∈ ids.take i, ziK id, fun i => ids.length - i, ⟨0, [], [2, 0, 1], ⟨Nat.zero_le _, by simp⟩, zaE (hR := ⟨.inr fun _ _ _ _ => zdw, .inl rfl, .inl rfl, trivial⟩)⟩, fun i hg => ?_⟩
 obtain ⟨hi, hpre⟩ : i ≤ ids.length ∧ ∀ id ∈ ids.take i, ziK id := hg
 conv => whnf
 refine vIf (fun hc => ?_) fun hc => ?_
 ·have hi2 : i < ids.length := by
   have : (i : Int) < ((ids.length : Nat) : Int) := of_decide_eq_true hc
   omega
  obtain ⟨id, hid⟩ : ∃ id, ids[i]? = some id := ⟨_, jP hi2⟩
  by_cases hok : ziK id
  case neg =>
   conv => whnf
   refine ⟨i, ⟨rfl, hi2, hi2⟩, ?_⟩
   conv => whnf
   refine za8 (zaR (T := zaF) (sv := zam .i64 id) 1 hid (fun _ => rfl) rfl rfl rfl (by kernel_rfl) (fun _ => .inr ⟨rfl, rfl, rfl⟩)) rfl rfl ?_
   conv => whnf
   refine zac rfl rfl rfl (by kernel_rfl) (fun h X w H => zv2 (by unfold ziK at hok; omega) H.xk) rfl rfl rfl ?_
   conv => whnf
   exact zag rfl
  obtain ⟨h0, h1⟩ := hok
  have hidn : id = ((id.toNat : Nat) : Int) := by omega
  have hrl : (zcw gt kk (ids.take i)).length = i := by unfold zcw; rw [List.length_map, List.length_take]; omega
  conv => whnf
  refine ⟨i, ⟨rfl, hi2, hi2⟩, ?_⟩
  conv => whnf
  refine za8 (zaR (T := zaF) (sv := zam .i64 id) 1 hid (fun _ => rfl) rfl rfl rfl (by kernel_rfl) (fun _ => .inr ⟨rfl, rfl, rfl⟩)) rfl rfl ?_
  conv => whnf
  refine zac (sv := .tup [zzv (ziG gt kk id.toNat) 0 zzw, .s (.p (.v (.int .i64 0)))]) (rs := []) (Rs := []) rfl rfl rfl (by kernel_rfl) (fun h X w H => by
   have := zjE (gt := gt) (n := id.toNat) (by omega) hk32 hkb H.xk (H.fact 2 rfl)
   rw [← hidn] at this
   exact this) rfl rfl rfl ?_
  conv => whnf
  refine zaI (zfz (T := zdL) (e := 46) (x := zcQ gt kk id) (μs := fun _ => [(none, 0)]) (by_ := 64) rfl rfl rfl hrl.symm rfl rfl rfl (fun _ => rfl) ⟨by kernel_rfl, by kernel_rfl⟩ (by omega) (by omega) rfl rfl (.head _) (fun _ _ _ => rfl) fun h w Y _ => za7) ?_
  rw [← zgA hid]
  conv => whnf
  refine zbq (by omega) (by omega) ?_
  conv => whnf
  refine ⟨i + 1, [(0, 0), (1, 1), (2, 5)], [0, 2, 3], ⟨⟨hi2, fun x hx => ?_⟩, Nat.sub_lt_sub_left hi2 (Nat.lt_succ_self i)⟩, zaE⟩
  rw [List.take_add_one, hid] at hx
  rcases List.mem_append.1 hx with hx | hx
  ·exact hpre x hx
  ·rcases List.mem_singleton.1 hx with rfl
   exact ⟨h0, h1⟩
 have hi5 : i = ids.length := by
   have : ¬ (i : Int) < ((ids.length : Nat) : Int) := of_decide_eq_false hc
   omega
 subst hi5
 rw [List.take_length] at hpre
 obtain ⟨id, h1, h2⟩ := hbad
 exact absurd (hpre id h1) h2
theorem zv3 {n : Nat} {tree hash : List Nat} (hn : n ≤ 1099511627776) (hk32 : kk.length = 32) (hkb : ∀ x ∈ kk, x < 256) (ht32 : tree.length = 32) (htb : ∀ x ∈ tree, x < 256) (hh32 : hash.length = 32) (hhb : ∀ x ∈ hash, x < 256) (hX : ∀ k ∈ X, k < w.heap.size) (hG : St (zbm gt 0) w X) : Ct Tryz.prog 36 [.agg (ca [.key kk]), .int .u64 n, .agg (ca [.key tree]), .agg (ca [.key hash])] X w (.tup [zqR gt (zjz gt kk n tree hash) n hash, .s (.p (.v (.int .i64 0)))]) [] [] := by
 refine vFn (k0 := 0) (rs := [.cell 8 34, .tmp 9]) (svs := [.a (.agg [.key kk]), zam .u64 n, .a (.agg [.key tree]), .a (.agg [.key hash])]) (R0 := [.c (zbm gt 0)]) (hnQ []) Tryz.ntmps36 Tryz.func36 rfl rfl rfl rfl rfl zah (by kernel_rfl) hX (fun r hr => by rcases List.mem_singleton.1 hr with rfl; exact hG) ?_
 conv => whnf
 refine vF (decide_eq_false (show ¬ ((n : Nat) : Int) > 1099511627776 by omega)) ?_
 conv => whnf
 obtain ⟨nb, hnb⟩ : ∃ nb, nb = beL 8 n := ⟨_, rfl⟩
 have hnl : nb.length = 8 := by rw [hnb]; simp [beL, beK]
 obtain ⟨k, hkk⟩ : ∃ k, k = zfb gt kk znz [nb, tree, hash] := ⟨_, rfl⟩
 have hkl : k.length = 32 := by rw [hkk]; exact zcv _ _ _ _
 have hkb2 : ∀ x ∈ k, x < 256 := by rw [hkk]; exact zbs _ _ _ _
 refine zas 12 [1010] (by kernel_rfl) ?_
 conv => whnf
 refine zaq (zaa (sv := .a (.s (.p (.hd 0 8)))) (rs := [.gone]) (Rs := [.sl 0 8 (TxG nb)]) rfl rfl rfl (by kernel_rfl) rfl fun h X w H => by
  have := zd3 8 n (by decide) (by omega) H.xk
  rw [← hnb] at this
  exact this) ?_
 conv => whnf
 refine zaq (zgh [5, 2, 1] rfl (zaa (sv := .tup [.agg [.key k], .s (.p (.v (.int .i64 0)))]) (rs := []) (Rs := []) rfl rfl rfl (by kernel_rfl) rfl fun h X w H => ?_)) ?_
 ·rw [hkk]
  refine zch (lab := znz) (ts := [nb, tree, hash]) (q := (some ⟨h.b 5, 0, none⟩, 3)) rfl (by decide) hk32 hkb ⟨by show 3 ≤ 100; decide, fun x hx => ?_⟩ H.xk (zbI (ql := [h.r 4, (some ⟨h.b 1, 0, none⟩, 32), (some ⟨h.b 2, 0, none⟩, 32)]) rfl (by simp) ?_ fun t x hx => ?_) (H.fact 4 rfl)
  ·rcases List.mem_cons.1 hx with rfl | hx
   ·omega
   rcases List.mem_cons.1 hx with rfl | hx
   ·omega
   ·rcases List.mem_singleton.1 hx with rfl; omega
  ·have := H.fact 2 rfl
   have e : zaD h [.one (.p (.hd 4 8)), .one (.p (.sl 1 0 32 32)), .one (.p (.sl 2 0 32 32))] = zbv [nb, tree, hash] [h.r 4, (some ⟨h.b 1, 0, none⟩, 32), (some ⟨h.b 2, 0, none⟩, 32)] := by
    simp only [zbv, ht32, hh32, hnl]
    rfl
   rw [← e]
   exact this
  ·match t with
   | 0 => obtain rfl := Option.some.inj hx; have h2 : St (TxN 8 nb (h.r 4)) w _ := H.fact 3 rfl; exact fun w' hk => (h2 w' hk).2
   | 1 => obtain rfl := Option.some.inj hx; exact zeb ht32 htb (H.fact 0 rfl)
   | 2 => obtain rfl := Option.some.inj hx; exact zeb hh32 hhb (H.fact 1 rfl)
   | t + 3 => simp at hx
 conv => whnf
 refine zcL rfl (zbU (z := [.key []]) (fun hn => by kernel_rfl) rfl rfl) ?_
 conv => whnf
 refine zac rfl rfl rfl (by kernel_rfl) (fun h X w H => zch (lab := zvj) (ts := []) (q := (none, 0)) rfl (by decide) hkl hkb2 zbi H.xk za7 (H.fact 1 rfl)) rfl rfl rfl ?_
 conv => whnf
 refine zac rfl rfl rfl (by kernel_rfl) (fun h X w H => zch (lab := zzx) (ts := []) (q := (none, 0)) rfl (by decide) hkl hkb2 zbi H.xk za7 (H.fact 1 rfl)) rfl rfl rfl ?_
 conv => whnf
 refine zac rfl rfl rfl (by kernel_rfl) (fun h X w H => zch (lab := zgy) (ts := []) (q := (none, 0)) rfl (by decide) hkl hkb2 zbi H.xk za7 (H.fact 1 rfl)) rfl rfl rfl ?_
 conv => whnf
 refine zac rfl rfl rfl (by kernel_rfl) (fun h X w H => zch (lab := ziJ) (ts := []) (q := (none, 0)) rfl (by decide) hkl hkb2 zbi H.xk za7 (H.fact 1 rfl)) rfl rfl rfl ?_
 conv => whnf
 refine zag ?_
 rw [hkk, hnb]
 rfl
theorem zCq {kd : Int} {id : Int} {seed : List Nat} (hbad : kd < 1 ∨ kd > 2 ∨ id < 0 ∨ id > 1048576) (hX : ∀ k ∈ X, k < w.heap.size) :
  Ct Tryz.prog 10 [.int .i64 kd, .int .i64 id, .agg (ca [.key seed])] X w (.tup [zqU noM 0, .s (.p (.v (.int .i64 1)))]) [.gone, .gone, .gone, .gone, .gone] (zqV noM 0) := by
 refine vFn (k0 := 0) (rs := [.cell 6 37, .tmp 7]) (svs := [zam .i64 kd, zam .i64 id, .a (.agg [.key seed])]) (R0 := []) (hnQ []) Tryz.ntmps10 Tryz.func10 rfl rfl rfl rfl rfl zah (by kernel_rfl) hX (fun r hr => by cases hr) ?_
 conv => whnf
 refine vIf (fun h1 => ?_) fun h1 => ?_
 ·conv => whnf
  exact zaK [(0, 2), (1, 3), (2, 4), (3, 5), (4, 6)] [0, 0, 0, 0, 0] (.inr (by simp only [nlV, nlT, nlA, nlC]; exact ⟨⟨rfl, rfl, rfl, rfl, rfl, rfl, rfl, rfl, rfl, rfl, rfl, rfl, rfl, rfl, rfl, trivial⟩, rfl, trivial⟩)) trivial rfl ⟨.inr (zaB rfl), .inr (zaB rfl), .inr (zaB rfl), .inr (zaB rfl), .inr (zaB rfl), trivial⟩
 have h1 : ¬ kd < 1 := of_decide_eq_false h1
 conv => whnf
 refine vIf (fun h2 => ?_) fun h2 => ?_
 ·conv => whnf
  exact zaK [(0, 2), (1, 3), (2, 4), (3, 5), (4, 6)] [0, 0, 0, 0, 0] (.inr (by simp only [nlV, nlT, nlA, nlC]; exact ⟨⟨rfl, rfl, rfl, rfl, rfl, rfl, rfl, rfl, rfl, rfl, rfl, rfl, rfl, rfl, rfl, trivial⟩, rfl, trivial⟩)) trivial rfl ⟨.inr (zaB rfl), .inr (zaB rfl), .inr (zaB rfl), .inr (zaB rfl), .inr (zaB rfl), trivial⟩
 have h2 : ¬ kd > 2 := of_decide_eq_false h2
 conv => whnf
 refine vIf (fun h3 => ?_) fun h3 => ?_
 ·conv => whnf
  exact zaK [(0, 2), (1, 3), (2, 4), (3, 5), (4, 6)] [0, 0, 0, 0, 0] (.inr (by simp only [nlV, nlT, nlA, nlC]; exact ⟨⟨rfl, rfl, rfl, rfl, rfl, rfl, rfl, rfl, rfl, rfl, rfl, rfl, rfl, rfl, rfl, trivial⟩, rfl, trivial⟩)) trivial rfl ⟨.inr (zaB rfl), .inr (zaB rfl), .inr (zaB rfl), .inr (zaB rfl), .inr (zaB rfl), trivial⟩
 have h3 : ¬ id < 0 := of_decide_eq_false h3
 conv => whnf
 refine vT (decide_eq_true (by omega)) ?_
 conv => whnf
 exact zaK [(0, 2), (1, 3), (2, 4), (3, 5), (4, 6)] [0, 0, 0, 0, 0] (.inr (by simp only [nlV, nlT, nlA, nlC]; exact ⟨⟨rfl, rfl, rfl, rfl, rfl, rfl, rfl, rfl, rfl, rfl, rfl, rfl, rfl, rfl, rfl, trivial⟩, rfl, trivial⟩)) trivial rfl ⟨.inr (zaB rfl), .inr (zaB rfl), .inr (zaB rfl), .inr (zaB rfl), .inr (zaB rfl), trivial⟩
theorem zyL {kd : Int} {n : Nat} {seed : List Nat} (hm : zdo kd [(n : Int)] [] = true) (hp : za1 [] ≠ za1 (zgz gt (zeP gt seed))) (hn : n ≤ 1048576) (hk32 : seed.length = 32) (hkb : ∀ x ∈ seed, x < 256) (hX : ∀ k ∈ X, k < w.heap.size) (hG : St (zbm gt 0) w X) :
  Ct Tryz.prog 10 [.int .i64 kd, .int .i64 n, .agg (ca [.key seed])] X w (.tup [zqU (zoS gt kd n seed) 0, .s (.p (.v (.int .i64 0)))]) [.gone, .gone, .gone, .gone, .gone] (zqV (zoS gt kd n seed) 0) := by
 have hkd : kd = 1 ∨ kd = 2 := by
  unfold zdo at hm
  rw [Bool.and_eq_true, Bool.or_eq_true] at hm
  exact hm.1.imp (fun h => eq_of_beq h) fun h => eq_of_beq h
 refine vFn (k0 := 0) (rs := [.cell 6 37, .tmp 7]) (svs := [zam .i64 kd, zam .i64 n, .a (.agg [.key seed])]) (R0 := [.c (zbm gt 0)]) (hnQ []) Tryz.ntmps10 Tryz.func10 rfl rfl rfl rfl rfl zah (by kernel_rfl) hX (fun r hr => by rcases List.mem_singleton.1 hr with rfl; exact hG) ?_
 obtain ⟨lf, hlf⟩ : ∃ lf, lf = zeP gt seed := ⟨_, rfl⟩
 conv => whnf
 refine vF (decide_eq_false (show ¬ kd < 1 by omega)) ?_
 conv => whnf
 refine vF (decide_eq_false (show ¬ kd > 2 by omega)) ?_
 conv => whnf
 refine vF (decide_eq_false (show ¬ ((n : Nat) : Int) > 1048576 by omega)) ?_
 conv => whnf
 refine zac (sv := .a (.agg [.key lf])) (rs := []) (Rs := []) rfl rfl rfl (by kernel_rfl) (fun h X w H => hlf ▸ zgZ (lab := zfK) rfl (by decide) hk32 hkb H.xk (H.fact 0 rfl)) rfl rfl rfl ?_
 conv => whnf
 obtain ⟨pt, hpt⟩ : ∃ pt, pt = zgz gt lf := ⟨_, rfl⟩
 have hl32 : lf.length = 32 := by rw [hlf]; exact zcv _ _ _ _
 have hlb : ∀ x ∈ lf, x < 256 := by rw [hlf]; exact zbs _ _ _ _
 refine zac (sv := .a (.agg [.key pt])) (rs := []) (Rs := []) rfl rfl rfl (by kernel_rfl) (fun h X w H => hpt ▸ zv0 hl32 hlb H.xk (H.fact 0 rfl)) rfl rfl rfl ?_
 conv => whnf
 obtain ⟨sm, hsm⟩ : ∃ sm, sm = zcY gt n pt := ⟨_, rfl⟩
 have hpt32 : pt.length = 32 := by rw [hpt]; exact znw _
 have hptb : ∀ x ∈ pt, x < 256 := by rw [hpt]; exact zjy _
 have hpp : za1 [] ≠ za1 pt := by rw [hpt, hlf]; exact hp
 refine zao (zaG [3, 4] rfl rfl (zan (sv := .tup [.agg [.key sm], .s (.p (.v (.int .i64 0)))]) (rs := []) (Rs := []) (zaa (sv := .tup [.agg [.key sm], .s (.p (.v (.int .i64 0)))]) (rs := []) (Rs := []) rfl rfl rfl (by kernel_rfl) rfl fun h X w H => ?_) rfl rfl)) ?_
 ·have h3 : St (AtC ⟨h.b 3, 0, none⟩ (zaF.ch (n : Int) ())) w _ := H.fact 1 rfl
  have h4 : St (AtC ⟨h.b 4, 0, none⟩ (zb5.ch pt ())) w _ := H.fact 0 rfl
  have := zv1 (gt := gt) hm hpp ⟨by omega, by omega⟩ hpt32 hptb H.xk (some ⟨h.b 3, 0, none⟩, 1) (none, 0) (some ⟨h.b 4, 0, none⟩, 1) (zcZ h3 zbE) za7 (zcZ h4 zbE) (H.fact 2 rfl)
  rw [← hsm] at this
  exact this
 conv => whnf
 obtain ⟨jn, hjn⟩ : ∃ jn, jn = zCD gt n seed := ⟨_, rfl⟩
 have hsm32 : sm.length = 32 := by rw [hsm]; exact zgq _ _
 have hsmb : ∀ x ∈ sm, x < 256 := by rw [hsm]; exact zeE _ _
 refine zas 10 [1008] (by kernel_rfl) ?_
 conv => whnf
 obtain ⟨jr, hjr⟩ : ∃ jr, jr = zfb gt seed ziM [] := ⟨_, rfl⟩
 have hjr32 : jr.length = 32 := by rw [hjr]; exact zcv _ _ _ _
 have hjrb : ∀ x ∈ jr, x < 256 := by rw [hjr]; exact zbs _ _ _ _
 refine zaq (zaa (sv := .a (.agg [.key jr])) (rs := []) (Rs := []) rfl rfl rfl (by kernel_rfl) rfl fun h X w H => hjr ▸ zgZ (lab := ziM) rfl (by decide) hk32 hkb H.xk (H.fact 2 rfl)) ?_
 conv => whnf
 have hjn2 : jn = zjz gt jr 0 sm znA := by rw [hjn, zCD, hjr, hsm, hpt, hlf]
 refine zaq (zaa (sv := .tup [zqR gt jn 0 znA, .s (.p (.v (.int .i64 0)))]) (rs := []) (Rs := []) rfl rfl rfl (by kernel_rfl) rfl fun h X w H => ?_) ?_
 ·have := zv3 (gt := gt) (n := 0) (tree := sm) (hash := znA) (by omega) hjr32 hjrb hsm32 hsmb rfl (by decide) H.xk (H.fact 2 rfl)
  rw [← hjn2] at this
  exact this
 conv => whnf
 refine zcL rfl (zbU (z := [.one (.p (.v (.int .u64 0))), .key [], .key [], .key [], .key [], .key []]) (fun hn => by kernel_rfl) rfl rfl) ?_
 conv => whnf
 obtain ⟨ap, hap⟩ : ∃ ap, ap = zfb gt jn zzx [] := ⟨_, rfl⟩
 have hap32 : ap.length = 32 := by rw [hap]; exact zcv _ _ _ _
 have hapb : ∀ x ∈ ap, x < 256 := by rw [hap]; exact zbs _ _ _ _
 refine zaI (zaG [8] rfl rfl (zan (sv := .tup [.s (.p (.hd 9 1)), .s (.p (.v (.int .i64 0)))]) (rs := [zba zdL [zcQ gt ap n] 46]) (Rs := [.q 9 (zbS zdL [zcQ gt ap n])]) (zaa (sv := .tup [.s (.p (.hd 0 1)), .s (.p (.v (.int .i64 0)))]) (rs := [zba zdL [zcQ gt ap n] 46]) (Rs := [.q 0 (zbS zdL [zcQ gt ap n])]) rfl rfl rfl (by kernel_rfl) rfl fun h X w H => ?_) rfl rfl)) ?_
 ·have h8 : St (AtC ⟨h.b 8, 0, none⟩ (zaF.ch (n : Int) ())) w _ := H.fact 0 rfl
  have := ziQ (gt := gt) (ids := [(n : Int)]) (fun x hx => by rcases List.mem_singleton.1 hx with rfl; exact ⟨by omega, by omega⟩) (by show 1 ≤ _; decide) hap32 hapb H.xk (zcZ h8 zbE) (H.fact 3 rfl)
  rw [hap] at this ⊢
  exact this
 conv => whnf
 have em : zoS gt kd n seed = ⟨zaY kd n pt, n, lf, [], [], zd2 gt jn, [zcQ gt ap n]⟩ := by rw [zoS, zvo, ← hlf, ← hpt, ← hjn, ← hap]
 rw [em]
 clear em hlf hpt hjn hap hsm hjr hjn2
 refine zkf 9 rfl (.head _) rfl ?_
 show RetOk X [] w _ 10 (zrR kd n lf [] (zd2 gt jn) (.sl 3 0 1 1) (.v (.slice none 0 0)) (.sl 4 0 1 1) (.v (.slice none 0 0)) (.hd 9 1)) _ _
 refine zeJ (sv' := zrR kd n lf [] (zd2 gt jn) (.hd 10 1) (.v (.slice none 0 0)) (.sl 4 0 1 1) (.v (.slice none 0 0)) (.hd 9 1)) 1 (SlF zaF [(n : Int)]) (fun h => (some ⟨h.b 3, 0, none⟩, 1)) (fun h h' e => by rw [(e 3 rfl).1]) (fun h X w H => zcZ (T := zaF) (x := (n : Int)) (μ := ()) (H.fact 4 rfl) zbE) (fun h e => zdE (by simp only [SP.den, e]) rfl rfl rfl rfl) rfl ?_
 refine zeJ (sv' := zrR kd n lf [] (zd2 gt jn) (.hd 10 1) (.hd 11 0) (.sl 4 0 1 1) (.v (.slice none 0 0)) (.hd 9 1)) 0 (SlF (zcM zaF) []) (fun h => (none, 0)) (fun h h' e => rfl) (fun h X w H => za7) (fun h e => zdE rfl (by simp only [SP.den, e]) rfl rfl rfl) rfl ?_
 refine zeJ (sv' := zrR kd n lf [] (zd2 gt jn) (.hd 10 1) (.hd 11 0) (.hd 12 1) (.v (.slice none 0 0)) (.hd 9 1)) 1 (SlF zb5 [pt]) (fun h => (some ⟨h.b 4, 0, none⟩, 1)) (fun h h' e => by rw [(e 4 rfl).1]) (fun h X w H => zcZ (T := zb5) (x := pt) (μ := ()) (H.fact 5 rfl) zbE) (fun h e => zdE rfl rfl (by simp only [SP.den, e]) rfl rfl) rfl ?_
 refine zeJ (sv' := zrR kd n lf [] (zd2 gt jn) (.hd 10 1) (.hd 11 0) (.hd 12 1) (.hd 13 0) (.hd 9 1)) 0 (SlF zb5 []) (fun h => (none, 0)) (fun h h' e => rfl) (fun h X w H => za7) (fun h e => zdE rfl rfl rfl (by simp only [SP.den, e]) rfl) rfl ?_
 exact zaK [(0, 10), (1, 11), (2, 12), (3, 13), (4, 9)] [3, 2, 1, 0, 4] (.inl rfl) trivial rfl ⟨.inl rfl, .inl rfl, .inl rfl, .inl rfl, .inl rfl, trivial⟩
end
end
section
open Go.RowKit
theorem zg0 {α : Type} {p : α → α → Bool} (h : ∀ x, p x x = true) : ∀ l : List α, zdM p l l = true
 | [] => rfl
 | a :: l => by rw [zdM, h, zg0 h l]; rfl
theorem ziR (l : List Int) : zcx l l = true := decide_eq_true rfl
theorem ziS (l : List (List Nat)) : zfL l l = true := decide_eq_true rfl
theorem znH (l : List (Nat × List Nat)) : zfd l l = true := decide_eq_true rfl
theorem zhg (r : Rat) : zbR r r = true := by unfold zbR; rw [znH]; simp
theorem znI (t : Tre) : zc0 t t = true := by
 unfold zc0 zcy
 rw [ziR, zg0 ziR, ziS]
 simp
theorem znJ (e : Epo) : zkV e e = true := by
 unfold zkV zCc
 simp [zwf]
theorem znK (x : Mem) : zbB x x = true := by
 unfold zbB
 rw [znI, ziS, znJ, zg0 zhg]
 simp
section
variable {X : List Nat} {w : World} {gt : Nat → Nat} {seed sec : List Nat}
end
end
section
open Go.RowKit
section
variable {X : List Nat} {w : World} {seed : List Nat} {gt : Nat → Nat} {q : Qd}
def zyM (gt : Nat → Nat) (kd id : Int) (seed : List Nat) : Mem × Int := if zdo kd [id] [] then (zoS gt kd id.toNat seed, 0) else (noM, 1)
theorem zCr {kd id : Int} (hk32 : seed.length = 32) (hkb : ∀ x ∈ seed, x < 256) (hX : ∀ k ∈ X, k < w.heap.size) (hG : St (zbm gt 2) w X) :
  Ct Tryz.prog 9 [.int .i64 kd, .int .i64 id, .agg (ca [.key seed])] X w (.tup [zqU (zyM gt kd id seed).1 0, .s (.p (.v (.int .i64 (zyM gt kd id seed).2)))]) [.gone, .gone, .gone, .gone, .gone] (zqV (zyM gt kd id seed).1 0) := by
 unfold zyM
 cases hm : zdo kd [id] [] with
 | false => exact zEn hm hk32 hkb hX hG
 | true =>
  have h2 := hm
  rw [zkY, Bool.and_eq_true] at h2
  have h3 := of_decide_eq_true h2.2
  obtain ⟨n, rfl⟩ : ∃ n : Nat, id = n := ⟨id.toNat, by omega⟩
  exact zvp hm (zff _) (by omega) hk32 hkb hX hG
theorem zyN {kd id : Int} (hk32 : seed.length = 32) (hkb : ∀ x ∈ seed, x < 256) (hX : ∀ k ∈ X, k < w.heap.size) (hG : St (zbm gt 0) w X) :
  Ct Tryz.prog 10 [.int .i64 kd, .int .i64 id, .agg (ca [.key seed])] X w (.tup [zqU (zyM gt kd id seed).1 0, .s (.p (.v (.int .i64 (zyM gt kd id seed).2)))]) [.gone, .gone, .gone, .gone, .gone] (zqV (zyM gt kd id seed).1 0) := by
 unfold zyM
 cases hm : zdo kd [id] [] with
 | false =>
  rw [zkY] at hm
  refine zCq ?_ hX
  have h1 : ¬ ((kd = 1 ∨ kd = 2) ∧ (0 ≤ id ∧ id ≤ 1048576)) := fun h => by rw [decide_eq_true h.1, decide_eq_true h.2] at hm; cases hm
  omega
 | true =>
  have h2 := hm
  rw [zkY, Bool.and_eq_true] at h2
  have h3 := of_decide_eq_true h2.2
  obtain ⟨n, rfl⟩ : ∃ n : Nat, id = n := ⟨id.toNat, by omega⟩
  exact zyL hm (zff _) (by omega) hk32 hkb hX hG
theorem Ct.nil2 {α : Type} {T : Ty α} {P : Program} {f : FuncId} {args : List Value} {e : Int} (h : Ct P f args X w (.tup [.s (.p (.v (.slice none 0 0))), .s (.p (.v (.int .i64 e)))]) [] []) : Ct P f args X w (.tup [.s (.p (.hd 0 0)), .s (.p (.v (.int .i64 e)))]) [.gone] [.sl 0 0 (SlF T [])] := h.mono fun e w' ⟨h, he, hS⟩ => ⟨hnQ [(none, 0)], he, hS.refacts fun r hr => by
 rcases List.mem_singleton.1 hr with rfl
 exact zaB (T := T) (k := 0) (b := 0) rfl (hnQ [(none, 0)]) _ _ (fun i _ => by cases i <;> rfl)⟩
open Classical in
noncomputable def chX (gt : Nat → Nat) (app : List Nat) (ids : List Int) : List Rat × Int := if ∀ id ∈ ids, ziK id then (zcw gt app ids, 0) else ([], 1)
theorem zEu {ids : List Int} (hil : ids.length ≤ 1000000) (hk32 : seed.length = 32) (hkb : ∀ x ∈ seed, x < 256) (hX : ∀ k ∈ X, k < w.heap.size) (hq : St (SlQ zaF ids q) w X) (hG : St (zbm gt 2) w X) : Ct Tryz.prog 11 [.agg (ca [.key seed]), .slice q.1 ids.length q.2] X w (.tup [.s (.p (.hd 0 (chX gt seed ids).1.length)), .s (.p (.v (.int .i64 (chX gt seed ids).2)))]) [.gone] [.sl 0 (chX gt seed ids).1.length (SlF zdL (chX gt seed ids).1)] := by
 unfold chX
 by_cases h : ∀ id ∈ ids, ziK id
 ·rw [if_pos h]
  have := Ct.frz hX (zjA (gt := gt) h hil hk32 hkb hX hq hG)
  have hl : ids.length = (zcw gt seed ids).length := by unfold zcw; rw [List.length_map]
  rw [← hl] at this ⊢
  exact this
 ·rw [if_neg h]
  exact Ct.nil2 (zvk (gt := gt) (Classical.byContradiction fun hn => h fun id hm => Classical.byContradiction fun h2 => hn ⟨id, hm, h2⟩) hil hk32 hkb hX hq hG)
theorem zCs {ids : List Int} (hil : ids.length ≤ 1000000) (hk32 : seed.length = 32) (hkb : ∀ x ∈ seed, x < 256) (hX : ∀ k ∈ X, k < w.heap.size) (hq : St (SlQ zaF ids q) w X) (hG : St (zbm gt 0) w X) : Ct Tryz.prog 12 [.agg (ca [.key seed]), .slice q.1 ids.length q.2] X w (.tup [.s (.p (.hd 0 (chX gt seed ids).1.length)), .s (.p (.v (.int .i64 (chX gt seed ids).2)))]) [.gone] [.sl 0 (chX gt seed ids).1.length (SlF zdL (chX gt seed ids).1)] := by
 unfold chX
 by_cases h : ∀ id ∈ ids, ziK id
 ·rw [if_pos h]
  have := Ct.frz hX (ziQ (gt := gt) h hil hk32 hkb hX hq hG)
  have hl : ids.length = (zcw gt seed ids).length := by unfold zcw; rw [List.length_map]
  rw [← hl] at this ⊢
  exact this
 ·rw [if_neg h]
  exact Ct.nil2 (zr2 (gt := gt) (Classical.byContradiction fun hn => h fun id hm => Classical.byContradiction fun h2 => hn ⟨id, hm, h2⟩) hil hk32 hkb hX hq hG)
theorem zo1 {kd id : Int} {ids : List Int} (hk32 : seed.length = 32) (hkb : ∀ x ∈ seed, x < 256) (hX : ∀ k ∈ X, k < w.heap.size) (hq : St (SlQ zaF ids q) w X) (hG : St (zbm gt 2) w X) (hG2 : St (zbm gt 0) w X) : Ct Tryz.prog 3 [.int .i64 kd, .int .i64 id, .agg (ca [.key seed]), .slice q.1 ids.length q.2] X w (za4 true) [] [] := by
 refine vFn (k0 := 1) (rs := [.tmp 8]) (svs := [zam .i64 kd, zam .i64 id, .a (.agg [.key seed]), .a (.s (.p (.hd 0 ids.length)))]) (R0 := [.sl 0 ids.length (SlF zaF ids), .c (zbm gt 2), .c (zbm gt 0)]) (hnQ [q]) Tryz.ntmps3 Tryz.func3 rfl rfl rfl rfl rfl zah (by kernel_rfl) hX (fun r hr => by
  rcases List.mem_cons.1 hr with rfl | hr
  ·exact hq
  rcases List.mem_cons.1 hr with rfl | hr
  ·exact hG
  ·rcases List.mem_singleton.1 hr with rfl; exact hG2) ?_
 conv => whnf
 refine zac (sv := za4 true) (rs := []) (Rs := []) rfl rfl rfl (by kernel_rfl) (fun h X w H => zvZ H.xk (H.fact 1 rfl)) rfl rfl rfl ?_
 conv => whnf
 refine vIf (fun hc => ?_) fun hc => ?_
 ·conv => whnf
  exact zag rfl
 have hlen : ids.length ≤ 50 := by
  have : ¬ ((ids.length : Nat) : Int) > 50 := of_decide_eq_false hc
  omega
 obtain ⟨x, e, hx⟩ : ∃ x e, zyM gt kd id seed = (x, e) := ⟨_, _, rfl⟩
 obtain ⟨l, f, hl⟩ : ∃ l f, chX gt seed ids = (l, f) := ⟨_, _, rfl⟩
 conv => whnf
 refine zac (sv := .tup [zqU x 0, .s (.p (.v (.int .i64 e)))]) (rs := [.gone, .gone, .gone, .gone, .gone]) (Rs := zqV x 0) rfl rfl rfl (by kernel_rfl) (fun h X w H => by
  have := zCr (gt := gt) (kd := kd) (id := id) hk32 hkb H.xk (H.fact 1 rfl)
  rw [hx] at this
  exact this) rfl rfl rfl ?_
 conv => whnf
 refine zac (sv := .tup [zqU x 0, .s (.p (.v (.int .i64 e)))]) (rs := [.gone, .gone, .gone, .gone, .gone]) (Rs := zqV x 0) rfl rfl rfl (by kernel_rfl) (fun h X w H => by
  have := zyN (gt := gt) (kd := kd) (id := id) hk32 hkb H.xk (H.fact 7 rfl)
  rw [hx] at this
  exact this) rfl rfl rfl ?_
 conv => whnf
 refine zac (sv := .tup [.s (.p (.hd 0 l.length)), .s (.p (.v (.int .i64 f)))]) (rs := [.gone]) (Rs := [.sl 0 l.length (SlF zdL l)]) rfl rfl rfl (by kernel_rfl) (fun h X w H => by
  have := zEu (gt := gt) (ids := ids) (by omega) hk32 hkb H.xk (H.fact 10 rfl) (H.fact 11 rfl)
  rw [hl] at this
  exact this) rfl rfl rfl ?_
 conv => whnf
 refine zac (sv := .tup [.s (.p (.hd 0 l.length)), .s (.p (.v (.int .i64 f)))]) (rs := [.gone]) (Rs := [.sl 0 l.length (SlF zdL l)]) rfl rfl rfl (by kernel_rfl) (fun h X w H => by
  have := zCs (gt := gt) (ids := ids) (by omega) hk32 hkb H.xk (H.fact 11 rfl) (H.fact 13 rfl)
  rw [hl] at this
  exact this) rfl rfl rfl ?_
 conv => whnf
 refine vIf (fun hc => ?_) fun hc => ?_
 ·have : (((l.length : Nat) : Int) != ((l.length : Nat) : Int)) = true := hc
  simp at this
 conv => whnf
 refine vIf (fun hc => ?_) fun hc => ?_
 ·have : (f != f) = true := hc
  simp at this
 conv => whnf
 have hbl : l.length ≤ 9223372036854775807 := by
  have : l = (chX gt seed ids).1 := by rw [hl]
  rw [this]
  unfold chX
  split
  ·unfold zcw; rw [List.length_map]; omega
  ·exact Nat.zero_le _
 refine ⟨Nat, fun k l m R i => ⟨k, (64, zam .i64 i) :: zaC [9, 10, 11, 12, 13, 14, 16, 62, 63] l, m, R⟩, fun i => i ≤ l.length, fun i => l.length - i, ⟨0, [], [0, 1, 2, 3, 4, 5, 6, 7, 8, 9, 10, 11, 12, 13, 14], Nat.zero_le _, zaE⟩, fun i hi => ?_⟩
 conv => whnf
 refine vIf (fun hc => ?_) fun hc => ?_
 ·have hi2 : i < l.length := by
   have : (i : Int) < ((l.length : Nat) : Int) := of_decide_eq_true hc
   omega
  obtain ⟨r, hr⟩ : ∃ r, l[i]? = some r := ⟨_, jP hi2⟩
  conv => whnf
  refine zas 8 [] (by kernel_rfl) ?_
  conv => whnf
  refine ⟨i, ⟨rfl, hi2, hi2⟩, ?_⟩
  conv => whnf
  refine zaq (zdF ziN (x := r) (n := 34) (off := 0) (sub := [.key r.chain, .one (.p (.v (.int .u64 ((r.gen : Nat) : Int)))), .one (.p (.hd 16 r.left.length))]) (Rs := [.sl 16 r.left.length (SlF zbZ r.left)]) 1 (fun μ => [μ]) 1 hr rfl rfl rfl (by kernel_rfl) (.inl ⟨rfl, rfl⟩) (fun μ h hh => by
   have e : h.r 16 = μ := hh 0 (by omega)
   subst e
   rfl) fun μ h w Y hh hn r hr => by
    have e : h.r 16 = μ := hh 0 (by omega)
    rcases List.mem_singleton.1 hr with rfl
    subst e
    exact hn) ?_
  conv => whnf
  refine ⟨i, ⟨rfl, hi2, hi2⟩, ?_⟩
  conv => whnf
  refine zaq (zdF ziN (x := r) (n := 34) (off := 0) (sub := [.key r.chain, .one (.p (.v (.int .u64 ((r.gen : Nat) : Int)))), .one (.p (.hd 17 r.left.length))]) (Rs := [.sl 17 r.left.length (SlF zbZ r.left)]) 0 (fun μ => [μ]) 1 hr rfl rfl rfl (by kernel_rfl) (.inl ⟨rfl, rfl⟩) (fun μ h hh => by
   have e : h.r 17 = μ := hh 0 (by omega)
   subst e
   rfl) fun μ h w Y hh hn r hr => by
    have e : h.r 17 = μ := hh 0 (by omega)
    rcases List.mem_singleton.1 hr with rfl
    subst e
    exact hn) ?_
  conv => whnf
  refine zac (sv := za4 true) (rs := []) (Rs := []) rfl rfl rfl (by kernel_rfl) (fun h X w H => by
   have := zvz r r (h.r 16) (h.r 17) H.xk (H.fact 1 rfl) (H.fact 0 rfl)
   rw [zhg] at this
   exact this) rfl rfl rfl ?_
  conv => whnf
  refine zbq (by omega) (by omega) ?_
  conv => whnf
  exact ⟨i + 1, [], [2, 3, 4, 5, 6, 7, 8, 9, 10, 11, 12, 13, 14, 15, 16], ⟨hi2, Nat.sub_lt_sub_left hi2 (Nat.lt_succ_self i)⟩, zaE⟩
 conv => whnf
 refine zac (sv := za4 true) (rs := []) (Rs := []) rfl rfl rfl (by kernel_rfl) (fun h X w H => by
  have := zCe x x (q1 := h.r 2) (q2 := h.r 3) (q3 := h.r 4) (q4 := h.r 5) (q5 := h.r 6) (p1 := h.r 8) (p2 := h.r 9) (p3 := h.r 10) (p4 := h.r 11) (p5 := h.r 12) H.xk ⟨H.fact 7 rfl, H.fact 8 rfl, H.fact 9 rfl, H.fact 10 rfl, H.fact 11 rfl⟩ ⟨H.fact 2 rfl, H.fact 3 rfl, H.fact 4 rfl, H.fact 5 rfl, H.fact 6 rfl⟩
  rw [znK] at this
  exact this) rfl rfl rfl ?_
 conv => whnf
 refine vIf (fun hc => ?_) fun hc => ?_
 ·conv => whnf
  exact zag rfl
 ·have : (e == e) = false := hc
  simp at this
theorem znL {kd id : Int} {ids : List Int} {m : Nat → Unit} {OA : Option Addr} {oc : Nat} (hk32 : seed.length = 32) (hkb : ∀ x ∈ seed, x < 256) (hX : ∀ k ∈ X, k < w.heap.size) (hq : St (LiF zaF OA oc ids m) w X) (hG : St (zbm gt 2) w X) (hG2 : St (zbm gt 0) w X) : Calls Tryz.prog 3 #[.int .i64 kd, .int .i64 id, .agg (ca [.key seed]), .slice OA ids.length oc] w fun e w' => e = .returned (.bool true) ∧ Sep X [] w w' [] [] :=
 (zo1 (q := (OA, oc)) hk32 hkb hX (zyV hq) hG hG2).mono fun e w' ⟨_, he, hS⟩ => ⟨he, hS⟩
end
end
end Go.Proofs.YtcmmpiaogfnmoaaGreatDoor
