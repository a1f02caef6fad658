/- x[i] of an array that is a value; no program is in sight. The walks of layer 5: whether numbers may be. The walks of layer 5: what goes over a part is carried. The walks of layer 5: a number's own, below p. Plain law of layer 5: a number's parts, and its bytes; no program is in sight. The walks of layer 5: a number's bytes. The walks of layer 5: a number of bytes. A region that draws its order, where at some places either of two operations may come up: both ways are walked. The walks of layer 5: bytes told, and sums. The walks of layer 5: a number of 128 bits, and a product. Plain law of layer -/
import Derived.Test.YtfolbgiekbimpaaGreatDoorKemBoxesC
import Derived.Great.Walk
import Derived.Laws.Bits64b
import Derived.Lib.Mul64
import Derived.Laws.Externs
set_option linter.unusedSimpArgs false
set_option linter.unusedVariables false
set_option maxRecDepth 200000
set_option maxHeartbeats 6000000
namespace Go.Proofs.YtfolbgiekbimpaaGreatDoor
section
open Go.RowKit
section
variable {P : Program} {ops : Array Oper} {rest : List Oper} {o : Oper} {a : Act} {w : World} {Q : Exit → Act → World → Prop}
theorem zov (k : IntKind) (N : Nat) (f : Nat → Int) (off n : Nat) (h : off + n ≤ N) : (arr k N f).extract off (off + n) = arr k n fun i => f (off + i) := by
 apply Array.ext_getElem?
 intro j
 by_cases hj : j < n
 ·rw [zeT _ _ _ _ hj, Array.getElem?_extract, if_pos (by rw [zcr]; omega), zeT _ _ _ _ (by omega)]
 ·rw [Array.getElem?_eq_none (by simp [zcr]; omega), Array.getElem?_eq_none (by rw [zcr]; omega)]
theorem zkY {e n : Nat} (hT : zeB P e n) : (isAgg e).run P w = .ok true w := by
 obtain ⟨d, hu, hd, _⟩ := hT
 unfold isAgg
 rw [Sem.run_bind, run_underlying hu w]
 cases d <;> simp_all
theorem zh3 {t e n N len : Nat} {k : IntKind} {f : Nat → Int} {x y : Operand} {i : Int} (ho : o.op = .index t x y) (ht : P.underlying t = some (.array len e)) (hT : zeB P e n) (hx : a.eval x = .agg (arr k N f)) (hy : a.eval y = .int .i64 i) (h0 : 0 ≤ i) (hi : i < len) (hle : i.toNat * n + n ≤ N) :
  (execOp a.eval o).run P w = .ok (.value (.agg (arr k n fun j => f (i.toNat * n + j)))) w := by
 have hs := hT
 obtain ⟨_, _, _, hs⟩ := hs
 unfold execOp
 simp only [ho, hx, hy]
 unfold Instr.index
 have h1 : 0 ≤ i ∧ i < (len : Int) := ⟨h0, hi⟩
 simp [Sem.run_bind, run_underlying ht, asIntOf, h1, zbv hs, part, zkY hT, zov k N f _ n hle]
theorem zhi {t e N len : Nat} {k : IntKind} {d : TypeDesc} {f : Nat → Int} {x y : Operand} {i : Int} (ho : o.op = .index t x y) (ht : P.underlying t = some (.array len e)) (he : P.underlying e = some d) (hd : (match d with | .struct _ | .array _ _ => true | _ => false) = false) (hs : (P.info? e).map (·.size) = some 1) (hx : a.eval x = .agg (arr k N f)) (hy : a.eval y = .int .i64 i) (h0 : 0 ≤ i) (hi : i < len) (hle : i.toNat < N) :
  (execOp a.eval o).run P w = .ok (.value (.int k (f i.toNat))) w := by
 have hg : (isAgg e).run P w = .ok false w := by
  unfold isAgg
  rw [Sem.run_bind, run_underlying he w]
  cases d <;> simp_all
 unfold execOp
 simp only [ho, hx, hy]
 unfold Instr.index
 have h1 : 0 ≤ i ∧ i < (len : Int) := ⟨h0, hi⟩
 simp [Sem.run_bind, run_underlying ht, asIntOf, h1, zbv hs, part, hg, zeT _ _ _ _ hle]
theorem zfk {t e n N len : Nat} {k : IntKind} {f : Nat → Int} {x y : Operand} {i : Int} (hgd : o.guard = none) (ho : o.op = .index t x y) (ht : P.underlying t = some (.array len e)) (hT : zeB P e n) (hx : a.eval x = .agg (arr k N f)) (hy : a.eval y = .int .i64 i) (h0 : 0 ≤ i) (hi : i < len) (hle : i.toNat * n + n ≤ N)
  (f' : Nat → Int) (hf : ∀ j, j < n → f (i.toNat * n + j) = f' j) (h : wpList P ops Q rest (a.put o.dst (.agg (arr k n f'))) w) : wpList P ops Q (o :: rest) a w :=
 zfP hgd (zh3 ho ht hT hx hy h0 hi hle) (by rw [zcc hf]; exact h)
theorem zaO {t e N len : Nat} {k : IntKind} {d : TypeDesc} {f : Nat → Int} {x y : Operand} {i : Int} (hgd : o.guard = none) (ho : o.op = .index t x y) (ht : P.underlying t = some (.array len e)) (he : P.underlying e = some d) (hd : (match d with | .struct _ | .array _ _ => true | _ => false) = false) (hs : (P.info? e).map (·.size) = some 1) (hx : a.eval x = .agg (arr k N f)) (hy : a.eval y = .int .i64 i) (h0 : 0 ≤ i) (hi : i < len) (hle : i.toNat < N)
  (h : wpList P ops Q rest (a.put o.dst (.int k (f i.toNat))) w) : wpList P ops Q (o :: rest) a w :=
 zfP hgd (zhi ho ht he hd hs hx hy h0 hi hle) h
theorem zaI {ty : TypeId} {parts : Array (Nat × Operand)} {c : Array Value} {l : List (Nat × Value)} (ho : o.op = .build ty parts) (hl : (parts.map fun (i, x) => (i, a.eval x)).toList = l) (hb : P.built ty l = some c) : (execOp a.eval o).run P w = .ok (.value (.agg c)) w := by
 subst hl
 unfold execOp
 simp only [ho, Sem.run_bind, run_build w ty _ c hb, Result.andThen_ok]
 rfl
theorem zcI {t e len : Nat} {parts : Array (Nat × Operand)} {c : Array Value} {l : List (Nat × Value)} (hgd : o.guard = none) (ho : o.op = .buildSlice t len parts) (hu : P.underlying t = some (.slice e)) (hl : (parts.map fun (i, x) => (i, a.eval x)).toList = l) (hb : P.builtSlice e len l = some c)
  (h : wpList P ops Q rest (a.put o.dst (.slice (some ⟨w.heap.size, 0, none⟩) len len)) (w.alloc (.cells c e))) : wpList P ops Q (o :: rest) a w := by
 subst hl
 exact Go.Great.wpList_buildSliceTo hgd t e len parts ho _ rfl _ rfl hu c hb h
end
end
section
open Go.RowKit
theorem za8 : zeB Tryz.prog 69 5 := ⟨_, Tryz.underlying69, rfl, by kernel_rfl⟩
theorem zfV : zcw Tryz.prog 69 .u64 5 := by unfold zcw; kernel_rfl
theorem zi7 : (Tryz.prog.info? 67).map (·.size) = some 1 := by kernel_rfl
def mxN (F : Nat → Nat) : Nat → Nat
 | 0 => F 0
 | m + 1 => max (mxN F m) (F (m + 1))
theorem zwG (F : Nat → Nat) (b : Nat) : ∀ m, (mxN F m < b ↔ ∀ i, i < m + 1 → F i < b)
 | 0 => by
  unfold mxN
  exact ⟨fun h i hi => by rw [show i = 0 from by omega]; exact h, fun h => h 0 (by omega)⟩
 | m + 1 => by
  unfold mxN
  rw [Nat.max_lt, zwG F b m]
  constructor
  ·rintro ⟨h1, h2⟩ i hi
   by_cases h : i < m + 1
   ·exact h1 i h
   ·rw [show i = m + 1 from by omega]; exact h2
  ·intro h
   exact ⟨fun i hi => h i (by omega), h _ (by omega)⟩
theorem zu4 (F : Nat → Nat) (m : Nat) : mxN F (m + 1) = max (mxN F m) (F (m + 1)) := rfl
attribute [local irreducible] mxN
theorem zx0 (F : Nat → Nat) (hF : ∀ i, i < 5 → F i < 18446744073709551616) (g : Nat) (w : World) (hg : w.heap[g]? = some (.cells (arr .u64 5 fun i => ((F i : Nat) : Int)) 69 (0, 0))) :
  Calls Tryz.prog 101 #[.slice (some ⟨g, 0, none⟩) 5 5] w fun e w' => e = .returned (.int .u64 ((mxN F 4 : Nat) : Int)) ∧ w = w' := by
 go_enter Tryz.func101, Tryz.ntmps101
 have c0 := zaj hg 0 (by omega)
 go_wp2
 have e0 : mxN F 0 = F 0 := by unfold mxN; rfl
 go_loopg [3, 4] 4 (fun n x i wr => ∃ m : Nat, m + n = 4 ∧ i = .int .i64 ((m : Int) + 1) ∧ x = .int .u64 ((mxN F m : Nat) : Int) ∧ w = wr)
 case atStart => exact ⟨0, rfl, rfl, by rw [e0], rfl⟩
 case round =>
  obtain ⟨m, hm, rfl, rfl, rfl⟩ := hrel
  have hm' := Lib.hid hm
  clear hm c0 e0
  by_cases hlt : m < 4
  ·have c1 := zaj hg (m + 1) (by omega)
   go_wp2
   all_goals
    go_roundg (gk - 1)
    case measure => have := hm'.out; omega
    case rel =>
     have hm'' := hm'.out
     exact ⟨m + 1, by omega, by go_num, by rw [zu4]; congr 2; omega, rfl⟩
  ·obtain rfl : m = 4 := by have := hm'.out; omega
   go_wp2
   go_ret
   exact ⟨rfl, rfl⟩
def okF (F : Nat → Nat) (n : Nat) : Prop := ∀ i, i < n → F i < 4503599627370496
instance (F : Nat → Nat) (n : Nat) : Decidable (okF F n) := Nat.decidableBallLT n fun i _ => F i < 4503599627370496
theorem zu5 (F : Nat → Nat) (off k : Nat) (h : okF F (off + 5 * k)) : okF F (off + 5 * (k + 1)) ↔ okF (fun i => F (off + 5 * k + i)) 5 := by
 constructor
 ·intro h i hi; exact h _ (by omega)
 ·intro h' i hi
  by_cases hlt : i < off + 5 * k
  ·exact h i hlt
  ·have := h' (i - (off + 5 * k)) (by omega)
   simpa only [show off + 5 * k + (i - (off + 5 * k)) = i from by omega] using this
theorem zsv (F : Nat → Nat) (hF : ∀ i, i < 5 → F i < 18446744073709551616) (w : World) :
  Calls Tryz.prog 100 #[.agg (arr .u64 5 fun i => ((F i : Nat) : Int))] w fun e w' => e = .returned (.bool (!decide (okF F 5))) ∧ Below w.heap.size w w' := by
 go_enter Tryz.func100, Tryz.ntmps100
 obtain ⟨g0, hz, hb0⟩ := zb5 w (.cells (arr .u64 5 fun i => ((F i : Nat) : Int)) 69)
 have hl := zwG F 4503599627370496 4
 have e0 : (!decide (okF F 5)) = decide (4503599627370496 ≤ mxN F 4) := by
  rw [← decide_not]
  exact decide_eq_decide.2 (by rw [← Nat.not_lt, hl]; rfl)
 rw [e0]
 clear e0 hl
 go_wp2_with (first | (refine za5 rfl (zdM rfl Tryz.underlying69 zi7 rfl) ?_) | (go_at_call 101; refine (zx0 F hF _ _ g0).mono ?_; rintro e w' ⟨rfl, rfl⟩))
 go_ret
 refine ⟨?_, hb0⟩
 show Ending.returned (Value.bool _) = Ending.returned (Value.bool _)
 rw [show decide ((4503599627370496 : Int) ≤ ((mxN F 4 : Nat) : Int)) = decide (4503599627370496 ≤ mxN F 4) from decide_eq_decide.2 (by omega)]
theorem zkZ (n : Nat) (hn : n < 1000) (F : Nat → Nat) (hF : ∀ i, i < 5 * n → F i < 18446744073709551616) (g t : Nat) (w : World) (hg : w.heap[g]? = some (.cells (arr .u64 (5 * n) fun i => ((F i : Nat) : Int)) t (0, 0))) :
  Calls Tryz.prog 126 #[.slice (some ⟨g, 0, none⟩) n n, .func (.func 100) #[] #[]] w fun e w' => (∃ r : Int, e = .returned (.int .i64 r) ∧ decide (r ≥ 0) = !decide (okF F (5 * n))) ∧ Below w.heap.size w w' := by
 go_enter Tryz.func126, Tryz.ntmps126
 have hgl := jM hg
 go_wp2
 go_loopg [8] n (fun q i wr => ∃ m : Nat, m + q = n ∧ i = .int .i64 m ∧ okF F (5 * m) ∧ wr.heap[g]? = some (.cells (arr .u64 (5 * n) fun i => ((F i : Nat) : Int)) t (0, 0)) ∧ Below w.heap.size w wr)
 case atStart => exact ⟨0, by omega, rfl, fun i hi => absurd hi (by omega), hg, Below.refl _ _⟩
 case round =>
  clear hg
  obtain ⟨m, hm, rfl, hok, hg, hB⟩ := hrel
  have hm' := Lib.hid hm
  clear hm
  by_cases hlt : m < n
  ·have h5 := zu5 F 0 m (by simpa using hok)
   simp only [Nat.zero_add] at h5
   by_cases hq : okF (fun i => F (5 * m + i)) 5
   ·go_wp2_with (first | (refine zbu (off := m * 5) (fun i => ((F (5 * m + i) : Nat) : Int)) rfl rfl rfl za8 hg (by omega) (fun i hi => by rw [Nat.mul_comm m 5]) ?_) | (go_at_call 100; refine (zsv (fun i => F (5 * m + i)) (fun i hi => hF _ (by omega)) _).mono ?_; rintro e w2 ⟨rfl, b2⟩; rw [show (!decide (okF (fun i => F (5 * m + i)) 5)) = false from by rw [decide_eq_true hq]; rfl]))
    go_roundg (gk - 1)
    case measure => have := hm'.out; omega
    case rel =>
     have hm'' := hm'.out
     exact ⟨m + 1, by omega, by go_num, h5.2 hq, zaa b2 (jM hg) hg, hB.trans (b2.mono hB.size)⟩
   ·go_wp2_with (first | (refine zbu (off := m * 5) (fun i => ((F (5 * m + i) : Nat) : Int)) rfl rfl rfl za8 hg (by omega) (fun i hi => by rw [Nat.mul_comm m 5]) ?_) | (go_at_call 100; refine (zsv (fun i => F (5 * m + i)) (fun i hi => hF _ (by omega)) _).mono ?_; rintro e w2 ⟨rfl, b2⟩; rw [show (!decide (okF (fun i => F (5 * m + i)) 5)) = true from by rw [decide_eq_false hq]; rfl]))
    go_ret
    refine ⟨⟨_, rfl, ?_⟩, hB.trans (b2.mono hB.size)⟩
    rw [show decide (okF F (5 * n)) = false from decide_eq_false fun h => hq (h5.1 fun i hi => h i (by omega))]
    exact decide_eq_true (by omega)
  ·obtain rfl : m = n := by have := hm'.out; omega
   go_wp2
   go_ret
   refine ⟨⟨_, rfl, ?_⟩, hB⟩
   rw [decide_eq_true hok]; rfl
theorem zna (n : Nat) (hn : n < 1000) (F : Nat → Nat) (hF : ∀ i, i < 5 * n → F i < 18446744073709551616) (g t : Nat) (w : World) (hg : w.heap[g]? = some (.cells (arr .u64 (5 * n) fun i => ((F i : Nat) : Int)) t (0, 0))) :
  Calls Tryz.prog 99 #[.slice (some ⟨g, 0, none⟩) n n, .func (.func 100) #[] #[]] w fun e w' => e = .returned (.bool (!decide (okF F (5 * n)))) ∧ Below w.heap.size w w' := by
 go_enter Tryz.func99, Tryz.ntmps99
 go_wp2_with (go_at_call 126; refine (zkZ n hn F hF g t _ hg).mono ?_; rintro e w2 ⟨⟨r, rfl, hr⟩, b2⟩)
 go_ret
 exact ⟨rfl, b2⟩
theorem zhj (n m : Nat) (hm : 5 * n = m) (hn : n < 1000) (F : Nat → Nat) (hF : ∀ i, i < m → F i < 18446744073709551616) (g t : Nat) (w : World) (hg : w.heap[g]? = some (.cells (arr .u64 m fun i => ((F i : Nat) : Int)) t (0, 0))) :
  Calls Tryz.prog 72 #[.slice (some ⟨g, 0, none⟩) n n] w fun e w' => e = .returned (.bool (decide (okF F m))) ∧ Below w.heap.size w w' := by
 subst hm
 go_enter Tryz.func72, Tryz.ntmps72
 go_wp2_with (go_at_call 99; refine (zna n hn F hF g t _ hg).mono ?_; rintro e w2 ⟨rfl, b2⟩)
 go_ret
 exact ⟨by simp, b2⟩
theorem zi8 (F : Nat → Int) : Tryz.prog.builtSlice 69 1 [(0, .agg (arr .u64 5 F))] = some (arr .u64 5 F) := by kernel_rfl
def zbW (F G : Nat → Nat) (i : Nat) : Nat := if i < 5 then F i else G (i - 5)
theorem zi9 (F G : Nat → Nat) : Tryz.prog.builtSlice 69 2 [(0, .agg (arr .u64 5 fun i => ((F i : Nat) : Int))), (1, .agg (arr .u64 5 fun i => ((G i : Nat) : Int)))] = some (arr .u64 10 fun i => ((zbW F G i : Nat) : Int)) := by kernel_rfl
theorem zhk (F G : Nat → Nat) : okF (zbW F G) 10 ↔ okF F 5 ∧ okF G 5 := by
 constructor
 ·intro h
  refine ⟨fun i hi => ?_, fun i hi => ?_⟩
  ·have := h i (by omega); unfold zbW at this; rwa [if_pos hi] at this
  ·have := h (5 + i) (by omega); unfold zbW at this; rwa [if_neg (by omega), Nat.add_sub_cancel_left] at this
 ·rintro ⟨h1, h2⟩ i hi
  unfold zbW
  by_cases h : i < 5
  ·rw [if_pos h]; exact h1 i h
  ·rw [if_neg h]; exact h2 _ (by omega)
theorem zow (F G : Nat → Nat) (b : Nat) (hF : ∀ i, i < 5 → F i < b) (hG : ∀ i, i < 5 → G i < b) (i : Nat) (hi : i < 10) : zbW F G i < b := by
 unfold zbW
 by_cases h : i < 5
 ·rw [if_pos h]; exact hF i h
 ·rw [if_neg h]; exact hG _ (by omega)
end
section
open Go.RowKit
theorem zk0 (a b : Nat) (h : a + b < 18446744073709551616) : bits .and .u64 ((a : Int) + (b : Int)) 2251799813685247 = (((a + b) % 2251799813685248 : Nat) : Int) := by
 have h1 := bits_and_u64_nat (a + b) 2251799813685247 h (by omega)
 have e : (a + b) &&& 2251799813685247 = (a + b) % 2251799813685248 := Nat.and_two_pow_sub_one_eq_mod (a + b) 51
 rw [e] at h1
 rw [← h1]
 rfl
def ovN (F : Nat → Nat) : Nat → Nat
 | 0 => 0
 | m + 1 => (F m + ovN F m) / 2251799813685248
def loN (F : Nat → Nat) (m : Nat) : Nat := (F m + ovN F m) % 2251799813685248
def zdj (F : Nat → Nat) (i : Nat) : Nat := if i = 0 then loN F 0 + 19 * ovN F 5 else loN F i
theorem zgQ (F : Nat → Nat) (m : Nat) : ovN F (m + 1) = (F m + ovN F m) / 2251799813685248 := rfl
theorem zpy (F : Nat → Nat) (hF : ∀ i, i < 5 → F i < 9223372036854775808) : ∀ m, m ≤ 5 → ovN F m < 8192
 | 0, _ => by unfold ovN; omega
 | m + 1, h => by
  have := zpy F hF m (by omega)
  have := hF m (by omega)
  rw [zgQ]
  omega
attribute [local irreducible] ovN
theorem zfB (F : Nat → Nat) (hF : ∀ i, i < 5 → F i < 9223372036854775808) (w : World) :
  Calls Tryz.prog 98 #[.agg (arr .u64 5 fun i => ((F i : Nat) : Int))] w fun e w' => e = .returned (.agg (arr .u64 5 fun i => ((zdj F i : Nat) : Int))) ∧ Below w.heap.size w w' := by
 go_enter Tryz.func98, Tryz.ntmps98
 obtain ⟨h0, h1, hsz, hb⟩ := zb9 w (.cells (arr .u64 5 fun i => ((F i : Nat) : Int)) 69) (.cells (arr .u64 5 fun _ => 0) 69)
 go_wp2_with (first | (refine zae rfl rfl zfV ?_) | (refine zab rfl rfl rfl za8 h0 ?_))
 have hF' := Lib.hid hF
 have hov := Lib.hid (zpy F hF)
 clear hF
 go_loopg [3, 7] 5 (fun n x i wr => ∃ m : Nat, m + n = 5 ∧ i = .int .i64 m ∧ x = .int .u64 ((ovN F m : Nat) : Int) ∧ wr.heap[w.heap.size]? = some (.cells (arr .u64 5 fun i => ((if i < m then loN F i else F i : Nat) : Int)) 69 (0, 0)) ∧
  wr.heap[w.heap.size + 1]? = some (.cells (arr .u64 5 fun _ => 0) 69 (0, 0)) ∧ Below w.heap.size w wr)
 case atStart => exact ⟨0, rfl, rfl, by unfold ovN; rfl, zaf h0 (fun i _ => by rw [if_neg (Nat.not_lt_zero i)]), h1, hb⟩
 case round =>
  obtain ⟨m, hm, rfl, rfl, g0, g1, hB⟩ := hrel
  have hm' := Lib.hid hm
  clear h0 h1 hsz hb hm
  by_cases hlt : m < 5
  ·have fb := hF'.out m hlt
   have ob := hov.out m (by omega)
   have c0 := zaj g0 m hlt
   have fz := zaH g0 m
   go_wp2_with (refine zaO rfl rfl Tryz.underlying69 Tryz.underlying67 rfl zi7 rfl rfl (by omega) (by omega) (by omega) ?_)
   go_roundg (gk - 1)
   case measure => have := hm'.out; omega
   case rel =>
    have hm'' := hm'.out
    refine ⟨m + 1, by omega, by go_num, ?_, zaf (zaJ g0 m _) (fun i _ => ?_), zaq g1 _ _ (by omega), hB.setCell (jV _) _⟩
    ·rw [zgQ]; rfl
    ·rw [zk0 _ _ (by omega)]
     unfold upd
     by_cases h : i = m
     ·rw [if_pos h, h, if_pos (by omega)]; rfl
     ·rw [if_neg h]
      dsimp only
      by_cases h2 : i < m
      ·rw [if_pos h2, if_pos (by omega)]
      ·rw [if_neg h2, if_neg (by omega)]
  ·obtain rfl : m = 5 := by have := hm'.out; omega
   have ob := hov.out 5 (by omega)
   have g0' := zaf (f' := fun i => ((loN F i : Nat) : Int)) g0 (fun i hi => by rw [if_pos hi])
   clear g0
   have c0 := zaj g0' 0 (by omega)
   have fz := zaH g0' 0
   have lb : loN F 0 < 2251799813685248 := Nat.mod_lt _ (by omega)
   go_upto_region 9 with (fail)
   have g2 := zaf (f' := fun i => ((zdj F i : Nat) : Int)) (zaJ g0' 0 (((loN F 0 : Nat) : Int) + 19 * ((ovN F 5 : Nat) : Int))) (fun i _ => by
    unfold upd zdj
    by_cases h : i = 0
    ·rw [if_pos h, if_pos h]; omega
    ·rw [if_neg h, if_neg h])
   have g3 := zaq (i := 0) (v := .int .u64 (((loN F 0 : Nat) : Int) + 19 * ((ovN F 5 : Nat) : Int))) g1 (C := w.heap.size) (by omega)
   have hBq := hB.setCell (p := ⟨w.heap.size, 0, none⟩) (jV _) (.int .u64 (((loN F 0 : Nat) : Int) + 19 * ((ovN F 5 : Nat) : Int)))
   go_wp2_with (first | (refine zab rfl rfl rfl za8 g2 ?_) | (refine zac rfl rfl rfl rfl za8 g3 ?_))
   exact bodyPost_ret (zau rfl rfl za8 (zan g3)) rfl ⟨rfl, zam hBq (by omega) _⟩
end
section
open Go.RowKit
theorem zdk (F : Nat → Nat) (hF : ∀ i, i < 5 → F i < 9223372036854775808) (i : Nat) (_hi : i < 5) : zdj F i < 2251799813840896 := by
 have h1 := zpy F hF 5 (by omega)
 have h2 : ∀ i, loN F i < 2251799813685248 := fun i => Nat.mod_lt _ (by omega)
 unfold zdj
 have := h2 0
 have := h2 i
 split <;> omega
def quN (F : Nat → Nat) : Nat → Nat
 | 0 => 19
 | m + 1 => (F m + quN F m) / 2251799813685248
theorem zpz (F : Nat → Nat) (m : Nat) : quN F (m + 1) = (F m + quN F m) / 2251799813685248 := rfl
theorem zsw (F : Nat → Nat) (hF : ∀ i, i < 5 → F i < 4503599627370496) : ∀ m, m ≤ 5 → quN F m < 20
 | 0, _ => by unfold quN; omega
 | m + 1, h => by
  have := zsw F hF m (by omega)
  have := hF m (by omega)
  rw [zpz]
  omega
def upN (F : Nat → Nat) (i : Nat) : Nat := if i = 0 then F 0 + 19 * quN F 5 else F i
def zef (F : Nat → Nat) (i : Nat) : Nat := loN (upN (zdj (zdj F))) i
theorem zzZ (F : Nat → Nat) (hF : ∀ i, i < 5 → F i < 4503599627370496) (i : Nat) (hi : i < 5) : upN F i < 4503599627370877 := by
 have := zsw F hF 5 (by omega)
 have := hF 0 (by omega)
 have := hF i hi
 unfold upN
 split <;> omega
theorem zsx (F : Nat → Nat) (i : Nat) : zef F i < 2251799813685248 := Nat.mod_lt _ (by omega)
attribute [local irreducible] ovN quN
theorem zsy (F : Nat → Nat) (hF : ∀ i, i < 5 → F i < 9223372036854775808) (w : World) :
  Calls Tryz.prog 102 #[.agg (arr .u64 5 fun i => ((F i : Nat) : Int))] w fun e w' => e = .returned (.agg (arr .u64 5 fun i => ((zef F i : Nat) : Int))) ∧ Below w.heap.size w w' := by
 go_enter Tryz.func102, Tryz.ntmps102
 obtain ⟨h0, h1, hsz, hb⟩ := zb9 w (.cells (arr .u64 5 fun i => ((F i : Nat) : Int)) 69) (.cells (arr .u64 5 fun _ => 0) 69)
 go_wp2_with (first | (refine zae rfl rfl zfV ?_) | (refine zab rfl rfl rfl za8 h0 ?_) | (go_at_call 98; fail))
 refine (zfB F hF _).mono ?_
 rintro e w1 ⟨rfl, b1⟩
 have c1 := zdk F hF
 go_wp2_with (go_at_call 98; fail)
 refine (zfB (zdj F) (fun i hi => by have := c1 i hi; omega) _).mono ?_
 rintro e w2 ⟨rfl, b2⟩
 have c2 : ∀ i, i < 5 → zdj (zdj F) i < 4503599627370496 := fun i hi => by have := zdk (zdj F) (fun i hi => by have := c1 i hi; omega) i hi; omega
 have b3 := b1.trans (b2.mono b1.size)
 have g0 := zaa b3 (by omega) h0
 have g1 := zaa b3 (by omega) h1
 have hB := hb.trans (b3.mono (by omega))
 clear h0 h1 b1 b2 b3 c1 hF hb hsz
 generalize hGe : zdj (zdj F) = G at c2 ⊢
 have hGe' := Lib.hid hGe
 clear hGe
 go_upto_region 2 with (refine zac rfl rfl rfl rfl za8 g0 ?_)
 have q0 := zan (w := w2) (c' := arr .u64 5 fun i => ((G i : Nat) : Int)) g0
 have q1 := zad (w := w2) (c' := arr .u64 5 fun i => ((G i : Nat) : Int)) (g := w.heap.size) g1 (by omega)
 have hBq := zam hB (g := w.heap.size) (by omega) (arr .u64 5 fun i => ((G i : Nat) : Int))
 clear g0 g1 hB
 generalize w2.setRow w.heap.size (arr .u64 5 fun i => ((G i : Nat) : Int)) = w3 at *
 (try simp only [Act.put, jA, jB, jC])
 have hq := Lib.hid (zsw G c2)
 have hu := Lib.hid (zzZ G c2)
 have hG := Lib.hid c2
 clear c2
 go_wp2_with (refine zab rfl rfl rfl za8 q0 ?_)
 go_loopg [3, 13] 5 (fun n x i wr => ∃ m : Nat, m + n = 5 ∧ i = .int .i64 m ∧ x = .int .u64 ((quN G m : Nat) : Int) ∧ wr.heap[w.heap.size]? = some (.cells (arr .u64 5 fun i => ((G i : Nat) : Int)) 69 (0, 0)) ∧
  wr.heap[w.heap.size + 1]? = some (.cells (arr .u64 5 fun _ => 0) 69 (0, 0)) ∧ Below w.heap.size w wr)
 case atStart => exact ⟨0, rfl, rfl, by unfold quN; rfl, q0, q1, hBq⟩
 case round =>
  clear q0 q1 hBq
  obtain ⟨m, hm, rfl, rfl, g0, g1, hB⟩ := hrel
  have hm' := Lib.hid hm
  clear hm
  by_cases hlt : m < 5
  ·have fb := hG.out m hlt
   have ob := hq.out m (by omega)
   go_wp2_with (refine zaO rfl rfl Tryz.underlying69 Tryz.underlying67 rfl zi7 rfl rfl (by omega) (by omega) (by omega) ?_)
   go_roundg (gk - 1)
   case measure => have := hm'.out; omega
   case rel =>
    have hm'' := hm'.out
    exact ⟨m + 1, by omega, by go_num, by rw [zpz]; rfl, g0, g1, hB⟩
  ·obtain rfl : m = 5 := by have := hm'.out; omega
   have ob := hq.out 5 (by omega)
   have fb := hG.out 0 (by omega)
   have c0 := zaj g0 0 (by omega)
   have fz := zaH g0 0
   go_upto_region 9 with (fail)
   have q0 := zaf (f' := fun i => ((upN G i : Nat) : Int)) (zaJ g0 0 (((G 0 : Nat) : Int) + 19 * ((quN G 5 : Nat) : Int))) (fun i _ => by
    unfold upd upN
    by_cases h : i = 0
    ·rw [if_pos h, if_pos h]; omega
    ·rw [if_neg h, if_neg h])
   have q1 := zaq (i := 0) (v := .int .u64 (((G 0 : Nat) : Int) + 19 * ((quN G 5 : Nat) : Int))) g1 (C := w.heap.size) (by omega)
   have hBq := hB.setCell (p := ⟨w.heap.size, 0, none⟩) (jV _) (.int .u64 (((G 0 : Nat) : Int) + 19 * ((quN G 5 : Nat) : Int)))
   clear g0 g1 hB c0 fz ob fb
   generalize wr.setCell ⟨w.heap.size, 0, none⟩ (.int .u64 (((G 0 : Nat) : Int) + 19 * ((quN G 5 : Nat) : Int))) = w4 at *
   generalize hUe : upN G = U at hu q0 ⊢
   have hUe' := Lib.hid hUe
   clear hUe
   have hov := Lib.hid (zpy U (fun i hi => by have := hu.out i hi; omega))
   go_wp2_with (refine zab rfl rfl rfl za8 q0 ?_)
   go_loopg [6, 28] 5 (fun n x i wr => ∃ m : Nat, m + n = 5 ∧ i = .int .i64 m ∧ x = .int .u64 ((ovN U m : Nat) : Int) ∧ wr.heap[w.heap.size]? = some (.cells (arr .u64 5 fun i => ((if i < m then loN U i else U i : Nat) : Int)) 69 (0, 0)) ∧
    wr.heap[w.heap.size + 1]? = some (.cells (arr .u64 5 fun _ => 0) 69 (0, 0)) ∧ Below w.heap.size w wr)
   case atStart => exact ⟨0, rfl, rfl, by unfold ovN; rfl, zaf q0 (fun i _ => by rw [if_neg (Nat.not_lt_zero i)]), q1, hBq⟩
   case round =>
    clear q0 q1 hBq
    obtain ⟨m, hm, rfl, rfl, g0, g1, hB⟩ := hrel
    have hm' := Lib.hid hm
    clear hm
    by_cases hlt : m < 5
    ·have fb := hu.out m hlt
     have ob := hov.out m (by omega)
     have c0 := zaj g0 m hlt
     have fz := zaH g0 m
     go_wp2_with (refine zaO rfl rfl Tryz.underlying69 Tryz.underlying67 rfl zi7 rfl rfl (by omega) (by omega) (by omega) ?_)
     go_roundg (gk - 1)
     case measure => have := hm'.out; omega
     case rel =>
      have hm'' := hm'.out
      refine ⟨m + 1, by omega, by go_num, ?_, zaf (zaJ g0 m _) (fun i _ => ?_), zaq g1 _ _ (by omega), hB.setCell (jV _) _⟩
      ·rw [zgQ]; rfl
      ·rw [zk0 _ _ (by omega)]
       unfold upd
       by_cases h : i = m
       ·rw [if_pos h, h, if_pos (by omega)]; rfl
       ·rw [if_neg h]
        dsimp only
        by_cases h2 : i < m
        ·rw [if_pos h2, if_pos (by omega)]
        ·rw [if_neg h2, if_neg (by omega)]
    ·obtain rfl : m = 5 := by have := hm'.out; omega
     have p0 := zaf (f' := fun i => ((loN U i : Nat) : Int)) g0 (fun i hi => by rw [if_pos hi])
     clear g0
     go_wp2_with (first | (refine zab rfl rfl rfl za8 p0 ?_) | (refine zac rfl rfl rfl rfl za8 g1 ?_))
     exact bodyPost_ret (zau rfl rfl za8 (zan g1)) rfl ⟨by rw [← hUe'.out, ← hGe'.out]; rfl, zam hB (by omega) _⟩
end
section
def zbU (X : Nat → Nat) : Nat → Nat
 | 0 => 0
 | i + 1 => zbU X i + X i * 2 ^ (51 * i)
theorem zgR (X : Nat → Nat) (i : Nat) : zbU X (i + 1) = zbU X i + X i * 2 ^ (51 * i) := rfl
theorem zhm (X : Nat → Nat) (n : Nat) (hX : ∀ i, i < n → X i < 2251799813685248) : ∀ i, i ≤ n → zbU X i < 2 ^ (51 * i)
 | 0, _ => by unfold zbU; decide
 | i + 1, h => by
  have h1 := zhm X n hX i (by omega)
  have h2 : X i + 1 ≤ 2251799813685248 := hX i (by omega)
  have h3 := Nat.mul_le_mul_right (2 ^ (51 * i)) h2
  rw [zgR, show 51 * (i + 1) = 51 + 51 * i from by omega, Nat.pow_add]
  rw [Nat.add_mul] at h3
  have : (2 : Nat) ^ 51 = 2251799813685248 := by decide
  rw [this]
  omega
def zbi (v k : Nat) : Nat := v / 2 ^ (8 * k) % 256
theorem zsz (a b t : Nat) (ha : a < 2 ^ t) : a ||| (b * 2 ^ t) = a + b * 2 ^ t := by
 rw [Nat.or_comm, Nat.mul_comm, ← Nat.two_pow_add_eq_or_of_lt ha, Nat.add_comm]
theorem zu6 (v x i k : Nat) (hv : v < 2 ^ (51 * i)) (h : 8 * k < 51 * i) (h2 : 51 * i < 8 * k + 8) :
  zbi v k ||| (x * 2 ^ (51 * i - 8 * k) % 256) = zbi (v + x * 2 ^ (51 * i)) k := by
 obtain ⟨t, ht⟩ : ∃ t, 51 * i = 8 * k + t := ⟨51 * i - 8 * k, by omega⟩
 unfold zbi
 rw [show 51 * i - 8 * k = t from by omega, ht, Nat.pow_add]
 have ha : v / 2 ^ (8 * k) < 2 ^ t := by
  rw [Nat.div_lt_iff_lt_mul (Nat.two_pow_pos _), ← Nat.pow_add]
  rw [show t + 8 * k = 51 * i from by omega]; exact hv
 have e : (v + x * (2 ^ (8 * k) * 2 ^ t)) / 2 ^ (8 * k) = v / 2 ^ (8 * k) + x * 2 ^ t := by
  rw [show x * (2 ^ (8 * k) * 2 ^ t) = 2 ^ (8 * k) * (x * 2 ^ t) from by rw [Nat.mul_left_comm], Nat.add_mul_div_left _ _ (Nat.two_pow_pos _)]
 rw [e]
 generalize v / 2 ^ (8 * k) = a at *
 obtain ⟨u, hu⟩ : ∃ u, t + u = 8 := ⟨8 - t, by omega⟩
 have hp : (256 : Nat) = 2 ^ t * 2 ^ u := by rw [← Nat.pow_add, hu]
 have hl : a < 256 := jT ha (by rw [hp]; exact Nat.le_mul_of_pos_right _ (Nat.two_pow_pos _))
 have hm : x * 2 ^ t % 256 = x % 2 ^ u * 2 ^ t := by rw [hp, Nat.mul_comm x, Nat.mul_mod_mul_left, Nat.mul_comm]
 have hlt : a + x * 2 ^ t % 256 < 256 := by
  rw [hm]
  have h1 : x % 2 ^ u + 1 ≤ 2 ^ u := Nat.mod_lt _ (Nat.two_pow_pos _)
  have h3 := Nat.mul_le_mul_right (2 ^ t) h1
  rw [Nat.add_mul, Nat.mul_comm (2 ^ u), ← hp] at h3
  omega
 rw [Nat.mod_eq_of_lt hl]
 have ho := zsz a (x % 2 ^ u) t ha
 rw [← hm] at ho
 rw [ho]
 generalize x * 2 ^ t = y at *
 omega
theorem zsA (v x i k : Nat) (hv : v < 2 ^ (51 * i)) (h : 51 * i ≤ 8 * k) : zbi v k = 0 ∧ x / 2 ^ (8 * k - 51 * i) % 256 = zbi (v + x * 2 ^ (51 * i)) k := by
 obtain ⟨t, ht⟩ : ∃ t, 8 * k = 51 * i + t := ⟨8 * k - 51 * i, by omega⟩
 unfold zbi
 rw [show 8 * k - 51 * i = t from by omega, ht, Nat.pow_add]
 constructor
 ·rw [Nat.div_eq_of_lt (jT hv (Nat.le_mul_of_pos_right _ (Nat.two_pow_pos _)))]
 ·rw [← Nat.div_div_eq_div_mul, Nat.mul_comm x, Nat.add_mul_div_left _ _ (Nat.two_pow_pos _), Nat.div_eq_of_lt hv, Nat.zero_add]
theorem zqS (v x i k : Nat) (h : 8 * k + 8 ≤ 51 * i) : zbi (v + x * 2 ^ (51 * i)) k = zbi v k := by
 obtain ⟨t, ht⟩ : ∃ t, 51 * i = 8 * k + (8 + t) := ⟨51 * i - 8 * k - 8, by omega⟩
 unfold zbi
 rw [ht, Nat.pow_add, show x * (2 ^ (8 * k) * 2 ^ (8 + t)) = 2 ^ (8 * k) * (x * 2 ^ (8 + t)) from by rw [Nat.mul_left_comm], Nat.add_mul_div_left _ _ (Nat.two_pow_pos _)]
 rw [Nat.pow_add, show x * (2 ^ 8 * 2 ^ t) = 256 * (x * 2 ^ t) from by rw [show (2 : Nat) ^ 8 = 256 from rfl, Nat.mul_left_comm], Nat.add_mul_mod_self_left]
theorem zhn (v k : Nat) (h : v < 2 ^ (8 * k)) : zbi v k = 0 := by
 unfold zbi
 rw [Nat.div_eq_of_lt h]
end
section
open Go.RowKit
theorem zcg : zeB Tryz.prog 23 32 := ⟨_, Tryz.underlying23, rfl, by kernel_rfl⟩
theorem zh4 : zcw Tryz.prog 23 .u8 32 := by unfold zcw; kernel_rfl
def zox (X : Nat → Nat) (m k q : Nat) : Nat := if q < k then zbi (zbU X (m + 1)) q else zbi (zbU X m) q
theorem zqT (X : Nat → Nat) (m q : Nat) : zbi (zbU X m) q = zox X m (51 * m / 8) q := by
 unfold zox
 by_cases h : q < 51 * m / 8
 ·rw [if_pos h, zgR, zqS _ _ _ _ (by omega)]
 ·rw [if_neg h]
theorem zsB (X : Nat → Nat) (hX : ∀ i, i < 5 → X i < 2251799813685248) (m k q : Nat) (hm : m < 5) (hq : q < 32) (hk : 51 * m / 8 + 8 ≤ k ∨ 32 ≤ k) : zox X m k q = zbi (zbU X (m + 1)) q := by
 unfold zox
 by_cases h : q < k
 ·rw [if_pos h]
 ·rw [if_neg h, zhn, zhn]
  ·exact jT (zhm X 5 hX (m + 1) (by omega)) (Nat.pow_le_pow_right (by omega) (by omega))
  ·exact jT (zhm X 5 hX m (by omega)) (Nat.pow_le_pow_right (by omega) (by omega))
theorem zf9 (a b : Nat) (ha : a < 256) (hb : b < 256) : bits .or .u8 (a : Int) (b : Int) = ((a ||| b : Nat) : Int) := by
 have hx : a ||| b < 2 ^ 8 := Nat.or_lt_two_pow (by omega) (by omega)
 have h1 : (BitVec.ofInt 8 (a : Int)).toNat = a := by
  rw [BitVec.ofInt_natCast, BitVec.toNat_ofNat]; exact Nat.mod_eq_of_lt (by omega)
 have h2 : (BitVec.ofInt 8 (b : Int)).toNat = b := by
  rw [BitVec.ofInt_natCast, BitVec.toNat_ofNat]; exact Nat.mod_eq_of_lt (by omega)
 show IntKind.u8.wrap ((BitVec.ofInt 8 (a : Int) ||| BitVec.ofInt 8 (b : Int)).toNat : Int) = _
 rw [BitVec.toNat_or, h1, h2, IntKind.wrap_u8]
 omega
theorem zij (v k : Nat) : zbi v k < 256 := Nat.mod_lt _ (by omega)
theorem zx1 (X : Nat → Nat) (hX : ∀ i, X i < 2251799813685248) (m k : Nat) (hm : m < 5) (h : 8 * k < 51 * m) (h2 : 51 * m / 8 ≤ k) :
  bits .or .u8 ((zox X m k k : Nat) : Int) (IntKind.u64.wrap (((X m : Nat) : Int) * 2 ^ (-(8 * (k : Int) - 51 * (m : Int))).toNat) % 256) = ((zbi (zbU X (m + 1)) k : Nat) : Int) := by
 have e1 : zox X m k k = zbi (zbU X m) k := by unfold zox; rw [if_neg (by omega)]
 have e2 : (-(8 * (k : Int) - 51 * (m : Int))).toNat = 51 * m - 8 * k := by omega
 have e3 : IntKind.u64.wrap (((X m : Nat) : Int) * 2 ^ (51 * m - 8 * k)) % 256 = ((X m * 2 ^ (51 * m - 8 * k) % 256 : Nat) : Int) := by
  rw [show ((X m : Nat) : Int) * 2 ^ (51 * m - 8 * k) = ((X m * 2 ^ (51 * m - 8 * k) : Nat) : Int) from by rw [Int.natCast_mul, Int.natCast_pow]; rfl]
  generalize X m * 2 ^ (51 * m - 8 * k) = y
  rw [IntKind.wrap_u64]
  omega
 rw [e1, e2, e3, zf9 _ _ (zij _ _) (Nat.mod_lt _ (by omega)), zu6 _ _ _ _ (zhm X 5 (fun i _ => hX i) m (by omega)) h (by omega), zgR]
theorem zu7 (X : Nat → Nat) (hX : ∀ i, X i < 2251799813685248) (m k : Nat) (hm : m < 5) (h : 51 * m ≤ 8 * k) :
  bits .or .u8 ((zox X m k k : Nat) : Int) (((X m : Nat) : Int) / 2 ^ (8 * k - 51 * m) % 256) = ((zbi (zbU X (m + 1)) k : Nat) : Int) := by
 have e1 : zox X m k k = zbi (zbU X m) k := by unfold zox; rw [if_neg (by omega)]
 obtain ⟨b1, b2⟩ := zsA (zbU X m) (X m) m k (zhm X 5 (fun i _ => hX i) m (by omega)) h
 have e3 : (((X m : Nat) : Int) / 2 ^ (8 * k - 51 * m) % 256) = ((X m / 2 ^ (8 * k - 51 * m) % 256 : Nat) : Int) := by
  rw [Int.natCast_emod, Int.natCast_ediv, Int.natCast_pow]; rfl
 rw [e1, b1, e3, zf9 _ _ (by omega) (Nat.mod_lt _ (by omega)), Nat.zero_or, b2, zgR]
theorem zpA (X : Nat → Nat) (m k q : Nat) (v : Int) (hv : v = ((zbi (zbU X (m + 1)) k : Nat) : Int)) : upd (fun q => ((zox X m k q : Nat) : Int)) k v q = ((zox X m (k + 1) q : Nat) : Int) := by
 unfold upd zox
 by_cases h : q = k
 ·rw [if_pos h, hv, h, if_pos (by omega)]
 ·rw [if_neg h]
  dsimp only
  by_cases h2 : q < k
  ·rw [if_pos h2, if_pos (by omega)]
  ·rw [if_neg h2, if_neg (by omega)]
attribute [local irreducible] zef zbU zbi
theorem zsC (F : Nat → Nat) (hF : ∀ i, i < 5 → F i < 9223372036854775808) (w : World) :
  Calls Tryz.prog 73 #[.agg (arr .u64 5 fun i => ((F i : Nat) : Int))] w fun e w' => e = .returned (.agg (arr .u8 32 fun k => ((zbi (zbU (zef F) 5) k : Nat) : Int))) ∧ Below w.heap.size w w' := by
 go_enter Tryz.func73, Tryz.ntmps73
 obtain ⟨h0, h1, hsz, hb⟩ := zb9 w (.cells (arr .u64 5 fun i => ((F i : Nat) : Int)) 69) (.cells (arr .u8 32 fun _ => 0) 23)
 go_wp2_with (first | (refine zae rfl rfl zh4 ?_) | (refine zab rfl rfl rfl za8 h0 ?_) | (go_at_call 102; fail))
 refine (zsy F hF _).mono ?_
 rintro e w1 ⟨rfl, b1⟩
 have hX := zsx F
 generalize hXe : zef F = X at hX ⊢
 have hXe' := Lib.hid hXe
 have hX' := Lib.hid hX
 clear hXe hF
 have g0 := zaa b1 (by omega) h0
 have g1 := zaa b1 (by omega) h1
 have hB := hb.trans (b1.mono (by omega))
 clear h0 h1 b1 hb hsz
 go_upto_region 2 with (refine zac rfl rfl rfl rfl za8 g0 ?_)
 have q0 := zan (w := w1) (c' := arr .u64 5 fun i => ((X i : Nat) : Int)) g0
 have q1 := zad (w := w1) (c' := arr .u64 5 fun i => ((X i : Nat) : Int)) (g := w.heap.size) g1 (by omega)
 have hBq := zam hB (g := w.heap.size) (by omega) (arr .u64 5 fun i => ((X i : Nat) : Int))
 clear g0 g1 hB hX
 generalize w1.setRow w.heap.size (arr .u64 5 fun i => ((X i : Nat) : Int)) = w3 at *
 (try simp only [Act.put, jA, jB, jC])
 go_wp2_with (refine zab rfl rfl rfl za8 q0 ?_)
 go_loopg [11] 5 (fun n i wr => ∃ m : Nat, m + n = 5 ∧ i = .int .i64 m ∧ wr.heap[w.heap.size + 1]? = some (.cells (arr .u8 32 fun k => ((zbi (zbU X m) k : Nat) : Int)) 23 (0, 0)) ∧ Below w.heap.size w wr)
 case atStart => exact ⟨0, rfl, rfl, zaf q1 (fun k _ => by rw [zhn _ _ (by unfold zbU; exact Nat.two_pow_pos _)]; rfl), hBq⟩
 case round =>
  clear q0 q1 hBq
  obtain ⟨m, hm, rfl, g1, hB⟩ := hrel
  obtain ⟨go1, rfl⟩ : ∃ x, x = gk := ⟨_, rfl⟩
  have hm' := Lib.hid hm
  clear hm
  by_cases hlt : m < 5
  ·have xb := hX'.out m
   have g2 := zaf g1 (f' := fun q => ((zox X m (51 * m / 8) q : Nat) : Int)) (fun q _ => by rw [zqT X m q])
   clear g1
   obtain ⟨K, hK1, hK2, hK3⟩ : ∃ K, K ≤ 51 * m / 8 + 8 ∧ K ≤ 32 ∧ (51 * m / 8 + 8 ≤ K ∨ 32 ≤ K) := ⟨min (51 * m / 8 + 8) 32, by omega, by omega, by omega⟩
   go_upto_region 5 with (refine zaO rfl rfl Tryz.underlying69 Tryz.underlying67 rfl zi7 rfl rfl (by omega) (by omega) (by omega) ?_)
   (try simp only [Act.put, jA, jB, jC])
   try rw [show decide ((m : Int) < 5) = true from decide_eq_true (by omega)]
   go_wp2
   go_loopg [6] (K - 51 * m / 8) (fun n i wr => ∃ k : Nat, k + n = K ∧ 51 * m / 8 ≤ k ∧ i = .int .i64 k ∧ wr.heap[w.heap.size + 1]? = some (.cells (arr .u8 32 fun q => ((zox X m k q : Nat) : Int)) 23 (0, 0)) ∧ Below w.heap.size w wr)
   case atStart => exact ⟨51 * m / 8, by omega, by omega, by go_num, g2, hB⟩
   case round =>
    clear g2 hB
    obtain ⟨k, hk, hkm, rfl, g2, hB⟩ := hrel
    have hk' := Lib.hid hk
    clear hk
    by_cases hlk : k < K
    ·have c0 := zaj g2 k (by omega)
     have fz := zaH g2 k
     by_cases hs : 8 * k < 51 * m
     ·go_wp2
      all_goals
       refine zav 10 (by kernel_rfl) (by kernel_rfl) ?_
       (simp only [jH, jI, jF, jG])
       repeat (refine wpStill_step (fun K hK => ?_); go_simp; (try (simp only [↓IntWalk.iteOmega]; go_simp)); (try go_bits); refine hK _ ?_; clear hK K)
       refine wpStill_nil ?_
       go_wp2
       go_roundg (gk - 1)
       case measure => have := hk'.out; omega
       case rel =>
        have hk'' := hk'.out
        exact ⟨k + 1, by omega, by omega, by go_num, zaf (zaJ g2 _ _) (fun q _ => zpA X m k q _ (zx1 X hX'.out m k hlt hs hkm)), (hB.setCell (by show w.heap.size ≤ w.heap.size + 1; omega) _).drew⟩
     ·go_wp2
      all_goals
       refine zav 9 (by kernel_rfl) (by kernel_rfl) ?_
       (simp only [jH, jI, jF, jG])
       repeat (refine wpStill_step (fun K hK => ?_); go_simp; (try (simp only [↓IntWalk.iteOmega]; go_simp)); (try go_bits); refine hK _ ?_; clear hK K)
       refine wpStill_nil ?_
       go_wp2
       go_roundg (gk - 1)
       case measure => have := hk'.out; omega
       case rel =>
        have hk'' := hk'.out
        exact ⟨k + 1, by omega, by omega, by go_num, zaf (zaJ g2 _ _) (fun q _ => zpA X m k q _ (zu7 X hX'.out m k hlt (by omega))), (hB.setCell (by show w.heap.size ≤ w.heap.size + 1; omega) _).drew⟩
    ·obtain rfl : k = K := by have := hk'.out; omega
     have g3 := zaf g2 (f' := fun q => ((zbi (zbU X (m + 1)) q : Nat) : Int)) (fun q hq => by rw [zsB X (fun i _ => hX'.out i) m k q hlt hq hK3])
     go_wp2
     all_goals
      go_roundg (go1 - 1)
      case measure => have := hm'.out; omega
      case rel =>
       have hm'' := hm'.out
       exact ⟨m + 1, by omega, by go_num, g3, hB⟩
  ·obtain rfl : m = 5 := by have := hm'.out; omega
   go_wp2_with (first | (refine zab rfl rfl rfl zcg g1 ?_) | (refine zac rfl rfl rfl rfl zcg g1 ?_))
   exact bodyPost_ret (zau rfl rfl zcg (zan g1)) rfl ⟨by rw [hXe'.out], zam hB (by omega) _⟩
end
section
open Go.RowKit
def kvN (b : Nat → Nat) : Nat → Nat
 | 0 => 0
 | k + 1 => kvN b k + b k * 2 ^ (8 * k)
theorem zdY (b : Nat → Nat) (k : Nat) : kvN b (k + 1) = kvN b k + b k * 2 ^ (8 * k) := rfl
theorem zkg (b : Nat → Nat) (n : Nat) (hb : ∀ i, i < n → b i < 256) : ∀ k, k ≤ n → kvN b k < 2 ^ (8 * k)
 | 0, _ => by unfold kvN; decide
 | k + 1, h => by
  have h1 := zkg b n hb k (by omega)
  have h2 : b k + 1 ≤ 256 := hb k (by omega)
  have h3 := Nat.mul_le_mul_right (2 ^ (8 * k)) h2
  rw [zdY, show 8 * (k + 1) = 8 + 8 * k from by omega, Nat.pow_add]
  rw [Nat.add_mul] at h3
  have : (2 : Nat) ^ 8 = 256 := by decide
  rw [this]
  omega
theorem zsD (b : Nat → Nat) (i k : Nat) (hk : kvN b k < 2 ^ (8 * k)) (h : 8 * k ≤ 51 * i) : kvN b k / 2 ^ (51 * i) = 0 :=
 Nat.div_eq_of_lt (jT hk (Nat.pow_le_pow_right (by omega) h))
theorem zz0 (b : Nat → Nat) (i k : Nat) (hk : kvN b k < 2 ^ (8 * k)) (h : 8 * k < 51 * i) : b k / 2 ^ (51 * i - 8 * k) = kvN b (k + 1) / 2 ^ (51 * i) := by
 obtain ⟨t, ht⟩ : ∃ t, 51 * i = 8 * k + t := ⟨51 * i - 8 * k, by omega⟩
 rw [show 51 * i - 8 * k = t from by omega, ht, Nat.pow_add, ← Nat.div_div_eq_div_mul, zdY, Nat.mul_comm (b k), Nat.add_mul_div_left _ _ (Nat.two_pow_pos _), Nat.div_eq_of_lt hk, Nat.zero_add]
theorem zx2 (b : Nat → Nat) (i k : Nat) (hk : kvN b k < 2 ^ (8 * k)) (h : 51 * i ≤ 8 * k) : (kvN b k / 2 ^ (51 * i)) ||| (b k * 2 ^ (8 * k - 51 * i)) = kvN b (k + 1) / 2 ^ (51 * i) := by
 obtain ⟨t, ht⟩ : ∃ t, 8 * k = 51 * i + t := ⟨8 * k - 51 * i, by omega⟩
 have ha : kvN b k / 2 ^ (51 * i) < 2 ^ t := by
  rw [Nat.div_lt_iff_lt_mul (Nat.two_pow_pos _), ← Nat.pow_add, show t + 51 * i = 8 * k from by omega]; exact hk
 rw [show 8 * k - 51 * i = t from by omega, zsz _ _ _ ha, zdY, ht, Nat.pow_add, show b k * (2 ^ (51 * i) * 2 ^ t) = 2 ^ (51 * i) * (b k * 2 ^ t) from by rw [Nat.mul_left_comm], Nat.add_mul_div_left _ _ (Nat.two_pow_pos _)]
theorem zsE (b : Nat → Nat) (i k : Nat) (h : 51 * i + 51 ≤ 8 * k) : ∀ d, kvN b (k + d) / 2 ^ (51 * i) % 2251799813685248 = kvN b k / 2 ^ (51 * i) % 2251799813685248
 | 0 => rfl
 | d + 1 => by
  rw [show k + (d + 1) = k + d + 1 from by omega, zdY, ← zsE b i k h d]
  obtain ⟨t, ht⟩ : ∃ t, 8 * (k + d) = 51 * i + (51 + t) := ⟨8 * (k + d) - 51 * i - 51, by omega⟩
  rw [ht, Nat.pow_add, show b (k + d) * (2 ^ (51 * i) * 2 ^ (51 + t)) = 2 ^ (51 * i) * (b (k + d) * 2 ^ (51 + t)) from by rw [Nat.mul_left_comm], Nat.add_mul_div_left _ _ (Nat.two_pow_pos _)]
  rw [Nat.pow_add, show b (k + d) * (2 ^ 51 * 2 ^ t) = 2251799813685248 * (b (k + d) * 2 ^ t) from by rw [show (2 : Nat) ^ 51 = 2251799813685248 from by decide, Nat.mul_left_comm], Nat.add_mul_mod_self_left]
def ofN (b : Nat → Nat) (i : Nat) : Nat := kvN b 32 / 2 ^ (51 * i) % 2251799813685248
def znb (b : Nat → Nat) (m k q : Nat) : Nat := if q = m then kvN b k / 2 ^ (51 * m) else if q < m then ofN b q else 0
theorem zja (a : Nat) (h : a < 18446744073709551616) : bits .and .u64 (a : Int) 2251799813685247 = ((a % 2251799813685248 : Nat) : Int) := zk0 a 0 (by omega)
theorem zpB (b : Nat → Nat) (i k : Nat) (hk : kvN b k < 2 ^ (8 * k)) (h : 8 * k ≤ 51 * i + 64) : kvN b k / 2 ^ (51 * i) < 18446744073709551616 := by
 rw [Nat.div_lt_iff_lt_mul (Nat.two_pow_pos _)]
 refine jT hk ?_
 rw [show (18446744073709551616 : Nat) = 2 ^ 64 from by decide, ← Nat.pow_add]
 exact Nat.pow_le_pow_right (by omega) (by omega)
theorem zu8 (b : Nat → Nat) (hb : ∀ i, i < 32 → b i < 256) (m k : Nat) (hk : k < 32) (h : 8 * k < 51 * m) :
  bits .or .u64 ((znb b m k m : Nat) : Int) (((b k : Nat) : Int) / 2 ^ (-(8 * (k : Int) - 51 * (m : Int))).toNat) = ((kvN b (k + 1) / 2 ^ (51 * m) : Nat) : Int) := by
 have hl := zkg b 32 hb k (by omega)
 have e1 : znb b m k m = 0 := by unfold znb; rw [if_pos rfl, zsD b m k hl (by omega)]
 have e2 : (-(8 * (k : Int) - 51 * (m : Int))).toNat = 51 * m - 8 * k := by omega
 have e3 : ((b k : Nat) : Int) / 2 ^ (51 * m - 8 * k) = ((b k / 2 ^ (51 * m - 8 * k) : Nat) : Int) := by rw [Int.natCast_ediv, Int.natCast_pow]; rfl
 have hb' := hb k hk
 have hd : b k / 2 ^ (51 * m - 8 * k) ≤ b k := Nat.div_le_self _ _
 rw [e1, e2, e3, bits_or_u64_nat _ _ (by omega) (by omega), Nat.zero_or, zz0 b m k hl h]
theorem zsF (b : Nat → Nat) (hb : ∀ i, i < 32 → b i < 256) (m k : Nat) (hk : k < 32) (h : 51 * m ≤ 8 * k) (h2 : 8 * k ≤ 51 * m + 56) :
  bits .or .u64 ((znb b m k m : Nat) : Int) (IntKind.u64.wrap (((b k : Nat) : Int) * 2 ^ (8 * k - 51 * m))) = ((kvN b (k + 1) / 2 ^ (51 * m) : Nat) : Int) := by
 have hl := zkg b 32 hb k (by omega)
 have e1 : znb b m k m = kvN b k / 2 ^ (51 * m) := by unfold znb; rw [if_pos rfl]
 have hb' := hb k hk
 have hp : b k * 2 ^ (8 * k - 51 * m) < 18446744073709551616 := by
  have h3 : 2 ^ (8 * k - 51 * m) ≤ 2 ^ 56 := Nat.pow_le_pow_right (by omega) (by omega)
  have h4 : b k * 2 ^ (8 * k - 51 * m) ≤ 255 * 2 ^ 56 := Nat.mul_le_mul (by omega) h3
  omega
 have e3 : IntKind.u64.wrap (((b k : Nat) : Int) * 2 ^ (8 * k - 51 * m)) = ((b k * 2 ^ (8 * k - 51 * m) : Nat) : Int) := by
  rw [show ((b k : Nat) : Int) * 2 ^ (8 * k - 51 * m) = ((b k * 2 ^ (8 * k - 51 * m) : Nat) : Int) from by rw [Int.natCast_mul, Int.natCast_pow]; rfl, IntKind.wrap_u64]
  omega
 rw [e1, e3, bits_or_u64_nat _ _ (zpB b m k hl (by omega)) hp, zx2 b m k hl h]
theorem znc (b : Nat → Nat) (m k q : Nat) (v : Int) (hv : v = ((kvN b (k + 1) / 2 ^ (51 * m) : Nat) : Int)) : upd (fun q => ((znb b m k q : Nat) : Int)) m v q = ((znb b m (k + 1) q : Nat) : Int) := by
 unfold upd znb
 by_cases h : q = m
 ·rw [if_pos h, hv, if_pos h]
 ·rw [if_neg h, if_neg h]; dsimp only; rw [if_neg h]
theorem zqU (b : Nat → Nat) (hb : ∀ i, i < 32 → b i < 256) (m q : Nat) (hm : m < 5) : (if q < m then ofN b q else 0) = znb b m (51 * m / 8) q := by
 unfold znb
 by_cases h : q = m
 ·rw [if_pos h, if_neg (by omega), zsD b m _ (zkg b 32 hb _ (by omega)) (by omega)]
 ·rw [if_neg h]
theorem zsG (b : Nat → Nat) (m k : Nat) (hm : m < 5) (hk : 51 * m / 8 + 8 ≤ k ∨ 32 ≤ k) (hk2 : k ≤ 32) : kvN b k / 2 ^ (51 * m) % 2251799813685248 = ofN b m := by
 unfold ofN
 have := zsE b m k (by omega) (32 - k)
 rw [show k + (32 - k) = 32 from by omega] at this
 exact this.symm
theorem zu9 (b : Nat → Nat) (_hb : ∀ i, i < 32 → b i < 256) (m k q : Nat) (hm : m < 5) (hk : 51 * m / 8 + 8 ≤ k ∨ 32 ≤ k) (hk2 : k ≤ 32) (sm : kvN b k / 2 ^ (51 * m) < 18446744073709551616) :
  upd (fun q => ((znb b m k q : Nat) : Int)) m (bits .and .u64 (((kvN b k : Nat) : Int) / 2 ^ (51 * m)) 2251799813685247) q = ((if q < m + 1 then ofN b q else 0 : Nat) : Int) := by
 have e3 : ((kvN b k : Nat) : Int) / 2 ^ (51 * m) = ((kvN b k / 2 ^ (51 * m) : Nat) : Int) := by rw [Int.natCast_ediv, Int.natCast_pow]; rfl
 rw [e3, zja _ sm, zsG b m k hm hk hk2]
 unfold upd znb
 by_cases h : q = m
 ·rw [if_pos h, h, if_pos (by omega)]
 ·rw [if_neg h]; dsimp only; rw [if_neg h]
  by_cases h2 : q < m
  ·rw [if_pos h2, if_pos (by omega)]
  ·rw [if_neg h2, if_neg (by omega)]
attribute [local irreducible] kvN ofN
theorem zz1 (b : Nat → Nat) (hb : ∀ i, i < 32 → b i < 256) (w : World) :
  Calls Tryz.prog 42 #[.agg (arr .u8 32 fun i => ((b i : Nat) : Int))] w fun e w' => e = .returned (.agg (arr .u64 5 fun i => ((ofN b i : Nat) : Int))) ∧ Below w.heap.size w w' := by
 go_enter Tryz.func42, Tryz.ntmps42
 obtain ⟨h0, h1, hsz, hbl⟩ := zb9 w (.cells (arr .u8 32 fun i => ((b i : Nat) : Int)) 23) (.cells (arr .u64 5 fun _ => 0) 69)
 have hb' := Lib.hid hb
 clear hb
 go_wp2_with (refine zae rfl rfl zfV ?_)
 go_loopg [8] 5 (fun n i wr => ∃ m : Nat, m + n = 5 ∧ i = .int .i64 m ∧ wr.heap[w.heap.size]? = some (.cells (arr .u8 32 fun i => ((b i : Nat) : Int)) 23 (0, 0)) ∧ wr.heap[w.heap.size + 1]? = some (.cells (arr .u64 5 fun q => ((if q < m then ofN b q else 0 : Nat) : Int)) 69 (0, 0)) ∧ Below w.heap.size w wr)
 case atStart => exact ⟨0, rfl, rfl, h0, zaf h1 (fun k _ => by rw [if_neg (Nat.not_lt_zero k)]; rfl), hbl⟩
 case round =>
  clear h0 h1 hbl hsz
  obtain ⟨m, hm, rfl, g0, g1, hB⟩ := hrel
  obtain ⟨go1, rfl⟩ : ∃ x, x = gk := ⟨_, rfl⟩
  have hm' := Lib.hid hm
  clear hm
  by_cases hlt : m < 5
  ·have g2 := zaf g1 (f' := fun q => ((znb b m (51 * m / 8) q : Nat) : Int)) (fun q _ => by rw [← zqU b hb'.out m q hlt])
   clear g1
   obtain ⟨K, hK1, hK2, hK3⟩ : ∃ K, K ≤ 51 * m / 8 + 8 ∧ K ≤ 32 ∧ (51 * m / 8 + 8 ≤ K ∨ 32 ≤ K) := ⟨min (51 * m / 8 + 8) 32, by omega, by omega, by omega⟩
   go_upto_region 4 with (fail)
   (try simp only [Act.put, jA, jB, jC])
   try rw [show decide ((m : Int) < 5) = true from decide_eq_true (by omega)]
   go_wp2
   go_loopg [5] (K - 51 * m / 8) (fun n i wr => ∃ k : Nat, k + n = K ∧ 51 * m / 8 ≤ k ∧ i = .int .i64 k ∧ wr.heap[w.heap.size]? = some (.cells (arr .u8 32 fun i => ((b i : Nat) : Int)) 23 (0, 0)) ∧ wr.heap[w.heap.size + 1]? = some (.cells (arr .u64 5 fun q => ((znb b m k q : Nat) : Int)) 69 (0, 0)) ∧ Below w.heap.size w wr)
   case atStart => exact ⟨51 * m / 8, by omega, by omega, by go_num, g0, g2, hB⟩
   case round =>
    clear g0 g2 hB
    obtain ⟨k, hk, hkm, rfl, g0, g2, hB⟩ := hrel
    have hk' := Lib.hid hk
    clear hk
    by_cases hlk : k < K
    ·have c0 := zaj g2 m (by omega)
     have c1 := zaj g0 k (by omega)
     have bk := hb'.out k (by omega)
     have fz := zaH g2 m
     by_cases hs : 8 * k < 51 * m
     ·go_wp2
      all_goals
       refine zav 9 (by kernel_rfl) (by kernel_rfl) ?_
       (simp only [jH, jI, jF, jG])
       repeat (refine wpStill_step (fun K hK => ?_); go_simp; (try (simp only [↓IntWalk.iteOmega]; go_simp)); (try go_bits); refine hK _ ?_; clear hK K)
       refine wpStill_nil ?_
       go_wp2
       go_roundg (gk - 1)
       case measure => have := hk'.out; omega
       case rel =>
        have hk'' := hk'.out
        exact ⟨k + 1, by omega, by omega, by go_num, zaq g0 _ _ (by omega), zaf (zaJ g2 _ _) (fun q _ => znc b m k q _ (zu8 b hb'.out m k (by omega) hs)), (hB.setCell (by show w.heap.size ≤ w.heap.size + 1; omega) _).drew⟩
     ·go_wp2
      all_goals
       refine zav 8 (by kernel_rfl) (by kernel_rfl) ?_
       (simp only [jH, jI, jF, jG])
       repeat (refine wpStill_step (fun K hK => ?_); go_simp; (try (simp only [↓IntWalk.iteOmega]; go_simp)); (try go_bits); refine hK _ ?_; clear hK K)
       refine wpStill_nil ?_
       go_wp2
       go_roundg (gk - 1)
       case measure => have := hk'.out; omega
       case rel =>
        have hk'' := hk'.out
        exact ⟨k + 1, by omega, by omega, by go_num, zaq g0 _ _ (by omega), zaf (zaJ g2 _ _) (fun q _ => znc b m k q _ (zsF b hb'.out m k (by omega) (by omega) (by omega))), (hB.setCell (by show w.heap.size ≤ w.heap.size + 1; omega) _).drew⟩
    ·obtain rfl : k = K := by have := hk'.out; omega
     have c0 := zaj g2 m (by omega)
     have fz := zaH g2 m
     have sm := zpB b m k (zkg b 32 hb'.out k hK2) (by omega)
     have e1 : znb b m k m = kvN b k / 2 ^ (51 * m) := by unfold znb; rw [if_pos rfl]
     rw [e1] at c0
     go_wp2
     all_goals
      go_roundg (go1 - 1)
      case measure => have := hm'.out; omega
      case rel =>
       have hm'' := hm'.out
       refine ⟨m + 1, by omega, by go_num, zaq g0 _ _ (by omega), zaf (zaJ g2 _ _) (fun q _ => ?_), hB.setCell (by show w.heap.size ≤ w.heap.size + 1; omega) _⟩
       exact zu9 b hb'.out m k q hlt hK3 hK2 sm
  ·obtain rfl : m = 5 := by have := hm'.out; omega
   have g2 := zaf g1 (f' := fun q => ((ofN b q : Nat) : Int)) (fun q hq => by rw [if_pos hq])
   clear g1
   go_wp2_with (first | (refine zab rfl rfl rfl za8 g2 ?_) | (refine zac rfl rfl rfl rfl za8 g2 ?_))
   exact bodyPost_ret (zau rfl rfl za8 (zan g2)) rfl ⟨rfl, zam hB (by omega) _⟩
end
section
open Go.RowKit
inductive CPlan where
 | done (p : List (Nat × Bool))
 | fork (p : List (Nat × Bool)) (i : Nat) (pi : CPlan) (j : Nat) (pj : CPlan)
def CPlan.size : CPlan → Nat
 | .done p => p.length
 | .fork p _ pi _ _ => p.length + (pi.size + 1)
def zfC (P : Program) (l : List Oper) (Q : Exit → Act → World → Prop) (N : Nat) (T : Act → World → Prop) : CPlan → Act → World → Prop
 | .done p => wpCan P l.toArray Q N T (canOps l p)
 | .fork p i pi j pj => wpCan P l.toArray Q N (fun a w => wpCan P l.toArray Q N (zfC P l Q N T pi) (canOps l [(i, true)]) a w ∧ wpCan P l.toArray Q N (zfC P l Q N T pj) (canOps l [(j, true)]) a w) (canOps l p)
def zx3 (md : Region.Mode) (ops : Array Oper) (n : Nat) : List (Nat × Bool) → Array Bool → Bool
 | [], _ => true
 | (i, false) :: p, listed => decide (i < n) && (Region.ready md ops listed).contains i && Region.free md ops listed i && zx3 md ops n p (listed.setIfInBounds i true)
 | (i, true) :: p, listed => decide (i < n) && decide (Region.ready md ops listed = [i]) && zx3 md ops n p (listed.setIfInBounds i true)
def aft : List (Nat × Bool) → Array Bool → Array Bool
 | [], listed => listed
 | (i, _) :: p, listed => aft p (listed.setIfInBounds i true)
def zqV (md : Region.Mode) (ops : Array Oper) (n : Nat) : CPlan → Array Bool → Bool
 | .done p, listed => zx3 md ops n p listed && Region.seqB md ops (ops.size - n) n (aft p listed)
 | .fork p i pi j pj, listed => zx3 md ops n p listed && decide (Region.ready md ops (aft p listed) = [i, j]) && decide (i < n) && decide (j < n) && decide (pi.size = pj.size) &&
   zqV md ops n pi ((aft p listed).setIfInBounds i true) && zqV md ops n pj ((aft p listed).setIfInBounds j true)
section
variable {P : Program} {md : Region.Mode} {Q : Exit → Act → World → Prop} {N n : Nat} {w0 : World} {l : List Oper}
theorem zeK {T' : Act → World → Prop} {L : Array Bool → Act → World → Prop} (hsel : Region.noSelect l.toArray = true) (hs : Region.sinkB md l.toArray n = true) (hc : Region.chainB md l.toArray n = true) (hn : n < l.length)
  (hdone : ∀ listed a w, L listed a w → ∀ j ∈ Region.ready md l.toArray listed, n ≤ j) (f : Nat) :
  ∀ (p : List (Nat × Bool)) (listed : Array Bool) (a : Act) (w : World), HeadInv md l.toArray n listed → zx3 md l.toArray n p listed = true → Keep N w0 w → wpCan P l.toArray Q N T' (canOps l p) a w →
   (∀ a' w', HeadInv md l.toArray n (aft p listed) → Keep N w0 w' → T' a' w' → zca P md l.toArray Q (Keep N w0) n L f (aft p listed) a' w') →
   zca P md l.toArray Q (Keep N w0) n L (f + p.length) listed a w
 | [], listed, a, w, inv, _, hk, h, hL => hL a w inv hk h
 | (i, false) :: p, listed, a, w, inv, hB, hk, h, hL => by
  simp only [zx3, Bool.and_eq_true, jS] at hB
  obtain ⟨⟨⟨hin, hr⟩, hf⟩, hB'⟩ := hB
  have hil : i < l.length := by omega
  have ho : l.toArray[i]? = some l[i] := by simp [hil]
  simp only [canOps, jP hil] at h
  obtain ⟨v, hv, hQ, hK⟩ := h
  have hr' : i ∈ Region.ready md l.toArray listed := by simpa using hr
  have hy : YieldsIf P l.toArray (Keep N w0) l[i] v a := by
   rcases hv with ⟨hw, hrun, hfr⟩ | ⟨hw, hv⟩
   ·exact .inl ⟨hw, fun w' hw' => hfr v hrun w' (hk.symm.trans hw')⟩
   ·exact .inr ⟨hw, hv⟩
  exact zdG ho (Region.noSelect_spec hsel) hQ hs hc (by simpa using hn) hin hdone (f + p.length) listed a w inv (Region.free_spec ho hf) hr' hy hk
   (zeK hsel hs hc hn hdone f p _ _ _ (inv.set hr' hin) hB' hk hK hL)
 | (i, true) :: p, listed, a, w, inv, hB, hk, h, hL => by
  simp only [zx3, Bool.and_eq_true, jS] at hB
  obtain ⟨⟨hin, hr⟩, hB'⟩ := hB
  have hil : i < l.length := by omega
  have ho : l.toArray[i]? = some l[i] := by simp [hil]
  simp only [canOps, jP hil] at h
  have hw : if Region.wanted l[i] (yielded l.toArray a.tmps) then l[i].wp P a w (fun a' w' => Keep N w w' ∧ wpCan P l.toArray Q N T' (canOps l p) a' w') Q else wpCan P l.toArray Q N T' (canOps l p) (a.put l[i].dst undef) w := h
  have hr' : i ∈ Region.ready md l.toArray listed := by rw [hr]; simp
  refine ⟨fun h0 => (by rw [h0] at hr; cases hr), fun j hj => ?_⟩
  rw [hr] at hj
  obtain rfl : j = i := by simpa using hj
  refine ⟨hin, ?_⟩
  unfold wpOp
  simp only [ho]
  split
  ·rename_i hwt
   rw [if_pos hwt] at hw
   exact .inl (Oper.wp_mono (fun a' w' h' => ⟨hk.trans h'.1, zeK hsel hs hc hn hdone f p _ _ _ (inv.set hr' hin) hB' (hk.trans h'.1) h'.2 hL⟩) hw)
  ·rename_i hwt
   rw [if_neg hwt] at hw
   exact ⟨hk, zeK hsel hs hc hn hdone f p _ _ _ (inv.set hr' hin) hB' hk hw hL⟩
theorem zgp {T : Act → World → Prop} (hsel : Region.noSelect l.toArray = true) (hs : Region.sinkB md l.toArray n = true) (hc : Region.chainB md l.toArray n = true) (hn : n < l.length) :
  ∀ (p : CPlan) (listed : Array Bool) (a : Act) (w : World), HeadInv md l.toArray n listed → zqV md l.toArray n p listed = true → Keep N w0 w → zfC P l Q N T p a w →
   zca P md l.toArray Q (Keep N w0) n (fun listed' a' w' => Region.seqB md l.toArray (l.toArray.size - n) n listed' = true ∧ T a' w') p.size listed a w
 | .done p, listed, a, w, inv, hB, hk, h => by
  simp only [zqV, Bool.and_eq_true] at hB
  have := zeK hsel hs hc hn (L := fun listed' a' w' => Region.seqB md l.toArray (l.toArray.size - n) n listed' = true ∧ T a' w') (fun listed' a' w' hL => seqB_ready hL.1) 0 p listed a w inv hB.1 hk h (fun a' w' _ _ hT => ⟨hB.2, hT⟩)
  rwa [Nat.zero_add] at this
 | .fork p i pi j pj, listed, a, w, inv, hB, hk, h => by
  simp only [zqV, Bool.and_eq_true, jS] at hB
  obtain ⟨⟨⟨⟨⟨⟨h1, h2⟩, h3⟩, h4⟩, h5⟩, h6⟩, h7⟩ := hB
  unfold CPlan.size
  rw [Nat.add_comm]
  refine zeK hsel hs hc hn (fun listed' a' w' hL => seqB_ready hL.1) (pi.size + 1) p listed a w inv h1 hk h (fun a' w' inv' hk' hT => ?_)
  have step : ∀ (x : Nat) (px : CPlan), x < n → x ∈ Region.ready md l.toArray (aft p listed) → px.size = pi.size →
    (∀ a w, HeadInv md l.toArray n ((aft p listed).setIfInBounds x true) → Keep N w0 w → zfC P l Q N T px a w → zca P md l.toArray Q (Keep N w0) n (fun listed' a' w' => Region.seqB md l.toArray (l.toArray.size - n) n listed' = true ∧ T a' w') px.size ((aft p listed).setIfInBounds x true) a w) →
    wpCan P l.toArray Q N (zfC P l Q N T px) (canOps l [(x, true)]) a' w' →
    wpOp P l.toArray Q x (fun a'' w'' => Keep N w0 w'' ∧ zca P md l.toArray Q (Keep N w0) n (fun listed' a' w' => Region.seqB md l.toArray (l.toArray.size - n) n listed' = true ∧ T a' w') pi.size ((aft p listed).setIfInBounds x true) a'' w'') a' w' := by
   intro x px hx hr hsz ih hw
   have hil : x < l.length := by omega
   have ho : l.toArray[x]? = some l[x] := by simp [hil]
   simp only [canOps, jP hil] at hw
   have hw' : if Region.wanted l[x] (yielded l.toArray a'.tmps) then l[x].wp P a' w' (fun a'' w'' => Keep N w' w'' ∧ zfC P l Q N T px a'' w'') Q else zfC P l Q N T px (a'.put l[x].dst undef) w' := hw
   rw [← hsz]
   unfold wpOp
   simp only [ho]
   split
   ·rename_i hwt
    rw [if_pos hwt] at hw'
    exact .inl (Oper.wp_mono (fun a'' w'' h' => ⟨hk'.trans h'.1, ih _ _ (inv'.set hr hx) (hk'.trans h'.1) h'.2⟩) hw')
   ·rename_i hwt
    rw [if_neg hwt] at hw'
    exact ⟨hk', ih _ _ (inv'.set hr hx) hk' hw'⟩
  have hri : i ∈ Region.ready md l.toArray (aft p listed) := by rw [h2]; simp
  have hrj : j ∈ Region.ready md l.toArray (aft p listed) := by rw [h2]; simp
  refine ⟨fun h0 => (by rw [h0] at h2; cases h2), fun x hx => ?_⟩
  rw [h2] at hx
  simp only [List.mem_cons, List.not_mem_nil, or_false] at hx
  rcases hx with rfl | rfl
  ·exact ⟨h3, step x pi h3 hri rfl (fun a w iv k t => zgp hsel hs hc hn pi _ a w iv h6 k t) hT.1⟩
  ·exact ⟨h4, step x pj h4 hrj h5.symm (fun a w iv k t => zgp hsel hs hc hn pj _ a w iv h7 k t) hT.2⟩
def zz2 (md : Region.Mode) (ops : Array Oper) (n : Nat) (p : CPlan) : Bool :=
 Region.noSelect ops && decide (n < ops.size) && decide (p.size = n) && Region.sinkB md ops n && Region.chainB md ops n && zqV md ops n p (Array.replicate ops.size false)
theorem zjY {id : Nat} {a : Act} {w : World} {l : List Oper} (N n : Nat) (p : CPlan) (hm : P.follows .mixedOrders = true) (hB : zz2 .any l.toArray n p = true)
  (h : zfC P l Q N (fun a' w' => wpList P l.toArray Q (l.drop n) a' w') p a w.drew) : (Code.region id l.toArray true).wp P Q a w := by
 simp only [zz2, Bool.and_eq_true, jS] at hB
 obtain ⟨⟨⟨⟨⟨hsel, hn⟩, hp⟩, hs⟩, hc⟩, hcan⟩ := hB
 have inv0 : HeadInv .any l.toArray n (Array.replicate l.toArray.size false) :=
  ⟨by simp, fun j oj _ hl => (by rw [getD_replicate_false] at hl; cases hl), fun t _ ht => getD_in (by simpa using ht) (getD_replicate_false _ _)⟩
 have H := zgp (md := .any) (w0 := w.drew) hsel hs hc (by simpa using hn) p _ a _ inv0 hcan (Keep.refl _ _) h
 refine wp_region_any hm ?_
 have hdl : (l.drop n).length = l.toArray.size - n := by simp
 have := zbA (g := l.toArray.size - n) (fun listed a' w' hL => by
  have := wpAny_of_seq (md := .any) (Q' := Q) (l.drop n) n listed a' w' (fun j => by simp [List.getElem?_drop]) (by rw [hdl]; exact hL.1) hL.2
  rwa [hdl] at this) _ _ _ _ H
 rw [hp, show n + (l.toArray.size - n) = l.toArray.size by omega] at this
 exact this
end
end
section
open Go.RowKit
theorem za2 {P : Program} {w : World} {fn : Func} {p q : Tmp} {ty : TypeId} {n t g : Nat} {k : IntKind} {f : Nat → Int} {fr : Nat × Nat} {v : Value} (h : fn.results = #[.cell p ty, .tmp q]) {tmps : Array Value} (hp : tmps.getD p undef = .pointer (some ⟨g, 0, none⟩)) (hq : tmps.getD q undef = v)
  (hT : zeB P ty n) (hg : w.heap[g]? = some (.cells (arr k n f) t fr)) : (results fn tmps).run P w = .ok (.tuple #[.agg (arr k n f), v]) w := by
 have hp' : tmps[p]?.getD undef = .pointer (some ⟨g, 0, none⟩) := by simpa using hp
 have hq' : tmps[q]?.getD undef = v := by simpa using hq
 simp [results, h, hp', hq', asAddr, zbK hT hg]
theorem zsH : Tryz.prog.built 23 [] = some (arr .u8 32 fun _ => 0) := by kernel_rfl
theorem ze4 : Tryz.prog.built 69 [] = some (arr .u64 5 fun _ => 0) := by kernel_rfl
attribute [local irreducible] zef zbU zbi
def zbY (F : Nat → Nat) (k : Nat) : Nat := if okF F 5 then zbi (zbU (zef F) 5) k else 0
theorem zpC {F : Nat → Nat} (h : okF F 5) (i : Nat) (hi : i < 5) : F i < 9223372036854775808 := by have := h i hi; omega
theorem zoy (F : Nat → Nat) (hF : ∀ i, i < 5 → F i < 18446744073709551616) (w : World) :
  Calls Tryz.prog 49 #[.agg (arr .u64 5 fun i => ((F i : Nat) : Int))] w fun e w' => e = .returned (.tuple #[.agg (arr .u8 32 fun k => ((zbY F k : Nat) : Int)), .int .i64 (if okF F 5 then 0 else 1)]) ∧ Below w.heap.size w w' := by
 go_enter Tryz.func49, Tryz.ntmps49
 obtain ⟨h0, h1, hsz, hb⟩ := zb9 w (.cells (arr .u64 5 fun i => ((F i : Nat) : Int)) 69) (.cells (arr .u8 32 fun _ => 0) 23)
 go_upto_region 1 with (refine zae rfl rfl zh4 ?_)
 generalize (w.alloc (.cells (arr .u64 5 fun i => ((F i : Nat) : Int)) 69)).alloc (.cells (arr .u8 32 fun _ => 0) 23) = wa at *
 (try simp only [Act.put, jA, jB, jC])
 obtain ⟨g2, hz2, bl⟩ := zb5 wa (.cells (arr .u64 5 fun i => ((F i : Nat) : Int)) 69)
 rw [hsz] at g2
 go_wp2_with (first | (refine zab rfl rfl rfl za8 h0 ?_) | (refine zcI rfl rfl Tryz.underlying131 (by simp [Act.eval, Act.put]) (zi8 fun i => ((F i : Nat) : Int)) ?_) | (go_at_call 72; fail))
 refine (zhj 1 5 rfl (by omega) F hF _ _ _ g2).mono ?_
 rintro e w2 ⟨rfl, b2⟩
 have b3 := bl.trans (b2.mono (by omega))
 have q0 := zaa b3 (by omega) h0
 have q1 := zaa b3 (by omega) h1
 have hB := hb.trans (b3.mono (by omega))
 clear b2 b3 bl g2 h0 h1 hb hz2 hsz
 by_cases hq : okF F 5
 ·rw [show decide (okF F 5) = true from decide_eq_true hq]
  go_wp2_with (first | (refine zab rfl rfl rfl za8 q0 ?_) | (go_at_call 73; fail))
  refine (zsC F (fun i hi => zpC hq i hi) _).mono ?_
  rintro e w4 ⟨rfl, b4⟩
  have e1 := zaa b4 (jM q1) q1
  have hBe := hB.trans (b4.mono hB.size)
  go_wp2_with (refine zac rfl rfl rfl rfl zcg e1 ?_)
  refine bodyPost_ret (za2 rfl rfl rfl zcg (zan e1)) rfl ⟨?_, zam hBe (by omega) _⟩
  rw [show (arr .u8 32 fun k => ((zbY F k : Nat) : Int)) = arr .u8 32 fun k => ((zbi (zbU (zef F) 5) k : Nat) : Int) from zcc fun k _ => by unfold zbY; rw [if_pos hq]]
  first | rfl | (rw [if_pos hq]; rfl)
 ·rw [show decide (okF F 5) = false from decide_eq_false hq]
  go_wp2_with (first | (refine za5 rfl (zaI rfl (by simp [Act.eval, Act.put]) zsH) ?_) | (refine zac rfl rfl rfl rfl zcg q1 ?_))
  refine bodyPost_ret (za2 rfl rfl rfl zcg (zan q1)) rfl ⟨?_, zam hB (by omega) _⟩
  rw [show (arr .u8 32 fun k => ((zbY F k : Nat) : Int)) = arr .u8 32 fun _ => 0 from zcc fun k _ => by unfold zbY; rw [if_neg hq]; rfl]
  first | rfl | (rw [if_neg hq]; rfl)
def addN (F G : Nat → Nat) (i : Nat) : Nat := if okF F 5 ∧ okF G 5 then zdj (fun i => F i + G i) i else 0
theorem zx4 (F G : Nat → Nat) (hF : ∀ i, i < 5 → F i < 18446744073709551616) (hG : ∀ i, i < 5 → G i < 18446744073709551616) (w : World) :
  Calls Tryz.prog 68 #[.agg (arr .u64 5 fun i => ((F i : Nat) : Int)), .agg (arr .u64 5 fun i => ((G i : Nat) : Int))] w fun e w' => e = .returned (.tuple #[.agg (arr .u64 5 fun k => ((addN F G k : Nat) : Int)), .int .i64 (if okF F 5 ∧ okF G 5 then 0 else 1)]) ∧ Below w.heap.size w w' := by
 go_enter Tryz.func68, Tryz.ntmps68
 obtain ⟨h0, h1, h2, hsz, hb⟩ := zc7 w (.cells (arr .u64 5 fun i => ((F i : Nat) : Int)) 69) (.cells (arr .u64 5 fun i => ((G i : Nat) : Int)) 69) (.cells (arr .u64 5 fun _ => 0) 69)
 go_upto_region 1 with (refine zae rfl rfl zfV ?_)
 generalize ((w.alloc (.cells (arr .u64 5 fun i => ((F i : Nat) : Int)) 69)).alloc (.cells (arr .u64 5 fun i => ((G i : Nat) : Int)) 69)).alloc (.cells (arr .u64 5 fun _ => 0) 69) = wa at *
 (try simp only [Act.put, jA, jB, jC])
 obtain ⟨g3, hz2, bl⟩ := zb5 wa (.cells (arr .u64 10 fun i => ((zbW F G i : Nat) : Int)) 69)
 rw [hsz] at g3
 go_wp2_with (first | (refine zab rfl rfl rfl za8 h0 ?_) | (refine zab rfl rfl rfl za8 h1 ?_) | (refine zcI rfl rfl Tryz.underlying131 (by simp [Act.eval, Act.put]) (zi9 F G) ?_) | (go_at_call 72; fail))
 refine (zhj 2 10 rfl (by omega) (zbW F G) (fun i hi => zow F G _ hF hG i hi) _ _ _ g3).mono ?_
 rintro e w2 ⟨rfl, b2⟩
 have b3 := bl.trans (b2.mono (by omega))
 have q0 := zaa b3 (by omega) h0
 have q1 := zaa b3 (by omega) h1
 have q2 := zaa b3 (by omega) h2
 have hB := hb.trans (b3.mono (by omega))
 clear b2 b3 bl g3 h0 h1 h2 hb hz2 hsz
 by_cases hq : okF F 5 ∧ okF G 5
 ·rw [show decide (okF (zbW F G) 10) = true from decide_eq_true ((zhk F G).2 hq)]
  have hq' := Lib.hid hq
  go_wp2
  go_loopg [13] 5 (fun n i wr => ∃ m : Nat, m + n = 5 ∧ i = .int .i64 m ∧ wr.heap[w.heap.size]? = some (.cells (arr .u64 5 fun i => ((if i < m then F i + G i else F i : Nat) : Int)) 69 (0, 0)) ∧
   wr.heap[w.heap.size + 1]? = some (.cells (arr .u64 5 fun i => ((G i : Nat) : Int)) 69 (0, 0)) ∧ wr.heap[w.heap.size + 1 + 1]? = some (.cells (arr .u64 5 fun _ => 0) 69 (0, 0)) ∧ Below w.heap.size w wr)
  case atStart => exact ⟨0, rfl, rfl, zaf q0 (fun i _ => by rw [if_neg (Nat.not_lt_zero i)]), q1, q2, hB⟩
  case round =>
   clear q0 q1 q2 hB
   obtain ⟨m, hm, rfl, q0, q1, q2, hB⟩ := hrel
   have hm' := Lib.hid hm
   clear hm
   by_cases hlt : m < 5
   ·have f1 := hq'.out.1 m hlt
    have f2 := hq'.out.2 m hlt
    have c0 := zaj q0 m hlt
    have c1 := zaj q1 m hlt
    have fz := zaH q0 m
    simp only [Nat.lt_irrefl, if_false] at c0
    go_wp2
    refine zav 8 (by kernel_rfl) (by kernel_rfl) ?_
    (simp only [jH, jI, jF, jG])
    repeat (refine wpStill_step (fun K hK => ?_); go_simp; (try (simp only [↓IntWalk.iteOmega]; go_simp)); (try go_bits); refine hK _ ?_; clear hK K)
    refine wpStill_nil ?_
    go_wp2
    go_roundg (gk - 1)
    case measure => have := hm'.out; omega
    case rel =>
     have hm'' := hm'.out
     refine ⟨m + 1, by omega, by go_num, zaf (zaJ q0 m _) (fun i _ => ?_), zaq q1 _ _ (by omega), zaq q2 _ _ (by omega), (hB.setCell (jV _) _).drew⟩
     unfold upd
     by_cases h : i = m
     ·rw [if_pos h, h, if_pos (by omega)]; rfl
     ·rw [if_neg h]
      dsimp only
      by_cases h2 : i < m
      ·rw [if_pos h2, if_pos (by omega)]
      ·rw [if_neg h2, if_neg (by omega)]
   ·obtain rfl : m = 5 := by have := hm'.out; omega
    have p0 := zaf (f' := fun i => ((F i + G i : Nat) : Int)) q0 (fun i hi => by rw [if_pos hi])
    clear q0
    go_wp2_with (first | (refine zab rfl rfl rfl za8 p0 ?_) | (go_at_call 98; fail))
    refine (zfB (fun i => F i + G i) (fun i hi => by have := hq'.out.1 i hi; have := hq'.out.2 i hi; show F i + G i < _; omega) _).mono ?_
    rintro e w4 ⟨rfl, b4⟩
    have e2 := zaa b4 (jM q2) q2
    have hBe := hB.trans (b4.mono hB.size)
    go_wp2_with (refine zac rfl rfl rfl rfl za8 e2 ?_)
    refine bodyPost_ret (za2 rfl rfl rfl za8 (zan e2)) rfl ⟨?_, zam hBe (by omega) _⟩
    rw [show (arr .u64 5 fun k => ((addN F G k : Nat) : Int)) = arr .u64 5 fun k => ((zdj (fun i => F i + G i) k : Nat) : Int) from zcc fun k _ => by unfold addN; rw [if_pos hq'.out]]
    first | rfl | (rw [if_pos hq'.out]; rfl)
 ·rw [show decide (okF (zbW F G) 10) = false from decide_eq_false fun h => hq ((zhk F G).1 h)]
  go_wp2_with (first | (refine za5 rfl (zaI rfl (by simp [Act.eval, Act.put]) ze4) ?_) | (refine zac rfl rfl rfl rfl za8 q2 ?_))
  refine bodyPost_ret (za2 rfl rfl rfl za8 (zan q2)) rfl ⟨?_, zam hB (by omega) _⟩
  rw [show (arr .u64 5 fun k => ((addN F G k : Nat) : Int)) = arr .u64 5 fun _ => 0 from zcc fun k _ => by unfold addN; rw [if_neg hq]; rfl]
  first | rfl | (rw [if_neg hq]; rfl)
end
section
open Go.RowKit
namespace M64
theorem maskN (a : Nat) (ha : a < 18446744073709551616) : bits .and .u64 (a : Int) 4294967295 = ((a % 4294967296 : Nat) : Int) := by
 have h := bits_and_u64_nat a 4294967295 ha (by omega)
 have e : a &&& 4294967295 = a % 4294967296 := Nat.and_two_pow_sub_one_eq_mod a 32
 rw [e] at h
 exact h
theorem divN (a : Nat) : (a : Int) / 4294967296 = ((a / 4294967296 : Nat) : Int) := by omega
theorem mulN (a b : Nat) : (a : Int) * (b : Int) = ((a * b : Nat) : Int) := (Int.natCast_mul a b).symm
theorem addN (a b : Nat) : (a : Int) + (b : Int) = ((a + b : Nat) : Int) := (Int.natCast_add a b).symm
theorem wrapN (a : Nat) (ha : a < 18446744073709551616) : IntKind.u64.wrap (a : Int) = (a : Int) := by rw [IntKind.wrap_u64]; omega
theorem wrapM (a : Nat) : IntKind.u64.wrap (a : Int) = ((a % 18446744073709551616 : Nat) : Int) := by rw [IntKind.wrap_u64]; omega
end M64
theorem znd (x y : Nat) (hx : x < 18446744073709551616) (hy : y < 18446744073709551616) (w : World) :
  Calls Tryz.prog 104 #[.int .u64 x, .int .u64 y] w fun e w' => e = .returned (.tuple #[.int .u64 ((x * y / 18446744073709551616 : Nat) : Int), .int .u64 ((x * y % 18446744073709551616 : Nat) : Int)]) ∧ w = w' := by
 obtain ⟨bd, bt, bw, hhi⟩ := Lib.mul64_hi x y hx hy
 have ba := Lib.half_mul_le (a := x / 4294967296) (b := y / 4294967296) (by omega) (by omega)
 have bb := Lib.half_mul_le (a := x / 4294967296) (b := y % 4294967296) (by omega) (by omega)
 have bc := Lib.half_mul_le (a := x % 4294967296) (b := y / 4294967296) (by omega) (by omega)
 have ba' : x / 4294967296 * (y / 4294967296) < 18446744073709551616 := by omega
 have bb' : x / 4294967296 * (y % 4294967296) < 18446744073709551616 := by omega
 have bc' : x % 4294967296 * (y / 4294967296) < 18446744073709551616 := by omega
 have bh1 : x / 4294967296 * (y / 4294967296) + (x / 4294967296 * (y % 4294967296) + x % 4294967296 * (y % 4294967296) / 4294967296) / 4294967296 < 18446744073709551616 := by omega
 have bh : x / 4294967296 * (y / 4294967296) + (x / 4294967296 * (y % 4294967296) + x % 4294967296 * (y % 4294967296) / 4294967296) / 4294967296 + ((x / 4294967296 * (y % 4294967296) + x % 4294967296 * (y % 4294967296) / 4294967296) % 4294967296 + x % 4294967296 * (y / 4294967296)) / 4294967296 < 18446744073709551616 := by omega
 go_enter Tryz.func104, Tryz.ntmps104
 go_wp2
 simp only [M64.maskN x hx, M64.maskN y hy, M64.divN, M64.mulN, M64.addN, M64.wrapN _ bd, M64.wrapN _ bb', M64.wrapN _ bt, M64.maskN _ bt, M64.wrapN _ bc', M64.wrapN _ bw, M64.wrapN _ ba', M64.wrapN _ bh1, M64.wrapN _ bh, M64.wrapM (x * y)]
 rw [hhi]
 go_ret2
 exact ⟨rfl, rfl⟩
theorem zne (x y : Nat) (w : World) :
  (callFunc 105 #[.int .u64 (x : Int), .int .u64 (y : Int), .int .u64 0]).run Tryz.prog w =
   .ok (.value (.tuple #[.int .u64 (((x + y) % 18446744073709551616 : Nat) : Int), .int .u64 (((x + y) / 18446744073709551616 : Nat) : Int)])) w := by
 rw [run_callFunc_extern Tryz.func105 (by kernel_rfl) (by kernel_rfl) (by kernel_rfl) (e := add64Entry) (by kernel_rfl), run_add64 x y 0 (by omega) (by omega) (by omega) (by omega)]
 simp only [Result.andThen]
 congr 5 <;> omega
theorem zga : zeB Tryz.prog 136 2 := ⟨_, Tryz.underlying136, rfl, by kernel_rfl⟩
theorem zwH : zcw Tryz.prog 136 .u64 2 := by unfold zcw; kernel_rfl
def hlN (v : Nat) (i : Nat) : Nat := if i = 0 then v / 18446744073709551616 else v % 18446744073709551616
theorem zqW (x y : Int) : Tryz.prog.built 136 [(0, .int .u64 x), (1, .int .u64 y)] = some (arr .u64 2 fun i => if i = 0 then x else y) := by kernel_rfl
theorem zk1 (v a b : Nat) (ha : a < 18446744073709551616) (hb : b < 18446744073709551616) (hv : v + a * b < 340282366920938463463374607431768211456) (w : World) :
  Calls Tryz.prog 103 #[.agg (arr .u64 2 fun i => ((hlN v i : Nat) : Int)), .int .u64 a, .int .u64 b] w fun e w' => e = .returned (.agg (arr .u64 2 fun i => ((hlN (v + a * b) i : Nat) : Int))) ∧ Below w.heap.size w w' := by
 obtain ⟨p, hp⟩ : ∃ p, p = a * b := ⟨_, rfl⟩
 rw [← hp] at hv ⊢
 have Hp := Lib.hid hp
 clear hp
 go_enter Tryz.func103, Tryz.ntmps103
 obtain ⟨g0, g1, hz, hb0⟩ := zb9 w (.cells (arr .u64 2 fun i => ((hlN v i : Nat) : Int)) 136) (.cells (arr .u64 2 fun _ => 0) 136)
 go_upto_region 1 with (refine zae rfl rfl zwH ?_)
 generalize (w.alloc (.cells (arr .u64 2 fun i => ((hlN v i : Nat) : Int)) 136)).alloc (.cells (arr .u64 2 fun _ => 0) 136) = wa at *
 (try simp only [Act.put, jA, jB, jC])
 go_wp2_with (go_at_call 104; fail)
 refine (znd a b ha hb _).mono ?_
 rintro e w1 ⟨rfl, rfl⟩
 rw [← Hp.out]
 obtain ⟨ph, hph⟩ : ∃ x, x = p / 18446744073709551616 := ⟨_, rfl⟩
 obtain ⟨pl, hpl⟩ : ∃ x, x = p % 18446744073709551616 := ⟨_, rfl⟩
 obtain ⟨vh, hvh⟩ : ∃ x, x = v / 18446744073709551616 := ⟨_, rfl⟩
 obtain ⟨vl, hvl⟩ : ∃ x, x = v % 18446744073709551616 := ⟨_, rfl⟩
 obtain ⟨so, hso⟩ : ∃ x, x = (pl + vl) / 18446744073709551616 := ⟨_, rfl⟩
 obtain ⟨sl, hsl⟩ : ∃ x, x = (pl + vl) % 18446744073709551616 := ⟨_, rfl⟩
 have c0 : wa.cell? ⟨w.heap.size, 0, none⟩ = some (.int .u64 (vh : Int)) := by rw [hvh]; exact zaj g0 0 (by omega)
 have c1 : wa.cell? ⟨w.heap.size, 1, none⟩ = some (.int .u64 (vl : Int)) := by rw [hvl]; exact zaj g0 1 (by omega)
 have ra := zne pl vl
 rw [← hso, ← hsl] at ra
 rw [← hph, ← hpl]
 have e0 : sl = (v + p) % 18446744073709551616 := by omega
 have e1 : vh + ph + so = (v + p) / 18446744073709551616 := by omega
 have b1 : vh + ph + so < 18446744073709551616 := by omega
 have E0 := Lib.hid e0
 have E1 := Lib.hid e1
 clear e0 e1 hph hpl hvh hvl hso hsl
 go_wp2_with (first | (refine zhz rfl rfl (by simp [Act.eval, Act.put]) (zqW _ _) ?_) | (refine zac (f' := fun i => if i = 0 then ((vh : Int) + ph + so) else (sl : Int)) rfl rfl rfl rfl zga g1 ?_))
 refine bodyPost_ret (zau rfl rfl zga (zan g1)) rfl ⟨?_, zam hb0 (by omega) _⟩
 rw [zcc (f := fun i => ((hlN (v + p) i : Nat) : Int)) (g := fun i => if i = 0 then ((vh : Int) + ph + so) else (sl : Int)) (fun i _ => by
  unfold hlN
  split
  ·rw [← E1.out]; omega
  ·rw [← E0.out])]
end
section
def pN : Nat := 57896044618658097711785492504343953926634992332820282019728792003956564819949
theorem zbf (X : Nat → Nat) : zbU X 5 = X 0 + X 1 * 2251799813685248 + X 2 * 5070602400912917605986812821504 + X 3 * 11417981541647679048466287755595961091061972992 + X 4 * 25711008708143844408671393477458601640355247900524685364822016 := by
 simp [zbU]
theorem zva (F : Nat → Nat) : ovN F 1 = F 0 / 2251799813685248 ∧ ovN F 2 = (F 1 + ovN F 1) / 2251799813685248 ∧ ovN F 3 = (F 2 + ovN F 2) / 2251799813685248 ∧ ovN F 4 = (F 3 + ovN F 3) / 2251799813685248 ∧ ovN F 5 = (F 4 + ovN F 4) / 2251799813685248 := by
 refine ⟨?_, rfl, rfl, rfl, rfl⟩
 show (F 0 + 0) / 2251799813685248 = _
 rw [Nat.add_zero]
theorem zvb (F : Nat → Nat) : loN F 0 = F 0 % 2251799813685248 ∧ loN F 1 = (F 1 + ovN F 1) % 2251799813685248 ∧ loN F 2 = (F 2 + ovN F 2) % 2251799813685248 ∧ loN F 3 = (F 3 + ovN F 3) % 2251799813685248 ∧ loN F 4 = (F 4 + ovN F 4) % 2251799813685248 := by
 refine ⟨?_, rfl, rfl, rfl, rfl⟩
 show (F 0 + 0) % 2251799813685248 = _
 rw [Nat.add_zero]
theorem zsI (F : Nat → Nat) : zbU (loN F) 5 + ovN F 5 * 57896044618658097711785492504343953926634992332820282019728792003956564819968 = zbU F 5 := by
 obtain ⟨o1, o2, o3, o4, o5⟩ := zva F
 obtain ⟨l0, l1, l2, l3, l4⟩ := zvb F
 rw [zbf, zbf, l0, l1, l2, l3, l4]
 generalize ovN F 5 = u5 at *
 generalize ovN F 4 = u4 at *
 generalize ovN F 3 = u3 at *
 generalize ovN F 2 = u2 at *
 generalize ovN F 1 = u1 at *
 generalize F 0 = a0 at *
 generalize F 1 = a1 at *
 generalize F 2 = a2 at *
 generalize F 3 = a3 at *
 generalize F 4 = a4 at *
 omega
theorem zjb (F : Nat → Nat) : zbU (zdj F) 5 + ovN F 5 * pN = zbU F 5 := by
 have h := zsI F
 rw [zbf] at h
 rw [zbf]
 have c0 : zdj F 0 = loN F 0 + 19 * ovN F 5 := rfl
 have c1 : zdj F 1 = loN F 1 := rfl
 have c2 : zdj F 2 = loN F 2 := rfl
 have c3 : zdj F 3 = loN F 3 := rfl
 have c4 : zdj F 4 = loN F 4 := rfl
 rw [c0, c1, c2, c3, c4]
 unfold pN
 omega
theorem zvc (F : Nat → Nat) : quN F 1 = (F 0 + 19) / 2251799813685248 ∧ quN F 2 = (F 1 + quN F 1) / 2251799813685248 ∧ quN F 3 = (F 2 + quN F 2) / 2251799813685248 ∧ quN F 4 = (F 3 + quN F 3) / 2251799813685248 ∧ quN F 5 = (F 4 + quN F 4) / 2251799813685248 := ⟨rfl, rfl, rfl, rfl, rfl⟩
theorem zz3 (G : Nat → Nat) : quN G 5 = (zbU G 5 + 19) / 57896044618658097711785492504343953926634992332820282019728792003956564819968 := by
 obtain ⟨o1, o2, o3, o4, o5⟩ := zvc G
 rw [zbf]
 generalize quN G 5 = u5 at *
 generalize quN G 4 = u4 at *
 generalize quN G 3 = u3 at *
 generalize quN G 2 = u2 at *
 generalize quN G 1 = u1 at *
 generalize G 0 = a0 at *
 generalize G 1 = a1 at *
 generalize G 2 = a2 at *
 generalize G 3 = a3 at *
 generalize G 4 = a4 at *
 omega
theorem zz4 (G : Nat → Nat) (h : zbU G 5 < 2 * pN) : zbU (loN (upN G)) 5 = zbU G 5 % pN := by
 have h1 := zsI (upN G)
 have h2 := zz3 G
 have h3 : zbU (upN G) 5 = zbU G 5 + 19 * quN G 5 := by
  rw [zbf, zbf]
  have c0 : upN G 0 = G 0 + 19 * quN G 5 := rfl
  have c1 : upN G 1 = G 1 := rfl
  have c2 : upN G 2 = G 2 := rfl
  have c3 : upN G 3 = G 3 := rfl
  have c4 : upN G 4 = G 4 := rfl
  rw [c0, c1, c2, c3, c4]
  omega
 have h4 : zbU (loN (upN G)) 5 < 2 ^ (51 * 5) := zhm _ 5 (fun i _ => Nat.mod_lt _ (by omega)) 5 (jV _)
 have h5 : (2 : Nat) ^ (51 * 5) = 57896044618658097711785492504343953926634992332820282019728792003956564819968 := by decide
 rw [h5] at h4
 generalize zbU (loN (upN G)) 5 = r at *
 generalize ovN (upN G) 5 = o at *
 generalize zbU (upN G) 5 = s at *
 generalize quN G 5 = q at *
 generalize zbU G 5 = v at *
 unfold pN at *
 by_cases hv : v < 57896044618658097711785492504343953926634992332820282019728792003956564819949
 ·rw [Nat.mod_eq_of_lt hv]
  have hq : q = 0 := by omega
  subst hq
  omega
 ·have hm : v % 57896044618658097711785492504343953926634992332820282019728792003956564819949 = v - 57896044618658097711785492504343953926634992332820282019728792003956564819949 := by
   rw [Nat.mod_eq_sub_mod (by omega), Nat.mod_eq_of_lt (by omega)]
  have hq : q = 1 := by omega
  subst hq
  rw [hm]
  have ho : o = 1 := by omega
  subst ho
  omega
theorem zz5 (F : Nat → Nat) (hF : ∀ i, i < 5 → F i < 9223372036854775808) : zbU (zdj (zdj F)) 5 < 2 * pN := by
 have a0 := zdk (zdj F) (fun i hi => by have := zdk F hF i hi; omega) 0 (by omega)
 have a1 := zdk (zdj F) (fun i hi => by have := zdk F hF i hi; omega) 1 (by omega)
 have a2 := zdk (zdj F) (fun i hi => by have := zdk F hF i hi; omega) 2 (by omega)
 have a3 := zdk (zdj F) (fun i hi => by have := zdk F hF i hi; omega) 3 (by omega)
 have a4 := zdk (zdj F) (fun i hi => by have := zdk F hF i hi; omega) 4 (by omega)
 rw [zbf]
 unfold pN
 omega
theorem zsJ (F : Nat → Nat) (hF : ∀ i, i < 5 → F i < 9223372036854775808) : zbU (zef F) 5 = zbU F 5 % pN := by
 show zbU (loN (upN (zdj (zdj F)))) 5 = _
 rw [zz4 _ (zz5 F hF)]
 have h1 := zjb F
 have h2 := zjb (zdj F)
 rw [← h1, ← h2, Nat.add_mul_mod_self_right, Nat.add_mul_mod_self_right]
end
section
theorem zjc (b c : Nat → Nat) : ∀ k, (∀ i, i < k → b i = c i) → kvN b k = kvN c k
 | 0, _ => rfl
 | k + 1, h => by rw [zdY, zdY, zjc b c k (fun i hi => h i (by omega)), h k (by omega)]
theorem zpD (v : Nat) : ∀ k, kvN (zbi v) k = v % 2 ^ (8 * k)
 | 0 => by unfold kvN; rw [Nat.mul_zero, Nat.pow_zero, Nat.mod_one]
 | k + 1 => by
  rw [zdY, zpD v k, show 8 * (k + 1) = 8 * k + 8 from by omega, Nat.pow_add, Nat.mod_mul]
  unfold zbi
  rw [Nat.mul_comm (v / 2 ^ (8 * k) % 256)]
def zAZ (v i : Nat) : Nat := v / 2 ^ (51 * i) % 2251799813685248
theorem zx5 (v : Nat) : zbU (zAZ v) 5 = v % 57896044618658097711785492504343953926634992332820282019728792003956564819968 := by
 rw [zbf]
 unfold zAZ
 rw [show (2 : Nat) ^ (51 * 0) = 1 from by decide, show (2 : Nat) ^ (51 * 1) = 2251799813685248 from by decide, show (2 : Nat) ^ (51 * 2) = 5070602400912917605986812821504 from by decide, show (2 : Nat) ^ (51 * 3) = 11417981541647679048466287755595961091061972992 from by decide, show (2 : Nat) ^ (51 * 4) = 25711008708143844408671393477458601640355247900524685364822016 from by decide]
 omega
theorem zx6 (b : Nat → Nat) (i : Nat) : ofN b i = zAZ (kvN b 32) i := rfl
end
section
def zcv (F G : Nat → Nat) (n c : Nat) : Nat := if (n / 5 + n % 5) % 5 = c then F (n / 5) * (if 5 ≤ n / 5 + n % 5 then 19 * G (n % 5) else G (n % 5)) else 0
def zdZ (F G : Nat → Nat) : Nat → Nat → Nat
 | 0, _ => 0
 | n + 1, c => zdZ F G n c + zcv F G n c
theorem zjd (F G : Nat → Nat) (n c : Nat) : zdZ F G (n + 1) c = zdZ F G n c + zcv F G n c := rfl
theorem zx7 (F G : Nat → Nat) (hF : ∀ i, i < 5 → F i < 4503599627370496) (hG : ∀ i, i < 5 → G i < 4503599627370496) (n c : Nat) (hn : n < 25) :
  zcv F G n c ≤ 385365782469381738054997774434304 := by
 unfold zcv
 have f := hF (n / 5) (by omega)
 have g := hG (n % 5) (by omega)
 split
 ·have : F (n / 5) * (if 5 ≤ n / 5 + n % 5 then 19 * G (n % 5) else G (n % 5)) ≤ 4503599627370496 * (19 * 4503599627370496) := Nat.mul_le_mul (by omega) (by split <;> omega)
  omega
 ·omega
theorem zsK (F G : Nat → Nat) (hF : ∀ i, i < 5 → F i < 4503599627370496) (hG : ∀ i, i < 5 → G i < 4503599627370496) (c : Nat) : ∀ n, n ≤ 25 → zdZ F G n c ≤ n * 385365782469381738054997774434304
 | 0, _ => by unfold zdZ; omega
 | n + 1, h => by
  have := zsK F G hF hG c n (by omega)
  have := zx7 F G hF hG n c (by omega)
  rw [zjd]; omega
theorem zvd (a b0 b1 b2 b3 b4 c1 c2 c3 c4 : Nat) : a * (b0 + b1 * c1 + b2 * c2 + b3 * c3 + b4 * c4) = a * b0 + a * b1 * c1 + a * b2 * c2 + a * b3 * c3 + a * b4 * c4 := by
 simp only [Nat.mul_add, Nat.mul_assoc]
theorem zik (a c b0 b1 b2 b3 b4 c1 c2 c3 c4 : Nat) : a * c * (b0 + b1 * c1 + b2 * c2 + b3 * c3 + b4 * c4) = a * b0 * c + a * b1 * (c * c1) + a * b2 * (c * c2) + a * b3 * (c * c3) + a * b4 * (c * c4) := by
 rw [Nat.mul_add, Nat.mul_add, Nat.mul_add, Nat.mul_add, Nat.mul_mul_mul_comm a c b1, Nat.mul_mul_mul_comm a c b2, Nat.mul_mul_mul_comm a c b3, Nat.mul_mul_mul_comm a c b4, Nat.mul_right_comm a c b0]
theorem zx8 (F G : Nat → Nat) : ∃ q, zbU F 5 * zbU G 5 = zbU (zdZ F G 25) 5 + q * pN := by
 refine ⟨?_, ?_⟩
 ·exact (F 1 * G 4 + F 2 * G 3 + F 3 * G 2 + F 4 * G 1) + (F 2 * G 4 + F 3 * G 3 + F 4 * G 2) * 2251799813685248 + (F 3 * G 4 + F 4 * G 3) * 5070602400912917605986812821504 + (F 4 * G 4) * 11417981541647679048466287755595961091061972992
 ·rw [zbf, zbf, zbf]
  have e : ∀ c, zdZ F G 25 c = zcv F G 0 c + zcv F G 1 c + zcv F G 2 c + zcv F G 3 c + zcv F G 4 c + zcv F G 5 c + zcv F G 6 c + zcv F G 7 c + zcv F G 8 c + zcv F G 9 c + zcv F G 10 c + zcv F G 11 c + zcv F G 12 c + zcv F G 13 c + zcv F G 14 c + zcv F G 15 c + zcv F G 16 c + zcv F G 17 c + zcv F G 18 c + zcv F G 19 c + zcv F G 20 c + zcv F G 21 c + zcv F G 22 c + zcv F G 23 c + zcv F G 24 c := by
   intro c; simp only [zdZ]; omega
  have e0 : zdZ F G 25 0 = F 0 * G 0 + 19 * (F 1 * G 4 + F 2 * G 3 + F 3 * G 2 + F 4 * G 1) := by rw [e]; simp [zcv]; simp only [Nat.mul_left_comm _ 19 _]; omega
  have e1 : zdZ F G 25 1 = F 0 * G 1 + F 1 * G 0 + 19 * (F 2 * G 4 + F 3 * G 3 + F 4 * G 2) := by rw [e]; simp [zcv]; simp only [Nat.mul_left_comm _ 19 _]; omega
  have e2 : zdZ F G 25 2 = F 0 * G 2 + F 1 * G 1 + F 2 * G 0 + 19 * (F 3 * G 4 + F 4 * G 3) := by rw [e]; simp [zcv]; simp only [Nat.mul_left_comm _ 19 _]; omega
  have e3 : zdZ F G 25 3 = F 0 * G 3 + F 1 * G 2 + F 2 * G 1 + F 3 * G 0 + 19 * (F 4 * G 4) := by rw [e]; simp [zcv, Nat.mul_left_comm _ 19 _]
  have e4 : zdZ F G 25 4 = F 0 * G 4 + F 1 * G 3 + F 2 * G 2 + F 3 * G 1 + F 4 * G 0 := by rw [e]; simp [zcv]
  rw [e0, e1, e2, e3, e4]
  unfold pN
  rw [Nat.add_mul, Nat.add_mul, Nat.add_mul, Nat.add_mul, zvd, zik, zik, zik, zik]
  omega
attribute [local irreducible] zdZ
def zje (V : Nat → Nat) (i : Nat) : Nat := if i = 0 then (19 * ovN V 5 + loN V 0) % 2251799813685248 else if i = 1 then loN V 1 + (19 * ovN V 5 + loN V 0) / 2251799813685248 else loN V i
theorem zve (V : Nat → Nat) : zbU (zje V) 5 + ovN V 5 * pN = zbU V 5 := by
 have h := zsI V
 rw [zbf] at h
 rw [zbf, ← h]
 unfold zje pN
 simp only [if_true, show (1 : Nat) ≠ 0 from by omega, show (2 : Nat) ≠ 0 from by omega, show (2 : Nat) ≠ 1 from by omega, show (3 : Nat) ≠ 0 from by omega, show (3 : Nat) ≠ 1 from by omega, show (4 : Nat) ≠ 0 from by omega, show (4 : Nat) ≠ 1 from by omega, if_false]
 omega
theorem zsL (V : Nat → Nat) (hV : ∀ i, i < 5 → V i < 10384593717069655257060992658440192) : ∀ m, m ≤ 5 → ovN V m < 9223372036854775808
 | 0, _ => by unfold ovN; omega
 | m + 1, h => by
  have := zsL V hV m (by omega)
  have := hV m (by omega)
  rw [zgQ]
  omega
theorem zsM (V : Nat → Nat) (hV : ∀ i, i < 5 → V i < 10384593717069655257060992658440192) (i : Nat) (_hi : i < 5) : zje V i < 9223372036854775808 := by
 have := zsL V hV 5 (by omega)
 have l : ∀ m, loN V m < 2251799813685248 := fun m => Nat.mod_lt _ (by omega)
 have := l 0
 have := l 1
 have := l i
 unfold zje
 split
 ·omega
 ·split <;> omega
theorem zwI (F G : Nat → Nat) (hF : ∀ i, i < 5 → F i < 4503599627370496) (hG : ∀ i, i < 5 → G i < 4503599627370496) (n c : Nat) (hn : n ≤ 25) : zdZ F G n c < 10384593717069655257060992658440192 := by
 have := zsK F G hF hG c n hn
 omega
def zbD (F G : Nat → Nat) (i : Nat) : Nat := zdj (zje (zdZ F G 25)) i
theorem zvf (F G : Nat → Nat) : zbU (zbD F G) 5 % pN = zbU F 5 * zbU G 5 % pN := by
 obtain ⟨q, hq⟩ := zx8 F G
 have h1 := zjb (zje (zdZ F G 25))
 have h2 := zve (zdZ F G 25)
 have e : zbU (zbD F G) 5 = zbU (zdj (zje (zdZ F G 25))) 5 := rfl
 rw [e, hq, ← h2, ← h1]
 rw [Nat.add_mul_mod_self_right, Nat.add_mul_mod_self_right, Nat.add_mul_mod_self_right]
theorem zeg (F G : Nat → Nat) (hF : okF F 5) (hG : okF G 5) : okF (zbD F G) 5 := fun i hi => by
 have := zdk (zje (zdZ F G 25)) (fun i hi => zsM _ (fun c hc => zwI F G hF hG 25 c (by omega)) i hi) i hi
 show zdj _ i < _
 omega
def zqX (i : Nat) : Nat := if i = 0 then 2251799813685229 else 2251799813685247
def zcN (F G : Nat → Nat) (i : Nat) : Nat := F i + (4 * zqX i - G i)
theorem zsN (F G : Nat → Nat) (hF : okF F 5) (i : Nat) (hi : i < 5) : zcN F G i < 9223372036854775808 := by
 have := hF i hi
 unfold zcN zqX
 split <;> omega
theorem zvg (F G : Nat → Nat) (hG : okF G 5) : zbU (zcN F G) 5 + zbU G 5 = zbU F 5 + 4 * pN := by
 rw [zbf, zbf, zbf]
 have := hG 0 (by omega); have := hG 1 (by omega); have := hG 2 (by omega); have := hG 3 (by omega); have := hG 4 (by omega)
 unfold zcN zqX pN
 simp only [if_true, show (1 : Nat) ≠ 0 from by omega, show (2 : Nat) ≠ 0 from by omega, show (3 : Nat) ≠ 0 from by omega, show (4 : Nat) ≠ 0 from by omega, if_false]
 omega
theorem zx9 (F G : Nat → Nat) (hG : okF G 5) : (zbU (zdj (zcN F G)) 5 + zbU G 5) % pN = zbU F 5 % pN := by
 have h1 := zjb (zcN F G)
 have h2 := zvg F G hG
 have e : zbU (zdj (zcN F G)) 5 + zbU G 5 + ovN (zcN F G) 5 * pN = zbU F 5 + 4 * pN := by omega
 rw [← Nat.add_mul_mod_self_right _ (ovN (zcN F G) 5), e, Nat.add_mul_mod_self_right]
theorem zya (F G : Nat → Nat) : zbU (zdj fun i => F i + G i) 5 % pN = (zbU F 5 + zbU G 5) % pN := by
 have h1 := zjb (fun i => F i + G i)
 have e : zbU (fun i => F i + G i) 5 = zbU F 5 + zbU G 5 := by rw [zbf, zbf, zbf]; omega
 rw [← e, ← h1, Nat.add_mul_mod_self_right]
theorem zwJ (F : Nat → Nat) (hF : ∀ i, i < 5 → F i < 9223372036854775808) : okF (zdj F) 5 := fun i hi => by
 have := zdk F hF i hi
 omega
end
section
open Go.RowKit
attribute [local irreducible] zdZ zef zbi
theorem zyb : zcw Tryz.prog 137 .u64 10 := by unfold zcw; kernel_rfl
theorem zyc : zeB Tryz.prog 137 10 := ⟨_, Tryz.underlying137, rfl, by kernel_rfl⟩
def zjZ (V : Nat → Nat) (i : Nat) : Nat := hlN (V (i / 2)) (i % 2)
theorem zoz (V : Nat → Nat) (c off j : Nat) (ho : off = c * 2) (hj : j < 2) : zjZ V (off + j) = hlN (V c) j := by
 unfold zjZ
 rw [show (off + j) / 2 = c from by omega, show (off + j) % 2 = j from by omega]
theorem zpE (F G : Nat → Nat) (n c off v : Nat) (ho : off = c * 2) (hc : (n / 5 + n % 5) % 5 = c) (hv : v = zdZ F G n c + F (n / 5) * (if 5 ≤ n / 5 + n % 5 then 19 * G (n % 5) else G (n % 5))) (i : Nat) :
  zcR (fun i => ((zjZ (zdZ F G n) i : Nat) : Int)) off 2 (fun j => ((hlN v j : Nat) : Int)) i = ((zjZ (zdZ F G (n + 1)) i : Nat) : Int) := by
 unfold zcR
 by_cases h : off ≤ i ∧ i < off + 2
 ·rw [if_pos h]
  unfold zjZ
  rw [show i / 2 = c from by omega, show i % 2 = i - off from by omega, zjd, hv]
  unfold zcv
  rw [if_pos hc]
 ·rw [if_neg h]
  unfold zjZ
  rw [zjd]
  unfold zcv
  rw [if_neg (by omega), Nat.add_zero]
theorem zsO (hi lo : Nat) (h : hi < 1125899906842624) (hl : lo < 18446744073709551616) : bits .or .u64 ((hi : Int) * 8192) ((lo : Int) / 2251799813685248) = ((hi * 8192 + lo / 2251799813685248 : Nat) : Int) := by
 have h1 := bits_or_u64_nat (hi * 8192) (lo / 2251799813685248) (by omega) (by omega)
 have e : hi * 8192 ||| lo / 2251799813685248 = hi * 8192 + lo / 2251799813685248 := by
  have := zsz (lo / 2251799813685248) hi 13 (by omega)
  rw [Nat.or_comm, show (8192 : Nat) = 2 ^ 13 from rfl, this, Nat.add_comm]
 rw [e] at h1
 rw [← h1]
 congr 1
theorem zjf (F G : Nat → Nat) (hF : okF F 5) (hG : okF G 5) (w : World) :
  Calls Tryz.prog 75 #[.agg (arr .u64 5 fun i => ((F i : Nat) : Int)), .agg (arr .u64 5 fun i => ((G i : Nat) : Int))] w fun e w' => e = .returned (.agg (arr .u64 5 fun k => ((zbD F G k : Nat) : Int))) ∧ Below w.heap.size w w' := by
 go_enter Tryz.func75, Tryz.ntmps75
 obtain ⟨h0, h1, h2, hsz, hb⟩ := zc7 w (.cells (arr .u64 5 fun i => ((F i : Nat) : Int)) 69) (.cells (arr .u64 5 fun i => ((G i : Nat) : Int)) 69) (.cells (arr .u64 5 fun _ => 0) 69)
 go_upto_region 1 with (refine zae rfl rfl zfV ?_)
 generalize ((w.alloc (.cells (arr .u64 5 fun i => ((F i : Nat) : Int)) 69)).alloc (.cells (arr .u64 5 fun i => ((G i : Nat) : Int)) 69)).alloc (.cells (arr .u64 5 fun _ => 0) 69) = wa at *
 (try simp only [Act.put, jA, jB, jC])
 obtain ⟨h3, hz3, bl⟩ := zb5 wa (.cells (arr .u64 10 fun _ => 0) 137)
 go_upto_region 2 with (refine zae rfl rfl zyb ?_)
 replace h0 := zaa bl (by omega) h0
 replace h1 := zaa bl (by omega) h1
 replace h2 := zaa bl (by omega) h2
 replace hb := hb.trans (bl.mono (by omega))
 rw [hsz] at h3 ⊢
 generalize wa.alloc (.cells (arr .u64 10 fun _ => 0) 137) = wb at *
 clear hz3 bl hsz
 (try simp only [Act.put, jA, jB, jC])
 go_wp2_with (refine zab rfl rfl rfl za8 h0 ?_)
 have hF' := Lib.hid hF
 have hG' := Lib.hid hG
 have al := Lib.hid (zwI F G hF hG)
 clear hF hG
 go_loopg [18] 5 (fun n i wr => ∃ m : Nat, m + n = 5 ∧ i = .int .i64 m ∧ wr.heap[w.heap.size + 1]? = some (.cells (arr .u64 5 fun i => ((G i : Nat) : Int)) 69 (0, 0)) ∧ wr.heap[w.heap.size + 1 + 1]? = some (.cells (arr .u64 5 fun _ => 0) 69 (0, 0)) ∧
  wr.heap[w.heap.size + 3]? = some (.cells (arr .u64 10 fun i => ((zjZ (zdZ F G (5 * m)) i : Nat) : Int)) 137 (0, 0)) ∧ Below w.heap.size w wr)
 case atStart => exact ⟨0, rfl, rfl, h1, h2, zaf h3 (fun i _ => by unfold zjZ hlN zdZ; split <;> rfl), hb⟩
 case round =>
  clear h0 h1 h2 h3 hb
  obtain ⟨m, hm, rfl, h1, h2, h3, hB⟩ := hrel
  obtain ⟨go1, rfl⟩ : ∃ x, x = gk := ⟨_, rfl⟩
  have hm' := Lib.hid hm
  clear hm
  by_cases hlt : m < 5
  ·go_wp2_with (first | (refine zaO rfl rfl Tryz.underlying69 Tryz.underlying67 rfl zi7 rfl rfl (by omega) (by omega) (by omega) ?_) | (refine zab rfl rfl rfl za8 h1 ?_))
   go_loopg [23] 5 (fun n i wr => ∃ j : Nat, j + n = 5 ∧ i = .int .i64 j ∧ wr.heap[w.heap.size + 1]? = some (.cells (arr .u64 5 fun i => ((G i : Nat) : Int)) 69 (0, 0)) ∧ wr.heap[w.heap.size + 1 + 1]? = some (.cells (arr .u64 5 fun _ => 0) 69 (0, 0)) ∧
    wr.heap[w.heap.size + 3]? = some (.cells (arr .u64 10 fun i => ((zjZ (zdZ F G (5 * m + j)) i : Nat) : Int)) 137 (0, 0)) ∧ Below w.heap.size w wr)
   case atStart => exact ⟨0, rfl, rfl, h1, h2, h3, hB⟩
   case round =>
    clear h1 h2 h3 hB
    obtain ⟨j, hj, rfl, h1, h2, h3, hB⟩ := hrel
    have hj' := Lib.hid hj
    clear hj
    by_cases hlj : j < 5
    ·have fb := hF'.out m hlt
     have gb := hG'.out j hlj
     by_cases hge : 5 ≤ m + j
     ·have vb := al.out (5 * m + j) (m + j - 5) (by omega)
      have pb : F m * (19 * G j) ≤ 4503599627370496 * (19 * 4503599627370496) := Nat.mul_le_mul (by omega) (by omega)
      go_wp2_with (first | (refine zaO rfl rfl Tryz.underlying69 Tryz.underlying67 rfl zi7 rfl rfl (by omega) (by omega) (by omega) ?_) | (refine zbu (off := (m + j - 5) * 2) (fun i => ((hlN (zdZ F G (5 * m + j) (m + j - 5)) i : Nat) : Int)) rfl rfl rfl zga h3 (by omega) (fun i hi => by rw [zoz _ (m + j - 5) _ i rfl hi]) ?_) | (go_at_call 103; fail))
      rw [show (19 * ((G j : Nat) : Int)) = ((19 * G j : Nat) : Int) from by omega]
      refine (zk1 (zdZ F G (5 * m + j) (m + j - 5)) (F m) (19 * G j) (by omega) (by omega) (by omega) _).mono ?_
      rintro e w4 ⟨rfl, b4⟩
      replace h1 := zaa b4 (jM h1) h1
      replace h2 := zaa b4 (jM h2) h2
      replace h3 := zaa b4 (jM h3) h3
      replace hB := hB.trans (b4.mono hB.size)
      clear b4
      go_wp2_with (refine zck rfl rfl rfl rfl zga h3 (by omega) ?_)
      go_roundg (gk - 1)
      case measure => have := hj'.out; omega
      case rel =>
       have hj'' := hj'.out
       have d1 : (5 * m + j) / 5 = m := by omega
       have d2 : (5 * m + j) % 5 = j := by omega
       exact ⟨j + 1, by omega, by go_num, zad h1 (by omega), zad h2 (by omega), zaf (zan h3) (fun i _ => zpE F G (5 * m + j) (m + j - 5) _ _ rfl (by rw [d1, d2]; omega) (by rw [d1, d2, if_pos hge]) i), zam hB (by omega) _⟩
     ·have vb := al.out (5 * m + j) (m + j) (by omega)
      have pb : F m * (G j) ≤ 4503599627370496 * (19 * 4503599627370496) := Nat.mul_le_mul (by omega) (by omega)
      go_wp2_with (first | (refine zaO rfl rfl Tryz.underlying69 Tryz.underlying67 rfl zi7 rfl rfl (by omega) (by omega) (by omega) ?_) | (refine zbu (off := (m + j) * 2) (fun i => ((hlN (zdZ F G (5 * m + j) (m + j)) i : Nat) : Int)) rfl rfl rfl zga h3 (by omega) (fun i hi => by rw [zoz _ (m + j) _ i rfl hi]) ?_) | (go_at_call 103; fail))
      refine (zk1 (zdZ F G (5 * m + j) (m + j)) (F m) (G j) (by omega) (by omega) (by omega) _).mono ?_
      rintro e w4 ⟨rfl, b4⟩
      replace h1 := zaa b4 (jM h1) h1
      replace h2 := zaa b4 (jM h2) h2
      replace h3 := zaa b4 (jM h3) h3
      replace hB := hB.trans (b4.mono hB.size)
      clear b4
      go_wp2_with (refine zck rfl rfl rfl rfl zga h3 (by omega) ?_)
      go_roundg (gk - 1)
      case measure => have := hj'.out; omega
      case rel =>
       have hj'' := hj'.out
       have d1 : (5 * m + j) / 5 = m := by omega
       have d2 : (5 * m + j) % 5 = j := by omega
       exact ⟨j + 1, by omega, by go_num, zad h1 (by omega), zad h2 (by omega), zaf (zan h3) (fun i _ => zpE F G (5 * m + j) (m + j) _ _ rfl (by rw [d1, d2]; omega) (by rw [d1, d2, if_neg hge]) i), zam hB (by omega) _⟩
    ·obtain rfl : j = 5 := by have := hj'.out; omega
     go_wp2
     go_roundg (go1 - 1)
     case measure => have := hm'.out; omega
     case rel =>
      have hm'' := hm'.out
      exact ⟨m + 1, by omega, by go_num, h1, h2, h3, hB⟩
  ·obtain rfl : m = 5 := by have := hm'.out; omega
   have vl : ∀ c, c < 5 → zdZ F G 25 c < 10384593717069655257060992658440192 := fun c _ => al.out 25 c (by omega)
   have h3' : wr.heap[w.heap.size + 3]? = some (.cells (arr .u64 10 fun i => ((zjZ (zdZ F G 25) i : Nat) : Int)) 137 (0, 0)) := h3
   have ob := zsL (zdZ F G 25) vl
   obtain ⟨V, hV⟩ : ∃ V, V = zdZ F G 25 := ⟨_, rfl⟩
   rw [← hV] at vl h3' ob
   have hV' := Lib.hid hV
   clear h3 al hm' hV
   go_wp2_with (refine zab rfl rfl rfl zyc h3' ?_)
   have vl' := Lib.hid vl
   have ob' := Lib.hid ob
   clear h3' vl ob h1
   go_loopg [11, 47] 5 (fun n o i wr => ∃ m : Nat, m + n = 5 ∧ i = .int .i64 m ∧ o = .int .u64 ((ovN V m : Nat) : Int) ∧ wr.heap[w.heap.size + 1 + 1]? = some (.cells (arr .u64 5 fun i => ((if i < m then loN V i else 0 : Nat) : Int)) 69 (0, 0)) ∧ Below w.heap.size w wr)
   case atStart => exact ⟨0, rfl, rfl, (by unfold ovN; rfl), zaf h2 (fun i _ => by rw [if_neg (Nat.not_lt_zero i)]; rfl), hB⟩
   case round =>
    clear h2 hB
    obtain ⟨m, hm, rfl, rfl, h2, hB⟩ := hrel
    have hm' := Lib.hid hm
    clear hm
    by_cases hlt : m < 5
    ·have vb := vl'.out m hlt
     have ob := ob'.out m (by omega)
     obtain ⟨ga, hza, bla⟩ := zb5 wr (.cells (arr .u64 2 fun _ => 0) 136)
     go_upto_region 18 with (first | (refine zfk rfl rfl Tryz.underlying137 zga rfl rfl (by omega) (by omega) (by omega) (fun i => ((hlN (V m) i : Nat) : Int)) (fun i hi => by rw [zoz V m _ i (by omega) hi]) ?_) | (refine zae rfl rfl zwH ?_) | (refine zac rfl rfl rfl rfl zga ga ?_))
     have q13 := zan (c' := arr .u64 2 fun i => ((hlN (V m) i : Nat) : Int)) ga
     have l2 := jM h2
     replace h2 := zad (g := wr.heap.size) (c' := arr .u64 2 fun i => ((hlN (V m) i : Nat) : Int)) (zaa bla l2 h2) (Nat.ne_of_lt l2)
     have lB := hB.size
     replace hB := zam (hB.trans (bla.mono hB.size)) hB.size (arr .u64 2 fun i => ((hlN (V m) i : Nat) : Int))
     clear ga hza bla
     generalize (wr.alloc (.cells (arr .u64 2 fun _ => 0) 136)).setRow wr.heap.size (arr .u64 2 fun i => ((hlN (V m) i : Nat) : Int)) = wq at *
     generalize wr.heap.size = BW at *
     (try simp only [Act.put, jA, jB, jC])
     go_wp2_with (first | (refine zab rfl rfl rfl zga q13 ?_) | (go_at_call 103; fail))
     refine (zk1 (V m) (ovN V m) 1 (by omega) (by omega) (by omega) _).mono ?_
     rintro e w4 ⟨rfl, b4⟩
     rw [Nat.mul_one]
     replace h2 := zaa b4 (jM h2) h2
     replace q13 := zaa b4 (jM q13) q13
     replace hB := hB.trans (b4.mono hB.size)
     clear b4
     go_upto_region 19 with (refine zac rfl rfl rfl rfl zga q13 ?_)
     replace h2 := zad (g := BW) (c' := arr .u64 2 fun i => ((hlN (V m + ovN V m) i : Nat) : Int)) h2 (Nat.ne_of_lt l2)
     replace hB := zam hB lB (arr .u64 2 fun i => ((hlN (V m + ovN V m) i : Nat) : Int))
     replace q13 := zan (c' := arr .u64 2 fun i => ((hlN (V m + ovN V m) i : Nat) : Int)) q13
     generalize w4.setRow BW (arr .u64 2 fun i => ((hlN (V m + ovN V m) i : Nat) : Int)) = w5 at *
     (try simp only [Act.put, jA, jB, jC])
     obtain ⟨hi, hhi⟩ : ∃ x, x = (V m + ovN V m) / 18446744073709551616 := ⟨_, rfl⟩
     obtain ⟨lo, hlo⟩ : ∃ x, x = (V m + ovN V m) % 18446744073709551616 := ⟨_, rfl⟩
     have c0 : w5.cell? ⟨BW, 0, none⟩ = some (.int .u64 (hi : Int)) := by rw [hhi]; exact zaj q13 0 (by omega)
     have c1 : w5.cell? ⟨BW, 1, none⟩ = some (.int .u64 (lo : Int)) := by rw [hlo]; exact zaj q13 1 (by omega)
     have am := zja lo (by omega)
     have hib : hi < 1125899906842624 := by omega
     have lob : lo < 18446744073709551616 := by omega
     have hhi' := Lib.hid hhi
     have hlo' := Lib.hid hlo
     clear hhi hlo vb
     have l13 := jM q13
     have c2 := zaj h2 m hlt
     have fz := zaH h2 m
     have orf := zsO hi lo hib lob
     obtain ⟨ov1, ho1⟩ : ∃ x, x = hi * 8192 + lo / 2251799813685248 := ⟨_, rfl⟩
     rw [← ho1] at orf
     have ho1' := Lib.hid ho1
     clear ho1
     go_region
     go_wp2
     go_roundg (gk - 1)
     case measure => have := hm'.out; omega
     case rel =>
      have hm'' := hm'.out
      have e1 := hhi'.out
      have e2 := hlo'.out
      have e3 := ho1'.out
      refine ⟨m + 1, by omega, by go_num, ?_, zaf (zaJ h2 m _) (fun i _ => ?_), (hB.setCell (by show w.heap.size ≤ w.heap.size + 1 + 1; omega) _).drew⟩
      ·rw [zgQ, e3, e1, e2]; congr 2; omega
      ·unfold upd
       by_cases h : i = m
       ·rw [if_pos h, h, if_pos (by omega)]
        unfold loN
        omega
       ·rw [if_neg h]
        dsimp only
        by_cases h2 : i < m
        ·rw [if_pos h2, if_pos (by omega)]
        ·rw [if_neg h2, if_neg (by omega)]
    ·obtain rfl : m = 5 := by have := hm'.out; omega
     have ob := ob'.out 5 (by omega)
     have fl := Lib.hid (zsM V vl'.out)
     replace h2 := zaf (f' := fun i => ((loN V i : Nat) : Int)) h2 (fun i hi => by rw [if_pos hi])
     have lb0 : loN V 0 < 2251799813685248 := Nat.mod_lt _ (by omega)
     have lb1 : loN V 1 < 2251799813685248 := Nat.mod_lt _ (by omega)
     obtain ⟨ov, hov⟩ : ∃ x, x = ovN V 5 := ⟨_, rfl⟩
     rw [← hov] at ob ⊢
     have hov' := Lib.hid hov
     clear hov
     go_wp2_with (go_at_call 104; fail)
     refine (znd ov 19 (by omega) (by omega) _).mono ?_
     rintro e w4 ⟨rfl, rfl⟩
     obtain ⟨mh, hmh⟩ : ∃ x, x = ov * 19 / 18446744073709551616 := ⟨_, rfl⟩
     obtain ⟨ml, hml⟩ : ∃ x, x = ov * 19 % 18446744073709551616 := ⟨_, rfl⟩
     obtain ⟨lz, hlz⟩ : ∃ x, x = loN V 0 := ⟨_, rfl⟩
     have c0 : wr.cell? ⟨w.heap.size + 1 + 1, 0, none⟩ = some (.int .u64 (lz : Int)) := by rw [hlz]; exact zaj h2 0 (by omega)
     have c1 := zaj h2 1 (by omega)
     have fz0 := zaH h2 0
     have fz1 := zaH h2 1
     rw [← hlz] at lb0
     rw [← hmh, ← hml]
     have ra := zne ml lz
     obtain ⟨al, hal⟩ : ∃ x, x = (ml + lz) % 18446744073709551616 := ⟨_, rfl⟩
     obtain ⟨ac, hac⟩ : ∃ x, x = (ml + lz) / 18446744073709551616 := ⟨_, rfl⟩
     rw [← hal, ← hac] at ra
     have am := zja al (by omega)
     have hs : mh + ac < 1125899906842624 := by omega
     have orf := zsO (mh + ac) al hs (by omega)
     rw [Int.natCast_add] at orf
     obtain ⟨rr, hrr⟩ : ∃ x, x = (mh + ac) * 8192 + al / 2251799813685248 := ⟨_, rfl⟩
     rw [← hrr] at orf
     have rb : rr < 1125899906842624 := by omega
     have alb : al < 18446744073709551616 := by omega
     have t0 : al % 2251799813685248 = (19 * ov + lz) % 2251799813685248 := by omega
     have t1 : rr = (19 * ov + lz) / 2251799813685248 := by omega
     have T0 := Lib.hid t0
     have T1 := Lib.hid t1
     have HLZ := Lib.hid hlz
     clear hlz hmh hml hal hac hrr t0 t1
     go_upto_region 25 with (fail)
     have k2 := zaf (f' := fun i => ((zje V i : Nat) : Int)) (zaJ (zaJ h2 0 (((al : Nat) : Int) % 2251799813685248)) 1 (((loN V 1 : Nat) : Int) + ((rr : Nat) : Int))) (fun i _ => by
      have e0 := T0.out
      have e1 := T1.out
      rw [HLZ.out, hov'.out] at e0 e1
      unfold upd zje
      by_cases h1 : i = 1
      ·rw [if_pos h1, if_neg (by omega), if_pos h1, e1]; omega
      ·rw [if_neg h1, if_neg h1]
       by_cases h0 : i = 0
       ·rw [if_pos h0, if_pos h0, ← e0]; omega
       ·rw [if_neg h0, if_neg h0])
     have lB : w.heap.size ≤ w.heap.size + 1 + 1 := by omega
     have hBk := (hB.setCell (p := ⟨w.heap.size + 1 + 1, 0, none⟩) lB (.int .u64 (((al : Nat) : Int) % 2251799813685248))).setCell (p := ⟨w.heap.size + 1 + 1, 1, none⟩) lB (.int .u64 (((loN V 1 : Nat) : Int) + ((rr : Nat) : Int)))
     clear c0 c1 fz0 fz1 h2 hB
     go_wp2_with (first | (refine zab rfl rfl rfl za8 k2 ?_) | (go_at_call 98; fail))
     refine (zfB (zje V) fl.out _).mono ?_
     rintro e w4 ⟨rfl, b4⟩
     have e2 := zaa b4 (jM k2) k2
     have hBe := hBk.trans (b4.mono hBk.size)
     go_wp2_with (refine zac rfl rfl rfl rfl za8 e2 ?_)
     refine bodyPost_ret (zau rfl rfl za8 (zan e2)) rfl ⟨?_, zam hBe (by omega) _⟩
     rw [hV'.out]
     rfl
end
section
open Go.RowKit
attribute [local irreducible] zdZ zef zbi zbD zdj zcN
def zqY (F G H : Nat → Nat) (i : Nat) : Nat := if okF F 5 ∧ okF G 5 then H i else 0
def mulN (F G : Nat → Nat) : Nat → Nat := zqY F G (zbD F G)
def zA0 (F G : Nat → Nat) : Nat → Nat := zqY F G (zdj (zcN F G))
theorem zgS {F G : Nat → Nat} (h : okF F 5 ∧ okF G 5) (H : Nat → Nat) : zqY F G H = H := by funext i; unfold zqY; rw [if_pos h]
theorem zpF {F G : Nat → Nat} (h : ¬ (okF F 5 ∧ okF G 5)) (H : Nat → Nat) : zqY F G H = fun _ => 0 := by funext i; unfold zqY; rw [if_neg h]
theorem zyd (F G : Nat → Nat) (hF : ∀ i, i < 5 → F i < 18446744073709551616) (hG : ∀ i, i < 5 → G i < 18446744073709551616) (w : World) :
  Calls Tryz.prog 70 #[.agg (arr .u64 5 fun i => ((F i : Nat) : Int)), .agg (arr .u64 5 fun i => ((G i : Nat) : Int))] w fun e w' => e = .returned (.tuple #[.agg (arr .u64 5 fun k => ((mulN F G k : Nat) : Int)), .int .i64 (if okF F 5 ∧ okF G 5 then 0 else 1)]) ∧ Below w.heap.size w w' := by
 go_enter Tryz.func70, Tryz.ntmps70
 obtain ⟨h0, h1, h2, hsz, hb⟩ := zc7 w (.cells (arr .u64 5 fun i => ((F i : Nat) : Int)) 69) (.cells (arr .u64 5 fun i => ((G i : Nat) : Int)) 69) (.cells (arr .u64 5 fun _ => 0) 69)
 go_upto_region 1 with (refine zae rfl rfl zfV ?_)
 generalize ((w.alloc (.cells (arr .u64 5 fun i => ((F i : Nat) : Int)) 69)).alloc (.cells (arr .u64 5 fun i => ((G i : Nat) : Int)) 69)).alloc (.cells (arr .u64 5 fun _ => 0) 69) = wa at *
 (try simp only [Act.put, jA, jB, jC])
 obtain ⟨g3, hz2, bl⟩ := zb5 wa (.cells (arr .u64 10 fun i => ((zbW F G i : Nat) : Int)) 69)
 rw [hsz] at g3
 go_wp2_with (first | (refine zab rfl rfl rfl za8 h0 ?_) | (refine zab rfl rfl rfl za8 h1 ?_) | (refine zcI rfl rfl Tryz.underlying131 (by simp [Act.eval, Act.put]) (zi9 F G) ?_) | (go_at_call 72; fail))
 refine (zhj 2 10 rfl (by omega) (zbW F G) (fun i hi => zow F G _ hF hG i hi) _ _ _ g3).mono ?_
 rintro e w2 ⟨rfl, b2⟩
 have b3 := bl.trans (b2.mono (by omega))
 have q0 := zaa b3 (by omega) h0
 have q1 := zaa b3 (by omega) h1
 have q2 := zaa b3 (by omega) h2
 have hB := hb.trans (b3.mono (by omega))
 clear b2 b3 bl g3 h0 h1 h2 hb hz2 hsz
 by_cases hq : okF F 5 ∧ okF G 5
 ·rw [show decide (okF (zbW F G) 10) = true from decide_eq_true ((zhk F G).2 hq)]
  have hq' := Lib.hid hq
  go_wp2_with (first | (refine zab rfl rfl rfl za8 q0 ?_) | (refine zab rfl rfl rfl za8 q1 ?_) | (go_at_call 75; fail))
  refine (zjf F G hq'.out.1 hq'.out.2 _).mono ?_
  rintro e w4 ⟨rfl, b4⟩
  have e2 := zaa b4 (jM q2) q2
  have hBe := hB.trans (b4.mono hB.size)
  go_wp2_with (refine zac rfl rfl rfl rfl za8 e2 ?_)
  refine bodyPost_ret (za2 rfl rfl rfl za8 (zan e2)) rfl ⟨?_, zam hBe (by omega) _⟩
  unfold mulN
  rw [zgS hq'.out]
  first | rfl | (rw [if_pos hq'.out]; rfl)
 ·rw [show decide (okF (zbW F G) 10) = false from decide_eq_false fun h => hq ((zhk F G).1 h)]
  go_wp2_with (first | (refine za5 rfl (zaI rfl (by simp [Act.eval, Act.put]) ze4) ?_) | (refine zac rfl rfl rfl rfl za8 q2 ?_))
  refine bodyPost_ret (za2 rfl rfl rfl za8 (zan q2)) rfl ⟨?_, zam hB (by omega) _⟩
  unfold mulN
  rw [zpF hq]
  first | rfl | (rw [if_neg hq]; rfl)
theorem znf (F G : Nat → Nat) (m : Nat) (h : G m < 4503599627370496) : ((F m : Nat) : Int) + (4 * ((zqX m : Nat) : Int) - ((G m : Nat) : Int)) = ((zcN F G m : Nat) : Int) := by
 unfold zcN zqX
 split <;> omega
theorem zye (F G : Nat → Nat) (hF : ∀ i, i < 5 → F i < 18446744073709551616) (hG : ∀ i, i < 5 → G i < 18446744073709551616) (w : World) :
  Calls Tryz.prog 69 #[.agg (arr .u64 5 fun i => ((F i : Nat) : Int)), .agg (arr .u64 5 fun i => ((G i : Nat) : Int))] w fun e w' => e = .returned (.tuple #[.agg (arr .u64 5 fun k => ((zA0 F G k : Nat) : Int)), .int .i64 (if okF F 5 ∧ okF G 5 then 0 else 1)]) ∧ Below w.heap.size w w' := by
 go_enter Tryz.func69, Tryz.ntmps69
 obtain ⟨h0, h1, h2, hsz, hb⟩ := zc7 w (.cells (arr .u64 5 fun i => ((F i : Nat) : Int)) 69) (.cells (arr .u64 5 fun i => ((G i : Nat) : Int)) 69) (.cells (arr .u64 5 fun _ => 0) 69)
 go_upto_region 1 with (refine zae rfl rfl zfV ?_)
 generalize ((w.alloc (.cells (arr .u64 5 fun i => ((F i : Nat) : Int)) 69)).alloc (.cells (arr .u64 5 fun i => ((G i : Nat) : Int)) 69)).alloc (.cells (arr .u64 5 fun _ => 0) 69) = wa at *
 (try simp only [Act.put, jA, jB, jC])
 obtain ⟨g3, hz2, bl⟩ := zb5 wa (.cells (arr .u64 10 fun i => ((zbW F G i : Nat) : Int)) 69)
 rw [hsz] at g3
 go_wp2_with (first | (refine zab rfl rfl rfl za8 h0 ?_) | (refine zab rfl rfl rfl za8 h1 ?_) | (refine zcI rfl rfl Tryz.underlying131 (by simp [Act.eval, Act.put]) (zi9 F G) ?_) | (go_at_call 72; fail))
 refine (zhj 2 10 rfl (by omega) (zbW F G) (fun i hi => zow F G _ hF hG i hi) _ _ _ g3).mono ?_
 rintro e w2 ⟨rfl, b2⟩
 have b3 := bl.trans (b2.mono (by omega))
 have q0 := zaa b3 (by omega) h0
 have q1 := zaa b3 (by omega) h1
 have q2 := zaa b3 (by omega) h2
 have hB := hb.trans (b3.mono (by omega))
 clear b2 b3 bl g3 h0 h1 h2 hb hz2 hsz
 by_cases hq : okF F 5 ∧ okF G 5
 ·rw [show decide (okF (zbW F G) 10) = true from decide_eq_true ((zhk F G).2 hq)]
  have hq' := Lib.hid hq
  go_wp2
  go_loopg [14] 5 (fun n i wr => ∃ m : Nat, m + n = 5 ∧ i = .int .i64 m ∧ wr.heap[w.heap.size]? = some (.cells (arr .u64 5 fun i => ((if i < m then zcN F G i else F i : Nat) : Int)) 69 (0, 0)) ∧
   wr.heap[w.heap.size + 1]? = some (.cells (arr .u64 5 fun i => ((G i : Nat) : Int)) 69 (0, 0)) ∧ wr.heap[w.heap.size + 1 + 1]? = some (.cells (arr .u64 5 fun _ => 0) 69 (0, 0)) ∧ Below w.heap.size w wr)
  case atStart => exact ⟨0, rfl, rfl, zaf q0 (fun i _ => by rw [if_neg (Nat.not_lt_zero i)]), q1, q2, hB⟩
  case round =>
   clear q0 q1 q2 hB
   obtain ⟨m, hm, rfl, q0, q1, q2, hB⟩ := hrel
   have hm' := Lib.hid hm
   clear hm
   by_cases hlt : m < 5
   ·have f1 := hq'.out.1 m hlt
    have f2 := hq'.out.2 m hlt
    have c0 := zaj q0 m hlt
    have c1 := zaj q1 m hlt
    have fz := zaH q0 m
    simp only [Nat.lt_irrefl, if_false] at c0
    have dc := znf F G m f2
    by_cases h0 : m = 0
    all_goals
     first | (have hm0 : ((m : Int) == 0) = true := by simp [h0]) | (have hm0 : ((m : Int) == 0) = false := by simp [h0])
     have H0 := Lib.hid h0
     clear h0 dc
     go_wp2
     refine zav 11 (by kernel_rfl) (by kernel_rfl) ?_
     (simp only [jH, jI, jF, jG])
     repeat (refine wpStill_step (fun K hK => ?_); go_simp; (try (simp only [↓IntWalk.iteOmega]; go_simp)); (try go_bits); refine hK _ ?_; clear hK K)
     refine wpStill_nil ?_
     go_wp2
     go_roundg (gk - 1)
     case measure => have := hm'.out; omega
     case rel =>
      have hm'' := hm'.out
      have h0 := H0.out
      have dc := znf F G m f2
      unfold zqX at dc
      first | rw [if_pos h0] at dc | rw [if_neg h0] at dc
      refine ⟨m + 1, by omega, by go_num, zaf (zaJ q0 m _) (fun i _ => ?_), zaq q1 _ _ (by omega), zaq q2 _ _ (by omega), (hB.setCell (jV _) _).drew⟩
      unfold upd
      by_cases h : i = m
      ·rw [if_pos h, h, if_pos (by omega), ← dc]; omega
      ·rw [if_neg h]
       dsimp only
       by_cases h2 : i < m
       ·rw [if_pos h2, if_pos (by omega)]
       ·rw [if_neg h2, if_neg (by omega)]
   ·obtain rfl : m = 5 := by have := hm'.out; omega
    have p0 := zaf (f' := fun i => ((zcN F G i : Nat) : Int)) q0 (fun i hi => by rw [if_pos hi])
    clear q0
    go_wp2_with (first | (refine zab rfl rfl rfl za8 p0 ?_) | (go_at_call 98; fail))
    refine (zfB (zcN F G) (fun i hi => zsN F G hq'.out.1 i hi) _).mono ?_
    rintro e w4 ⟨rfl, b4⟩
    have e2 := zaa b4 (jM q2) q2
    have hBe := hB.trans (b4.mono hB.size)
    go_wp2_with (refine zac rfl rfl rfl rfl za8 e2 ?_)
    refine bodyPost_ret (za2 rfl rfl rfl za8 (zan e2)) rfl ⟨?_, zam hBe (by omega) _⟩
    unfold zA0
    rw [zgS hq'.out]
    first | rfl | (rw [if_pos hq'.out]; rfl)
 ·rw [show decide (okF (zbW F G) 10) = false from decide_eq_false fun h => hq ((zhk F G).1 h)]
  go_wp2_with (first | (refine za5 rfl (zaI rfl (by simp [Act.eval, Act.put]) ze4) ?_) | (refine zac rfl rfl rfl rfl za8 q2 ?_))
  refine bodyPost_ret (za2 rfl rfl rfl za8 (zan q2)) rfl ⟨?_, zam hB (by omega) _⟩
  unfold zA0
  rw [zpF hq]
  first | rfl | (rw [if_neg hq]; rfl)
end
section
open Go.RowKit
attribute [local irreducible] zdZ zef zbi zbD zdj zcN
def sqN (F : Nat → Nat) : Nat → Nat → Nat
 | 0 => F
 | n + 1 => zbD (sqN F n) (sqN F n)
theorem zjg (F : Nat → Nat) (hF : okF F 5) : ∀ n, okF (sqN F n) 5
 | 0 => hF
 | n + 1 => zeg _ _ (zjg F hF n) (zjg F hF n)
theorem zpG (F : Nat → Nat) (n : Nat) : sqN F (n + 1) = zbD (sqN F n) (sqN F n) := rfl
attribute [local irreducible] sqN
theorem zfW (F : Nat → Nat) (hF : okF F 5) (N : Nat) (hN : N < 1000) (w : World) :
  Calls Tryz.prog 76 #[.agg (arr .u64 5 fun i => ((F i : Nat) : Int)), .int .i64 N] w fun e w' => e = .returned (.agg (arr .u64 5 fun k => ((sqN F N k : Nat) : Int))) ∧ Below w.heap.size w w' := by
 go_enter Tryz.func76, Tryz.ntmps76
 obtain ⟨h0, h1, hsz, hb⟩ := zb9 w (.cells (arr .u64 5 fun i => ((F i : Nat) : Int)) 69) (.cells (arr .u64 5 fun _ => 0) 69)
 go_upto_region 1 with (refine zae rfl rfl zfV ?_)
 generalize (w.alloc (.cells (arr .u64 5 fun i => ((F i : Nat) : Int)) 69)).alloc (.cells (arr .u64 5 fun _ => 0) 69) = wa at *
 (try simp only [Act.put, jA, jB, jC])
 simp only [World.size_alloc]
 have hF' := Lib.hid hF
 clear hF hsz
 go_wp2
 go_loopg [6] N (fun n i wr => ∃ m : Nat, m + n = N ∧ i = .int .i64 m ∧ wr.heap[w.heap.size]? = some (.cells (arr .u64 5 fun i => ((sqN F m i : Nat) : Int)) 69 (0, 0)) ∧
  wr.heap[w.heap.size + 1]? = some (.cells (arr .u64 5 fun _ => 0) 69 (0, 0)) ∧ Below w.heap.size w wr)
 case atStart => exact ⟨0, by omega, rfl, (by unfold sqN; exact h0), h1, hb⟩
 case round =>
  clear h0 h1 hb
  obtain ⟨m, hm, rfl, h0, h1, hB⟩ := hrel
  have hm' := Lib.hid hm
  clear hm
  by_cases hlt : m < N
  ·have ok := Lib.hid (zjg F hF'.out m)
   go_wp2_with (first | (refine zab rfl rfl rfl za8 h0 ?_) | (go_at_call 75; fail))
   refine (zjf (sqN F m) (sqN F m) ok.out ok.out _).mono ?_
   rintro e w4 ⟨rfl, b4⟩
   replace h0 := zaa b4 (jM h0) h0
   replace h1 := zaa b4 (jM h1) h1
   replace hB := hB.trans (b4.mono hB.size)
   clear b4
   go_wp2_with (refine zac rfl rfl rfl rfl za8 h0 ?_)
   go_roundg (gk - 1)
   case measure => have := hm'.out; omega
   case rel =>
    have hm'' := hm'.out
    exact ⟨m + 1, by omega, by go_num, (by rw [zpG]; exact zan h0), zad h1 (by omega), zam hB (jV _) _⟩
  ·obtain rfl : m = N := by have := hm'.out; omega
   go_wp2_with (first | (refine zab rfl rfl rfl za8 h0 ?_) | (refine zac rfl rfl rfl rfl za8 h1 ?_))
   exact bodyPost_ret (zau rfl rfl za8 (zan h1)) rfl ⟨rfl, zam hB (by omega) _⟩
def zex (X : Nat → Nat) (n : Nat) (Y : Nat → Nat) : Nat → Nat := zbD (sqN X n) Y
theorem ze5 (X Y : Nat → Nat) (n : Nat) (hX : okF X 5) (hY : okF Y 5) : okF (zex X n Y) 5 := zeg _ _ (zjg X hX n) hY
theorem zd0 (X Y : Nat → Nat) (hX : okF X 5) (hY : okF Y 5) (N : Nat) (hN : N < 1000) (w : World) :
  Calls Tryz.prog 74 #[.agg (arr .u64 5 fun i => ((X i : Nat) : Int)), .int .i64 N, .agg (arr .u64 5 fun i => ((Y i : Nat) : Int))] w fun e w' => e = .returned (.agg (arr .u64 5 fun k => ((zex X N Y k : Nat) : Int))) ∧ Below w.heap.size w w' := by
 go_enter Tryz.func74, Tryz.ntmps74
 obtain ⟨h0, h1, h2, hsz, hb⟩ := zc7 w (.cells (arr .u64 5 fun i => ((X i : Nat) : Int)) 69) (.cells (arr .u64 5 fun i => ((Y i : Nat) : Int)) 69) (.cells (arr .u64 5 fun _ => 0) 69)
 go_upto_region 1 with (refine zae rfl rfl zfV ?_)
 generalize ((w.alloc (.cells (arr .u64 5 fun i => ((X i : Nat) : Int)) 69)).alloc (.cells (arr .u64 5 fun i => ((Y i : Nat) : Int)) 69)).alloc (.cells (arr .u64 5 fun _ => 0) 69) = wa at *
 (try simp only [Act.put, jA, jB, jC])
 simp only [World.size_alloc]
 refine zcU 5 [Is (.agg (arr .u64 5 fun i => ((X i : Nat) : Int))), Is (.int .i64 N), Is (.agg (arr .u64 5 fun k => ((sqN X N k : Nat) : Int))), Is (.agg (arr .u64 5 fun i => ((Y i : Nat) : Int))), Is (.agg (arr .u64 5 fun k => ((zex X N Y k : Nat) : Int)))]
  [[], [], [0, 1], [], [2, 3]] (by kernel_rfl) (by kernel_rfl) rfl (zaG (zaF _) (zaG (zaF _) (zaG (zaF _) (zaG (zaF _) (zaG (zaF _) ziT))))) ?_ ?_
 ·(simp only [jH, jI, jF, jG, List.zip_cons_cons, List.zip_nil_left, List.zip_nil_right, zdN, zfx, zcB, zbx, zbO, jD, jE, List.range_succ, List.range_zero, List.nil_append, List.cons_append, Act.put, jA, jB, jC])
  refine ⟨?_, ?_, ?_, ?_, ?_, trivial⟩
  ·intro x0 x1 x2 x3 x4 w' hb'
   exact zbq rfl rfl rfl za8 (zaa hb' (jM (w := wa) h0) h0) rfl
  ·intro x0 x1 x2 x3 x4 w' hb'
   exact zgI rfl rfl rfl
  ·intro x0 x1 x2 x3 x4 w' hb' e0 e1
   unfold Is at e0 e1
   subst e0 e1
   refine zaP rfl (fun K hK => ?_)
   go_simp
   refine (zfW X hX N hN _).mono ?_
   rintro e w4 ⟨rfl, b4⟩
   exact hK _ _ b4 rfl
  ·intro x0 x1 x2 x3 x4 w' hb'
   exact zbq rfl rfl rfl za8 (zaa hb' (jM (w := wa) h1) h1) rfl
  ·intro x0 x1 x2 x3 x4 w' hb' e0 e1
   unfold Is at e0 e1
   subst e0 e1
   refine zaP rfl (fun K hK => ?_)
   go_simp
   refine (zjf _ Y (zjg X hX N) hY _).mono ?_
   rintro e w4 ⟨rfl, b4⟩
   exact hK _ _ b4 rfl
 ·(simp only [jH, jI, jF, jG, List.zip_cons_cons, List.zip_nil_left, List.zip_nil_right, zdN, zfx, zcB, zbx, zbO, jD, jE, List.range_succ, List.range_zero, List.nil_append, List.cons_append, Act.put, jA, jB, jC])
  intro x0 x1 x2 x3 x4 w' hb' e0 e1 e2 e3 e4
  unfold Is at e0 e1 e2 e3 e4
  subst e0 e1 e2 e3 e4
  replace h2 := zaa hb' (jM (w := wa) h2) h2
  have hB := (hb.drew).trans (hb'.mono hb.size)
  go_wp2_with (refine zac rfl rfl rfl rfl za8 h2 ?_)
  exact bodyPost_ret (zau rfl rfl za8 (zan h2)) rfl ⟨rfl, zam hB (by omega) _⟩
end
section
open Go.RowKit
attribute [local irreducible] zdZ zef zbi zbD zdj zcN sqN
def zsP (F H : Nat → Nat) (i : Nat) : Nat := if okF F 5 then H i else 0
theorem zng {F : Nat → Nat} (h : okF F 5) (H : Nat → Nat) : zsP F H = H := by funext i; unfold zsP; rw [if_pos h]
theorem zvh {F : Nat → Nat} (h : ¬ okF F 5) (H : Nat → Nat) : zsP F H = fun _ => 0 := by funext i; unfold zsP; rw [if_neg h]
def zjh (F : Nat → Nat) : Nat → Nat := sqN F 1
def zfD (F : Nat → Nat) : Nat → Nat := zex (zjh F) 2 F
def zcJ (F : Nat → Nat) : Nat → Nat := zbD (zfD F) (zjh F)
def zdK (F : Nat → Nat) : Nat → Nat := zbD (sqN (zcJ F) 1) (zfD F)
def zgT (F : Nat → Nat) : Nat → Nat := zex (zdK F) 5 (zdK F)
def zdm (F : Nat → Nat) : Nat → Nat := zex (zgT F) 10 (zgT F)
def zfE (F : Nat → Nat) : Nat → Nat := zex (zdm F) 20 (zdm F)
def zdn (F : Nat → Nat) : Nat → Nat := zex (zfE F) 10 (zgT F)
def zcD (F : Nat → Nat) : Nat → Nat := zex (zdn F) 50 (zdn F)
def ze6 (F : Nat → Nat) : Nat → Nat := zex (zcD F) 100 (zcD F)
def zeh (F : Nat → Nat) : Nat → Nat := zex (ze6 F) 50 (zdn F)
def zer (F : Nat → Nat) : Nat → Nat := zex (zeh F) 5 (zcJ F)
theorem zpH {F : Nat → Nat} (h : okF F 5) : okF (zjh F) 5 := zjg F h 1
theorem zk2 {F : Nat → Nat} (h : okF F 5) : okF (zfD F) 5 := ze5 _ _ _ (zpH h) h
theorem zfF {F : Nat → Nat} (h : okF F 5) : okF (zcJ F) 5 := zeg _ _ (zk2 h) (zpH h)
theorem zk3 {F : Nat → Nat} (h : okF F 5) : okF (zdK F) 5 := zeg _ _ (zjg _ (zfF h) 1) (zk2 h)
theorem zkh {F : Nat → Nat} (h : okF F 5) : okF (zgT F) 5 := ze5 _ _ _ (zk3 h) (zk3 h)
theorem zgU {F : Nat → Nat} (h : okF F 5) : okF (zdm F) 5 := ze5 _ _ _ (zkh h) (zkh h)
theorem zpI {F : Nat → Nat} (h : okF F 5) : okF (zfE F) 5 := ze5 _ _ _ (zgU h) (zgU h)
theorem zfX {F : Nat → Nat} (h : okF F 5) : okF (zdn F) 5 := ze5 _ _ _ (zpI h) (zkh h)
theorem zfY {F : Nat → Nat} (h : okF F 5) : okF (zcD F) 5 := ze5 _ _ _ (zfX h) (zfX h)
theorem znh {F : Nat → Nat} (h : okF F 5) : okF (ze6 F) 5 := ze5 _ _ _ (zfY h) (zfY h)
theorem zsQ {F : Nat → Nat} (h : okF F 5) : okF (zeh F) 5 := ze5 _ _ _ (znh h) (zfX h)
theorem zpJ {F : Nat → Nat} (h : okF F 5) : okF (zer F) 5 := ze5 _ _ _ (zsQ h) (zfF h)
attribute [local irreducible] zjh zfD zcJ zdK zgT zdm zfE zdn zcD ze6 zeh zex
def zwK (F : Nat → Nat) (n : Int) (w : World) (e : Ending) (w' : World) : Prop :=
 (if okF F 5 ∧ 0 ≤ n ∧ n ≤ 300 then e = .returned (.tuple #[.agg (arr .u64 5 fun k => ((sqN F n.toNat k : Nat) : Int)), .int .i64 0]) else e = .returned (.tuple #[.agg (arr .u64 5 fun _ => 0), .int .i64 1])) ∧ Below w.heap.size w w'
theorem zqZ (F : Nat → Nat) (hF : ∀ i, i < 5 → F i < 18446744073709551616) (n : Int) (hn : -9223372036854775808 ≤ n ∧ n < 9223372036854775808) (w : World) :
  Calls Tryz.prog 71 #[.agg (arr .u64 5 fun i => ((F i : Nat) : Int)), .int .i64 n] w (zwK F n w) := by
 go_enter Tryz.func71, Tryz.ntmps71
 obtain ⟨h0, h1, hsz, hb⟩ := zb9 w (.cells (arr .u64 5 fun i => ((F i : Nat) : Int)) 69) (.cells (arr .u64 5 fun _ => 0) 69)
 go_upto_region 1 with (refine zae rfl rfl zfV ?_)
 generalize (w.alloc (.cells (arr .u64 5 fun i => ((F i : Nat) : Int)) 69)).alloc (.cells (arr .u64 5 fun _ => 0) 69) = wa at *
 (try simp only [Act.put, jA, jB, jC])
 try simp only [World.size_alloc]
 obtain ⟨g3, hz2, bl⟩ := zb5 wa (.cells (arr .u64 5 fun i => ((F i : Nat) : Int)) 69)
 rw [hsz] at g3
 go_wp2_with (first | (refine zab rfl rfl rfl za8 h0 ?_) | (refine zcI rfl rfl Tryz.underlying131 (by simp [Act.eval, Act.put]) (zi8 fun i => ((F i : Nat) : Int)) ?_) | (go_at_call 72; fail))
 refine (zhj 1 5 rfl (by omega) F hF _ _ _ g3).mono ?_
 rintro e w2 ⟨rfl, b2⟩
 have b3 := bl.trans (b2.mono (by omega))
 replace h0 := zaa b3 (by omega) h0
 replace h1 := zaa b3 (by omega) h1
 replace hb := hb.trans (b3.mono (by omega))
 clear b2 b3 bl g3 hz2 hsz
 by_cases hq : okF F 5
 ·rw [show decide (okF F 5) = true from decide_eq_true hq]
  have hq' := Lib.hid hq
  by_cases h2 : n < 0
  ·go_wp2_with (first | (refine za5 rfl (zaI rfl (by simp [Act.eval, Act.put]) ze4) ?_) | (refine zac rfl rfl rfl rfl za8 h1 ?_))
   refine bodyPost_ret (za2 rfl rfl rfl za8 (zan h1)) rfl ⟨?_, zam hb (by omega) _⟩
   rw [if_neg (by omega)]; rfl
  ·by_cases h3 : 300 < n
   ·go_wp2_with (first | (refine za5 rfl (zaI rfl (by simp [Act.eval, Act.put]) ze4) ?_) | (refine zac rfl rfl rfl rfl za8 h1 ?_))
    refine bodyPost_ret (za2 rfl rfl rfl za8 (zan h1)) rfl ⟨?_, zam hb (by omega) _⟩
    rw [if_neg (by omega)]; rfl
   ·obtain ⟨m, rfl⟩ := Int.eq_ofNat_of_zero_le (show 0 ≤ n by omega)
    go_wp2_with (first | (refine zab rfl rfl rfl za8 h0 ?_) | (go_at_call 76; fail))
    refine (zfW F hq'.out m (by omega) _).mono ?_
    rintro e w4 ⟨rfl, b4⟩
    replace h1 := zaa b4 (jM h1) h1
    replace hb := hb.trans (b4.mono hb.size)
    go_wp2_with (refine zac rfl rfl rfl rfl za8 h1 ?_)
    refine bodyPost_ret (za2 rfl rfl rfl za8 (zan h1)) rfl ⟨?_, zam hb (by omega) _⟩
    rw [if_pos ⟨hq'.out, by omega, by omega⟩]; rfl
 ·rw [show decide (okF F 5) = false from decide_eq_false hq]
  go_wp2_with (first | (refine za5 rfl (zaI rfl (by simp [Act.eval, Act.put]) ze4) ?_) | (refine zac rfl rfl rfl rfl za8 h1 ?_))
  refine bodyPost_ret (za2 rfl rfl rfl za8 (zan h1)) rfl ⟨?_, zam hb (by omega) _⟩
  rw [if_neg (fun h => hq h.1)]; rfl
theorem zq0 (F : Nat → Nat) (hF : okF F 5) (n : Nat) (hn : n ≤ 300) (w : World) :
  Calls Tryz.prog 71 #[.agg (arr .u64 5 fun i => ((F i : Nat) : Int)), .int .i64 n] w fun e w' => e = .returned (.tuple #[.agg (arr .u64 5 fun k => ((sqN F n k : Nat) : Int)), .int .i64 0]) ∧ Below w.heap.size w w' :=
 (zqZ F (fun i hi => by have := hF i hi; omega) n (by omega) w).mono fun e w' h => by
  unfold zwK at h
  rw [if_pos ⟨hF, by omega, by omega⟩] at h
  exact h
theorem zq1 (F : Nat → Nat) (hF : ∀ i, i < 5 → F i < 18446744073709551616) (w : World) :
  Calls Tryz.prog 51 #[.agg (arr .u64 5 fun i => ((F i : Nat) : Int))] w fun e w' => e = .returned (.tuple #[.agg (arr .u64 5 fun k => ((zsP F (zer F) k : Nat) : Int)), .int .i64 (if okF F 5 then 0 else 1)]) ∧ Below w.heap.size w w' := by
 go_enter Tryz.func51, Tryz.ntmps51
 obtain ⟨h0, h1, hsz, hb⟩ := zb9 w (.cells (arr .u64 5 fun i => ((F i : Nat) : Int)) 69) (.cells (arr .u64 5 fun _ => 0) 69)
 go_upto_region 1 with (refine zae rfl rfl zfV ?_)
 generalize (w.alloc (.cells (arr .u64 5 fun i => ((F i : Nat) : Int)) 69)).alloc (.cells (arr .u64 5 fun _ => 0) 69) = wa at *
 (try simp only [Act.put, jA, jB, jC])
 try simp only [World.size_alloc]
 obtain ⟨g3, hz2, bl⟩ := zb5 wa (.cells (arr .u64 5 fun i => ((F i : Nat) : Int)) 69)
 rw [hsz] at g3
 go_wp2_with (first | (refine zab rfl rfl rfl za8 h0 ?_) | (refine zcI rfl rfl Tryz.underlying131 (by simp [Act.eval, Act.put]) (zi8 fun i => ((F i : Nat) : Int)) ?_) | (go_at_call 72; fail))
 refine (zhj 1 5 rfl (by omega) F hF _ _ _ g3).mono ?_
 rintro e w2 ⟨rfl, b2⟩
 have b3 := bl.trans (b2.mono (by omega))
 replace h0 := zaa b3 (by omega) h0
 replace h1 := zaa b3 (by omega) h1
 replace hb := hb.trans (b3.mono (by omega))
 clear b2 b3 bl g3 hz2 hsz
 by_cases hq : okF F 5
 ·rw [show decide (okF F 5) = true from decide_eq_true hq]
  have hq' := Lib.hid hq
  clear hq
  go_wp2_with (first | (refine zab rfl rfl rfl za8 h0 ?_) | (go_at_call 76; fail))
  refine (zfW F hq'.out 1 (by omega) _).mono ?_
  rintro e w4 ⟨rfl, b4⟩
  replace h0 := zaa b4 (jM h0) h0
  replace h1 := zaa b4 (jM h1) h1
  replace hb := hb.trans (b4.mono hb.size)
  clear b4
  rw [show (fun k => ((sqN F 1 k : Nat) : Int)) = fun k => ((zjh F k : Nat) : Int) from by unfold zjh; rfl]
  go_upto_region 5 with (refine zaw rfl rfl rfl rfl zfV za8 rfl rfl ?_; intro w8 g2 b8 hs8)
  have l0 := jM h1
  replace h0 := zaa b8 (jM h0) h0
  replace h1 := zaa b8 (jM h1) h1
  replace hb := hb.trans (b8.mono hb.size)
  clear b8 hs8
  obtain ⟨Bg2, hBg2⟩ : ∃ B, B = w4.heap.size := ⟨_, rfl⟩
  rw [← hBg2] at l0 g2 ⊢
  clear hBg2
  (try simp only [Act.put, jA, jB, jC])
  go_wp2_with (first | (refine zab rfl rfl rfl za8 g2 ?_) | (refine zab rfl rfl rfl za8 h0 ?_) | (go_at_call 74; fail))
  refine (zd0 (zjh F) F (zpH hq'.out) hq'.out 2 (by omega) _).mono ?_
  rintro e w4 ⟨rfl, b4⟩
  replace h0 := zaa b4 (jM h0) h0
  replace h1 := zaa b4 (jM h1) h1
  replace g2 := zaa b4 (jM g2) g2
  replace hb := hb.trans (b4.mono hb.size)
  clear b4
  rw [show (fun k => ((zex (zjh F) 2 F k : Nat) : Int)) = fun k => ((zfD F k : Nat) : Int) from by unfold zfD; rfl]
  go_upto_region 6 with (refine zaw rfl rfl rfl rfl zfV za8 rfl rfl ?_; intro w8 g9 b8 hs8)
  have l0 := jM h1
  replace h0 := zaa b8 (jM h0) h0
  replace h1 := zaa b8 (jM h1) h1
  replace g2 := zaa b8 (jM g2) g2
  replace hb := hb.trans (b8.mono hb.size)
  clear b8 hs8
  obtain ⟨Bg9, hBg9⟩ : ∃ B, B = w4.heap.size := ⟨_, rfl⟩
  rw [← hBg9] at l0 g9 ⊢
  clear hBg9
  (try simp only [Act.put, jA, jB, jC])
  go_wp2_with (first | (refine zab rfl rfl rfl za8 g9 ?_) | (refine zab rfl rfl rfl za8 g2 ?_) | (go_at_call 75; fail))
  refine (zjf (zfD F) (zjh F) (zk2 hq'.out) (zpH hq'.out) _).mono ?_
  rintro e w4 ⟨rfl, b4⟩
  replace h0 := zaa b4 (jM h0) h0
  replace h1 := zaa b4 (jM h1) h1
  replace g2 := zaa b4 (jM g2) g2
  replace g9 := zaa b4 (jM g9) g9
  replace hb := hb.trans (b4.mono hb.size)
  clear b4
  rw [show (fun k => ((zbD (zfD F) (zjh F) k : Nat) : Int)) = fun k => ((zcJ F k : Nat) : Int) from by unfold zcJ; rfl]
  go_upto_region 7 with (refine zaw rfl rfl rfl rfl zfV za8 rfl rfl ?_; intro w8 g11 b8 hs8)
  have l0 := jM h1
  replace h0 := zaa b8 (jM h0) h0
  replace h1 := zaa b8 (jM h1) h1
  replace g2 := zaa b8 (jM g2) g2
  replace g9 := zaa b8 (jM g9) g9
  replace hb := hb.trans (b8.mono hb.size)
  clear b8 hs8
  obtain ⟨Bg11, hBg11⟩ : ∃ B, B = w4.heap.size := ⟨_, rfl⟩
  rw [← hBg11] at l0 g11 ⊢
  clear hBg11
  (try simp only [Act.put, jA, jB, jC])
  clear h0 g2
  have ho := hb.size
  obtain ⟨wq, rfl⟩ : ∃ x, x = w8 := ⟨_, rfl⟩
  refine zcU 5 [Is (.agg (arr .u64 5 fun k => ((zcJ F k : Nat) : Int))), Is (.agg (arr .u64 5 fun k => ((sqN (zcJ F) 1 k : Nat) : Int))), Is (.agg (arr .u64 5 fun k => ((zfD F k : Nat) : Int))), Is (.agg (arr .u64 5 fun k => ((zdK F k : Nat) : Int))), ziU wq.heap.size (.cells (arr .u64 5 fun _ => 0) 69)] [[], [0], [], [1, 2], []] (by kernel_rfl) (by kernel_rfl) rfl (zaG (zaF _) (zaG (zaF _) (zaG (zaF _) (zaG (zaF _) (zaG (zcV _ _) ziT))))) ?_ ?_
  ·(simp only [jH, jI, jF, jG, List.zip_cons_cons, List.zip_nil_left, List.zip_nil_right, zdN, zfx, zcB, zbx, zbO, jD, jE, List.range_succ, List.range_zero, List.nil_append, List.cons_append, Act.put, jA, jB, jC])
   refine ⟨?_, ?_, ?_, ?_, ?_, trivial⟩
   ·intro x0 x1 x2 x3 x4 w' hb' 
    exact zbq rfl rfl rfl za8 (zaa hb' (jM (w := wq) g11) g11) rfl
   ·intro x0 x1 x2 x3 x4 w' hb' e0
    unfold Is at e0
    subst e0
    refine zaP rfl (fun K hK => ?_)
    go_simp
    refine (zfW (zcJ F) (zfF hq'.out) 1 (by omega) _).mono ?_
    rintro e w4 ⟨rfl, b4⟩
    exact hK _ _ b4 (by unfold Is; rfl)
   ·intro x0 x1 x2 x3 x4 w' hb' 
    exact zbq rfl rfl rfl za8 (zaa hb' (jM (w := wq) g9) g9) rfl
   ·intro x0 x1 x2 x3 x4 w' hb' e0 e1
    unfold Is at e0 e1
    subst e0 e1
    refine zaP rfl (fun K hK => ?_)
    go_simp
    refine (zjf (sqN (zcJ F) 1) (zfD F) (zjg _ (zfF hq'.out) 1) (zk2 hq'.out) _).mono ?_
    rintro e w4 ⟨rfl, b4⟩
    exact hK _ _ b4 (by unfold Is zdK; rfl)
   ·intro x0 x1 x2 x3 x4 w' hb' 
    exact zf8 rfl rfl zfV ⟨_, rfl, hb'.size, heap_alloc_new _ _⟩
  ·(simp only [jH, jI, jF, jG, List.zip_cons_cons, List.zip_nil_left, List.zip_nil_right, zdN, zfx, zcB, zbx, zbO, jD, jE, List.range_succ, List.range_zero, List.nil_append, List.cons_append, Act.put, jA, jB, jC])
   rintro x0 x1 x2 x3 x4 w5 hb' e0 e1 e2 e3 e4
   unfold Is at e0 e1 e2 e3
   subst e0 e1 e2 e3
   obtain ⟨Bg5, rfl, lB, g5⟩ := e4
   replace lB : wq.heap.size ≤ Bg5 := lB
   replace hb := (hb.drew).trans (hb'.mono hb.size)
   have l_h1 := jT (jM (w := wq) h1) lB
   replace h1 := zaa hb' (jM (w := wq) h1) h1
   have l_g9 := jT (jM (w := wq) g9) lB
   replace g9 := zaa hb' (jM (w := wq) g9) g9
   have l_g11 := jT (jM (w := wq) g11) lB
   replace g11 := zaa hb' (jM (w := wq) g11) g11
   go_upto_region 8 with (refine zac rfl rfl rfl rfl za8 g5 ?_)
   replace h1 := zad (g := Bg5) (c' := arr .u64 5 fun k => ((zdK F k : Nat) : Int)) h1 (Nat.ne_of_lt l_h1)
   replace g9 := zad (g := Bg5) (c' := arr .u64 5 fun k => ((zdK F k : Nat) : Int)) g9 (Nat.ne_of_lt l_g9)
   replace g11 := zad (g := Bg5) (c' := arr .u64 5 fun k => ((zdK F k : Nat) : Int)) g11 (Nat.ne_of_lt l_g11)
   replace g5 := zan (c' := arr .u64 5 fun k => ((zdK F k : Nat) : Int)) g5
   replace hb := zam (g := Bg5) hb (jU ho lB) (arr .u64 5 fun k => ((zdK F k : Nat) : Int))
   generalize w5.setRow Bg5 (arr .u64 5 fun k => ((zdK F k : Nat) : Int)) = w6 at *
   clear l_h1 l_g9 l_g11 lB ho hb'
   (try simp only [Act.put, jA, jB, jC])
   clear g9
   go_wp2_with (first | (refine zab rfl rfl rfl za8 g5 ?_) | (go_at_call 74; fail))
   refine (zd0 (zdK F) (zdK F) (zk3 hq'.out) (zk3 hq'.out) 5 (by omega) _).mono ?_
   rintro e w4 ⟨rfl, b4⟩
   replace h1 := zaa b4 (jM h1) h1
   replace g11 := zaa b4 (jM g11) g11
   replace g5 := zaa b4 (jM g5) g5
   replace hb := hb.trans (b4.mono hb.size)
   clear b4
   rw [show (fun k => ((zex (zdK F) 5 (zdK F) k : Nat) : Int)) = fun k => ((zgT F k : Nat) : Int) from by unfold zgT; rfl]
   go_upto_region 9 with (refine zaw rfl rfl rfl rfl zfV za8 rfl rfl ?_; intro w8 g10 b8 hs8)
   have l0 := jM h1
   replace h1 := zaa b8 (jM h1) h1
   replace g11 := zaa b8 (jM g11) g11
   replace g5 := zaa b8 (jM g5) g5
   replace hb := hb.trans (b8.mono hb.size)
   clear b8 hs8
   obtain ⟨Bg10, hBg10⟩ : ∃ B, B = w4.heap.size := ⟨_, rfl⟩
   rw [← hBg10] at l0 g10 ⊢
   clear hBg10
   (try simp only [Act.put, jA, jB, jC])
   clear g5
   go_wp2_with (first | (refine zab rfl rfl rfl za8 g10 ?_) | (go_at_call 74; fail))
   refine (zd0 (zgT F) (zgT F) (zkh hq'.out) (zkh hq'.out) 10 (by omega) _).mono ?_
   rintro e w4 ⟨rfl, b4⟩
   replace h1 := zaa b4 (jM h1) h1
   replace g11 := zaa b4 (jM g11) g11
   replace g10 := zaa b4 (jM g10) g10
   replace hb := hb.trans (b4.mono hb.size)
   clear b4
   rw [show (fun k => ((zex (zgT F) 10 (zgT F) k : Nat) : Int)) = fun k => ((zdm F k : Nat) : Int) from by unfold zdm; rfl]
   go_upto_region 10 with (refine zaw rfl rfl rfl rfl zfV za8 rfl rfl ?_; intro w8 g20 b8 hs8)
   have l0 := jM h1
   replace h1 := zaa b8 (jM h1) h1
   replace g11 := zaa b8 (jM g11) g11
   replace g10 := zaa b8 (jM g10) g10
   replace hb := hb.trans (b8.mono hb.size)
   clear b8 hs8
   obtain ⟨Bg20, hBg20⟩ : ∃ B, B = w4.heap.size := ⟨_, rfl⟩
   rw [← hBg20] at l0 g20 ⊢
   clear hBg20
   (try simp only [Act.put, jA, jB, jC])
   go_wp2_with (first | (refine zab rfl rfl rfl za8 g20 ?_) | (go_at_call 74; fail))
   refine (zd0 (zdm F) (zdm F) (zgU hq'.out) (zgU hq'.out) 20 (by omega) _).mono ?_
   rintro e w4 ⟨rfl, b4⟩
   replace h1 := zaa b4 (jM h1) h1
   replace g11 := zaa b4 (jM g11) g11
   replace g10 := zaa b4 (jM g10) g10
   replace g20 := zaa b4 (jM g20) g20
   replace hb := hb.trans (b4.mono hb.size)
   clear b4
   rw [show (fun k => ((zex (zdm F) 20 (zdm F) k : Nat) : Int)) = fun k => ((zfE F k : Nat) : Int) from by unfold zfE; rfl]
   go_upto_region 11 with (refine zaw rfl rfl rfl rfl zfV za8 rfl rfl ?_; intro w8 g40 b8 hs8)
   have l0 := jM h1
   replace h1 := zaa b8 (jM h1) h1
   replace g11 := zaa b8 (jM g11) g11
   replace g10 := zaa b8 (jM g10) g10
   replace g20 := zaa b8 (jM g20) g20
   replace hb := hb.trans (b8.mono hb.size)
   clear b8 hs8
   obtain ⟨Bg40, hBg40⟩ : ∃ B, B = w4.heap.size := ⟨_, rfl⟩
   rw [← hBg40] at l0 g40 ⊢
   clear hBg40
   (try simp only [Act.put, jA, jB, jC])
   clear g20
   go_wp2_with (first | (refine zab rfl rfl rfl za8 g10 ?_) | (refine zab rfl rfl rfl za8 g40 ?_) | (go_at_call 74; fail))
   refine (zd0 (zfE F) (zgT F) (zpI hq'.out) (zkh hq'.out) 10 (by omega) _).mono ?_
   rintro e w4 ⟨rfl, b4⟩
   replace h1 := zaa b4 (jM h1) h1
   replace g11 := zaa b4 (jM g11) g11
   replace g10 := zaa b4 (jM g10) g10
   replace g40 := zaa b4 (jM g40) g40
   replace hb := hb.trans (b4.mono hb.size)
   clear b4
   rw [show (fun k => ((zex (zfE F) 10 (zgT F) k : Nat) : Int)) = fun k => ((zdn F k : Nat) : Int) from by unfold zdn; rfl]
   go_upto_region 12 with (refine zaw rfl rfl rfl rfl zfV za8 rfl rfl ?_; intro w8 g50 b8 hs8)
   have l0 := jM h1
   replace h1 := zaa b8 (jM h1) h1
   replace g11 := zaa b8 (jM g11) g11
   replace g10 := zaa b8 (jM g10) g10
   replace g40 := zaa b8 (jM g40) g40
   replace hb := hb.trans (b8.mono hb.size)
   clear b8 hs8
   obtain ⟨Bg50, hBg50⟩ : ∃ B, B = w4.heap.size := ⟨_, rfl⟩
   rw [← hBg50] at l0 g50 ⊢
   clear hBg50
   (try simp only [Act.put, jA, jB, jC])
   clear g40 g10
   go_wp2_with (first | (refine zab rfl rfl rfl za8 g50 ?_) | (go_at_call 74; fail))
   refine (zd0 (zdn F) (zdn F) (zfX hq'.out) (zfX hq'.out) 50 (by omega) _).mono ?_
   rintro e w4 ⟨rfl, b4⟩
   replace h1 := zaa b4 (jM h1) h1
   replace g11 := zaa b4 (jM g11) g11
   replace g50 := zaa b4 (jM g50) g50
   replace hb := hb.trans (b4.mono hb.size)
   clear b4
   rw [show (fun k => ((zex (zdn F) 50 (zdn F) k : Nat) : Int)) = fun k => ((zcD F k : Nat) : Int) from by unfold zcD; rfl]
   go_upto_region 13 with (refine zaw rfl rfl rfl rfl zfV za8 rfl rfl ?_; intro w8 g100 b8 hs8)
   have l0 := jM h1
   replace h1 := zaa b8 (jM h1) h1
   replace g11 := zaa b8 (jM g11) g11
   replace g50 := zaa b8 (jM g50) g50
   replace hb := hb.trans (b8.mono hb.size)
   clear b8 hs8
   obtain ⟨Bg100, hBg100⟩ : ∃ B, B = w4.heap.size := ⟨_, rfl⟩
   rw [← hBg100] at l0 g100 ⊢
   clear hBg100
   (try simp only [Act.put, jA, jB, jC])
   have ho := hb.size
   obtain ⟨wq, rfl⟩ : ∃ x, x = w8 := ⟨_, rfl⟩
   refine zcU 8 [Is (.func (.func 74) #[] #[]), Is (.func (.func 74) #[] #[]), Is (.agg (arr .u64 5 fun k => ((zcD F k : Nat) : Int))), Is (.agg (arr .u64 5 fun k => ((zcD F k : Nat) : Int))), Is (.agg (arr .u64 5 fun k => ((ze6 F k : Nat) : Int))), Is (.agg (arr .u64 5 fun k => ((zdn F k : Nat) : Int))), Is (.agg (arr .u64 5 fun k => ((zeh F k : Nat) : Int))), ziU wq.heap.size (.cells (arr .u64 5 fun _ => 0) 69)] [[], [], [], [], [1, 2, 3], [], [0, 4, 5], []] (by kernel_rfl) (by kernel_rfl) rfl (zaG (zaF _) (zaG (zaF _) (zaG (zaF _) (zaG (zaF _) (zaG (zaF _) (zaG (zaF _) (zaG (zaF _) (zaG (zcV _ _) ziT)))))))) ?_ ?_
   ·(simp only [jH, jI, jF, jG, List.zip_cons_cons, List.zip_nil_left, List.zip_nil_right, zdN, zfx, zcB, zbx, zbO, jD, jE, List.range_succ, List.range_zero, List.nil_append, List.cons_append, Act.put, jA, jB, jC])
    refine ⟨?_, ?_, ?_, ?_, ?_, ?_, ?_, ?_, trivial⟩
    ·intro x0 x1 x2 x3 x4 x5 x6 x7 w' hb' 
     exact zgI rfl rfl rfl
    ·intro x0 x1 x2 x3 x4 x5 x6 x7 w' hb' 
     exact zgI rfl rfl rfl
    ·intro x0 x1 x2 x3 x4 x5 x6 x7 w' hb' 
     exact zbq rfl rfl rfl za8 (zaa hb' (jM (w := wq) g100) g100) rfl
    ·intro x0 x1 x2 x3 x4 x5 x6 x7 w' hb' 
     exact zbq rfl rfl rfl za8 (zaa hb' (jM (w := wq) g100) g100) rfl
    ·intro x0 x1 x2 x3 x4 x5 x6 x7 w' hb' e0 e1 e2
     unfold Is at e0 e1 e2
     subst e0 e1 e2
     refine zaP rfl (fun K hK => ?_)
     go_simp
     refine (zd0 (zcD F) (zcD F) (zfY hq'.out) (zfY hq'.out) 100 (by omega) _).mono ?_
     rintro e w4 ⟨rfl, b4⟩
     exact hK _ _ b4 (by unfold Is ze6; rfl)
    ·intro x0 x1 x2 x3 x4 x5 x6 x7 w' hb' 
     exact zbq rfl rfl rfl za8 (zaa hb' (jM (w := wq) g50) g50) rfl
    ·intro x0 x1 x2 x3 x4 x5 x6 x7 w' hb' e0 e1 e2
     unfold Is at e0 e1 e2
     subst e0 e1 e2
     refine zaP rfl (fun K hK => ?_)
     go_simp
     refine (zd0 (ze6 F) (zdn F) (znh hq'.out) (zfX hq'.out) 50 (by omega) _).mono ?_
     rintro e w4 ⟨rfl, b4⟩
     exact hK _ _ b4 (by unfold Is zeh; rfl)
    ·intro x0 x1 x2 x3 x4 x5 x6 x7 w' hb' 
     exact zf8 rfl rfl zfV ⟨_, rfl, hb'.size, heap_alloc_new _ _⟩
   ·(simp only [jH, jI, jF, jG, List.zip_cons_cons, List.zip_nil_left, List.zip_nil_right, zdN, zfx, zcB, zbx, zbO, jD, jE, List.range_succ, List.range_zero, List.nil_append, List.cons_append, Act.put, jA, jB, jC])
    rintro x0 x1 x2 x3 x4 x5 x6 x7 w5 hb' e0 e1 e2 e3 e4 e5 e6 e7
    unfold Is at e0 e1 e2 e3 e4 e5 e6
    subst e0 e1 e2 e3 e4 e5 e6
    obtain ⟨Bgm, rfl, lB, gm⟩ := e7
    replace lB : wq.heap.size ≤ Bgm := lB
    replace hb := (hb.drew).trans (hb'.mono hb.size)
    have l_h1 := jT (jM (w := wq) h1) lB
    replace h1 := zaa hb' (jM (w := wq) h1) h1
    have l_g11 := jT (jM (w := wq) g11) lB
    replace g11 := zaa hb' (jM (w := wq) g11) g11
    have l_g50 := jT (jM (w := wq) g50) lB
    replace g50 := zaa hb' (jM (w := wq) g50) g50
    have l_g100 := jT (jM (w := wq) g100) lB
    replace g100 := zaa hb' (jM (w := wq) g100) g100
    go_upto_region 14 with (refine zac rfl rfl rfl rfl za8 gm ?_)
    replace h1 := zad (g := Bgm) (c' := arr .u64 5 fun k => ((zeh F k : Nat) : Int)) h1 (Nat.ne_of_lt l_h1)
    replace g11 := zad (g := Bgm) (c' := arr .u64 5 fun k => ((zeh F k : Nat) : Int)) g11 (Nat.ne_of_lt l_g11)
    replace g50 := zad (g := Bgm) (c' := arr .u64 5 fun k => ((zeh F k : Nat) : Int)) g50 (Nat.ne_of_lt l_g50)
    replace g100 := zad (g := Bgm) (c' := arr .u64 5 fun k => ((zeh F k : Nat) : Int)) g100 (Nat.ne_of_lt l_g100)
    replace gm := zan (c' := arr .u64 5 fun k => ((zeh F k : Nat) : Int)) gm
    replace hb := zam (g := Bgm) hb (jU ho lB) (arr .u64 5 fun k => ((zeh F k : Nat) : Int))
    generalize w5.setRow Bgm (arr .u64 5 fun k => ((zeh F k : Nat) : Int)) = w6 at *
    clear l_h1 l_g11 l_g50 l_g100 lB ho hb'
    (try simp only [Act.put, jA, jB, jC])
    clear g50 g100
    go_wp2_with (first | (refine zab rfl rfl rfl za8 g11 ?_) | (refine zab rfl rfl rfl za8 gm ?_) | (go_at_call 74; fail))
    refine (zd0 (zeh F) (zcJ F) (zsQ hq'.out) (zfF hq'.out) 5 (by omega) _).mono ?_
    rintro e w4 ⟨rfl, b4⟩
    replace h1 := zaa b4 (jM h1) h1
    replace g11 := zaa b4 (jM g11) g11
    replace gm := zaa b4 (jM gm) gm
    replace hb := hb.trans (b4.mono hb.size)
    clear b4
    rw [show (fun k => ((zex (zeh F) 5 (zcJ F) k : Nat) : Int)) = fun k => ((zer F k : Nat) : Int) from by unfold zer; rfl]
    go_wp2_with (refine zac rfl rfl rfl rfl za8 h1 ?_)
    refine bodyPost_ret (za2 rfl rfl rfl za8 (zan h1)) rfl ⟨?_, zam hb (by omega) _⟩
    rw [zng hq'.out]
    first | rfl | (rw [if_pos hq'.out]; rfl)
 ·rw [show decide (okF F 5) = false from decide_eq_false hq]
  go_wp2_with (first | (refine za5 rfl (zaI rfl (by simp [Act.eval, Act.put]) ze4) ?_) | (refine zac rfl rfl rfl rfl za8 h1 ?_))
  refine bodyPost_ret (za2 rfl rfl rfl za8 (zan h1)) rfl ⟨?_, zam hb (by omega) _⟩
  rw [zvh hq]
  first | rfl | (rw [if_neg hq]; rfl)
end
section
open Go.RowKit
def k0 (i : Nat) : Nat := if i = 0 then 236 else if i = 31 then 127 else 255
def k1 (i : Nat) : Nat := if i = 0 then 235 else if i = 31 then 127 else 255
def f0 (i : Nat) : Nat := if i = 0 then 2251799813685228 else 2251799813685247
def f1 (i : Nat) : Nat := if i = 0 then 2251799813685227 else 2251799813685247
attribute [local irreducible] zef zbU zbi zbY addN zdj ofN kvN k0 k1 f0 f1
end
section
open Go.RowKit
theorem zsR (F : Nat → Nat) (hF : okF F 5) (k : Nat) : zbY F k = zbi (zbU (zef F) 5) k := by unfold zbY; rw [if_pos hF]
def zhb (k : Nat → Nat) (i : Nat) : Nat := if i = 31 then k 31 % 128 else k i
theorem zsS (k : Nat → Nat) : okF (ofN k) 5 := fun i _ => by have : ofN k i < 2251799813685248 := Nat.mod_lt _ (by omega); omega
end
section
open Go.RowKit
attribute [local irreducible] zdZ zbi zbD zdj zcN sqN
def zb1 (X : Nat → Nat) (v : Nat) : Prop := okF X 5 ∧ zbU X 5 % pN = v % pN
def zh5 (F G : Nat → Nat) : Nat → Nat := zdj fun i => F i + G i
def zh6 (F G : Nat → Nat) : Nat → Nat := zdj (zcN F G)
theorem zki {F G : Nat → Nat} (hF : okF F 5) (hG : okF G 5) : okF (zh5 F G) 5 := zwJ _ fun i hi => by have := hF i hi; have := hG i hi; show F i + G i < _; omega
theorem zji {F G : Nat → Nat} (hF : okF F 5) : okF (zh6 F G) 5 := zwJ _ fun i hi => zsN F G hF i hi
theorem zvi {F G : Nat → Nat} {a b : Nat} (hF : zb1 F a) (hG : zb1 G b) : zb1 (zh5 F G) (a + b) :=
 ⟨zki hF.1 hG.1, by unfold zh5; rw [zya, Nat.add_mod, hF.2, hG.2, ← Nat.add_mod]⟩
theorem zjj {F G : Nat → Nat} {a b : Nat} (hF : zb1 F a) (hG : zb1 G b) : zb1 (zbD F G) (a * b) :=
 ⟨zeg F G hF.1 hG.1, by rw [zvf, Nat.mul_mod, hF.2, hG.2, ← Nat.mul_mod]⟩
theorem zvj {F G : Nat → Nat} {a b c : Nat} (hF : zb1 F a) (hG : zb1 G b) (h : (c + b) % pN = a % pN) : zb1 (zh6 F G) c := by
 refine ⟨zji hF.1, ?_⟩
 have h1 := zx9 F G hG.1
 have e : zbU (zh6 F G) 5 = zbU (zdj (zcN F G)) 5 := rfl
 rw [e]
 generalize zbU (zdj (zcN F G)) 5 = x at *
 have h2 : (x + b) % pN = (c + b) % pN := by
  rw [h, ← hF.2, ← h1, Nat.add_mod, ← hG.2, ← Nat.add_mod]
 generalize hp : pN = p at h2 ⊢
 have hp0 : 0 < p := by rw [← hp]; unfold pN; omega
 clear h1 e h hF hG
 have h3 : (x + b + (p - b % p)) % p = (c + b + (p - b % p)) % p := by rw [Nat.add_mod, h2, ← Nat.add_mod]
 have e1 : ∀ y, (y + b + (p - b % p)) % p = y % p := by
  intro y
  have hb := Nat.div_add_mod b p
  have hl := Nat.mod_lt b hp0
  have : y + b + (p - b % p) = y + p * (b / p + 1) := by rw [Nat.mul_add]; omega
  rw [this, Nat.add_mul_mod_self_left]
 rwa [e1, e1] at h3
theorem zk4 {F : Nat → Nat} {a : Nat} (hF : zb1 F a) : ∀ n, zb1 (sqN F n) (a ^ 2 ^ n)
 | 0 => by unfold sqN; simpa using hF
 | n + 1 => by
  rw [zpG, Nat.pow_succ, Nat.mul_two, Nat.pow_add]
  exact zjj (zk4 hF n) (zk4 hF n)
def zch (x : Nat) (i : Nat) : Nat := if i = 0 then x else 0
theorem zwL {x : Nat} (h : x < 4503599627370496) : okF (zch x) 5 := fun i _ => by unfold zch; split <;> omega
theorem zyf (x : Nat) : zbU (zch x) 5 = x := by rw [zbf]; unfold zch; simp
theorem ze7 {x : Nat} (h : x < 4503599627370496) : zb1 (zch x) x := ⟨zwL h, by rw [zyf]⟩
theorem zjk (x : Nat) : Tryz.prog.built 69 [(0, .int .u64 (x : Int))] = some (arr .u64 5 fun i => ((zch x i : Nat) : Int)) := by kernel_rfl
theorem zni : Tryz.prog.built 69 [] = some (arr .u64 5 fun i => ((zch 0 i : Nat) : Int)) := by kernel_rfl
attribute [local irreducible] zh5 zh6 zch zbU
theorem zhF {F : Nat → Nat} (hF : okF F 5) (i : Nat) (hi : i < 5) : F i < 18446744073709551616 := by have := hF i hi; omega
theorem zyg (F G : Nat → Nat) (hF : okF F 5) (hG : okF G 5) (w : World) : Calls Tryz.prog 68 #[.agg (arr .u64 5 fun i => ((F i : Nat) : Int)), .agg (arr .u64 5 fun i => ((G i : Nat) : Int))] w fun e w' => e = .returned (.tuple #[.agg (arr .u64 5 fun k => ((zh5 F G k : Nat) : Int)), .int .i64 0]) ∧ Below w.heap.size w w' :=
 (zx4 F G (zhF hF) (zhF hG) w).mono fun e w' h => by
  rw [if_pos ⟨hF, hG⟩] at h
  rw [show (arr .u64 5 fun k => ((zh5 F G k : Nat) : Int)) = arr .u64 5 fun k => ((addN F G k : Nat) : Int) from zcc fun k _ => by unfold addN zh5; rw [if_pos ⟨hF, hG⟩]]
  exact h
theorem zyh (F G : Nat → Nat) (hF : okF F 5) (hG : okF G 5) (w : World) : Calls Tryz.prog 70 #[.agg (arr .u64 5 fun i => ((F i : Nat) : Int)), .agg (arr .u64 5 fun i => ((G i : Nat) : Int))] w fun e w' => e = .returned (.tuple #[.agg (arr .u64 5 fun k => ((zbD F G k : Nat) : Int)), .int .i64 0]) ∧ Below w.heap.size w w' :=
 (zyd F G (zhF hF) (zhF hG) w).mono fun e w' h => by
  rw [if_pos ⟨hF, hG⟩] at h
  unfold mulN at h
  rw [zgS ⟨hF, hG⟩] at h
  exact h
theorem zyi (F G : Nat → Nat) (hF : okF F 5) (hG : okF G 5) (w : World) : Calls Tryz.prog 69 #[.agg (arr .u64 5 fun i => ((F i : Nat) : Int)), .agg (arr .u64 5 fun i => ((G i : Nat) : Int))] w fun e w' => e = .returned (.tuple #[.agg (arr .u64 5 fun k => ((zh6 F G k : Nat) : Int)), .int .i64 0]) ∧ Below w.heap.size w w' :=
 (zye F G (zhF hF) (zhF hG) w).mono fun e w' h => by
  rw [if_pos ⟨hF, hG⟩] at h
  unfold zA0 at h
  rw [zgS ⟨hF, hG⟩] at h
  rw [show (fun k => ((zh6 F G k : Nat) : Int)) = fun k => ((zdj (zcN F G) k : Nat) : Int) from by unfold zh6; rfl]
  exact h
theorem zkj (F : Nat → Nat) (hF : okF F 5) (w : World) : Calls Tryz.prog 51 #[.agg (arr .u64 5 fun i => ((F i : Nat) : Int))] w fun e w' => e = .returned (.tuple #[.agg (arr .u64 5 fun k => ((zer F k : Nat) : Int)), .int .i64 0]) ∧ Below w.heap.size w w' :=
 (zq1 F (zhF hF) w).mono fun e w' h => by
  rw [if_pos hF, zng hF] at h
  exact h
end
section
open Go.RowKit
def zc4 (o : Oper) : Bool := match o.op with | .alloc _ => true | _ => false
def zpK (v : Value) (w : World) : Prop := ∃ B, v = .pointer (some ⟨B, 0, none⟩) ∧ B < w.heap.size
theorem zpK.below {v : Value} {w w' : World} (h : zpK v w) (hb : Below w.heap.size w w') : zpK v w' := by
 obtain ⟨B, rfl, hB⟩ := h
 exact ⟨B, rfl, jT hB hb.size⟩
def zjm (w : World) : Addr := ⟨w.heap.size, 0, none⟩
def zfG (P : Program) (ops : Array Oper) (Q : Exit → Act → World → Prop) (o : Oper) (r : zfn) (a : Act) (w : World) : Prop :=
 match o.op with
 | .alloc _ => Region.wanted o (yielded ops a.tmps) = true ∧ (∃ b, (execOp a.eval o).run P w = .ok (.value (.pointer (some (zjm w)))) (w.alloc b) ∧ r (.pointer (some (zjm w))) (w.alloc b))
 | _ => zbX P ops Q o r a w
def zd1 (P : Program) (ops : Array Oper) (Q : Exit → Act → World → Prop) (n : Nat) (hd : List Oper) (a : Act) (w0 : World) (R : List zfn) : List (Oper × zfn × List Nat) → Prop
 | [] => True
 | (o, r, js) :: l => (zfx n fun xs => ∀ w', Below w0.heap.size w0 w' → zcB R xs w' js (zfG P ops Q o r (zbO hd a xs) w')) ∧ zd1 P ops Q n hd a w0 R l
def zbo (xs : List Value) (i j : Nat) : Prop := match xs[i]?, xs[j]? with | some x, some y => x ≠ y | _, _ => True
def zdv (xs : List Value) : List (Nat × Nat) → Prop → Prop
 | [], p => p
 | d :: ds, p => zbo xs d.1 d.2 → zdv xs ds p
theorem zjn {xs : List Value} {p : Prop} : ∀ (ds : List (Nat × Nat)), zdv xs ds p → (∀ d ∈ ds, zbo xs d.1 d.2) → p
 | [], h, _ => h
 | d :: ds, h, hd => zjn ds (h (hd d (by simp))) (fun k hk => hd k (by simp [hk]))
def zsT (l : List Oper) (n : Nat) (D : List (Nat × Nat)) : Bool :=
 D.all fun d => decide (d.1 < d.2) && decide (d.2 < n) && (match l[d.1]? with | some o => zc4 o | none => false) && (match l[d.2]? with | some o => zc4 o | none => false)
section
variable {P : Program} {Q : Exit → Act → World → Prop} {l : List Oper} {n : Nat} {a : Act} {w0 : World}
theorem zhG {R : List zfn} {hd : List Oper} : ∀ (items : List (Oper × zfn × List Nat)), zd1 P l.toArray Q n hd a w0 R items → ∀ (i : Nat) (o : Oper) (r : zfn) (js : List Nat), items[i]? = some (o, r, js) →
  zfx n fun xs => ∀ w', Below w0.heap.size w0 w' → zcB R xs w' js (zfG P l.toArray Q o r (zbO hd a xs) w')
 | [], _, _, _, _, _, h => by simp at h
 | (o', r', js') :: items, h, 0, o, r, js, hi => by
  simp only [jD, Option.some.injEq, Prod.mk.injEq] at hi
  obtain ⟨rfl, rfl, rfl⟩ := hi
  exact h.1
 | (o', r', js') :: items, h, i + 1, o, r, js, hi => zhG items h.2 i o r js (by simpa using hi)
theorem zq2 {o : Oper} (h : zc4 o = true) : ∃ ty, o.op = .alloc ty := by
 unfold zc4 at h
 split at h
 ·rename_i ty he
  exact ⟨ty, he⟩
 ·cases h
structure ApInv (l : List Oper) (n : Nat) (listed : Array Bool) (xs : List Value) (w : World) : Prop where
 inh : ∀ k o, k < n → l[k]? = some o → zc4 o = true → listed.getD k true = true → ∀ x, xs[k]? = some x → zpK x w
 ap : ∀ i j o o', i < n → j < n → l[i]? = some o → l[j]? = some o' → zc4 o = true → zc4 o' = true → listed.getD i true = true → listed.getD j true = true → i ≠ j → zbo xs i j
theorem zz6 {D : List (Nat × Nat)} {listed : Array Bool} {xs : List Value} {w : World} (hD : zsT l n D = true) (h : ApInv l n listed xs w) (hl : ∀ i, i < n → listed.getD i true = true) : ∀ d ∈ D, zbo xs d.1 d.2 := by
 intro d hd
 unfold zsT at hD
 rw [List.all_eq_true] at hD
 have h1 := hD d hd
 simp only [Bool.and_eq_true, jS] at h1
 obtain ⟨⟨⟨h2, h3⟩, h4⟩, h5⟩ := h1
 split at h4
 ·rename_i o ho
  split at h5
  ·rename_i o' ho'
   exact h.ap d.1 d.2 o o' (by omega) h3 ho ho' h4 h5 (hl _ (by omega)) (hl _ h3) (by omega)
  ·cases h5
 ·cases h4
theorem zkk {xs : List Value} {i j : Nat} (h : zbo xs i j) : zbo xs j i := by
 unfold zbo at *
 split
 ·rename_i x y hx hy
  rw [hx, hy] at h
  exact Ne.symm h
 ·trivial
theorem zz7 {listed : Array Bool} {xs : List Value} {w w2 : World} {j : Nat} {oj : Oper} {v : Value} (h : ApInv l n listed xs w) (hoj : l[j]? = some oj) (hx : xs.length = n) (hj : j < n) (hjl : listed.getD j true = false) (hb : Below w.heap.size w w2)
  (hal : zc4 oj = true → v = .pointer (some (zjm w)) ∧ w.heap.size < w2.heap.size) : ApInv l n (listed.setIfInBounds j true) (xs.set j v) w2 := by
 have key : ∀ k o', k < n → l[k]? = some o' → zc4 o' = true → listed.getD k true = true → k ≠ j → zc4 oj = true → zbo (xs.set j v) k j := by
  intro k o' hk ho' ha' hl hkj ha
  obtain ⟨rfl, _⟩ := hal ha
  unfold zbo
  rw [List.getElem?_set_ne (Ne.symm hkj), List.getElem?_set_self (by omega)]
  split
  ·rename_i x y hx1 hy1
   injection hy1 with hy1
   subst hy1
   obtain ⟨B, rfl, hB⟩ := h.inh k o' hk ho' ha' hl _ hx1
   intro e
   injection e with e
   injection e with e
   unfold zjm at e
   injection e with e
   omega
  ·trivial
 refine ⟨fun k o hk ho ha hl x hxk => ?_, fun i k o o' hi hk ho ho' ha ha' hli hlk hne => ?_⟩
 ·by_cases hkj : k = j
  ·subst hkj
   obtain rfl : o = oj := by rw [hoj] at ho; exact (Option.some.inj ho).symm
   obtain ⟨rfl, h2⟩ := hal ha
   rw [List.getElem?_set_self (by omega)] at hxk
   obtain rfl := Option.some.inj hxk
   exact ⟨_, rfl, h2⟩
  ·rw [List.getElem?_set_ne (Ne.symm hkj)] at hxk
   rw [getD_set_ne true (Ne.symm hkj)] at hl
   exact (h.inh k o hk ho ha hl x hxk).below hb
 ·by_cases hij : i = j
  ·subst hij
   obtain rfl : o = oj := by rw [hoj] at ho; exact (Option.some.inj ho).symm
   rw [getD_set_ne true hne] at hlk
   exact zkk (key k o' hk ho' ha' hlk (Ne.symm hne) ha)
  ·by_cases hkj : k = j
   ·subst hkj
    obtain rfl : o' = oj := by rw [hoj] at ho'; exact (Option.some.inj ho').symm
    rw [getD_set_ne true (Ne.symm hij)] at hli
    exact key i o hi ho ha hli hij ha'
   ·rw [getD_set_ne true (Ne.symm hij)] at hli
    rw [getD_set_ne true (Ne.symm hkj)] at hlk
    have := h.ap i k o o' hi hk ho ho' ha ha' hli hlk hne
    unfold zbo at this ⊢
    rw [List.getElem?_set_ne (Ne.symm hij), List.getElem?_set_ne (Ne.symm hkj)]
    exact this
theorem zei {id : Nat} {w : World} (n : Nat) (R : List zfn) (ps : List (List Nat)) (D : List (Nat × Nat)) (hm : P.follows .mixedOrders = true) (hB : zqG l n ps = true) (hD : zsT l n D = true) (hR : R.length = n) (hst : ∀ r ∈ R, zhg r)
  (hop : zd1 P l.toArray Q n (l.take n) a w.drew R ((l.take n).zip (R.zip ps)))
  (hend : zfx n fun xs => ∀ w', Below w.heap.size w.drew w' → zcB R xs w' (List.range n) (zdv xs D (wpList P l.toArray Q (l.drop n) (zbO (l.take n) a xs) w'))) : (Code.region id l.toArray true).wp P Q a w := by
 simp only [zqG, Bool.and_eq_true, jS] at hB
 obtain ⟨⟨⟨⟨⟨⟨⟨hsel, hn⟩, hp⟩, hs⟩, hc⟩, hd⟩, hps⟩, hseq⟩ := hB
 have hn' : n < l.toArray.size := by simpa using hn
 have inv0 : HeadInv .any l.toArray n (Array.replicate l.toArray.size false) :=
  ⟨by simp, fun j oj _ hl => (by rw [getD_replicate_false] at hl; cases hl), fun t _ ht => getD_in (by simpa using ht) (getD_replicate_false _ _)⟩
 have main : ∀ (f : Nat) (listed : Array Bool) (xs : List Value) (w' : World), HeadInv .any l.toArray n listed → zhf n listed = f → xs.length = n → Below w.heap.size w.drew w' →
   (∀ j, j < n → listed.getD j true = true → zbx R xs w' j) → ApInv l n listed xs w' →
   zca P .any l.toArray Q (fun _ => True) n (fun listed' a' w' => Region.seqB .any l.toArray (l.toArray.size - n) n listed' = true ∧ wpList P l.toArray Q (l.drop n) a' w') f listed (zbO (l.take n) a xs) w' := by
  intro f
  induction f with
  | zero =>
   intro listed xs w' inv hr hx hb hf hap
   refine ⟨?_, zjn D (zeZ _ (zgk n _ hend xs hx w' hb) (fun j hj => hf j (List.mem_range.1 hj) (zdg n listed hr j (List.mem_range.1 hj)))) (zz6 hD hap (zdg n listed hr))⟩
   have e : listed = (List.replicate n true ++ List.replicate (l.length - n) false).toArray := by
    apply Array.ext_getElem?
    intro i
    have hsz := inv.size
    simp only [List.size_toArray] at hsz
    by_cases hi : i < n
    ·have h1 := zdg n listed hr i hi
     have h2 : i < listed.size := by omega
     simp [h2] at h1
     simp [List.getElem?_append, hi, h2, h1]
    ·by_cases hi2 : i < l.length
     ·have h1 := inv.tail i (by omega) (by simpa using hi2)
      have h2 : i < listed.size := by omega
      simp [h2] at h1
      simp only [jL, List.getElem?_append, List.length_replicate, hi, if_false, List.getElem?_replicate]
      rw [if_pos (by omega), Array.getElem?_eq_getElem h2, h1]
     ·rw [Array.getElem?_eq_none (by omega)]
      simp only [jL, List.getElem?_append, List.length_replicate, hi, if_false, List.getElem?_replicate]
      rw [if_neg (by omega)]
   rw [e]
   simpa using hseq
  | succ f ih =>
   intro listed xs w' inv hr hx hb hf hap
   obtain ⟨i, hi, hil, hmin⟩ := zkR n listed hr
   refine ⟨?_, fun j hj => ?_⟩
   ·intro h0
    obtain ⟨o, ho, he, _⟩ := zdz l ps 0 hps i ps[i] (by simp)
    have : i ∈ Region.ready .any l.toArray listed := mem_ready.2 ⟨hil, o, by simpa using ho, fun e hee hbe => by
     have h1 := he e hee hbe
     have h2 := hmin e.on (by omega)
     have h3 : e.on < listed.size := by rw [inv.size]; simp; omega
     simp [h3] at h2 ⊢
     exact h2⟩
    rw [h0] at this
    cases this
   ·have hjn : j < n := by
     rcases Nat.lt_or_ge j n with h | h
     ·exact h
     ·exact absurd hj (tail_waits hs hc hn' inv _ i rfl hi hil j h)
    refine ⟨hjn, ?_⟩
    obtain ⟨hjl, oj, hoj, hall⟩ := mem_ready.1 hj
    have hoj' : l[j]? = some oj := by simpa using hoj
    have hjp : j < ps.length := by omega
    have hjR : j < R.length := by omega
    have hit : ((l.take n).zip (R.zip ps))[j]? = some (oj, R[j], ps[j]) := by
     rw [List.getElem?_zip_eq_some]
     refine ⟨by rw [List.getElem?_take, if_pos hjn]; exact hoj', ?_⟩
     rw [List.getElem?_zip_eq_some]
     exact ⟨by simp [hjR], by simp [hjp]⟩
    obtain ⟨oj', hoj2, _, hpj⟩ := zdz l ps 0 hps j ps[j] (by simp [hjp])
    obtain rfl : oj' = oj := by
     rw [Nat.zero_add, hoj'] at hoj2
     exact (Option.some.inj hoj2).symm
    have hfree := zeZ _ (zgk n _ (zhG _ hop j oj' R[j] ps[j] hit) xs hx w' hb) (fun k hk => by
     obtain ⟨e, hee, hbe, hek⟩ := hpj k hk
     have h1 := hall e hee hbe
     rw [hek] at h1
     by_cases hkn : k < n
     ·refine hf k hkn ?_
      by_cases h2 : k < listed.size
      ·simp [h2] at h1 ⊢; exact h1
      ·simp [Array.getElem?_eq_none (Nat.le_of_not_lt h2)] at h1
     ·unfold zbx
      rw [List.getElem?_eq_none (l := R) (by omega)]
      trivial)
    have go : ∀ (v : Value) (w2 : World), Below w'.heap.size w' w2 → R[j] v w2 → (zc4 oj' = true → v = .pointer (some (zjm w')) ∧ w'.heap.size < w2.heap.size) →
      zca P .any l.toArray Q (fun _ => True) n (fun listed' a' w' => Region.seqB .any l.toArray (l.toArray.size - n) n listed' = true ∧ wpList P l.toArray Q (l.drop n) a' w') f (listed.setIfInBounds j true) ((zbO (l.take n) a xs).put oj'.dst v) w2 := by
     intro v w2 hb2 hv hal
     rw [zif (l.take n) j oj' a xs v hd (by rw [List.getElem?_take, if_pos hjn]; exact hoj') (by omega)]
     refine ih _ _ _ (inv.set hj hjn) ?_ (by simpa using hx) (hb.trans (hb2.mono hb.size)) (fun k hk hkl => ?_) (zz7 hap hoj' hx hjn hjl hb2 hal)
     ·have := zkQ n listed j hjn hjl
      omega
     ·by_cases hkj : k = j
      ·subst hkj
       unfold zbx
       simp only [jP hjR, List.getElem?_set_self (show k < xs.length by omega)]
       exact hv
      ·have h1 := hf k hk (by rwa [getD_set_ne true (Ne.symm hkj)] at hkl)
       unfold zbx at h1 ⊢
       rw [List.getElem?_set_ne (Ne.symm hkj)]
       have hkR : k < R.length := by omega
       have hkx : k < xs.length := by omega
       simp only [jP hkR, jP hkx] at h1 ⊢
       exact hst _ (List.getElem_mem hkR) _ _ _ hb2 h1
    unfold wpOp
    simp only [hoj]
    by_cases hA : zc4 oj' = true
    ·obtain ⟨ty, hop2⟩ := zq2 hA
     unfold zfG at hfree
     rw [hop2] at hfree
     obtain ⟨hw, b, hrun, hr2⟩ := hfree
     rw [if_pos hw]
     refine .inl ?_
     unfold Oper.wp
     rw [hrun]
     exact ⟨trivial, go _ _ ((Below.refl _ _).alloc (jV _) _) hr2 (fun _ => ⟨rfl, by simp⟩)⟩
    ·have hfree : zbX P l.toArray Q oj' R[j] (zbO (l.take n) a xs) w' := by
      unfold zfG at hfree
      unfold zc4 at hA
      split at hfree
      ·rename_i ty he
       rw [he] at hA
       exact absurd rfl hA
      ·exact hfree
     unfold zbX at hfree
     split
     ·rename_i hw
      rw [if_pos hw] at hfree
      refine .inl (Oper.wp_mono (fun a' w2 h => ?_) hfree)
      obtain ⟨hb2, v, rfl, hv⟩ := h
      exact ⟨trivial, go v w2 hb2 hv (fun h => absurd h hA)⟩
     ·rename_i hw
      rw [if_neg hw] at hfree
      exact ⟨trivial, go undef w' (Below.refl _ _) hfree (fun h => absurd h hA)⟩
 obtain ⟨xs0, hx0, hf0⟩ := zie (l.take n) a
 have H := main n (Array.replicate l.toArray.size false) xs0 w.drew inv0 (by
  unfold zhf
  rw [List.filter_eq_self.2 (fun i hi => ?_)]
  ·simp
  ·have := List.mem_range.1 hi
   have : i < l.length := by omega
   simp [this]) (by simp at hx0; omega) (Below.refl _ _) (fun j hj hl => by
  have : j < l.length := by omega
  simp [this] at hl) ⟨fun k o hk ho ha hl => by
  have : k < l.length := by omega
  simp [this] at hl, fun i j o o' hi hj ho ho' ha ha' hl => by
  have : i < l.length := by omega
  simp [this] at hl⟩
 rw [hf0] at H
 refine wp_region_any hm ?_
 have hdl : (l.drop n).length = l.toArray.size - n := by simp
 have := zbA (g := l.toArray.size - n) (fun listed a' w' hL => by
  have := wpAny_of_seq (md := .any) (Q' := Q) (l.drop n) n listed a' w' (fun j => by simp [List.getElem?_drop]) (by rw [hdl]; exact hL.1) hL.2
  rwa [hdl] at this) _ _ _ _ H
 rw [show n + (l.toArray.size - n) = l.toArray.size by omega] at this
 exact this
variable {ops : Array Oper} {o : Oper} {r : zfn} {w : World}
theorem zdC {ty m : Nat} {k : IntKind} (hg : Region.wanted o (yielded ops a.tmps) = true) (ho : o.op = .alloc ty) (hz : zcw P ty k m)
  (h : r (.pointer (some ⟨w.heap.size, 0, none⟩)) (w.alloc (.cells (arr k m fun _ => 0) ty))) : zfG P ops Q o r a w := by
 unfold zfG
 rw [ho]
 exact ⟨hg, _, zc9 ho hz, h⟩
theorem zaZ (h : zbX P ops Q o r a w) (ho : zc4 o = false) : zfG P ops Q o r a w := by
 unfold zfG
 unfold zc4 at ho
 split
 ·rename_i ty he
  rw [he] at ho
  cases ho
 ·exact h
end
end
end Go.Proofs.YtfolbgiekbimpaaGreatDoor
