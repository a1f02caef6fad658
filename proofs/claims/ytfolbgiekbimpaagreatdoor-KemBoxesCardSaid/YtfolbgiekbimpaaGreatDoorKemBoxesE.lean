/- The walks of layer 6: the reckoner's methods, of numbers that may be. The walk of layer 6: two points change places, or do not. The walk of layer 6: a step of the ladder, of numbers that may be. Plain: the prime of layer 5, and its powers; no program is in sight. Plain law of layer 5: what a number is divided by is it, to the power of the prime less 2. The ladder's numbers (plain): sums, differences, products by the prime; twice a point, two points together; what the program's steps stand for. Plain law of layer 5's reference: numbers in sixteen parts; what goes over comes in again; the prime  -/
import Derived.Test.YtfolbgiekbimpaaGreatDoorKemBoxesD
import Derived.Laws.BitsAllLaws
set_option linter.unusedSimpArgs false
set_option linter.unusedVariables false
set_option maxRecDepth 200000
set_option maxHeartbeats 6000000
namespace Go.Proofs.YtfolbgiekbimpaaGreatDoor
section
open Go.RowKit
attribute [local irreducible] zdZ zbi zbD zdj zcN sqN zh5 zh6 zch zbU zbY zer ofN
theorem znj {w : World} {B t : Nat} {k : IntKind} {n : Nat} {f : Nat → Int} (h : w.heap[B]? = some (.cells (arr k n f) t (0, 0))) (i : Nat) (hi : i < n) : w.setCell ⟨B, i, none⟩ (.int k (f i)) = w := by
 unfold World.setCell
 have e : w.heap.modify B (fun | .cells c elem frozen => .cells (if ((none : Option Nat)).isSome then c else c.setIfInBounds i (.int k (f i))) elem frozen | o => o) = w.heap := by
  apply Array.ext_getElem?
  intro j
  rw [Array.getElem?_modify]
  by_cases hj : B = j
  ·subst hj
   rw [if_pos rfl, h]
   simp only [Option.map_some, Option.isSome_none, Bool.false_eq_true, if_false]
   rw [zrz]
   congr 2
   refine zcc fun j hj => ?_
   unfold upd
   split
   ·rename_i e; rw [e]
   ·rfl
  ·rw [if_neg hj]
 cases w
 simp only [World.mk.injEq, and_true]
 exact e
theorem zes (R : Nat) (F : Nat → Nat) (w : World) (hr : w.heap[R]? = some (.cells (arr .i64 1 fun _ => 0) 66 (0, 0))) :
  Calls Tryz.prog 50 #[.pointer (some ⟨R, 0, none⟩), .agg (arr .u64 5 fun i => ((F i : Nat) : Int)), .int .i64 0] w fun e w' => e = .returned (.agg (arr .u64 5 fun i => ((F i : Nat) : Int))) ∧ Below w.heap.size w w' := by
 have hlt := jM hr
 go_enter Tryz.func50, Tryz.ntmps50
 obtain ⟨h0, h1, hsz, hb⟩ := zb9 w (.cells (arr .u64 5 fun i => ((F i : Nat) : Int)) 69) (.cells (arr .u64 5 fun _ => 0) 69)
 replace hr := zaa hb hlt hr
 go_upto_region 1 with (refine zae rfl rfl zfV ?_)
 generalize (w.alloc (.cells (arr .u64 5 fun i => ((F i : Nat) : Int)) 69)).alloc (.cells (arr .u64 5 fun _ => 0) 69) = wa at *
 (try simp only [Act.put, jA, jB, jC])
 simp only [World.size_alloc]
 have cr := zaj hr 0 (by omega)
 have fr := zaH hr 0
 have es := znj hr 0 (by omega)
 clear hsz
 go_wp2_with (first | (refine zab rfl rfl rfl za8 h0 ?_) | (refine zac rfl rfl rfl rfl za8 h1 ?_))
 exact bodyPost_ret (zau rfl rfl za8 (zan h1)) rfl ⟨rfl, zam hb (by omega) _⟩
theorem zim (R : Nat) (F G : Nat → Nat) (hF : okF F 5) (hG : okF G 5) (w : World) (hr : w.heap[R]? = some (.cells (arr .i64 1 fun _ => 0) 66 (0, 0))) :
  Calls Tryz.prog 44 #[.pointer (some ⟨R, 0, none⟩), .agg (arr .u64 5 fun i => ((F i : Nat) : Int)), .agg (arr .u64 5 fun i => ((G i : Nat) : Int))] w fun e w' => e = .returned (.agg (arr .u64 5 fun i => ((zh5 F G i : Nat) : Int))) ∧ Below w.heap.size w w' := by
 have hlt := jM hr
 go_enter Tryz.func44, Tryz.ntmps44
 obtain ⟨h0, h1, h2, hsz, hb⟩ := zc7 w (.cells (arr .u64 5 fun i => ((F i : Nat) : Int)) 69) (.cells (arr .u64 5 fun i => ((G i : Nat) : Int)) 69) (.cells (arr .u64 5 fun _ => 0) 69)
 replace hr := zaa hb hlt hr
 go_upto_region 1 with (refine zae rfl rfl zfV ?_)
 generalize (((w).alloc (.cells (arr .u64 5 fun i => ((F i : Nat) : Int)) 69)).alloc (.cells (arr .u64 5 fun i => ((G i : Nat) : Int)) 69)).alloc (.cells (arr .u64 5 fun _ => 0) 69) = wa at *
 (try simp only [Act.put, jA, jB, jC])
 simp only [World.size_alloc]
 have okF' := Lib.hid hF
 have okG' := Lib.hid hG
 clear hF hG hsz
 go_wp2_with (first | (refine zab rfl rfl rfl za8 h0 ?_) | (refine zab rfl rfl rfl za8 h1 ?_) | (go_at_call 68; fail))
 refine (zyg F G okF'.out okG'.out _).mono ?_
 rintro e w4 ⟨rfl, b4⟩
 replace hr := zaa b4 (jM hr) hr
 replace h2 := zaa b4 (jM h2) h2
 replace hb := hb.trans (b4.mono hb.size)
 clear b4
 go_wp2_with (first | (go_at_call 50; fail))
 refine (zes R _ _ hr).mono ?_
 rintro e w5 ⟨rfl, b5⟩
 replace h2 := zaa b5 (jM h2) h2
 replace hb := hb.trans (b5.mono hb.size)
 clear b5
 go_wp2_with (first | (refine zac rfl rfl rfl rfl za8 h2 ?_))
 exact bodyPost_ret (zau rfl rfl za8 (zan h2)) rfl ⟨rfl, zam hb (by omega) _⟩
theorem zin (R : Nat) (F G : Nat → Nat) (hF : okF F 5) (hG : okF G 5) (w : World) (hr : w.heap[R]? = some (.cells (arr .i64 1 fun _ => 0) 66 (0, 0))) :
  Calls Tryz.prog 45 #[.pointer (some ⟨R, 0, none⟩), .agg (arr .u64 5 fun i => ((F i : Nat) : Int)), .agg (arr .u64 5 fun i => ((G i : Nat) : Int))] w fun e w' => e = .returned (.agg (arr .u64 5 fun i => ((zh6 F G i : Nat) : Int))) ∧ Below w.heap.size w w' := by
 have hlt := jM hr
 go_enter Tryz.func45, Tryz.ntmps45
 obtain ⟨h0, h1, h2, hsz, hb⟩ := zc7 w (.cells (arr .u64 5 fun i => ((F i : Nat) : Int)) 69) (.cells (arr .u64 5 fun i => ((G i : Nat) : Int)) 69) (.cells (arr .u64 5 fun _ => 0) 69)
 replace hr := zaa hb hlt hr
 go_upto_region 1 with (refine zae rfl rfl zfV ?_)
 generalize (((w).alloc (.cells (arr .u64 5 fun i => ((F i : Nat) : Int)) 69)).alloc (.cells (arr .u64 5 fun i => ((G i : Nat) : Int)) 69)).alloc (.cells (arr .u64 5 fun _ => 0) 69) = wa at *
 (try simp only [Act.put, jA, jB, jC])
 simp only [World.size_alloc]
 have okF' := Lib.hid hF
 have okG' := Lib.hid hG
 clear hF hG hsz
 go_wp2_with (first | (refine zab rfl rfl rfl za8 h0 ?_) | (refine zab rfl rfl rfl za8 h1 ?_) | (go_at_call 69; fail))
 refine (zyi F G okF'.out okG'.out _).mono ?_
 rintro e w4 ⟨rfl, b4⟩
 replace hr := zaa b4 (jM hr) hr
 replace h2 := zaa b4 (jM h2) h2
 replace hb := hb.trans (b4.mono hb.size)
 clear b4
 go_wp2_with (first | (go_at_call 50; fail))
 refine (zes R _ _ hr).mono ?_
 rintro e w5 ⟨rfl, b5⟩
 replace h2 := zaa b5 (jM h2) h2
 replace hb := hb.trans (b5.mono hb.size)
 clear b5
 go_wp2_with (first | (refine zac rfl rfl rfl rfl za8 h2 ?_))
 exact bodyPost_ret (zau rfl rfl za8 (zan h2)) rfl ⟨rfl, zam hb (by omega) _⟩
theorem zet (R : Nat) (F G : Nat → Nat) (hF : okF F 5) (hG : okF G 5) (w : World) (hr : w.heap[R]? = some (.cells (arr .i64 1 fun _ => 0) 66 (0, 0))) :
  Calls Tryz.prog 46 #[.pointer (some ⟨R, 0, none⟩), .agg (arr .u64 5 fun i => ((F i : Nat) : Int)), .agg (arr .u64 5 fun i => ((G i : Nat) : Int))] w fun e w' => e = .returned (.agg (arr .u64 5 fun i => ((zbD F G i : Nat) : Int))) ∧ Below w.heap.size w w' := by
 have hlt := jM hr
 go_enter Tryz.func46, Tryz.ntmps46
 obtain ⟨h0, h1, h2, hsz, hb⟩ := zc7 w (.cells (arr .u64 5 fun i => ((F i : Nat) : Int)) 69) (.cells (arr .u64 5 fun i => ((G i : Nat) : Int)) 69) (.cells (arr .u64 5 fun _ => 0) 69)
 replace hr := zaa hb hlt hr
 go_upto_region 1 with (refine zae rfl rfl zfV ?_)
 generalize (((w).alloc (.cells (arr .u64 5 fun i => ((F i : Nat) : Int)) 69)).alloc (.cells (arr .u64 5 fun i => ((G i : Nat) : Int)) 69)).alloc (.cells (arr .u64 5 fun _ => 0) 69) = wa at *
 (try simp only [Act.put, jA, jB, jC])
 simp only [World.size_alloc]
 have okF' := Lib.hid hF
 have okG' := Lib.hid hG
 clear hF hG hsz
 go_wp2_with (first | (refine zab rfl rfl rfl za8 h0 ?_) | (refine zab rfl rfl rfl za8 h1 ?_) | (go_at_call 70; fail))
 refine (zyh F G okF'.out okG'.out _).mono ?_
 rintro e w4 ⟨rfl, b4⟩
 replace hr := zaa b4 (jM hr) hr
 replace h2 := zaa b4 (jM h2) h2
 replace hb := hb.trans (b4.mono hb.size)
 clear b4
 go_wp2_with (first | (go_at_call 50; fail))
 refine (zes R _ _ hr).mono ?_
 rintro e w5 ⟨rfl, b5⟩
 replace h2 := zaa b5 (jM h2) h2
 replace hb := hb.trans (b5.mono hb.size)
 clear b5
 go_wp2_with (first | (refine zac rfl rfl rfl rfl za8 h2 ?_))
 exact bodyPost_ret (zau rfl rfl za8 (zan h2)) rfl ⟨rfl, zam hb (by omega) _⟩
theorem ze8 (R : Nat) (F : Nat → Nat) (hF : okF F 5) (w : World) (hr : w.heap[R]? = some (.cells (arr .i64 1 fun _ => 0) 66 (0, 0))) :
  Calls Tryz.prog 47 #[.pointer (some ⟨R, 0, none⟩), .agg (arr .u64 5 fun i => ((F i : Nat) : Int))] w fun e w' => e = .returned (.agg (arr .u64 5 fun i => ((sqN F 1 i : Nat) : Int))) ∧ Below w.heap.size w w' := by
 have hlt := jM hr
 go_enter Tryz.func47, Tryz.ntmps47
 obtain ⟨h0, h1, hsz, hb⟩ := zb9 w (.cells (arr .u64 5 fun i => ((F i : Nat) : Int)) 69) (.cells (arr .u64 5 fun _ => 0) 69)
 replace hr := zaa hb hlt hr
 go_upto_region 1 with (refine zae rfl rfl zfV ?_)
 generalize ((w).alloc (.cells (arr .u64 5 fun i => ((F i : Nat) : Int)) 69)).alloc (.cells (arr .u64 5 fun _ => 0) 69) = wa at *
 (try simp only [Act.put, jA, jB, jC])
 simp only [World.size_alloc]
 have okF' := Lib.hid hF
 clear hF hsz
 go_wp2_with (first | (refine zab rfl rfl rfl za8 h0 ?_) | (go_at_call 71; fail))
 refine (zq0 F okF'.out 1 (by omega) _).mono ?_
 rintro e w4 ⟨rfl, b4⟩
 replace hr := zaa b4 (jM hr) hr
 replace h1 := zaa b4 (jM h1) h1
 replace hb := hb.trans (b4.mono hb.size)
 clear b4
 go_wp2_with (first | (go_at_call 50; fail))
 refine (zes R _ _ hr).mono ?_
 rintro e w5 ⟨rfl, b5⟩
 replace h1 := zaa b5 (jM h1) h1
 replace hb := hb.trans (b5.mono hb.size)
 clear b5
 go_wp2_with (first | (refine zac rfl rfl rfl rfl za8 h1 ?_))
 exact bodyPost_ret (zau rfl rfl za8 (zan h1)) rfl ⟨rfl, zam hb (by omega) _⟩
end
section
open Go.RowKit
structure Bar (P Q : Nat) (w w' : World) : Prop where
 os : w'.os = w.os
 tape : w'.tape = w.tape
 output : w'.output = w.output
 size : w.heap.size ≤ w'.heap.size
 block : ∀ k, k < w.heap.size → k ≠ P → k ≠ Q → w'.heap[k]? = w.heap[k]?
section
variable {P Q B : Nat} {w w' w'' : World}
theorem Bar.refl (P Q : Nat) (w : World) : Bar P Q w w := ⟨rfl, rfl, rfl, jV _, fun _ _ _ _ => rfl⟩
theorem Bar.trans (h : Bar P Q w w') (k : Bar P Q w' w'') : Bar P Q w w'' :=
 ⟨k.os.trans h.os, k.tape.trans h.tape, k.output.trans h.output, jU h.size k.size, fun i hi h1 h2 => (k.block i (jT hi h.size) h1 h2).trans (h.block i hi h1 h2)⟩
theorem Bar.of_below (h : Below w.heap.size w w') : Bar P Q w w' := ⟨h.os, h.tape, h.output, h.size, fun i hi _ _ => h.block i hi⟩
theorem Bar.drew (h : Bar P Q w w') : Bar P Q w w'.drew := ⟨h.os, h.tape, h.output, h.size, h.block⟩
theorem Bar.row (h : Bar P Q w w') {g : Nat} (hg : g = P ∨ g = Q ∨ w.heap.size ≤ g) (cs : Array Value) : Bar P Q w (w'.setRow g cs) := by
 refine ⟨h.os, h.tape, h.output, ?_, fun i hi h1 h2 => ?_⟩
 ·have : (w'.setRow g cs).heap.size = w'.heap.size := by unfold World.setRow; simp
  rw [this]
  exact h.size
 ·rw [setRow_other _ _ _ _ (by omega)]
  exact h.block i hi h1 h2
theorem Bar.set (h : Bar P Q w w') {g i : Nat} (hg : g = P ∨ g = Q ∨ w.heap.size ≤ g) (v : Value) : Bar P Q w (w'.setCell ⟨g, i, none⟩ v) := by
 refine ⟨h.os, h.tape, h.output, ?_, fun k hk h1 h2 => ?_⟩
 ·have : (w'.setCell ⟨g, i, none⟩ v).heap.size = w'.heap.size := by unfold World.setCell; simp
  rw [this]
  exact h.size
 ·rw [Below.heap_setCell _ _ _ _ (by show k ≠ g; omega)]
  exact h.block k hk h1 h2
theorem Bar.keep {k : Nat} {o : Obj} (h : Bar P Q w w') (hk : w.heap[k]? = some o) (h1 : k ≠ P) (h2 : k ≠ Q) : w'.heap[k]? = some o := (h.block k (jM hk) h1 h2).trans hk
theorem Bar.below {w0 : World} (h : Bar P Q w w') (hb : Below B w0 w) (h1 : B ≤ P) (h2 : B ≤ Q) (hB : B ≤ w.heap.size) : Below B w0 w' :=
 ⟨h.os.trans hb.os, h.tape.trans hb.tape, h.output.trans hb.output, jU hb.size h.size, fun i hi => (h.block i (by omega) (by omega) (by omega)).trans (hb.block i hi)⟩
theorem Bar.drewl (h : Bar P Q w w') : Bar P Q w.drew w' := ⟨h.os, h.tape, h.output, h.size, h.block⟩
end
def zpL (b : Nat) (F G : Nat → Nat) (i : Nat) : Nat := if b = 1 then G i else F i
def zsU (b m : Nat) (F G : Nat → Nat) (i : Nat) : Nat := if i % 5 < m then zpL b F G i else F i
theorem zcO (b m : Nat) (F G : Nat → Nat) (i : Nat) (h : m ≤ i % 5) : zsU b m F G i = F i := by unfold zsU; rw [if_neg (by omega)]
theorem znk (b m : Nat) (F G : Nat → Nat) (i : Nat) : zsU b (m + 1) F G i = if i % 5 = m then zpL b F G i else zsU b m F G i := by
 unfold zsU
 by_cases h : i % 5 = m
 ·rw [if_pos h, if_pos (by omega)]
 ·rw [if_neg h]
  by_cases h2 : i % 5 < m
  ·rw [if_pos h2, if_pos (by omega)]
  ·rw [if_neg h2, if_neg (by omega)]
theorem zfZ (w : World) {a b : Addr} {v : Value} (h : a.block ≠ b.block) : (w.setCell a v).cell? b = w.cell? b := World.cell?_of_block (Below.heap_setCell _ _ _ _ (Ne.symm h))
theorem zz8 (x y : Nat) (hx : x < 18446744073709551616) (hy : y < 18446744073709551616) : bits .xor .u64 (x : Int) (bits .and .u64 0 (bits .xor .u64 (x : Int) (y : Int))) = (x : Int) := by
 rw [u64_xor_nat x y hx hy, show (0 : Int) = ((0 : Nat) : Int) from rfl, u64_and_nat 0 _ (by omega) (Nat.xor_lt_two_pow (n := 64) hx hy), Nat.zero_and, u64_xor_nat x 0 hx (by omega), Nat.xor_zero]
theorem zwM (x y : Nat) (hx : x < 18446744073709551616) (hy : y < 18446744073709551616) : bits .xor .u64 (y : Int) (bits .and .u64 0 (bits .xor .u64 (x : Int) (y : Int))) = (y : Int) := by
 rw [u64_xor_nat x y hx hy, show (0 : Int) = ((0 : Nat) : Int) from rfl, u64_and_nat 0 _ (by omega) (Nat.xor_lt_two_pow (n := 64) hx hy), Nat.zero_and, u64_xor_nat y 0 hy (by omega), Nat.xor_zero]
theorem znm (x : Nat) (h : x < 18446744073709551616) : 18446744073709551615 &&& x = x := by
 rw [show (18446744073709551615 : Nat) = 2 ^ 64 - 1 from rfl, Nat.and_comm, Nat.and_two_pow_sub_one_eq_mod, Nat.mod_eq_of_lt h]
theorem zCb (x y : Nat) (hx : x < 18446744073709551616) (hy : y < 18446744073709551616) : bits .xor .u64 (x : Int) (bits .and .u64 (IntKind.u64.wrap (-1)) (bits .xor .u64 (x : Int) (y : Int))) = (y : Int) := by
 rw [show IntKind.u64.wrap (-1) = 18446744073709551615 from by decide]
 have hl : x ^^^ y < 18446744073709551616 := Nat.xor_lt_two_pow (n := 64) hx hy
 rw [u64_xor_nat x y hx hy, show (18446744073709551615 : Int) = ((18446744073709551615 : Nat) : Int) from rfl, u64_and_nat _ _ (by omega) hl, znm _ hl, u64_xor_nat x _ hx hl, ← Nat.xor_assoc, Nat.xor_self, Nat.zero_xor]
theorem zz9 (x y : Nat) (hx : x < 18446744073709551616) (hy : y < 18446744073709551616) : bits .xor .u64 (y : Int) (bits .and .u64 (IntKind.u64.wrap (-1)) (bits .xor .u64 (x : Int) (y : Int))) = (x : Int) := by
 rw [show IntKind.u64.wrap (-1) = 18446744073709551615 from by decide]
 have hl : x ^^^ y < 18446744073709551616 := Nat.xor_lt_two_pow (n := 64) hx hy
 rw [u64_xor_nat x y hx hy, show (18446744073709551615 : Int) = ((18446744073709551615 : Nat) : Int) from rfl, u64_and_nat _ _ (by omega) hl, znm _ hl, u64_xor_nat y _ hy hl, Nat.xor_comm x y, ← Nat.xor_assoc, Nat.xor_self, Nat.zero_xor]
theorem zpM : zhA Tryz.prog 72 0 := ⟨_, _, 4, Tryz.underlying72, rfl, by kernel_rfl⟩
theorem zpN : zhA Tryz.prog 72 1 := ⟨_, _, 4, Tryz.underlying72, rfl, by kernel_rfl⟩
theorem zho : zeB Tryz.prog 72 10 := ⟨_, Tryz.underlying72, rfl, by kernel_rfl⟩
theorem zio (b : Nat) (hb01 : b = 0 ∨ b = 1) (P Q : Nat) (hne : P ≠ Q) (F G : Nat → Nat) (hF : ∀ i, i < 10 → F i < 18446744073709551616) (hG : ∀ i, i < 10 → G i < 18446744073709551616) (w : World)
  (hP : w.heap[P]? = some (.cells (arr .u64 10 fun i => ((F i : Nat) : Int)) 72 (0, 0))) (hQ : w.heap[Q]? = some (.cells (arr .u64 10 fun i => ((G i : Nat) : Int)) 72 (0, 0))) :
  Calls Tryz.prog 48 #[.int .u64 b, .pointer (some ⟨P, 0, none⟩), .pointer (some ⟨Q, 0, none⟩)] w fun e w' => e = .returned (.tuple #[]) ∧ Bar P Q w w' ∧
   w'.heap[P]? = some (.cells (arr .u64 10 fun i => ((zpL b F G i : Nat) : Int)) 72 (0, 0)) ∧ w'.heap[Q]? = some (.cells (arr .u64 10 fun i => ((zpL b G F i : Nat) : Int)) 72 (0, 0)) := by
 have HF := Lib.hid hF
 have HG := Lib.hid hG
 have HN := Lib.hid hne
 clear hF hG hne
 rcases hb01 with rfl | rfl
 ·go_enter Tryz.func48, Tryz.ntmps48
  go_wp2
  go_loopg [12] 5 (fun n i wr => ∃ m : Nat, m + n = 5 ∧ i = .int .i64 m ∧ wr.heap[P]? = some (.cells (arr .u64 10 fun i => ((zsU 0 m F G i : Nat) : Int)) 72 (0, 0)) ∧
   wr.heap[Q]? = some (.cells (arr .u64 10 fun i => ((zsU 0 m G F i : Nat) : Int)) 72 (0, 0)) ∧ Bar P Q w wr)
  case atStart => exact ⟨0, rfl, rfl, zaf hP (fun i _ => by rw [zcO _ _ _ _ _ (by omega)]), zaf hQ (fun i _ => by rw [zcO _ _ _ _ _ (by omega)]), Bar.refl _ _ _⟩
  case round =>
   clear hP hQ
   obtain ⟨m, hm, rfl, hP, hQ, hB⟩ := hrel
   have hm' := Lib.hid hm
   clear hm
   by_cases hlt : m < 5
   ·have n1 : m % 5 = m := Nat.mod_eq_of_lt hlt
    have n2 : (5 + m) % 5 = m := by omega
    obtain ⟨x1, hx1⟩ : ∃ x, F m = x := ⟨_, rfl⟩
    obtain ⟨z1, hz1⟩ : ∃ x, F (5 + m) = x := ⟨_, rfl⟩
    obtain ⟨x2, hx2⟩ : ∃ x, G m = x := ⟨_, rfl⟩
    obtain ⟨z2, hz2⟩ : ∃ x, G (5 + m) = x := ⟨_, rfl⟩
    have lx1 : x1 < 18446744073709551616 := hx1 ▸ HF.out m (by omega)
    have lz1 : z1 < 18446744073709551616 := hz1 ▸ HF.out (5 + m) (by omega)
    have lx2 : x2 < 18446744073709551616 := hx2 ▸ HG.out m (by omega)
    have lz2 : z2 < 18446744073709551616 := hz2 ▸ HG.out (5 + m) (by omega)
    have p1 : wr.cell? ⟨P, m, none⟩ = some (.int .u64 (x1 : Int)) := by rw [zaj hP m (by omega), zcO _ _ _ _ _ (by omega), hx1]
    have p2 : wr.cell? ⟨P, 5 + m, none⟩ = some (.int .u64 (z1 : Int)) := by rw [zaj hP (5 + m) (by omega), zcO _ _ _ _ _ (by omega), hz1]
    have q1 : wr.cell? ⟨Q, m, none⟩ = some (.int .u64 (x2 : Int)) := by rw [zaj hQ m (by omega), zcO _ _ _ _ _ (by omega), hx2]
    have q2 : wr.cell? ⟨Q, 5 + m, none⟩ = some (.int .u64 (z2 : Int)) := by rw [zaj hQ (5 + m) (by omega), zcO _ _ _ _ _ (by omega), hz2]
    have fp := zaH hP
    have lP : P < wr.drew.heap.size := jM hP
    have lQ : Q < wr.drew.heap.size := jM hQ
    have fq := zaH hQ
    clear n1 n2
    go_upto_region 4 with (fail)
    (try simp only [Act.put, jA, jB, jC])
    refine wp_region_can wr.heap.size 31 [(0, false), (1, false), (2, false), (3, false), (4, false), (5, false), (6, false), (7, false), (8, false), (9, false), (10, false), (11, false), (12, false), (13, false), (14, false), (15, false), (16, false), (17, false), (18, false), (19, false), (20, false), (21, false), (22, false), (23, false), (24, false), (25, false), (26, false), (27, false), (28, false), (29, false), (30, false)] (by kernel_rfl) (by kernel_rfl) ?_
    (simp only [canOps, jD, jE, jF, jG])
    iterate 31 (first | (refine zay rfl rfl (fun _ _ _ _ h => h) ?_; (simp only [Act.put, Act.eval, jN, jL, jD, jE, jO, jA, jB, jC])) | (refine zar rfl rfl (fun _ _ _ _ h => h) ?_; (simp only [Act.put, Act.eval, jN, jL, jD, jE, jO, jA, jB, jC])) | (refine zao rfl rfl rfl (fun _ _ _ _ h => h) ?_; (simp only [Act.put, jA, jB, jC])) | (refine za1 rfl rfl (fun _ _ _ _ h => h) (by first | exact .bin rfl rfl rfl | exact .indexAddr rfl | exact .un rfl | exact .extract rfl | exact .index rfl | exact .field rfl | exact .slice rfl | exact .fieldT rfl zpM | exact .fieldT rfl zpN | exact .load rfl rfl lP hP | exact .load rfl rfl lQ hQ) (fun K hK => ?_); go_simp; (try (simp only [↓IntWalk.iteOmega]; go_simp)); (try go_bits); refine hK _ ?_; clear hK K))
    refine wpCan_nil ?_
    have ex1 := zz8 x1 x2 lx1 lx2
    have ex2 := zwM x1 x2 lx1 lx2
    have ez1 := zz8 z1 z2 lz1 lz2
    have ez2 := zwM z1 z2 lz1 lz2
    have EX1 := Lib.hid ex1
    have EX2 := Lib.hid ex2
    have EZ1 := Lib.hid ez1
    have EZ2 := Lib.hid ez2
    clear ex1 ex2 ez1 ez2
    go_upto_region 5 with (fail)
    (try simp only [Act.put, jA, jB, jC])
    have c1 : ∀ v, (wr.setCell ⟨P, m, none⟩ v).cell? ⟨Q, m, none⟩ = some (.int .u64 (x2 : Int)) := fun v => by rw [zfZ wr (by exact HN.out)]; exact q1
    have f1 : ∀ v, (wr.setCell ⟨P, m, none⟩ v).frozen? ⟨Q, m, none⟩ = false := fun v => frozen_of_row _ _ _ _ _ (zaq hQ _ _ (Ne.symm HN.out))
    go_region
    clear c1 f1 p1 q1
    simp only [EX1.out, EX2.out]
    have hP5 := zaq (C := Q) (zaJ hP m (x1 : Int)) m (.int .u64 (x2 : Int)) HN.out
    have hQ5 := zaJ (zaq (C := P) hQ m (.int .u64 (x1 : Int)) (Ne.symm HN.out)) m (x2 : Int)
    have hB5 := ((hB.set (.inl rfl) (i := m) (.int .u64 (x1 : Int))).set (.inr (.inl rfl)) (i := m) (.int .u64 (x2 : Int))).drew.drew
    clear p2 q2 fp fq lP lQ hP hQ hB
    generalize ((wr.setCell ⟨P, m, none⟩ (.int .u64 (x1 : Int))).setCell ⟨Q, m, none⟩ (.int .u64 (x2 : Int))) = ws at *
    have p2 : ws.cell? ⟨P, 5 + m, none⟩ = some (.int .u64 (z1 : Int)) := by rw [zaj hP5 (5 + m) (by omega)]; unfold upd; rw [if_neg (by omega)]; dsimp only; rw [zcO _ _ _ _ _ (by omega), hz1]
    have q2 : ws.cell? ⟨Q, 5 + m, none⟩ = some (.int .u64 (z2 : Int)) := by rw [zaj hQ5 (5 + m) (by omega)]; unfold upd; rw [if_neg (by omega)]; dsimp only; rw [zcO _ _ _ _ _ (by omega), hz2]
    have fp := zaH hP5
    have fq := zaH hQ5
    go_upto_region 6 with (fail)
    (try simp only [Act.put, jA, jB, jC])
    have c1 : ∀ v, (ws.setCell ⟨P, 5 + m, none⟩ v).cell? ⟨Q, 5 + m, none⟩ = some (.int .u64 (z2 : Int)) := fun v => by rw [zfZ ws (by exact HN.out)]; exact q2
    have f1 : ∀ v, (ws.setCell ⟨P, 5 + m, none⟩ v).frozen? ⟨Q, 5 + m, none⟩ = false := fun v => frozen_of_row _ _ _ _ _ (zaq hQ5 _ _ (Ne.symm HN.out))
    go_region
    clear c1 f1 p2 q2
    simp only [EZ1.out, EZ2.out]
    go_wp2
    go_roundg (gk - 1)
    case measure => have := hm'.out; omega
    case rel =>
     have hm'' := hm'.out
     refine ⟨m + 1, by omega, by go_num, zaf (zaq (C := Q) (zaJ hP5 (5 + m) (z1 : Int)) (5 + m) _ HN.out) (fun i hi => ?_), zaf (zaJ (zaq (C := P) hQ5 (5 + m) _ (Ne.symm HN.out)) (5 + m) (z2 : Int)) (fun i hi => ?_), ((hB5.set (.inl rfl) _).set (.inr (.inl rfl)) _).drew⟩
     all_goals
      rw [znk]
      unfold upd
      dsimp only
      by_cases e1 : i = 5 + m
      ·rw [if_pos e1, if_pos (by omega), e1]
       unfold zpL
       simp only [if_true, if_false, Nat.zero_ne_one, hz1, hz2]
      ·rw [if_neg e1]
       by_cases e2 : i = m
       ·rw [if_pos e2, if_pos (by omega), e2]
        unfold zpL
        simp only [if_true, if_false, Nat.zero_ne_one, hx1, hx2]
       ·rw [if_neg e2, if_neg (by omega)]
   ·obtain rfl : m = 5 := by have := hm'.out; omega
    go_wp2
    refine bodyPost_end (results_none rfl _ _ _) rfl ?_
    refine ⟨rfl, hB, zaf hP (fun i hi => ?_), zaf hQ (fun i hi => ?_)⟩
    all_goals
     unfold zsU
     rw [if_pos (by omega)]
 ·go_enter Tryz.func48, Tryz.ntmps48
  go_wp2
  go_loopg [12] 5 (fun n i wr => ∃ m : Nat, m + n = 5 ∧ i = .int .i64 m ∧ wr.heap[P]? = some (.cells (arr .u64 10 fun i => ((zsU 1 m F G i : Nat) : Int)) 72 (0, 0)) ∧
   wr.heap[Q]? = some (.cells (arr .u64 10 fun i => ((zsU 1 m G F i : Nat) : Int)) 72 (0, 0)) ∧ Bar P Q w wr)
  case atStart => exact ⟨0, rfl, rfl, zaf hP (fun i _ => by rw [zcO _ _ _ _ _ (by omega)]), zaf hQ (fun i _ => by rw [zcO _ _ _ _ _ (by omega)]), Bar.refl _ _ _⟩
  case round =>
   clear hP hQ
   obtain ⟨m, hm, rfl, hP, hQ, hB⟩ := hrel
   have hm' := Lib.hid hm
   clear hm
   by_cases hlt : m < 5
   ·have n1 : m % 5 = m := Nat.mod_eq_of_lt hlt
    have n2 : (5 + m) % 5 = m := by omega
    obtain ⟨x1, hx1⟩ : ∃ x, F m = x := ⟨_, rfl⟩
    obtain ⟨z1, hz1⟩ : ∃ x, F (5 + m) = x := ⟨_, rfl⟩
    obtain ⟨x2, hx2⟩ : ∃ x, G m = x := ⟨_, rfl⟩
    obtain ⟨z2, hz2⟩ : ∃ x, G (5 + m) = x := ⟨_, rfl⟩
    have lx1 : x1 < 18446744073709551616 := hx1 ▸ HF.out m (by omega)
    have lz1 : z1 < 18446744073709551616 := hz1 ▸ HF.out (5 + m) (by omega)
    have lx2 : x2 < 18446744073709551616 := hx2 ▸ HG.out m (by omega)
    have lz2 : z2 < 18446744073709551616 := hz2 ▸ HG.out (5 + m) (by omega)
    have p1 : wr.cell? ⟨P, m, none⟩ = some (.int .u64 (x1 : Int)) := by rw [zaj hP m (by omega), zcO _ _ _ _ _ (by omega), hx1]
    have p2 : wr.cell? ⟨P, 5 + m, none⟩ = some (.int .u64 (z1 : Int)) := by rw [zaj hP (5 + m) (by omega), zcO _ _ _ _ _ (by omega), hz1]
    have q1 : wr.cell? ⟨Q, m, none⟩ = some (.int .u64 (x2 : Int)) := by rw [zaj hQ m (by omega), zcO _ _ _ _ _ (by omega), hx2]
    have q2 : wr.cell? ⟨Q, 5 + m, none⟩ = some (.int .u64 (z2 : Int)) := by rw [zaj hQ (5 + m) (by omega), zcO _ _ _ _ _ (by omega), hz2]
    have fp := zaH hP
    have lP : P < wr.drew.heap.size := jM hP
    have lQ : Q < wr.drew.heap.size := jM hQ
    have fq := zaH hQ
    clear n1 n2
    go_upto_region 4 with (fail)
    (try simp only [Act.put, jA, jB, jC])
    refine wp_region_can wr.heap.size 31 [(0, false), (1, false), (2, false), (3, false), (4, false), (5, false), (6, false), (7, false), (8, false), (9, false), (10, false), (11, false), (12, false), (13, false), (14, false), (15, false), (16, false), (17, false), (18, false), (19, false), (20, false), (21, false), (22, false), (23, false), (24, false), (25, false), (26, false), (27, false), (28, false), (29, false), (30, false)] (by kernel_rfl) (by kernel_rfl) ?_
    (simp only [canOps, jD, jE, jF, jG])
    iterate 31 (first | (refine zay rfl rfl (fun _ _ _ _ h => h) ?_; (simp only [Act.put, Act.eval, jN, jL, jD, jE, jO, jA, jB, jC])) | (refine zar rfl rfl (fun _ _ _ _ h => h) ?_; (simp only [Act.put, Act.eval, jN, jL, jD, jE, jO, jA, jB, jC])) | (refine zao rfl rfl rfl (fun _ _ _ _ h => h) ?_; (simp only [Act.put, jA, jB, jC])) | (refine za1 rfl rfl (fun _ _ _ _ h => h) (by first | exact .bin rfl rfl rfl | exact .indexAddr rfl | exact .un rfl | exact .extract rfl | exact .index rfl | exact .field rfl | exact .slice rfl | exact .fieldT rfl zpM | exact .fieldT rfl zpN | exact .load rfl rfl lP hP | exact .load rfl rfl lQ hQ) (fun K hK => ?_); go_simp; (try (simp only [↓IntWalk.iteOmega]; go_simp)); (try go_bits); refine hK _ ?_; clear hK K))
    refine wpCan_nil ?_
    have ex1 := zCb x1 x2 lx1 lx2
    have ex2 := zz9 x1 x2 lx1 lx2
    have ez1 := zCb z1 z2 lz1 lz2
    have ez2 := zz9 z1 z2 lz1 lz2
    have EX1 := Lib.hid ex1
    have EX2 := Lib.hid ex2
    have EZ1 := Lib.hid ez1
    have EZ2 := Lib.hid ez2
    clear ex1 ex2 ez1 ez2
    go_upto_region 5 with (fail)
    (try simp only [Act.put, jA, jB, jC])
    have c1 : ∀ v, (wr.setCell ⟨P, m, none⟩ v).cell? ⟨Q, m, none⟩ = some (.int .u64 (x2 : Int)) := fun v => by rw [zfZ wr (by exact HN.out)]; exact q1
    have f1 : ∀ v, (wr.setCell ⟨P, m, none⟩ v).frozen? ⟨Q, m, none⟩ = false := fun v => frozen_of_row _ _ _ _ _ (zaq hQ _ _ (Ne.symm HN.out))
    go_region
    clear c1 f1 p1 q1
    simp only [EX1.out, EX2.out]
    have hP5 := zaq (C := Q) (zaJ hP m (x2 : Int)) m (.int .u64 (x1 : Int)) HN.out
    have hQ5 := zaJ (zaq (C := P) hQ m (.int .u64 (x2 : Int)) (Ne.symm HN.out)) m (x1 : Int)
    have hB5 := ((hB.set (.inl rfl) (i := m) (.int .u64 (x2 : Int))).set (.inr (.inl rfl)) (i := m) (.int .u64 (x1 : Int))).drew.drew
    clear p2 q2 fp fq lP lQ hP hQ hB
    generalize ((wr.setCell ⟨P, m, none⟩ (.int .u64 (x2 : Int))).setCell ⟨Q, m, none⟩ (.int .u64 (x1 : Int))) = ws at *
    have p2 : ws.cell? ⟨P, 5 + m, none⟩ = some (.int .u64 (z1 : Int)) := by rw [zaj hP5 (5 + m) (by omega)]; unfold upd; rw [if_neg (by omega)]; dsimp only; rw [zcO _ _ _ _ _ (by omega), hz1]
    have q2 : ws.cell? ⟨Q, 5 + m, none⟩ = some (.int .u64 (z2 : Int)) := by rw [zaj hQ5 (5 + m) (by omega)]; unfold upd; rw [if_neg (by omega)]; dsimp only; rw [zcO _ _ _ _ _ (by omega), hz2]
    have fp := zaH hP5
    have fq := zaH hQ5
    go_upto_region 6 with (fail)
    (try simp only [Act.put, jA, jB, jC])
    have c1 : ∀ v, (ws.setCell ⟨P, 5 + m, none⟩ v).cell? ⟨Q, 5 + m, none⟩ = some (.int .u64 (z2 : Int)) := fun v => by rw [zfZ ws (by exact HN.out)]; exact q2
    have f1 : ∀ v, (ws.setCell ⟨P, 5 + m, none⟩ v).frozen? ⟨Q, 5 + m, none⟩ = false := fun v => frozen_of_row _ _ _ _ _ (zaq hQ5 _ _ (Ne.symm HN.out))
    go_region
    clear c1 f1 p2 q2
    simp only [EZ1.out, EZ2.out]
    go_wp2
    go_roundg (gk - 1)
    case measure => have := hm'.out; omega
    case rel =>
     have hm'' := hm'.out
     refine ⟨m + 1, by omega, by go_num, zaf (zaq (C := Q) (zaJ hP5 (5 + m) (z2 : Int)) (5 + m) _ HN.out) (fun i hi => ?_), zaf (zaJ (zaq (C := P) hQ5 (5 + m) _ (Ne.symm HN.out)) (5 + m) (z1 : Int)) (fun i hi => ?_), ((hB5.set (.inl rfl) _).set (.inr (.inl rfl)) _).drew⟩
     all_goals
      rw [znk]
      unfold upd
      dsimp only
      by_cases e1 : i = 5 + m
      ·rw [if_pos e1, if_pos (by omega), e1]
       unfold zpL
       simp only [if_true, if_false, Nat.zero_ne_one, hz1, hz2]
      ·rw [if_neg e1]
       by_cases e2 : i = m
       ·rw [if_pos e2, if_pos (by omega), e2]
        unfold zpL
        simp only [if_true, if_false, Nat.zero_ne_one, hx1, hx2]
       ·rw [if_neg e2, if_neg (by omega)]
   ·obtain rfl : m = 5 := by have := hm'.out; omega
    go_wp2
    refine bodyPost_end (results_none rfl _ _ _) rfl ?_
    refine ⟨rfl, hB, zaf hP (fun i hi => ?_), zaf hQ (fun i hi => ?_)⟩
    all_goals
     unfold zsU
     rw [if_pos (by omega)]
end
section
open Go.RowKit
attribute [local irreducible] zdZ zbi zbD zdj zcN sqN zh5 zh6 zch zbU zbY zer ofN
section
variable {P : Program} {Q : Exit → Act → World → Prop} {a : Act} {ops : Array Oper} {o : Oper} {r : zfn} {w : World}
theorem zaY {ty : TypeId} {x : Operand} {n M t g off : Nat} {k : IntKind} {f : Nat → Int} {fr : Nat × Nat} (f' : Nat → Int) (hg : Region.wanted o (yielded ops a.tmps) = true) (ho : o.op = .load ty x) (hx : a.eval x = .pointer (some ⟨g, off, none⟩)) (hT : zeB P ty n)
  (hc : w.heap[g]? = some (.cells (arr k M f) t fr)) (hle : off + n ≤ M) (hf : ∀ i, i < n → f (off + i) = f' i) (h : r (.agg (arr k n f')) w) : zbX P ops Q o r a w :=
 zpk hg (by rw [zcd ho hx (zcj hT hc hle), show (zhR n fun i => Value.int k (f (off + i))) = arr k n f' from zcc hf]) h
end
theorem zai {w : World} {A B : Nat} {c c' : Array Value} {t t' : TypeId} {fr fr' : Nat × Nat} (h : w.heap[A]? = some (.cells c t fr)) (h' : w.heap[B]? = some (.cells c' t' fr')) (hne : t ≠ t') : A ≠ B := fun e => by
 subst e
 rw [h] at h'
 injection h' with h'
 injection h' with _ h' _
 exact hne h'
theorem zkm (F G : Nat → Nat) (i : Nat) (hi : i < 5) : ((zbW F G (0 + i) : Nat) : Int) = ((F i : Nat) : Int) := by unfold zbW; rw [if_pos (by omega), Nat.zero_add]
theorem zkn (F G : Nat → Nat) (i : Nat) (hi : i < 5) : ((zbW F G (5 + i) : Nat) : Int) = ((G i : Nat) : Int) := by unfold zbW; rw [if_neg (by omega), Nat.add_sub_cancel_left]
theorem zgq (F G : Nat → Nat) : Tryz.prog.built 72 [(0, .agg (arr .u64 5 fun i => ((F i : Nat) : Int))), (1, .agg (arr .u64 5 fun i => ((G i : Nat) : Int)))] = some (arr .u64 10 fun i => ((zbW F G i : Nat) : Int)) := by kernel_rfl
structure Lad (w : World) (RV R LO HI FI : Nat) (L H U : Nat → Nat) : Prop where
 rv : w.heap[RV]? = some (.cells #[.pointer (some ⟨R, 0, none⟩)] 64 (0, 0))
 r : w.heap[R]? = some (.cells (arr .i64 1 fun _ => 0) 66 (0, 0))
 lo : w.heap[LO]? = some (.cells (arr .u64 10 fun i => ((L i : Nat) : Int)) 72 (0, 0))
 hi : w.heap[HI]? = some (.cells (arr .u64 10 fun i => ((H i : Nat) : Int)) 72 (0, 0))
 fi : w.heap[FI]? = some (.cells (arr .u64 5 fun i => ((U i : Nat) : Int)) 69 (0, 0))
def sA (X Z : Nat → Nat) := zh5 X Z
def sB (X Z : Nat → Nat) := zh6 X Z
def sDA (X Z X' Z' : Nat → Nat) := zbD (zh6 X' Z') (sA X Z)
def sCB (X Z X' Z' : Nat → Nat) := zbD (zh5 X' Z') (sB X Z)
def sHX (X Z X' Z' : Nat → Nat) := sqN (zh5 (sDA X Z X' Z') (sCB X Z X' Z')) 1
def sHZ (X Z X' Z' U : Nat → Nat) := zbD U (sqN (zh6 (sDA X Z X' Z') (sCB X Z X' Z')) 1)
def sAA (X Z : Nat → Nat) := sqN (sA X Z) 1
def sBB (X Z : Nat → Nat) := sqN (sB X Z) 1
def sE (X Z : Nat → Nat) := zh6 (sAA X Z) (sBB X Z)
def sLX (X Z : Nat → Nat) := zbD (sAA X Z) (sBB X Z)
def sLZ (X Z : Nat → Nat) := zbD (sE X Z) (zh5 (sAA X Z) (zbD (zch 121665) (sE X Z)))
section
variable {X Z X' Z' U : Nat → Nat}
theorem zA1 (h : okF X 5) (h' : okF Z 5) : okF (sA X Z) 5 := zki h h'
theorem zA2 (h : okF X 5) (h' : okF Z 5) : okF (sB X Z) 5 := zji h
theorem zsV (h1 : okF X 5) (h2 : okF Z 5) (h3 : okF X' 5) (h4 : okF Z' 5) : okF (sDA X Z X' Z') 5 := zeg _ _ (zji h3) (zA1 h1 h2)
theorem zyj (h1 : okF X 5) (h2 : okF Z 5) (h3 : okF X' 5) (h4 : okF Z' 5) : okF (sCB X Z X' Z') 5 := zeg _ _ (zki h3 h4) (zA2 h1 h2)
theorem zsW (h : okF X 5) (h' : okF Z 5) : okF (sAA X Z) 5 := zjg _ (zA1 h h') 1
theorem zAa (h : okF X 5) (h' : okF Z 5) : okF (sBB X Z) 5 := zjg _ (zA2 h h') 1
theorem zA3 (h : okF X 5) (h' : okF Z 5) : okF (sE X Z) 5 := zji (zsW h h')
theorem zjo : okF (zch 121665) 5 := zwL (by omega)
end
theorem zpO (RV R LO HI FI : Nat) (X Z X' Z' U : Nat → Nat) (oX : okF X 5) (oZ : okF Z 5) (oX' : okF X' 5) (oZ' : okF Z' 5) (oU : okF U 5) (hne : LO ≠ HI) (w : World) (L : Lad w RV R LO HI FI (zbW X Z) (zbW X' Z') U) :
  Calls Tryz.prog 43 #[.pointer (some ⟨RV, 0, none⟩), .pointer (some ⟨LO, 0, none⟩), .pointer (some ⟨HI, 0, none⟩), .pointer (some ⟨FI, 0, none⟩)] w fun e w' => e = .returned (.tuple #[]) ∧ Bar LO HI w w' ∧
   Lad w' RV R LO HI FI (zbW (sLX X Z) (sLZ X Z)) (zbW (sHX X Z X' Z') (sHZ X Z X' Z' U)) U := by
 obtain ⟨hrv, hr, hlo, hhi, hfi⟩ := L
 have OX := Lib.hid oX
 have OZ := Lib.hid oZ
 have OX' := Lib.hid oX'
 have OZ' := Lib.hid oZ'
 have OU := Lib.hid oU
 have n1 := Lib.hid (zai hrv hlo (by decide))
 have n2 := Lib.hid (zai hrv hhi (by decide))
 have n3 := Lib.hid (zai hr hlo (by decide))
 have n4 := Lib.hid (zai hr hhi (by decide))
 have n5 := Lib.hid (zai hfi hlo (by decide))
 have n6 := Lib.hid (zai hfi hhi (by decide))
 have N7 := Lib.hid hne
 clear oX oZ oX' oZ' oU hne
 go_enter Tryz.func43, Tryz.ntmps43
 go_upto_region 0 with (fail)
 (try simp only [Act.put, jA, jB, jC])
 refine zo6 (fun x => x.heap[RV]? = some (.cells #[.pointer (some ⟨R, 0, none⟩)] 64 (0, 0)) ∧ x.heap[R]? = some (.cells (arr .i64 1 fun _ => 0) 66 (0, 0)) ∧ x.heap[LO]? = some (.cells (arr .u64 10 fun i => ((zbW X Z i : Nat) : Int)) 72 (0, 0)) ∧ x.heap[HI]? = some (.cells (arr .u64 10 fun i => ((zbW X' Z' i : Nat) : Int)) 72 (0, 0)) ∧ x.heap[FI]? = some (.cells (arr .u64 5 fun i => ((U i : Nat) : Int)) 69 (0, 0)) ∧ Bar LO HI w x) ⟨hrv, hr, hlo, hhi, hfi, Bar.refl _ _ _⟩ ?_
 clear hrv hr hlo hhi hfi
 rintro wq ⟨hrv, hr, hlo, hhi, hfi, hb⟩
 have lw := hb.size
 refine zei 14 [Is (.pointer (some ⟨R, 0, none⟩)), Is (.pointer (some ⟨LO, 0, none⟩)), Is (.agg (arr .u64 5 fun i => ((X i : Nat) : Int))), Is (.pointer (some ⟨LO, 5, none⟩)), Is (.agg (arr .u64 5 fun i => ((Z i : Nat) : Int))), Is (.agg (arr .u64 5 fun i => (((sA X Z) i : Nat) : Int))), Is (.pointer (some ⟨R, 0, none⟩)), Is (.pointer (some ⟨LO, 0, none⟩)), Is (.agg (arr .u64 5 fun i => ((X i : Nat) : Int))), Is (.pointer (some ⟨LO, 5, none⟩)), Is (.agg (arr .u64 5 fun i => ((Z i : Nat) : Int))), Is (.agg (arr .u64 5 fun i => (((sB X Z) i : Nat) : Int))), ziU wq.heap.size (.cells (arr .u64 5 fun _ => 0) 69), ziU wq.heap.size (.cells (arr .u64 5 fun _ => 0) 69)] [[], [], [1], [], [3], [0, 2, 4], [], [], [7], [], [9], [6, 8, 10], [], []] [(12, 13)] (by kernel_rfl) (by kernel_rfl) (by kernel_rfl) rfl (zaG (zaF _) (zaG (zaF _) (zaG (zaF _) (zaG (zaF _) (zaG (zaF _) (zaG (zaF _) (zaG (zaF _) (zaG (zaF _) (zaG (zaF _) (zaG (zaF _) (zaG (zaF _) (zaG (zaF _) (zaG (zcV _ _) (zaG (zcV _ _) ziT)))))))))))))) ?_ ?_
 ·(simp only [jH, jI, jF, jG, List.zip_cons_cons, List.zip_nil_left, List.zip_nil_right, zd1, zfx, zcB, zdv, zbo, zbx, zbO, jD, jE, List.range_succ, List.range_zero, List.nil_append, List.cons_append, Act.put, jA, jB, jC])
  refine ⟨?_, ?_, ?_, ?_, ?_, ?_, ?_, ?_, ?_, ?_, ?_, ?_, ?_, ?_, trivial⟩
  ·intro x0 x1 x2 x3 x4 x5 x6 x7 x8 x9 x10 x11 x12 x13 w' hb' 
   have cr := cell_of_row _ _ 0 _ _ _ (zaa hb' (jM (w := wq) hrv) hrv)
   refine zaZ (zaP rfl (fun K hK => ?_)) rfl
   go_simp
   exact hK _ _ (Below.refl _ _) rfl
  ·intro x0 x1 x2 x3 x4 x5 x6 x7 x8 x9 x10 x11 x12 x13 w' hb' 
   refine zaZ (zaP rfl (fun K hK => ?_)) rfl
   go_simp
   exact hK _ _ (Below.refl _ _) rfl
  ·intro x0 x1 x2 x3 x4 x5 x6 x7 x8 x9 x10 x11 x12 x13 w' hb' e0
   unfold Is at e0
   subst e0
   exact zaZ (zaY (fun i => ((X i : Nat) : Int)) rfl rfl rfl za8 (zaa hb' (jM (w := wq) hlo) hlo) (by omega) (fun i hi => zkm _ _ i hi) rfl) rfl
  ·intro x0 x1 x2 x3 x4 x5 x6 x7 x8 x9 x10 x11 x12 x13 w' hb' 
   refine zaZ (zaP rfl (fun K hK => ?_)) rfl
   go_simp
   exact hK _ _ (Below.refl _ _) rfl
  ·intro x0 x1 x2 x3 x4 x5 x6 x7 x8 x9 x10 x11 x12 x13 w' hb' e0
   unfold Is at e0
   subst e0
   exact zaZ (zaY (fun i => ((Z i : Nat) : Int)) rfl rfl rfl za8 (zaa hb' (jM (w := wq) hlo) hlo) (by omega) (fun i hi => zkn _ _ i hi) rfl) rfl
  ·intro x0 x1 x2 x3 x4 x5 x6 x7 x8 x9 x10 x11 x12 x13 w' hb' e0 e1 e2
   unfold Is at e0 e1 e2
   subst e0 e1 e2
   refine zaZ (zaP rfl (fun K hK => ?_)) rfl
   go_simp
   refine (zim R X Z OX.out OZ.out _ (zaa hb' (jM (w := wq) hr) hr)).mono ?_
   rintro e w4 ⟨rfl, b4⟩
   exact hK _ _ b4 (by unfold Is sA; rfl)
  ·intro x0 x1 x2 x3 x4 x5 x6 x7 x8 x9 x10 x11 x12 x13 w' hb' 
   have cr := cell_of_row _ _ 0 _ _ _ (zaa hb' (jM (w := wq) hrv) hrv)
   refine zaZ (zaP rfl (fun K hK => ?_)) rfl
   go_simp
   exact hK _ _ (Below.refl _ _) rfl
  ·intro x0 x1 x2 x3 x4 x5 x6 x7 x8 x9 x10 x11 x12 x13 w' hb' 
   refine zaZ (zaP rfl (fun K hK => ?_)) rfl
   go_simp
   exact hK _ _ (Below.refl _ _) rfl
  ·intro x0 x1 x2 x3 x4 x5 x6 x7 x8 x9 x10 x11 x12 x13 w' hb' e0
   unfold Is at e0
   subst e0
   exact zaZ (zaY (fun i => ((X i : Nat) : Int)) rfl rfl rfl za8 (zaa hb' (jM (w := wq) hlo) hlo) (by omega) (fun i hi => zkm _ _ i hi) rfl) rfl
  ·intro x0 x1 x2 x3 x4 x5 x6 x7 x8 x9 x10 x11 x12 x13 w' hb' 
   refine zaZ (zaP rfl (fun K hK => ?_)) rfl
   go_simp
   exact hK _ _ (Below.refl _ _) rfl
  ·intro x0 x1 x2 x3 x4 x5 x6 x7 x8 x9 x10 x11 x12 x13 w' hb' e0
   unfold Is at e0
   subst e0
   exact zaZ (zaY (fun i => ((Z i : Nat) : Int)) rfl rfl rfl za8 (zaa hb' (jM (w := wq) hlo) hlo) (by omega) (fun i hi => zkn _ _ i hi) rfl) rfl
  ·intro x0 x1 x2 x3 x4 x5 x6 x7 x8 x9 x10 x11 x12 x13 w' hb' e0 e1 e2
   unfold Is at e0 e1 e2
   subst e0 e1 e2
   refine zaZ (zaP rfl (fun K hK => ?_)) rfl
   go_simp
   refine (zin R X Z OX.out OZ.out _ (zaa hb' (jM (w := wq) hr) hr)).mono ?_
   rintro e w4 ⟨rfl, b4⟩
   exact hK _ _ b4 (by unfold Is sB; rfl)
  ·intro x0 x1 x2 x3 x4 x5 x6 x7 x8 x9 x10 x11 x12 x13 w' hb' 
   exact zdC rfl rfl zfV ⟨_, rfl, hb'.size, heap_alloc_new _ _⟩
  ·intro x0 x1 x2 x3 x4 x5 x6 x7 x8 x9 x10 x11 x12 x13 w' hb' 
   exact zdC rfl rfl zfV ⟨_, rfl, hb'.size, heap_alloc_new _ _⟩
 ·(simp only [jH, jI, jF, jG, List.zip_cons_cons, List.zip_nil_left, List.zip_nil_right, zd1, zfx, zcB, zdv, zbo, zbx, zbO, jD, jE, List.range_succ, List.range_zero, List.nil_append, List.cons_append, Act.put, jA, jB, jC])
  rintro x0 x1 x2 x3 x4 x5 x6 x7 x8 x9 x10 x11 x12 x13 w5 hb' e0 e1 e2 e3 e4 e5 e6 e7 e8 e9 e10 e11 e12 e13 d0
  unfold Is at e0 e1 e2 e3 e4 e5 e6 e7 e8 e9 e10 e11
  subst e0 e1 e2 e3 e4 e5 e6 e7 e8 e9 e10 e11
  obtain ⟨BA, rfl, lBA, hA⟩ := e12
  replace lBA : wq.heap.size ≤ BA := lBA
  obtain ⟨BB, rfl, lBB, hB⟩ := e13
  replace lBB : wq.heap.size ≤ BB := lBB
  have nBABB : BA ≠ BB := fun e => d0 (by rw [e])
  clear d0
  have l_hrv := jM (w := wq) hrv
  replace hrv := zaa hb' l_hrv hrv
  have l_hr := jM (w := wq) hr
  replace hr := zaa hb' l_hr hr
  have l_hlo := jM (w := wq) hlo
  replace hlo := zaa hb' l_hlo hlo
  have l_hhi := jM (w := wq) hhi
  replace hhi := zaa hb' l_hhi hhi
  have l_hfi := jM (w := wq) hfi
  replace hfi := zaa hb' l_hfi hfi
  replace hb := (Bar.drewl (Bar.of_below (P := LO) (Q := HI) (w := wq.drew) hb') |> fun h => hb.drew.trans (w' := wq.drew) (by exact ⟨h.os, h.tape, h.output, h.size, h.block⟩))
  go_upto_region 1 with (first | (refine zac rfl rfl rfl rfl za8 hA ?_) | (refine zac rfl rfl rfl rfl za8 (zad hB (Ne.symm nBABB)) ?_))
  replace hrv := zad (g := BA) (c' := (arr .u64 5 fun i => (((sA X Z) i : Nat) : Int))) hrv (Nat.ne_of_lt (jT l_hrv lBA))
  replace hr := zad (g := BA) (c' := (arr .u64 5 fun i => (((sA X Z) i : Nat) : Int))) hr (Nat.ne_of_lt (jT l_hr lBA))
  replace hlo := zad (g := BA) (c' := (arr .u64 5 fun i => (((sA X Z) i : Nat) : Int))) hlo (Nat.ne_of_lt (jT l_hlo lBA))
  replace hhi := zad (g := BA) (c' := (arr .u64 5 fun i => (((sA X Z) i : Nat) : Int))) hhi (Nat.ne_of_lt (jT l_hhi lBA))
  replace hfi := zad (g := BA) (c' := (arr .u64 5 fun i => (((sA X Z) i : Nat) : Int))) hfi (Nat.ne_of_lt (jT l_hfi lBA))
  replace hA := zan (c' := (arr .u64 5 fun i => (((sA X Z) i : Nat) : Int))) hA
  replace hB := zad (g := BA) (c' := (arr .u64 5 fun i => (((sA X Z) i : Nat) : Int))) hB (Ne.symm nBABB)
  replace hb := hb.row (g := BA) (.inr (.inr (jU lw lBA))) (arr .u64 5 fun i => (((sA X Z) i : Nat) : Int))
  replace hrv := zad (g := BB) (c' := (arr .u64 5 fun i => (((sB X Z) i : Nat) : Int))) hrv (Nat.ne_of_lt (jT l_hrv lBB))
  replace hr := zad (g := BB) (c' := (arr .u64 5 fun i => (((sB X Z) i : Nat) : Int))) hr (Nat.ne_of_lt (jT l_hr lBB))
  replace hlo := zad (g := BB) (c' := (arr .u64 5 fun i => (((sB X Z) i : Nat) : Int))) hlo (Nat.ne_of_lt (jT l_hlo lBB))
  replace hhi := zad (g := BB) (c' := (arr .u64 5 fun i => (((sB X Z) i : Nat) : Int))) hhi (Nat.ne_of_lt (jT l_hhi lBB))
  replace hfi := zad (g := BB) (c' := (arr .u64 5 fun i => (((sB X Z) i : Nat) : Int))) hfi (Nat.ne_of_lt (jT l_hfi lBB))
  replace hA := zad (g := BB) (c' := (arr .u64 5 fun i => (((sB X Z) i : Nat) : Int))) hA nBABB
  replace hB := zan (c' := (arr .u64 5 fun i => (((sB X Z) i : Nat) : Int))) hB
  replace hb := hb.row (g := BB) (.inr (.inr (jU lw lBB))) (arr .u64 5 fun i => (((sB X Z) i : Nat) : Int))
  replace lw : w.heap.size ≤ ((w5.setRow BA (arr .u64 5 fun i => (((sA X Z) i : Nat) : Int))).setRow BB (arr .u64 5 fun i => (((sB X Z) i : Nat) : Int))).heap.size := hb.size
  clear l_hrv l_hr l_hlo l_hhi l_hfi lBA lBB hb' nBABB
  generalize ((w5.setRow BA (arr .u64 5 fun i => (((sA X Z) i : Nat) : Int))).setRow BB (arr .u64 5 fun i => (((sB X Z) i : Nat) : Int))) = wn at *
  clear wq
  obtain ⟨wq, rfl⟩ : ∃ x, x = wn := ⟨_, rfl⟩
  (try simp only [Act.put, jA, jB, jC])
  refine zei 20 [Is (.pointer (some ⟨R, 0, none⟩)), Is (.pointer (some ⟨R, 0, none⟩)), Is (.pointer (some ⟨HI, 0, none⟩)), Is (.agg (arr .u64 5 fun i => ((X' i : Nat) : Int))), Is (.pointer (some ⟨HI, 5, none⟩)), Is (.agg (arr .u64 5 fun i => ((Z' i : Nat) : Int))), Is (.agg (arr .u64 5 fun i => (((zh6 X' Z') i : Nat) : Int))), Is (.agg (arr .u64 5 fun i => (((sA X Z) i : Nat) : Int))), Is (.agg (arr .u64 5 fun i => (((sDA X Z X' Z') i : Nat) : Int))), Is (.pointer (some ⟨R, 0, none⟩)), Is (.pointer (some ⟨R, 0, none⟩)), Is (.pointer (some ⟨HI, 0, none⟩)), Is (.agg (arr .u64 5 fun i => ((X' i : Nat) : Int))), Is (.pointer (some ⟨HI, 5, none⟩)), Is (.agg (arr .u64 5 fun i => ((Z' i : Nat) : Int))), Is (.agg (arr .u64 5 fun i => (((zh5 X' Z') i : Nat) : Int))), Is (.agg (arr .u64 5 fun i => (((sB X Z) i : Nat) : Int))), Is (.agg (arr .u64 5 fun i => (((sCB X Z X' Z') i : Nat) : Int))), ziU wq.heap.size (.cells (arr .u64 5 fun _ => 0) 69), ziU wq.heap.size (.cells (arr .u64 5 fun _ => 0) 69)] [[], [], [], [2], [], [4], [1, 3, 5], [], [0, 6, 7], [], [], [], [11], [], [13], [10, 12, 14], [], [9, 15, 16], [], []] [(18, 19)] (by kernel_rfl) (by kernel_rfl) (by kernel_rfl) rfl (zaG (zaF _) (zaG (zaF _) (zaG (zaF _) (zaG (zaF _) (zaG (zaF _) (zaG (zaF _) (zaG (zaF _) (zaG (zaF _) (zaG (zaF _) (zaG (zaF _) (zaG (zaF _) (zaG (zaF _) (zaG (zaF _) (zaG (zaF _) (zaG (zaF _) (zaG (zaF _) (zaG (zaF _) (zaG (zaF _) (zaG (zcV _ _) (zaG (zcV _ _) ziT)))))))))))))))))))) ?_ ?_
  ·(simp only [jH, jI, jF, jG, List.zip_cons_cons, List.zip_nil_left, List.zip_nil_right, zd1, zfx, zcB, zdv, zbo, zbx, zbO, jD, jE, List.range_succ, List.range_zero, List.nil_append, List.cons_append, Act.put, jA, jB, jC])
   refine ⟨?_, ?_, ?_, ?_, ?_, ?_, ?_, ?_, ?_, ?_, ?_, ?_, ?_, ?_, ?_, ?_, ?_, ?_, ?_, ?_, trivial⟩
   ·intro x0 x1 x2 x3 x4 x5 x6 x7 x8 x9 x10 x11 x12 x13 x14 x15 x16 x17 x18 x19 w' hb' 
    have cr := cell_of_row _ _ 0 _ _ _ (zaa hb' (jM (w := wq) hrv) hrv)
    refine zaZ (zaP rfl (fun K hK => ?_)) rfl
    go_simp
    exact hK _ _ (Below.refl _ _) rfl
   ·intro x0 x1 x2 x3 x4 x5 x6 x7 x8 x9 x10 x11 x12 x13 x14 x15 x16 x17 x18 x19 w' hb' 
    have cr := cell_of_row _ _ 0 _ _ _ (zaa hb' (jM (w := wq) hrv) hrv)
    refine zaZ (zaP rfl (fun K hK => ?_)) rfl
    go_simp
    exact hK _ _ (Below.refl _ _) rfl
   ·intro x0 x1 x2 x3 x4 x5 x6 x7 x8 x9 x10 x11 x12 x13 x14 x15 x16 x17 x18 x19 w' hb' 
    refine zaZ (zaP rfl (fun K hK => ?_)) rfl
    go_simp
    exact hK _ _ (Below.refl _ _) rfl
   ·intro x0 x1 x2 x3 x4 x5 x6 x7 x8 x9 x10 x11 x12 x13 x14 x15 x16 x17 x18 x19 w' hb' e0
    unfold Is at e0
    subst e0
    exact zaZ (zaY (fun i => ((X' i : Nat) : Int)) rfl rfl rfl za8 (zaa hb' (jM (w := wq) hhi) hhi) (by omega) (fun i hi => zkm _ _ i hi) rfl) rfl
   ·intro x0 x1 x2 x3 x4 x5 x6 x7 x8 x9 x10 x11 x12 x13 x14 x15 x16 x17 x18 x19 w' hb' 
    refine zaZ (zaP rfl (fun K hK => ?_)) rfl
    go_simp
    exact hK _ _ (Below.refl _ _) rfl
   ·intro x0 x1 x2 x3 x4 x5 x6 x7 x8 x9 x10 x11 x12 x13 x14 x15 x16 x17 x18 x19 w' hb' e0
    unfold Is at e0
    subst e0
    exact zaZ (zaY (fun i => ((Z' i : Nat) : Int)) rfl rfl rfl za8 (zaa hb' (jM (w := wq) hhi) hhi) (by omega) (fun i hi => zkn _ _ i hi) rfl) rfl
   ·intro x0 x1 x2 x3 x4 x5 x6 x7 x8 x9 x10 x11 x12 x13 x14 x15 x16 x17 x18 x19 w' hb' e0 e1 e2
    unfold Is at e0 e1 e2
    subst e0 e1 e2
    refine zaZ (zaP rfl (fun K hK => ?_)) rfl
    go_simp
    refine (zin R X' Z' OX'.out OZ'.out _ (zaa hb' (jM (w := wq) hr) hr)).mono ?_
    rintro e w4 ⟨rfl, b4⟩
    exact hK _ _ b4 (by unfold Is; rfl)
   ·intro x0 x1 x2 x3 x4 x5 x6 x7 x8 x9 x10 x11 x12 x13 x14 x15 x16 x17 x18 x19 w' hb' 
    exact zaZ (zbq rfl rfl rfl za8 (zaa hb' (jM (w := wq) hA) hA) rfl) rfl
   ·intro x0 x1 x2 x3 x4 x5 x6 x7 x8 x9 x10 x11 x12 x13 x14 x15 x16 x17 x18 x19 w' hb' e0 e1 e2
    unfold Is at e0 e1 e2
    subst e0 e1 e2
    refine zaZ (zaP rfl (fun K hK => ?_)) rfl
    go_simp
    refine (zet R (zh6 X' Z') (sA X Z) (zji OX'.out) (zA1 OX.out OZ.out) _ (zaa hb' (jM (w := wq) hr) hr)).mono ?_
    rintro e w4 ⟨rfl, b4⟩
    exact hK _ _ b4 (by unfold Is sDA; rfl)
   ·intro x0 x1 x2 x3 x4 x5 x6 x7 x8 x9 x10 x11 x12 x13 x14 x15 x16 x17 x18 x19 w' hb' 
    have cr := cell_of_row _ _ 0 _ _ _ (zaa hb' (jM (w := wq) hrv) hrv)
    refine zaZ (zaP rfl (fun K hK => ?_)) rfl
    go_simp
    exact hK _ _ (Below.refl _ _) rfl
   ·intro x0 x1 x2 x3 x4 x5 x6 x7 x8 x9 x10 x11 x12 x13 x14 x15 x16 x17 x18 x19 w' hb' 
    have cr := cell_of_row _ _ 0 _ _ _ (zaa hb' (jM (w := wq) hrv) hrv)
    refine zaZ (zaP rfl (fun K hK => ?_)) rfl
    go_simp
    exact hK _ _ (Below.refl _ _) rfl
   ·intro x0 x1 x2 x3 x4 x5 x6 x7 x8 x9 x10 x11 x12 x13 x14 x15 x16 x17 x18 x19 w' hb' 
    refine zaZ (zaP rfl (fun K hK => ?_)) rfl
    go_simp
    exact hK _ _ (Below.refl _ _) rfl
   ·intro x0 x1 x2 x3 x4 x5 x6 x7 x8 x9 x10 x11 x12 x13 x14 x15 x16 x17 x18 x19 w' hb' e0
    unfold Is at e0
    subst e0
    exact zaZ (zaY (fun i => ((X' i : Nat) : Int)) rfl rfl rfl za8 (zaa hb' (jM (w := wq) hhi) hhi) (by omega) (fun i hi => zkm _ _ i hi) rfl) rfl
   ·intro x0 x1 x2 x3 x4 x5 x6 x7 x8 x9 x10 x11 x12 x13 x14 x15 x16 x17 x18 x19 w' hb' 
    refine zaZ (zaP rfl (fun K hK => ?_)) rfl
    go_simp
    exact hK _ _ (Below.refl _ _) rfl
   ·intro x0 x1 x2 x3 x4 x5 x6 x7 x8 x9 x10 x11 x12 x13 x14 x15 x16 x17 x18 x19 w' hb' e0
    unfold Is at e0
    subst e0
    exact zaZ (zaY (fun i => ((Z' i : Nat) : Int)) rfl rfl rfl za8 (zaa hb' (jM (w := wq) hhi) hhi) (by omega) (fun i hi => zkn _ _ i hi) rfl) rfl
   ·intro x0 x1 x2 x3 x4 x5 x6 x7 x8 x9 x10 x11 x12 x13 x14 x15 x16 x17 x18 x19 w' hb' e0 e1 e2
    unfold Is at e0 e1 e2
    subst e0 e1 e2
    refine zaZ (zaP rfl (fun K hK => ?_)) rfl
    go_simp
    refine (zim R X' Z' OX'.out OZ'.out _ (zaa hb' (jM (w := wq) hr) hr)).mono ?_
    rintro e w4 ⟨rfl, b4⟩
    exact hK _ _ b4 (by unfold Is; rfl)
   ·intro x0 x1 x2 x3 x4 x5 x6 x7 x8 x9 x10 x11 x12 x13 x14 x15 x16 x17 x18 x19 w' hb' 
    exact zaZ (zbq rfl rfl rfl za8 (zaa hb' (jM (w := wq) hB) hB) rfl) rfl
   ·intro x0 x1 x2 x3 x4 x5 x6 x7 x8 x9 x10 x11 x12 x13 x14 x15 x16 x17 x18 x19 w' hb' e0 e1 e2
    unfold Is at e0 e1 e2
    subst e0 e1 e2
    refine zaZ (zaP rfl (fun K hK => ?_)) rfl
    go_simp
    refine (zet R (zh5 X' Z') (sB X Z) (zki OX'.out OZ'.out) (zA2 OX.out OZ.out) _ (zaa hb' (jM (w := wq) hr) hr)).mono ?_
    rintro e w4 ⟨rfl, b4⟩
    exact hK _ _ b4 (by unfold Is sCB; rfl)
   ·intro x0 x1 x2 x3 x4 x5 x6 x7 x8 x9 x10 x11 x12 x13 x14 x15 x16 x17 x18 x19 w' hb' 
    exact zdC rfl rfl zfV ⟨_, rfl, hb'.size, heap_alloc_new _ _⟩
   ·intro x0 x1 x2 x3 x4 x5 x6 x7 x8 x9 x10 x11 x12 x13 x14 x15 x16 x17 x18 x19 w' hb' 
    exact zdC rfl rfl zfV ⟨_, rfl, hb'.size, heap_alloc_new _ _⟩
  ·(simp only [jH, jI, jF, jG, List.zip_cons_cons, List.zip_nil_left, List.zip_nil_right, zd1, zfx, zcB, zdv, zbo, zbx, zbO, jD, jE, List.range_succ, List.range_zero, List.nil_append, List.cons_append, Act.put, jA, jB, jC])
   rintro x0 x1 x2 x3 x4 x5 x6 x7 x8 x9 x10 x11 x12 x13 x14 x15 x16 x17 x18 x19 w5 hb' e0 e1 e2 e3 e4 e5 e6 e7 e8 e9 e10 e11 e12 e13 e14 e15 e16 e17 e18 e19 d0
   unfold Is at e0 e1 e2 e3 e4 e5 e6 e7 e8 e9 e10 e11 e12 e13 e14 e15 e16 e17
   subst e0 e1 e2 e3 e4 e5 e6 e7 e8 e9 e10 e11 e12 e13 e14 e15 e16 e17
   obtain ⟨BD, rfl, lBD, hD⟩ := e18
   replace lBD : wq.heap.size ≤ BD := lBD
   obtain ⟨BC, rfl, lBC, hC⟩ := e19
   replace lBC : wq.heap.size ≤ BC := lBC
   have nBDBC : BD ≠ BC := fun e => d0 (by rw [e])
   clear d0
   have l_hrv := jM (w := wq) hrv
   replace hrv := zaa hb' l_hrv hrv
   have l_hr := jM (w := wq) hr
   replace hr := zaa hb' l_hr hr
   have l_hlo := jM (w := wq) hlo
   replace hlo := zaa hb' l_hlo hlo
   have l_hhi := jM (w := wq) hhi
   replace hhi := zaa hb' l_hhi hhi
   have l_hfi := jM (w := wq) hfi
   replace hfi := zaa hb' l_hfi hfi
   have l_hA := jM (w := wq) hA
   replace hA := zaa hb' l_hA hA
   have l_hB := jM (w := wq) hB
   replace hB := zaa hb' l_hB hB
   replace hb := (Bar.drewl (Bar.of_below (P := LO) (Q := HI) (w := wq.drew) hb') |> fun h => hb.drew.trans (w' := wq.drew) (by exact ⟨h.os, h.tape, h.output, h.size, h.block⟩))
   go_upto_region 2 with (first | (refine zac rfl rfl rfl rfl za8 hD ?_) | (refine zac rfl rfl rfl rfl za8 (zad hC (Ne.symm nBDBC)) ?_))
   replace hrv := zad (g := BD) (c' := (arr .u64 5 fun i => (((sDA X Z X' Z') i : Nat) : Int))) hrv (Nat.ne_of_lt (jT l_hrv lBD))
   replace hr := zad (g := BD) (c' := (arr .u64 5 fun i => (((sDA X Z X' Z') i : Nat) : Int))) hr (Nat.ne_of_lt (jT l_hr lBD))
   replace hlo := zad (g := BD) (c' := (arr .u64 5 fun i => (((sDA X Z X' Z') i : Nat) : Int))) hlo (Nat.ne_of_lt (jT l_hlo lBD))
   replace hhi := zad (g := BD) (c' := (arr .u64 5 fun i => (((sDA X Z X' Z') i : Nat) : Int))) hhi (Nat.ne_of_lt (jT l_hhi lBD))
   replace hfi := zad (g := BD) (c' := (arr .u64 5 fun i => (((sDA X Z X' Z') i : Nat) : Int))) hfi (Nat.ne_of_lt (jT l_hfi lBD))
   replace hA := zad (g := BD) (c' := (arr .u64 5 fun i => (((sDA X Z X' Z') i : Nat) : Int))) hA (Nat.ne_of_lt (jT l_hA lBD))
   replace hB := zad (g := BD) (c' := (arr .u64 5 fun i => (((sDA X Z X' Z') i : Nat) : Int))) hB (Nat.ne_of_lt (jT l_hB lBD))
   replace hD := zan (c' := (arr .u64 5 fun i => (((sDA X Z X' Z') i : Nat) : Int))) hD
   replace hC := zad (g := BD) (c' := (arr .u64 5 fun i => (((sDA X Z X' Z') i : Nat) : Int))) hC (Ne.symm nBDBC)
   replace hb := hb.row (g := BD) (.inr (.inr (jU lw lBD))) (arr .u64 5 fun i => (((sDA X Z X' Z') i : Nat) : Int))
   replace hrv := zad (g := BC) (c' := (arr .u64 5 fun i => (((sCB X Z X' Z') i : Nat) : Int))) hrv (Nat.ne_of_lt (jT l_hrv lBC))
   replace hr := zad (g := BC) (c' := (arr .u64 5 fun i => (((sCB X Z X' Z') i : Nat) : Int))) hr (Nat.ne_of_lt (jT l_hr lBC))
   replace hlo := zad (g := BC) (c' := (arr .u64 5 fun i => (((sCB X Z X' Z') i : Nat) : Int))) hlo (Nat.ne_of_lt (jT l_hlo lBC))
   replace hhi := zad (g := BC) (c' := (arr .u64 5 fun i => (((sCB X Z X' Z') i : Nat) : Int))) hhi (Nat.ne_of_lt (jT l_hhi lBC))
   replace hfi := zad (g := BC) (c' := (arr .u64 5 fun i => (((sCB X Z X' Z') i : Nat) : Int))) hfi (Nat.ne_of_lt (jT l_hfi lBC))
   replace hA := zad (g := BC) (c' := (arr .u64 5 fun i => (((sCB X Z X' Z') i : Nat) : Int))) hA (Nat.ne_of_lt (jT l_hA lBC))
   replace hB := zad (g := BC) (c' := (arr .u64 5 fun i => (((sCB X Z X' Z') i : Nat) : Int))) hB (Nat.ne_of_lt (jT l_hB lBC))
   replace hD := zad (g := BC) (c' := (arr .u64 5 fun i => (((sCB X Z X' Z') i : Nat) : Int))) hD nBDBC
   replace hC := zan (c' := (arr .u64 5 fun i => (((sCB X Z X' Z') i : Nat) : Int))) hC
   replace hb := hb.row (g := BC) (.inr (.inr (jU lw lBC))) (arr .u64 5 fun i => (((sCB X Z X' Z') i : Nat) : Int))
   replace lw : w.heap.size ≤ ((w5.setRow BD (arr .u64 5 fun i => (((sDA X Z X' Z') i : Nat) : Int))).setRow BC (arr .u64 5 fun i => (((sCB X Z X' Z') i : Nat) : Int))).heap.size := hb.size
   clear l_hrv l_hr l_hlo l_hhi l_hfi l_hA l_hB lBD lBC hb' nBDBC
   generalize ((w5.setRow BD (arr .u64 5 fun i => (((sDA X Z X' Z') i : Nat) : Int))).setRow BC (arr .u64 5 fun i => (((sCB X Z X' Z') i : Nat) : Int))) = wn at *
   clear wq
   obtain ⟨wq, rfl⟩ : ∃ x, x = wn := ⟨_, rfl⟩
   (try simp only [Act.put, jA, jB, jC])
   have lrv : RV < wq.drew.heap.size := jM (w := wq) hrv
   refine wp_region_can wq.heap.size 16 [(0, false), (1, false), (2, false), (3, false), (6, false), (7, false), (8, false), (9, false), (10, false), (11, false), (4, true), (5, true), (12, true), (13, true), (14, true), (15, false)] (by kernel_rfl) (by kernel_rfl) ?_
   (simp only [canOps, jD, jE, jF, jG])
   have c_rv : wq.drew.cell? ⟨RV, 0, none⟩ = some (.pointer (some ⟨R, 0, none⟩)) := cell_of_row _ _ 0 _ _ _ hrv
   iterate 1 (first | (refine zay rfl rfl (fun _ _ _ _ h => h) ?_; (simp only [Act.put, Act.eval, jN, jL, jD, jE, jO, jA, jB, jC])) | (refine zar rfl rfl (fun _ _ _ _ h => h) ?_; (simp only [Act.put, Act.eval, jN, jL, jD, jE, jO, jA, jB, jC])) | (refine zao rfl rfl rfl (fun _ _ _ _ h => h) ?_; (simp only [Act.put, jA, jB, jC])) | (refine za1 rfl rfl (fun _ _ _ _ h => h) (by first | exact .bin rfl rfl rfl | exact .indexAddr rfl | exact .un rfl | exact .extract rfl | exact .index rfl | exact .field rfl | exact .slice rfl | exact .load rfl rfl lrv hrv) (fun K hK => ?_); go_simp; (try (simp only [↓IntWalk.iteOmega]; go_simp)); (try go_bits); refine hK _ ?_; clear hK K))
   iterate 1 (first | (refine zay rfl rfl (fun _ _ _ _ h => h) ?_; (simp only [Act.put, Act.eval, jN, jL, jD, jE, jO, jA, jB, jC])) | (refine zar rfl rfl (fun _ _ _ _ h => h) ?_; (simp only [Act.put, Act.eval, jN, jL, jD, jE, jO, jA, jB, jC])) | (refine zao rfl rfl rfl (fun _ _ _ _ h => h) ?_; (simp only [Act.put, jA, jB, jC])) | (refine za1 rfl rfl (fun _ _ _ _ h => h) (by first | exact .bin rfl rfl rfl | exact .indexAddr rfl | exact .un rfl | exact .extract rfl | exact .index rfl | exact .field rfl | exact .slice rfl | exact .load rfl rfl lrv hrv) (fun K hK => ?_); go_simp; (try (simp only [↓IntWalk.iteOmega]; go_simp)); (try go_bits); refine hK _ ?_; clear hK K))
   refine zap rfl rfl rfl (fun _ _ _ _ h => h) za8 (jM (w := wq) hD) hD ?_
   (try simp only [Act.put, jA, jB, jC])
   refine zap rfl rfl rfl (fun _ _ _ _ h => h) za8 (jM (w := wq) hC) hC ?_
   (try simp only [Act.put, jA, jB, jC])
   iterate 1 (first | (refine zay rfl rfl (fun _ _ _ _ h => h) ?_; (simp only [Act.put, Act.eval, jN, jL, jD, jE, jO, jA, jB, jC])) | (refine zar rfl rfl (fun _ _ _ _ h => h) ?_; (simp only [Act.put, Act.eval, jN, jL, jD, jE, jO, jA, jB, jC])) | (refine zao rfl rfl rfl (fun _ _ _ _ h => h) ?_; (simp only [Act.put, jA, jB, jC])) | (refine za1 rfl rfl (fun _ _ _ _ h => h) (by first | exact .bin rfl rfl rfl | exact .indexAddr rfl | exact .un rfl | exact .extract rfl | exact .index rfl | exact .field rfl | exact .slice rfl | exact .load rfl rfl lrv hrv) (fun K hK => ?_); go_simp; (try (simp only [↓IntWalk.iteOmega]; go_simp)); (try go_bits); refine hK _ ?_; clear hK K))
   refine zap rfl rfl rfl (fun _ _ _ _ h => h) za8 (jM (w := wq) hfi) hfi ?_
   (try simp only [Act.put, jA, jB, jC])
   iterate 1 (first | (refine zay rfl rfl (fun _ _ _ _ h => h) ?_; (simp only [Act.put, Act.eval, jN, jL, jD, jE, jO, jA, jB, jC])) | (refine zar rfl rfl (fun _ _ _ _ h => h) ?_; (simp only [Act.put, Act.eval, jN, jL, jD, jE, jO, jA, jB, jC])) | (refine zao rfl rfl rfl (fun _ _ _ _ h => h) ?_; (simp only [Act.put, jA, jB, jC])) | (refine za1 rfl rfl (fun _ _ _ _ h => h) (by first | exact .bin rfl rfl rfl | exact .indexAddr rfl | exact .un rfl | exact .extract rfl | exact .index rfl | exact .field rfl | exact .slice rfl | exact .load rfl rfl lrv hrv) (fun K hK => ?_); go_simp; (try (simp only [↓IntWalk.iteOmega]; go_simp)); (try go_bits); refine hK _ ?_; clear hK K))
   iterate 1 (first | (refine zay rfl rfl (fun _ _ _ _ h => h) ?_; (simp only [Act.put, Act.eval, jN, jL, jD, jE, jO, jA, jB, jC])) | (refine zar rfl rfl (fun _ _ _ _ h => h) ?_; (simp only [Act.put, Act.eval, jN, jL, jD, jE, jO, jA, jB, jC])) | (refine zao rfl rfl rfl (fun _ _ _ _ h => h) ?_; (simp only [Act.put, jA, jB, jC])) | (refine za1 rfl rfl (fun _ _ _ _ h => h) (by first | exact .bin rfl rfl rfl | exact .indexAddr rfl | exact .un rfl | exact .extract rfl | exact .index rfl | exact .field rfl | exact .slice rfl | exact .load rfl rfl lrv hrv) (fun K hK => ?_); go_simp; (try (simp only [↓IntWalk.iteOmega]; go_simp)); (try go_bits); refine hK _ ?_; clear hK K))
   refine zap rfl rfl rfl (fun _ _ _ _ h => h) za8 (jM (w := wq) hD) hD ?_
   (try simp only [Act.put, jA, jB, jC])
   refine zap rfl rfl rfl (fun _ _ _ _ h => h) za8 (jM (w := wq) hC) hC ?_
   (try simp only [Act.put, jA, jB, jC])
   refine wpCan_e rfl (fun K hK => ?_)
   go_simp
   refine (zim R (sDA X Z X' Z') (sCB X Z X' Z') (zsV OX.out OZ.out OX'.out OZ'.out) (zyj OX.out OZ.out OX'.out OZ'.out) _ (by exact hr)).mono ?_
   rintro e v1 ⟨rfl, b1⟩
   refine hK _ _ (Keep.of_below b1 (jV _)) ?_
   clear hK K
   (try simp only [Act.put, jA, jB, jC])
   have cb := b1
   clear b1
   refine wpCan_e rfl (fun K hK => ?_)
   go_simp
   refine (ze8 R _ (zki (zsV OX.out OZ.out OX'.out OZ'.out) (zyj OX.out OZ.out OX'.out OZ'.out)) _ (by exact zaa (w := wq.drew) cb (jM (w := wq) hr) hr)).mono ?_
   rintro e v2 ⟨rfl, b2⟩
   refine hK _ _ (Keep.of_below b2 cb.size) ?_
   clear hK K
   (try simp only [Act.put, jA, jB, jC])
   replace cb := cb.trans (b2.mono cb.size)
   clear b2
   refine wpCan_e rfl (fun K hK => ?_)
   go_simp
   refine (zin R (sDA X Z X' Z') (sCB X Z X' Z') (zsV OX.out OZ.out OX'.out OZ'.out) (zyj OX.out OZ.out OX'.out OZ'.out) _ (by exact zaa (w := wq.drew) cb (jM (w := wq) hr) hr)).mono ?_
   rintro e v3 ⟨rfl, b3⟩
   refine hK _ _ (Keep.of_below b3 cb.size) ?_
   clear hK K
   (try simp only [Act.put, jA, jB, jC])
   replace cb := cb.trans (b3.mono cb.size)
   clear b3
   refine wpCan_e rfl (fun K hK => ?_)
   go_simp
   refine (ze8 R _ (zji (zsV OX.out OZ.out OX'.out OZ'.out)) _ (by exact zaa (w := wq.drew) cb (jM (w := wq) hr) hr)).mono ?_
   rintro e v4 ⟨rfl, b4⟩
   refine hK _ _ (Keep.of_below b4 cb.size) ?_
   clear hK K
   (try simp only [Act.put, jA, jB, jC])
   replace cb := cb.trans (b4.mono cb.size)
   clear b4
   refine wpCan_e rfl (fun K hK => ?_)
   go_simp
   refine (zet R U _ OU.out (zjg _ (zji (zsV OX.out OZ.out OX'.out OZ'.out)) 1) _ (by exact zaa (w := wq.drew) cb (jM (w := wq) hr) hr)).mono ?_
   rintro e v5 ⟨rfl, b5⟩
   refine hK _ _ (Keep.of_below b5 cb.size) ?_
   clear hK K
   (try simp only [Act.put, jA, jB, jC])
   replace cb := cb.trans (b5.mono cb.size)
   clear b5
   refine zcx rfl (fun _ _ _ _ h => h) (fun w' => zaI rfl (by simp [Act.eval, Act.put]; exact ⟨rfl, rfl⟩) (zgq (sHX X Z X' Z') (sHZ X Z X' Z' U))) ?_
   (try simp only [Act.put, jA, jB, jC])
   refine wpCan_nil ?_
   clear c_rv lrv
   replace hrv := zaa (w := wq.drew) cb (jM (w := wq) hrv) hrv
   replace hr := zaa (w := wq.drew) cb (jM (w := wq) hr) hr
   replace hlo := zaa (w := wq.drew) cb (jM (w := wq) hlo) hlo
   replace hhi := zaa (w := wq.drew) cb (jM (w := wq) hhi) hhi
   replace hfi := zaa (w := wq.drew) cb (jM (w := wq) hfi) hfi
   replace hA := zaa (w := wq.drew) cb (jM (w := wq) hA) hA
   replace hB := zaa (w := wq.drew) cb (jM (w := wq) hB) hB
   replace hD := zaa (w := wq.drew) cb (jM (w := wq) hD) hD
   replace hC := zaa (w := wq.drew) cb (jM (w := wq) hC) hC
   replace hb := hb.drew.trans (Bar.of_below cb)
   clear cb
   obtain ⟨ws, hws⟩ : ∃ x, x = v5 := ⟨_, rfl⟩
   rw [← hws] at hrv hr hlo hhi hfi hA hB hD hC hb ⊢
   clear hws
   go_upto_region 3 with (first | (refine zac rfl rfl rfl rfl zho hhi ?_))
   replace hrv := zad (g := HI) (c' := (arr .u64 10 fun i => (((zbW (sHX X Z X' Z') (sHZ X Z X' Z' U)) i : Nat) : Int))) hrv (zai hrv hhi (by decide))
   replace hr := zad (g := HI) (c' := (arr .u64 10 fun i => (((zbW (sHX X Z X' Z') (sHZ X Z X' Z' U)) i : Nat) : Int))) hr (zai hr hhi (by decide))
   replace hlo := zad (g := HI) (c' := (arr .u64 10 fun i => (((zbW (sHX X Z X' Z') (sHZ X Z X' Z' U)) i : Nat) : Int))) hlo N7.out
   replace hfi := zad (g := HI) (c' := (arr .u64 10 fun i => (((zbW (sHX X Z X' Z') (sHZ X Z X' Z' U)) i : Nat) : Int))) hfi (zai hfi hhi (by decide))
   replace hA := zad (g := HI) (c' := (arr .u64 10 fun i => (((zbW (sHX X Z X' Z') (sHZ X Z X' Z' U)) i : Nat) : Int))) hA (zai hA hhi (by decide))
   replace hB := zad (g := HI) (c' := (arr .u64 10 fun i => (((zbW (sHX X Z X' Z') (sHZ X Z X' Z' U)) i : Nat) : Int))) hB (zai hB hhi (by decide))
   replace hD := zad (g := HI) (c' := (arr .u64 10 fun i => (((zbW (sHX X Z X' Z') (sHZ X Z X' Z' U)) i : Nat) : Int))) hD (zai hD hhi (by decide))
   replace hC := zad (g := HI) (c' := (arr .u64 10 fun i => (((zbW (sHX X Z X' Z') (sHZ X Z X' Z' U)) i : Nat) : Int))) hC (zai hC hhi (by decide))
   replace hb := hb.row (g := HI) (.inr (.inl rfl)) (arr .u64 10 fun i => (((zbW (sHX X Z X' Z') (sHZ X Z X' Z' U)) i : Nat) : Int))
   replace hhi := zan (c' := (arr .u64 10 fun i => (((zbW (sHX X Z X' Z') (sHZ X Z X' Z' U)) i : Nat) : Int))) hhi
   generalize ws.setRow HI (arr .u64 10 fun i => (((zbW (sHX X Z X' Z') (sHZ X Z X' Z' U)) i : Nat) : Int)) = wn at *
   clear ws
   obtain ⟨wq, rfl⟩ : ∃ x, x = wn := ⟨_, rfl⟩
   (try simp only [Act.put, jA, jB, jC])
   replace lw := hb.size
   clear hD hC
   refine zei 8 [Is (.pointer (some ⟨R, 0, none⟩)), Is (.agg (arr .u64 5 fun i => (((sA X Z) i : Nat) : Int))), Is (.agg (arr .u64 5 fun i => (((sAA X Z) i : Nat) : Int))), Is (.pointer (some ⟨R, 0, none⟩)), Is (.agg (arr .u64 5 fun i => (((sB X Z) i : Nat) : Int))), Is (.agg (arr .u64 5 fun i => (((sBB X Z) i : Nat) : Int))), ziU wq.heap.size (.cells (arr .u64 5 fun _ => 0) 69), ziU wq.heap.size (.cells (arr .u64 5 fun _ => 0) 69)] [[], [], [0, 1], [], [], [3, 4], [], []] [(6, 7)] (by kernel_rfl) (by kernel_rfl) (by kernel_rfl) rfl (zaG (zaF _) (zaG (zaF _) (zaG (zaF _) (zaG (zaF _) (zaG (zaF _) (zaG (zaF _) (zaG (zcV _ _) (zaG (zcV _ _) ziT)))))))) ?_ ?_
   ·(simp only [jH, jI, jF, jG, List.zip_cons_cons, List.zip_nil_left, List.zip_nil_right, zd1, zfx, zcB, zdv, zbo, zbx, zbO, jD, jE, List.range_succ, List.range_zero, List.nil_append, List.cons_append, Act.put, jA, jB, jC])
    refine ⟨?_, ?_, ?_, ?_, ?_, ?_, ?_, ?_, trivial⟩
    ·intro x0 x1 x2 x3 x4 x5 x6 x7 w' hb' 
     have cr := cell_of_row _ _ 0 _ _ _ (zaa hb' (jM (w := wq) hrv) hrv)
     refine zaZ (zaP rfl (fun K hK => ?_)) rfl
     go_simp
     exact hK _ _ (Below.refl _ _) rfl
    ·intro x0 x1 x2 x3 x4 x5 x6 x7 w' hb' 
     exact zaZ (zbq rfl rfl rfl za8 (zaa hb' (jM (w := wq) hA) hA) rfl) rfl
    ·intro x0 x1 x2 x3 x4 x5 x6 x7 w' hb' e0 e1
     unfold Is at e0 e1
     subst e0 e1
     refine zaZ (zaP rfl (fun K hK => ?_)) rfl
     go_simp
     refine (ze8 R (sA X Z) (zA1 OX.out OZ.out) _ (zaa hb' (jM (w := wq) hr) hr)).mono ?_
     rintro e w4 ⟨rfl, b4⟩
     exact hK _ _ b4 (by unfold Is sAA; rfl)
    ·intro x0 x1 x2 x3 x4 x5 x6 x7 w' hb' 
     have cr := cell_of_row _ _ 0 _ _ _ (zaa hb' (jM (w := wq) hrv) hrv)
     refine zaZ (zaP rfl (fun K hK => ?_)) rfl
     go_simp
     exact hK _ _ (Below.refl _ _) rfl
    ·intro x0 x1 x2 x3 x4 x5 x6 x7 w' hb' 
     exact zaZ (zbq rfl rfl rfl za8 (zaa hb' (jM (w := wq) hB) hB) rfl) rfl
    ·intro x0 x1 x2 x3 x4 x5 x6 x7 w' hb' e0 e1
     unfold Is at e0 e1
     subst e0 e1
     refine zaZ (zaP rfl (fun K hK => ?_)) rfl
     go_simp
     refine (ze8 R (sB X Z) (zA2 OX.out OZ.out) _ (zaa hb' (jM (w := wq) hr) hr)).mono ?_
     rintro e w4 ⟨rfl, b4⟩
     exact hK _ _ b4 (by unfold Is sBB; rfl)
    ·intro x0 x1 x2 x3 x4 x5 x6 x7 w' hb' 
     exact zdC rfl rfl zfV ⟨_, rfl, hb'.size, heap_alloc_new _ _⟩
    ·intro x0 x1 x2 x3 x4 x5 x6 x7 w' hb' 
     exact zdC rfl rfl zfV ⟨_, rfl, hb'.size, heap_alloc_new _ _⟩
   ·(simp only [jH, jI, jF, jG, List.zip_cons_cons, List.zip_nil_left, List.zip_nil_right, zd1, zfx, zcB, zdv, zbo, zbx, zbO, jD, jE, List.range_succ, List.range_zero, List.nil_append, List.cons_append, Act.put, jA, jB, jC])
    rintro x0 x1 x2 x3 x4 x5 x6 x7 w5 hb' e0 e1 e2 e3 e4 e5 e6 e7 d0
    unfold Is at e0 e1 e2 e3 e4 e5
    subst e0 e1 e2 e3 e4 e5
    obtain ⟨BP, rfl, lBP, hP⟩ := e6
    replace lBP : wq.heap.size ≤ BP := lBP
    obtain ⟨BQ, rfl, lBQ, hQ⟩ := e7
    replace lBQ : wq.heap.size ≤ BQ := lBQ
    have nBPBQ : BP ≠ BQ := fun e => d0 (by rw [e])
    clear d0
    have l_hrv := jM (w := wq) hrv
    replace hrv := zaa hb' l_hrv hrv
    have l_hr := jM (w := wq) hr
    replace hr := zaa hb' l_hr hr
    have l_hlo := jM (w := wq) hlo
    replace hlo := zaa hb' l_hlo hlo
    have l_hhi := jM (w := wq) hhi
    replace hhi := zaa hb' l_hhi hhi
    have l_hfi := jM (w := wq) hfi
    replace hfi := zaa hb' l_hfi hfi
    have l_hA := jM (w := wq) hA
    replace hA := zaa hb' l_hA hA
    have l_hB := jM (w := wq) hB
    replace hB := zaa hb' l_hB hB
    replace hb := (Bar.drewl (Bar.of_below (P := LO) (Q := HI) (w := wq.drew) hb') |> fun h => hb.drew.trans (w' := wq.drew) (by exact ⟨h.os, h.tape, h.output, h.size, h.block⟩))
    go_upto_region 4 with (first | (refine zac rfl rfl rfl rfl za8 hP ?_) | (refine zac rfl rfl rfl rfl za8 (zad hQ (Ne.symm nBPBQ)) ?_))
    replace hrv := zad (g := BP) (c' := (arr .u64 5 fun i => (((sAA X Z) i : Nat) : Int))) hrv (Nat.ne_of_lt (jT l_hrv lBP))
    replace hr := zad (g := BP) (c' := (arr .u64 5 fun i => (((sAA X Z) i : Nat) : Int))) hr (Nat.ne_of_lt (jT l_hr lBP))
    replace hlo := zad (g := BP) (c' := (arr .u64 5 fun i => (((sAA X Z) i : Nat) : Int))) hlo (Nat.ne_of_lt (jT l_hlo lBP))
    replace hhi := zad (g := BP) (c' := (arr .u64 5 fun i => (((sAA X Z) i : Nat) : Int))) hhi (Nat.ne_of_lt (jT l_hhi lBP))
    replace hfi := zad (g := BP) (c' := (arr .u64 5 fun i => (((sAA X Z) i : Nat) : Int))) hfi (Nat.ne_of_lt (jT l_hfi lBP))
    replace hA := zad (g := BP) (c' := (arr .u64 5 fun i => (((sAA X Z) i : Nat) : Int))) hA (Nat.ne_of_lt (jT l_hA lBP))
    replace hB := zad (g := BP) (c' := (arr .u64 5 fun i => (((sAA X Z) i : Nat) : Int))) hB (Nat.ne_of_lt (jT l_hB lBP))
    replace hP := zan (c' := (arr .u64 5 fun i => (((sAA X Z) i : Nat) : Int))) hP
    replace hQ := zad (g := BP) (c' := (arr .u64 5 fun i => (((sAA X Z) i : Nat) : Int))) hQ (Ne.symm nBPBQ)
    replace hb := hb.row (g := BP) (.inr (.inr (jU lw lBP))) (arr .u64 5 fun i => (((sAA X Z) i : Nat) : Int))
    replace hrv := zad (g := BQ) (c' := (arr .u64 5 fun i => (((sBB X Z) i : Nat) : Int))) hrv (Nat.ne_of_lt (jT l_hrv lBQ))
    replace hr := zad (g := BQ) (c' := (arr .u64 5 fun i => (((sBB X Z) i : Nat) : Int))) hr (Nat.ne_of_lt (jT l_hr lBQ))
    replace hlo := zad (g := BQ) (c' := (arr .u64 5 fun i => (((sBB X Z) i : Nat) : Int))) hlo (Nat.ne_of_lt (jT l_hlo lBQ))
    replace hhi := zad (g := BQ) (c' := (arr .u64 5 fun i => (((sBB X Z) i : Nat) : Int))) hhi (Nat.ne_of_lt (jT l_hhi lBQ))
    replace hfi := zad (g := BQ) (c' := (arr .u64 5 fun i => (((sBB X Z) i : Nat) : Int))) hfi (Nat.ne_of_lt (jT l_hfi lBQ))
    replace hA := zad (g := BQ) (c' := (arr .u64 5 fun i => (((sBB X Z) i : Nat) : Int))) hA (Nat.ne_of_lt (jT l_hA lBQ))
    replace hB := zad (g := BQ) (c' := (arr .u64 5 fun i => (((sBB X Z) i : Nat) : Int))) hB (Nat.ne_of_lt (jT l_hB lBQ))
    replace hP := zad (g := BQ) (c' := (arr .u64 5 fun i => (((sBB X Z) i : Nat) : Int))) hP nBPBQ
    replace hQ := zan (c' := (arr .u64 5 fun i => (((sBB X Z) i : Nat) : Int))) hQ
    replace hb := hb.row (g := BQ) (.inr (.inr (jU lw lBQ))) (arr .u64 5 fun i => (((sBB X Z) i : Nat) : Int))
    replace lw : w.heap.size ≤ ((w5.setRow BP (arr .u64 5 fun i => (((sAA X Z) i : Nat) : Int))).setRow BQ (arr .u64 5 fun i => (((sBB X Z) i : Nat) : Int))).heap.size := hb.size
    clear l_hrv l_hr l_hlo l_hhi l_hfi l_hA l_hB lBP lBQ hb' nBPBQ
    generalize ((w5.setRow BP (arr .u64 5 fun i => (((sAA X Z) i : Nat) : Int))).setRow BQ (arr .u64 5 fun i => (((sBB X Z) i : Nat) : Int))) = wn at *
    clear wq
    obtain ⟨wq, rfl⟩ : ∃ x, x = wn := ⟨_, rfl⟩
    (try simp only [Act.put, jA, jB, jC])
    clear hA hB
    have c_rv : wq.cell? ⟨RV, 0, none⟩ = some (.pointer (some ⟨R, 0, none⟩)) := cell_of_row _ _ 0 _ _ _ hrv
    go_wp2_with (first | (refine zab rfl rfl rfl za8 hP ?_) | (refine zab rfl rfl rfl za8 hQ ?_) | (go_at_call 45; fail))
    refine (zin R (sAA X Z) (sBB X Z) (zsW OX.out OZ.out) (zAa OX.out OZ.out) _ hr).mono ?_
    rintro e w4 ⟨rfl, b4⟩
    replace hrv := zaa b4 (jM hrv) hrv
    replace hr := zaa b4 (jM hr) hr
    replace hlo := zaa b4 (jM hlo) hlo
    replace hhi := zaa b4 (jM hhi) hhi
    replace hfi := zaa b4 (jM hfi) hfi
    replace hP := zaa b4 (jM hP) hP
    replace hQ := zaa b4 (jM hQ) hQ
    replace hb := hb.trans (Bar.of_below b4)
    clear b4 c_rv
    go_upto_region 5 with (refine zaw rfl rfl rfl rfl zfV za8 rfl rfl ?_; intro w8 hE b8 hs8)
    have l0 := jM hlo
    replace hrv := zaa b8 (jM hrv) hrv
    replace hr := zaa b8 (jM hr) hr
    replace hlo := zaa b8 (jM hlo) hlo
    replace hhi := zaa b8 (jM hhi) hhi
    replace hfi := zaa b8 (jM hfi) hfi
    replace hP := zaa b8 (jM hP) hP
    replace hQ := zaa b8 (jM hQ) hQ
    replace hb := hb.trans (Bar.of_below b8)
    clear b8 hs8
    obtain ⟨BE, hBE⟩ : ∃ B, B = w4.heap.size := ⟨_, rfl⟩
    rw [← hBE] at l0 hE ⊢
    clear hBE
    obtain ⟨wq, rfl⟩ : ∃ x, x = w8 := ⟨_, rfl⟩
    (try simp only [Act.put, jA, jB, jC])
    have lrv : RV < wq.drew.heap.size := jM (w := wq) hrv
    refine wp_region_can wq.heap.size 15 [(0, false), (1, false), (2, false), (4, false), (5, false), (6, false), (7, false), (8, false), (9, false), (10, false), (3, true), (11, true), (12, true), (13, true), (14, false)] (by kernel_rfl) (by kernel_rfl) ?_
    (simp only [canOps, jD, jE, jF, jG])
    have c_rv : wq.drew.cell? ⟨RV, 0, none⟩ = some (.pointer (some ⟨R, 0, none⟩)) := cell_of_row _ _ 0 _ _ _ hrv
    iterate 1 (first | (refine zay rfl rfl (fun _ _ _ _ h => h) ?_; (simp only [Act.put, Act.eval, jN, jL, jD, jE, jO, jA, jB, jC])) | (refine zar rfl rfl (fun _ _ _ _ h => h) ?_; (simp only [Act.put, Act.eval, jN, jL, jD, jE, jO, jA, jB, jC])) | (refine zao rfl rfl rfl (fun _ _ _ _ h => h) ?_; (simp only [Act.put, jA, jB, jC])) | (refine za1 rfl rfl (fun _ _ _ _ h => h) (by first | exact .bin rfl rfl rfl | exact .indexAddr rfl | exact .un rfl | exact .extract rfl | exact .index rfl | exact .field rfl | exact .slice rfl | exact .load rfl rfl lrv hrv) (fun K hK => ?_); go_simp; (try (simp only [↓IntWalk.iteOmega]; go_simp)); (try go_bits); refine hK _ ?_; clear hK K))
    refine zap rfl rfl rfl (fun _ _ _ _ h => h) za8 (jM (w := wq) hP) hP ?_
    (try simp only [Act.put, jA, jB, jC])
    refine zap rfl rfl rfl (fun _ _ _ _ h => h) za8 (jM (w := wq) hQ) hQ ?_
    (try simp only [Act.put, jA, jB, jC])
    iterate 1 (first | (refine zay rfl rfl (fun _ _ _ _ h => h) ?_; (simp only [Act.put, Act.eval, jN, jL, jD, jE, jO, jA, jB, jC])) | (refine zar rfl rfl (fun _ _ _ _ h => h) ?_; (simp only [Act.put, Act.eval, jN, jL, jD, jE, jO, jA, jB, jC])) | (refine zao rfl rfl rfl (fun _ _ _ _ h => h) ?_; (simp only [Act.put, jA, jB, jC])) | (refine za1 rfl rfl (fun _ _ _ _ h => h) (by first | exact .bin rfl rfl rfl | exact .indexAddr rfl | exact .un rfl | exact .extract rfl | exact .index rfl | exact .field rfl | exact .slice rfl | exact .load rfl rfl lrv hrv) (fun K hK => ?_); go_simp; (try (simp only [↓IntWalk.iteOmega]; go_simp)); (try go_bits); refine hK _ ?_; clear hK K))
    refine zap rfl rfl rfl (fun _ _ _ _ h => h) za8 (jM (w := wq) hE) hE ?_
    (try simp only [Act.put, jA, jB, jC])
    iterate 1 (first | (refine zay rfl rfl (fun _ _ _ _ h => h) ?_; (simp only [Act.put, Act.eval, jN, jL, jD, jE, jO, jA, jB, jC])) | (refine zar rfl rfl (fun _ _ _ _ h => h) ?_; (simp only [Act.put, Act.eval, jN, jL, jD, jE, jO, jA, jB, jC])) | (refine zao rfl rfl rfl (fun _ _ _ _ h => h) ?_; (simp only [Act.put, jA, jB, jC])) | (refine za1 rfl rfl (fun _ _ _ _ h => h) (by first | exact .bin rfl rfl rfl | exact .indexAddr rfl | exact .un rfl | exact .extract rfl | exact .index rfl | exact .field rfl | exact .slice rfl | exact .load rfl rfl lrv hrv) (fun K hK => ?_); go_simp; (try (simp only [↓IntWalk.iteOmega]; go_simp)); (try go_bits); refine hK _ ?_; clear hK K))
    refine zap rfl rfl rfl (fun _ _ _ _ h => h) za8 (jM (w := wq) hP) hP ?_
    (try simp only [Act.put, jA, jB, jC])
    iterate 1 (first | (refine zay rfl rfl (fun _ _ _ _ h => h) ?_; (simp only [Act.put, Act.eval, jN, jL, jD, jE, jO, jA, jB, jC])) | (refine zar rfl rfl (fun _ _ _ _ h => h) ?_; (simp only [Act.put, Act.eval, jN, jL, jD, jE, jO, jA, jB, jC])) | (refine zao rfl rfl rfl (fun _ _ _ _ h => h) ?_; (simp only [Act.put, jA, jB, jC])) | (refine za1 rfl rfl (fun _ _ _ _ h => h) (by first | exact .bin rfl rfl rfl | exact .indexAddr rfl | exact .un rfl | exact .extract rfl | exact .index rfl | exact .field rfl | exact .slice rfl | exact .load rfl rfl lrv hrv) (fun K hK => ?_); go_simp; (try (simp only [↓IntWalk.iteOmega]; go_simp)); (try go_bits); refine hK _ ?_; clear hK K))
    refine zcx rfl (fun _ _ _ _ h => h) (fun w' => zaI rfl (by simp [Act.eval, Act.put]) (zjk 121665)) ?_
    (try simp only [Act.put, jA, jB, jC])
    refine zap rfl rfl rfl (fun _ _ _ _ h => h) za8 (jM (w := wq) hE) hE ?_
    (try simp only [Act.put, jA, jB, jC])
    refine wpCan_e rfl (fun K hK => ?_)
    go_simp
    refine (zet R (sAA X Z) (sBB X Z) (zsW OX.out OZ.out) (zAa OX.out OZ.out) _ (by exact hr)).mono ?_
    rintro e v1 ⟨rfl, b1⟩
    refine hK _ _ (Keep.of_below b1 (jV _)) ?_
    clear hK K
    (try simp only [Act.put, jA, jB, jC])
    have cb := b1
    clear b1
    refine wpCan_e rfl (fun K hK => ?_)
    go_simp
    refine (zet R (zch 121665) (sE X Z) zjo (zA3 OX.out OZ.out) _ (by exact zaa (w := wq.drew) cb (jM (w := wq) hr) hr)).mono ?_
    rintro e v2 ⟨rfl, b2⟩
    refine hK _ _ (Keep.of_below b2 cb.size) ?_
    clear hK K
    (try simp only [Act.put, jA, jB, jC])
    replace cb := cb.trans (b2.mono cb.size)
    clear b2
    refine wpCan_e rfl (fun K hK => ?_)
    go_simp
    refine (zim R (sAA X Z) _ (zsW OX.out OZ.out) (zeg _ _ zjo (zA3 OX.out OZ.out)) _ (by exact zaa (w := wq.drew) cb (jM (w := wq) hr) hr)).mono ?_
    rintro e v3 ⟨rfl, b3⟩
    refine hK _ _ (Keep.of_below b3 cb.size) ?_
    clear hK K
    (try simp only [Act.put, jA, jB, jC])
    replace cb := cb.trans (b3.mono cb.size)
    clear b3
    refine wpCan_e rfl (fun K hK => ?_)
    go_simp
    refine (zet R (sE X Z) _ (zA3 OX.out OZ.out) (zki (zsW OX.out OZ.out) (zeg _ _ zjo (zA3 OX.out OZ.out))) _ (by exact zaa (w := wq.drew) cb (jM (w := wq) hr) hr)).mono ?_
    rintro e v4 ⟨rfl, b4⟩
    refine hK _ _ (Keep.of_below b4 cb.size) ?_
    clear hK K
    (try simp only [Act.put, jA, jB, jC])
    replace cb := cb.trans (b4.mono cb.size)
    clear b4
    refine zcx rfl (fun _ _ _ _ h => h) (fun w' => zaI rfl (by simp [Act.eval, Act.put]; exact ⟨rfl, rfl⟩) (zgq (sLX X Z) (sLZ X Z))) ?_
    (try simp only [Act.put, jA, jB, jC])
    refine wpCan_nil ?_
    clear c_rv lrv
    replace hrv := zaa (w := wq.drew) cb (jM (w := wq) hrv) hrv
    replace hr := zaa (w := wq.drew) cb (jM (w := wq) hr) hr
    replace hlo := zaa (w := wq.drew) cb (jM (w := wq) hlo) hlo
    replace hhi := zaa (w := wq.drew) cb (jM (w := wq) hhi) hhi
    replace hfi := zaa (w := wq.drew) cb (jM (w := wq) hfi) hfi
    replace hP := zaa (w := wq.drew) cb (jM (w := wq) hP) hP
    replace hQ := zaa (w := wq.drew) cb (jM (w := wq) hQ) hQ
    replace hE := zaa (w := wq.drew) cb (jM (w := wq) hE) hE
    replace hb := hb.drew.trans (Bar.of_below cb)
    clear cb
    obtain ⟨ws, hws⟩ : ∃ x, x = v4 := ⟨_, rfl⟩
    rw [← hws] at hrv hr hlo hhi hfi hP hQ hE hb ⊢
    clear hws
    go_wp2_with (first | (refine zac rfl rfl rfl rfl zho hlo ?_))
    replace hrv := zad (g := LO) (c' := (arr .u64 10 fun i => (((zbW (sLX X Z) (sLZ X Z)) i : Nat) : Int))) hrv (zai hrv hlo (by decide))
    replace hr := zad (g := LO) (c' := (arr .u64 10 fun i => (((zbW (sLX X Z) (sLZ X Z)) i : Nat) : Int))) hr (zai hr hlo (by decide))
    replace hhi := zad (g := LO) (c' := (arr .u64 10 fun i => (((zbW (sLX X Z) (sLZ X Z)) i : Nat) : Int))) hhi (Ne.symm N7.out)
    replace hfi := zad (g := LO) (c' := (arr .u64 10 fun i => (((zbW (sLX X Z) (sLZ X Z)) i : Nat) : Int))) hfi (zai hfi hlo (by decide))
    replace hP := zad (g := LO) (c' := (arr .u64 10 fun i => (((zbW (sLX X Z) (sLZ X Z)) i : Nat) : Int))) hP (zai hP hlo (by decide))
    replace hQ := zad (g := LO) (c' := (arr .u64 10 fun i => (((zbW (sLX X Z) (sLZ X Z)) i : Nat) : Int))) hQ (zai hQ hlo (by decide))
    replace hE := zad (g := LO) (c' := (arr .u64 10 fun i => (((zbW (sLX X Z) (sLZ X Z)) i : Nat) : Int))) hE (zai hE hlo (by decide))
    replace hb := hb.row (g := LO) (.inl rfl) (arr .u64 10 fun i => (((zbW (sLX X Z) (sLZ X Z)) i : Nat) : Int))
    replace hlo := zan (c' := (arr .u64 10 fun i => (((zbW (sLX X Z) (sLZ X Z)) i : Nat) : Int))) hlo
    exact bodyPost_end (results_none rfl _ _ _) rfl ⟨rfl, hb, hrv, hr, hlo, hhi, hfi⟩
end
section
def IsP (p : Nat) : Prop := 2 ≤ p ∧ ∀ d, d ∣ p → d = 1 ∨ d = p
theorem znn {p a b : Nat} (hp : IsP p) (h : p ∣ a * b) : p ∣ a ∨ p ∣ b := by
 rcases hp.2 (Nat.gcd p a) (Nat.gcd_dvd_left p a) with h1 | h1
 ·exact .inr (Nat.Coprime.dvd_of_dvd_mul_left h1 h)
 ·exact .inl (by rw [← h1]; exact Nat.gcd_dvd_right p a)
theorem zsX (m : Nat) (h : 2 ≤ m) : ∃ q, IsP q ∧ q ∣ m := by
 induction m using Nat.strongRecOn with
 | _ m ih =>
  by_cases hm : ∃ d, d ∣ m ∧ d ≠ 1 ∧ d ≠ m
  ·obtain ⟨d, hd, h1, h2⟩ := hm
   have hle := Nat.le_of_dvd (by omega) hd
   have h0 : d ≠ 0 := fun e => by rw [e] at hd; have := Nat.eq_zero_of_zero_dvd hd; omega
   obtain ⟨q, hq, hqd⟩ := ih d (by omega) (by omega)
   exact ⟨q, hq, Nat.dvd_trans hqd hd⟩
  ·refine ⟨m, ⟨h, fun d hd => ?_⟩, Nat.dvd_refl m⟩
   by_cases h1 : d = 1
   ·exact .inl h1
   ·by_cases h2 : d = m
    ·exact .inr h2
    ·exact absurd ⟨d, hd, h1, h2⟩ hm
def zyk : List Nat → Nat
 | [] => 1
 | q :: l => q * zyk l
theorem zsY {q : Nat} (hq : IsP q) : ∀ (l : List Nat), (∀ x ∈ l, IsP x) → q ∣ zyk l → q ∈ l
 | [], _, h => by have := Nat.le_of_dvd (by unfold zyk; omega) h; unfold zyk at this; have := hq.1; omega
 | x :: l, hl, h => by
  rcases znn hq h with h1 | h1
  ·rcases (hl x (by simp)).2 q h1 with h2 | h2
   ·have := hq.1; omega
   ·simp [h2]
  ·simp [zsY hq l (fun y hy => hl y (by simp [hy])) h1]
theorem zwN : ∀ (N : Nat) (f : Nat → Nat), (∀ i, i < N + 1 → f i < N) → ∃ i j, i < j ∧ j < N + 1 ∧ f i = f j
 | 0, f, h => absurd (h 0 (by omega)) (by omega)
 | N + 1, f, h => by
  by_cases hv : ∃ i, i < N + 1 ∧ f i = f (N + 1)
  ·obtain ⟨i, hi, e⟩ := hv
   exact ⟨i, N + 1, hi, by omega, e⟩
  ·have hne : ∀ i, i < N + 1 → f i ≠ f (N + 1) := fun i hi e => hv ⟨i, hi, e⟩
   have hlast := h (N + 1) (by omega)
   obtain ⟨i, j, hij, hj, e⟩ := zwN N (fun i => if f i = N then f (N + 1) else f i) (fun i hi => by
    have h1 := h i (by omega)
    have h2 := hne i hi
    try dsimp only
    split <;> omega)
   refine ⟨i, j, hij, by omega, ?_⟩
   have hi1 := hne i (by omega)
   have hj1 := hne j hj
   try dsimp only at e
   split at e <;> split at e <;> omega
theorem zCp (N : Nat) (f : Nat → Nat) (h : ∀ i, i < N → f i < N) (inj : ∀ i j, i < j → j < N → f i ≠ f j) (y : Nat) (hy : y < N) : ∃ i, i < N ∧ f i = y := by
 refine Classical.byContradiction fun hno => ?_
 have hn : ∀ i, i < N → f i ≠ y := fun i hi e => hno ⟨i, hi, e⟩
 obtain ⟨M, rfl⟩ : ∃ M, N = M + 1 := ⟨N - 1, by omega⟩
 obtain ⟨i, j, hij, hj, e⟩ := zwN M (fun i => if f i = M then y else f i) (fun i hi => by
  have h1 := h i hi
  have h2 := hn i hi
  try dsimp only
  split <;> omega)
 have hi1 := hn i (by omega)
 have hj1 := hn j hj
 refine inj i j hij hj ?_
 try dsimp only at e
 split at e <;> split at e <;> omega
theorem ze9 {n g k : Nat} (h : g ^ k % n = 1 % n) (t : Nat) : g ^ (k * t) % n = 1 % n := by
 rw [Nat.pow_mul, Nat.pow_mod, h, ← Nat.pow_mod, Nat.one_pow]
theorem zAb {n g N x y : Nat} (hN : 0 < N) (h : g ^ N % n = 1 % n) (k : Nat) (e : g ^ k * x % n = g ^ k * y % n) : x % n = y % n := by
 have key : ∀ z, (g ^ (N - 1)) ^ k * (g ^ k * z) % n = z % n := by
  intro z
  rw [← Nat.mul_assoc, ← Nat.mul_pow, ← Nat.pow_succ, show (N - 1).succ = N from by omega, Nat.mul_mod, Nat.pow_mod, h, ← Nat.pow_mod, Nat.one_pow, ← Nat.mul_mod, Nat.one_mul]
 rw [← key x, ← key y, Nat.mul_mod, e, ← Nat.mul_mod]
theorem zBk {p : Nat → Prop} : ∀ k, p k → ∃ e, p e ∧ ∀ d, d < e → ¬ p d := by
 intro k
 induction k using Nat.strongRecOn with
 | _ k ih =>
  intro hk
  by_cases hm : ∃ d, d < k ∧ p d
  ·obtain ⟨d, hd, hp⟩ := hm
   exact ih d hd hp
  ·exact ⟨k, hk, fun d hd hp => hm ⟨d, hd, hp⟩⟩
theorem zym {n g N : Nat} {qs : List Nat} (hN : 0 < N) (hqs : ∀ q ∈ qs, IsP q) (hm : zyk qs = N) (h1 : g ^ N % n = 1 % n) (h2 : ∀ q ∈ qs, g ^ (N / q) % n ≠ 1 % n) (k : Nat) (hk0 : 0 < k) (hk : k < N) : g ^ k % n ≠ 1 % n := by
 intro hk1
 obtain ⟨e, ⟨he0, he1⟩, hmin⟩ := zBk (p := fun e => 0 < e ∧ g ^ e % n = 1 % n) k ⟨hk0, hk1⟩
 have hek : e ≤ k := by
  rcases Nat.lt_or_ge k e with h | h
  ·exact absurd ⟨hk0, hk1⟩ (hmin k h)
  ·exact h
 have hdv : e ∣ N := by
  have hr := Nat.div_add_mod N e
  have hl := Nat.mod_lt N he0
  have h3 : g ^ (N % e) % n = 1 % n := by
   have h4 := ze9 he1 (N / e)
   rw [← hr, Nat.pow_add, Nat.mul_mod, h4, ← Nat.mul_mod, Nat.one_mul] at h1
   exact h1
  rcases Nat.eq_zero_or_pos (N % e) with h | h
  ·exact Nat.dvd_of_mod_eq_zero h
  ·exact absurd ⟨h, h3⟩ (hmin _ hl)
 obtain ⟨t, ht⟩ := hdv
 have ht2 : 2 ≤ t := by
  rcases Nat.lt_or_ge t 2 with h | h
  ·have : t = 0 ∨ t = 1 := by omega
   rcases this with rfl | rfl <;> omega
  ·exact h
 obtain ⟨q, hq, hqt⟩ := zsX t ht2
 have hqm : q ∈ qs := zsY hq qs hqs (by rw [hm, ht]; exact Nat.dvd_trans hqt (Nat.dvd_mul_left t e))
 obtain ⟨s, hs⟩ := hqt
 refine h2 q hqm ?_
 have : N / q = e * s := by
  rw [ht, hs, Nat.mul_left_comm]
  exact Nat.mul_div_cancel_left _ (by have := hq.1; omega)
 rw [this]
 exact ze9 he1 s
theorem zvk {n g : Nat} {qs : List Nat} (hn : 2 ≤ n) (hqs : ∀ q ∈ qs, IsP q) (hm : zyk qs = n - 1) (h1 : g ^ (n - 1) % n = 1) (h2 : ∀ q ∈ qs, g ^ ((n - 1) / q) % n ≠ 1) :
  IsP n ∧ ∀ a, a % n ≠ 0 → a ^ (n - 1) % n = 1 := by
 have e1 : 1 % n = 1 := Nat.mod_eq_of_lt (by omega)
 have hN : 0 < n - 1 := by omega
 have h1' : g ^ (n - 1) % n = 1 % n := by rw [h1, e1]
 have hless := zym hN hqs hm h1' (fun q hq => by rw [e1]; exact h2 q hq)
 have all : ∀ a, a % n ≠ 0 → a ^ (n - 1) % n = 1 := by
  intro a ha
  have hlt := Nat.mod_lt a (show n > 0 by omega)
  have nz : ∀ i, g ^ i % n ≠ 0 := by
   intro i hi
   have h3 := ze9 h1' i
   rw [Nat.mul_comm, Nat.pow_mul, Nat.pow_mod, hi, e1] at h3
   rw [Nat.zero_pow hN, Nat.zero_mod] at h3
   omega
  obtain ⟨k, _, hk⟩ := zCp (n - 1) (fun i => g ^ i % n - 1) (fun i hi => by
    have := nz i
    have := Nat.mod_lt (g ^ i) (show n > 0 by omega)
    try dsimp only
    omega) (fun i j hij hj e => by
    have a1 := nz i
    have a2 := nz j
    try dsimp only at e
    have e3 : g ^ i * 1 % n = g ^ i * g ^ (j - i) % n := by
     rw [Nat.mul_one, ← Nat.pow_add, show i + (j - i) = j from by omega]
     omega
    exact hless (j - i) (by omega) (by omega) (zAb hN h1' i e3).symm) (a % n - 1) (by omega)
  have hka : g ^ k % n = a % n := by have := nz k; omega
  have h4 := ze9 h1' k
  rw [Nat.mul_comm, Nat.pow_mul, Nat.pow_mod, hka, ← Nat.pow_mod, e1] at h4
  exact h4
 refine ⟨⟨hn, fun d hd => ?_⟩, all⟩
 by_cases hd1 : d = 1
 ·exact .inl hd1
 by_cases hdn : d = n
 ·exact .inr hdn
 exfalso
 have hle := Nat.le_of_dvd (by omega) hd
 have hd0 : d ≠ 0 := fun e => by rw [e] at hd; have := Nat.eq_zero_of_zero_dvd hd; omega
 have h3 := all d (by rw [Nat.mod_eq_of_lt (by omega)]; exact hd0)
 have h4 : d ∣ d ^ (n - 1) % n := by
  rw [Nat.dvd_mod_iff hd]
  exact Nat.dvd_trans (by rw [Nat.pow_one]; exact Nat.dvd_refl d) (Nat.pow_dvd_pow d (show 1 ≤ n - 1 by omega))
 rw [h3] at h4
 have := Nat.le_of_dvd (by omega) h4
 omega
def pw (n : Nat) : Nat → Nat → Nat → Nat
 | 0, _, _ => 1 % n
 | f + 1, b, e => if e % 2 = 1 then b * pw n f (b * b % n) (e / 2) % n else pw n f (b * b % n) (e / 2)
theorem zvm (n : Nat) : ∀ f b e, e < 2 ^ f → pw n f b e = b ^ e % n
 | 0, b, e, h => by
  have : e = 0 := by simpa using h
  subst this
  simp [pw]
 | f + 1, b, e, h => by
  have ih := zvm n f (b * b % n) (e / 2) (by rw [Nat.pow_succ] at h; omega)
  have e2 : (b * b % n) ^ (e / 2) % n = b ^ (2 * (e / 2)) % n := by rw [← Nat.pow_mod, ← Nat.pow_two, ← Nat.pow_mul]
  unfold pw
  rw [ih, e2]
  split
  ·rw [Nat.mul_mod_mod, ← Nat.pow_succ']
   congr 2
   omega
  ·congr 2
   omega
def zwO (n g : Nat) (qs : List Nat) : Bool := decide (2 ≤ n) && decide (n < 2 ^ 256) && decide (zyk qs = n - 1) && decide (pw n 256 g (n - 1) = 1) && qs.all fun q => decide (pw n 256 g ((n - 1) / q) ≠ 1)
def zdd (v e : Nat) : Nat := v ^ e
def IsL (n : Nat) : Prop := IsP n ∧ ∀ a, a % n ≠ 0 → zdd a (n - 1) % n = 1
theorem zbI (n g : Nat) (qs : List Nat) (h : zwO n g qs = true) (hqs : ∀ q ∈ qs, IsP q) : IsL n := by
 unfold IsL zdd
 simp only [zwO, Bool.and_eq_true, jS, List.all_eq_true] at h
 obtain ⟨⟨⟨⟨h1, h2⟩, h3⟩, h4⟩, h5⟩ := h
 refine zvk h1 hqs h3 (by rw [← zvm n 256 g (n - 1) (Nat.lt_of_le_of_lt (Nat.sub_le _ _) h2)]; exact h4) (fun q hq => ?_)
 have := h5 q hq
 rwa [zvm n 256 g _ (Nat.lt_of_le_of_lt (Nat.div_le_self _ _) (Nat.lt_of_le_of_lt (Nat.sub_le _ _) h2))] at this
def zwP (n : Nat) : Bool := decide (2 ≤ n) && (List.range n).all fun d => decide (d < 2) || decide (n % d ≠ 0)
theorem zb0 {n : Nat} (h : zwP n = true) : IsP n := by
 simp only [zwP, Bool.and_eq_true, jS, List.all_eq_true, Bool.or_eq_true, List.mem_range] at h
 refine ⟨h.1, fun d hd => ?_⟩
 by_cases hdn : d = n
 ·exact .inr hdn
 have hle := Nat.le_of_dvd (by omega) hd
 rcases h.2 d (by omega) with h2 | h2
 ·have : d ≠ 0 := fun e => by rw [e] at hd; have := Nat.eq_zero_of_zero_dvd hd; omega
  omega
 ·exact absurd (Nat.mod_eq_zero_of_dvd hd) h2
theorem zaR : ∀ q ∈ ([] : List Nat), IsP q := fun _ h => by cases h
theorem all_cons {x : Nat} {l : List Nat} (h : IsP x) (hl : ∀ q ∈ l, IsP q) : ∀ q ∈ x :: l, IsP q := fun q hq => by
 rcases List.mem_cons.1 hq with rfl | hq
 ·exact h
 ·exact hl q hq
theorem p2 : IsP 2 := zb0 (by decide +kernel)
theorem p3 : IsP 3 := zb0 (by decide +kernel)
theorem p5 : IsP 5 := zb0 (by decide +kernel)
theorem p7 : IsP 7 := zb0 (by decide +kernel)
theorem p13 : IsP 13 := zb0 (by decide +kernel)
theorem p17 : IsP 17 := zb0 (by decide +kernel)
theorem p19 : IsP 19 := zb0 (by decide +kernel)
theorem p23 : IsP 23 := zb0 (by decide +kernel)
theorem p29 : IsP 29 := zb0 (by decide +kernel)
theorem p31 : IsP 31 := zb0 (by decide +kernel)
theorem p41 : IsP 41 := zb0 (by decide +kernel)
theorem p43 : IsP 43 := zb0 (by decide +kernel)
theorem p47 : IsP 47 := zb0 (by decide +kernel)
theorem p59 : IsP 59 := zb0 (by decide +kernel)
theorem p83 : IsP 83 := zb0 (by decide +kernel)
theorem p97 : IsP 97 := zb0 (by decide +kernel)
theorem zCq : IsP 103 := zb0 (by decide +kernel)
theorem zCr : IsP 107 := zb0 (by decide +kernel)
theorem zCs : IsP 127 := zb0 (by decide +kernel)
theorem zCt : IsP 131 := zb0 (by decide +kernel)
theorem zCu : IsP 173 := zb0 (by decide +kernel)
theorem zCv : IsP 223 := zb0 (by decide +kernel)
theorem zCw : IsP 353 := zb0 (by decide +kernel)
theorem zCx : IsP 419 := zb0 (by decide +kernel)
theorem zCy : IsP 479 := zb0 (by decide +kernel)
theorem zCz : IsP 487 := zb0 (by decide +kernel)
theorem zCA : IsP 991 := zb0 (by decide +kernel)
theorem zBm : IsL 1723 := zbI 1723 3 [2, 3, 7, 41] (by decide +kernel) (all_cons p2 (all_cons p3 (all_cons p7 (all_cons p41 zaR))))
theorem zBn : IsL 2437 := zbI 2437 2 [2, 2, 3, 7, 29] (by decide +kernel) (all_cons p2 (all_cons p2 (all_cons p3 (all_cons p7 (all_cons p29 zaR)))))
theorem zBo : IsL 3727 := zbI 3727 3 [2, 3, 3, 3, 3, 23] (by decide +kernel) (all_cons p2 (all_cons p3 (all_cons p3 (all_cons p3 (all_cons p3 (all_cons p23 zaR))))))
theorem zBp : IsL 4153 := zbI 4153 5 [2, 2, 2, 3, 173] (by decide +kernel) (all_cons p2 (all_cons p2 (all_cons p2 (all_cons p3 (all_cons zCu zaR)))))
theorem zBq : IsL 9463 := zbI 9463 3 [2, 3, 19, 83] (by decide +kernel) (all_cons p2 (all_cons p3 (all_cons p19 (all_cons p83 zaR))))
theorem zAc : IsL 32573 := zbI 32573 2 [2, 2, 17, 479] (by decide +kernel) (all_cons p2 (all_cons p2 (all_cons p17 (all_cons zCy zaR))))
theorem zAd : IsL 37853 := zbI 37853 2 [2, 2, 9463] (by decide +kernel) (all_cons p2 (all_cons p2 (all_cons zBq.1 zaR)))
theorem zAe : IsL 57467 := zbI 57467 2 [2, 59, 487] (by decide +kernel) (all_cons p2 (all_cons p59 (all_cons zCz zaR)))
theorem zAf : IsL 65147 := zbI 65147 2 [2, 32573] (by decide +kernel) (all_cons p2 (all_cons zAc.1 zaR))
theorem zAg : IsL 75707 := zbI 75707 2 [2, 37853] (by decide +kernel) (all_cons p2 (all_cons zAd.1 zaR))
theorem zyn : IsL 132049 := zbI 132049 26 [2, 2, 2, 2, 3, 3, 7, 131] (by decide +kernel) (all_cons p2 (all_cons p2 (all_cons p2 (all_cons p2 (all_cons p3 (all_cons p3 (all_cons p7 (all_cons zCt zaR))))))))
theorem zyo : IsL 430751 := zbI 430751 17 [2, 5, 5, 5, 1723] (by decide +kernel) (all_cons p2 (all_cons p5 (all_cons p5 (all_cons p5 (all_cons zBm.1 zaR)))))
theorem zyp : IsL 569003 := zbI 569003 2 [2, 7, 97, 419] (by decide +kernel) (all_cons p2 (all_cons p7 (all_cons p97 (all_cons zCx zaR))))
theorem zvn : IsL 1923133 := zbI 1923133 2 [2, 2, 3, 43, 3727] (by decide +kernel) (all_cons p2 (all_cons p2 (all_cons p3 (all_cons p43 (all_cons zBo.1 zaR)))))
theorem zvo : IsL 8574133 := zbI 8574133 2 [2, 2, 3, 7, 103, 991] (by decide +kernel) (all_cons p2 (all_cons p2 (all_cons p3 (all_cons p7 (all_cons zCq (all_cons zCA zaR))))))
theorem zoA : IsL 2773320623 := zbI 2773320623 5 [2, 2437, 569003] (by decide +kernel) (all_cons p2 (all_cons zBn.1 (all_cons zyp.1 zaR)))
theorem zno : IsL 72106336199 := zbI 72106336199 7 [2, 13, 2773320623] (by decide +kernel) (all_cons p2 (all_cons p13 (all_cons zoA.1 zaR)))
theorem zhp : IsL 1919519569386763 := zbI 1919519569386763 2 [2, 3, 7, 19, 47, 47, 127, 8574133] (by decide +kernel) (all_cons p2 (all_cons p3 (all_cons p7 (all_cons p19 (all_cons p47 (all_cons p47 (all_cons zCs (all_cons zvo.1 zaR))))))))
theorem zgV : IsL 31757755568855353 := zbI 31757755568855353 10 [2, 2, 2, 3, 31, 107, 223, 4153, 430751] (by decide +kernel) (all_cons p2 (all_cons p2 (all_cons p2 (all_cons p3 (all_cons p31 (all_cons zCr (all_cons zCv (all_cons zBp.1 (all_cons zyo.1 zaR)))))))))
theorem zcY : IsL 75445702479781427272750846543864801 := zbI 75445702479781427272750846543864801 7 [2, 2, 2, 2, 2, 3, 3, 5, 5, 75707, 72106336199, 1919519569386763] (by decide +kernel) (all_cons p2 (all_cons p2 (all_cons p2 (all_cons p2 (all_cons p2 (all_cons p3 (all_cons p3 (all_cons p5 (all_cons p5 (all_cons zAg.1 (all_cons zno.1 (all_cons zhp.1 zaR))))))))))))
theorem zbm : IsL 74058212732561358302231226437062788676166966415465897661863160754340907 := zbI 74058212732561358302231226437062788676166966415465897661863160754340907 2 [2, 3, 353, 57467, 132049, 1923133, 31757755568855353, 75445702479781427272750846543864801] (by decide +kernel) (all_cons p2 (all_cons p3 (all_cons zCw (all_cons zAe.1 (all_cons zyn.1 (all_cons zvn.1 (all_cons zgV.1 (all_cons zcY.1 zaR))))))))
theorem zaL : IsL 57896044618658097711785492504343953926634992332820282019728792003956564819949 := zbI 57896044618658097711785492504343953926634992332820282019728792003956564819949 2 [2, 2, 3, 65147, 74058212732561358302231226437062788676166966415465897661863160754340907] (by decide +kernel) (all_cons p2 (all_cons p2 (all_cons p3 (all_cons zAf.1 (all_cons zbm.1 zaR)))))
end
section
attribute [local irreducible] zdZ zbi zbD zdj zcN zh5 zh6 zbU
theorem zk5 (v : Nat) : zdd v 1 = v := Nat.pow_one v
theorem zyq (v e n : Nat) : zdd v e ^ 2 ^ n = zdd v (e * 2 ^ n) := (Nat.pow_mul v e _).symm
theorem ziq (v e f : Nat) : zdd v e * zdd v f = zdd v (e + f) := (Nat.pow_add v e f).symm
theorem zyr (v e k : Nat) (h : e + 1 = k) : v * zdd v e = zdd v k := by subst h; exact (Nat.pow_succ' ..).symm
theorem zvp (v w e n : Nat) (h : v % n = w % n) : zdd v e % n = zdd w e % n := by unfold zdd; rw [Nat.pow_mod, h, ← Nat.pow_mod]
theorem znp (e n : Nat) (v : Nat) (he : e ≠ 0) (h : v % n = 0) : zdd v e % n = 0 := by
 unfold zdd
 rw [Nat.pow_mod, h, Nat.zero_pow (Nat.pos_of_ne_zero he), Nat.zero_mod]
attribute [local irreducible] zdd
theorem znq (v : Nat) (h : v % pN ≠ 0) : zdd v 57896044618658097711785492504343953926634992332820282019728792003956564819948 % pN = 1 := by
 have h1 := zaL.2 v
 unfold pN at h ⊢
 exact h1 h
theorem zoB {F : Nat → Nat} {v e : Nat} (hF : zb1 F (zdd v e)) (n k : Nat) (h : e * 2 ^ n = k) : zb1 (sqN F n) (zdd v k) := by
 have := zk4 hF n
 rwa [zyq, h] at this
theorem zjp {F G : Nat → Nat} {v e f k : Nat} (hF : zb1 F (zdd v e)) (hG : zb1 G (zdd v f)) (h : e + f = k) : zb1 (zbD F G) (zdd v k) := by
 have := zjj hF hG
 rwa [ziq, h] at this
theorem zdo {F G : Nat → Nat} {v e f k : Nat} (n : Nat) (hF : zb1 F (zdd v e)) (hG : zb1 G (zdd v f)) (h : e * 2 ^ n + f = k) : zb1 (zex F n G) (zdd v k) :=
 zjp (zoB hF n _ rfl) hG h
theorem zpP {F : Nat → Nat} {v : Nat} (hF : zb1 F v) : zb1 (zer F) (zdd v 57896044618658097711785492504343953926634992332820282019728792003956564819947) := by
 have h1 : zb1 F (zdd v 1) := by rw [zk5]; exact hF
 have h2 : zb1 (zjh F) (zdd v 2) := zoB h1 1 _ rfl
 have h9 : zb1 (zfD F) (zdd v 9) := zdo 2 h2 h1 rfl
 have h11 : zb1 (zcJ F) (zdd v 11) := zjp h9 h2 rfl
 have h5 : zb1 (zdK F) (zdd v 31) := zjp (zoB h11 1 22 rfl) h9 rfl
 have h10 : zb1 (zgT F) (zdd v 1023) := zdo 5 h5 h5 rfl
 have h20 : zb1 (zdm F) (zdd v 1048575) := zdo 10 h10 h10 rfl
 have h40 : zb1 (zfE F) (zdd v 1099511627775) := zdo 20 h20 h20 rfl
 have h50 : zb1 (zdn F) (zdd v 1125899906842623) := zdo 10 h40 h10 rfl
 have h100 : zb1 (zcD F) (zdd v 1267650600228229401496703205375) := zdo 50 h50 h50 rfl
 have h200 : zb1 (ze6 F) (zdd v 1606938044258990275541962092341162602522202993782792835301375) := zdo 100 h100 h100 rfl
 have h250 : zb1 (zeh F) (zdd v 1809251394333065553493296640760748560207343510400633813116524750123642650623) := zdo 50 h200 h50 rfl
 exact zdo 5 h250 h11 rfl
theorem zys (v : Nat) (h : v % pN ≠ 0) : v * zdd v 57896044618658097711785492504343953926634992332820282019728792003956564819947 % pN = 1 % pN := by
 rw [zyr v _ 57896044618658097711785492504343953926634992332820282019728792003956564819948 rfl, znq v h]
 rfl
end
section
open Go.RowKit
attribute [local irreducible] zdZ zbi zbD zdj zcN sqN zh5 zh6 zch zbU zbY zer ofN
def fA (a b : Nat) : Nat := (a + b) % pN
def fS (a b : Nat) : Nat := (a + (pN - b)) % pN
def fM (a b : Nat) : Nat := a * b % pN
structure Pt where
 x : Nat
 z : Nat
def zhH (q : Pt) : Prop := q.x < pN ∧ q.z < pN
def zoC (q : Pt) : Nat := fS (fM (fA q.x q.z) (fA q.x q.z)) (fM (fS q.x q.z) (fS q.x q.z))
def zeo (q : Pt) : Pt := ⟨fM (fM (fA q.x q.z) (fA q.x q.z)) (fM (fS q.x q.z) (fS q.x q.z)), fM (zoC q) (fA (fM (fA q.x q.z) (fA q.x q.z)) (fM 121665 (zoC q)))⟩
def zd2 (q s : Pt) : Nat := fM (fS s.x s.z) (fA q.x q.z)
def zdO (q s : Pt) : Nat := fM (fA s.x s.z) (fS q.x q.z)
def zd3 (u : Nat) (q s : Pt) : Pt := ⟨fM (fA (zd2 q s) (zdO q s)) (fA (zd2 q s) (zdO q s)), fM u (fM (fS (zd2 q s) (zdO q s)) (fS (zd2 q s) (zdO q s)))⟩
def zgW (u b : Nat) (q s : Pt) : Pt × Pt := if b = 1 then (zd3 u s q, zeo s) else (zeo q, zd3 u q s)
def zeu (k : Nat → Nat) (n : Nat) : Nat := k ((254 - n) / 8) / 2 ^ ((254 - n) % 8) % 2
def zbc (u : Nat) (k : Nat → Nat) : Nat → Pt × Pt
 | 0 => (⟨1, 0⟩, ⟨u, 1⟩)
 | n + 1 => zgW u (zeu k n) (zbc u k n).1 (zbc u k n).2
def zag (k : Nat → Nat) (i : Nat) : Nat := if i = 0 then k 0 / 8 * 8 else if i = 31 then k 31 % 64 + 64 else k i
def zdt (k : Nat → Nat) (u : Nat) : Nat := fM (zbc u (zag k) 255).1.x (zdd (zbc u (zag k) 255).1.z 57896044618658097711785492504343953926634992332820282019728792003956564819947)
def za0 (u : Nat → Nat) : Nat := kvN (zhb u) 32 % pN
theorem zcZ : 0 < pN := by unfold pN; decide +kernel
theorem zoD (a b : Nat) : fA a b < pN := Nat.mod_lt _ zcZ
theorem zoE (a b : Nat) : fS a b < pN := Nat.mod_lt _ zcZ
theorem zey (a b : Nat) : fM a b < pN := Nat.mod_lt _ zcZ
theorem zwQ (q : Pt) : zhH (zeo q) := ⟨zey _ _, zey _ _⟩
theorem zwR (u : Nat) (q s : Pt) : zhH (zd3 u q s) := ⟨zey _ _, zey _ _⟩
theorem zir : 1 < pN := by unfold pN; decide +kernel
theorem zko (u : Nat) (hu : u < pN) (k : Nat → Nat) : ∀ n, zhH (zbc u k n).1 ∧ zhH (zbc u k n).2
 | 0 => ⟨⟨zir, zcZ⟩, ⟨hu, zir⟩⟩
 | n + 1 => by
  unfold zbc zgW
  split
  ·exact ⟨zwR _ _ _, zwQ _⟩
  ·exact ⟨zwQ _, zwR _ _ _⟩
theorem zgr (k : Nat → Nat) (n : Nat) : zeu k n = 0 ∨ zeu k n = 1 := by unfold zeu; omega
theorem zk6 {F : Nat → Nat} {a : Nat} (h : zb1 F a) : zb1 F (a % pN) := ⟨h.1, by rw [h.2, Nat.mod_mod]⟩
theorem znr {F G : Nat → Nat} {a b : Nat} (hF : zb1 F a) (hG : zb1 G b) : zb1 (zh5 F G) (fA a b) := zk6 (zvi hF hG)
theorem zns {F G : Nat → Nat} {a b : Nat} (hF : zb1 F a) (hG : zb1 G b) (hb : b < pN) : zb1 (zh6 F G) (fS a b) := by
 refine zvj hF hG ?_
 unfold fS
 rw [Nat.mod_add_mod, show a + (pN - b) + b = a + pN by omega, Nat.add_mod_right]
theorem zhI {F G : Nat → Nat} {a b : Nat} (hF : zb1 F a) (hG : zb1 G b) : zb1 (zbD F G) (fM a b) := zk6 (zjj hF hG)
theorem zpQ {F : Nat → Nat} {a : Nat} (hF : zb1 F a) : zb1 (sqN F 1) (fM a a) := by
 have h := zk6 (zk4 hF 1)
 rw [show a ^ 2 ^ 1 = a * a from by rw [Nat.pow_one]; exact Nat.pow_two a] at h
 exact h
section
variable {X Z X' Z' U : Nat → Nat} {q s : Pt} {u : Nat}
theorem zoF (hX : zb1 X q.x) (hZ : zb1 Z q.z) : zb1 (sAA X Z) (fM (fA q.x q.z) (fA q.x q.z)) := zpQ (znr hX hZ)
theorem zsZ (hX : zb1 X q.x) (hZ : zb1 Z q.z) (hq : zhH q) : zb1 (sBB X Z) (fM (fS q.x q.z) (fS q.x q.z)) := zpQ (zns hX hZ hq.2)
theorem zwS (hX : zb1 X q.x) (hZ : zb1 Z q.z) (hq : zhH q) : zb1 (sE X Z) (zoC q) := zns (zoF hX hZ) (zsZ hX hZ hq) (zey _ _)
theorem zs0 (hX : zb1 X q.x) (hZ : zb1 Z q.z) (hq : zhH q) : zb1 (sLX X Z) (zeo q).x := zhI (zoF hX hZ) (zsZ hX hZ hq)
theorem zs1 (hX : zb1 X q.x) (hZ : zb1 Z q.z) (hq : zhH q) : zb1 (sLZ X Z) (zeo q).z := zhI (zwS hX hZ hq) (znr (zoF hX hZ) (zhI (ze7 (by omega)) (zwS hX hZ hq)))
theorem zs2 (hX : zb1 X q.x) (hZ : zb1 Z q.z) (hX' : zb1 X' s.x) (hZ' : zb1 Z' s.z) (hs : zhH s) : zb1 (sDA X Z X' Z') (zd2 q s) := zhI (zns hX' hZ' hs.2) (znr hX hZ)
theorem zs3 (hX : zb1 X q.x) (hZ : zb1 Z q.z) (hX' : zb1 X' s.x) (hZ' : zb1 Z' s.z) (hq : zhH q) : zb1 (sCB X Z X' Z') (zdO q s) := zhI (znr hX' hZ') (zns hX hZ hq.2)
theorem zs4 (hX : zb1 X q.x) (hZ : zb1 Z q.z) (hX' : zb1 X' s.x) (hZ' : zb1 Z' s.z) (hq : zhH q) (hs : zhH s) : zb1 (sHX X Z X' Z') (zd3 u q s).x := zpQ (znr (zs2 hX hZ hX' hZ' hs) (zs3 hX hZ hX' hZ' hq))
theorem zs5 (hX : zb1 X q.x) (hZ : zb1 Z q.z) (hX' : zb1 X' s.x) (hZ' : zb1 Z' s.z) (hq : zhH q) (hs : zhH s) (hU : zb1 U u) : zb1 (sHZ X Z X' Z' U) (zd3 u q s).z := zhI hU (zpQ (zns (zs2 hX hZ hX' hZ' hs) (zs3 hX hZ hX' hZ' hq) (zey _ _)))
end
end
section
def zak (v i : Nat) : Nat := v / 2 ^ (16 * i) % 65536
def zba (X : Nat → Nat) : Nat → Nat
 | 0 => 0
 | i + 1 => zba X i + X i * 2 ^ (16 * i)
theorem zbj (X : Nat → Nat) (i : Nat) : zba X (i + 1) = zba X i + X i * 2 ^ (16 * i) := rfl
theorem zej (X Y : Nat → Nat) : ∀ n, (∀ i, i < n → X i = Y i) → zba X n = zba Y n
 | 0, _ => rfl
 | n + 1, h => by rw [zbj, zbj, zej X Y n (fun i hi => h i (by omega)), h n (by omega)]
theorem zoG (m : Nat) : 2 ^ (16 * (m + 1)) = 2 ^ (16 * m) * 65536 := by rw [Nat.mul_add, Nat.pow_add]
theorem zgX (v : Nat) : ∀ n, zba (zak v) n = v % 2 ^ (16 * n)
 | 0 => by simp [zba, Nat.mod_one]
 | n + 1 => by
  rw [zbj, zgX v n, zoG, Nat.mod_mul]
  unfold zak
  rw [Nat.mul_comm (2 ^ (16 * n))]
theorem zk7 (X : Nat → Nat) : ∀ n, (∀ i, i < n → X i < 65536) → zba X n < 2 ^ (16 * n)
 | 0, _ => by simp [zba]
 | n + 1, h => by
  have h1 := zk7 X n (fun i hi => h i (by omega))
  have h2 := h n (by omega)
  rw [zbj, zoG]
  have h3 : X n * 2 ^ (16 * n) ≤ 65535 * 2 ^ (16 * n) := Nat.mul_le_mul_right _ (by omega)
  omega
theorem zvq (X : Nat → Nat) (n : Nat) (hX : ∀ i, i < n → X i < 65536) (i : Nat) (hi : i < n) : zak (zba X n) i = X i := by
 have up : ∀ m, i < m → m ≤ n → zak (zba X m) i = X i := by
  intro m
  induction m with
  | zero => intro h; omega
  | succ m ih =>
   intro h hm
   have hl := zk7 X m (fun j hj => hX j (by omega))
   by_cases him : i = m
   ·subst him
    unfold zak
    rw [zbj, Nat.add_mul_div_right _ _ (Nat.two_pow_pos _), Nat.div_eq_of_lt hl, Nat.zero_add, Nat.mod_eq_of_lt (hX i hi)]
   ·rw [← ih (by omega) (by omega)]
    unfold zak
    rw [zbj]
    have : 2 ^ (16 * m) = 2 ^ (16 * i) * (65536 * 2 ^ (16 * (m - i - 1))) := by
     rw [← Nat.mul_assoc, ← zoG, ← Nat.pow_add]
     congr 1
     omega
    rw [this, Nat.mul_left_comm, Nat.add_mul_div_left _ _ (Nat.two_pow_pos _), Nat.mul_left_comm (X m), Nat.add_mul_mod_self_left]
 exact up n hi (jV n)
theorem zjq (A B : Nat → Nat) (c : Nat) : ∀ n, zba (fun i => A i + c * B i) n = zba A n + c * zba B n
 | 0 => by simp [zba]
 | n + 1 => by
  simp only [zbj]
  rw [zjq A B c n, Nat.mul_add, Nat.add_mul, Nat.mul_assoc]
  omega
theorem zgs (L : Nat → Nat) (k : Nat) : ∀ n, zba L (k + n) = zba L k + 2 ^ (16 * k) * zba (fun i => L (k + i)) n
 | 0 => by simp [zba]
 | n + 1 => by
  rw [← Nat.add_assoc, zbj, zgs L k n, zbj, Nat.mul_add 16 k n, Nat.pow_add, Nat.mul_add, Nat.mul_left_comm (L (k + n)), Nat.add_assoc]
theorem zq3 (L : Nat → Nat) : zba (fun i => L i + 38 * L (16 + i)) 16 % pN = zba L 32 % pN := by
 rw [zjq L (fun i => L (16 + i)) 38 16, zgs L 16 16, show (2 : Nat) ^ (16 * 16) = 38 + pN * 2 from by decide +kernel, Nat.add_mul, ← Nat.add_assoc, Nat.mul_assoc pN 2, Nat.add_mul_mod_self_left]
def ovR (X : Nat → Nat) : Nat → Nat
 | 0 => 0
 | m + 1 => (X m + ovR X m) / 65536
def loR (X : Nat → Nat) (m : Nat) : Nat := (X m + ovR X m) % 65536
theorem zk8 (X : Nat → Nat) (m : Nat) : ovR X (m + 1) = (X m + ovR X m) / 65536 := rfl
theorem zs6 (X : Nat → Nat) : ∀ m, zba (loR X) m + ovR X m * 2 ^ (16 * m) = zba X m
 | 0 => by simp [zba, ovR]
 | m + 1 => by
  rw [zbj, zbj, ← zs6 X m, zk8, zoG]
  unfold loR
  have h := Nat.div_add_mod (X m + ovR X m) 65536
  generalize (X m + ovR X m) / 65536 = d at *
  generalize (X m + ovR X m) % 65536 = r at *
  have e : X m * 2 ^ (16 * m) + ovR X m * 2 ^ (16 * m) = (65536 * d + r) * 2 ^ (16 * m) := by rw [h, Nat.add_mul]
  rw [Nat.add_mul, Nat.mul_comm 65536 d, Nat.mul_assoc d] at e
  rw [Nat.mul_comm (2 ^ (16 * m)) 65536]
  omega
theorem zpR (X : Nat → Nat) (hX : ∀ i, i < 16 → X i < 70368744177664) : ∀ m, m ≤ 16 → ovR X m < 2147483648
 | 0, _ => by unfold ovR; omega
 | m + 1, h => by
  have := zpR X hX m (by omega)
  have := hX m (by omega)
  rw [zk8]
  omega
theorem znt (X : Nat → Nat) (m : Nat) : loR X m < 65536 := Nat.mod_lt _ (by omega)
def zfa (X : Nat → Nat) (i : Nat) : Nat := if i = 0 then loR X 0 + 38 * ovR X 16 else loR X i
theorem zjr (X Y : Nat → Nat) (h : ∀ i, 1 ≤ i → X i = Y i) : ∀ n, zba X (n + 1) + Y 0 = zba Y (n + 1) + X 0
 | 0 => by simp [zba]; omega
 | n + 1 => by
  have := zjr X Y h n
  rw [zbj X (n + 1), zbj Y (n + 1), h (n + 1) (by omega)]
  omega
theorem zpS (X : Nat → Nat) : zba (zfa X) 16 + ovR X 16 * (pN * 2) = zba X 16 := by
 have h1 := zs6 X 16
 have h2 := zjr (zfa X) (loR X) (fun i hi => by unfold zfa; rw [if_neg (by omega)]) 15
 have e : zfa X 0 = loR X 0 + 38 * ovR X 16 := by unfold zfa; rw [if_pos rfl]
 rw [e] at h2
 rw [show (2 : Nat) ^ (16 * 16) = 38 + pN * 2 from by decide +kernel] at h1
 rw [Nat.mul_add] at h1
 simp only [Nat.reduceAdd] at h2
 generalize ovR X 16 * (pN * 2) = z at *
 omega
theorem zyt (X : Nat → Nat) (hX : ∀ i, i < 16 → X i < 70368744177664) (i : Nat) (_hi : i < 16) : zfa X i < 70368744177664 := by
 have := zpR X hX 16 (by omega)
 have := znt X 0
 have := znt X i
 unfold zfa
 split <;> omega
theorem zs7 (X : Nat → Nat) (h : ovR X 16 = 0) (i : Nat) : zfa X i < 65536 := by
 have := znt X 0
 have := znt X i
 unfold zfa
 rw [h]
 split <;> omega
theorem zAh : ∀ i, i < 16 → zak pN i = if i = 0 then 65517 else if i = 15 then 32767 else 65535 := by decide +kernel
theorem zcP (v i : Nat) : zak v i < 65536 := Nat.mod_lt _ (by omega)
theorem zpT (v i : Nat) : v / 2 ^ (16 * i) = v / 2 ^ (16 * (i + 1)) * 65536 + zak v i := by
 unfold zak
 rw [zoG, ← Nat.div_div_eq_div_mul]
 omega
theorem zs8 (v p i : Nat) (h : v / 2 ^ (16 * (i + 1)) = p / 2 ^ (16 * (i + 1))) (hne : zak v i ≠ zak p i) : decide (v < p) = decide (zak v i < zak p i) := by
 have e1 := zpT v i
 have e2 := zpT p i
 rw [h] at e1
 apply decide_eq_decide.2
 constructor
 ·intro hl
  have := Nat.div_le_div_right (c := 2 ^ (16 * i)) (Nat.le_of_lt hl)
  omega
 ·intro hl
  have : v / 2 ^ (16 * i) < p / 2 ^ (16 * i) := by omega
  rcases Nat.lt_or_ge v p with h' | h'
  ·exact h'
  ·have := Nat.div_le_div_right (c := 2 ^ (16 * i)) h'
   omega
def boN (v p m : Nat) : Nat := if v % 2 ^ (16 * m) < p % 2 ^ (16 * m) then 1 else 0
theorem zpU (v p m : Nat) (h : p ≤ v) : (65536 + zak v m - zak p m - boN v p m) % 65536 = zak (v - p) m ∧ 1 - (65536 + zak v m - zak p m - boN v p m) / 65536 = boN v p (m + 1) := by
 have hv := Nat.div_add_mod v (2 ^ (16 * m))
 have hp := Nat.div_add_mod p (2 ^ (16 * m))
 have pos := Nat.two_pow_pos (16 * m)
 have lv := Nat.mod_lt v pos
 have lp := Nat.mod_lt p pos
 have mv : v % 2 ^ (16 * (m + 1)) = v % 2 ^ (16 * m) + 2 ^ (16 * m) * zak v m := by rw [zoG, Nat.mod_mul]; rfl
 have mp : p % 2 ^ (16 * (m + 1)) = p % 2 ^ (16 * m) + 2 ^ (16 * m) * zak p m := by rw [zoG, Nat.mod_mul]; rfl
 have key : (v - p) / 2 ^ (16 * m) = v / 2 ^ (16 * m) - p / 2 ^ (16 * m) - boN v p m := by
  have hle := Nat.div_le_div_right (c := 2 ^ (16 * m)) h
  unfold boN
  generalize 2 ^ (16 * m) = B at *
  generalize v / B = A at *
  generalize p / B = C at *
  obtain ⟨D, rfl⟩ : ∃ D, A = C + D := ⟨A - C, by omega⟩
  rw [Nat.mul_add] at hv
  split
  ·rename_i hlt
   have hD : D ≠ 0 := by
    intro e
    rw [e, Nat.mul_zero] at hv
    omega
   obtain ⟨E, rfl⟩ : ∃ E, D = E + 1 := ⟨D - 1, by omega⟩
   rw [Nat.mul_add, Nat.mul_one] at hv
   rw [show v - p = v % B + B - p % B + B * E from by omega, Nat.add_mul_div_left _ _ pos, Nat.div_eq_of_lt (by omega)]
   omega
  ·rw [show v - p = v % B - p % B + B * D from by omega, Nat.add_mul_div_left _ _ pos, Nat.div_eq_of_lt (by omega)]
   omega
 have pv := zcP v m
 have pp := zcP p m
 have hb : boN v p m ≤ 1 := by unfold boN; split <;> omega
 constructor
 ·have hle := Nat.div_le_div_right (c := 2 ^ (16 * m)) h
  have hpos : boN v p m + p / 2 ^ (16 * m) ≤ v / 2 ^ (16 * m) := by
   unfold boN
   split
   ·rename_i hlt
    rcases Nat.lt_or_ge (p / 2 ^ (16 * m)) (v / 2 ^ (16 * m)) with h' | h'
    ·omega
    ·have e : v / 2 ^ (16 * m) = p / 2 ^ (16 * m) := by omega
     rw [e] at hv
     omega
   ·omega
  have e3 : zak (v - p) m = (v / 2 ^ (16 * m) - p / 2 ^ (16 * m) - boN v p m) % 65536 := by unfold zak; rw [key]
  rw [e3]
  unfold zak at *
  omega
 ·have hb2 : boN v p (m + 1) = if zak v m < zak p m + boN v p m then 1 else 0 := by
   unfold boN
   rw [mv, mp]
   generalize 2 ^ (16 * m) = B at *
   generalize v % B = a at *
   generalize p % B = b at *
   rcases Nat.lt_trichotomy (zak v m) (zak p m) with h1 | h1 | h1
   ·have : B * zak v m + B ≤ B * zak p m := by rw [← Nat.mul_succ]; exact Nat.mul_le_mul_left B h1
    rw [if_pos (by omega), if_pos (by omega)]
   ·rw [h1]
    by_cases h2 : a < b
    ·rw [if_pos (by omega), if_pos h2, if_pos (by omega)]
    ·rw [if_neg (by omega), if_neg h2, if_neg (by omega)]
   ·have : B * zak p m + B ≤ B * zak v m := by rw [← Nat.mul_succ]; exact Nat.mul_le_mul_left B h1
    rw [if_neg (by omega)]
    by_cases h2 : a < b
    ·rw [if_pos h2, if_neg (by omega)]
    ·rw [if_neg h2, if_neg (by omega)]
  rw [hb2]
  split <;> omega
theorem zs9 (v p : Nat) : boN v p 0 = 0 := by unfold boN; simp [Nat.mod_one]
end
section
open Go.RowKit
attribute [local irreducible] zba ovR loR zak boN zfa pN
theorem za7 : zeB Tryz.prog 84 16 := ⟨_, Tryz.underlying84, rfl, by kernel_rfl⟩
theorem zeL : zcw Tryz.prog 84 .u64 16 := by unfold zcw; kernel_rfl
theorem zA4 : zeB Tryz.prog 116 32 := ⟨_, Tryz.underlying116, rfl, by kernel_rfl⟩
theorem zA5 : zcw Tryz.prog 116 .u64 32 := by unfold zcw; kernel_rfl
theorem zta (i : Nat) (hi : i < 16) (w : World) :
  Calls Tryz.prog 112 #[.int .i64 i] w fun e w' => e = .returned (.int .u64 ((zak pN i : Nat) : Int)) ∧ w = w' := by
 rw [zAh i hi]
 by_cases h0 : i = 0
 ·subst h0
  go_enter Tryz.func112, Tryz.ntmps112
  go_wp2
  go_ret
  exact ⟨rfl, rfl⟩
 ·by_cases h15 : i = 15
  ·subst h15
   go_enter Tryz.func112, Tryz.ntmps112
   go_wp2
   go_ret
   exact ⟨rfl, rfl⟩
  ·rw [if_neg h0, if_neg h15]
   have e0 : ((i : Int) == 0) = false := by rw [beq_eq_false_iff_ne]; omega
   have e1 : ((i : Int) == 15) = false := by rw [beq_eq_false_iff_ne]; omega
   clear h0 h15
   go_enter Tryz.func112, Tryz.ntmps112
   go_wp2
   go_ret
   exact ⟨rfl, rfl⟩
theorem zyu {a b : Nat} (h : a ≠ b) : ((a : Int) != (b : Int)) = true := by rw [bne_iff_ne]; omega
theorem zyv {a b : Nat} (h : a = b) : ((a : Int) != (b : Int)) = false := by subst h; simp
theorem ztb (v : Nat) (hv : v < 2 ^ 256) (w : World) :
  Calls Tryz.prog 111 #[.agg (arr .u64 16 fun i => ((zak v i : Nat) : Int))] w fun e w' => e = .returned (.bool (decide (v < pN))) ∧ Below w.heap.size w w' := by
 have hv0 : v / 2 ^ (16 * 16) = pN / 2 ^ (16 * 16) := by rw [Nat.div_eq_of_lt hv, Nat.div_eq_of_lt (by unfold pN; decide +kernel)]
 have hv' := Lib.hid hv
 have HV0 := Lib.hid hv0
 clear hv hv0
 go_enter Tryz.func111, Tryz.ntmps111
 obtain ⟨g0, hz, hb⟩ := zb5 w (.cells (arr .u64 16 fun i => ((zak v i : Nat) : Int)) 84)
 go_wp2
 clear hz
 go_loopg [3] 16 (fun n i wr => i = .int .i64 ((n : Int) - 1) ∧ n ≤ 16 ∧ v / 2 ^ (16 * n) = pN / 2 ^ (16 * n) ∧ wr.heap[w.heap.size]? = some (.cells (arr .u64 16 fun i => ((zak v i : Nat) : Int)) 84 (0, 0)) ∧ Below w.heap.size w wr)
 case atStart => exact ⟨rfl, jV _, HV0.out, g0, hb⟩
 case round =>
  clear g0 hb
  obtain ⟨rfl, hn, heq, g0, hB⟩ := hrel
  have heq' := Lib.hid heq
  clear heq
  rcases Nat.eq_zero_or_pos gk with hz | hz
  ·subst hz
   have ef : decide (v < pN) = false := by
    have := heq'.out
    simp only [Nat.mul_zero, Nat.pow_zero, Nat.div_one] at this
    exact decide_eq_false (by omega)
   have EF := Lib.hid ef
   clear ef
   go_wp2
   go_ret
   refine ⟨?_, hB⟩
   rw [EF.out]
   rfl
  ·obtain ⟨k, rfl⟩ : ∃ k, gk = k + 1 := ⟨gk - 1, by omega⟩
   have ek : ((k + 1 : Nat) : Int) - 1 = (k : Int) := by omega
   rw [ek]
   have c0 := zaj g0 k (by omega)
   have hl := jM g0
   clear hz ek
   by_cases hne : zak v k = zak pN k
   ·have en := zyv hne
    have HN := Lib.hid hne
    clear hne
    go_wp2
    refine wp_region_can wr.heap.size 5 [(0, false), (1, false), (2, false), (3, false), (4, true)] (by kernel_rfl) (by kernel_rfl) ?_
    (simp only [canOps, jD, jE, jF, jG])
    iterate 4 (first | (refine zay rfl rfl (fun _ _ _ _ h => h) ?_; (simp only [Act.put, Act.eval, jN, jL, jD, jE, jO, jA, jB, jC])) | (refine zar rfl rfl (fun _ _ _ _ h => h) ?_; (simp only [Act.put, Act.eval, jN, jL, jD, jE, jO, jA, jB, jC])) | (refine zao rfl rfl rfl (fun _ _ _ _ h => h) ?_; (simp only [Act.put, jA, jB, jC])) | (refine za1 rfl rfl (fun _ _ _ _ h => h) (by first | exact .bin rfl rfl rfl | exact .indexAddr rfl | exact .un rfl | exact .extract rfl | exact .index rfl | exact .field rfl | exact .slice rfl | exact .load rfl rfl hl g0) (fun K hK => ?_); go_simp; (try (simp only [↓IntWalk.iteOmega]; go_simp)); (try go_bits); refine hK _ ?_; clear hK K))
    refine wpCan_e rfl (fun K hK => ?_)
    go_simp
    refine (zta k (by omega) _).mono ?_
    rintro e w4 ⟨rfl, rfl⟩
    refine hK _ _ (Keep.refl _ _) ?_
    clear hK K
    (try simp only [Act.put, jA, jB, jC])
    refine wpCan_nil ?_
    go_wp2
    go_roundg k
    case rel =>
     have heq := heq'.out
     refine ⟨by go_num, by omega, ?_, g0, hB.drew⟩
     rw [zpT v k, zpT pN k, heq, HN.out]
    case measure => omega
   ·have en := zyu hne
    have lb := zs8 v pN k heq'.out hne
    have LB := Lib.hid lb
    clear hne lb
    go_wp2
    refine wp_region_can wr.heap.size 5 [(0, false), (1, false), (2, false), (3, false), (4, true)] (by kernel_rfl) (by kernel_rfl) ?_
    (simp only [canOps, jD, jE, jF, jG])
    iterate 4 (first | (refine zay rfl rfl (fun _ _ _ _ h => h) ?_; (simp only [Act.put, Act.eval, jN, jL, jD, jE, jO, jA, jB, jC])) | (refine zar rfl rfl (fun _ _ _ _ h => h) ?_; (simp only [Act.put, Act.eval, jN, jL, jD, jE, jO, jA, jB, jC])) | (refine zao rfl rfl rfl (fun _ _ _ _ h => h) ?_; (simp only [Act.put, jA, jB, jC])) | (refine za1 rfl rfl (fun _ _ _ _ h => h) (by first | exact .bin rfl rfl rfl | exact .indexAddr rfl | exact .un rfl | exact .extract rfl | exact .index rfl | exact .field rfl | exact .slice rfl | exact .load rfl rfl hl g0) (fun K hK => ?_); go_simp; (try (simp only [↓IntWalk.iteOmega]; go_simp)); (try go_bits); refine hK _ ?_; clear hK K))
    refine wpCan_e rfl (fun K hK => ?_)
    go_simp
    refine (zta k (by omega) _).mono ?_
    rintro e w4 ⟨rfl, rfl⟩
    refine hK _ _ (Keep.refl _ _) ?_
    clear hK K
    (try simp only [Act.put, jA, jB, jC])
    refine wpCan_nil ?_
    go_wp2
    refine wp_region_can wr.heap.size 6 [(0, false), (1, false), (2, false), (3, false), (4, true), (5, false)] (by kernel_rfl) (by kernel_rfl) ?_
    (simp only [canOps, jD, jE, jF, jG])
    iterate 4 (first | (refine zay rfl rfl (fun _ _ _ _ h => h) ?_; (simp only [Act.put, Act.eval, jN, jL, jD, jE, jO, jA, jB, jC])) | (refine zar rfl rfl (fun _ _ _ _ h => h) ?_; (simp only [Act.put, Act.eval, jN, jL, jD, jE, jO, jA, jB, jC])) | (refine zao rfl rfl rfl (fun _ _ _ _ h => h) ?_; (simp only [Act.put, jA, jB, jC])) | (refine za1 rfl rfl (fun _ _ _ _ h => h) (by first | exact .bin rfl rfl rfl | exact .indexAddr rfl | exact .un rfl | exact .extract rfl | exact .index rfl | exact .field rfl | exact .slice rfl | exact .load rfl rfl hl g0) (fun K hK => ?_); go_simp; (try (simp only [↓IntWalk.iteOmega]; go_simp)); (try go_bits); refine hK _ ?_; clear hK K))
    refine wpCan_e rfl (fun K hK => ?_)
    go_simp
    refine (zta k (by omega) _).mono ?_
    rintro e w4 ⟨rfl, rfl⟩
    refine hK _ _ (Keep.refl _ _) ?_
    clear hK K
    (try simp only [Act.put, jA, jB, jC])
    iterate 1 (first | (refine zay rfl rfl (fun _ _ _ _ h => h) ?_; (simp only [Act.put, Act.eval, jN, jL, jD, jE, jO, jA, jB, jC])) | (refine zar rfl rfl (fun _ _ _ _ h => h) ?_; (simp only [Act.put, Act.eval, jN, jL, jD, jE, jO, jA, jB, jC])) | (refine zao rfl rfl rfl (fun _ _ _ _ h => h) ?_; (simp only [Act.put, jA, jB, jC])) | (refine za1 rfl rfl (fun _ _ _ _ h => h) (by first | exact .bin rfl rfl rfl | exact .indexAddr rfl | exact .un rfl | exact .extract rfl | exact .index rfl | exact .field rfl | exact .slice rfl) (fun K hK => ?_); go_simp; (try (simp only [↓IntWalk.iteOmega]; go_simp)); (try go_bits); refine hK _ ?_; clear hK K))
    refine wpCan_nil ?_
    go_wp2
    go_ret
    refine ⟨?_, hB.drew.drew⟩
    rw [LB.out]
    rfl
theorem zpV : 0 < pN := by unfold pN; omega
theorem zvr (L : Nat → Nat) (hL : ∀ i, i < 32 → L i < 1099511627776) (w : World) :
  Calls Tryz.prog 83 #[.agg (arr .u64 32 fun i => ((L i : Nat) : Int))] w fun e w' => e = .returned (.agg (arr .u64 16 fun i => ((zak (zba L 32 % pN) i : Nat) : Int))) ∧ Below w.heap.size w w' := by
 go_enter Tryz.func83, Tryz.ntmps83
 obtain ⟨h0, h1, hsz, hb⟩ := zb9 w (.cells (arr .u64 32 fun i => ((L i : Nat) : Int)) 116) (.cells (arr .u64 16 fun _ => 0) 84)
 go_upto_region 1 with (refine zae rfl rfl zeL ?_)
 generalize (w.alloc (.cells (arr .u64 32 fun i => ((L i : Nat) : Int)) 116)).alloc (.cells (arr .u64 16 fun _ => 0) 84) = wa at *
 (try simp only [Act.put, jA, jB, jC])
 try simp only [World.size_alloc]
 obtain ⟨h2, hz3, bl⟩ := zb5 wa (.cells (arr .u64 16 fun _ => 0) 84)
 go_upto_region 2 with (refine zae rfl rfl zeL ?_)
 replace h0 := zaa bl (by omega) h0
 replace h1 := zaa bl (by omega) h1
 replace hb := hb.trans (bl.mono (by omega))
 rw [hsz] at h2 ⊢
 generalize wa.alloc (.cells (arr .u64 16 fun _ => 0) 84) = wb at *
 clear hz3 bl hsz
 (try simp only [Act.put, jA, jB, jC])
 have hL' := Lib.hid hL
 clear hL
 go_wp2
 go_loopg [10] 16 (fun n i wr => ∃ m : Nat, m + n = 16 ∧ i = .int .i64 m ∧ wr.heap[w.heap.size]? = some (.cells (arr .u64 32 fun i => ((L i : Nat) : Int)) 116 (0, 0)) ∧ wr.heap[w.heap.size + 1]? = some (.cells (arr .u64 16 fun _ => 0) 84 (0, 0)) ∧
  wr.heap[w.heap.size + 2]? = some (.cells (arr .u64 16 fun i => ((if i < m then L i + 38 * L (16 + i) else 0 : Nat) : Int)) 84 (0, 0)) ∧ Below w.heap.size w wr)
 case atStart => exact ⟨0, rfl, rfl, h0, h1, zaf h2 (fun i _ => by rw [if_neg (Nat.not_lt_zero i)]; rfl), hb⟩
 case round =>
  clear h0 h1 h2 hb
  obtain ⟨m, hm, rfl, h0, h1, h2, hB⟩ := hrel
  have hm' := Lib.hid hm
  clear hm
  by_cases hlt : m < 16
  ·have b0 := hL'.out m (by omega)
   have b1 := hL'.out (16 + m) (by omega)
   have c0 := zaj h0 m (by omega)
   have c1 := zaj h0 (16 + m) (by omega)
   have c2 := zaj h2 m hlt
   have fz := zaH h2 m
   go_wp2
   refine zav 11 (by kernel_rfl) (by kernel_rfl) ?_
   (simp only [jH, jI, jF, jG])
   repeat (refine wpStill_step (fun K hK => ?_); go_simp; (try (simp only [↓IntWalk.iteOmega]; go_simp)); (try go_bits); refine hK _ ?_; clear hK K)
   refine wpStill_nil ?_
   go_wp2
   go_roundg (gk - 1)
   case measure => have := hm'.out; omega
   case rel =>
    have hm'' := hm'.out
    refine ⟨m + 1, by omega, by go_num, zaq h0 _ _ (by omega), zaq h1 _ _ (by omega), zaf (zaJ h2 m _) (fun i _ => ?_), (hB.setCell (by show w.heap.size ≤ w.heap.size + 2; omega) _).drew⟩
    unfold upd
    by_cases h : i = m
    ·rw [if_pos h, h, if_pos (by omega)]; omega
    ·rw [if_neg h]
     dsimp only
     by_cases h2 : i < m
     ·rw [if_pos h2, if_pos (by omega)]
     ·rw [if_neg h2, if_neg (by omega)]
  ·obtain rfl : m = 16 := by have := hm'.out; omega
   obtain ⟨X, hX⟩ : ∃ X : Nat → Nat, X = fun i => L i + 38 * L (16 + i) := ⟨_, rfl⟩
   have xb : ∀ i, i < 16 → X i < 70368744177664 := fun i hi => by
    have := hL'.out i (by omega)
    have := hL'.out (16 + i) (by omega)
    rw [hX]; dsimp only; omega
   have xv : zba X 16 % pN = zba L 32 % pN := by rw [hX]; exact zq3 L
   have g2 := zaf (f' := fun i => ((X i : Nat) : Int)) h2 (fun i hi => by rw [if_pos hi, hX])
   have XB := Lib.hid xb
   have XV := Lib.hid xv
   clear h2 h0 hX xb xv hm' hL'
   go_wp2
   go_loopg [5] (zba X 16 + 1) (fun n o wr => ∃ (X : Nat → Nat) (ov : Nat), o = .int .u64 ov ∧ (∀ i, i < 16 → X i < 70368744177664) ∧ zba X 16 % pN = zba L 32 % pN ∧ (ov = 0 → ∀ i, i < 16 → X i < 65536) ∧ (ov ≠ 0 → n = zba X 16 + 1) ∧
    wr.heap[w.heap.size + 1]? = some (.cells (arr .u64 16 fun _ => 0) 84 (0, 0)) ∧ wr.heap[w.heap.size + 2]? = some (.cells (arr .u64 16 fun i => ((X i : Nat) : Int)) 84 (0, 0)) ∧ Below w.heap.size w wr)
   case atStart => exact ⟨X, 1, rfl, XB.out, XV.out, (fun h => by cases h), (fun _ => rfl), h1, g2, hB⟩
   case round =>
    clear XB XV g2 h1 hB X
    obtain ⟨X, ov, rfl, xb, xv, x0, xn, h1, g2, hB⟩ := hrel
    obtain ⟨go1, rfl⟩ : ∃ x, x = gk := ⟨_, rfl⟩
    have XB := Lib.hid xb
    have XV := Lib.hid xv
    have X0 := Lib.hid x0
    have XN := Lib.hid xn
    clear xb xv x0 xn
    by_cases hz : ov = 0
    ·subst hz
     have bound := Lib.hid (zk7 X 16 (X0.out rfl))
     obtain ⟨V, hV⟩ : ∃ V, V = zba X 16 := ⟨_, rfl⟩
     have g3 := zaf (f' := fun i => ((zak V i : Nat) : Int)) g2 (fun i hi => by rw [hV, zvq X 16 (X0.out rfl) i hi])
     have vv : V % pN = zba L 32 % pN := by rw [hV]; exact XV.out
     have vl : V < 2 ^ 256 := by rw [hV]; exact bound.out
     have VV := Lib.hid vv
     have VL := Lib.hid vl
     clear g2 XB XV X0 XN bound hV vv vl
     go_wp2
     go_loopg [7] V (fun n o wr => ∃ V : Nat, n = V ∧ V < 2 ^ 256 ∧ V % pN = zba L 32 % pN ∧ wr.heap[w.heap.size + 1]? = some (.cells (arr .u64 16 fun _ => 0) 84 (0, 0)) ∧
      wr.heap[w.heap.size + 2]? = some (.cells (arr .u64 16 fun i => ((zak V i : Nat) : Int)) 84 (0, 0)) ∧ Below w.heap.size w wr)
     case atStart => exact ⟨V, rfl, VL.out, VV.out, h1, g3, hB⟩
     case round =>
      clear VL VV h1 g3 hB V X
      obtain ⟨V, hn, vl, vv, h1, g3, hB⟩ := hrel
      obtain ⟨go2, rfl⟩ : ∃ x, x = gk := ⟨_, rfl⟩
      have HN := Lib.hid hn
      have VV := Lib.hid vv
      have VL := Lib.hid vl
      clear vv vl hn
      go_wp2_with (first | (refine zab rfl rfl rfl za7 g3 ?_) | (go_at_call 111; fail))
      refine (ztb V VL.out _).mono ?_
      rintro e w4 ⟨rfl, b4⟩
      replace h1 := zaa b4 (jM h1) h1
      replace g3 := zaa b4 (jM g3) g3
      replace hB := hB.trans (b4.mono hB.size)
      clear b4
      by_cases hp : V < pN
      ·rw [decide_eq_true hp]
       have fin : V = zba L 32 % pN := by rw [← VV.out, Nat.mod_eq_of_lt hp]
       have FIN := Lib.hid fin
       clear hp fin
       go_wp2_with (first | (refine zab rfl rfl rfl za7 g3 ?_) | (refine zac rfl rfl rfl rfl za7 h1 ?_))
       refine bodyPost_ret (zau rfl rfl za7 (zan h1)) rfl ⟨?_, zam hB (by omega) _⟩
       rw [← FIN.out]
      ·rw [decide_eq_false hp]
       have hle : pN ≤ V := by omega
       have HLE := Lib.hid hle
       clear hp hle
       go_wp2
       go_loopg [7, 51] 16 (fun n u i wr => ∃ m : Nat, m + n = 16 ∧ i = .int .i64 m ∧ u = .int .u64 ((boN V pN m : Nat) : Int) ∧ wr.heap[w.heap.size + 1]? = some (.cells (arr .u64 16 fun _ => 0) 84 (0, 0)) ∧
        wr.heap[w.heap.size + 2]? = some (.cells (arr .u64 16 fun i => ((if i < m then zak (V - pN) i else zak V i : Nat) : Int)) 84 (0, 0)) ∧ Below w.heap.size w wr)
       case atStart => exact ⟨0, rfl, rfl, (by rw [zs9]; rfl), h1, zaf g3 (fun i _ => by rw [if_neg (Nat.not_lt_zero i)]), hB⟩
       case round =>
        clear h1 g3 hB
        obtain ⟨m, hm, rfl, rfl, h1, g3, hB⟩ := hrel
        have hm' := Lib.hid hm
        clear hm
        by_cases hlt : m < 16
        ·have c0 := zaj g3 m hlt
         simp only [Nat.lt_irrefl, if_false] at c0
         have fz := zaH g3 m
         have pv := zcP V m
         have pp := zcP pN m
         have ub : boN V pN m ≤ 1 := by unfold boN; split <;> omega
         have hl := jM g3
         have ss := Lib.hid (zpU V pN m HLE.out)
         go_wp2
         refine wp_region_can wr.heap.size 9 [(0, false), (1, false), (2, false), (3, false), (4, false), (7, false), (5, true), (6, false), (8, false)] (by kernel_rfl) (by kernel_rfl) ?_
         (simp only [canOps, jD, jE, jF, jG])
         iterate 6 (first | (refine zay rfl rfl (fun _ _ _ _ h => h) ?_; (simp only [Act.put, Act.eval, jN, jL, jD, jE, jO, jA, jB, jC])) | (refine zar rfl rfl (fun _ _ _ _ h => h) ?_; (simp only [Act.put, Act.eval, jN, jL, jD, jE, jO, jA, jB, jC])) | (refine zao rfl rfl rfl (fun _ _ _ _ h => h) ?_; (simp only [Act.put, jA, jB, jC])) | (refine za1 rfl rfl (fun _ _ _ _ h => h) (by first | exact .bin rfl rfl rfl | exact .indexAddr rfl | exact .un rfl | exact .extract rfl | exact .index rfl | exact .field rfl | exact .slice rfl | exact .load rfl rfl hl g3) (fun K hK => ?_); go_simp; (try (simp only [↓IntWalk.iteOmega]; go_simp)); (try go_bits); refine hK _ ?_; clear hK K))
         refine wpCan_e rfl (fun K hK => ?_)
         go_simp
         refine (zta m hlt _).mono ?_
         rintro e w4 ⟨rfl, rfl⟩
         refine hK _ _ (Keep.refl _ _) ?_
         clear hK K
         (try simp only [Act.put, jA, jB, jC])
         iterate 2 (first | (refine zay rfl rfl (fun _ _ _ _ h => h) ?_; (simp only [Act.put, Act.eval, jN, jL, jD, jE, jO, jA, jB, jC])) | (refine zar rfl rfl (fun _ _ _ _ h => h) ?_; (simp only [Act.put, Act.eval, jN, jL, jD, jE, jO, jA, jB, jC])) | (refine zao rfl rfl rfl (fun _ _ _ _ h => h) ?_; (simp only [Act.put, jA, jB, jC])) | (refine za1 rfl rfl (fun _ _ _ _ h => h) (by first | exact .bin rfl rfl rfl | exact .indexAddr rfl | exact .un rfl | exact .extract rfl | exact .index rfl | exact .field rfl | exact .slice rfl) (fun K hK => ?_); go_simp; (try (simp only [↓IntWalk.iteOmega]; go_simp)); (try go_bits); refine hK _ ?_; clear hK K))
         refine wpCan_nil ?_
         go_wp2
         go_roundg (gk - 1)
         case measure => have := hm'.out; omega
         case rel =>
          have hm'' := hm'.out
          obtain ⟨s1, s2⟩ := ss.out
          refine ⟨m + 1, by omega, by go_num, ?_, zaq h1 _ _ (by omega), zaf (zaJ g3 m _) (fun i _ => ?_), (hB.drew.setCell (by show w.heap.size ≤ w.heap.size + 2; omega) _)⟩
          ·rw [← s2]; congr 1; omega
          ·unfold upd
           by_cases h : i = m
           ·rw [if_pos h, h, if_pos (by omega), ← s1]; omega
           ·rw [if_neg h]
            dsimp only
            by_cases h2 : i < m
            ·rw [if_pos h2, if_pos (by omega)]
            ·rw [if_neg h2, if_neg (by omega)]
        ·obtain rfl : m = 16 := by have := hm'.out; omega
         have g4 := zaf (f' := fun i => ((zak (V - pN) i : Nat) : Int)) g3 (fun i hi => by rw [if_pos hi])
         clear g3
         go_wp2
         go_roundg (V - pN)
         case measure => have := HLE.out; have := HN.out; have := zpV; omega
         case rel => exact ⟨V - pN, rfl, Nat.lt_of_le_of_lt (Nat.sub_le _ _) VL.out, by rw [← VV.out, ← Nat.mod_eq_sub_mod HLE.out], h1, g4, hB⟩
    ·have op : 0 < ov := by omega
     have HZ := Lib.hid hz
     clear hz
     go_wp2
     go_loopg [5, 27] 16 (fun n o i wr => ∃ m : Nat, m + n = 16 ∧ i = .int .i64 m ∧ o = .int .u64 ((ovR X m : Nat) : Int) ∧ wr.heap[w.heap.size + 1]? = some (.cells (arr .u64 16 fun _ => 0) 84 (0, 0)) ∧
      wr.heap[w.heap.size + 2]? = some (.cells (arr .u64 16 fun i => ((if i < m then loR X i else X i : Nat) : Int)) 84 (0, 0)) ∧ Below w.heap.size w wr)
     case atStart => exact ⟨0, rfl, rfl, (by unfold ovR; rfl), h1, zaf g2 (fun i _ => by rw [if_neg (Nat.not_lt_zero i)]), hB⟩
     case round =>
      clear h1 g2 hB op
      obtain ⟨m, hm, rfl, rfl, h1, g2, hB⟩ := hrel
      have hm' := Lib.hid hm
      clear hm
      by_cases hlt : m < 16
      ·have c0 := zaj g2 m hlt
       simp only [Nat.lt_irrefl, if_false] at c0
       have fz := zaH g2 m
       have xb := XB.out m hlt
       have ob := zpR X XB.out m (by omega)
       go_wp2
       go_roundg (gk - 1)
       case measure => have := hm'.out; omega
       case rel =>
        have hm'' := hm'.out
        refine ⟨m + 1, by omega, by go_num, ?_, zaq h1 _ _ (by omega), zaf (zaJ g2 m _) (fun i _ => ?_), (hB.setCell (by show w.heap.size ≤ w.heap.size + 2; omega) _)⟩
        ·rw [zk8]; congr 1; omega
        ·unfold upd
         by_cases h : i = m
         ·rw [if_pos h, h, if_pos (by omega)]; unfold loR; omega
         ·rw [if_neg h]
          dsimp only
          by_cases h2 : i < m
          ·rw [if_pos h2, if_pos (by omega)]
          ·rw [if_neg h2, if_neg (by omega)]
      ·obtain rfl : m = 16 := by have := hm'.out; omega
       have g3 := zaf (f' := fun i => ((loR X i : Nat) : Int)) g2 (fun i hi => by rw [if_pos hi])
       have c0 := zaj g3 0 (by omega)
       have fz := zaH g3 0
       have ob := zpR X XB.out 16 (by omega)
       have lb := znt X 0
       clear g2
       go_wp2
       go_roundg (if ovR X 16 = 0 then 0 else zba (zfa X) 16 + 1)
       case measure =>
        have h3 := zpS X
        have h4 := XN.out HZ.out
        have h5 := zpV
        split
        ·omega
        ·rename_i h6
         have : 1 ≤ ovR X 16 * (pN * 2) := Nat.mul_pos (by omega) (by omega)
         omega
       case rel =>
        refine ⟨zfa X, ovR X 16, rfl, zyt X XB.out, ?_, fun h i _ => zs7 X h i, fun h => by rw [if_neg h], zaq h1 _ _ (by omega), zaf (zaJ g3 0 _) (fun i _ => ?_), (hB.setCell (by show w.heap.size ≤ w.heap.size + 2; omega) _)⟩
        ·rw [← XV.out, ← zpS X, Nat.mul_left_comm, Nat.mul_comm, Nat.add_mul_mod_self_right]
        ·unfold upd zfa
         by_cases h : i = 0
         ·rw [if_pos h, if_pos h]; omega
         ·rw [if_neg h, if_neg h]
end
section
open Go.RowKit
theorem zyw (L : Nat → Nat) (h : ∀ i, 16 ≤ i → L i = 0) : zba L 32 = zba L 16 := by
 rw [zgs L 16 16, zej (fun i => L (16 + i)) (fun _ => 0) 16 (fun i _ => h _ (by omega))]
 have : ∀ n, zba (fun _ => 0) n = 0 := by
  intro n
  induction n with
  | zero => rfl
  | succ n ih => rw [zbj, ih, Nat.zero_mul]
 rw [this, Nat.mul_zero, Nat.add_zero]
theorem zq4 (A B : Nat → Nat) (n : Nat) : zba (fun i => A i + B i) n = zba A n + zba B n := by
 have := zjq A B 1 n
 rw [Nat.one_mul] at this
 rw [← this]
 exact zej _ _ n (fun i _ => by rw [Nat.one_mul])
def zfo (a b : Nat) (i : Nat) : Nat := if i < 16 then zak a i + zak b i else 0
theorem zpW (a b : Nat) (ha : a < 2 ^ 256) (hb : b < 2 ^ 256) : zba (zfo a b) 32 = a + b := by
 rw [zyw _ (fun i hi => by unfold zfo; rw [if_neg (by omega)]), zej (zfo a b) (fun i => zak a i + zak b i) 16 (fun i hi => by unfold zfo; rw [if_pos hi]), zq4, zgX, zgX, Nat.mod_eq_of_lt ha, Nat.mod_eq_of_lt hb]
theorem ztc (a b i : Nat) : zfo a b i < 1099511627776 := by
 have := zcP a i
 have := zcP b i
 unfold zfo
 split <;> omega
theorem zjs (X : Nat → Nat) (c t : Nat) : ∀ n, zba (fun j => X j + if c = j then t else 0) n = zba X n + if c < n then t * 2 ^ (16 * c) else 0
 | 0 => rfl
 | n + 1 => by
  rw [zbj, zjs X c t n, zbj, Nat.add_mul]
  by_cases h : c = n
  ·subst h
   rw [if_pos rfl, if_neg (by omega), if_pos (by omega)]
   omega
  ·rw [if_neg h, Nat.zero_mul]
   by_cases h2 : c < n
   ·rw [if_pos h2, if_pos (by omega)]; omega
   ·rw [if_neg h2, if_neg (by omega)]; omega
def zhc (A B : Nat → Nat) : Nat → Nat → Nat
 | 0, _ => 0
 | n + 1, c => zhc A B n c + if n / 16 + n % 16 = c then A (n / 16) * B (n % 16) else 0
theorem zjt (A B : Nat → Nat) (n c : Nat) : zhc A B (n + 1) c = zhc A B n c + if n / 16 + n % 16 = c then A (n / 16) * B (n % 16) else 0 := rfl
theorem ztd (A B : Nat → Nat) (hA : ∀ i, i < 16 → A i < 65536) (hB : ∀ i, i < 16 → B i < 65536) (c : Nat) : ∀ n, n ≤ 256 → zhc A B n c ≤ n * 4294836225
 | 0, _ => by unfold zhc; omega
 | n + 1, h => by
  have h1 := ztd A B hA hB c n (by omega)
  have ha := hA (n / 16) (by omega)
  have hb := hB (n % 16) (by omega)
  rw [zjt]
  have h2 : A (n / 16) * B (n % 16) ≤ 4294836225 := jU (Nat.mul_le_mul (show A (n / 16) ≤ 65535 by omega) (show B (n % 16) ≤ 65535 by omega)) (by decide)
  rw [Nat.succ_mul]
  refine Nat.add_le_add h1 ?_
  split
  ·exact h2
  ·exact Nat.zero_le _
theorem zf0 (X : Nat → Nat) : zba X 0 = 0 := rfl
theorem zhq (X : Nat → Nat) (h : ∀ i, X i = 0) : ∀ n, zba X n = 0
 | 0 => rfl
 | n + 1 => by rw [zbj, zhq X h n, h n, Nat.zero_mul]
theorem zvs (A B : Nat → Nat) (N : Nat) (hN : 32 ≤ N) : ∀ i, i ≤ 16 → ∀ k, k ≤ 16 → i * 16 + k ≤ 256 → zba (zhc A B (16 * i + k)) N = zba A i * zba B 16 + A i * 2 ^ (16 * i) * zba B k := by
 have step : ∀ i k, i < 16 → k < 16 → zba (zhc A B (16 * i + (k + 1))) N = zba (zhc A B (16 * i + k)) N + A i * B k * 2 ^ (16 * (i + k)) := by
  intro i k hi hk
  have e : ∀ c, zhc A B (16 * i + (k + 1)) c = zhc A B (16 * i + k) c + if i + k = c then A i * B k else 0 := by
   intro c
   rw [← Nat.add_assoc, zjt]
   rw [show (16 * i + k) / 16 = i from by omega, show (16 * i + k) % 16 = k from by omega]
  rw [zej _ _ N (fun c _ => e c), zjs, if_pos (by omega)]
 have row : ∀ i, i < 16 → ∀ v, zba (zhc A B (16 * i)) N = v → ∀ k, k ≤ 16 → zba (zhc A B (16 * i + k)) N = v + A i * 2 ^ (16 * i) * zba B k := by
  intro i hi v hv k
  induction k with
  | zero => intro _; rw [Nat.add_zero, hv, zf0, Nat.mul_zero, Nat.add_zero]
  | succ k ih =>
   intro hk
   rw [step i k hi (by omega), ih (by omega), zbj B k, Nat.mul_add 16 i k, Nat.pow_add, Nat.mul_add, Nat.mul_mul_mul_comm, Nat.add_assoc]
 have heads : ∀ i, i ≤ 16 → zba (zhc A B (16 * i)) N = zba A i * zba B 16 := by
  intro i
  induction i with
  | zero => intro _; rw [Nat.mul_zero, zhq (zhc A B 0) (fun _ => rfl), zf0, Nat.zero_mul]
  | succ i ih =>
   intro hi
   rw [show 16 * (i + 1) = 16 * i + 16 from by omega, row i (by omega) _ (ih (by omega)) 16 (jV _), zbj A i, Nat.add_mul]
 intro i hi k hk h
 by_cases h16 : i = 16
 ·obtain rfl : k = 0 := by omega
  rw [Nat.add_zero, heads i hi, zf0, Nat.mul_zero, Nat.add_zero]
 ·exact row i (by omega) _ (heads i hi) k hk
theorem zyx (a b : Nat) (ha : a < 2 ^ 256) (hb : b < 2 ^ 256) : zba (zhc (zak a) (zak b) 256) 32 = a * b := by
 have := zvs (zak a) (zak b) 32 (by omega) 16 (by omega) 0 (by omega) (by omega)
 rw [zgX, zgX, Nat.mod_eq_of_lt ha, Nat.mod_eq_of_lt hb, zf0, Nat.mul_zero, Nat.add_zero] at this
 exact this
theorem zkp (v i : Nat) : zak v i % 256 = v / 2 ^ (8 * (2 * i)) % 256 ∧ zak v i / 256 = v / 2 ^ (8 * (2 * i + 1)) % 256 := by
 unfold zak
 rw [show 8 * (2 * i) = 16 * i from by omega, show 8 * (2 * i + 1) = 16 * i + 8 from by omega, Nat.pow_add, ← Nat.div_div_eq_div_mul]
 constructor <;> omega
attribute [local irreducible] zba ovR loR zak boN zfa pN zfo zhc
theorem zk9 (L : Nat → Nat) (hL : ∀ i, i < 32 → L i < 1099511627776) (v : Nat) (hv : zba L 32 = v) (w : World) :
  Calls Tryz.prog 83 #[.agg (arr .u64 32 fun i => ((L i : Nat) : Int))] w fun e w' => e = .returned (.agg (arr .u64 16 fun i => ((zak (v % pN) i : Nat) : Int))) ∧ Below w.heap.size w w' := by
 subst hv
 exact zvr L hL w
theorem zyy (v : Nat) : v % pN < 2 ^ 256 := Nat.lt_trans (Nat.mod_lt _ zpV) (by unfold pN; decide +kernel)
theorem zvt (a b : Nat) (ha : a < 2 ^ 256) (hb : b < 2 ^ 256) (w : World) :
  Calls Tryz.prog 85 #[.agg (arr .u64 16 fun i => ((zak a i : Nat) : Int)), .agg (arr .u64 16 fun i => ((zak b i : Nat) : Int))] w fun e w' => e = .returned (.agg (arr .u64 16 fun i => ((zak ((a + b) % pN) i : Nat) : Int))) ∧ Below w.heap.size w w' := by
 have ha' := Lib.hid ha
 have hb' := Lib.hid hb
 clear ha hb
 go_enter Tryz.func85, Tryz.ntmps85
 obtain ⟨h0, h1, h2, hsz, hB⟩ := zc7 w (.cells (arr .u64 16 fun i => ((zak a i : Nat) : Int)) 84) (.cells (arr .u64 16 fun i => ((zak b i : Nat) : Int)) 84) (.cells (arr .u64 16 fun _ => 0) 84)
 go_upto_region 1 with (refine zae rfl rfl zeL ?_)
 generalize ((w.alloc (.cells (arr .u64 16 fun i => ((zak a i : Nat) : Int)) 84)).alloc (.cells (arr .u64 16 fun i => ((zak b i : Nat) : Int)) 84)).alloc (.cells (arr .u64 16 fun _ => 0) 84) = wa at *
 (try simp only [Act.put, jA, jB, jC])
 try simp only [World.size_alloc]
 obtain ⟨h3, hz3, bl⟩ := zb5 wa (.cells (arr .u64 32 fun _ => 0) 116)
 go_upto_region 2 with (refine zae rfl rfl zA5 ?_)
 replace h0 := zaa bl (by omega) h0
 replace h1 := zaa bl (by omega) h1
 replace h2 := zaa bl (by omega) h2
 replace hB := hB.trans (bl.mono (by omega))
 rw [hsz] at h3 ⊢
 generalize wa.alloc (.cells (arr .u64 32 fun _ => 0) 116) = wb at *
 clear hz3 bl hsz
 (try simp only [Act.put, jA, jB, jC])
 go_wp2
 go_loopg [7] 16 (fun n i wr => ∃ m : Nat, m + n = 16 ∧ i = .int .i64 m ∧ wr.heap[w.heap.size]? = some (.cells (arr .u64 16 fun i => ((zak a i : Nat) : Int)) 84 (0, 0)) ∧ wr.heap[w.heap.size + 1]? = some (.cells (arr .u64 16 fun i => ((zak b i : Nat) : Int)) 84 (0, 0)) ∧ wr.heap[w.heap.size + 1 + 1]? = some (.cells (arr .u64 16 fun _ => 0) 84 (0, 0)) ∧
  wr.heap[w.heap.size + 3]? = some (.cells (arr .u64 32 fun i => ((if i < m then zak a i + zak b i else 0 : Nat) : Int)) 116 (0, 0)) ∧ Below w.heap.size w wr)
 case atStart => exact ⟨0, rfl, rfl, h0, h1, h2, zaf h3 (fun i _ => by rw [if_neg (Nat.not_lt_zero i)]; rfl), hB⟩
 case round =>
  clear h0 h1 h2 h3 hB
  obtain ⟨m, hm, rfl, h0, h1, h2, h3, hB⟩ := hrel
  have hm' := Lib.hid hm
  clear hm
  by_cases hlt : m < 16
  ·have b0 := zcP a m
   have b1 := zcP b m
   have c0 := zaj h0 m (by omega)
   have c1 := zaj h1 m (by omega)
   have c3 := zaj h3 m (by omega)
   have fz := zaH h3 m
   go_wp2
   refine zav 9 (by kernel_rfl) (by kernel_rfl) ?_
   (simp only [jH, jI, jF, jG])
   repeat (refine wpStill_step (fun K hK => ?_); go_simp; (try (simp only [↓IntWalk.iteOmega]; go_simp)); (try go_bits); refine hK _ ?_; clear hK K)
   refine wpStill_nil ?_
   go_wp2
   go_roundg (gk - 1)
   case measure => have := hm'.out; omega
   case rel =>
    have hm'' := hm'.out
    refine ⟨m + 1, by omega, by go_num, zaq h0 _ _ (by omega), zaq h1 _ _ (by omega), zaq h2 _ _ (by omega), zaf (zaJ h3 m _) (fun i _ => ?_), (hB.setCell (by show w.heap.size ≤ w.heap.size + 3; omega) _).drew⟩
    unfold upd
    by_cases h : i = m
    ·rw [if_pos h, h, if_pos (by omega)]; omega
    ·rw [if_neg h]
     dsimp only
     by_cases h2 : i < m
     ·rw [if_pos h2, if_pos (by omega)]
     ·rw [if_neg h2, if_neg (by omega)]
  ·obtain rfl : m = 16 := by have := hm'.out; omega
   replace h3 := zaf (f' := fun i => ((zfo a b i : Nat) : Int)) h3 (fun i _ => by unfold zfo; rfl)
   go_wp2_with (first | (refine zab rfl rfl rfl zA4 h3 ?_) | (go_at_call 83; fail))
   refine (zk9 (zfo a b) (fun i _ => ztc a b i) (a + b) (zpW a b ha'.out hb'.out) _).mono ?_
   rintro e w4 ⟨rfl, b4⟩
   replace h2 := zaa b4 (jM h2) h2
   replace hB := hB.trans (b4.mono hB.size)
   go_wp2_with (refine zac rfl rfl rfl rfl za7 h2 ?_)
   exact bodyPost_ret (zau rfl rfl za7 (zan h2)) rfl ⟨rfl, zam hB (by omega) _⟩
theorem zvu (a b : Nat) (ha : a < 2 ^ 256) (hb : b < pN) (w : World) :
  Calls Tryz.prog 84 #[.agg (arr .u64 16 fun i => ((zak a i : Nat) : Int)), .agg (arr .u64 16 fun i => ((zak b i : Nat) : Int))] w fun e w' => e = .returned (.agg (arr .u64 16 fun i => ((zak ((a + (pN - b)) % pN) i : Nat) : Int))) ∧ Below w.heap.size w w' := by
 have ha' := Lib.hid ha
 have hb' := Lib.hid hb
 clear ha hb
 go_enter Tryz.func84, Tryz.ntmps84
 obtain ⟨h0, h1, h2, hsz, hB⟩ := zc7 w (.cells (arr .u64 16 fun i => ((zak a i : Nat) : Int)) 84) (.cells (arr .u64 16 fun i => ((zak b i : Nat) : Int)) 84) (.cells (arr .u64 16 fun _ => 0) 84)
 go_upto_region 1 with (refine zae rfl rfl zeL ?_)
 generalize ((w.alloc (.cells (arr .u64 16 fun i => ((zak a i : Nat) : Int)) 84)).alloc (.cells (arr .u64 16 fun i => ((zak b i : Nat) : Int)) 84)).alloc (.cells (arr .u64 16 fun _ => 0) 84) = wa at *
 (try simp only [Act.put, jA, jB, jC])
 try simp only [World.size_alloc]
 obtain ⟨h3, hz3, bl⟩ := zb5 wa (.cells (arr .u64 32 fun _ => 0) 116)
 go_upto_region 2 with (refine zae rfl rfl zA5 ?_)
 replace h0 := zaa bl (by omega) h0
 replace h1 := zaa bl (by omega) h1
 replace h2 := zaa bl (by omega) h2
 replace hB := hB.trans (bl.mono (by omega))
 rw [hsz] at h3 ⊢
 generalize wa.alloc (.cells (arr .u64 32 fun _ => 0) 116) = wb at *
 clear hz3 bl hsz
 (try simp only [Act.put, jA, jB, jC])
 go_wp2
 go_loopg [6, 9] 16 (fun n u i wr => ∃ m : Nat, m + n = 16 ∧ i = .int .i64 m ∧ u = .int .u64 ((boN pN b m : Nat) : Int) ∧ wr.heap[w.heap.size]? = some (.cells (arr .u64 16 fun i => ((zak a i : Nat) : Int)) 84 (0, 0)) ∧ wr.heap[w.heap.size + 1]? = some (.cells (arr .u64 16 fun i => ((zak b i : Nat) : Int)) 84 (0, 0)) ∧ wr.heap[w.heap.size + 1 + 1]? = some (.cells (arr .u64 16 fun _ => 0) 84 (0, 0)) ∧
  wr.heap[w.heap.size + 3]? = some (.cells (arr .u64 32 fun i => ((if i < m then zak a i + zak (pN - b) i else 0 : Nat) : Int)) 116 (0, 0)) ∧ Below w.heap.size w wr)
 case atStart => exact ⟨0, rfl, rfl, (by rw [zs9]; rfl), h0, h1, h2, zaf h3 (fun i _ => by rw [if_neg (Nat.not_lt_zero i)]; rfl), hB⟩
 case round =>
  clear h0 h1 h2 h3 hB
  obtain ⟨m, hm, rfl, rfl, h0, h1, h2, h3, hB⟩ := hrel
  have hm' := Lib.hid hm
  clear hm
  by_cases hlt : m < 16
  ·have b0 := zcP a m
   have pv := zcP pN m
   have pp := zcP b m
   have ub : boN pN b m ≤ 1 := by unfold boN; split <;> omega
   have ss := Lib.hid (zpU pN b m (Nat.le_of_lt hb'.out))
   have c0 := zaj h0 m (by omega)
   have c1 := zaj h1 m (by omega)
   have c3 := zaj h3 m (by omega)
   have fz := zaH h3 m
   have hl := jM h1
   go_wp2
   refine wp_region_can wr.heap.size 9 [(0, false), (3, false), (4, false), (5, false), (7, false), (1, true), (2, false), (6, false), (8, false)] (by kernel_rfl) (by kernel_rfl) ?_
   (simp only [canOps, jD, jE, jF, jG])
   iterate 5 (first | (refine zay rfl rfl (fun _ _ _ _ h => h) ?_; (simp only [Act.put, Act.eval, jN, jL, jD, jE, jO, jA, jB, jC])) | (refine zar rfl rfl (fun _ _ _ _ h => h) ?_; (simp only [Act.put, Act.eval, jN, jL, jD, jE, jO, jA, jB, jC])) | (refine zao rfl rfl rfl (fun _ _ _ _ h => h) ?_; (simp only [Act.put, jA, jB, jC])) | (refine za1 rfl rfl (fun _ _ _ _ h => h) (by first | exact .bin rfl rfl rfl | exact .indexAddr rfl | exact .un rfl | exact .extract rfl | exact .index rfl | exact .field rfl | exact .slice rfl | exact .load rfl rfl hl h1) (fun K hK => ?_); go_simp; (try (simp only [↓IntWalk.iteOmega]; go_simp)); (try go_bits); refine hK _ ?_; clear hK K))
   refine wpCan_e rfl (fun K hK => ?_)
   go_simp
   refine (zta m hlt _).mono ?_
   rintro e w4 ⟨rfl, rfl⟩
   refine hK _ _ (Keep.refl _ _) ?_
   clear hK K
   (try simp only [Act.put, jA, jB, jC])
   iterate 3 (first | (refine zay rfl rfl (fun _ _ _ _ h => h) ?_; (simp only [Act.put, Act.eval, jN, jL, jD, jE, jO, jA, jB, jC])) | (refine zar rfl rfl (fun _ _ _ _ h => h) ?_; (simp only [Act.put, Act.eval, jN, jL, jD, jE, jO, jA, jB, jC])) | (refine zao rfl rfl rfl (fun _ _ _ _ h => h) ?_; (simp only [Act.put, jA, jB, jC])) | (refine za1 rfl rfl (fun _ _ _ _ h => h) (by first | exact .bin rfl rfl rfl | exact .indexAddr rfl | exact .un rfl | exact .extract rfl | exact .index rfl | exact .field rfl | exact .slice rfl) (fun K hK => ?_); go_simp; (try (simp only [↓IntWalk.iteOmega]; go_simp)); (try go_bits); refine hK _ ?_; clear hK K))
   refine wpCan_nil ?_
   go_wp2
   go_roundg (gk - 1)
   case measure => have := hm'.out; omega
   case rel =>
    have hm'' := hm'.out
    obtain ⟨s1, s2⟩ := ss.out
    refine ⟨m + 1, by omega, by go_num, ?_, zaq h0 _ _ (by omega), zaq h1 _ _ (by omega), zaq h2 _ _ (by omega), zaf (zaJ h3 m _) (fun i _ => ?_), hB.drew.setCell (by show w.heap.size ≤ w.heap.size + 3; omega) _⟩
    ·rw [← s2]; congr 1; omega
    ·unfold upd
     by_cases h : i = m
     ·rw [if_pos h, h, if_pos (by omega)]; rw [← s1]; omega
     ·rw [if_neg h]
      dsimp only
      by_cases h2 : i < m
      ·rw [if_pos h2, if_pos (by omega)]
      ·rw [if_neg h2, if_neg (by omega)]
  ·obtain rfl : m = 16 := by have := hm'.out; omega
   replace h3 := zaf (f' := fun i => ((zfo a (pN - b) i : Nat) : Int)) h3 (fun i _ => by unfold zfo; rfl)
   have hs : pN - b < 2 ^ 256 := Nat.lt_of_le_of_lt (Nat.sub_le _ _) (by unfold pN; decide +kernel)
   have HS := Lib.hid hs
   clear hs
   go_wp2_with (first | (refine zab rfl rfl rfl zA4 h3 ?_) | (go_at_call 83; fail))
   refine (zk9 (zfo a (pN - b)) (fun i _ => ztc a _ i) (a + (pN - b)) (zpW a _ ha'.out HS.out) _).mono ?_
   rintro e w4 ⟨rfl, b4⟩
   replace h2 := zaa b4 (jM h2) h2
   replace hB := hB.trans (b4.mono hB.size)
   go_wp2_with (refine zac rfl rfl rfl rfl za7 h2 ?_)
   exact bodyPost_ret (zau rfl rfl za7 (zan h2)) rfl ⟨rfl, zam hB (by omega) _⟩
theorem zgY (a b : Nat) (ha : a < 2 ^ 256) (hb : b < 2 ^ 256) (w : World) :
  Calls Tryz.prog 60 #[.agg (arr .u64 16 fun i => ((zak a i : Nat) : Int)), .agg (arr .u64 16 fun i => ((zak b i : Nat) : Int))] w fun e w' => e = .returned (.agg (arr .u64 16 fun i => ((zak (a * b % pN) i : Nat) : Int))) ∧ Below w.heap.size w w' := by
 have ha' := Lib.hid ha
 have hb' := Lib.hid hb
 clear ha hb
 go_enter Tryz.func60, Tryz.ntmps60
 obtain ⟨h0, h1, h2, hsz, hB⟩ := zc7 w (.cells (arr .u64 16 fun i => ((zak a i : Nat) : Int)) 84) (.cells (arr .u64 16 fun i => ((zak b i : Nat) : Int)) 84) (.cells (arr .u64 16 fun _ => 0) 84)
 go_upto_region 1 with (refine zae rfl rfl zeL ?_)
 generalize ((w.alloc (.cells (arr .u64 16 fun i => ((zak a i : Nat) : Int)) 84)).alloc (.cells (arr .u64 16 fun i => ((zak b i : Nat) : Int)) 84)).alloc (.cells (arr .u64 16 fun _ => 0) 84) = wa at *
 (try simp only [Act.put, jA, jB, jC])
 try simp only [World.size_alloc]
 obtain ⟨h3, hz3, bl⟩ := zb5 wa (.cells (arr .u64 32 fun _ => 0) 116)
 go_upto_region 2 with (refine zae rfl rfl zA5 ?_)
 replace h0 := zaa bl (by omega) h0
 replace h1 := zaa bl (by omega) h1
 replace h2 := zaa bl (by omega) h2
 replace hB := hB.trans (bl.mono (by omega))
 rw [hsz] at h3 ⊢
 generalize wa.alloc (.cells (arr .u64 32 fun _ => 0) 116) = wb at *
 clear hz3 bl hsz
 (try simp only [Act.put, jA, jB, jC])
 have al := Lib.hid (ztd (zak a) (zak b) (fun i _ => zcP a i) (fun i _ => zcP b i))
 go_wp2_with (refine zab rfl rfl rfl za7 h0 ?_)
 go_loopg [11] 16 (fun n i wr => ∃ m : Nat, m + n = 16 ∧ i = .int .i64 m ∧ wr.heap[w.heap.size]? = some (.cells (arr .u64 16 fun i => ((zak a i : Nat) : Int)) 84 (0, 0)) ∧ wr.heap[w.heap.size + 1]? = some (.cells (arr .u64 16 fun i => ((zak b i : Nat) : Int)) 84 (0, 0)) ∧ wr.heap[w.heap.size + 1 + 1]? = some (.cells (arr .u64 16 fun _ => 0) 84 (0, 0)) ∧
  wr.heap[w.heap.size + 3]? = some (.cells (arr .u64 32 fun i => ((zhc (zak a) (zak b) (16 * m) i : Nat) : Int)) 116 (0, 0)) ∧ Below w.heap.size w wr)
 case atStart => exact ⟨0, rfl, rfl, h0, h1, h2, zaf h3 (fun i _ => by unfold zhc; rfl), hB⟩
 case round =>
  clear h0 h1 h2 h3 hB
  obtain ⟨m, hm, rfl, h0, h1, h2, h3, hB⟩ := hrel
  obtain ⟨go1, rfl⟩ : ∃ x, x = gk := ⟨_, rfl⟩
  have hm' := Lib.hid hm
  clear hm
  by_cases hlt : m < 16
  ·have b0 := zcP a m
   go_wp2_with (first | (refine zaO rfl rfl Tryz.underlying84 Tryz.underlying67 rfl zi7 rfl rfl (by omega) (by omega) (by omega) ?_) | (refine zab rfl rfl rfl za7 h1 ?_))
   go_loopg [16] 16 (fun n i wr => ∃ j : Nat, j + n = 16 ∧ i = .int .i64 j ∧ wr.heap[w.heap.size]? = some (.cells (arr .u64 16 fun i => ((zak a i : Nat) : Int)) 84 (0, 0)) ∧ wr.heap[w.heap.size + 1]? = some (.cells (arr .u64 16 fun i => ((zak b i : Nat) : Int)) 84 (0, 0)) ∧ wr.heap[w.heap.size + 1 + 1]? = some (.cells (arr .u64 16 fun _ => 0) 84 (0, 0)) ∧
  wr.heap[w.heap.size + 3]? = some (.cells (arr .u64 32 fun i => ((zhc (zak a) (zak b) (16 * m + j) i : Nat) : Int)) 116 (0, 0)) ∧ Below w.heap.size w wr)
   case atStart => exact ⟨0, rfl, rfl, h0, h1, h2, h3, hB⟩
   case round =>
    clear h0 h1 h2 h3 hB
    obtain ⟨j, hj, rfl, h0, h1, h2, h3, hB⟩ := hrel
    have hj' := Lib.hid hj
    clear hj
    by_cases hlj : j < 16
    ·have b1 := zcP b j
     have c3 := zaj h3 (m + j) (by omega)
     have fz := zaH h3 (m + j)
     have ab := al.out (m + j) (16 * m + j) (by omega)
     have pm : zak a m * zak b j ≤ 4294836225 := jU (Nat.mul_le_mul (show zak a m ≤ 65535 by omega) (show zak b j ≤ 65535 by omega)) (by decide)
     have d1 : (16 * m + j) / 16 = m := by omega
     have d2 : (16 * m + j) % 16 = j := by omega
     have st : ∀ i, zhc (zak a) (zak b) (16 * m + (j + 1)) i = zhc (zak a) (zak b) (16 * m + j) i + if m + j = i then zak a m * zak b j else 0 := by
      intro i
      rw [← Nat.add_assoc, zjt, d1, d2]
     obtain ⟨pr, hpr⟩ : ∃ v : Nat, v = zak a m * zak b j := ⟨_, rfl⟩
     have ep : (zak a m : Int) * (zak b j : Int) = (pr : Int) := by rw [hpr, Int.natCast_mul]
     rw [← hpr] at pm st
     have ab2 : zhc (zak a) (zak b) (16 * m + j) (m + j) ≤ 1099478073600 := by omega
     have ST := Lib.hid st
     clear ab d1 d2 st hpr
     go_wp2_with (refine zaO rfl rfl Tryz.underlying84 Tryz.underlying67 rfl zi7 rfl rfl (by omega) (by omega) (by omega) ?_)
     go_roundg (gk - 1)
     case measure => have := hj'.out; omega
     case rel =>
      have hj'' := hj'.out
      refine ⟨j + 1, by omega, by go_num, zaq h0 _ _ (by omega), zaq h1 _ _ (by omega), zaq h2 _ _ (by omega), zaf (zaJ h3 (m + j) _) (fun i _ => ?_), hB.setCell (by show w.heap.size ≤ w.heap.size + 3; omega) _⟩
      rw [ST.out i]
      unfold upd
      by_cases h : i = m + j
      ·rw [if_pos h, if_pos h.symm, h]; omega
      ·rw [if_neg h, if_neg (fun e => h e.symm)]; rfl
    ·obtain rfl : j = 16 := by have := hj'.out; omega
     go_wp2
     go_roundg (go1 - 1)
     case measure => have := hm'.out; omega
     case rel =>
      have hm'' := hm'.out
      exact ⟨m + 1, by omega, by go_num, h0, h1, h2, h3, hB⟩
  ·obtain rfl : m = 16 := by have := hm'.out; omega
   go_wp2_with (first | (refine zab rfl rfl rfl zA4 h3 ?_) | (go_at_call 83; fail))
   refine (zk9 (zhc (zak a) (zak b) 256) (fun i _ => by have := al.out i 256 (by omega); omega) (a * b) (zyx a b ha'.out hb'.out) _).mono ?_
   rintro e w4 ⟨rfl, b4⟩
   replace h2 := zaa b4 (jM h2) h2
   replace hB := hB.trans (b4.mono hB.size)
   go_wp2_with (refine zac rfl rfl rfl rfl za7 h2 ?_)
   exact bodyPost_ret (zau rfl rfl za7 (zan h2)) rfl ⟨rfl, zam hB (by omega) _⟩
end
end Go.Proofs.YtfolbgiekbimpaaGreatDoor
