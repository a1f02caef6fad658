/- The walk of layer 6: two points change places, or do not. -/
import Derived.Test.YthgjhipfgdlbnaaCur
import Derived.Laws.BitsAllLaws
namespace Go.Proofs.Ythgjhipfgdlbnaa
set_option linter.unusedSimpArgs false
set_option linter.unusedVariables false
open Go.RowKit

/-- All but two blocks stay. -/
structure Bar (P Q : Nat) (w w' : World) : Prop where
  os : w'.os = w.os
  tape : w'.tape = w.tape
  output : w'.output = w.output
  size : w.heap.size ≤ w'.heap.size
  block : ∀ k, k < w.heap.size → k ≠ P → k ≠ Q → w'.heap[k]? = w.heap[k]?
section
variable {P Q B : Nat} {w w' w'' : World}
theorem Bar.refl (P Q : Nat) (w : World) : Bar P Q w w := ⟨rfl, rfl, rfl, Nat.le_refl _, fun _ _ _ _ => rfl⟩
theorem Bar.trans (h : Bar P Q w w') (k : Bar P Q w' w'') : Bar P Q w w'' :=
  ⟨k.os.trans h.os, k.tape.trans h.tape, k.output.trans h.output, Nat.le_trans h.size k.size, fun i hi h1 h2 => (k.block i (Nat.lt_of_lt_of_le hi h.size) h1 h2).trans (h.block i hi h1 h2)⟩
theorem Bar.of_below (h : Below w.heap.size w w') : Bar P Q w w' := ⟨h.os, h.tape, h.output, h.size, fun i hi _ _ => h.block i hi⟩
theorem Bar.drew (h : Bar P Q w w') : Bar P Q w w'.drew := ⟨h.os, h.tape, h.output, h.size, h.block⟩
theorem Bar.row (h : Bar P Q w w') {g : Nat} (hg : g = P ∨ g = Q ∨ w.heap.size ≤ g) (cs : Array Value) : Bar P Q w (w'.setRow g cs) := by
  refine ⟨h.os, h.tape, h.output, ?_, fun i hi h1 h2 => ?_⟩
  · have : (w'.setRow g cs).heap.size = w'.heap.size := by unfold World.setRow; simp
    rw [this]
    exact h.size
  · rw [setRow_other _ _ _ _ (by omega)]
    exact h.block i hi h1 h2
theorem Bar.set (h : Bar P Q w w') {g i : Nat} (hg : g = P ∨ g = Q ∨ w.heap.size ≤ g) (v : Value) : Bar P Q w (w'.setCell ⟨g, i, none⟩ v) := by
  refine ⟨h.os, h.tape, h.output, ?_, fun k hk h1 h2 => ?_⟩
  · have : (w'.setCell ⟨g, i, none⟩ v).heap.size = w'.heap.size := by unfold World.setCell; simp
    rw [this]
    exact h.size
  · rw [Below.heap_setCell _ _ _ _ (by show k ≠ g; omega)]
    exact h.block k hk h1 h2
theorem Bar.keep {k : Nat} {o : Obj} (h : Bar P Q w w') (hk : w.heap[k]? = some o) (h1 : k ≠ P) (h2 : k ≠ Q) : w'.heap[k]? = some o := (h.block k (lt_of_block hk) h1 h2).trans hk
theorem Bar.below {w0 : World} (h : Bar P Q w w') (hb : Below B w0 w) (h1 : B ≤ P) (h2 : B ≤ Q) (hB : B ≤ w.heap.size) : Below B w0 w' :=
  ⟨h.os.trans hb.os, h.tape.trans hb.tape, h.output.trans hb.output, Nat.le_trans hb.size h.size, fun i hi => (h.block i (by omega) (by omega) (by omega)).trans (hb.block i hi)⟩
theorem Bar.drewl (h : Bar P Q w w') : Bar P Q w.drew w' := ⟨h.os, h.tape, h.output, h.size, h.block⟩
end
/-- What two rows are, of which so many have changed places. -/
def selN (b : Nat) (F G : Nat → Nat) (i : Nat) : Nat := if b = 1 then G i else F i
def swpN (b m : Nat) (F G : Nat → Nat) (i : Nat) : Nat := if i % 5 < m then selN b F G i else F i
theorem swpN_hi (b m : Nat) (F G : Nat → Nat) (i : Nat) (h : m ≤ i % 5) : swpN b m F G i = F i := by unfold swpN; rw [if_neg (by omega)]
theorem swpN_succ (b m : Nat) (F G : Nat → Nat) (i : Nat) : swpN b (m + 1) F G i = if i % 5 = m then selN b F G i else swpN b m F G i := by
  unfold swpN
  by_cases h : i % 5 = m
  · rw [if_pos h, if_pos (by omega)]
  · rw [if_neg h]
    by_cases h2 : i % 5 < m
    · rw [if_pos h2, if_pos (by omega)]
    · rw [if_neg h2, if_neg (by omega)]
theorem cell_other (w : World) {a b : Addr} {v : Value} (h : a.block ≠ b.block) : (w.setCell a v).cell? b = w.cell? b := World.cell?_of_block (Below.heap_setCell _ _ _ _ (Ne.symm h))
theorem x_off (x y : Nat) (hx : x < 18446744073709551616) (hy : y < 18446744073709551616) : bits .xor .u64 (x : Int) (bits .and .u64 0 (bits .xor .u64 (x : Int) (y : Int))) = (x : Int) := by
  rw [u64_xor_nat x y hx hy, show (0 : Int) = ((0 : Nat) : Int) from rfl, u64_and_nat 0 _ (by omega) (Nat.xor_lt_two_pow (n := 64) hx hy), Nat.zero_and, u64_xor_nat x 0 hx (by omega), Nat.xor_zero]
theorem x_off2 (x y : Nat) (hx : x < 18446744073709551616) (hy : y < 18446744073709551616) : bits .xor .u64 (y : Int) (bits .and .u64 0 (bits .xor .u64 (x : Int) (y : Int))) = (y : Int) := by
  rw [u64_xor_nat x y hx hy, show (0 : Int) = ((0 : Nat) : Int) from rfl, u64_and_nat 0 _ (by omega) (Nat.xor_lt_two_pow (n := 64) hx hy), Nat.zero_and, u64_xor_nat y 0 hy (by omega), Nat.xor_zero]
theorem and_all64 (x : Nat) (h : x < 18446744073709551616) : 18446744073709551615 &&& x = x := by
  rw [show (18446744073709551615 : Nat) = 2 ^ 64 - 1 from rfl, Nat.and_comm, Nat.and_two_pow_sub_one_eq_mod, Nat.mod_eq_of_lt h]
theorem x_on (x y : Nat) (hx : x < 18446744073709551616) (hy : y < 18446744073709551616) : bits .xor .u64 (x : Int) (bits .and .u64 (IntKind.u64.wrap (-1)) (bits .xor .u64 (x : Int) (y : Int))) = (y : Int) := by
  rw [show IntKind.u64.wrap (-1) = 18446744073709551615 from by decide]
  have hl : x ^^^ y < 18446744073709551616 := Nat.xor_lt_two_pow (n := 64) hx hy
  rw [u64_xor_nat x y hx hy, show (18446744073709551615 : Int) = ((18446744073709551615 : Nat) : Int) from rfl, u64_and_nat _ _ (by omega) hl, and_all64 _ hl, u64_xor_nat x _ hx hl, ← Nat.xor_assoc, Nat.xor_self, Nat.zero_xor]
theorem x_on2 (x y : Nat) (hx : x < 18446744073709551616) (hy : y < 18446744073709551616) : bits .xor .u64 (y : Int) (bits .and .u64 (IntKind.u64.wrap (-1)) (bits .xor .u64 (x : Int) (y : Int))) = (x : Int) := by
  rw [show IntKind.u64.wrap (-1) = 18446744073709551615 from by decide]
  have hl : x ^^^ y < 18446744073709551616 := Nat.xor_lt_two_pow (n := 64) hx hy
  rw [u64_xor_nat x y hx hy, show (18446744073709551615 : Int) = ((18446744073709551615 : Nat) : Int) from rfl, u64_and_nat _ _ (by omega) hl, and_all64 _ hl, u64_xor_nat y _ hy hl, Nat.xor_comm x y, ← Nat.xor_assoc, Nat.xor_self, Nat.zero_xor]
theorem FTPoint0 : FieldT Try.prog 41 0 := ⟨_, _, 4, Try.underlying41, rfl, by kernel_rfl⟩
theorem FTPoint1 : FieldT Try.prog 41 1 := ⟨_, _, 4, Try.underlying41, rfl, by kernel_rfl⟩
theorem RTPoint : RowT Try.prog 41 10 := ⟨_, Try.underlying41, rfl, by kernel_rfl⟩

set_option maxRecDepth 100000 in
set_option maxHeartbeats 4000000 in
theorem swap_any (b : Nat) (hb01 : b = 0 ∨ b = 1) (P Q : Nat) (hne : P ≠ Q) (F G : Nat → Nat) (hF : ∀ i, i < 10 → F i < 18446744073709551616) (hG : ∀ i, i < 10 → G i < 18446744073709551616) (w : World)
    (hP : w.heap[P]? = some (.cells (arr .u64 10 fun i => ((F i : Nat) : Int)) 41 (0, 0))) (hQ : w.heap[Q]? = some (.cells (arr .u64 10 fun i => ((G i : Nat) : Int)) 41 (0, 0))) :
    Calls Try.prog 22 #[.int .u64 b, .pointer (some ⟨P, 0, none⟩), .pointer (some ⟨Q, 0, none⟩)] w fun e w' => e = .returned (.tuple #[]) ∧ Bar P Q w w' ∧
      w'.heap[P]? = some (.cells (arr .u64 10 fun i => ((selN b F G i : Nat) : Int)) 41 (0, 0)) ∧ w'.heap[Q]? = some (.cells (arr .u64 10 fun i => ((selN b G F i : Nat) : Int)) 41 (0, 0)) := by
  have HF := Lib.hid hF
  have HG := Lib.hid hG
  have HN := Lib.hid hne
  clear hF hG hne
  rcases hb01 with rfl | rfl
  · go_enter Try.func22, Try.ntmps22
    go_wp2
    go_loopg [12] 5 (fun n i wr => ∃ m : Nat, m + n = 5 ∧ i = .int .i64 m ∧ wr.heap[P]? = some (.cells (arr .u64 10 fun i => ((swpN 0 m F G i : Nat) : Int)) 41 (0, 0)) ∧
      wr.heap[Q]? = some (.cells (arr .u64 10 fun i => ((swpN 0 m G F i : Nat) : Int)) 41 (0, 0)) ∧ Bar P Q w wr)
    case atStart => exact ⟨0, rfl, rfl, blk_congr hP (fun i _ => by rw [swpN_hi _ _ _ _ _ (by omega)]), blk_congr hQ (fun i _ => by rw [swpN_hi _ _ _ _ _ (by omega)]), Bar.refl _ _ _⟩
    case round =>
      clear hP hQ
      obtain ⟨m, hm, rfl, hP, hQ, hB⟩ := hrel
      have hm' := Lib.hid hm
      clear hm
      by_cases hlt : m < 5
      · have n1 : m % 5 = m := Nat.mod_eq_of_lt hlt
        have n2 : (5 + m) % 5 = m := by omega
        obtain ⟨x1, hx1⟩ : ∃ x, F m = x := ⟨_, rfl⟩
        obtain ⟨z1, hz1⟩ : ∃ x, F (5 + m) = x := ⟨_, rfl⟩
        obtain ⟨x2, hx2⟩ : ∃ x, G m = x := ⟨_, rfl⟩
        obtain ⟨z2, hz2⟩ : ∃ x, G (5 + m) = x := ⟨_, rfl⟩
        have lx1 : x1 < 18446744073709551616 := hx1 ▸ HF.out m (by omega)
        have lz1 : z1 < 18446744073709551616 := hz1 ▸ HF.out (5 + m) (by omega)
        have lx2 : x2 < 18446744073709551616 := hx2 ▸ HG.out m (by omega)
        have lz2 : z2 < 18446744073709551616 := hz2 ▸ HG.out (5 + m) (by omega)
        have p1 : wr.cell? ⟨P, m, none⟩ = some (.int .u64 (x1 : Int)) := by rw [cell_arr hP m (by omega), swpN_hi _ _ _ _ _ (by omega), hx1]
        have p2 : wr.cell? ⟨P, 5 + m, none⟩ = some (.int .u64 (z1 : Int)) := by rw [cell_arr hP (5 + m) (by omega), swpN_hi _ _ _ _ _ (by omega), hz1]
        have q1 : wr.cell? ⟨Q, m, none⟩ = some (.int .u64 (x2 : Int)) := by rw [cell_arr hQ m (by omega), swpN_hi _ _ _ _ _ (by omega), hx2]
        have q2 : wr.cell? ⟨Q, 5 + m, none⟩ = some (.int .u64 (z2 : Int)) := by rw [cell_arr hQ (5 + m) (by omega), swpN_hi _ _ _ _ _ (by omega), hz2]
        have fp := free_arr hP
        have lP : P < wr.drew.heap.size := lt_of_block hP
        have lQ : Q < wr.drew.heap.size := lt_of_block hQ
        have fq := free_arr hQ
        clear n1 n2
        go_upto_region 4 with (fail)
        (try simp only [Act.put, List.setIfInBounds_toArray, List.set_cons_zero, List.set_cons_succ])
        refine wp_region_can wr.heap.size 31 [(0, false), (1, false), (2, false), (3, false), (4, false), (5, false), (6, false), (7, false), (8, false), (9, false), (10, false), (11, false), (12, false), (13, false), (14, false), (15, false), (16, false), (17, false), (18, false), (19, false), (20, false), (21, false), (22, false), (23, false), (24, false), (25, false), (26, false), (27, false), (28, false), (29, false), (30, false)] (by kernel_rfl) (by kernel_rfl) ?_
        (simp only [canOps, List.getElem?_cons_zero, List.getElem?_cons_succ, List.drop_succ_cons, List.drop_zero])
        iterate 31 (first | (refine wpCan_move rfl rfl (fun _ _ _ _ h => h) ?_; (simp only [Act.put, Act.eval, Array.getD_eq_getD_getElem?, List.getElem?_toArray, List.getElem?_cons_zero, List.getElem?_cons_succ, Option.getD_some, List.setIfInBounds_toArray, List.set_cons_zero, List.set_cons_succ])) | (refine wpCan_assign rfl rfl (fun _ _ _ _ h => h) ?_; (simp only [Act.put, Act.eval, Array.getD_eq_getD_getElem?, List.getElem?_toArray, List.getElem?_cons_zero, List.getElem?_cons_succ, Option.getD_some, List.setIfInBounds_toArray, List.set_cons_zero, List.set_cons_succ])) | (refine wpCan_nilCheck rfl rfl rfl (fun _ _ _ _ h => h) ?_; (simp only [Act.put, List.setIfInBounds_toArray, List.set_cons_zero, List.set_cons_succ])) | (refine wpCan_q rfl rfl (fun _ _ _ _ h => h) (by first | exact .bin rfl rfl rfl | exact .indexAddr rfl | exact .un rfl | exact .extract rfl | exact .index rfl | exact .field rfl | exact .slice rfl | exact .fieldT rfl FTPoint0 | exact .fieldT rfl FTPoint1 | exact .load rfl rfl lP hP | exact .load rfl rfl lQ hQ) (fun K hK => ?_); go_simp; (try (simp only [↓IntWalk.iteOmega]; go_simp)); (try go_bits); refine hK _ ?_; clear hK K))
        refine wpCan_nil ?_
        have ex1 := x_off x1 x2 lx1 lx2
        have ex2 := x_off2 x1 x2 lx1 lx2
        have ez1 := x_off z1 z2 lz1 lz2
        have ez2 := x_off2 z1 z2 lz1 lz2
        have EX1 := Lib.hid ex1
        have EX2 := Lib.hid ex2
        have EZ1 := Lib.hid ez1
        have EZ2 := Lib.hid ez2
        clear ex1 ex2 ez1 ez2
        go_upto_region 5 with (fail)
        (try simp only [Act.put, List.setIfInBounds_toArray, List.set_cons_zero, List.set_cons_succ])
        have c1 : ∀ v, (wr.setCell ⟨P, m, none⟩ v).cell? ⟨Q, m, none⟩ = some (.int .u64 (x2 : Int)) := fun v => by rw [cell_other wr (by exact HN.out)]; exact q1
        have f1 : ∀ v, (wr.setCell ⟨P, m, none⟩ v).frozen? ⟨Q, m, none⟩ = false := fun v => frozen_of_row _ _ _ _ _ (keep_arr hQ _ _ (Ne.symm HN.out))
        go_region
        clear c1 f1 p1 q1
        simp only [EX1.out, EX2.out]
        have hP5 := keep_arr (C := Q) (set_arr hP m (x1 : Int)) m (.int .u64 (x2 : Int)) HN.out
        have hQ5 := set_arr (keep_arr (C := P) hQ m (.int .u64 (x1 : Int)) (Ne.symm HN.out)) m (x2 : Int)
        have hB5 := ((hB.set (.inl rfl) (i := m) (.int .u64 (x1 : Int))).set (.inr (.inl rfl)) (i := m) (.int .u64 (x2 : Int))).drew.drew
        clear p2 q2 fp fq lP lQ hP hQ hB
        generalize ((wr.setCell ⟨P, m, none⟩ (.int .u64 (x1 : Int))).setCell ⟨Q, m, none⟩ (.int .u64 (x2 : Int))) = ws at *
        have p2 : ws.cell? ⟨P, 5 + m, none⟩ = some (.int .u64 (z1 : Int)) := by rw [cell_arr hP5 (5 + m) (by omega)]; unfold upd; rw [if_neg (by omega)]; dsimp only; rw [swpN_hi _ _ _ _ _ (by omega), hz1]
        have q2 : ws.cell? ⟨Q, 5 + m, none⟩ = some (.int .u64 (z2 : Int)) := by rw [cell_arr hQ5 (5 + m) (by omega)]; unfold upd; rw [if_neg (by omega)]; dsimp only; rw [swpN_hi _ _ _ _ _ (by omega), hz2]
        have fp := free_arr hP5
        have fq := free_arr hQ5
        go_upto_region 6 with (fail)
        (try simp only [Act.put, List.setIfInBounds_toArray, List.set_cons_zero, List.set_cons_succ])
        have c1 : ∀ v, (ws.setCell ⟨P, 5 + m, none⟩ v).cell? ⟨Q, 5 + m, none⟩ = some (.int .u64 (z2 : Int)) := fun v => by rw [cell_other ws (by exact HN.out)]; exact q2
        have f1 : ∀ v, (ws.setCell ⟨P, 5 + m, none⟩ v).frozen? ⟨Q, 5 + m, none⟩ = false := fun v => frozen_of_row _ _ _ _ _ (keep_arr hQ5 _ _ (Ne.symm HN.out))
        go_region
        clear c1 f1 p2 q2
        simp only [EZ1.out, EZ2.out]
        go_wp2
        go_roundg (gk - 1)
        case measure => have := hm'.out; omega
        case rel =>
          have hm'' := hm'.out
          refine ⟨m + 1, by omega, by go_num, blk_congr (keep_arr (C := Q) (set_arr hP5 (5 + m) (z1 : Int)) (5 + m) _ HN.out) (fun i hi => ?_), blk_congr (set_arr (keep_arr (C := P) hQ5 (5 + m) _ (Ne.symm HN.out)) (5 + m) (z2 : Int)) (fun i hi => ?_), ((hB5.set (.inl rfl) _).set (.inr (.inl rfl)) _).drew⟩
          all_goals
            rw [swpN_succ]
            unfold upd
            dsimp only
            by_cases e1 : i = 5 + m
            · rw [if_pos e1, if_pos (by omega), e1]
              unfold selN
              simp only [if_true, if_false, Nat.zero_ne_one, hz1, hz2]
            · rw [if_neg e1]
              by_cases e2 : i = m
              · rw [if_pos e2, if_pos (by omega), e2]
                unfold selN
                simp only [if_true, if_false, Nat.zero_ne_one, hx1, hx2]
              · rw [if_neg e2, if_neg (by omega)]
      · obtain rfl : m = 5 := by have := hm'.out; omega
        go_wp2
        refine bodyPost_end (results_none rfl _ _ _) rfl ?_
        refine ⟨rfl, hB, blk_congr hP (fun i hi => ?_), blk_congr hQ (fun i hi => ?_)⟩
        all_goals
          unfold swpN
          rw [if_pos (by omega)]
  · go_enter Try.func22, Try.ntmps22
    go_wp2
    go_loopg [12] 5 (fun n i wr => ∃ m : Nat, m + n = 5 ∧ i = .int .i64 m ∧ wr.heap[P]? = some (.cells (arr .u64 10 fun i => ((swpN 1 m F G i : Nat) : Int)) 41 (0, 0)) ∧
      wr.heap[Q]? = some (.cells (arr .u64 10 fun i => ((swpN 1 m G F i : Nat) : Int)) 41 (0, 0)) ∧ Bar P Q w wr)
    case atStart => exact ⟨0, rfl, rfl, blk_congr hP (fun i _ => by rw [swpN_hi _ _ _ _ _ (by omega)]), blk_congr hQ (fun i _ => by rw [swpN_hi _ _ _ _ _ (by omega)]), Bar.refl _ _ _⟩
    case round =>
      clear hP hQ
      obtain ⟨m, hm, rfl, hP, hQ, hB⟩ := hrel
      have hm' := Lib.hid hm
      clear hm
      by_cases hlt : m < 5
      · have n1 : m % 5 = m := Nat.mod_eq_of_lt hlt
        have n2 : (5 + m) % 5 = m := by omega
        obtain ⟨x1, hx1⟩ : ∃ x, F m = x := ⟨_, rfl⟩
        obtain ⟨z1, hz1⟩ : ∃ x, F (5 + m) = x := ⟨_, rfl⟩
        obtain ⟨x2, hx2⟩ : ∃ x, G m = x := ⟨_, rfl⟩
        obtain ⟨z2, hz2⟩ : ∃ x, G (5 + m) = x := ⟨_, rfl⟩
        have lx1 : x1 < 18446744073709551616 := hx1 ▸ HF.out m (by omega)
        have lz1 : z1 < 18446744073709551616 := hz1 ▸ HF.out (5 + m) (by omega)
        have lx2 : x2 < 18446744073709551616 := hx2 ▸ HG.out m (by omega)
        have lz2 : z2 < 18446744073709551616 := hz2 ▸ HG.out (5 + m) (by omega)
        have p1 : wr.cell? ⟨P, m, none⟩ = some (.int .u64 (x1 : Int)) := by rw [cell_arr hP m (by omega), swpN_hi _ _ _ _ _ (by omega), hx1]
        have p2 : wr.cell? ⟨P, 5 + m, none⟩ = some (.int .u64 (z1 : Int)) := by rw [cell_arr hP (5 + m) (by omega), swpN_hi _ _ _ _ _ (by omega), hz1]
        have q1 : wr.cell? ⟨Q, m, none⟩ = some (.int .u64 (x2 : Int)) := by rw [cell_arr hQ m (by omega), swpN_hi _ _ _ _ _ (by omega), hx2]
        have q2 : wr.cell? ⟨Q, 5 + m, none⟩ = some (.int .u64 (z2 : Int)) := by rw [cell_arr hQ (5 + m) (by omega), swpN_hi _ _ _ _ _ (by omega), hz2]
        have fp := free_arr hP
        have lP : P < wr.drew.heap.size := lt_of_block hP
        have lQ : Q < wr.drew.heap.size := lt_of_block hQ
        have fq := free_arr hQ
        clear n1 n2
        go_upto_region 4 with (fail)
        (try simp only [Act.put, List.setIfInBounds_toArray, List.set_cons_zero, List.set_cons_succ])
        refine wp_region_can wr.heap.size 31 [(0, false), (1, false), (2, false), (3, false), (4, false), (5, false), (6, false), (7, false), (8, false), (9, false), (10, false), (11, false), (12, false), (13, false), (14, false), (15, false), (16, false), (17, false), (18, false), (19, false), (20, false), (21, false), (22, false), (23, false), (24, false), (25, false), (26, false), (27, false), (28, false), (29, false), (30, false)] (by kernel_rfl) (by kernel_rfl) ?_
        (simp only [canOps, List.getElem?_cons_zero, List.getElem?_cons_succ, List.drop_succ_cons, List.drop_zero])
        iterate 31 (first | (refine wpCan_move rfl rfl (fun _ _ _ _ h => h) ?_; (simp only [Act.put, Act.eval, Array.getD_eq_getD_getElem?, List.getElem?_toArray, List.getElem?_cons_zero, List.getElem?_cons_succ, Option.getD_some, List.setIfInBounds_toArray, List.set_cons_zero, List.set_cons_succ])) | (refine wpCan_assign rfl rfl (fun _ _ _ _ h => h) ?_; (simp only [Act.put, Act.eval, Array.getD_eq_getD_getElem?, List.getElem?_toArray, List.getElem?_cons_zero, List.getElem?_cons_succ, Option.getD_some, List.setIfInBounds_toArray, List.set_cons_zero, List.set_cons_succ])) | (refine wpCan_nilCheck rfl rfl rfl (fun _ _ _ _ h => h) ?_; (simp only [Act.put, List.setIfInBounds_toArray, List.set_cons_zero, List.set_cons_succ])) | (refine wpCan_q rfl rfl (fun _ _ _ _ h => h) (by first | exact .bin rfl rfl rfl | exact .indexAddr rfl | exact .un rfl | exact .extract rfl | exact .index rfl | exact .field rfl | exact .slice rfl | exact .fieldT rfl FTPoint0 | exact .fieldT rfl FTPoint1 | exact .load rfl rfl lP hP | exact .load rfl rfl lQ hQ) (fun K hK => ?_); go_simp; (try (simp only [↓IntWalk.iteOmega]; go_simp)); (try go_bits); refine hK _ ?_; clear hK K))
        refine wpCan_nil ?_
        have ex1 := x_on x1 x2 lx1 lx2
        have ex2 := x_on2 x1 x2 lx1 lx2
        have ez1 := x_on z1 z2 lz1 lz2
        have ez2 := x_on2 z1 z2 lz1 lz2
        have EX1 := Lib.hid ex1
        have EX2 := Lib.hid ex2
        have EZ1 := Lib.hid ez1
        have EZ2 := Lib.hid ez2
        clear ex1 ex2 ez1 ez2
        go_upto_region 5 with (fail)
        (try simp only [Act.put, List.setIfInBounds_toArray, List.set_cons_zero, List.set_cons_succ])
        have c1 : ∀ v, (wr.setCell ⟨P, m, none⟩ v).cell? ⟨Q, m, none⟩ = some (.int .u64 (x2 : Int)) := fun v => by rw [cell_other wr (by exact HN.out)]; exact q1
        have f1 : ∀ v, (wr.setCell ⟨P, m, none⟩ v).frozen? ⟨Q, m, none⟩ = false := fun v => frozen_of_row _ _ _ _ _ (keep_arr hQ _ _ (Ne.symm HN.out))
        go_region
        clear c1 f1 p1 q1
        simp only [EX1.out, EX2.out]
        have hP5 := keep_arr (C := Q) (set_arr hP m (x2 : Int)) m (.int .u64 (x1 : Int)) HN.out
        have hQ5 := set_arr (keep_arr (C := P) hQ m (.int .u64 (x2 : Int)) (Ne.symm HN.out)) m (x1 : Int)
        have hB5 := ((hB.set (.inl rfl) (i := m) (.int .u64 (x2 : Int))).set (.inr (.inl rfl)) (i := m) (.int .u64 (x1 : Int))).drew.drew
        clear p2 q2 fp fq lP lQ hP hQ hB
        generalize ((wr.setCell ⟨P, m, none⟩ (.int .u64 (x2 : Int))).setCell ⟨Q, m, none⟩ (.int .u64 (x1 : Int))) = ws at *
        have p2 : ws.cell? ⟨P, 5 + m, none⟩ = some (.int .u64 (z1 : Int)) := by rw [cell_arr hP5 (5 + m) (by omega)]; unfold upd; rw [if_neg (by omega)]; dsimp only; rw [swpN_hi _ _ _ _ _ (by omega), hz1]
        have q2 : ws.cell? ⟨Q, 5 + m, none⟩ = some (.int .u64 (z2 : Int)) := by rw [cell_arr hQ5 (5 + m) (by omega)]; unfold upd; rw [if_neg (by omega)]; dsimp only; rw [swpN_hi _ _ _ _ _ (by omega), hz2]
        have fp := free_arr hP5
        have fq := free_arr hQ5
        go_upto_region 6 with (fail)
        (try simp only [Act.put, List.setIfInBounds_toArray, List.set_cons_zero, List.set_cons_succ])
        have c1 : ∀ v, (ws.setCell ⟨P, 5 + m, none⟩ v).cell? ⟨Q, 5 + m, none⟩ = some (.int .u64 (z2 : Int)) := fun v => by rw [cell_other ws (by exact HN.out)]; exact q2
        have f1 : ∀ v, (ws.setCell ⟨P, 5 + m, none⟩ v).frozen? ⟨Q, 5 + m, none⟩ = false := fun v => frozen_of_row _ _ _ _ _ (keep_arr hQ5 _ _ (Ne.symm HN.out))
        go_region
        clear c1 f1 p2 q2
        simp only [EZ1.out, EZ2.out]
        go_wp2
        go_roundg (gk - 1)
        case measure => have := hm'.out; omega
        case rel =>
          have hm'' := hm'.out
          refine ⟨m + 1, by omega, by go_num, blk_congr (keep_arr (C := Q) (set_arr hP5 (5 + m) (z2 : Int)) (5 + m) _ HN.out) (fun i hi => ?_), blk_congr (set_arr (keep_arr (C := P) hQ5 (5 + m) _ (Ne.symm HN.out)) (5 + m) (z1 : Int)) (fun i hi => ?_), ((hB5.set (.inl rfl) _).set (.inr (.inl rfl)) _).drew⟩
          all_goals
            rw [swpN_succ]
            unfold upd
            dsimp only
            by_cases e1 : i = 5 + m
            · rw [if_pos e1, if_pos (by omega), e1]
              unfold selN
              simp only [if_true, if_false, Nat.zero_ne_one, hz1, hz2]
            · rw [if_neg e1]
              by_cases e2 : i = m
              · rw [if_pos e2, if_pos (by omega), e2]
                unfold selN
                simp only [if_true, if_false, Nat.zero_ne_one, hx1, hx2]
              · rw [if_neg e2, if_neg (by omega)]
      · obtain rfl : m = 5 := by have := hm'.out; omega
        go_wp2
        refine bodyPost_end (results_none rfl _ _ _) rfl ?_
        refine ⟨rfl, hB, blk_congr hP (fun i hi => ?_), blk_congr hQ (fun i hi => ?_)⟩
        all_goals
          unfold swpN
          rw [if_pos (by omega)]
end Go.Proofs.Ythgjhipfgdlbnaa
