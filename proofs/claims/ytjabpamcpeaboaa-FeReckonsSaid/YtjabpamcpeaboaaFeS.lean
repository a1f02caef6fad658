/- The walks of layer 5: whether two numbers stand for the same. -/
import Derived.Test.YtjabpamcpeaboaaFeP
namespace Go.Proofs.Ytjabpamcpeaboaa
set_option linter.unusedSimpArgs false
set_option linter.unusedVariables false
open Go.RowKit

section
variable {P : Program} {ops : Array Oper} {Q : Exit → Act → World → Prop} {N : Nat} {T : Act → World → Prop} {p : List (Oper × Bool)} {o : Oper} {a : Act} {w : World}
/-- A slice of given values, in an order of the prover's. -/
theorem wpCan_bslice {t e len : Nat} {parts : Array (Nat × Operand)} {c : Array Value} {l : List (Nat × Value)} (hgd : Region.wanted o (yielded ops a.tmps) = true) (ho : o.op = .buildSlice t len parts) (hu : P.underlying t = some (.slice e)) (hl : (parts.map fun (i, x) => (i, a.eval x)).toList = l) (hb : P.builtSlice e len l = some c) (hN : N ≤ w.heap.size)
    (h : wpCan P ops Q N T p (a.put o.dst (.slice (some ⟨w.heap.size, 0, none⟩) len len)) (w.alloc (.cells c e))) : wpCan P ops Q N T ((o, true) :: p) a w := by
  subst hl
  refine wpCan_e hgd fun K hK => ?_
  unfold Program.builtSlice at hb
  cases hie : P.info? e with
  | none => simp [hie] at hb
  | some ie =>
    simp only [hie] at hb
    cases hz : ie.zero with
    | none => simp [hz] at hb
    | some z =>
      simp only [hz] at hb
      by_cases hc : len * ie.size > 2 ^ 24 ∨ len * ie.size = 0
      · simp [hc] at hb
      · rw [if_neg hc] at hb
        exact wp_buildSlice t e len parts ho c ie z hu hie hz (fun h' => hc (Or.inl h')) (fun h' => hc (Or.inr h')) hb (hK _ _ (Keep.alloc _ _ hN) h)
end
attribute [local irreducible] leastN valN byteN
theorem ITKey : IntsT Try.prog 26 .u8 32 := ⟨_, Try.underlying26, Try.underlying5, by kernel_rfl, by kernel_rfl⟩
/-- What Same tells. -/
def sameN (F G : Nat → Nat) : Bool := decide (okF F 5 ∧ okF G 5) && sameTo (fun k => ((byteN (valN (leastN F) 5) k : Nat) : Int)) (fun k => ((byteN (valN (leastN G) 5) k : Nat) : Int)) 32 0

set_option maxRecDepth 100000 in
set_option maxHeartbeats 1000000 in
theorem Same_any (F G : Nat → Nat) (hF : ∀ i, i < 5 → F i < 18446744073709551616) (hG : ∀ i, i < 5 → G i < 18446744073709551616) (w : World) :
    Calls Try.prog 14 #[.agg (arr .u64 5 fun i => ((F i : Nat) : Int)), .agg (arr .u64 5 fun i => ((G i : Nat) : Int))] w fun e w' => e = .returned (.bool (sameN F G)) ∧ Below w.heap.size w w' := by
  go_enter Try.func14, Try.ntmps14
  obtain ⟨h0, h1, hsz, hb⟩ := alloc2 w (.cells (arr .u64 5 fun i => ((F i : Nat) : Int)) 24) (.cells (arr .u64 5 fun i => ((G i : Nat) : Int)) 24)
  go_upto_region 1 with (fail)
  generalize (w.alloc (.cells (arr .u64 5 fun i => ((F i : Nat) : Int)) 24)).alloc (.cells (arr .u64 5 fun i => ((G i : Nat) : Int)) 24) = wa at *
  have hl0 := lt_of_block h0
  have hl1 := lt_of_block h1
  (try simp only [Act.put, List.setIfInBounds_toArray, List.set_cons_zero, List.set_cons_succ])
  refine wp_region_can wa.heap.size 11 [(0, false), (1, false), (2, true), (3, true), (4, false), (5, false), (7, false), (6, true), (8, true), (9, false), (10, false)] (by kernel_rfl) (by kernel_rfl) ?_
  (simp only [canOps, List.getElem?_cons_zero, List.getElem?_cons_succ, List.drop_succ_cons, List.drop_zero])
  refine wpCan_load_arr rfl rfl rfl (fun _ _ _ _ h => h) RTFe hl0 h0 ?_
  (try simp only [Act.put, List.setIfInBounds_toArray, List.set_cons_zero, List.set_cons_succ])
  refine wpCan_load_arr rfl rfl rfl (fun _ _ _ _ h => h) RTFe hl1 h1 ?_
  (try simp only [Act.put, List.setIfInBounds_toArray, List.set_cons_zero, List.set_cons_succ])
  refine wpCan_bslice rfl rfl Try.underlying65 (by simp [Act.eval, Act.put]) (built_two F G) (Nat.le_refl _) ?_
  (try simp only [Act.put, List.setIfInBounds_toArray, List.set_cons_zero, List.set_cons_succ])
  obtain ⟨g3, hz2, bl⟩ := alloc1 wa.drew (.cells (arr .u64 10 fun i => ((two5 F G i : Nat) : Int)) 24)
  rw [show wa.drew.heap.size = w.heap.size + 2 from hsz] at g3
  refine wpCan_e rfl (fun K hK => ?_)
  go_simp
  refine (may_any 2 10 rfl (by omega) (two5 F G) (fun i hi => two5_lt F G _ hF hG i hi) _ _ _ (by exact g3)).mono ?_
  rintro e w2 ⟨rfl, b2⟩
  refine hK _ _ (Keep.of_below b2 (by exact (Nat.le_trans (Nat.le_succ _) (Nat.le_of_eq hz2.symm)))) ?_
  clear hK K
  (try simp only [Act.put, List.setIfInBounds_toArray, List.set_cons_zero, List.set_cons_succ])
  have b3 := bl.trans (b2.mono (by exact (Nat.le_trans (Nat.le_succ _) (Nat.le_of_eq hz2.symm))))
  have q0 := keep_below b3 hl0 h0
  have q1 := keep_below b3 hl1 h1
  (first | (refine wpCan_move rfl rfl (fun _ _ _ _ h => h) ?_; (simp only [Act.put, Act.eval, Array.getD_eq_getD_getElem?, List.getElem?_toArray, List.getElem?_cons_zero, List.getElem?_cons_succ, Option.getD_some, List.setIfInBounds_toArray, List.set_cons_zero, List.set_cons_succ])) | (refine wpCan_assign rfl rfl (fun _ _ _ _ h => h) ?_; (simp only [Act.put, Act.eval, Array.getD_eq_getD_getElem?, List.getElem?_toArray, List.getElem?_cons_zero, List.getElem?_cons_succ, Option.getD_some, List.setIfInBounds_toArray, List.set_cons_zero, List.set_cons_succ])) | (refine wpCan_nilCheck rfl rfl rfl (fun _ _ _ _ h => h) ?_; (simp only [Act.put, List.setIfInBounds_toArray, List.set_cons_zero, List.set_cons_succ])) | (refine wpCan_q rfl rfl (fun _ _ _ _ h => h) (by first | exact .bin rfl rfl rfl | exact .indexAddr rfl | exact .un rfl | exact .extract rfl | exact .index rfl | exact .field rfl | exact .slice rfl) (fun K hK => ?_); go_simp; (try (simp only [↓IntWalk.iteOmega]; go_simp)); (try go_bits); refine hK _ ?_; clear hK K))
  by_cases hq : okF F 5 ∧ okF G 5
  · rw [show decide (okF (two5 F G) 10) = true from decide_eq_true ((two5_ok F G).2 hq)]
    refine wpCan_load_arr rfl rfl rfl (fun _ _ _ _ h => h) RTFe hl0 q0 ?_
    (try simp only [Act.put, List.setIfInBounds_toArray, List.set_cons_zero, List.set_cons_succ])
    refine wpCan_load_arr rfl rfl rfl (fun _ _ _ _ h => h) RTFe hl1 q1 ?_
    (try simp only [Act.put, List.setIfInBounds_toArray, List.set_cons_zero, List.set_cons_succ])
    refine wpCan_e rfl (fun K hK => ?_)
    go_simp
    refine (bytes_any F (fun i hi => okF_wide hq.1 i hi) _).mono ?_
    rintro e w4 ⟨rfl, b4⟩
    refine hK _ _ (Keep.of_below b4 b3.size) ?_
    clear hK K
    (try simp only [Act.put, List.setIfInBounds_toArray, List.set_cons_zero, List.set_cons_succ])
    have b5 := b3.trans (b4.mono b3.size)
    refine wpCan_e rfl (fun K hK => ?_)
    go_simp
    refine (bytes_any G (fun i hi => okF_wide hq.2 i hi) _).mono ?_
    rintro e w6 ⟨rfl, b6⟩
    refine hK _ _ (Keep.of_below b6 b5.size) ?_
    clear hK K
    (try simp only [Act.put, List.setIfInBounds_toArray, List.set_cons_zero, List.set_cons_succ])
    have b7 := b5.trans (b6.mono b5.size)
    refine wpCan_all rfl (fun _ _ _ _ h => h) (fun w' => run_op_eqArr (op := .eql) rfl ITKey rfl rfl) ?_
    (try simp only [Act.put, List.setIfInBounds_toArray, List.set_cons_zero, List.set_cons_succ])
    refine wpCan_pick rfl rfl rfl (fun _ _ _ _ h => h) ?_
    simp only [if_true]
    (try simp only [Act.put, List.setIfInBounds_toArray, List.set_cons_zero, List.set_cons_succ])
    refine wpCan_nil ?_
    go_wp2
    go_ret
    refine ⟨?_, hb.drew.trans (b7.mono hb.size)⟩
    unfold sameN
    rw [decide_eq_true hq, Bool.true_and]
    rfl
  · rw [show decide (okF (two5 F G) 10) = false from decide_eq_false fun h => hq ((two5_ok F G).1 h)]
    refine wpCan_skip rfl (fun _ _ _ _ h => h) ?_
    (try simp only [Act.put, List.setIfInBounds_toArray, List.set_cons_zero, List.set_cons_succ])
    refine wpCan_skip rfl (fun _ _ _ _ h => h) ?_
    (try simp only [Act.put, List.setIfInBounds_toArray, List.set_cons_zero, List.set_cons_succ])
    refine wpCan_skip_e rfl ?_
    (try simp only [Act.put, List.setIfInBounds_toArray, List.set_cons_zero, List.set_cons_succ])
    refine wpCan_skip_e rfl ?_
    (try simp only [Act.put, List.setIfInBounds_toArray, List.set_cons_zero, List.set_cons_succ])
    refine wpCan_skip rfl (fun _ _ _ _ h => h) ?_
    (try simp only [Act.put, List.setIfInBounds_toArray, List.set_cons_zero, List.set_cons_succ])
    refine wpCan_pick rfl rfl rfl (fun _ _ _ _ h => h) ?_
    simp only [Bool.false_eq_true, if_false]
    (try simp only [Act.put, List.setIfInBounds_toArray, List.set_cons_zero, List.set_cons_succ])
    refine wpCan_nil ?_
    go_wp2
    go_ret
    refine ⟨?_, hb.drew.trans (b3.mono hb.size)⟩
    unfold sameN
    rw [decide_eq_false hq, Bool.false_and]
    rfl
end Go.Proofs.Ytjabpamcpeaboaa
