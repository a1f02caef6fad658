/- The walks of layer 5: differences, products, squares. -/
import Derived.Test.YthgjhipfgdlbnaaFeX
import Derived.Test.YthgjhipfgdlbnaaAny
namespace Go.Proofs.Ythgjhipfgdlbnaa
set_option linter.unusedSimpArgs false
set_option linter.unusedVariables false
open Go.RowKit
attribute [local irreducible] accN leastN byteN prodN carN diffN

/-- What is told of two numbers: a number, where both may be. -/
def told2 (F G H : Nat → Nat) (i : Nat) : Nat := if okF F 5 ∧ okF G 5 then H i else 0
/-- What two numbers' product is told to be. -/
def mulN (F G : Nat → Nat) : Nat → Nat := told2 F G (prodN F G)
def subN (F G : Nat → Nat) : Nat → Nat := told2 F G (carN (diffN F G))
theorem told2_yes {F G : Nat → Nat} (h : okF F 5 ∧ okF G 5) (H : Nat → Nat) : told2 F G H = H := by funext i; unfold told2; rw [if_pos h]
theorem told2_no {F G : Nat → Nat} (h : ¬ (okF F 5 ∧ okF G 5)) (H : Nat → Nat) : told2 F G H = fun _ => 0 := by funext i; unfold told2; rw [if_neg h]

set_option maxRecDepth 100000 in
set_option maxHeartbeats 1000000 in
theorem Mul_any (F G : Nat → Nat) (hF : ∀ i, i < 5 → F i < 18446744073709551616) (hG : ∀ i, i < 5 → G i < 18446744073709551616) (w : World) :
    Calls Try.prog 35 #[.agg (arr .u64 5 fun i => ((F i : Nat) : Int)), .agg (arr .u64 5 fun i => ((G i : Nat) : Int))] w fun e w' => e = .returned (.tuple #[.agg (arr .u64 5 fun k => ((mulN F G k : Nat) : Int)), .int .i64 (if okF F 5 ∧ okF G 5 then 0 else 1)]) ∧ Below w.heap.size w w' := by
  go_enter Try.func35, Try.ntmps35
  obtain ⟨h0, h1, h2, hsz, hb⟩ := alloc3 w (.cells (arr .u64 5 fun i => ((F i : Nat) : Int)) 34) (.cells (arr .u64 5 fun i => ((G i : Nat) : Int)) 34) (.cells (arr .u64 5 fun _ => 0) 34)
  go_upto_region 1 with (refine wpList_alloc_arr rfl rfl ZTFe ?_)
  generalize ((w.alloc (.cells (arr .u64 5 fun i => ((F i : Nat) : Int)) 34)).alloc (.cells (arr .u64 5 fun i => ((G i : Nat) : Int)) 34)).alloc (.cells (arr .u64 5 fun _ => 0) 34) = wa at *
  (try simp only [Act.put, List.setIfInBounds_toArray, List.set_cons_zero, List.set_cons_succ])
  obtain ⟨g3, hz2, bl⟩ := alloc1 wa (.cells (arr .u64 10 fun i => ((two5 F G i : Nat) : Int)) 34)
  rw [hsz] at g3
  go_wp2_with (first | (refine wpList_load_arr rfl rfl rfl RTFe h0 ?_) | (refine wpList_load_arr rfl rfl rfl RTFe h1 ?_) | (refine wpList_bslice rfl rfl Try.underlying68 (by simp [Act.eval, Act.put]) (built_two F G) ?_) | (go_at_call 31; fail))
  refine (may_any 2 10 rfl (by omega) (two5 F G) (fun i hi => two5_lt F G _ hF hG i hi) _ _ _ g3).mono ?_
  rintro e w2 ⟨rfl, b2⟩
  have b3 := bl.trans (b2.mono (by omega))
  have q0 := keep_below b3 (by omega) h0
  have q1 := keep_below b3 (by omega) h1
  have q2 := keep_below b3 (by omega) h2
  have hB := hb.trans (b3.mono (by omega))
  clear b2 b3 bl g3 h0 h1 h2 hb hz2 hsz
  by_cases hq : okF F 5 ∧ okF G 5
  · rw [show decide (okF (two5 F G) 10) = true from decide_eq_true ((two5_ok F G).2 hq)]
    have hq' := Lib.hid hq
    go_wp2_with (first | (refine wpList_load_arr rfl rfl rfl RTFe q0 ?_) | (refine wpList_load_arr rfl rfl rfl RTFe q1 ?_) | (go_at_call 38; fail))
    refine (mul_any F G hq'.out.1 hq'.out.2 _).mono ?_
    rintro e w4 ⟨rfl, b4⟩
    have e2 := keep_below b4 (lt_of_block q2) q2
    have hBe := hB.trans (b4.mono hB.size)
    go_wp2_with (refine wpList_store_arr rfl rfl rfl rfl RTFe e2 ?_)
    refine bodyPost_ret (results_arr_tmp rfl rfl rfl RTFe (row_self e2)) rfl ⟨?_, row_below hBe (by omega) _⟩
    unfold mulN
    rw [told2_yes hq'.out]
    first | rfl | (rw [if_pos hq'.out]; rfl)
  · rw [show decide (okF (two5 F G) 10) = false from decide_eq_false fun h => hq ((two5_ok F G).1 h)]
    go_wp2_with (first | (refine wpList_val' rfl (run_op_build rfl (by simp [Act.eval, Act.put]) built_fe) ?_) | (refine wpList_store_arr rfl rfl rfl rfl RTFe q2 ?_))
    refine bodyPost_ret (results_arr_tmp rfl rfl rfl RTFe (row_self q2)) rfl ⟨?_, row_below hB (by omega) _⟩
    unfold mulN
    rw [told2_no hq]
    first | rfl | (rw [if_neg hq]; rfl)

theorem diff_cell (F G : Nat → Nat) (m : Nat) (h : G m < 4503599627370496) : ((F m : Nat) : Int) + (4 * ((mostF m : Nat) : Int) - ((G m : Nat) : Int)) = ((diffN F G m : Nat) : Int) := by
  unfold diffN mostF
  split <;> omega
set_option maxRecDepth 100000 in
set_option maxHeartbeats 1000000 in
theorem Sub_any (F G : Nat → Nat) (hF : ∀ i, i < 5 → F i < 18446744073709551616) (hG : ∀ i, i < 5 → G i < 18446744073709551616) (w : World) :
    Calls Try.prog 34 #[.agg (arr .u64 5 fun i => ((F i : Nat) : Int)), .agg (arr .u64 5 fun i => ((G i : Nat) : Int))] w fun e w' => e = .returned (.tuple #[.agg (arr .u64 5 fun k => ((subN F G k : Nat) : Int)), .int .i64 (if okF F 5 ∧ okF G 5 then 0 else 1)]) ∧ Below w.heap.size w w' := by
  go_enter Try.func34, Try.ntmps34
  obtain ⟨h0, h1, h2, hsz, hb⟩ := alloc3 w (.cells (arr .u64 5 fun i => ((F i : Nat) : Int)) 34) (.cells (arr .u64 5 fun i => ((G i : Nat) : Int)) 34) (.cells (arr .u64 5 fun _ => 0) 34)
  go_upto_region 1 with (refine wpList_alloc_arr rfl rfl ZTFe ?_)
  generalize ((w.alloc (.cells (arr .u64 5 fun i => ((F i : Nat) : Int)) 34)).alloc (.cells (arr .u64 5 fun i => ((G i : Nat) : Int)) 34)).alloc (.cells (arr .u64 5 fun _ => 0) 34) = wa at *
  (try simp only [Act.put, List.setIfInBounds_toArray, List.set_cons_zero, List.set_cons_succ])
  obtain ⟨g3, hz2, bl⟩ := alloc1 wa (.cells (arr .u64 10 fun i => ((two5 F G i : Nat) : Int)) 34)
  rw [hsz] at g3
  go_wp2_with (first | (refine wpList_load_arr rfl rfl rfl RTFe h0 ?_) | (refine wpList_load_arr rfl rfl rfl RTFe h1 ?_) | (refine wpList_bslice rfl rfl Try.underlying68 (by simp [Act.eval, Act.put]) (built_two F G) ?_) | (go_at_call 31; fail))
  refine (may_any 2 10 rfl (by omega) (two5 F G) (fun i hi => two5_lt F G _ hF hG i hi) _ _ _ g3).mono ?_
  rintro e w2 ⟨rfl, b2⟩
  have b3 := bl.trans (b2.mono (by omega))
  have q0 := keep_below b3 (by omega) h0
  have q1 := keep_below b3 (by omega) h1
  have q2 := keep_below b3 (by omega) h2
  have hB := hb.trans (b3.mono (by omega))
  clear b2 b3 bl g3 h0 h1 h2 hb hz2 hsz
  by_cases hq : okF F 5 ∧ okF G 5
  · rw [show decide (okF (two5 F G) 10) = true from decide_eq_true ((two5_ok F G).2 hq)]
    have hq' := Lib.hid hq
    go_wp2
    go_loopg [14] 5 (fun n i wr => ∃ m : Nat, m + n = 5 ∧ i = .int .i64 m ∧ wr.heap[w.heap.size]? = some (.cells (arr .u64 5 fun i => ((if i < m then diffN F G i else F i : Nat) : Int)) 34 (0, 0)) ∧
      wr.heap[w.heap.size + 1]? = some (.cells (arr .u64 5 fun i => ((G i : Nat) : Int)) 34 (0, 0)) ∧ wr.heap[w.heap.size + 1 + 1]? = some (.cells (arr .u64 5 fun _ => 0) 34 (0, 0)) ∧ Below w.heap.size w wr)
    case atStart => exact ⟨0, rfl, rfl, blk_congr q0 (fun i _ => by rw [if_neg (Nat.not_lt_zero i)]), q1, q2, hB⟩
    case round =>
      clear q0 q1 q2 hB
      obtain ⟨m, hm, rfl, q0, q1, q2, hB⟩ := hrel
      have hm' := Lib.hid hm
      clear hm
      by_cases hlt : m < 5
      · have f1 := hq'.out.1 m hlt
        have f2 := hq'.out.2 m hlt
        have c0 := cell_arr q0 m hlt
        have c1 := cell_arr q1 m hlt
        have fz := free_arr q0 m
        simp only [Nat.lt_irrefl, if_false] at c0
        have dc := diff_cell F G m f2
        by_cases h0 : m = 0
        all_goals
          first | (have hm0 : ((m : Int) == 0) = true := by simp [h0]) | (have hm0 : ((m : Int) == 0) = false := by simp [h0])
          have H0 := Lib.hid h0
          clear h0 dc
          go_wp2
          refine wp_region_tail 11 (by kernel_rfl) (by kernel_rfl) ?_
          (simp only [List.take_succ_cons, List.take_zero, List.drop_succ_cons, List.drop_zero])
          repeat (refine wpStill_step (fun K hK => ?_); go_simp; (try (simp only [↓IntWalk.iteOmega]; go_simp)); (try go_bits); refine hK _ ?_; clear hK K)
          refine wpStill_nil ?_
          go_wp2
          go_roundg (gk - 1)
          case measure => have := hm'.out; omega
          case rel =>
            have hm'' := hm'.out
            have h0 := H0.out
            have dc := diff_cell F G m f2
            unfold mostF at dc
            first | rw [if_pos h0] at dc | rw [if_neg h0] at dc
            refine ⟨m + 1, by omega, by go_num, blk_congr (set_arr q0 m _) (fun i _ => ?_), keep_arr q1 _ _ (by omega), keep_arr q2 _ _ (by omega), (hB.setCell (Nat.le_refl _) _).drew⟩
            unfold upd
            by_cases h : i = m
            · rw [if_pos h, h, if_pos (by omega), ← dc]; omega
            · rw [if_neg h]
              dsimp only
              by_cases h2 : i < m
              · rw [if_pos h2, if_pos (by omega)]
              · rw [if_neg h2, if_neg (by omega)]
      · obtain rfl : m = 5 := by have := hm'.out; omega
        have p0 := blk_congr (f' := fun i => ((diffN F G i : Nat) : Int)) q0 (fun i hi => by rw [if_pos hi])
        clear q0
        go_wp2_with (first | (refine wpList_load_arr rfl rfl rfl RTFe p0 ?_) | (go_at_call 47; fail))
        refine (carry_any (diffN F G) (fun i hi => diff_lt F G hq'.out.1 i hi) _).mono ?_
        rintro e w4 ⟨rfl, b4⟩
        have e2 := keep_below b4 (lt_of_block q2) q2
        have hBe := hB.trans (b4.mono hB.size)
        go_wp2_with (refine wpList_store_arr rfl rfl rfl rfl RTFe e2 ?_)
        refine bodyPost_ret (results_arr_tmp rfl rfl rfl RTFe (row_self e2)) rfl ⟨?_, row_below hBe (by omega) _⟩
        unfold subN
        rw [told2_yes hq'.out]
        first | rfl | (rw [if_pos hq'.out]; rfl)
  · rw [show decide (okF (two5 F G) 10) = false from decide_eq_false fun h => hq ((two5_ok F G).1 h)]
    go_wp2_with (first | (refine wpList_val' rfl (run_op_build rfl (by simp [Act.eval, Act.put]) built_fe) ?_) | (refine wpList_store_arr rfl rfl rfl rfl RTFe q2 ?_))
    refine bodyPost_ret (results_arr_tmp rfl rfl rfl RTFe (row_self q2)) rfl ⟨?_, row_below hB (by omega) _⟩
    unfold subN
    rw [told2_no hq]
    first | rfl | (rw [if_neg hq]; rfl)
end Go.Proofs.Ythgjhipfgdlbnaa
