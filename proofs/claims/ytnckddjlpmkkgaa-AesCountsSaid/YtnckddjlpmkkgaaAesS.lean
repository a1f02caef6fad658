/- The walks of layer 4: a round, and a block encrypted. -/
import Derived.Test.YtnckddjlpmkkgaaAesR
namespace Go.Proofs.Ytnckddjlpmkkgaa
set_option linter.unusedSimpArgs false
set_option linter.unusedVariables false
open Go.RowKit
attribute [local irreducible] sboxI

theorem SZByte : (Try.prog.info? 5).map (·.size) = some 1 := by kernel_rfl

set_option maxRecDepth 100000 in
set_option maxHeartbeats 1000000 in
theorem round_any (k s : Nat → Int) (hs : ∀ i, i < 16 → 0 ≤ s i ∧ s i < 256) (last : Bool) (C : Nat) (w : World) (hC : w.heap[C]? = some (.cells (arr .u8 432 (cipK k 10)) 49 (0, 0))) :
    Calls Try.prog 33 #[.pointer (some ⟨C, 0, none⟩), .agg (arr .u8 16 s), .bool last] w fun e w' => e = .returned (.agg (arr .u8 16 (roundI s last))) ∧ Below w.heap.size w w' := by
  go_enter Try.func33, Try.ntmps33
  obtain ⟨h0, h1, hsz, hb⟩ := alloc2 w (.cells (arr .u8 16 s) 23) (.cells (arr .u8 16 fun _ => 0) 23)
  have hCl := lt_of_block hC
  have hC1 := keep_below hb hCl hC
  have hs' := Lib.hid hs
  clear hs hC
  go_wp2_with (refine wpList_alloc_arr rfl rfl ZTBlock ?_)
  go_loopg [10] 4 (fun n i wr => ∃ m : Nat, m + n = 4 ∧ i = .int .i64 m ∧ wr.heap[w.heap.size]? = some (.cells (arr .u8 16 s) 23 (0, 0)) ∧
    wr.heap[w.heap.size + 1]? = some (.cells (arr .u8 16 fun i => if i < 4 * m then roundI s last i else 0) 23 (0, 0)) ∧ wr.heap[C]? = some (.cells (arr .u8 432 (cipK k 10)) 49 (0, 0)) ∧ Below w.heap.size w wr)
  case atStart => exact ⟨0, rfl, rfl, h0, blk_congr h1 (fun i _ => (if_neg (by omega)).symm), hC1, hb⟩
  case round =>
    obtain ⟨m, hm, rfl, g0, g1, gC, hB⟩ := hrel
    obtain ⟨go1, rfl⟩ : ∃ x, x = gk := ⟨_, rfl⟩
    have hm' := Lib.hid hm
    clear h0 h1 hsz hb hm hC1
    have hl0 := lt_of_block g0
    have hl1 := lt_of_block g1
    have hlC := lt_of_block gC
    by_cases hlt : m < 4
    · go_upto_region 5 with (refine wpList_alloc_arr rfl rfl ZTCol ?_)
      have q2 := heap_alloc_new wr (.cells (arr .u8 4 fun _ => 0) 54)
      have bl := (alloc1 wr (.cells (arr .u8 4 fun _ => 0) 54)).2.2
      have q0 := keep_below bl hl0 g0
      have q1 := keep_below bl hl1 g1
      have qC := keep_below bl hlC gC
      have hBq := hB.trans (bl.mono hB.size)
      clear bl g0 g1 gC hB
      generalize wr.heap.size = B2 at *
      (try simp only [Act.put, List.setIfInBounds_toArray, List.set_cons_zero, List.set_cons_succ])
      rw [show decide ((m : Int) < 4) = true from decide_eq_true (by omega)]
      go_wp2
      go_loopg [13] 4 (fun n i wr => ∃ r : Nat, r + n = 4 ∧ i = .int .i64 r ∧ wr.heap[w.heap.size]? = some (.cells (arr .u8 16 s) 23 (0, 0)) ∧
        wr.heap[w.heap.size + 1]? = some (.cells (arr .u8 16 fun i => if i < 4 * m then roundI s last i else 0) 23 (0, 0)) ∧ wr.heap[C]? = some (.cells (arr .u8 432 (cipK k 10)) 49 (0, 0)) ∧
        wr.heap[B2]? = some (.cells (arr .u8 4 fun i => if i < r then rowI s m i else 0) 54 (0, 0)) ∧ Below w.heap.size w wr)
      case atStart => exact ⟨0, rfl, rfl, q0, q1, qC, blk_congr q2 (fun i _ => (if_neg (by omega)).symm), hBq⟩
      case round =>
        clear q0 q1 qC q2 hBq
        obtain ⟨r, hr, rfl, q0, q1, qC, q2, hBq⟩ := hrel
        have hr' := Lib.hid hr
        clear hr
        by_cases hlr : r < 4
        · have hsb := hs'.out (4 * ((m + r) % 4) + r) (by omega)
          have c0 := cell_arr q0 (4 * ((m + r) % 4) + r) (by omega)
          have c1 := cell_arr qC (s (4 * ((m + r) % 4) + r)).toNat (by omega)
          rw [cipK_box _ _ _ (by omega)] at c1
          have c2 := cell_arr q2 r hlr
          have fz := free_arr q2 r
          simp only [Nat.lt_irrefl, if_false] at c2
          go_wp2
          refine wp_region_tail 16 (by kernel_rfl) (by kernel_rfl) ?_
          (simp only [List.take_succ_cons, List.take_zero, List.drop_succ_cons, List.drop_zero])
          repeat (refine wpStill_step (fun K hK => ?_); go_simp; (try (simp only [↓IntWalk.iteOmega]; go_simp)); (try go_bits); refine hK _ ?_; clear hK K)
          refine wpStill_nil ?_
          go_wp2
          go_roundg (gk - 1)
          case measure => have := hr'.out; omega
          case rel =>
            have hr'' := hr'.out
            exact ⟨r + 1, by omega, by go_num, keep_arr q0 _ _ (by omega), keep_arr q1 _ _ (by omega), keep_arr qC _ _ (by omega), blk_congr (set_arr q2 r _) (fun i _ => fill_zero (rowI s m) r i), (hBq.setCell (by show w.heap.size ≤ B2; omega) _).drew⟩
        · obtain rfl : r = 4 := by have := hr'.out; omega
          have q3 := blk_congr (f' := rowI s m) q2 (fun i hi => if_pos hi)
          clear q2
          cases last
          · go_upto_region 12 with (first | (refine wpList_load_arr rfl rfl rfl RTCol q3 ?_) | (go_at_call 35; refine (column_any _ _).mono ?_; rintro e w4 ⟨rfl, b4⟩; have e3 := keep_below b4 (lt_of_block q3) q3) | (refine wpList_store_arr rfl rfl rfl rfl RTCol e3 ?_))
            (try simp only [Act.put, List.setIfInBounds_toArray, List.set_cons_zero, List.set_cons_succ])
            have e0 := row_keep (w := w4) (c' := arr .u8 4 (colI (rowI s m))) (g := B2) (keep_below b4 (lt_of_block q0) q0) (by omega)
            have e1 := row_keep (w := w4) (c' := arr .u8 4 (colI (rowI s m))) (g := B2) (keep_below b4 (lt_of_block q1) q1) (by omega)
            have eC := row_keep (w := w4) (c' := arr .u8 4 (colI (rowI s m))) (g := B2) (keep_below b4 (lt_of_block qC) qC) (by omega)
            have e2 := row_self (w := w4) (c' := arr .u8 4 (colI (rowI s m))) e3
            have eB := row_below (hBq.trans (b4.mono hBq.size)) (g := B2) (by omega) (arr .u8 4 (colI (rowI s m)))
            clear b4 e3 q0 q1 qC q3 hBq
            generalize w4.setRow B2 (arr .u8 4 (colI (rowI s m))) = w5 at *
            refine wp_region_tail 4 (by kernel_rfl) (by kernel_rfl) ?_
            (simp only [List.take_succ_cons, List.take_zero, List.drop_succ_cons, List.drop_zero])
            iterate 2 (refine wpStill_step (fun K hK => ?_); go_simp; (try (simp only [↓IntWalk.iteOmega]; go_simp)); (try go_bits); refine hK _ ?_; clear hK K)
            refine wpStill_val rfl (run_op_slice_lo rfl Try.underlying23 SZByte rfl rfl (by omega) (by omega)) ?_
            refine wpStill_val rfl (run_op_slice_all rfl Try.underlying54 SZByte rfl) ?_
            refine wpStill_nil ?_
            (try simp only [Act.put, List.setIfInBounds_toArray, List.set_cons_zero, List.set_cons_succ])
            refine wpList_copy_arr (m := 4) rfl rfl rfl rfl Try.underlying36 SZByte e1 e2 (by show 4 = min 4 (16 - ((4 : Int) * m).toNat); omega) (by omega) (by omega) ?_
            (try simp only [Act.put, List.setIfInBounds_toArray, List.set_cons_zero, List.set_cons_succ])
            go_wp2
            go_roundg (go1 - 1)
            case measure => have := hm'.out; omega
            case rel =>
              have hm'' := hm'.out
              exact ⟨m + 1, by omega, by go_num, row_keep (w := w5.drew) e0 (by omega), blk_congr (row_self (w := w5.drew) e1) (fun i hi => round_step s false m i hi _ (roundI_at s m)), row_keep (w := w5.drew) eC (by omega), row_below eB.drew (Nat.le_add_right _ _) _⟩
          · go_upto_region 12 with (fail)
            (try simp only [Act.put, List.setIfInBounds_toArray, List.set_cons_zero, List.set_cons_succ])
            have e0 := q0
            have e1 := q1
            have eC := qC
            have e2 := q3
            have eB := hBq
            clear q0 q1 qC q3 hBq
            refine wp_region_tail 4 (by kernel_rfl) (by kernel_rfl) ?_
            (simp only [List.take_succ_cons, List.take_zero, List.drop_succ_cons, List.drop_zero])
            iterate 2 (refine wpStill_step (fun K hK => ?_); go_simp; (try (simp only [↓IntWalk.iteOmega]; go_simp)); (try go_bits); refine hK _ ?_; clear hK K)
            refine wpStill_val rfl (run_op_slice_lo rfl Try.underlying23 SZByte rfl rfl (by omega) (by omega)) ?_
            refine wpStill_val rfl (run_op_slice_all rfl Try.underlying54 SZByte rfl) ?_
            refine wpStill_nil ?_
            (try simp only [Act.put, List.setIfInBounds_toArray, List.set_cons_zero, List.set_cons_succ])
            refine wpList_copy_arr (m := 4) rfl rfl rfl rfl Try.underlying36 SZByte e1 e2 (by show 4 = min 4 (16 - ((4 : Int) * m).toNat); omega) (by omega) (by omega) ?_
            (try simp only [Act.put, List.setIfInBounds_toArray, List.set_cons_zero, List.set_cons_succ])
            go_wp2
            go_roundg (go1 - 1)
            case measure => have := hm'.out; omega
            case rel =>
              have hm'' := hm'.out
              exact ⟨m + 1, by omega, by go_num, row_keep (w := wr.drew) e0 (by omega), blk_congr (row_self (w := wr.drew) e1) (fun i hi => round_step s true m i hi _ (roundI_last s m)), row_keep (w := wr.drew) eC (by omega), row_below eB.drew (Nat.le_add_right _ _) _⟩
    · obtain rfl : m = 4 := by have := hm'.out; omega
      have g1' := blk_congr (f' := roundI s last) g1 (fun i hi => if_pos (by omega))
      clear g1
      go_wp2_with (first | (refine wpList_load_arr rfl rfl rfl RTBlock g1' ?_) | (refine wpList_store_arr rfl rfl rfl rfl RTBlock g1' ?_))
      exact bodyPost_ret (results_arr rfl rfl RTBlock (row_self g1')) rfl ⟨rfl, row_below hB (by omega) _⟩
end Go.Proofs.Ytnckddjlpmkkgaa
