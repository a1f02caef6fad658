/- The law FeBytes: whatever the number and the bytes, it answers true. -/
import Derived.Test.YtjabpamcpeaboaaFeR
namespace Go.Proofs.Ytjabpamcpeaboaa
open Go.RowKit
theorem most_zero (b : Nat → Nat) : mostN b 0 = (decide (b 31 = 127) && decide (237 ≤ b 0)) := rfl
theorem most_succ (b : Nat → Nat) (m : Nat) : mostN b (m + 1) = (mostN b m && decide (b (m + 1) = 255)) := rfl
theorem beq_dec (a : Nat) : (((a : Nat) : Int) == 255) = decide (a = 255) := by
  rw [Bool.eq_iff_iff, beq_iff_eq, decide_eq_true_eq]; omega
theorem cut_at (k : Nat → Nat) (i : Nat) : upd (fun i => ((k i : Nat) : Int)) 31 (((k 31 : Nat) : Int) % 128) i = ((cutB k i : Nat) : Int) := by
  unfold upd cutB
  by_cases h : i = 31
  · rw [if_pos h, if_pos h]; omega
  · rw [if_neg h, if_neg h]
theorem less_at (k : Nat → Nat) (i : Nat) (h : 237 ≤ cutB k 0) : upd (fun _ => (0 : Int)) 0 (((cutB k 0 : Nat) : Int) - 237) i = ((lessB k i : Nat) : Int) := by
  have e : cutB k 0 = k 0 := rfl
  rw [e] at h ⊢
  unfold upd lessB
  by_cases h0 : i = 0
  · rw [if_pos h0, if_pos h0]; omega
  · rw [if_neg h0, if_neg h0]; rfl
attribute [local irreducible] bytesN ofN mostN sameN cutB lessB

set_option maxRecDepth 100000 in
set_option maxHeartbeats 2000000 in
theorem FeBytes_nat (F k : Nat → Nat) (hF : ∀ i, i < 5 → F i < 18446744073709551616) (hk : ∀ i, i < 32 → k i < 256) (w : World) :
    Calls Try.prog 3 #[.agg (arr .u64 5 fun i => ((F i : Nat) : Int)), .agg (arr .u8 32 fun i => ((k i : Nat) : Int))] w fun e w' => e = .returned (.bool true) ∧ Below w.heap.size w w' := by
  go_enter Try.func3, Try.ntmps3
  obtain ⟨g0, g1, hz, hb0⟩ := alloc2 w (.cells (arr .u64 5 fun i => ((F i : Nat) : Int)) 24) (.cells (arr .u8 32 fun i => ((k i : Nat) : Int)) 26)
  go_wp2_with fail
  refine (live_any _).mono ?_
  rintro e w1 ⟨rfl, hb1⟩
  have h0 := keep_below hb1 (by omega) g0
  have h1 := keep_below hb1 (by omega) g1
  have hB1 := hb0.trans (hb1.mono (by omega))
  clear g0 g1 hz hb0 hb1
  go_wp2_with (first | (refine wpList_load_arr rfl rfl rfl RTFe h0 ?_) | (go_at_call 12; fail))
  refine (Bytes_any F hF _).mono ?_
  rintro e w2 ⟨rfl, b2⟩
  have e0 := keep_below b2 (lt_of_block h0) h0
  have e1 := keep_below b2 (lt_of_block h1) h1
  have hB2 := hB1.trans (b2.mono hB1.size)
  clear h0 h1 b2 hB1
  by_cases hq : okF F 5
  · rw [if_pos hq]
    go_upto_region 5 with (refine wpList_new_arr rfl rfl rfl rfl ZTKey RTKey rfl rfl ?_; intro w3 g3 b3 hs3)
    have q0 := keep_below b3 (lt_of_block e0) e0
    have q1 := keep_below b3 (lt_of_block e1) e1
    have hB3 := hB2.trans (b3.mono hB2.size)
    have l0 := lt_of_block e0
    have l1 := lt_of_block e1
    clear e0 e1 b3 hB2 hs3
    generalize w2.heap.size = B6 at *
    (try simp only [Act.put, List.setIfInBounds_toArray, List.set_cons_zero, List.set_cons_succ])
    go_upto_region 7 with (fail)
    (try simp only [Act.put, List.setIfInBounds_toArray, List.set_cons_zero, List.set_cons_succ])
    have hl0 := lt_of_block q0
    have hl3 := lt_of_block g3
    refine wp_region_can w3.heap.size 9 [(0, false), (2, false), (1, true), (3, true), (4, false), (5, false), (6, false), (7, false), (8, false)] (by kernel_rfl) (by kernel_rfl) ?_
    (simp only [canOps, List.getElem?_cons_zero, List.getElem?_cons_succ, List.drop_succ_cons, List.drop_zero])
    refine wpCan_load_arr rfl rfl rfl (fun _ _ _ _ h => h) RTKey hl3 g3 ?_
    (try simp only [Act.put, List.setIfInBounds_toArray, List.set_cons_zero, List.set_cons_succ])
    refine wpCan_load_arr rfl rfl rfl (fun _ _ _ _ h => h) RTFe hl0 q0 ?_
    (try simp only [Act.put, List.setIfInBounds_toArray, List.set_cons_zero, List.set_cons_succ])
    refine wpCan_e rfl (fun K hK => ?_)
    go_simp
    refine (Of_any (bytesN F) (fun i _ => bytesN_lt F i) _).mono ?_
    rintro e w4 ⟨rfl, b4⟩
    refine hK _ _ (Keep.of_below b4 (Nat.le_refl _)) ?_
    clear hK K
    (try simp only [Act.put, List.setIfInBounds_toArray, List.set_cons_zero, List.set_cons_succ])
    refine wpCan_e rfl (fun K hK => ?_)
    go_simp
    refine (Same_any (ofN (bytesN F)) F (fun i hi => by have := ofN_ok (bytesN F) i hi; omega) hF _).mono ?_
    rintro e w5 ⟨rfl, b5⟩
    rw [same_back F hq (bytesN F) (fun k _ => bytesN_ok F hq k)]
    refine hK _ _ (Keep.of_below b5 b4.size) ?_
    clear hK K
    (try simp only [Act.put, List.setIfInBounds_toArray, List.set_cons_zero, List.set_cons_succ])
    have b45 := b4.trans (b5.mono b4.size)
    have p0 := keep_below (w := w3.drew) b45 hl0 q0
    have p1 := keep_below (w := w3.drew) b45 (lt_of_block q1) q1
    have p3 := keep_below (w := w3.drew) b45 hl3 g3
    have hB5 := hB3.drew.trans (b45.mono hB3.size)
    have c31 := cell_arr p3 31 (by omega)
    have hb31 := b31 F hq
    iterate 5 (first | (refine wpCan_move rfl rfl (fun _ _ _ _ h => h) ?_; (simp only [Act.put, Act.eval, Array.getD_eq_getD_getElem?, List.getElem?_toArray, List.getElem?_cons_zero, List.getElem?_cons_succ, Option.getD_some, List.setIfInBounds_toArray, List.set_cons_zero, List.set_cons_succ])) | (refine wpCan_assign rfl rfl (fun _ _ _ _ h => h) ?_; (simp only [Act.put, Act.eval, Array.getD_eq_getD_getElem?, List.getElem?_toArray, List.getElem?_cons_zero, List.getElem?_cons_succ, Option.getD_some, List.setIfInBounds_toArray, List.set_cons_zero, List.set_cons_succ])) | (refine wpCan_nilCheck rfl rfl rfl (fun _ _ _ _ h => h) ?_; (simp only [Act.put, List.setIfInBounds_toArray, List.set_cons_zero, List.set_cons_succ])) | (refine wpCan_q rfl rfl (fun _ _ _ _ h => h) (by first | exact .bin rfl rfl rfl | exact .indexAddr rfl | exact .un rfl | exact .extract rfl | exact .index rfl | exact .field rfl | exact .slice rfl | exact .load rfl rfl hl3 p3) (fun K hK => ?_); go_simp; (try (simp only [↓IntWalk.iteOmega]; go_simp)); (try go_bits); refine hK _ ?_; clear hK K))
    refine wpCan_nil ?_
    clear q0 q1 g3 b4 b5 b45 hB3 hl0 hl3
    have c0 := cell_arr p3 0 (by omega)
    have hb0' := bytesN_lt F 0
    go_upto_region 9 with (fail)
    by_cases h127 : bytesN F 31 = 127
    · rw [h127] at c31
      go_upto_region 10 with (fail)
      go_wp2
      go_loopg [8, 9] 30 (fun n t i wr => ∃ m : Nat, m + n = 30 ∧ i = .int .i64 ((m : Int) + 1) ∧ t = .bool (mostN (bytesN F) m) ∧ wr.heap[w.heap.size]? = some (.cells (arr .u64 5 fun i => ((F i : Nat) : Int)) 24 (0, 0)) ∧
        wr.heap[w.heap.size + 1]? = some (.cells (arr .u8 32 fun i => ((k i : Nat) : Int)) 26 (0, 0)) ∧ wr.heap[B6]? = some (.cells (arr .u8 32 fun k => ((bytesN F k : Nat) : Int)) 26 (0, 0)) ∧ Below w.heap.size w wr)
      case atStart => exact ⟨0, rfl, rfl, (by rw [most_zero, h127]; simp; omega), p0, p1, p3, hB5⟩
      case round =>
        clear p0 p1 p3 hB5
        obtain ⟨m, hm, rfl, rfl, p0, p1, p3, hB5⟩ := hrel
        have hm' := Lib.hid hm
        clear hm
        by_cases hlt : m < 30
        · have c1 := cell_arr p3 (m + 1) (by omega)
          have hb1 := bytesN_lt F (m + 1)
          cases hmo : mostN (bytesN F) m
          · go_wp2
            go_roundg (gk - 1)
            case measure => have := hm'.out; omega
            case rel =>
              have hm'' := hm'.out
              exact ⟨m + 1, by omega, by go_num, by rw [most_succ, hmo]; rfl, p0, p1, p3, hB5⟩
          · go_wp2
            go_roundg (gk - 1)
            case measure => have := hm'.out; omega
            case rel =>
              have hm'' := hm'.out
              exact ⟨m + 1, by omega, by go_num, by rw [most_succ, hmo, Bool.true_and, ← beq_dec], p0, p1, p3, hB5⟩
        · obtain rfl : m = 30 := by have := hm'.out; omega
          rw [not_most F hq]
          go_wp2_with (first | (refine wpList_load_arr rfl rfl rfl RTKey p1 ?_) | (go_at_call 15; fail))
          refine (Of_any k hk _).mono ?_
          rintro e w6 ⟨rfl, b6⟩
          go_wp2_with (go_at_call 12; fail)
          refine (Bytes_any (ofN k) (fun i hi => by have := ofN_ok k i hi; omega) _).mono ?_
          rintro e w7 ⟨rfl, b7⟩
          rw [if_pos (ofN_ok k)]
          have b67 := b6.trans (b7.mono b6.size)
          have r1 := keep_below b67 (lt_of_block p1) p1
          have hB7 := hB5.trans (b67.mono hB5.size)
          clear p0 p1 p3 hB5 b6 b7 b67
          go_upto_region 15 with (refine wpList_new_arr rfl rfl rfl rfl ZTKey RTKey rfl rfl ?_; intro w8 g8 b8w hs8)
          have s1 := keep_below b8w (lt_of_block r1) r1
          have hB8 := hB7.trans (b8w.mono hB7.size)
          have lA := lt_of_block r1
          clear r1 b8w hs8 hB7
          generalize w7.heap.size = BC at *
          (try simp only [Act.put, List.setIfInBounds_toArray, List.set_cons_zero, List.set_cons_succ])
          have hk31 := hk 31 (by omega)
          have c31' := cell_arr s1 31 (by omega)
          have fz := free_arr s1 31
          have u1 := blk_congr (f' := fun i => ((cutB k i : Nat) : Int)) (set_arr s1 31 (((k 31 : Nat) : Int) % 128)) (fun i _ => cut_at k i)
          have u8 := keep_arr (i := 31) (v := .int .u8 (((k 31 : Nat) : Int) % 128)) g8 (C := w.heap.size + 1) (by omega)
          have hB9 := hB8.setCell (p := ⟨w.heap.size + 1, 31, none⟩) (by show w.heap.size ≤ w.heap.size + 1; omega) (.int .u8 (((k 31 : Nat) : Int) % 128))
          go_upto_region 16 with (fail)
          (try simp only [Act.put, List.setIfInBounds_toArray, List.set_cons_zero, List.set_cons_succ])
          clear c31' fz s1 g8 hB8
          generalize w8.setCell ⟨w.heap.size + 1, 31, none⟩ (.int .u8 (((k 31 : Nat) : Int) % 128)) = w9 at *
          have d31 := cell_arr u1 31 (by omega)
          have d0 := cell_arr u1 0 (by omega)
          have hc0 := cutB_lt k hk 0 (by omega)
          have hc31 := cutB_lt k hk 31 (by omega)
          by_cases g127 : cutB k 31 = 127
          · rw [g127] at d31
            go_upto_region 17 with (fail)
            go_wp2
            go_loopg [12, 13] 30 (fun n t i wr => ∃ m : Nat, m + n = 30 ∧ i = .int .i64 ((m : Int) + 1) ∧ t = .bool (mostN (cutB k) m) ∧ wr.heap[w.heap.size + 1]? = some (.cells (arr .u8 32 fun i => ((cutB k i : Nat) : Int)) 26 (0, 0)) ∧
              wr.heap[BC]? = some (.cells (arr .u8 32 fun i => ((bytesN (ofN k) i : Nat) : Int)) 26 (0, 0)) ∧ Below w.heap.size w wr)
            case atStart => exact ⟨0, rfl, rfl, (by rw [most_zero, g127]; simp; omega), u1, u8, hB9⟩
            case round =>
              clear u1 u8 hB9
              obtain ⟨m, hm, rfl, rfl, v1, v8, hBv⟩ := hrel
              have hm' := Lib.hid hm
              clear hm
              by_cases hlt : m < 30
              · have c1 := cell_arr v1 (m + 1) (by omega)
                have hb1 := cutB_lt k hk (m + 1) (by omega)
                cases hmo : mostN (cutB k) m
                · go_wp2
                  go_roundg (gk - 1)
                  case measure => have := hm'.out; omega
                  case rel =>
                    have hm'' := hm'.out
                    exact ⟨m + 1, by omega, by go_num, by rw [most_succ, hmo]; rfl, v1, v8, hBv⟩
                · go_wp2
                  go_roundg (gk - 1)
                  case measure => have := hm'.out; omega
                  case rel =>
                    have hm'' := hm'.out
                    exact ⟨m + 1, by omega, by go_num, by rw [most_succ, hmo, Bool.true_and, ← beq_dec], v1, v8, hBv⟩
              · obtain rfl : m = 30 := by have := hm'.out; omega
                have c0 := cell_arr v1 0 (by omega)
                have hz := cutB_lt k hk 0 (by omega)
                cases hmo : mostN (cutB k) 30
                · go_wp2_with (first | (refine wpList_val_w rfl (run_op_load rfl rfl (run_loadVar_arr0 RTKey v8)) ?_) | (refine wpList_val_w rfl (run_op_load rfl rfl (run_loadVar_arr0 RTKey v1)) ?_) | (refine wpList_val_w rfl (run_op_eqArr (op := .eql) rfl ITKey rfl rfl) ?_; rw [sameTo_true (fun i hi => by rw [bytes_of k hk i hi, if_neg (by rw [hmo]; exact Bool.false_ne_true)])]))
                  go_ret
                  exact ⟨rfl, hBv⟩
                · have h237 := ((most_iff (cutB k) 30).1 hmo).1.2
                  go_upto_region 23 with (refine wpList_alloc_arr rfl rfl ZTKey ?_)
                  have bl := (alloc1 wr (.cells (arr .u8 32 fun _ => 0) 26)).2.2
                  have gN := heap_alloc_new wr (.cells (arr .u8 32 fun _ => 0) 26)
                  have x1 := keep_below bl (lt_of_block v1) v1
                  have x8 := keep_below bl (lt_of_block v8) v8
                  have hBx := hBv.trans (bl.mono hBv.size)
                  have lB := hBv.size
                  have lC := lt_of_block v8
                  clear bl v1 v8 hBv c0
                  generalize wr.alloc (.cells (arr .u8 32 fun _ => 0) 26) = w10 at *
                  generalize wr.heap.size = BN at *
                  (try simp only [Act.put, List.setIfInBounds_toArray, List.set_cons_zero, List.set_cons_succ])
                  have c0 := cell_arr x1 0 (by omega)
                  have fzN := free_arr gN 0
                  have cN := cell_arr gN 0 (by omega)
                  have v8 := keep_arr (i := 0) (v := .int .u8 (((cutB k 0 : Nat) : Int) - 237)) x8 (C := BN) (by omega)
                  have yN := blk_congr (f' := fun i => ((lessB k i : Nat) : Int)) (set_arr gN 0 (((cutB k 0 : Nat) : Int) - 237)) (fun i _ => less_at k i h237)
                  have hBy := hBx.setCell (p := ⟨BN, 0, none⟩) lB (.int .u8 (((cutB k 0 : Nat) : Int) - 237))
                  go_upto_region 24 with (fail)
                  (try simp only [Act.put, List.setIfInBounds_toArray, List.set_cons_zero, List.set_cons_succ])
                  clear x1 x8 gN hBx
                  go_wp2_with (first | (refine wpList_val_w rfl (run_op_load rfl rfl (run_loadVar_arr0 RTKey v8)) ?_) | (refine wpList_val_w rfl (run_op_load rfl rfl (run_loadVar_arr0 RTKey yN)) ?_) | (refine wpList_val_w rfl (run_op_eqArr (op := .eql) rfl ITKey rfl rfl) ?_; rw [sameTo_true (fun i hi => by rw [bytes_of k hk i hi, if_pos hmo])]))
                  go_ret
                  exact ⟨rfl, hBy⟩
          · have g127' : ((((cutB k 31 : Nat) : Int)) == 127) = false := by rw [beq_eq_false_iff_ne]; omega
            go_upto_region 17 with (fail)
            go_wp2
            go_loopg [12, 13] 30 (fun n t i wr => ∃ m : Nat, m + n = 30 ∧ i = .int .i64 ((m : Int) + 1) ∧ t = .bool (mostN (cutB k) m) ∧ wr.heap[w.heap.size + 1]? = some (.cells (arr .u8 32 fun i => ((cutB k i : Nat) : Int)) 26 (0, 0)) ∧
              wr.heap[BC]? = some (.cells (arr .u8 32 fun i => ((bytesN (ofN k) i : Nat) : Int)) 26 (0, 0)) ∧ Below w.heap.size w wr)
            case atStart => exact ⟨0, rfl, rfl, (by rw [most_zero, decide_eq_false g127]; rfl), u1, u8, hB9⟩
            case round =>
              clear u1 u8 hB9
              obtain ⟨m, hm, rfl, rfl, v1, v8, hBv⟩ := hrel
              have hm' := Lib.hid hm
              clear hm
              by_cases hlt : m < 30
              · have c1 := cell_arr v1 (m + 1) (by omega)
                have hb1 := cutB_lt k hk (m + 1) (by omega)
                cases hmo : mostN (cutB k) m
                · go_wp2
                  go_roundg (gk - 1)
                  case measure => have := hm'.out; omega
                  case rel =>
                    have hm'' := hm'.out
                    exact ⟨m + 1, by omega, by go_num, by rw [most_succ, hmo]; rfl, v1, v8, hBv⟩
                · go_wp2
                  go_roundg (gk - 1)
                  case measure => have := hm'.out; omega
                  case rel =>
                    have hm'' := hm'.out
                    exact ⟨m + 1, by omega, by go_num, by rw [most_succ, hmo, Bool.true_and, ← beq_dec], v1, v8, hBv⟩
              · obtain rfl : m = 30 := by have := hm'.out; omega
                have c0 := cell_arr v1 0 (by omega)
                have hz := cutB_lt k hk 0 (by omega)
                cases hmo : mostN (cutB k) 30
                · go_wp2_with (first | (refine wpList_val_w rfl (run_op_load rfl rfl (run_loadVar_arr0 RTKey v8)) ?_) | (refine wpList_val_w rfl (run_op_load rfl rfl (run_loadVar_arr0 RTKey v1)) ?_) | (refine wpList_val_w rfl (run_op_eqArr (op := .eql) rfl ITKey rfl rfl) ?_; rw [sameTo_true (fun i hi => by rw [bytes_of k hk i hi, if_neg (by rw [hmo]; exact Bool.false_ne_true)])]))
                  go_ret
                  exact ⟨rfl, hBv⟩
                · have h237 := ((most_iff (cutB k) 30).1 hmo).1.2
                  go_upto_region 23 with (refine wpList_alloc_arr rfl rfl ZTKey ?_)
                  have bl := (alloc1 wr (.cells (arr .u8 32 fun _ => 0) 26)).2.2
                  have gN := heap_alloc_new wr (.cells (arr .u8 32 fun _ => 0) 26)
                  have x1 := keep_below bl (lt_of_block v1) v1
                  have x8 := keep_below bl (lt_of_block v8) v8
                  have hBx := hBv.trans (bl.mono hBv.size)
                  have lB := hBv.size
                  have lC := lt_of_block v8
                  clear bl v1 v8 hBv c0
                  generalize wr.alloc (.cells (arr .u8 32 fun _ => 0) 26) = w10 at *
                  generalize wr.heap.size = BN at *
                  (try simp only [Act.put, List.setIfInBounds_toArray, List.set_cons_zero, List.set_cons_succ])
                  have c0 := cell_arr x1 0 (by omega)
                  have fzN := free_arr gN 0
                  have cN := cell_arr gN 0 (by omega)
                  have v8 := keep_arr (i := 0) (v := .int .u8 (((cutB k 0 : Nat) : Int) - 237)) x8 (C := BN) (by omega)
                  have yN := blk_congr (f' := fun i => ((lessB k i : Nat) : Int)) (set_arr gN 0 (((cutB k 0 : Nat) : Int) - 237)) (fun i _ => less_at k i h237)
                  have hBy := hBx.setCell (p := ⟨BN, 0, none⟩) lB (.int .u8 (((cutB k 0 : Nat) : Int) - 237))
                  go_upto_region 24 with (fail)
                  (try simp only [Act.put, List.setIfInBounds_toArray, List.set_cons_zero, List.set_cons_succ])
                  clear x1 x8 gN hBx
                  go_wp2_with (first | (refine wpList_val_w rfl (run_op_load rfl rfl (run_loadVar_arr0 RTKey v8)) ?_) | (refine wpList_val_w rfl (run_op_load rfl rfl (run_loadVar_arr0 RTKey yN)) ?_) | (refine wpList_val_w rfl (run_op_eqArr (op := .eql) rfl ITKey rfl rfl) ?_; rw [sameTo_true (fun i hi => by rw [bytes_of k hk i hi, if_pos hmo])]))
                  go_ret
                  exact ⟨rfl, hBy⟩
    · have h127' : ((((bytesN F 31 : Nat) : Int)) == 127) = false := by rw [beq_eq_false_iff_ne]; omega
      go_upto_region 10 with (fail)
      go_wp2
      go_loopg [8, 9] 30 (fun n t i wr => ∃ m : Nat, m + n = 30 ∧ i = .int .i64 ((m : Int) + 1) ∧ t = .bool (mostN (bytesN F) m) ∧ wr.heap[w.heap.size]? = some (.cells (arr .u64 5 fun i => ((F i : Nat) : Int)) 24 (0, 0)) ∧
        wr.heap[w.heap.size + 1]? = some (.cells (arr .u8 32 fun i => ((k i : Nat) : Int)) 26 (0, 0)) ∧ wr.heap[B6]? = some (.cells (arr .u8 32 fun k => ((bytesN F k : Nat) : Int)) 26 (0, 0)) ∧ Below w.heap.size w wr)
      case atStart => exact ⟨0, rfl, rfl, (by rw [most_zero, decide_eq_false h127]; rfl), p0, p1, p3, hB5⟩
      case round =>
        clear p0 p1 p3 hB5
        obtain ⟨m, hm, rfl, rfl, p0, p1, p3, hB5⟩ := hrel
        have hm' := Lib.hid hm
        clear hm
        by_cases hlt : m < 30
        · have c1 := cell_arr p3 (m + 1) (by omega)
          have hb1 := bytesN_lt F (m + 1)
          cases hmo : mostN (bytesN F) m
          · go_wp2
            go_roundg (gk - 1)
            case measure => have := hm'.out; omega
            case rel =>
              have hm'' := hm'.out
              exact ⟨m + 1, by omega, by go_num, by rw [most_succ, hmo]; rfl, p0, p1, p3, hB5⟩
          · go_wp2
            go_roundg (gk - 1)
            case measure => have := hm'.out; omega
            case rel =>
              have hm'' := hm'.out
              exact ⟨m + 1, by omega, by go_num, by rw [most_succ, hmo, Bool.true_and, ← beq_dec], p0, p1, p3, hB5⟩
        · obtain rfl : m = 30 := by have := hm'.out; omega
          rw [not_most F hq]
          go_wp2_with (first | (refine wpList_load_arr rfl rfl rfl RTKey p1 ?_) | (go_at_call 15; fail))
          refine (Of_any k hk _).mono ?_
          rintro e w6 ⟨rfl, b6⟩
          go_wp2_with (go_at_call 12; fail)
          refine (Bytes_any (ofN k) (fun i hi => by have := ofN_ok k i hi; omega) _).mono ?_
          rintro e w7 ⟨rfl, b7⟩
          rw [if_pos (ofN_ok k)]
          have b67 := b6.trans (b7.mono b6.size)
          have r1 := keep_below b67 (lt_of_block p1) p1
          have hB7 := hB5.trans (b67.mono hB5.size)
          clear p0 p1 p3 hB5 b6 b7 b67
          go_upto_region 15 with (refine wpList_new_arr rfl rfl rfl rfl ZTKey RTKey rfl rfl ?_; intro w8 g8 b8w hs8)
          have s1 := keep_below b8w (lt_of_block r1) r1
          have hB8 := hB7.trans (b8w.mono hB7.size)
          have lA := lt_of_block r1
          clear r1 b8w hs8 hB7
          generalize w7.heap.size = BC at *
          (try simp only [Act.put, List.setIfInBounds_toArray, List.set_cons_zero, List.set_cons_succ])
          have hk31 := hk 31 (by omega)
          have c31' := cell_arr s1 31 (by omega)
          have fz := free_arr s1 31
          have u1 := blk_congr (f' := fun i => ((cutB k i : Nat) : Int)) (set_arr s1 31 (((k 31 : Nat) : Int) % 128)) (fun i _ => cut_at k i)
          have u8 := keep_arr (i := 31) (v := .int .u8 (((k 31 : Nat) : Int) % 128)) g8 (C := w.heap.size + 1) (by omega)
          have hB9 := hB8.setCell (p := ⟨w.heap.size + 1, 31, none⟩) (by show w.heap.size ≤ w.heap.size + 1; omega) (.int .u8 (((k 31 : Nat) : Int) % 128))
          go_upto_region 16 with (fail)
          (try simp only [Act.put, List.setIfInBounds_toArray, List.set_cons_zero, List.set_cons_succ])
          clear c31' fz s1 g8 hB8
          generalize w8.setCell ⟨w.heap.size + 1, 31, none⟩ (.int .u8 (((k 31 : Nat) : Int) % 128)) = w9 at *
          have d31 := cell_arr u1 31 (by omega)
          have d0 := cell_arr u1 0 (by omega)
          have hc0 := cutB_lt k hk 0 (by omega)
          have hc31 := cutB_lt k hk 31 (by omega)
          by_cases g127 : cutB k 31 = 127
          · rw [g127] at d31
            go_upto_region 17 with (fail)
            go_wp2
            go_loopg [12, 13] 30 (fun n t i wr => ∃ m : Nat, m + n = 30 ∧ i = .int .i64 ((m : Int) + 1) ∧ t = .bool (mostN (cutB k) m) ∧ wr.heap[w.heap.size + 1]? = some (.cells (arr .u8 32 fun i => ((cutB k i : Nat) : Int)) 26 (0, 0)) ∧
              wr.heap[BC]? = some (.cells (arr .u8 32 fun i => ((bytesN (ofN k) i : Nat) : Int)) 26 (0, 0)) ∧ Below w.heap.size w wr)
            case atStart => exact ⟨0, rfl, rfl, (by rw [most_zero, g127]; simp; omega), u1, u8, hB9⟩
            case round =>
              clear u1 u8 hB9
              obtain ⟨m, hm, rfl, rfl, v1, v8, hBv⟩ := hrel
              have hm' := Lib.hid hm
              clear hm
              by_cases hlt : m < 30
              · have c1 := cell_arr v1 (m + 1) (by omega)
                have hb1 := cutB_lt k hk (m + 1) (by omega)
                cases hmo : mostN (cutB k) m
                · go_wp2
                  go_roundg (gk - 1)
                  case measure => have := hm'.out; omega
                  case rel =>
                    have hm'' := hm'.out
                    exact ⟨m + 1, by omega, by go_num, by rw [most_succ, hmo]; rfl, v1, v8, hBv⟩
                · go_wp2
                  go_roundg (gk - 1)
                  case measure => have := hm'.out; omega
                  case rel =>
                    have hm'' := hm'.out
                    exact ⟨m + 1, by omega, by go_num, by rw [most_succ, hmo, Bool.true_and, ← beq_dec], v1, v8, hBv⟩
              · obtain rfl : m = 30 := by have := hm'.out; omega
                have c0 := cell_arr v1 0 (by omega)
                have hz := cutB_lt k hk 0 (by omega)
                cases hmo : mostN (cutB k) 30
                · go_wp2_with (first | (refine wpList_val_w rfl (run_op_load rfl rfl (run_loadVar_arr0 RTKey v8)) ?_) | (refine wpList_val_w rfl (run_op_load rfl rfl (run_loadVar_arr0 RTKey v1)) ?_) | (refine wpList_val_w rfl (run_op_eqArr (op := .eql) rfl ITKey rfl rfl) ?_; rw [sameTo_true (fun i hi => by rw [bytes_of k hk i hi, if_neg (by rw [hmo]; exact Bool.false_ne_true)])]))
                  go_ret
                  exact ⟨rfl, hBv⟩
                · have h237 := ((most_iff (cutB k) 30).1 hmo).1.2
                  go_upto_region 23 with (refine wpList_alloc_arr rfl rfl ZTKey ?_)
                  have bl := (alloc1 wr (.cells (arr .u8 32 fun _ => 0) 26)).2.2
                  have gN := heap_alloc_new wr (.cells (arr .u8 32 fun _ => 0) 26)
                  have x1 := keep_below bl (lt_of_block v1) v1
                  have x8 := keep_below bl (lt_of_block v8) v8
                  have hBx := hBv.trans (bl.mono hBv.size)
                  have lB := hBv.size
                  have lC := lt_of_block v8
                  clear bl v1 v8 hBv c0
                  generalize wr.alloc (.cells (arr .u8 32 fun _ => 0) 26) = w10 at *
                  generalize wr.heap.size = BN at *
                  (try simp only [Act.put, List.setIfInBounds_toArray, List.set_cons_zero, List.set_cons_succ])
                  have c0 := cell_arr x1 0 (by omega)
                  have fzN := free_arr gN 0
                  have cN := cell_arr gN 0 (by omega)
                  have v8 := keep_arr (i := 0) (v := .int .u8 (((cutB k 0 : Nat) : Int) - 237)) x8 (C := BN) (by omega)
                  have yN := blk_congr (f' := fun i => ((lessB k i : Nat) : Int)) (set_arr gN 0 (((cutB k 0 : Nat) : Int) - 237)) (fun i _ => less_at k i h237)
                  have hBy := hBx.setCell (p := ⟨BN, 0, none⟩) lB (.int .u8 (((cutB k 0 : Nat) : Int) - 237))
                  go_upto_region 24 with (fail)
                  (try simp only [Act.put, List.setIfInBounds_toArray, List.set_cons_zero, List.set_cons_succ])
                  clear x1 x8 gN hBx
                  go_wp2_with (first | (refine wpList_val_w rfl (run_op_load rfl rfl (run_loadVar_arr0 RTKey v8)) ?_) | (refine wpList_val_w rfl (run_op_load rfl rfl (run_loadVar_arr0 RTKey yN)) ?_) | (refine wpList_val_w rfl (run_op_eqArr (op := .eql) rfl ITKey rfl rfl) ?_; rw [sameTo_true (fun i hi => by rw [bytes_of k hk i hi, if_pos hmo])]))
                  go_ret
                  exact ⟨rfl, hBy⟩
          · have g127' : ((((cutB k 31 : Nat) : Int)) == 127) = false := by rw [beq_eq_false_iff_ne]; omega
            go_upto_region 17 with (fail)
            go_wp2
            go_loopg [12, 13] 30 (fun n t i wr => ∃ m : Nat, m + n = 30 ∧ i = .int .i64 ((m : Int) + 1) ∧ t = .bool (mostN (cutB k) m) ∧ wr.heap[w.heap.size + 1]? = some (.cells (arr .u8 32 fun i => ((cutB k i : Nat) : Int)) 26 (0, 0)) ∧
              wr.heap[BC]? = some (.cells (arr .u8 32 fun i => ((bytesN (ofN k) i : Nat) : Int)) 26 (0, 0)) ∧ Below w.heap.size w wr)
            case atStart => exact ⟨0, rfl, rfl, (by rw [most_zero, decide_eq_false g127]; rfl), u1, u8, hB9⟩
            case round =>
              clear u1 u8 hB9
              obtain ⟨m, hm, rfl, rfl, v1, v8, hBv⟩ := hrel
              have hm' := Lib.hid hm
              clear hm
              by_cases hlt : m < 30
              · have c1 := cell_arr v1 (m + 1) (by omega)
                have hb1 := cutB_lt k hk (m + 1) (by omega)
                cases hmo : mostN (cutB k) m
                · go_wp2
                  go_roundg (gk - 1)
                  case measure => have := hm'.out; omega
                  case rel =>
                    have hm'' := hm'.out
                    exact ⟨m + 1, by omega, by go_num, by rw [most_succ, hmo]; rfl, v1, v8, hBv⟩
                · go_wp2
                  go_roundg (gk - 1)
                  case measure => have := hm'.out; omega
                  case rel =>
                    have hm'' := hm'.out
                    exact ⟨m + 1, by omega, by go_num, by rw [most_succ, hmo, Bool.true_and, ← beq_dec], v1, v8, hBv⟩
              · obtain rfl : m = 30 := by have := hm'.out; omega
                have c0 := cell_arr v1 0 (by omega)
                have hz := cutB_lt k hk 0 (by omega)
                cases hmo : mostN (cutB k) 30
                · go_wp2_with (first | (refine wpList_val_w rfl (run_op_load rfl rfl (run_loadVar_arr0 RTKey v8)) ?_) | (refine wpList_val_w rfl (run_op_load rfl rfl (run_loadVar_arr0 RTKey v1)) ?_) | (refine wpList_val_w rfl (run_op_eqArr (op := .eql) rfl ITKey rfl rfl) ?_; rw [sameTo_true (fun i hi => by rw [bytes_of k hk i hi, if_neg (by rw [hmo]; exact Bool.false_ne_true)])]))
                  go_ret
                  exact ⟨rfl, hBv⟩
                · have h237 := ((most_iff (cutB k) 30).1 hmo).1.2
                  go_upto_region 23 with (refine wpList_alloc_arr rfl rfl ZTKey ?_)
                  have bl := (alloc1 wr (.cells (arr .u8 32 fun _ => 0) 26)).2.2
                  have gN := heap_alloc_new wr (.cells (arr .u8 32 fun _ => 0) 26)
                  have x1 := keep_below bl (lt_of_block v1) v1
                  have x8 := keep_below bl (lt_of_block v8) v8
                  have hBx := hBv.trans (bl.mono hBv.size)
                  have lB := hBv.size
                  have lC := lt_of_block v8
                  clear bl v1 v8 hBv c0
                  generalize wr.alloc (.cells (arr .u8 32 fun _ => 0) 26) = w10 at *
                  generalize wr.heap.size = BN at *
                  (try simp only [Act.put, List.setIfInBounds_toArray, List.set_cons_zero, List.set_cons_succ])
                  have c0 := cell_arr x1 0 (by omega)
                  have fzN := free_arr gN 0
                  have cN := cell_arr gN 0 (by omega)
                  have v8 := keep_arr (i := 0) (v := .int .u8 (((cutB k 0 : Nat) : Int) - 237)) x8 (C := BN) (by omega)
                  have yN := blk_congr (f' := fun i => ((lessB k i : Nat) : Int)) (set_arr gN 0 (((cutB k 0 : Nat) : Int) - 237)) (fun i _ => less_at k i h237)
                  have hBy := hBx.setCell (p := ⟨BN, 0, none⟩) lB (.int .u8 (((cutB k 0 : Nat) : Int) - 237))
                  go_upto_region 24 with (fail)
                  (try simp only [Act.put, List.setIfInBounds_toArray, List.set_cons_zero, List.set_cons_succ])
                  clear x1 x8 gN hBx
                  go_wp2_with (first | (refine wpList_val_w rfl (run_op_load rfl rfl (run_loadVar_arr0 RTKey v8)) ?_) | (refine wpList_val_w rfl (run_op_load rfl rfl (run_loadVar_arr0 RTKey yN)) ?_) | (refine wpList_val_w rfl (run_op_eqArr (op := .eql) rfl ITKey rfl rfl) ?_; rw [sameTo_true (fun i hi => by rw [bytes_of k hk i hi, if_pos hmo])]))
                  go_ret
                  exact ⟨rfl, hBy⟩
  · rw [if_neg hq]
    go_upto_region 5 with (refine wpList_new_arr rfl rfl rfl rfl ZTKey RTKey rfl rfl ?_; intro w3 g3 b3 hs3)
    have q0 := keep_below b3 (lt_of_block e0) e0
    have hB3 := hB2.trans (b3.mono hB2.size)
    clear e0 e1 b3 hB2 hs3 g3
    (try simp only [Act.put, List.setIfInBounds_toArray, List.set_cons_zero, List.set_cons_succ])
    go_wp2_with (first | (refine wpList_val_w rfl (run_op_load rfl rfl (run_loadVar_arr0 RTFe q0)) ?_) | (go_at_call 13; fail))
    refine (Check_any F hF _).mono ?_
    rintro e w4 ⟨rfl, b4⟩
    rw [if_neg hq]
    go_wp2
    go_ret
    exact ⟨rfl, hB3.trans (b4.mono hB3.size)⟩

theorem arr_nat {k : IntKind} {n : Nat} {f : Nat → Int} {b : Nat} (h : ∀ i, i < n → 0 ≤ f i ∧ f i < b) : arr k n f = arr k n fun i => (((f i).toNat : Nat) : Int) :=
  arr_ext fun i hi => by have := h i hi; omega
theorem nat_lt {n : Nat} {f : Nat → Int} {b : Nat} (h : ∀ i, i < n → 0 ≤ f i ∧ f i < b) (i : Nat) (hi : i < n) : (f i).toNat < b := by have := h i hi; omega
theorem FeBytes_any (f : Nat → Int) (hf : ∀ i, i < 5 → 0 ≤ f i ∧ f i < 18446744073709551616) (g : Nat → Int) (hg : ∀ i, i < 32 → 0 ≤ g i ∧ g i < 256) (w : World) :
    Calls Try.prog 3 #[.agg (arr .u64 5 f), .agg (arr .u8 32 g)] w fun e w' => e = .returned (.bool true) ∧ Below w.heap.size w w' := by
  rw [arr_nat (b := 18446744073709551616) hf, arr_nat (b := 256) hg]
  exact FeBytes_nat _ _ (nat_lt (b := 18446744073709551616) hf) (nat_lt (b := 256) hg) w
end Go.Proofs.Ytjabpamcpeaboaa
