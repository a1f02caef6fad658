/- The walks of layer 5: the laws' beginning. -/
import Derived.Test.YtjabpamcpeaboaaFeS
namespace Go.Proofs.Ytjabpamcpeaboaa
set_option linter.unusedSimpArgs false
set_option linter.unusedVariables false
open Go.RowKit

def k0 (i : Nat) : Nat := if i = 0 then 236 else if i = 31 then 127 else 255
def k1 (i : Nat) : Nat := if i = 0 then 235 else if i = 31 then 127 else 255
def f0 (i : Nat) : Nat := if i = 0 then 2251799813685228 else 2251799813685247
def f1 (i : Nat) : Nat := if i = 0 then 2251799813685227 else 2251799813685247
theorem all_of {p : Nat → Bool} {n : Nat} (h : (List.range n).all p = true) (i : Nat) (hi : i < n) : p i = true := List.all_eq_true.1 h i (List.mem_range.2 hi)
theorem k0_lt (i : Nat) (_ : i < 32) : k0 i < 256 := by unfold k0; split; omega; split <;> omega
theorem f0_lt (i : Nat) (_ : i < 5) : f0 i < 18446744073709551616 := by unfold f0; split <;> omega
theorem f1_lt (i : Nat) (_ : i < 5) : f1 i < 18446744073709551616 := by unfold f1; split <;> omega
theorem f0_ok : okF f0 5 ∧ okF f0 5 := ⟨fun i _ => by unfold f0; split <;> omega, fun i _ => by unfold f0; split <;> omega⟩
theorem f1_ok : okF f1 5 := fun i _ => by unfold f1; split <;> omega
theorem of_k0_ok : (List.range 5).all (fun i => decide (ofN k0 i = f0 i)) = true := by kernel_rfl
theorem of_k0 : (arr .u64 5 fun i => ((ofN k0 i : Nat) : Int)) = arr .u64 5 fun i => ((f0 i : Nat) : Int) := arr_ext fun i hi => by rw [of_decide_eq_true (all_of of_k0_ok i hi)]
theorem add_f0_ok : (List.range 5).all (fun i => decide (carN (fun i => f0 i + f0 i) i = f1 i)) = true := by kernel_rfl
theorem add_f0 : (arr .u64 5 fun i => ((addN f0 f0 i : Nat) : Int)) = arr .u64 5 fun i => ((f1 i : Nat) : Int) := arr_ext fun i hi => by unfold addN; rw [if_pos f0_ok, of_decide_eq_true (all_of add_f0_ok i hi)]
theorem least_f1_ok : (List.range 5).all (fun i => decide (leastN f1 i = f1 i)) = true := by kernel_rfl
theorem val_congr (X Y : Nat → Nat) : ∀ n, (∀ i, i < n → X i = Y i) → valN X n = valN Y n
  | 0, _ => rfl
  | n + 1, h => by rw [valN_succ, valN_succ, val_congr X Y n (fun i hi => h i (by omega)), h n (by omega)]
theorem bytes_f1_ok : (List.range 32).all (fun k => decide (byteN (valN f1 5) k = k1 k)) = true := by kernel_rfl
theorem bytes_f1 : (arr .u8 32 fun k => ((bytesN f1 k : Nat) : Int)) = arr .u8 32 fun k => ((k1 k : Nat) : Int) := arr_ext fun k hk => by
  unfold bytesN
  rw [if_pos f1_ok, val_congr (leastN f1) f1 5 (fun i hi => of_decide_eq_true (all_of least_f1_ok i hi)), of_decide_eq_true (all_of bytes_f1_ok k hk)]
theorem fill_zero (f : Nat → Int) (m i : Nat) : upd (fun i => if i < m then f i else 0) m (f m) i = if i < m + 1 then f i else 0 := fill_step (fun _ => 0) f m i
theorem k0_k1 (i : Nat) : upd (fun i => ((k0 i : Nat) : Int)) 0 235 i = ((k1 i : Nat) : Int) := by
  unfold upd k0 k1
  by_cases h : i = 0
  · rw [if_pos h, if_pos h]; rfl
  · rw [if_neg h, if_neg h]; dsimp only; rw [if_neg h]
theorem wpList_val_w {P : Program} {ops : Array Oper} {Q : Exit → Act → World → Prop} {a : Act} {w : World} {rest : List Oper} {o : Oper} {v : Value} (hw : Region.wanted o (yielded ops a.tmps) = true) (hr : (execOp a.eval o).run P w = .ok (.value v) w) (h : wpList P ops Q rest (a.put o.dst v) w) : wpList P ops Q (o :: rest) a w := by
  unfold wpList
  rw [if_pos hw]
  left
  unfold Oper.wp
  rw [hr]
  exact h
attribute [local irreducible] leastN valN byteN bytesN addN carN ofN kvN k0 k1 f0 f1

set_option maxRecDepth 100000 in
set_option maxHeartbeats 2000000 in
theorem live_any (w : World) :
    Calls Try.prog 11 #[] w fun e w' => e = .returned (.bool true) ∧ Below w.heap.size w w' := by
  go_enter Try.func11, Try.ntmps11
  obtain ⟨h0, hsz, hb⟩ := alloc1 w (.cells (arr .u8 32 fun _ => 0) 26)
  go_wp2_with (refine wpList_alloc_arr rfl rfl ZTKey ?_)
  go_loopg [7] 32 (fun n i wr => ∃ m : Nat, m + n = 32 ∧ i = .int .i64 m ∧ wr.heap[w.heap.size]? = some (.cells (arr .u8 32 fun i => if i < m then 255 else 0) 26 (0, 0)) ∧ Below w.heap.size w wr)
  case atStart => exact ⟨0, rfl, rfl, h0, hb⟩
  case round =>
    clear h0 hsz hb
    obtain ⟨m, hm, rfl, g0, hB⟩ := hrel
    have hm' := Lib.hid hm
    clear hm
    by_cases hlt : m < 32
    · have c0 := cell_arr g0 m hlt
      have fz := free_arr g0 m
      go_wp2
      go_roundg (gk - 1)
      case measure => have := hm'.out; omega
      case rel =>
        have hm'' := hm'.out
        exact ⟨m + 1, by omega, by go_num, blk_congr (set_arr g0 m _) (fun i _ => fill_zero (fun _ => 255) m i), hB.setCell (Nat.le_refl _) _⟩
    · obtain rfl : m = 32 := by have := hm'.out; omega
      have g1 := blk_congr (f' := fun _ => 255) g0 (fun i hi => if_pos hi)
      clear g0
      have c0 := cell_arr g1 0 (by omega)
      have fz := free_arr g1 0
      have g2 := set_arr g1 0 236
      have c2 := cell_arr g2 31 (by omega)
      have fz2 := free_arr g2 31
      have QK := blk_congr (f' := fun i => ((k0 i : Nat) : Int)) (set_arr g2 31 127) (fun i _ => by
        unfold upd k0
        by_cases h1 : i = 31
        · rw [if_pos h1, if_neg (by omega), if_pos h1]; rfl
        · rw [if_neg h1]
          by_cases h2 : i = 0
          · rw [if_pos h2, if_pos h2]; rfl
          · rw [if_neg h2, if_neg h2, if_neg h1]; rfl)
      have hBq := (hB.setCell (p := ⟨w.heap.size, 0, none⟩) (Nat.le_refl _) (.int .u8 236)).setCell (p := ⟨w.heap.size, 31, none⟩) (Nat.le_refl _) (.int .u8 127)
      go_upto_region 9 with (fail)
      (try simp only [Act.put, List.setIfInBounds_toArray, List.set_cons_zero, List.set_cons_succ])
      clear c0 fz g1 c2 fz2 g2 hB
      generalize (wr.setCell ⟨w.heap.size, 0, none⟩ (.int .u8 236)).setCell ⟨w.heap.size, 31, none⟩ (.int .u8 127) = wa at *
      refine wp_region_fork wa.heap.size 10 (.fork [(0, false), (2, false)] 1 (.fork [] 3 (.fork [] 4 (.done [(5, false), (6, false), (7, false), (8, true), (9, true)]) 8 (.done [(4, true), (5, false), (6, false), (7, false), (9, true)])) 8 (.done [(3, true), (4, true), (5, false), (6, false), (7, false), (9, true)])) 8 (.done [(1, true), (3, true), (4, true), (5, false), (6, false), (7, false), (9, true)])) (by kernel_rfl) (by kernel_rfl) ?_
      unfold wpTree
      try (simp only [canOps, List.getElem?_cons_zero, List.getElem?_cons_succ, List.drop_succ_cons, List.drop_zero])
      refine wpCan_load_arr rfl rfl rfl (fun _ _ _ _ h => h) RTKey (lt_of_block QK) QK ?_
      (try simp only [Act.put, List.setIfInBounds_toArray, List.set_cons_zero, List.set_cons_succ])
      refine wpCan_load_arr rfl rfl rfl (fun _ _ _ _ h => h) RTKey (lt_of_block QK) QK ?_
      (try simp only [Act.put, List.setIfInBounds_toArray, List.set_cons_zero, List.set_cons_succ])
      refine wpCan_nil ⟨?_, ?_⟩
      · try (simp only [canOps, List.getElem?_cons_zero, List.getElem?_cons_succ, List.drop_succ_cons, List.drop_zero])
        refine wpCan_e rfl (fun K hK => ?_)
        go_simp
        refine (Of_any k0 k0_lt _).mono ?_
        rintro e w11 ⟨rfl, b11⟩
        rw [of_k0]
        refine hK _ _ (Keep.of_below b11 (Nat.le_refl _)) ?_
        clear hK K
        (try simp only [Act.put, List.setIfInBounds_toArray, List.set_cons_zero, List.set_cons_succ])
        have c11 := b11
        refine wpCan_nil ?_
        unfold wpTree
        try (simp only [canOps, List.getElem?_cons_zero, List.getElem?_cons_succ, List.drop_succ_cons, List.drop_zero])
        refine wpCan_nil ⟨?_, ?_⟩
        · try (simp only [canOps, List.getElem?_cons_zero, List.getElem?_cons_succ, List.drop_succ_cons, List.drop_zero])
          refine wpCan_e rfl (fun K hK => ?_)
          go_simp
          refine (Of_any k0 k0_lt _).mono ?_
          rintro e w12 ⟨rfl, b12⟩
          rw [of_k0]
          refine hK _ _ (Keep.of_below b12 c11.size) ?_
          clear hK K
          (try simp only [Act.put, List.setIfInBounds_toArray, List.set_cons_zero, List.set_cons_succ])
          have c12 := c11.trans (b12.mono c11.size)
          refine wpCan_nil ?_
          unfold wpTree
          try (simp only [canOps, List.getElem?_cons_zero, List.getElem?_cons_succ, List.drop_succ_cons, List.drop_zero])
          refine wpCan_nil ⟨?_, ?_⟩
          · try (simp only [canOps, List.getElem?_cons_zero, List.getElem?_cons_succ, List.drop_succ_cons, List.drop_zero])
            refine wpCan_e rfl (fun K hK => ?_)
            go_simp
            refine (Add_any f0 f0 f0_lt f0_lt _).mono ?_
            rintro e w13 ⟨rfl, b13⟩
            rw [add_f0, if_pos f0_ok]
            refine hK _ _ (Keep.of_below b13 c12.size) ?_
            clear hK K
            (try simp only [Act.put, List.setIfInBounds_toArray, List.set_cons_zero, List.set_cons_succ])
            have c13 := c12.trans (b13.mono c12.size)
            refine wpCan_nil ?_
            unfold wpTree
            try (simp only [canOps, List.getElem?_cons_zero, List.getElem?_cons_succ, List.drop_succ_cons, List.drop_zero])
            iterate 3 (first | (refine wpCan_move rfl rfl (fun _ _ _ _ h => h) ?_; (simp only [Act.put, Act.eval, Array.getD_eq_getD_getElem?, List.getElem?_toArray, List.getElem?_cons_zero, List.getElem?_cons_succ, Option.getD_some, List.setIfInBounds_toArray, List.set_cons_zero, List.set_cons_succ])) | (refine wpCan_assign rfl rfl (fun _ _ _ _ h => h) ?_; (simp only [Act.put, Act.eval, Array.getD_eq_getD_getElem?, List.getElem?_toArray, List.getElem?_cons_zero, List.getElem?_cons_succ, Option.getD_some, List.setIfInBounds_toArray, List.set_cons_zero, List.set_cons_succ])) | (refine wpCan_nilCheck rfl rfl rfl (fun _ _ _ _ h => h) ?_; (simp only [Act.put, List.setIfInBounds_toArray, List.set_cons_zero, List.set_cons_succ])) | (refine wpCan_q rfl rfl (fun _ _ _ _ h => h) (by first | exact .bin rfl rfl rfl | exact .indexAddr rfl | exact .un rfl | exact .extract rfl | exact .index rfl | exact .field rfl | exact .slice rfl) (fun K hK => ?_); go_simp; (try (simp only [↓IntWalk.iteOmega]; go_simp)); (try go_bits); refine hK _ ?_; clear hK K))
            refine wpCan_alloc_arr rfl rfl ZTFe c13.size ?_
            (try simp only [Act.put, List.setIfInBounds_toArray, List.set_cons_zero, List.set_cons_succ])
            obtain ⟨gA14, hz14, bl14⟩ := alloc1 w13 (.cells (arr .u64 5 fun _ => 0) 24)
            have hNA : wa.heap.size ≤ w13.heap.size := c13.size
            have c14 := c13.trans (bl14.mono c13.size)
            obtain ⟨BA, hBA⟩ : ∃ B, B = w13.heap.size := ⟨_, rfl⟩
            rw [← hBA] at gA14 hNA ⊢
            clear hBA
            generalize w13.alloc (.cells (arr .u64 5 fun _ => 0) 24) = w14 at *
            refine wpCan_store_arr rfl rfl rfl rfl RTFe hNA gA14 ?_
            (try simp only [Act.put, List.setIfInBounds_toArray, List.set_cons_zero, List.set_cons_succ])
            refine wpCan_nil ?_
            have hlK := lt_of_block QK
            have q3 := row_self (w := w14) (c' := arr .u64 5 fun i => ((f1 i : Nat) : Int)) gA14
            have qk := row_keep (w := w14) (c' := arr .u64 5 fun i => ((f1 i : Nat) : Int)) (g := BA) (keep_below (w := wa.drew) c14 hlK QK) (Nat.ne_of_lt (Nat.lt_of_lt_of_le hlK hNA))
            have hBr := row_below (hBq.drew.trans (c14.mono hBq.size)) (g := BA) (Nat.le_trans hBq.size hNA) (arr .u64 5 fun i => ((f1 i : Nat) : Int))
            generalize w14.setRow BA (arr .u64 5 fun i => ((f1 i : Nat) : Int)) = wr1 at *
            clear QK hBq hlK
            go_upto_region 10 with (fail)
            (try simp only [Act.put, List.setIfInBounds_toArray, List.set_cons_zero, List.set_cons_succ])
            go_wp2_with (first | (refine wpList_load_arr rfl rfl rfl RTFe q3 ?_) | (go_at_call 12; fail))
            refine (Bytes_any f1 f1_lt _).mono ?_
            rintro e w7 ⟨rfl, b7⟩
            rw [bytes_f1, if_pos f1_ok]
            have q4 := keep_below b7 (lt_of_block qk) qk
            have hB7 := hBr.trans (b7.mono hBr.size)
            go_upto_region 11 with (refine wpList_new_arr rfl rfl rfl rfl ZTKey RTKey rfl rfl ?_; intro w8 g8 b8w hs8)
            have q5 := keep_below b8w (lt_of_block q4) q4
            have hB8 := hB7.trans (b8w.mono hB7.size)
            have l4 := lt_of_block q4
            clear b7 b8w hs8 q4 hB7 q3 qk hBr
            (try simp only [Act.put, List.setIfInBounds_toArray, List.set_cons_zero, List.set_cons_succ])
            have c0 := cell_arr q5 0 (by omega)
            have fz := free_arr q5 0
            have q6 := blk_congr (f' := fun i => ((k1 i : Nat) : Int)) (set_arr q5 0 235) (fun i _ => k0_k1 i)
            have q7 := keep_arr (i := 0) (v := .int .u8 235) g8 (C := w.heap.size) (Nat.ne_of_gt l4)
            go_wp2_with (first | (refine wpList_val_w rfl (run_op_load rfl rfl (run_loadVar_arr0 RTKey q6)) ?_) | (refine wpList_val_w rfl (run_op_load rfl rfl (run_loadVar_arr0 RTKey q7)) ?_) | (refine wpList_val_w rfl (run_op_eqArr (op := .eql) rfl ITKey rfl rfl) ?_; rw [sameTo_true (fun _ _ => rfl)]))
            go_ret
            exact ⟨rfl, hB8.setCell (p := ⟨w.heap.size, 0, none⟩) (Nat.le_refl _) _⟩
          · try (simp only [canOps, List.getElem?_cons_zero, List.getElem?_cons_succ, List.drop_succ_cons, List.drop_zero])
            refine wpCan_alloc_arr rfl rfl ZTFe c12.size ?_
            (try simp only [Act.put, List.setIfInBounds_toArray, List.set_cons_zero, List.set_cons_succ])
            obtain ⟨gA16, hz16, bl16⟩ := alloc1 w12 (.cells (arr .u64 5 fun _ => 0) 24)
            have hNA : wa.heap.size ≤ w12.heap.size := c12.size
            have c16 := c12.trans (bl16.mono c12.size)
            obtain ⟨BA, hBA⟩ : ∃ B, B = w12.heap.size := ⟨_, rfl⟩
            rw [← hBA] at gA16 hNA ⊢
            clear hBA
            generalize w12.alloc (.cells (arr .u64 5 fun _ => 0) 24) = w16 at *
            refine wpCan_nil ?_
            unfold wpTree
            try (simp only [canOps, List.getElem?_cons_zero, List.getElem?_cons_succ, List.drop_succ_cons, List.drop_zero])
            refine wpCan_e rfl (fun K hK => ?_)
            go_simp
            refine (Add_any f0 f0 f0_lt f0_lt _).mono ?_
            rintro e w18 ⟨rfl, b18⟩
            rw [add_f0, if_pos f0_ok]
            refine hK _ _ (Keep.of_below b18 c16.size) ?_
            clear hK K
            (try simp only [Act.put, List.setIfInBounds_toArray, List.set_cons_zero, List.set_cons_succ])
            have gA18 := keep_below b18 (lt_of_block gA16) gA16
            have c18 := c16.trans (b18.mono c16.size)
            iterate 3 (first | (refine wpCan_move rfl rfl (fun _ _ _ _ h => h) ?_; (simp only [Act.put, Act.eval, Array.getD_eq_getD_getElem?, List.getElem?_toArray, List.getElem?_cons_zero, List.getElem?_cons_succ, Option.getD_some, List.setIfInBounds_toArray, List.set_cons_zero, List.set_cons_succ])) | (refine wpCan_assign rfl rfl (fun _ _ _ _ h => h) ?_; (simp only [Act.put, Act.eval, Array.getD_eq_getD_getElem?, List.getElem?_toArray, List.getElem?_cons_zero, List.getElem?_cons_succ, Option.getD_some, List.setIfInBounds_toArray, List.set_cons_zero, List.set_cons_succ])) | (refine wpCan_nilCheck rfl rfl rfl (fun _ _ _ _ h => h) ?_; (simp only [Act.put, List.setIfInBounds_toArray, List.set_cons_zero, List.set_cons_succ])) | (refine wpCan_q rfl rfl (fun _ _ _ _ h => h) (by first | exact .bin rfl rfl rfl | exact .indexAddr rfl | exact .un rfl | exact .extract rfl | exact .index rfl | exact .field rfl | exact .slice rfl) (fun K hK => ?_); go_simp; (try (simp only [↓IntWalk.iteOmega]; go_simp)); (try go_bits); refine hK _ ?_; clear hK K))
            refine wpCan_store_arr rfl rfl rfl rfl RTFe hNA gA18 ?_
            (try simp only [Act.put, List.setIfInBounds_toArray, List.set_cons_zero, List.set_cons_succ])
            refine wpCan_nil ?_
            have hlK := lt_of_block QK
            have q3 := row_self (w := w18) (c' := arr .u64 5 fun i => ((f1 i : Nat) : Int)) gA18
            have qk := row_keep (w := w18) (c' := arr .u64 5 fun i => ((f1 i : Nat) : Int)) (g := BA) (keep_below (w := wa.drew) c18 hlK QK) (Nat.ne_of_lt (Nat.lt_of_lt_of_le hlK hNA))
            have hBr := row_below (hBq.drew.trans (c18.mono hBq.size)) (g := BA) (Nat.le_trans hBq.size hNA) (arr .u64 5 fun i => ((f1 i : Nat) : Int))
            generalize w18.setRow BA (arr .u64 5 fun i => ((f1 i : Nat) : Int)) = wr1 at *
            clear QK hBq hlK
            go_upto_region 10 with (fail)
            (try simp only [Act.put, List.setIfInBounds_toArray, List.set_cons_zero, List.set_cons_succ])
            go_wp2_with (first | (refine wpList_load_arr rfl rfl rfl RTFe q3 ?_) | (go_at_call 12; fail))
            refine (Bytes_any f1 f1_lt _).mono ?_
            rintro e w7 ⟨rfl, b7⟩
            rw [bytes_f1, if_pos f1_ok]
            have q4 := keep_below b7 (lt_of_block qk) qk
            have hB7 := hBr.trans (b7.mono hBr.size)
            go_upto_region 11 with (refine wpList_new_arr rfl rfl rfl rfl ZTKey RTKey rfl rfl ?_; intro w8 g8 b8w hs8)
            have q5 := keep_below b8w (lt_of_block q4) q4
            have hB8 := hB7.trans (b8w.mono hB7.size)
            have l4 := lt_of_block q4
            clear b7 b8w hs8 q4 hB7 q3 qk hBr
            (try simp only [Act.put, List.setIfInBounds_toArray, List.set_cons_zero, List.set_cons_succ])
            have c0 := cell_arr q5 0 (by omega)
            have fz := free_arr q5 0
            have q6 := blk_congr (f' := fun i => ((k1 i : Nat) : Int)) (set_arr q5 0 235) (fun i _ => k0_k1 i)
            have q7 := keep_arr (i := 0) (v := .int .u8 235) g8 (C := w.heap.size) (Nat.ne_of_gt l4)
            go_wp2_with (first | (refine wpList_val_w rfl (run_op_load rfl rfl (run_loadVar_arr0 RTKey q6)) ?_) | (refine wpList_val_w rfl (run_op_load rfl rfl (run_loadVar_arr0 RTKey q7)) ?_) | (refine wpList_val_w rfl (run_op_eqArr (op := .eql) rfl ITKey rfl rfl) ?_; rw [sameTo_true (fun _ _ => rfl)]))
            go_ret
            exact ⟨rfl, hB8.setCell (p := ⟨w.heap.size, 0, none⟩) (Nat.le_refl _) _⟩
        · try (simp only [canOps, List.getElem?_cons_zero, List.getElem?_cons_succ, List.drop_succ_cons, List.drop_zero])
          refine wpCan_alloc_arr rfl rfl ZTFe c11.size ?_
          (try simp only [Act.put, List.setIfInBounds_toArray, List.set_cons_zero, List.set_cons_succ])
          obtain ⟨gA21, hz21, bl21⟩ := alloc1 w11 (.cells (arr .u64 5 fun _ => 0) 24)
          have hNA : wa.heap.size ≤ w11.heap.size := c11.size
          have c21 := c11.trans (bl21.mono c11.size)
          obtain ⟨BA, hBA⟩ : ∃ B, B = w11.heap.size := ⟨_, rfl⟩
          rw [← hBA] at gA21 hNA ⊢
          clear hBA
          generalize w11.alloc (.cells (arr .u64 5 fun _ => 0) 24) = w21 at *
          refine wpCan_nil ?_
          unfold wpTree
          try (simp only [canOps, List.getElem?_cons_zero, List.getElem?_cons_succ, List.drop_succ_cons, List.drop_zero])
          refine wpCan_e rfl (fun K hK => ?_)
          go_simp
          refine (Of_any k0 k0_lt _).mono ?_
          rintro e w23 ⟨rfl, b23⟩
          rw [of_k0]
          refine hK _ _ (Keep.of_below b23 c21.size) ?_
          clear hK K
          (try simp only [Act.put, List.setIfInBounds_toArray, List.set_cons_zero, List.set_cons_succ])
          have gA23 := keep_below b23 (lt_of_block gA21) gA21
          have c23 := c21.trans (b23.mono c21.size)
          refine wpCan_e rfl (fun K hK => ?_)
          go_simp
          refine (Add_any f0 f0 f0_lt f0_lt _).mono ?_
          rintro e w24 ⟨rfl, b24⟩
          rw [add_f0, if_pos f0_ok]
          refine hK _ _ (Keep.of_below b24 c23.size) ?_
          clear hK K
          (try simp only [Act.put, List.setIfInBounds_toArray, List.set_cons_zero, List.set_cons_succ])
          have gA24 := keep_below b24 (lt_of_block gA23) gA23
          have c24 := c23.trans (b24.mono c23.size)
          iterate 3 (first | (refine wpCan_move rfl rfl (fun _ _ _ _ h => h) ?_; (simp only [Act.put, Act.eval, Array.getD_eq_getD_getElem?, List.getElem?_toArray, List.getElem?_cons_zero, List.getElem?_cons_succ, Option.getD_some, List.setIfInBounds_toArray, List.set_cons_zero, List.set_cons_succ])) | (refine wpCan_assign rfl rfl (fun _ _ _ _ h => h) ?_; (simp only [Act.put, Act.eval, Array.getD_eq_getD_getElem?, List.getElem?_toArray, List.getElem?_cons_zero, List.getElem?_cons_succ, Option.getD_some, List.setIfInBounds_toArray, List.set_cons_zero, List.set_cons_succ])) | (refine wpCan_nilCheck rfl rfl rfl (fun _ _ _ _ h => h) ?_; (simp only [Act.put, List.setIfInBounds_toArray, List.set_cons_zero, List.set_cons_succ])) | (refine wpCan_q rfl rfl (fun _ _ _ _ h => h) (by first | exact .bin rfl rfl rfl | exact .indexAddr rfl | exact .un rfl | exact .extract rfl | exact .index rfl | exact .field rfl | exact .slice rfl) (fun K hK => ?_); go_simp; (try (simp only [↓IntWalk.iteOmega]; go_simp)); (try go_bits); refine hK _ ?_; clear hK K))
          refine wpCan_store_arr rfl rfl rfl rfl RTFe hNA gA24 ?_
          (try simp only [Act.put, List.setIfInBounds_toArray, List.set_cons_zero, List.set_cons_succ])
          refine wpCan_nil ?_
          have hlK := lt_of_block QK
          have q3 := row_self (w := w24) (c' := arr .u64 5 fun i => ((f1 i : Nat) : Int)) gA24
          have qk := row_keep (w := w24) (c' := arr .u64 5 fun i => ((f1 i : Nat) : Int)) (g := BA) (keep_below (w := wa.drew) c24 hlK QK) (Nat.ne_of_lt (Nat.lt_of_lt_of_le hlK hNA))
          have hBr := row_below (hBq.drew.trans (c24.mono hBq.size)) (g := BA) (Nat.le_trans hBq.size hNA) (arr .u64 5 fun i => ((f1 i : Nat) : Int))
          generalize w24.setRow BA (arr .u64 5 fun i => ((f1 i : Nat) : Int)) = wr1 at *
          clear QK hBq hlK
          go_upto_region 10 with (fail)
          (try simp only [Act.put, List.setIfInBounds_toArray, List.set_cons_zero, List.set_cons_succ])
          go_wp2_with (first | (refine wpList_load_arr rfl rfl rfl RTFe q3 ?_) | (go_at_call 12; fail))
          refine (Bytes_any f1 f1_lt _).mono ?_
          rintro e w7 ⟨rfl, b7⟩
          rw [bytes_f1, if_pos f1_ok]
          have q4 := keep_below b7 (lt_of_block qk) qk
          have hB7 := hBr.trans (b7.mono hBr.size)
          go_upto_region 11 with (refine wpList_new_arr rfl rfl rfl rfl ZTKey RTKey rfl rfl ?_; intro w8 g8 b8w hs8)
          have q5 := keep_below b8w (lt_of_block q4) q4
          have hB8 := hB7.trans (b8w.mono hB7.size)
          have l4 := lt_of_block q4
          clear b7 b8w hs8 q4 hB7 q3 qk hBr
          (try simp only [Act.put, List.setIfInBounds_toArray, List.set_cons_zero, List.set_cons_succ])
          have c0 := cell_arr q5 0 (by omega)
          have fz := free_arr q5 0
          have q6 := blk_congr (f' := fun i => ((k1 i : Nat) : Int)) (set_arr q5 0 235) (fun i _ => k0_k1 i)
          have q7 := keep_arr (i := 0) (v := .int .u8 235) g8 (C := w.heap.size) (Nat.ne_of_gt l4)
          go_wp2_with (first | (refine wpList_val_w rfl (run_op_load rfl rfl (run_loadVar_arr0 RTKey q6)) ?_) | (refine wpList_val_w rfl (run_op_load rfl rfl (run_loadVar_arr0 RTKey q7)) ?_) | (refine wpList_val_w rfl (run_op_eqArr (op := .eql) rfl ITKey rfl rfl) ?_; rw [sameTo_true (fun _ _ => rfl)]))
          go_ret
          exact ⟨rfl, hB8.setCell (p := ⟨w.heap.size, 0, none⟩) (Nat.le_refl _) _⟩
      · try (simp only [canOps, List.getElem?_cons_zero, List.getElem?_cons_succ, List.drop_succ_cons, List.drop_zero])
        refine wpCan_alloc_arr rfl rfl ZTFe (Nat.le_refl _) ?_
        (try simp only [Act.put, List.setIfInBounds_toArray, List.set_cons_zero, List.set_cons_succ])
        obtain ⟨gA27, hz27, bl27⟩ := alloc1 wa.drew (.cells (arr .u64 5 fun _ => 0) 24)
        have hNA : wa.heap.size ≤ wa.drew.heap.size := (Nat.le_refl _)
        have c27 := bl27
        obtain ⟨BA, hBA⟩ : ∃ B, B = wa.drew.heap.size := ⟨_, rfl⟩
        rw [← hBA] at gA27 hNA ⊢
        clear hBA
        generalize wa.drew.alloc (.cells (arr .u64 5 fun _ => 0) 24) = w27 at *
        refine wpCan_nil ?_
        unfold wpTree
        try (simp only [canOps, List.getElem?_cons_zero, List.getElem?_cons_succ, List.drop_succ_cons, List.drop_zero])
        refine wpCan_e rfl (fun K hK => ?_)
        go_simp
        refine (Of_any k0 k0_lt _).mono ?_
        rintro e w29 ⟨rfl, b29⟩
        rw [of_k0]
        refine hK _ _ (Keep.of_below b29 c27.size) ?_
        clear hK K
        (try simp only [Act.put, List.setIfInBounds_toArray, List.set_cons_zero, List.set_cons_succ])
        have gA29 := keep_below b29 (lt_of_block gA27) gA27
        have c29 := c27.trans (b29.mono c27.size)
        refine wpCan_e rfl (fun K hK => ?_)
        go_simp
        refine (Of_any k0 k0_lt _).mono ?_
        rintro e w30 ⟨rfl, b30⟩
        rw [of_k0]
        refine hK _ _ (Keep.of_below b30 c29.size) ?_
        clear hK K
        (try simp only [Act.put, List.setIfInBounds_toArray, List.set_cons_zero, List.set_cons_succ])
        have gA30 := keep_below b30 (lt_of_block gA29) gA29
        have c30 := c29.trans (b30.mono c29.size)
        refine wpCan_e rfl (fun K hK => ?_)
        go_simp
        refine (Add_any f0 f0 f0_lt f0_lt _).mono ?_
        rintro e w31 ⟨rfl, b31⟩
        rw [add_f0, if_pos f0_ok]
        refine hK _ _ (Keep.of_below b31 c30.size) ?_
        clear hK K
        (try simp only [Act.put, List.setIfInBounds_toArray, List.set_cons_zero, List.set_cons_succ])
        have gA31 := keep_below b31 (lt_of_block gA30) gA30
        have c31 := c30.trans (b31.mono c30.size)
        iterate 3 (first | (refine wpCan_move rfl rfl (fun _ _ _ _ h => h) ?_; (simp only [Act.put, Act.eval, Array.getD_eq_getD_getElem?, List.getElem?_toArray, List.getElem?_cons_zero, List.getElem?_cons_succ, Option.getD_some, List.setIfInBounds_toArray, List.set_cons_zero, List.set_cons_succ])) | (refine wpCan_assign rfl rfl (fun _ _ _ _ h => h) ?_; (simp only [Act.put, Act.eval, Array.getD_eq_getD_getElem?, List.getElem?_toArray, List.getElem?_cons_zero, List.getElem?_cons_succ, Option.getD_some, List.setIfInBounds_toArray, List.set_cons_zero, List.set_cons_succ])) | (refine wpCan_nilCheck rfl rfl rfl (fun _ _ _ _ h => h) ?_; (simp only [Act.put, List.setIfInBounds_toArray, List.set_cons_zero, List.set_cons_succ])) | (refine wpCan_q rfl rfl (fun _ _ _ _ h => h) (by first | exact .bin rfl rfl rfl | exact .indexAddr rfl | exact .un rfl | exact .extract rfl | exact .index rfl | exact .field rfl | exact .slice rfl) (fun K hK => ?_); go_simp; (try (simp only [↓IntWalk.iteOmega]; go_simp)); (try go_bits); refine hK _ ?_; clear hK K))
        refine wpCan_store_arr rfl rfl rfl rfl RTFe hNA gA31 ?_
        (try simp only [Act.put, List.setIfInBounds_toArray, List.set_cons_zero, List.set_cons_succ])
        refine wpCan_nil ?_
        have hlK := lt_of_block QK
        have q3 := row_self (w := w31) (c' := arr .u64 5 fun i => ((f1 i : Nat) : Int)) gA31
        have qk := row_keep (w := w31) (c' := arr .u64 5 fun i => ((f1 i : Nat) : Int)) (g := BA) (keep_below (w := wa.drew) c31 hlK QK) (Nat.ne_of_lt (Nat.lt_of_lt_of_le hlK hNA))
        have hBr := row_below (hBq.drew.trans (c31.mono hBq.size)) (g := BA) (Nat.le_trans hBq.size hNA) (arr .u64 5 fun i => ((f1 i : Nat) : Int))
        generalize w31.setRow BA (arr .u64 5 fun i => ((f1 i : Nat) : Int)) = wr1 at *
        clear QK hBq hlK
        go_upto_region 10 with (fail)
        (try simp only [Act.put, List.setIfInBounds_toArray, List.set_cons_zero, List.set_cons_succ])
        go_wp2_with (first | (refine wpList_load_arr rfl rfl rfl RTFe q3 ?_) | (go_at_call 12; fail))
        refine (Bytes_any f1 f1_lt _).mono ?_
        rintro e w7 ⟨rfl, b7⟩
        rw [bytes_f1, if_pos f1_ok]
        have q4 := keep_below b7 (lt_of_block qk) qk
        have hB7 := hBr.trans (b7.mono hBr.size)
        go_upto_region 11 with (refine wpList_new_arr rfl rfl rfl rfl ZTKey RTKey rfl rfl ?_; intro w8 g8 b8w hs8)
        have q5 := keep_below b8w (lt_of_block q4) q4
        have hB8 := hB7.trans (b8w.mono hB7.size)
        have l4 := lt_of_block q4
        clear b7 b8w hs8 q4 hB7 q3 qk hBr
        (try simp only [Act.put, List.setIfInBounds_toArray, List.set_cons_zero, List.set_cons_succ])
        have c0 := cell_arr q5 0 (by omega)
        have fz := free_arr q5 0
        have q6 := blk_congr (f' := fun i => ((k1 i : Nat) : Int)) (set_arr q5 0 235) (fun i _ => k0_k1 i)
        have q7 := keep_arr (i := 0) (v := .int .u8 235) g8 (C := w.heap.size) (Nat.ne_of_gt l4)
        go_wp2_with (first | (refine wpList_val_w rfl (run_op_load rfl rfl (run_loadVar_arr0 RTKey q6)) ?_) | (refine wpList_val_w rfl (run_op_load rfl rfl (run_loadVar_arr0 RTKey q7)) ?_) | (refine wpList_val_w rfl (run_op_eqArr (op := .eql) rfl ITKey rfl rfl) ?_; rw [sameTo_true (fun _ _ => rfl)]))
        go_ret
        exact ⟨rfl, hB8.setCell (p := ⟨w.heap.size, 0, none⟩) (Nat.le_refl _) _⟩
end Go.Proofs.Ytjabpamcpeaboaa
