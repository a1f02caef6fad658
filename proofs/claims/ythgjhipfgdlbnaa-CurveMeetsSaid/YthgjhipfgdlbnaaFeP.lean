/- The walks of layer 5: bytes told, and sums. -/
import Derived.Test.YthgjhipfgdlbnaaFeO
import Derived.Test.YthgjhipfgdlbnaaTree
import Derived.Test.YthgjhipfgdlbnaaEq
namespace Go.Proofs.Ythgjhipfgdlbnaa
set_option linter.unusedSimpArgs false
set_option linter.unusedVariables false
open Go.RowKit

/-- A row, and a value, that are handed back. -/
theorem results_arr_tmp {P : Program} {w : World} {fn : Func} {p q : Tmp} {ty : TypeId} {n t g : Nat} {k : IntKind} {f : Nat → Int} {fr : Nat × Nat} {v : Value} (h : fn.results = #[.cell p ty, .tmp q]) {tmps : Array Value} (hp : tmps.getD p undef = .pointer (some ⟨g, 0, none⟩)) (hq : tmps.getD q undef = v)
    (hT : RowT P ty n) (hg : w.heap[g]? = some (.cells (arr k n f) t fr)) : (results fn tmps).run P w = .ok (.tuple #[.agg (arr k n f), v]) w := by
  have hp' : tmps[p]?.getD undef = .pointer (some ⟨g, 0, none⟩) := by simpa using hp
  have hq' : tmps[q]?.getD undef = v := by simpa using hq
  simp [results, h, hp', hq', asAddr, run_loadVar_arr0 hT hg]
theorem built_key : Try.prog.built 23 [] = some (arr .u8 32 fun _ => 0) := by kernel_rfl
theorem built_fe : Try.prog.built 34 [] = some (arr .u64 5 fun _ => 0) := by kernel_rfl
attribute [local irreducible] leastN valN byteN
/-- What a number's bytes are told to be. -/
def bytesN (F : Nat → Nat) (k : Nat) : Nat := if okF F 5 then byteN (valN (leastN F) 5) k else 0
theorem okF_wide {F : Nat → Nat} (h : okF F 5) (i : Nat) (hi : i < 5) : F i < 9223372036854775808 := by have := h i hi; omega

set_option maxRecDepth 100000 in
set_option maxHeartbeats 1000000 in
theorem Bytes_any (F : Nat → Nat) (hF : ∀ i, i < 5 → F i < 18446744073709551616) (w : World) :
    Calls Try.prog 13 #[.agg (arr .u64 5 fun i => ((F i : Nat) : Int))] w fun e w' => e = .returned (.tuple #[.agg (arr .u8 32 fun k => ((bytesN F k : Nat) : Int)), .int .i64 (if okF F 5 then 0 else 1)]) ∧ Below w.heap.size w w' := by
  go_enter Try.func13, Try.ntmps13
  obtain ⟨h0, h1, hsz, hb⟩ := alloc2 w (.cells (arr .u64 5 fun i => ((F i : Nat) : Int)) 34) (.cells (arr .u8 32 fun _ => 0) 23)
  go_upto_region 1 with (refine wpList_alloc_arr rfl rfl ZTKey ?_)
  generalize (w.alloc (.cells (arr .u64 5 fun i => ((F i : Nat) : Int)) 34)).alloc (.cells (arr .u8 32 fun _ => 0) 23) = wa at *
  (try simp only [Act.put, List.setIfInBounds_toArray, List.set_cons_zero, List.set_cons_succ])
  obtain ⟨g2, hz2, bl⟩ := alloc1 wa (.cells (arr .u64 5 fun i => ((F i : Nat) : Int)) 34)
  rw [hsz] at g2
  go_wp2_with (first | (refine wpList_load_arr rfl rfl rfl RTFe h0 ?_) | (refine wpList_bslice rfl rfl Try.underlying68 (by simp [Act.eval, Act.put]) (built_one fun i => ((F i : Nat) : Int)) ?_) | (go_at_call 31; fail))
  refine (may_any 1 5 rfl (by omega) F hF _ _ _ g2).mono ?_
  rintro e w2 ⟨rfl, b2⟩
  have b3 := bl.trans (b2.mono (by omega))
  have q0 := keep_below b3 (by omega) h0
  have q1 := keep_below b3 (by omega) h1
  have hB := hb.trans (b3.mono (by omega))
  clear b2 b3 bl g2 h0 h1 hb hz2 hsz
  by_cases hq : okF F 5
  · rw [show decide (okF F 5) = true from decide_eq_true hq]
    go_wp2_with (first | (refine wpList_load_arr rfl rfl rfl RTFe q0 ?_) | (go_at_call 32; fail))
    refine (bytes_any F (fun i hi => okF_wide hq i hi) _).mono ?_
    rintro e w4 ⟨rfl, b4⟩
    have e1 := keep_below b4 (lt_of_block q1) q1
    have hBe := hB.trans (b4.mono hB.size)
    go_wp2_with (refine wpList_store_arr rfl rfl rfl rfl RTKey e1 ?_)
    refine bodyPost_ret (results_arr_tmp rfl rfl rfl RTKey (row_self e1)) rfl ⟨?_, row_below hBe (by omega) _⟩
    rw [show (arr .u8 32 fun k => ((bytesN F k : Nat) : Int)) = arr .u8 32 fun k => ((byteN (valN (leastN F) 5) k : Nat) : Int) from arr_ext fun k _ => by unfold bytesN; rw [if_pos hq]]
    first | rfl | (rw [if_pos hq]; rfl)
  · rw [show decide (okF F 5) = false from decide_eq_false hq]
    go_wp2_with (first | (refine wpList_val' rfl (run_op_build rfl (by simp [Act.eval, Act.put]) built_key) ?_) | (refine wpList_store_arr rfl rfl rfl rfl RTKey q1 ?_))
    refine bodyPost_ret (results_arr_tmp rfl rfl rfl RTKey (row_self q1)) rfl ⟨?_, row_below hB (by omega) _⟩
    rw [show (arr .u8 32 fun k => ((bytesN F k : Nat) : Int)) = arr .u8 32 fun _ => 0 from arr_ext fun k _ => by unfold bytesN; rw [if_neg hq]; rfl]
    first | rfl | (rw [if_neg hq]; rfl)

/-- What two numbers' sum is told to be. -/
def addN (F G : Nat → Nat) (i : Nat) : Nat := if okF F 5 ∧ okF G 5 then carN (fun i => F i + G i) i else 0
set_option maxRecDepth 100000 in
set_option maxHeartbeats 1000000 in
theorem Add_any (F G : Nat → Nat) (hF : ∀ i, i < 5 → F i < 18446744073709551616) (hG : ∀ i, i < 5 → G i < 18446744073709551616) (w : World) :
    Calls Try.prog 33 #[.agg (arr .u64 5 fun i => ((F i : Nat) : Int)), .agg (arr .u64 5 fun i => ((G i : Nat) : Int))] w fun e w' => e = .returned (.tuple #[.agg (arr .u64 5 fun k => ((addN F G k : Nat) : Int)), .int .i64 (if okF F 5 ∧ okF G 5 then 0 else 1)]) ∧ Below w.heap.size w w' := by
  go_enter Try.func33, Try.ntmps33
  obtain ⟨h0, h1, h2, hsz, hb⟩ := alloc3 w (.cells (arr .u64 5 fun i => ((F i : Nat) : Int)) 34) (.cells (arr .u64 5 fun i => ((G i : Nat) : Int)) 34) (.cells (arr .u64 5 fun _ => 0) 34)
  go_upto_region 1 with (refine wpList_alloc_arr rfl rfl ZTFe ?_)
  generalize ((w.alloc (.cells (arr .u64 5 fun i => ((F i : Nat) : Int)) 34)).alloc (.cells (arr .u64 5 fun i => ((G i : Nat) : Int)) 34)).alloc (.cells (arr .u64 5 fun _ => 0) 34) = wa at *
  (try simp only [Act.put, List.setIfInBounds_toArray, List.set_cons_zero, List.set_cons_succ])
  obtain ⟨g3, hz2, bl⟩ := alloc1 wa (.cells (arr .u64 10 fun i => ((two5 F G i : Nat) : Int)) 34)
  rw [hsz] at g3
  go_wp2_with (first | (refine wpList_load_arr rfl rfl rfl RTFe h0 ?_) | (refine wpList_load_arr rfl rfl rfl RTFe h1 ?_) | (refine wpList_bslice rfl rfl Try.underlying68 (by simp [Act.eval, Act.put]) (built_two F G) ?_) | (go_at_call 31; fail))
  refine (may_any 2 10 rfl (by omega) (two5 F G) (fun i hi => two5_lt F G _ hF hG i hi) _ _ _ g3).mono ?_
  rintro e w2 ⟨rfl, b2⟩
  have b3 := bl.trans (b2.mono (by omega))
  have q0 := keep_below b3 (by omega) h0
  have q1 := keep_below b3 (by omega) h1
  have q2 := keep_below b3 (by omega) h2
  have hB := hb.trans (b3.mono (by omega))
  clear b2 b3 bl g3 h0 h1 h2 hb hz2 hsz
  by_cases hq : okF F 5 ∧ okF G 5
  · rw [show decide (okF (two5 F G) 10) = true from decide_eq_true ((two5_ok F G).2 hq)]
    have hq' := Lib.hid hq
    go_wp2
    go_loopg [13] 5 (fun n i wr => ∃ m : Nat, m + n = 5 ∧ i = .int .i64 m ∧ wr.heap[w.heap.size]? = some (.cells (arr .u64 5 fun i => ((if i < m then F i + G i else F i : Nat) : Int)) 34 (0, 0)) ∧
      wr.heap[w.heap.size + 1]? = some (.cells (arr .u64 5 fun i => ((G i : Nat) : Int)) 34 (0, 0)) ∧ wr.heap[w.heap.size + 1 + 1]? = some (.cells (arr .u64 5 fun _ => 0) 34 (0, 0)) ∧ Below w.heap.size w wr)
    case atStart => exact ⟨0, rfl, rfl, blk_congr q0 (fun i _ => by rw [if_neg (Nat.not_lt_zero i)]), q1, q2, hB⟩
    case round =>
      clear q0 q1 q2 hB
      obtain ⟨m, hm, rfl, q0, q1, q2, hB⟩ := hrel
      have hm' := Lib.hid hm
      clear hm
      by_cases hlt : m < 5
      · have f1 := hq'.out.1 m hlt
        have f2 := hq'.out.2 m hlt
        have c0 := cell_arr q0 m hlt
        have c1 := cell_arr q1 m hlt
        have fz := free_arr q0 m
        simp only [Nat.lt_irrefl, if_false] at c0
        go_wp2
        refine wp_region_tail 8 (by kernel_rfl) (by kernel_rfl) ?_
        (simp only [List.take_succ_cons, List.take_zero, List.drop_succ_cons, List.drop_zero])
        repeat (refine wpStill_step (fun K hK => ?_); go_simp; (try (simp only [↓IntWalk.iteOmega]; go_simp)); (try go_bits); refine hK _ ?_; clear hK K)
        refine wpStill_nil ?_
        go_wp2
        go_roundg (gk - 1)
        case measure => have := hm'.out; omega
        case rel =>
          have hm'' := hm'.out
          refine ⟨m + 1, by omega, by go_num, blk_congr (set_arr q0 m _) (fun i _ => ?_), keep_arr q1 _ _ (by omega), keep_arr q2 _ _ (by omega), (hB.setCell (Nat.le_refl _) _).drew⟩
          unfold upd
          by_cases h : i = m
          · rw [if_pos h, h, if_pos (by omega)]; rfl
          · rw [if_neg h]
            dsimp only
            by_cases h2 : i < m
            · rw [if_pos h2, if_pos (by omega)]
            · rw [if_neg h2, if_neg (by omega)]
      · obtain rfl : m = 5 := by have := hm'.out; omega
        have p0 := blk_congr (f' := fun i => ((F i + G i : Nat) : Int)) q0 (fun i hi => by rw [if_pos hi])
        clear q0
        go_wp2_with (first | (refine wpList_load_arr rfl rfl rfl RTFe p0 ?_) | (go_at_call 47; fail))
        refine (carry_any (fun i => F i + G i) (fun i hi => by have := hq'.out.1 i hi; have := hq'.out.2 i hi; show F i + G i < _; omega) _).mono ?_
        rintro e w4 ⟨rfl, b4⟩
        have e2 := keep_below b4 (lt_of_block q2) q2
        have hBe := hB.trans (b4.mono hB.size)
        go_wp2_with (refine wpList_store_arr rfl rfl rfl rfl RTFe e2 ?_)
        refine bodyPost_ret (results_arr_tmp rfl rfl rfl RTFe (row_self e2)) rfl ⟨?_, row_below hBe (by omega) _⟩
        rw [show (arr .u64 5 fun k => ((addN F G k : Nat) : Int)) = arr .u64 5 fun k => ((carN (fun i => F i + G i) k : Nat) : Int) from arr_ext fun k _ => by unfold addN; rw [if_pos hq'.out]]
        first | rfl | (rw [if_pos hq'.out]; rfl)
  · rw [show decide (okF (two5 F G) 10) = false from decide_eq_false fun h => hq ((two5_ok F G).1 h)]
    go_wp2_with (first | (refine wpList_val' rfl (run_op_build rfl (by simp [Act.eval, Act.put]) built_fe) ?_) | (refine wpList_store_arr rfl rfl rfl rfl RTFe q2 ?_))
    refine bodyPost_ret (results_arr_tmp rfl rfl rfl RTFe (row_self q2)) rfl ⟨?_, row_below hB (by omega) _⟩
    rw [show (arr .u64 5 fun k => ((addN F G k : Nat) : Int)) = arr .u64 5 fun _ => 0 from arr_ext fun k _ => by unfold addN; rw [if_neg hq]; rfl]
    first | rfl | (rw [if_neg hq]; rfl)
end Go.Proofs.Ythgjhipfgdlbnaa
