/- The walks of layer 5: a number's own, below p. -/
import Derived.Test.YthgjhipfgdlbnaaFeC
namespace Go.Proofs.Ythgjhipfgdlbnaa
set_option linter.unusedSimpArgs false
set_option linter.unusedVariables false
open Go.RowKit

theorem carN_lt (F : Nat → Nat) (hF : ∀ i, i < 5 → F i < 9223372036854775808) (i : Nat) (_hi : i < 5) : carN F i < 2251799813840896 := by
  have h1 := ovN_lt F hF 5 (by omega)
  have h2 : ∀ i, loN F i < 2251799813685248 := fun i => Nat.mod_lt _ (by omega)
  unfold carN
  have := h2 0
  have := h2 i
  split <;> omega
/-- Whether it is p or more: what goes over if 19 more is added. -/
def quN (F : Nat → Nat) : Nat → Nat
  | 0 => 19
  | m + 1 => (F m + quN F m) / 2251799813685248
theorem quN_succ (F : Nat → Nat) (m : Nat) : quN F (m + 1) = (F m + quN F m) / 2251799813685248 := rfl
theorem quN_lt (F : Nat → Nat) (hF : ∀ i, i < 5 → F i < 4503599627370496) : ∀ m, m ≤ 5 → quN F m < 20
  | 0, _ => by unfold quN; omega
  | m + 1, h => by
    have := quN_lt F hF m (by omega)
    have := hF m (by omega)
    rw [quN_succ]
    omega
/-- A number, and 19 for each p in it. -/
def upN (F : Nat → Nat) (i : Nat) : Nat := if i = 0 then F 0 + 19 * quN F 5 else F i
def leastN (F : Nat → Nat) (i : Nat) : Nat := loN (upN (carN (carN F))) i
theorem upN_lt (F : Nat → Nat) (hF : ∀ i, i < 5 → F i < 4503599627370496) (i : Nat) (hi : i < 5) : upN F i < 4503599627370877 := by
  have := quN_lt F hF 5 (by omega)
  have := hF 0 (by omega)
  have := hF i hi
  unfold upN
  split <;> omega
theorem leastN_lt (F : Nat → Nat) (i : Nat) : leastN F i < 2251799813685248 := Nat.mod_lt _ (by omega)
attribute [local irreducible] ovN quN

set_option maxHeartbeats 1000000 in
theorem least_any (F : Nat → Nat) (hF : ∀ i, i < 5 → F i < 9223372036854775808) (w : World) :
    Calls Try.prog 46 #[.agg (arr .u64 5 fun i => ((F i : Nat) : Int))] w fun e w' => e = .returned (.agg (arr .u64 5 fun i => ((leastN F i : Nat) : Int))) ∧ Below w.heap.size w w' := by
  go_enter Try.func46, Try.ntmps46
  obtain ⟨h0, h1, hsz, hb⟩ := alloc2 w (.cells (arr .u64 5 fun i => ((F i : Nat) : Int)) 34) (.cells (arr .u64 5 fun _ => 0) 34)
  go_wp2_with (first | (refine wpList_alloc_arr rfl rfl ZTFe ?_) | (refine wpList_load_arr rfl rfl rfl RTFe h0 ?_) | (go_at_call 47; fail))
  refine (carry_any F hF _).mono ?_
  rintro e w1 ⟨rfl, b1⟩
  have c1 := carN_lt F hF
  go_wp2_with (go_at_call 47; fail)
  refine (carry_any (carN F) (fun i hi => by have := c1 i hi; omega) _).mono ?_
  rintro e w2 ⟨rfl, b2⟩
  have c2 : ∀ i, i < 5 → carN (carN F) i < 4503599627370496 := fun i hi => by have := carN_lt (carN F) (fun i hi => by have := c1 i hi; omega) i hi; omega
  have b3 := b1.trans (b2.mono b1.size)
  have g0 := keep_below b3 (by omega) h0
  have g1 := keep_below b3 (by omega) h1
  have hB := hb.trans (b3.mono (by omega))
  clear h0 h1 b1 b2 b3 c1 hF hb hsz
  generalize hGe : carN (carN F) = G at c2 ⊢
  have hGe' := Lib.hid hGe
  clear hGe
  go_upto_region 2 with (refine wpList_store_arr rfl rfl rfl rfl RTFe g0 ?_)
  have q0 := row_self (w := w2) (c' := arr .u64 5 fun i => ((G i : Nat) : Int)) g0
  have q1 := row_keep (w := w2) (c' := arr .u64 5 fun i => ((G i : Nat) : Int)) (g := w.heap.size) g1 (by omega)
  have hBq := row_below hB (g := w.heap.size) (by omega) (arr .u64 5 fun i => ((G i : Nat) : Int))
  clear g0 g1 hB
  generalize w2.setRow w.heap.size (arr .u64 5 fun i => ((G i : Nat) : Int)) = w3 at *
  (try simp only [Act.put, List.setIfInBounds_toArray, List.set_cons_zero, List.set_cons_succ])
  have hq := Lib.hid (quN_lt G c2)
  have hu := Lib.hid (upN_lt G c2)
  have hG := Lib.hid c2
  clear c2
  go_wp2_with (refine wpList_load_arr rfl rfl rfl RTFe q0 ?_)
  go_loopg [3, 13] 5 (fun n x i wr => ∃ m : Nat, m + n = 5 ∧ i = .int .i64 m ∧ x = .int .u64 ((quN G m : Nat) : Int) ∧ wr.heap[w.heap.size]? = some (.cells (arr .u64 5 fun i => ((G i : Nat) : Int)) 34 (0, 0)) ∧
    wr.heap[w.heap.size + 1]? = some (.cells (arr .u64 5 fun _ => 0) 34 (0, 0)) ∧ Below w.heap.size w wr)
  case atStart => exact ⟨0, rfl, rfl, by unfold quN; rfl, q0, q1, hBq⟩
  case round =>
    clear q0 q1 hBq
    obtain ⟨m, hm, rfl, rfl, g0, g1, hB⟩ := hrel
    have hm' := Lib.hid hm
    clear hm
    by_cases hlt : m < 5
    · have fb := hG.out m hlt
      have ob := hq.out m (by omega)
      go_wp2_with (refine wpList_index_cell rfl rfl Try.underlying34 Try.underlying32 rfl SZU64 rfl rfl (by omega) (by omega) (by omega) ?_)
      go_roundg (gk - 1)
      case measure => have := hm'.out; omega
      case rel =>
        have hm'' := hm'.out
        exact ⟨m + 1, by omega, by go_num, by rw [quN_succ]; rfl, g0, g1, hB⟩
    · obtain rfl : m = 5 := by have := hm'.out; omega
      have ob := hq.out 5 (by omega)
      have fb := hG.out 0 (by omega)
      have c0 := cell_arr g0 0 (by omega)
      have fz := free_arr g0 0
      go_upto_region 9 with (fail)
      have q0 := blk_congr (f' := fun i => ((upN G i : Nat) : Int)) (set_arr g0 0 (((G 0 : Nat) : Int) + 19 * ((quN G 5 : Nat) : Int))) (fun i _ => by
        unfold upd upN
        by_cases h : i = 0
        · rw [if_pos h, if_pos h]; omega
        · rw [if_neg h, if_neg h])
      have q1 := keep_arr (i := 0) (v := .int .u64 (((G 0 : Nat) : Int) + 19 * ((quN G 5 : Nat) : Int))) g1 (C := w.heap.size) (by omega)
      have hBq := hB.setCell (p := ⟨w.heap.size, 0, none⟩) (Nat.le_refl _) (.int .u64 (((G 0 : Nat) : Int) + 19 * ((quN G 5 : Nat) : Int)))
      clear g0 g1 hB c0 fz ob fb
      generalize wr.setCell ⟨w.heap.size, 0, none⟩ (.int .u64 (((G 0 : Nat) : Int) + 19 * ((quN G 5 : Nat) : Int))) = w4 at *
      generalize hUe : upN G = U at hu q0 ⊢
      have hUe' := Lib.hid hUe
      clear hUe
      have hov := Lib.hid (ovN_lt U (fun i hi => by have := hu.out i hi; omega))
      go_wp2_with (refine wpList_load_arr rfl rfl rfl RTFe q0 ?_)
      go_loopg [6, 28] 5 (fun n x i wr => ∃ m : Nat, m + n = 5 ∧ i = .int .i64 m ∧ x = .int .u64 ((ovN U m : Nat) : Int) ∧ wr.heap[w.heap.size]? = some (.cells (arr .u64 5 fun i => ((if i < m then loN U i else U i : Nat) : Int)) 34 (0, 0)) ∧
        wr.heap[w.heap.size + 1]? = some (.cells (arr .u64 5 fun _ => 0) 34 (0, 0)) ∧ Below w.heap.size w wr)
      case atStart => exact ⟨0, rfl, rfl, by unfold ovN; rfl, blk_congr q0 (fun i _ => by rw [if_neg (Nat.not_lt_zero i)]), q1, hBq⟩
      case round =>
        clear q0 q1 hBq
        obtain ⟨m, hm, rfl, rfl, g0, g1, hB⟩ := hrel
        have hm' := Lib.hid hm
        clear hm
        by_cases hlt : m < 5
        · have fb := hu.out m hlt
          have ob := hov.out m (by omega)
          have c0 := cell_arr g0 m hlt
          have fz := free_arr g0 m
          go_wp2_with (refine wpList_index_cell rfl rfl Try.underlying34 Try.underlying32 rfl SZU64 rfl rfl (by omega) (by omega) (by omega) ?_)
          go_roundg (gk - 1)
          case measure => have := hm'.out; omega
          case rel =>
            have hm'' := hm'.out
            refine ⟨m + 1, by omega, by go_num, ?_, blk_congr (set_arr g0 m _) (fun i _ => ?_), keep_arr g1 _ _ (by omega), hB.setCell (Nat.le_refl _) _⟩
            · rw [ovN_succ]; rfl
            · rw [and_mask _ _ (by omega)]
              unfold upd
              by_cases h : i = m
              · rw [if_pos h, h, if_pos (by omega)]; rfl
              · rw [if_neg h]
                dsimp only
                by_cases h2 : i < m
                · rw [if_pos h2, if_pos (by omega)]
                · rw [if_neg h2, if_neg (by omega)]
        · obtain rfl : m = 5 := by have := hm'.out; omega
          have p0 := blk_congr (f' := fun i => ((loN U i : Nat) : Int)) g0 (fun i hi => by rw [if_pos hi])
          clear g0
          go_wp2_with (first | (refine wpList_load_arr rfl rfl rfl RTFe p0 ?_) | (refine wpList_store_arr rfl rfl rfl rfl RTFe g1 ?_))
          exact bodyPost_ret (results_arr rfl rfl RTFe (row_self g1)) rfl ⟨by rw [← hUe'.out, ← hGe'.out]; rfl, row_below hB (by omega) _⟩
end Go.Proofs.Ythgjhipfgdlbnaa
