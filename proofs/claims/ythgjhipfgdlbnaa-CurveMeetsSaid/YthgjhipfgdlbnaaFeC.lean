/- The walks of layer 5: what goes over a part is carried. -/
import Derived.Test.YthgjhipfgdlbnaaFeW
import Derived.Laws.Bits64b
namespace Go.Proofs.Ythgjhipfgdlbnaa
set_option linter.unusedSimpArgs false
set_option linter.unusedVariables false
open Go.RowKit

theorem and_mask (a b : Nat) (h : a + b < 18446744073709551616) : bits .and .u64 ((a : Int) + (b : Int)) 2251799813685247 = (((a + b) % 2251799813685248 : Nat) : Int) := by
  have h1 := bits_and_u64_nat (a + b) 2251799813685247 h (by omega)
  have e : (a + b) &&& 2251799813685247 = (a + b) % 2251799813685248 := Nat.and_two_pow_sub_one_eq_mod (a + b) 51
  rw [e] at h1
  rw [← h1]
  rfl
/-- What goes over from the parts below m; what stays of part m. -/
def ovN (F : Nat → Nat) : Nat → Nat
  | 0 => 0
  | m + 1 => (F m + ovN F m) / 2251799813685248
def loN (F : Nat → Nat) (m : Nat) : Nat := (F m + ovN F m) % 2251799813685248
def carN (F : Nat → Nat) (i : Nat) : Nat := if i = 0 then loN F 0 + 19 * ovN F 5 else loN F i
theorem ovN_succ (F : Nat → Nat) (m : Nat) : ovN F (m + 1) = (F m + ovN F m) / 2251799813685248 := rfl
theorem ovN_lt (F : Nat → Nat) (hF : ∀ i, i < 5 → F i < 9223372036854775808) : ∀ m, m ≤ 5 → ovN F m < 8192
  | 0, _ => by unfold ovN; omega
  | m + 1, h => by
    have := ovN_lt F hF m (by omega)
    have := hF m (by omega)
    rw [ovN_succ]
    omega
attribute [local irreducible] ovN

set_option maxHeartbeats 1000000 in
theorem carry_any (F : Nat → Nat) (hF : ∀ i, i < 5 → F i < 9223372036854775808) (w : World) :
    Calls Try.prog 47 #[.agg (arr .u64 5 fun i => ((F i : Nat) : Int))] w fun e w' => e = .returned (.agg (arr .u64 5 fun i => ((carN F i : Nat) : Int))) ∧ Below w.heap.size w w' := by
  go_enter Try.func47, Try.ntmps47
  obtain ⟨h0, h1, hsz, hb⟩ := alloc2 w (.cells (arr .u64 5 fun i => ((F i : Nat) : Int)) 34) (.cells (arr .u64 5 fun _ => 0) 34)
  go_wp2_with (first | (refine wpList_alloc_arr rfl rfl ZTFe ?_) | (refine wpList_load_arr rfl rfl rfl RTFe h0 ?_))
  have hF' := Lib.hid hF
  have hov := Lib.hid (ovN_lt F hF)
  clear hF
  go_loopg [3, 7] 5 (fun n x i wr => ∃ m : Nat, m + n = 5 ∧ i = .int .i64 m ∧ x = .int .u64 ((ovN F m : Nat) : Int) ∧ wr.heap[w.heap.size]? = some (.cells (arr .u64 5 fun i => ((if i < m then loN F i else F i : Nat) : Int)) 34 (0, 0)) ∧
    wr.heap[w.heap.size + 1]? = some (.cells (arr .u64 5 fun _ => 0) 34 (0, 0)) ∧ Below w.heap.size w wr)
  case atStart => exact ⟨0, rfl, rfl, by unfold ovN; rfl, blk_congr h0 (fun i _ => by rw [if_neg (Nat.not_lt_zero i)]), h1, hb⟩
  case round =>
    obtain ⟨m, hm, rfl, rfl, g0, g1, hB⟩ := hrel
    have hm' := Lib.hid hm
    clear h0 h1 hsz hb hm
    by_cases hlt : m < 5
    · have fb := hF'.out m hlt
      have ob := hov.out m (by omega)
      have c0 := cell_arr g0 m hlt
      have fz := free_arr g0 m
      go_wp2_with (refine wpList_index_cell rfl rfl Try.underlying34 Try.underlying32 rfl SZU64 rfl rfl (by omega) (by omega) (by omega) ?_)
      go_roundg (gk - 1)
      case measure => have := hm'.out; omega
      case rel =>
        have hm'' := hm'.out
        refine ⟨m + 1, by omega, by go_num, ?_, blk_congr (set_arr g0 m _) (fun i _ => ?_), keep_arr g1 _ _ (by omega), hB.setCell (Nat.le_refl _) _⟩
        · rw [ovN_succ]; rfl
        · rw [and_mask _ _ (by omega)]
          unfold upd
          by_cases h : i = m
          · rw [if_pos h, h, if_pos (by omega)]; rfl
          · rw [if_neg h]
            dsimp only
            by_cases h2 : i < m
            · rw [if_pos h2, if_pos (by omega)]
            · rw [if_neg h2, if_neg (by omega)]
    · obtain rfl : m = 5 := by have := hm'.out; omega
      have ob := hov.out 5 (by omega)
      have g0' := blk_congr (f' := fun i => ((loN F i : Nat) : Int)) g0 (fun i hi => by rw [if_pos hi])
      clear g0
      have c0 := cell_arr g0' 0 (by omega)
      have fz := free_arr g0' 0
      have lb : loN F 0 < 2251799813685248 := Nat.mod_lt _ (by omega)
      go_upto_region 9 with (fail)
      have g2 := blk_congr (f' := fun i => ((carN F i : Nat) : Int)) (set_arr g0' 0 (((loN F 0 : Nat) : Int) + 19 * ((ovN F 5 : Nat) : Int))) (fun i _ => by
        unfold upd carN
        by_cases h : i = 0
        · rw [if_pos h, if_pos h]; omega
        · rw [if_neg h, if_neg h])
      have g3 := keep_arr (i := 0) (v := .int .u64 (((loN F 0 : Nat) : Int) + 19 * ((ovN F 5 : Nat) : Int))) g1 (C := w.heap.size) (by omega)
      have hBq := hB.setCell (p := ⟨w.heap.size, 0, none⟩) (Nat.le_refl _) (.int .u64 (((loN F 0 : Nat) : Int) + 19 * ((ovN F 5 : Nat) : Int)))
      go_wp2_with (first | (refine wpList_load_arr rfl rfl rfl RTFe g2 ?_) | (refine wpList_store_arr rfl rfl rfl rfl RTFe g3 ?_))
      exact bodyPost_ret (results_arr rfl rfl RTFe (row_self g3)) rfl ⟨rfl, row_below hBq (by omega) _⟩
end Go.Proofs.Ythgjhipfgdlbnaa
