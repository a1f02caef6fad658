/- The walks of layer 5: squares, and what numbers are divided by. -/
import Derived.Test.YthgjhipfgdlbnaaFeU
namespace Go.Proofs.Ythgjhipfgdlbnaa
set_option linter.unusedSimpArgs false
set_option linter.unusedVariables false
open Go.RowKit
attribute [local irreducible] accN leastN byteN prodN carN diffN

/-- A number, so often squared. -/
def sqN (F : Nat → Nat) : Nat → Nat → Nat
  | 0 => F
  | n + 1 => prodN (sqN F n) (sqN F n)
theorem sq_ok (F : Nat → Nat) (hF : okF F 5) : ∀ n, okF (sqN F n) 5
  | 0 => hF
  | n + 1 => prod_ok _ _ (sq_ok F hF n) (sq_ok F hF n)
theorem sqN_succ (F : Nat → Nat) (n : Nat) : sqN F (n + 1) = prodN (sqN F n) (sqN F n) := rfl
attribute [local irreducible] sqN

set_option maxRecDepth 100000 in
set_option maxHeartbeats 1000000 in
theorem square_any (F : Nat → Nat) (hF : okF F 5) (N : Nat) (hN : N < 1000) (w : World) :
    Calls Try.prog 39 #[.agg (arr .u64 5 fun i => ((F i : Nat) : Int)), .int .i64 N] w fun e w' => e = .returned (.agg (arr .u64 5 fun k => ((sqN F N k : Nat) : Int))) ∧ Below w.heap.size w w' := by
  go_enter Try.func39, Try.ntmps39
  obtain ⟨h0, h1, hsz, hb⟩ := alloc2 w (.cells (arr .u64 5 fun i => ((F i : Nat) : Int)) 34) (.cells (arr .u64 5 fun _ => 0) 34)
  go_upto_region 1 with (refine wpList_alloc_arr rfl rfl ZTFe ?_)
  generalize (w.alloc (.cells (arr .u64 5 fun i => ((F i : Nat) : Int)) 34)).alloc (.cells (arr .u64 5 fun _ => 0) 34) = wa at *
  (try simp only [Act.put, List.setIfInBounds_toArray, List.set_cons_zero, List.set_cons_succ])
  simp only [World.size_alloc]
  have hF' := Lib.hid hF
  clear hF hsz
  go_wp2
  go_loopg [6] N (fun n i wr => ∃ m : Nat, m + n = N ∧ i = .int .i64 m ∧ wr.heap[w.heap.size]? = some (.cells (arr .u64 5 fun i => ((sqN F m i : Nat) : Int)) 34 (0, 0)) ∧
    wr.heap[w.heap.size + 1]? = some (.cells (arr .u64 5 fun _ => 0) 34 (0, 0)) ∧ Below w.heap.size w wr)
  case atStart => exact ⟨0, by omega, rfl, (by unfold sqN; exact h0), h1, hb⟩
  case round =>
    clear h0 h1 hb
    obtain ⟨m, hm, rfl, h0, h1, hB⟩ := hrel
    have hm' := Lib.hid hm
    clear hm
    by_cases hlt : m < N
    · have ok := Lib.hid (sq_ok F hF'.out m)
      go_wp2_with (first | (refine wpList_load_arr rfl rfl rfl RTFe h0 ?_) | (go_at_call 38; fail))
      refine (mul_any (sqN F m) (sqN F m) ok.out ok.out _).mono ?_
      rintro e w4 ⟨rfl, b4⟩
      replace h0 := keep_below b4 (lt_of_block h0) h0
      replace h1 := keep_below b4 (lt_of_block h1) h1
      replace hB := hB.trans (b4.mono hB.size)
      clear b4
      go_wp2_with (refine wpList_store_arr rfl rfl rfl rfl RTFe h0 ?_)
      go_roundg (gk - 1)
      case measure => have := hm'.out; omega
      case rel =>
        have hm'' := hm'.out
        exact ⟨m + 1, by omega, by go_num, (by rw [sqN_succ]; exact row_self h0), row_keep h1 (by omega), row_below hB (Nat.le_refl _) _⟩
    · obtain rfl : m = N := by have := hm'.out; omega
      go_wp2_with (first | (refine wpList_load_arr rfl rfl rfl RTFe h0 ?_) | (refine wpList_store_arr rfl rfl rfl rfl RTFe h1 ?_))
      exact bodyPost_ret (results_arr rfl rfl RTFe (row_self h1)) rfl ⟨rfl, row_below hB (by omega) _⟩

/-- A number, so often squared, and a product. -/
def onesN (X : Nat → Nat) (n : Nat) (Y : Nat → Nat) : Nat → Nat := prodN (sqN X n) Y
theorem ones_ok (X Y : Nat → Nat) (n : Nat) (hX : okF X 5) (hY : okF Y 5) : okF (onesN X n Y) 5 := prod_ok _ _ (sq_ok X hX n) hY
set_option maxRecDepth 100000 in
set_option maxHeartbeats 1000000 in
theorem ones_any (X Y : Nat → Nat) (hX : okF X 5) (hY : okF Y 5) (N : Nat) (hN : N < 1000) (w : World) :
    Calls Try.prog 37 #[.agg (arr .u64 5 fun i => ((X i : Nat) : Int)), .int .i64 N, .agg (arr .u64 5 fun i => ((Y i : Nat) : Int))] w fun e w' => e = .returned (.agg (arr .u64 5 fun k => ((onesN X N Y k : Nat) : Int))) ∧ Below w.heap.size w w' := by
  go_enter Try.func37, Try.ntmps37
  obtain ⟨h0, h1, h2, hsz, hb⟩ := alloc3 w (.cells (arr .u64 5 fun i => ((X i : Nat) : Int)) 34) (.cells (arr .u64 5 fun i => ((Y i : Nat) : Int)) 34) (.cells (arr .u64 5 fun _ => 0) 34)
  go_upto_region 1 with (refine wpList_alloc_arr rfl rfl ZTFe ?_)
  generalize ((w.alloc (.cells (arr .u64 5 fun i => ((X i : Nat) : Int)) 34)).alloc (.cells (arr .u64 5 fun i => ((Y i : Nat) : Int)) 34)).alloc (.cells (arr .u64 5 fun _ => 0) 34) = wa at *
  (try simp only [Act.put, List.setIfInBounds_toArray, List.set_cons_zero, List.set_cons_succ])
  simp only [World.size_alloc]
  refine wp_region_free 5 [Is (.agg (arr .u64 5 fun i => ((X i : Nat) : Int))), Is (.int .i64 N), Is (.agg (arr .u64 5 fun k => ((sqN X N k : Nat) : Int))), Is (.agg (arr .u64 5 fun i => ((Y i : Nat) : Int))), Is (.agg (arr .u64 5 fun k => ((onesN X N Y k : Nat) : Int)))]
    [[], [], [0, 1], [], [2, 3]] (by kernel_rfl) (by kernel_rfl) rfl (st_cons (is_stays _) (st_cons (is_stays _) (st_cons (is_stays _) (st_cons (is_stays _) (st_cons (is_stays _) st_nil))))) ?_ ?_
  · (simp only [List.take_succ_cons, List.take_zero, List.drop_succ_cons, List.drop_zero, List.zip_cons_cons, List.zip_nil_left, List.zip_nil_right, freeOps, allV, under, factAt, fillA, List.getElem?_cons_zero, List.getElem?_cons_succ, List.range_succ, List.range_zero, List.nil_append, List.cons_append, Act.put, List.setIfInBounds_toArray, List.set_cons_zero, List.set_cons_succ])
    refine ⟨?_, ?_, ?_, ?_, ?_, trivial⟩
    · intro x0 x1 x2 x3 x4 w' hb'
      exact free_load_arr rfl rfl rfl RTFe (keep_below hb' (lt_of_block (w := wa) h0) h0) rfl
    · intro x0 x1 x2 x3 x4 w' hb'
      exact free_move rfl rfl rfl
    · intro x0 x1 x2 x3 x4 w' hb' e0 e1
      unfold Is at e0 e1
      subst e0 e1
      refine free_e rfl (fun K hK => ?_)
      go_simp
      refine (square_any X hX N hN _).mono ?_
      rintro e w4 ⟨rfl, b4⟩
      exact hK _ _ b4 rfl
    · intro x0 x1 x2 x3 x4 w' hb'
      exact free_load_arr rfl rfl rfl RTFe (keep_below hb' (lt_of_block (w := wa) h1) h1) rfl
    · intro x0 x1 x2 x3 x4 w' hb' e0 e1
      unfold Is at e0 e1
      subst e0 e1
      refine free_e rfl (fun K hK => ?_)
      go_simp
      refine (mul_any _ Y (sq_ok X hX N) hY _).mono ?_
      rintro e w4 ⟨rfl, b4⟩
      exact hK _ _ b4 rfl
  · (simp only [List.take_succ_cons, List.take_zero, List.drop_succ_cons, List.drop_zero, List.zip_cons_cons, List.zip_nil_left, List.zip_nil_right, freeOps, allV, under, factAt, fillA, List.getElem?_cons_zero, List.getElem?_cons_succ, List.range_succ, List.range_zero, List.nil_append, List.cons_append, Act.put, List.setIfInBounds_toArray, List.set_cons_zero, List.set_cons_succ])
    intro x0 x1 x2 x3 x4 w' hb' e0 e1 e2 e3 e4
    unfold Is at e0 e1 e2 e3 e4
    subst e0 e1 e2 e3 e4
    replace h2 := keep_below hb' (lt_of_block (w := wa) h2) h2
    have hB := (hb.drew).trans (hb'.mono hb.size)
    go_wp2_with (refine wpList_store_arr rfl rfl rfl rfl RTFe h2 ?_)
    exact bodyPost_ret (results_arr rfl rfl RTFe (row_self h2)) rfl ⟨rfl, row_below hB (by omega) _⟩
end Go.Proofs.Ythgjhipfgdlbnaa
