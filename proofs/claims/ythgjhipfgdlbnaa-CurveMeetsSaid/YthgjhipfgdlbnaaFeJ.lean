/- The walks of layer 5: what a number is divided by. -/
import Derived.Test.YthgjhipfgdlbnaaFeI
namespace Go.Proofs.Ythgjhipfgdlbnaa
set_option linter.unusedSimpArgs false
set_option linter.unusedVariables false
open Go.RowKit
attribute [local irreducible] accN leastN byteN prodN carN diffN sqN

/-- What is told of a number: a number, where it may be. -/
def told1 (F H : Nat → Nat) (i : Nat) : Nat := if okF F 5 then H i else 0
theorem told1_yes {F : Nat → Nat} (h : okF F 5) (H : Nat → Nat) : told1 F H = H := by funext i; unfold told1; rw [if_pos h]
theorem told1_no {F : Nat → Nat} (h : ¬ okF F 5) (H : Nat → Nat) : told1 F H = fun _ => 0 := by funext i; unfold told1; rw [if_neg h]
def i_two (F : Nat → Nat) : Nat → Nat := sqN F 1
def i_nine (F : Nat → Nat) : Nat → Nat := onesN (i_two F) 2 F
def i_eleven (F : Nat → Nat) : Nat → Nat := prodN (i_nine F) (i_two F)
def i_five (F : Nat → Nat) : Nat → Nat := prodN (sqN (i_eleven F) 1) (i_nine F)
def i_ten (F : Nat → Nat) : Nat → Nat := onesN (i_five F) 5 (i_five F)
def i_twenty (F : Nat → Nat) : Nat → Nat := onesN (i_ten F) 10 (i_ten F)
def i_forty (F : Nat → Nat) : Nat → Nat := onesN (i_twenty F) 20 (i_twenty F)
def i_fifty (F : Nat → Nat) : Nat → Nat := onesN (i_forty F) 10 (i_ten F)
def i_hundred (F : Nat → Nat) : Nat → Nat := onesN (i_fifty F) 50 (i_fifty F)
def i_double (F : Nat → Nat) : Nat → Nat := onesN (i_hundred F) 100 (i_hundred F)
def i_most (F : Nat → Nat) : Nat → Nat := onesN (i_double F) 50 (i_fifty F)
/-- What a number is divided by. -/
def invN (F : Nat → Nat) : Nat → Nat := onesN (i_most F) 5 (i_eleven F)
theorem ok_two {F : Nat → Nat} (h : okF F 5) : okF (i_two F) 5 := sq_ok F h 1
theorem ok_nine {F : Nat → Nat} (h : okF F 5) : okF (i_nine F) 5 := ones_ok _ _ _ (ok_two h) h
theorem ok_eleven {F : Nat → Nat} (h : okF F 5) : okF (i_eleven F) 5 := prod_ok _ _ (ok_nine h) (ok_two h)
theorem ok_five {F : Nat → Nat} (h : okF F 5) : okF (i_five F) 5 := prod_ok _ _ (sq_ok _ (ok_eleven h) 1) (ok_nine h)
theorem ok_ten {F : Nat → Nat} (h : okF F 5) : okF (i_ten F) 5 := ones_ok _ _ _ (ok_five h) (ok_five h)
theorem ok_twenty {F : Nat → Nat} (h : okF F 5) : okF (i_twenty F) 5 := ones_ok _ _ _ (ok_ten h) (ok_ten h)
theorem ok_forty {F : Nat → Nat} (h : okF F 5) : okF (i_forty F) 5 := ones_ok _ _ _ (ok_twenty h) (ok_twenty h)
theorem ok_fifty {F : Nat → Nat} (h : okF F 5) : okF (i_fifty F) 5 := ones_ok _ _ _ (ok_forty h) (ok_ten h)
theorem ok_hundred {F : Nat → Nat} (h : okF F 5) : okF (i_hundred F) 5 := ones_ok _ _ _ (ok_fifty h) (ok_fifty h)
theorem ok_double {F : Nat → Nat} (h : okF F 5) : okF (i_double F) 5 := ones_ok _ _ _ (ok_hundred h) (ok_hundred h)
theorem ok_most {F : Nat → Nat} (h : okF F 5) : okF (i_most F) 5 := ones_ok _ _ _ (ok_double h) (ok_fifty h)
theorem ok_inv {F : Nat → Nat} (h : okF F 5) : okF (invN F) 5 := ones_ok _ _ _ (ok_most h) (ok_eleven h)
attribute [local irreducible] i_two i_nine i_eleven i_five i_ten i_twenty i_forty i_fifty i_hundred i_double i_most onesN

def SqPost (F : Nat → Nat) (n : Int) (w : World) (e : Ending) (w' : World) : Prop :=
  (if okF F 5 ∧ 0 ≤ n ∧ n ≤ 300 then e = .returned (.tuple #[.agg (arr .u64 5 fun k => ((sqN F n.toNat k : Nat) : Int)), .int .i64 0]) else e = .returned (.tuple #[.agg (arr .u64 5 fun _ => 0), .int .i64 1])) ∧ Below w.heap.size w w'
set_option maxRecDepth 100000 in
set_option maxHeartbeats 1000000 in
theorem Square_any (F : Nat → Nat) (hF : ∀ i, i < 5 → F i < 18446744073709551616) (n : Int) (hn : -9223372036854775808 ≤ n ∧ n < 9223372036854775808) (w : World) :
    Calls Try.prog 36 #[.agg (arr .u64 5 fun i => ((F i : Nat) : Int)), .int .i64 n] w (SqPost F n w) := by
  go_enter Try.func36, Try.ntmps36
  obtain ⟨h0, h1, hsz, hb⟩ := alloc2 w (.cells (arr .u64 5 fun i => ((F i : Nat) : Int)) 34) (.cells (arr .u64 5 fun _ => 0) 34)
  go_upto_region 1 with (refine wpList_alloc_arr rfl rfl ZTFe ?_)
  generalize (w.alloc (.cells (arr .u64 5 fun i => ((F i : Nat) : Int)) 34)).alloc (.cells (arr .u64 5 fun _ => 0) 34) = wa at *
  (try simp only [Act.put, List.setIfInBounds_toArray, List.set_cons_zero, List.set_cons_succ])
  try simp only [World.size_alloc]
  obtain ⟨g3, hz2, bl⟩ := alloc1 wa (.cells (arr .u64 5 fun i => ((F i : Nat) : Int)) 34)
  rw [hsz] at g3
  go_wp2_with (first | (refine wpList_load_arr rfl rfl rfl RTFe h0 ?_) | (refine wpList_bslice rfl rfl Try.underlying68 (by simp [Act.eval, Act.put]) (built_one fun i => ((F i : Nat) : Int)) ?_) | (go_at_call 31; fail))
  refine (may_any 1 5 rfl (by omega) F hF _ _ _ g3).mono ?_
  rintro e w2 ⟨rfl, b2⟩
  have b3 := bl.trans (b2.mono (by omega))
  replace h0 := keep_below b3 (by omega) h0
  replace h1 := keep_below b3 (by omega) h1
  replace hb := hb.trans (b3.mono (by omega))
  clear b2 b3 bl g3 hz2 hsz
  by_cases hq : okF F 5
  · rw [show decide (okF F 5) = true from decide_eq_true hq]
    have hq' := Lib.hid hq
    by_cases h2 : n < 0
    · go_wp2_with (first | (refine wpList_val' rfl (run_op_build rfl (by simp [Act.eval, Act.put]) built_fe) ?_) | (refine wpList_store_arr rfl rfl rfl rfl RTFe h1 ?_))
      refine bodyPost_ret (results_arr_tmp rfl rfl rfl RTFe (row_self h1)) rfl ⟨?_, row_below hb (by omega) _⟩
      rw [if_neg (by omega)]; rfl
    · by_cases h3 : 300 < n
      · go_wp2_with (first | (refine wpList_val' rfl (run_op_build rfl (by simp [Act.eval, Act.put]) built_fe) ?_) | (refine wpList_store_arr rfl rfl rfl rfl RTFe h1 ?_))
        refine bodyPost_ret (results_arr_tmp rfl rfl rfl RTFe (row_self h1)) rfl ⟨?_, row_below hb (by omega) _⟩
        rw [if_neg (by omega)]; rfl
      · obtain ⟨m, rfl⟩ := Int.eq_ofNat_of_zero_le (show 0 ≤ n by omega)
        go_wp2_with (first | (refine wpList_load_arr rfl rfl rfl RTFe h0 ?_) | (go_at_call 39; fail))
        refine (square_any F hq'.out m (by omega) _).mono ?_
        rintro e w4 ⟨rfl, b4⟩
        replace h1 := keep_below b4 (lt_of_block h1) h1
        replace hb := hb.trans (b4.mono hb.size)
        go_wp2_with (refine wpList_store_arr rfl rfl rfl rfl RTFe h1 ?_)
        refine bodyPost_ret (results_arr_tmp rfl rfl rfl RTFe (row_self h1)) rfl ⟨?_, row_below hb (by omega) _⟩
        rw [if_pos ⟨hq'.out, by omega, by omega⟩]; rfl
  · rw [show decide (okF F 5) = false from decide_eq_false hq]
    go_wp2_with (first | (refine wpList_val' rfl (run_op_build rfl (by simp [Act.eval, Act.put]) built_fe) ?_) | (refine wpList_store_arr rfl rfl rfl rfl RTFe h1 ?_))
    refine bodyPost_ret (results_arr_tmp rfl rfl rfl RTFe (row_self h1)) rfl ⟨?_, row_below hb (by omega) _⟩
    rw [if_neg (fun h => hq h.1)]; rfl
theorem Square_yes (F : Nat → Nat) (hF : okF F 5) (n : Nat) (hn : n ≤ 300) (w : World) :
    Calls Try.prog 36 #[.agg (arr .u64 5 fun i => ((F i : Nat) : Int)), .int .i64 n] w fun e w' => e = .returned (.tuple #[.agg (arr .u64 5 fun k => ((sqN F n k : Nat) : Int)), .int .i64 0]) ∧ Below w.heap.size w w' :=
  (Square_any F (fun i hi => by have := hF i hi; omega) n (by omega) w).mono fun e w' h => by
    unfold SqPost at h
    rw [if_pos ⟨hF, by omega, by omega⟩] at h
    exact h
theorem Square_no (F : Nat → Nat) (hF : ∀ i, i < 5 → F i < 18446744073709551616) (n : Int) (hn : -9223372036854775808 ≤ n ∧ n < 9223372036854775808) (h : ¬ (okF F 5 ∧ 0 ≤ n ∧ n ≤ 300)) (w : World) :
    Calls Try.prog 36 #[.agg (arr .u64 5 fun i => ((F i : Nat) : Int)), .int .i64 n] w fun e w' => e = .returned (.tuple #[.agg (arr .u64 5 fun _ => 0), .int .i64 1]) ∧ Below w.heap.size w w' :=
  (Square_any F hF n hn w).mono fun e w' hh => by
    unfold SqPost at hh
    rw [if_neg h] at hh
    exact hh

set_option maxRecDepth 100000 in
set_option maxHeartbeats 4000000 in
theorem Invert_any (F : Nat → Nat) (hF : ∀ i, i < 5 → F i < 18446744073709551616) (w : World) :
    Calls Try.prog 24 #[.agg (arr .u64 5 fun i => ((F i : Nat) : Int))] w fun e w' => e = .returned (.tuple #[.agg (arr .u64 5 fun k => ((told1 F (invN F) k : Nat) : Int)), .int .i64 (if okF F 5 then 0 else 1)]) ∧ Below w.heap.size w w' := by
  go_enter Try.func24, Try.ntmps24
  obtain ⟨h0, h1, hsz, hb⟩ := alloc2 w (.cells (arr .u64 5 fun i => ((F i : Nat) : Int)) 34) (.cells (arr .u64 5 fun _ => 0) 34)
  go_upto_region 1 with (refine wpList_alloc_arr rfl rfl ZTFe ?_)
  generalize (w.alloc (.cells (arr .u64 5 fun i => ((F i : Nat) : Int)) 34)).alloc (.cells (arr .u64 5 fun _ => 0) 34) = wa at *
  (try simp only [Act.put, List.setIfInBounds_toArray, List.set_cons_zero, List.set_cons_succ])
  try simp only [World.size_alloc]
  obtain ⟨g3, hz2, bl⟩ := alloc1 wa (.cells (arr .u64 5 fun i => ((F i : Nat) : Int)) 34)
  rw [hsz] at g3
  go_wp2_with (first | (refine wpList_load_arr rfl rfl rfl RTFe h0 ?_) | (refine wpList_bslice rfl rfl Try.underlying68 (by simp [Act.eval, Act.put]) (built_one fun i => ((F i : Nat) : Int)) ?_) | (go_at_call 31; fail))
  refine (may_any 1 5 rfl (by omega) F hF _ _ _ g3).mono ?_
  rintro e w2 ⟨rfl, b2⟩
  have b3 := bl.trans (b2.mono (by omega))
  replace h0 := keep_below b3 (by omega) h0
  replace h1 := keep_below b3 (by omega) h1
  replace hb := hb.trans (b3.mono (by omega))
  clear b2 b3 bl g3 hz2 hsz
  by_cases hq : okF F 5
  · rw [show decide (okF F 5) = true from decide_eq_true hq]
    have hq' := Lib.hid hq
    clear hq
    go_wp2_with (first | (refine wpList_load_arr rfl rfl rfl RTFe h0 ?_) | (go_at_call 39; fail))
    refine (square_any F hq'.out 1 (by omega) _).mono ?_
    rintro e w4 ⟨rfl, b4⟩
    replace h0 := keep_below b4 (lt_of_block h0) h0
    replace h1 := keep_below b4 (lt_of_block h1) h1
    replace hb := hb.trans (b4.mono hb.size)
    clear b4
    rw [show (fun k => ((sqN F 1 k : Nat) : Int)) = fun k => ((i_two F k : Nat) : Int) from by unfold i_two; rfl]
    go_upto_region 5 with (refine wpList_new_arr rfl rfl rfl rfl ZTFe RTFe rfl rfl ?_; intro w8 g2 b8 hs8)
    have l0 := lt_of_block h1
    replace h0 := keep_below b8 (lt_of_block h0) h0
    replace h1 := keep_below b8 (lt_of_block h1) h1
    replace hb := hb.trans (b8.mono hb.size)
    clear b8 hs8
    obtain ⟨Bg2, hBg2⟩ : ∃ B, B = w4.heap.size := ⟨_, rfl⟩
    rw [← hBg2] at l0 g2 ⊢
    clear hBg2
    (try simp only [Act.put, List.setIfInBounds_toArray, List.set_cons_zero, List.set_cons_succ])
    go_wp2_with (first | (refine wpList_load_arr rfl rfl rfl RTFe g2 ?_) | (refine wpList_load_arr rfl rfl rfl RTFe h0 ?_) | (go_at_call 37; fail))
    refine (ones_any (i_two F) F (ok_two hq'.out) hq'.out 2 (by omega) _).mono ?_
    rintro e w4 ⟨rfl, b4⟩
    replace h0 := keep_below b4 (lt_of_block h0) h0
    replace h1 := keep_below b4 (lt_of_block h1) h1
    replace g2 := keep_below b4 (lt_of_block g2) g2
    replace hb := hb.trans (b4.mono hb.size)
    clear b4
    rw [show (fun k => ((onesN (i_two F) 2 F k : Nat) : Int)) = fun k => ((i_nine F k : Nat) : Int) from by unfold i_nine; rfl]
    go_upto_region 6 with (refine wpList_new_arr rfl rfl rfl rfl ZTFe RTFe rfl rfl ?_; intro w8 g9 b8 hs8)
    have l0 := lt_of_block h1
    replace h0 := keep_below b8 (lt_of_block h0) h0
    replace h1 := keep_below b8 (lt_of_block h1) h1
    replace g2 := keep_below b8 (lt_of_block g2) g2
    replace hb := hb.trans (b8.mono hb.size)
    clear b8 hs8
    obtain ⟨Bg9, hBg9⟩ : ∃ B, B = w4.heap.size := ⟨_, rfl⟩
    rw [← hBg9] at l0 g9 ⊢
    clear hBg9
    (try simp only [Act.put, List.setIfInBounds_toArray, List.set_cons_zero, List.set_cons_succ])
    go_wp2_with (first | (refine wpList_load_arr rfl rfl rfl RTFe g9 ?_) | (refine wpList_load_arr rfl rfl rfl RTFe g2 ?_) | (go_at_call 38; fail))
    refine (mul_any (i_nine F) (i_two F) (ok_nine hq'.out) (ok_two hq'.out) _).mono ?_
    rintro e w4 ⟨rfl, b4⟩
    replace h0 := keep_below b4 (lt_of_block h0) h0
    replace h1 := keep_below b4 (lt_of_block h1) h1
    replace g2 := keep_below b4 (lt_of_block g2) g2
    replace g9 := keep_below b4 (lt_of_block g9) g9
    replace hb := hb.trans (b4.mono hb.size)
    clear b4
    rw [show (fun k => ((prodN (i_nine F) (i_two F) k : Nat) : Int)) = fun k => ((i_eleven F k : Nat) : Int) from by unfold i_eleven; rfl]
    go_upto_region 7 with (refine wpList_new_arr rfl rfl rfl rfl ZTFe RTFe rfl rfl ?_; intro w8 g11 b8 hs8)
    have l0 := lt_of_block h1
    replace h0 := keep_below b8 (lt_of_block h0) h0
    replace h1 := keep_below b8 (lt_of_block h1) h1
    replace g2 := keep_below b8 (lt_of_block g2) g2
    replace g9 := keep_below b8 (lt_of_block g9) g9
    replace hb := hb.trans (b8.mono hb.size)
    clear b8 hs8
    obtain ⟨Bg11, hBg11⟩ : ∃ B, B = w4.heap.size := ⟨_, rfl⟩
    rw [← hBg11] at l0 g11 ⊢
    clear hBg11
    (try simp only [Act.put, List.setIfInBounds_toArray, List.set_cons_zero, List.set_cons_succ])
    clear h0 g2
    have ho := hb.size
    obtain ⟨wq, rfl⟩ : ∃ x, x = w8 := ⟨_, rfl⟩
    refine wp_region_free 5 [Is (.agg (arr .u64 5 fun k => ((i_eleven F k : Nat) : Int))), Is (.agg (arr .u64 5 fun k => ((sqN (i_eleven F) 1 k : Nat) : Int))), Is (.agg (arr .u64 5 fun k => ((i_nine F k : Nat) : Int))), Is (.agg (arr .u64 5 fun k => ((i_five F k : Nat) : Int))), NewAt wq.heap.size (.cells (arr .u64 5 fun _ => 0) 34)] [[], [0], [], [1, 2], []] (by kernel_rfl) (by kernel_rfl) rfl (st_cons (is_stays _) (st_cons (is_stays _) (st_cons (is_stays _) (st_cons (is_stays _) (st_cons (new_stays _ _) st_nil))))) ?_ ?_
    · (simp only [List.take_succ_cons, List.take_zero, List.drop_succ_cons, List.drop_zero, List.zip_cons_cons, List.zip_nil_left, List.zip_nil_right, freeOps, allV, under, factAt, fillA, List.getElem?_cons_zero, List.getElem?_cons_succ, List.range_succ, List.range_zero, List.nil_append, List.cons_append, Act.put, List.setIfInBounds_toArray, List.set_cons_zero, List.set_cons_succ])
      refine ⟨?_, ?_, ?_, ?_, ?_, trivial⟩
      · intro x0 x1 x2 x3 x4 w' hb' 
        exact free_load_arr rfl rfl rfl RTFe (keep_below hb' (lt_of_block (w := wq) g11) g11) rfl
      · intro x0 x1 x2 x3 x4 w' hb' e0
        unfold Is at e0
        subst e0
        refine free_e rfl (fun K hK => ?_)
        go_simp
        refine (square_any (i_eleven F) (ok_eleven hq'.out) 1 (by omega) _).mono ?_
        rintro e w4 ⟨rfl, b4⟩
        exact hK _ _ b4 (by unfold Is; rfl)
      · intro x0 x1 x2 x3 x4 w' hb' 
        exact free_load_arr rfl rfl rfl RTFe (keep_below hb' (lt_of_block (w := wq) g9) g9) rfl
      · intro x0 x1 x2 x3 x4 w' hb' e0 e1
        unfold Is at e0 e1
        subst e0 e1
        refine free_e rfl (fun K hK => ?_)
        go_simp
        refine (mul_any (sqN (i_eleven F) 1) (i_nine F) (sq_ok _ (ok_eleven hq'.out) 1) (ok_nine hq'.out) _).mono ?_
        rintro e w4 ⟨rfl, b4⟩
        exact hK _ _ b4 (by unfold Is i_five; rfl)
      · intro x0 x1 x2 x3 x4 w' hb' 
        exact free_alloc_arr rfl rfl ZTFe ⟨_, rfl, hb'.size, heap_alloc_new _ _⟩
    · (simp only [List.take_succ_cons, List.take_zero, List.drop_succ_cons, List.drop_zero, List.zip_cons_cons, List.zip_nil_left, List.zip_nil_right, freeOps, allV, under, factAt, fillA, List.getElem?_cons_zero, List.getElem?_cons_succ, List.range_succ, List.range_zero, List.nil_append, List.cons_append, Act.put, List.setIfInBounds_toArray, List.set_cons_zero, List.set_cons_succ])
      rintro x0 x1 x2 x3 x4 w5 hb' e0 e1 e2 e3 e4
      unfold Is at e0 e1 e2 e3
      subst e0 e1 e2 e3
      obtain ⟨Bg5, rfl, lB, g5⟩ := e4
      replace lB : wq.heap.size ≤ Bg5 := lB
      replace hb := (hb.drew).trans (hb'.mono hb.size)
      have l_h1 := Nat.lt_of_lt_of_le (lt_of_block (w := wq) h1) lB
      replace h1 := keep_below hb' (lt_of_block (w := wq) h1) h1
      have l_g9 := Nat.lt_of_lt_of_le (lt_of_block (w := wq) g9) lB
      replace g9 := keep_below hb' (lt_of_block (w := wq) g9) g9
      have l_g11 := Nat.lt_of_lt_of_le (lt_of_block (w := wq) g11) lB
      replace g11 := keep_below hb' (lt_of_block (w := wq) g11) g11
      go_upto_region 8 with (refine wpList_store_arr rfl rfl rfl rfl RTFe g5 ?_)
      replace h1 := row_keep (g := Bg5) (c' := arr .u64 5 fun k => ((i_five F k : Nat) : Int)) h1 (Nat.ne_of_lt l_h1)
      replace g9 := row_keep (g := Bg5) (c' := arr .u64 5 fun k => ((i_five F k : Nat) : Int)) g9 (Nat.ne_of_lt l_g9)
      replace g11 := row_keep (g := Bg5) (c' := arr .u64 5 fun k => ((i_five F k : Nat) : Int)) g11 (Nat.ne_of_lt l_g11)
      replace g5 := row_self (c' := arr .u64 5 fun k => ((i_five F k : Nat) : Int)) g5
      replace hb := row_below (g := Bg5) hb (Nat.le_trans ho lB) (arr .u64 5 fun k => ((i_five F k : Nat) : Int))
      generalize w5.setRow Bg5 (arr .u64 5 fun k => ((i_five F k : Nat) : Int)) = w6 at *
      clear l_h1 l_g9 l_g11 lB ho hb'
      (try simp only [Act.put, List.setIfInBounds_toArray, List.set_cons_zero, List.set_cons_succ])
      clear g9
      go_wp2_with (first | (refine wpList_load_arr rfl rfl rfl RTFe g5 ?_) | (go_at_call 37; fail))
      refine (ones_any (i_five F) (i_five F) (ok_five hq'.out) (ok_five hq'.out) 5 (by omega) _).mono ?_
      rintro e w4 ⟨rfl, b4⟩
      replace h1 := keep_below b4 (lt_of_block h1) h1
      replace g11 := keep_below b4 (lt_of_block g11) g11
      replace g5 := keep_below b4 (lt_of_block g5) g5
      replace hb := hb.trans (b4.mono hb.size)
      clear b4
      rw [show (fun k => ((onesN (i_five F) 5 (i_five F) k : Nat) : Int)) = fun k => ((i_ten F k : Nat) : Int) from by unfold i_ten; rfl]
      go_upto_region 9 with (refine wpList_new_arr rfl rfl rfl rfl ZTFe RTFe rfl rfl ?_; intro w8 g10 b8 hs8)
      have l0 := lt_of_block h1
      replace h1 := keep_below b8 (lt_of_block h1) h1
      replace g11 := keep_below b8 (lt_of_block g11) g11
      replace g5 := keep_below b8 (lt_of_block g5) g5
      replace hb := hb.trans (b8.mono hb.size)
      clear b8 hs8
      obtain ⟨Bg10, hBg10⟩ : ∃ B, B = w4.heap.size := ⟨_, rfl⟩
      rw [← hBg10] at l0 g10 ⊢
      clear hBg10
      (try simp only [Act.put, List.setIfInBounds_toArray, List.set_cons_zero, List.set_cons_succ])
      clear g5
      go_wp2_with (first | (refine wpList_load_arr rfl rfl rfl RTFe g10 ?_) | (go_at_call 37; fail))
      refine (ones_any (i_ten F) (i_ten F) (ok_ten hq'.out) (ok_ten hq'.out) 10 (by omega) _).mono ?_
      rintro e w4 ⟨rfl, b4⟩
      replace h1 := keep_below b4 (lt_of_block h1) h1
      replace g11 := keep_below b4 (lt_of_block g11) g11
      replace g10 := keep_below b4 (lt_of_block g10) g10
      replace hb := hb.trans (b4.mono hb.size)
      clear b4
      rw [show (fun k => ((onesN (i_ten F) 10 (i_ten F) k : Nat) : Int)) = fun k => ((i_twenty F k : Nat) : Int) from by unfold i_twenty; rfl]
      go_upto_region 10 with (refine wpList_new_arr rfl rfl rfl rfl ZTFe RTFe rfl rfl ?_; intro w8 g20 b8 hs8)
      have l0 := lt_of_block h1
      replace h1 := keep_below b8 (lt_of_block h1) h1
      replace g11 := keep_below b8 (lt_of_block g11) g11
      replace g10 := keep_below b8 (lt_of_block g10) g10
      replace hb := hb.trans (b8.mono hb.size)
      clear b8 hs8
      obtain ⟨Bg20, hBg20⟩ : ∃ B, B = w4.heap.size := ⟨_, rfl⟩
      rw [← hBg20] at l0 g20 ⊢
      clear hBg20
      (try simp only [Act.put, List.setIfInBounds_toArray, List.set_cons_zero, List.set_cons_succ])
      go_wp2_with (first | (refine wpList_load_arr rfl rfl rfl RTFe g20 ?_) | (go_at_call 37; fail))
      refine (ones_any (i_twenty F) (i_twenty F) (ok_twenty hq'.out) (ok_twenty hq'.out) 20 (by omega) _).mono ?_
      rintro e w4 ⟨rfl, b4⟩
      replace h1 := keep_below b4 (lt_of_block h1) h1
      replace g11 := keep_below b4 (lt_of_block g11) g11
      replace g10 := keep_below b4 (lt_of_block g10) g10
      replace g20 := keep_below b4 (lt_of_block g20) g20
      replace hb := hb.trans (b4.mono hb.size)
      clear b4
      rw [show (fun k => ((onesN (i_twenty F) 20 (i_twenty F) k : Nat) : Int)) = fun k => ((i_forty F k : Nat) : Int) from by unfold i_forty; rfl]
      go_upto_region 11 with (refine wpList_new_arr rfl rfl rfl rfl ZTFe RTFe rfl rfl ?_; intro w8 g40 b8 hs8)
      have l0 := lt_of_block h1
      replace h1 := keep_below b8 (lt_of_block h1) h1
      replace g11 := keep_below b8 (lt_of_block g11) g11
      replace g10 := keep_below b8 (lt_of_block g10) g10
      replace g20 := keep_below b8 (lt_of_block g20) g20
      replace hb := hb.trans (b8.mono hb.size)
      clear b8 hs8
      obtain ⟨Bg40, hBg40⟩ : ∃ B, B = w4.heap.size := ⟨_, rfl⟩
      rw [← hBg40] at l0 g40 ⊢
      clear hBg40
      (try simp only [Act.put, List.setIfInBounds_toArray, List.set_cons_zero, List.set_cons_succ])
      clear g20
      go_wp2_with (first | (refine wpList_load_arr rfl rfl rfl RTFe g10 ?_) | (refine wpList_load_arr rfl rfl rfl RTFe g40 ?_) | (go_at_call 37; fail))
      refine (ones_any (i_forty F) (i_ten F) (ok_forty hq'.out) (ok_ten hq'.out) 10 (by omega) _).mono ?_
      rintro e w4 ⟨rfl, b4⟩
      replace h1 := keep_below b4 (lt_of_block h1) h1
      replace g11 := keep_below b4 (lt_of_block g11) g11
      replace g10 := keep_below b4 (lt_of_block g10) g10
      replace g40 := keep_below b4 (lt_of_block g40) g40
      replace hb := hb.trans (b4.mono hb.size)
      clear b4
      rw [show (fun k => ((onesN (i_forty F) 10 (i_ten F) k : Nat) : Int)) = fun k => ((i_fifty F k : Nat) : Int) from by unfold i_fifty; rfl]
      go_upto_region 12 with (refine wpList_new_arr rfl rfl rfl rfl ZTFe RTFe rfl rfl ?_; intro w8 g50 b8 hs8)
      have l0 := lt_of_block h1
      replace h1 := keep_below b8 (lt_of_block h1) h1
      replace g11 := keep_below b8 (lt_of_block g11) g11
      replace g10 := keep_below b8 (lt_of_block g10) g10
      replace g40 := keep_below b8 (lt_of_block g40) g40
      replace hb := hb.trans (b8.mono hb.size)
      clear b8 hs8
      obtain ⟨Bg50, hBg50⟩ : ∃ B, B = w4.heap.size := ⟨_, rfl⟩
      rw [← hBg50] at l0 g50 ⊢
      clear hBg50
      (try simp only [Act.put, List.setIfInBounds_toArray, List.set_cons_zero, List.set_cons_succ])
      clear g40 g10
      go_wp2_with (first | (refine wpList_load_arr rfl rfl rfl RTFe g50 ?_) | (go_at_call 37; fail))
      refine (ones_any (i_fifty F) (i_fifty F) (ok_fifty hq'.out) (ok_fifty hq'.out) 50 (by omega) _).mono ?_
      rintro e w4 ⟨rfl, b4⟩
      replace h1 := keep_below b4 (lt_of_block h1) h1
      replace g11 := keep_below b4 (lt_of_block g11) g11
      replace g50 := keep_below b4 (lt_of_block g50) g50
      replace hb := hb.trans (b4.mono hb.size)
      clear b4
      rw [show (fun k => ((onesN (i_fifty F) 50 (i_fifty F) k : Nat) : Int)) = fun k => ((i_hundred F k : Nat) : Int) from by unfold i_hundred; rfl]
      go_upto_region 13 with (refine wpList_new_arr rfl rfl rfl rfl ZTFe RTFe rfl rfl ?_; intro w8 g100 b8 hs8)
      have l0 := lt_of_block h1
      replace h1 := keep_below b8 (lt_of_block h1) h1
      replace g11 := keep_below b8 (lt_of_block g11) g11
      replace g50 := keep_below b8 (lt_of_block g50) g50
      replace hb := hb.trans (b8.mono hb.size)
      clear b8 hs8
      obtain ⟨Bg100, hBg100⟩ : ∃ B, B = w4.heap.size := ⟨_, rfl⟩
      rw [← hBg100] at l0 g100 ⊢
      clear hBg100
      (try simp only [Act.put, List.setIfInBounds_toArray, List.set_cons_zero, List.set_cons_succ])
      have ho := hb.size
      obtain ⟨wq, rfl⟩ : ∃ x, x = w8 := ⟨_, rfl⟩
      refine wp_region_free 8 [Is (.func (.func 37) #[] #[]), Is (.func (.func 37) #[] #[]), Is (.agg (arr .u64 5 fun k => ((i_hundred F k : Nat) : Int))), Is (.agg (arr .u64 5 fun k => ((i_hundred F k : Nat) : Int))), Is (.agg (arr .u64 5 fun k => ((i_double F k : Nat) : Int))), Is (.agg (arr .u64 5 fun k => ((i_fifty F k : Nat) : Int))), Is (.agg (arr .u64 5 fun k => ((i_most F k : Nat) : Int))), NewAt wq.heap.size (.cells (arr .u64 5 fun _ => 0) 34)] [[], [], [], [], [1, 2, 3], [], [0, 4, 5], []] (by kernel_rfl) (by kernel_rfl) rfl (st_cons (is_stays _) (st_cons (is_stays _) (st_cons (is_stays _) (st_cons (is_stays _) (st_cons (is_stays _) (st_cons (is_stays _) (st_cons (is_stays _) (st_cons (new_stays _ _) st_nil)))))))) ?_ ?_
      · (simp only [List.take_succ_cons, List.take_zero, List.drop_succ_cons, List.drop_zero, List.zip_cons_cons, List.zip_nil_left, List.zip_nil_right, freeOps, allV, under, factAt, fillA, List.getElem?_cons_zero, List.getElem?_cons_succ, List.range_succ, List.range_zero, List.nil_append, List.cons_append, Act.put, List.setIfInBounds_toArray, List.set_cons_zero, List.set_cons_succ])
        refine ⟨?_, ?_, ?_, ?_, ?_, ?_, ?_, ?_, trivial⟩
        · intro x0 x1 x2 x3 x4 x5 x6 x7 w' hb' 
          exact free_move rfl rfl rfl
        · intro x0 x1 x2 x3 x4 x5 x6 x7 w' hb' 
          exact free_move rfl rfl rfl
        · intro x0 x1 x2 x3 x4 x5 x6 x7 w' hb' 
          exact free_load_arr rfl rfl rfl RTFe (keep_below hb' (lt_of_block (w := wq) g100) g100) rfl
        · intro x0 x1 x2 x3 x4 x5 x6 x7 w' hb' 
          exact free_load_arr rfl rfl rfl RTFe (keep_below hb' (lt_of_block (w := wq) g100) g100) rfl
        · intro x0 x1 x2 x3 x4 x5 x6 x7 w' hb' e0 e1 e2
          unfold Is at e0 e1 e2
          subst e0 e1 e2
          refine free_e rfl (fun K hK => ?_)
          go_simp
          refine (ones_any (i_hundred F) (i_hundred F) (ok_hundred hq'.out) (ok_hundred hq'.out) 100 (by omega) _).mono ?_
          rintro e w4 ⟨rfl, b4⟩
          exact hK _ _ b4 (by unfold Is i_double; rfl)
        · intro x0 x1 x2 x3 x4 x5 x6 x7 w' hb' 
          exact free_load_arr rfl rfl rfl RTFe (keep_below hb' (lt_of_block (w := wq) g50) g50) rfl
        · intro x0 x1 x2 x3 x4 x5 x6 x7 w' hb' e0 e1 e2
          unfold Is at e0 e1 e2
          subst e0 e1 e2
          refine free_e rfl (fun K hK => ?_)
          go_simp
          refine (ones_any (i_double F) (i_fifty F) (ok_double hq'.out) (ok_fifty hq'.out) 50 (by omega) _).mono ?_
          rintro e w4 ⟨rfl, b4⟩
          exact hK _ _ b4 (by unfold Is i_most; rfl)
        · intro x0 x1 x2 x3 x4 x5 x6 x7 w' hb' 
          exact free_alloc_arr rfl rfl ZTFe ⟨_, rfl, hb'.size, heap_alloc_new _ _⟩
      · (simp only [List.take_succ_cons, List.take_zero, List.drop_succ_cons, List.drop_zero, List.zip_cons_cons, List.zip_nil_left, List.zip_nil_right, freeOps, allV, under, factAt, fillA, List.getElem?_cons_zero, List.getElem?_cons_succ, List.range_succ, List.range_zero, List.nil_append, List.cons_append, Act.put, List.setIfInBounds_toArray, List.set_cons_zero, List.set_cons_succ])
        rintro x0 x1 x2 x3 x4 x5 x6 x7 w5 hb' e0 e1 e2 e3 e4 e5 e6 e7
        unfold Is at e0 e1 e2 e3 e4 e5 e6
        subst e0 e1 e2 e3 e4 e5 e6
        obtain ⟨Bgm, rfl, lB, gm⟩ := e7
        replace lB : wq.heap.size ≤ Bgm := lB
        replace hb := (hb.drew).trans (hb'.mono hb.size)
        have l_h1 := Nat.lt_of_lt_of_le (lt_of_block (w := wq) h1) lB
        replace h1 := keep_below hb' (lt_of_block (w := wq) h1) h1
        have l_g11 := Nat.lt_of_lt_of_le (lt_of_block (w := wq) g11) lB
        replace g11 := keep_below hb' (lt_of_block (w := wq) g11) g11
        have l_g50 := Nat.lt_of_lt_of_le (lt_of_block (w := wq) g50) lB
        replace g50 := keep_below hb' (lt_of_block (w := wq) g50) g50
        have l_g100 := Nat.lt_of_lt_of_le (lt_of_block (w := wq) g100) lB
        replace g100 := keep_below hb' (lt_of_block (w := wq) g100) g100
        go_upto_region 14 with (refine wpList_store_arr rfl rfl rfl rfl RTFe gm ?_)
        replace h1 := row_keep (g := Bgm) (c' := arr .u64 5 fun k => ((i_most F k : Nat) : Int)) h1 (Nat.ne_of_lt l_h1)
        replace g11 := row_keep (g := Bgm) (c' := arr .u64 5 fun k => ((i_most F k : Nat) : Int)) g11 (Nat.ne_of_lt l_g11)
        replace g50 := row_keep (g := Bgm) (c' := arr .u64 5 fun k => ((i_most F k : Nat) : Int)) g50 (Nat.ne_of_lt l_g50)
        replace g100 := row_keep (g := Bgm) (c' := arr .u64 5 fun k => ((i_most F k : Nat) : Int)) g100 (Nat.ne_of_lt l_g100)
        replace gm := row_self (c' := arr .u64 5 fun k => ((i_most F k : Nat) : Int)) gm
        replace hb := row_below (g := Bgm) hb (Nat.le_trans ho lB) (arr .u64 5 fun k => ((i_most F k : Nat) : Int))
        generalize w5.setRow Bgm (arr .u64 5 fun k => ((i_most F k : Nat) : Int)) = w6 at *
        clear l_h1 l_g11 l_g50 l_g100 lB ho hb'
        (try simp only [Act.put, List.setIfInBounds_toArray, List.set_cons_zero, List.set_cons_succ])
        clear g50 g100
        go_wp2_with (first | (refine wpList_load_arr rfl rfl rfl RTFe g11 ?_) | (refine wpList_load_arr rfl rfl rfl RTFe gm ?_) | (go_at_call 37; fail))
        refine (ones_any (i_most F) (i_eleven F) (ok_most hq'.out) (ok_eleven hq'.out) 5 (by omega) _).mono ?_
        rintro e w4 ⟨rfl, b4⟩
        replace h1 := keep_below b4 (lt_of_block h1) h1
        replace g11 := keep_below b4 (lt_of_block g11) g11
        replace gm := keep_below b4 (lt_of_block gm) gm
        replace hb := hb.trans (b4.mono hb.size)
        clear b4
        rw [show (fun k => ((onesN (i_most F) 5 (i_eleven F) k : Nat) : Int)) = fun k => ((invN F k : Nat) : Int) from by unfold invN; rfl]
        go_wp2_with (refine wpList_store_arr rfl rfl rfl rfl RTFe h1 ?_)
        refine bodyPost_ret (results_arr_tmp rfl rfl rfl RTFe (row_self h1)) rfl ⟨?_, row_below hb (by omega) _⟩
        rw [told1_yes hq'.out]
        first | rfl | (rw [if_pos hq'.out]; rfl)
  · rw [show decide (okF F 5) = false from decide_eq_false hq]
    go_wp2_with (first | (refine wpList_val' rfl (run_op_build rfl (by simp [Act.eval, Act.put]) built_fe) ?_) | (refine wpList_store_arr rfl rfl rfl rfl RTFe h1 ?_))
    refine bodyPost_ret (results_arr_tmp rfl rfl rfl RTFe (row_self h1)) rfl ⟨?_, row_below hb (by omega) _⟩
    rw [told1_no hq]
    first | rfl | (rw [if_neg hq]; rfl)
end Go.Proofs.Ythgjhipfgdlbnaa
