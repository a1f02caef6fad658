/- The walks of layer 6: the reckoner's methods, of numbers that may be. -/
import Derived.Test.YthgjhipfgdlbnaaFeZ
import Derived.Test.YthgjhipfgdlbnaaAnd
import Derived.Test.YthgjhipfgdlbnaaNew
namespace Go.Proofs.Ythgjhipfgdlbnaa
set_option linter.unusedSimpArgs false
set_option linter.unusedVariables false
open Go.RowKit
attribute [local irreducible] accN byteN prodN carN diffN sqN sumN difN oneF valN bytesN invN ofN

/-- What is stored where it stood changes nothing. -/
theorem setCell_same {w : World} {B t : Nat} {k : IntKind} {n : Nat} {f : Nat → Int} (h : w.heap[B]? = some (.cells (arr k n f) t (0, 0))) (i : Nat) (hi : i < n) : w.setCell ⟨B, i, none⟩ (.int k (f i)) = w := by
  unfold World.setCell
  have e : w.heap.modify B (fun | .cells c elem frozen => .cells (if ((none : Option Nat)).isSome then c else c.setIfInBounds i (.int k (f i))) elem frozen | o => o) = w.heap := by
    apply Array.ext_getElem?
    intro j
    rw [Array.getElem?_modify]
    by_cases hj : B = j
    · subst hj
      rw [if_pos rfl, h]
      simp only [Option.map_some, Option.isSome_none, Bool.false_eq_true, if_false]
      rw [arr_set]
      congr 2
      refine arr_ext fun j hj => ?_
      unfold upd
      split
      · rename_i e; rw [e]
      · rfl
    · rw [if_neg hj]
  cases w
  simp only [World.mk.injEq, and_true]
  exact e
def RTRec0 : Nat := 0
theorem RTRec : RowT Try.prog 39 1 := ⟨_, Try.underlying39, rfl, by kernel_rfl⟩

set_option maxRecDepth 100000 in
set_option maxHeartbeats 1000000 in
theorem keep_yes (R : Nat) (F : Nat → Nat) (w : World) (hr : w.heap[R]? = some (.cells (arr .i64 1 fun _ => 0) 39 (0, 0))) :
    Calls Try.prog 23 #[.pointer (some ⟨R, 0, none⟩), .agg (arr .u64 5 fun i => ((F i : Nat) : Int)), .int .i64 0] w fun e w' => e = .returned (.agg (arr .u64 5 fun i => ((F i : Nat) : Int))) ∧ Below w.heap.size w w' := by
  have hlt := lt_of_block hr
  go_enter Try.func23, Try.ntmps23
  obtain ⟨h0, h1, hsz, hb⟩ := alloc2 w (.cells (arr .u64 5 fun i => ((F i : Nat) : Int)) 34) (.cells (arr .u64 5 fun _ => 0) 34)
  replace hr := keep_below hb hlt hr
  go_upto_region 1 with (refine wpList_alloc_arr rfl rfl ZTFe ?_)
  generalize (w.alloc (.cells (arr .u64 5 fun i => ((F i : Nat) : Int)) 34)).alloc (.cells (arr .u64 5 fun _ => 0) 34) = wa at *
  (try simp only [Act.put, List.setIfInBounds_toArray, List.set_cons_zero, List.set_cons_succ])
  simp only [World.size_alloc]
  have cr := cell_arr hr 0 (by omega)
  have fr := free_arr hr 0
  have es := setCell_same hr 0 (by omega)
  clear hsz
  go_wp2_with (first | (refine wpList_load_arr rfl rfl rfl RTFe h0 ?_) | (refine wpList_store_arr rfl rfl rfl rfl RTFe h1 ?_))
  exact bodyPost_ret (results_arr rfl rfl RTFe (row_self h1)) rfl ⟨rfl, row_below hb (by omega) _⟩


set_option maxRecDepth 100000 in
set_option maxHeartbeats 1000000 in
theorem radd_yes (R : Nat) (F G : Nat → Nat) (hF : okF F 5) (hG : okF G 5) (w : World) (hr : w.heap[R]? = some (.cells (arr .i64 1 fun _ => 0) 39 (0, 0))) :
    Calls Try.prog 18 #[.pointer (some ⟨R, 0, none⟩), .agg (arr .u64 5 fun i => ((F i : Nat) : Int)), .agg (arr .u64 5 fun i => ((G i : Nat) : Int))] w fun e w' => e = .returned (.agg (arr .u64 5 fun i => ((sumN F G i : Nat) : Int))) ∧ Below w.heap.size w w' := by
  have hlt := lt_of_block hr
  go_enter Try.func18, Try.ntmps18
  obtain ⟨h0, h1, h2, hsz, hb⟩ := alloc3 w (.cells (arr .u64 5 fun i => ((F i : Nat) : Int)) 34) (.cells (arr .u64 5 fun i => ((G i : Nat) : Int)) 34) (.cells (arr .u64 5 fun _ => 0) 34)
  replace hr := keep_below hb hlt hr
  go_upto_region 1 with (refine wpList_alloc_arr rfl rfl ZTFe ?_)
  generalize (((w).alloc (.cells (arr .u64 5 fun i => ((F i : Nat) : Int)) 34)).alloc (.cells (arr .u64 5 fun i => ((G i : Nat) : Int)) 34)).alloc (.cells (arr .u64 5 fun _ => 0) 34) = wa at *
  (try simp only [Act.put, List.setIfInBounds_toArray, List.set_cons_zero, List.set_cons_succ])
  simp only [World.size_alloc]
  have okF' := Lib.hid hF
  have okG' := Lib.hid hG
  clear hF hG hsz
  go_wp2_with (first | (refine wpList_load_arr rfl rfl rfl RTFe h0 ?_) | (refine wpList_load_arr rfl rfl rfl RTFe h1 ?_) | (go_at_call 33; fail))
  refine (Add_yes F G okF'.out okG'.out _).mono ?_
  rintro e w4 ⟨rfl, b4⟩
  replace hr := keep_below b4 (lt_of_block hr) hr
  replace h2 := keep_below b4 (lt_of_block h2) h2
  replace hb := hb.trans (b4.mono hb.size)
  clear b4
  go_wp2_with (first | (go_at_call 23; fail))
  refine (keep_yes R _ _ hr).mono ?_
  rintro e w5 ⟨rfl, b5⟩
  replace h2 := keep_below b5 (lt_of_block h2) h2
  replace hb := hb.trans (b5.mono hb.size)
  clear b5
  go_wp2_with (first | (refine wpList_store_arr rfl rfl rfl rfl RTFe h2 ?_))
  exact bodyPost_ret (results_arr rfl rfl RTFe (row_self h2)) rfl ⟨rfl, row_below hb (by omega) _⟩


set_option maxRecDepth 100000 in
set_option maxHeartbeats 1000000 in
theorem rsub_yes (R : Nat) (F G : Nat → Nat) (hF : okF F 5) (hG : okF G 5) (w : World) (hr : w.heap[R]? = some (.cells (arr .i64 1 fun _ => 0) 39 (0, 0))) :
    Calls Try.prog 19 #[.pointer (some ⟨R, 0, none⟩), .agg (arr .u64 5 fun i => ((F i : Nat) : Int)), .agg (arr .u64 5 fun i => ((G i : Nat) : Int))] w fun e w' => e = .returned (.agg (arr .u64 5 fun i => ((difN F G i : Nat) : Int))) ∧ Below w.heap.size w w' := by
  have hlt := lt_of_block hr
  go_enter Try.func19, Try.ntmps19
  obtain ⟨h0, h1, h2, hsz, hb⟩ := alloc3 w (.cells (arr .u64 5 fun i => ((F i : Nat) : Int)) 34) (.cells (arr .u64 5 fun i => ((G i : Nat) : Int)) 34) (.cells (arr .u64 5 fun _ => 0) 34)
  replace hr := keep_below hb hlt hr
  go_upto_region 1 with (refine wpList_alloc_arr rfl rfl ZTFe ?_)
  generalize (((w).alloc (.cells (arr .u64 5 fun i => ((F i : Nat) : Int)) 34)).alloc (.cells (arr .u64 5 fun i => ((G i : Nat) : Int)) 34)).alloc (.cells (arr .u64 5 fun _ => 0) 34) = wa at *
  (try simp only [Act.put, List.setIfInBounds_toArray, List.set_cons_zero, List.set_cons_succ])
  simp only [World.size_alloc]
  have okF' := Lib.hid hF
  have okG' := Lib.hid hG
  clear hF hG hsz
  go_wp2_with (first | (refine wpList_load_arr rfl rfl rfl RTFe h0 ?_) | (refine wpList_load_arr rfl rfl rfl RTFe h1 ?_) | (go_at_call 34; fail))
  refine (Sub_yes F G okF'.out okG'.out _).mono ?_
  rintro e w4 ⟨rfl, b4⟩
  replace hr := keep_below b4 (lt_of_block hr) hr
  replace h2 := keep_below b4 (lt_of_block h2) h2
  replace hb := hb.trans (b4.mono hb.size)
  clear b4
  go_wp2_with (first | (go_at_call 23; fail))
  refine (keep_yes R _ _ hr).mono ?_
  rintro e w5 ⟨rfl, b5⟩
  replace h2 := keep_below b5 (lt_of_block h2) h2
  replace hb := hb.trans (b5.mono hb.size)
  clear b5
  go_wp2_with (first | (refine wpList_store_arr rfl rfl rfl rfl RTFe h2 ?_))
  exact bodyPost_ret (results_arr rfl rfl RTFe (row_self h2)) rfl ⟨rfl, row_below hb (by omega) _⟩


set_option maxRecDepth 100000 in
set_option maxHeartbeats 1000000 in
theorem rmul_yes (R : Nat) (F G : Nat → Nat) (hF : okF F 5) (hG : okF G 5) (w : World) (hr : w.heap[R]? = some (.cells (arr .i64 1 fun _ => 0) 39 (0, 0))) :
    Calls Try.prog 20 #[.pointer (some ⟨R, 0, none⟩), .agg (arr .u64 5 fun i => ((F i : Nat) : Int)), .agg (arr .u64 5 fun i => ((G i : Nat) : Int))] w fun e w' => e = .returned (.agg (arr .u64 5 fun i => ((prodN F G i : Nat) : Int))) ∧ Below w.heap.size w w' := by
  have hlt := lt_of_block hr
  go_enter Try.func20, Try.ntmps20
  obtain ⟨h0, h1, h2, hsz, hb⟩ := alloc3 w (.cells (arr .u64 5 fun i => ((F i : Nat) : Int)) 34) (.cells (arr .u64 5 fun i => ((G i : Nat) : Int)) 34) (.cells (arr .u64 5 fun _ => 0) 34)
  replace hr := keep_below hb hlt hr
  go_upto_region 1 with (refine wpList_alloc_arr rfl rfl ZTFe ?_)
  generalize (((w).alloc (.cells (arr .u64 5 fun i => ((F i : Nat) : Int)) 34)).alloc (.cells (arr .u64 5 fun i => ((G i : Nat) : Int)) 34)).alloc (.cells (arr .u64 5 fun _ => 0) 34) = wa at *
  (try simp only [Act.put, List.setIfInBounds_toArray, List.set_cons_zero, List.set_cons_succ])
  simp only [World.size_alloc]
  have okF' := Lib.hid hF
  have okG' := Lib.hid hG
  clear hF hG hsz
  go_wp2_with (first | (refine wpList_load_arr rfl rfl rfl RTFe h0 ?_) | (refine wpList_load_arr rfl rfl rfl RTFe h1 ?_) | (go_at_call 35; fail))
  refine (Mul_yes F G okF'.out okG'.out _).mono ?_
  rintro e w4 ⟨rfl, b4⟩
  replace hr := keep_below b4 (lt_of_block hr) hr
  replace h2 := keep_below b4 (lt_of_block h2) h2
  replace hb := hb.trans (b4.mono hb.size)
  clear b4
  go_wp2_with (first | (go_at_call 23; fail))
  refine (keep_yes R _ _ hr).mono ?_
  rintro e w5 ⟨rfl, b5⟩
  replace h2 := keep_below b5 (lt_of_block h2) h2
  replace hb := hb.trans (b5.mono hb.size)
  clear b5
  go_wp2_with (first | (refine wpList_store_arr rfl rfl rfl rfl RTFe h2 ?_))
  exact bodyPost_ret (results_arr rfl rfl RTFe (row_self h2)) rfl ⟨rfl, row_below hb (by omega) _⟩


set_option maxRecDepth 100000 in
set_option maxHeartbeats 1000000 in
theorem rsquare_yes (R : Nat) (F : Nat → Nat) (hF : okF F 5) (w : World) (hr : w.heap[R]? = some (.cells (arr .i64 1 fun _ => 0) 39 (0, 0))) :
    Calls Try.prog 21 #[.pointer (some ⟨R, 0, none⟩), .agg (arr .u64 5 fun i => ((F i : Nat) : Int))] w fun e w' => e = .returned (.agg (arr .u64 5 fun i => ((sqN F 1 i : Nat) : Int))) ∧ Below w.heap.size w w' := by
  have hlt := lt_of_block hr
  go_enter Try.func21, Try.ntmps21
  obtain ⟨h0, h1, hsz, hb⟩ := alloc2 w (.cells (arr .u64 5 fun i => ((F i : Nat) : Int)) 34) (.cells (arr .u64 5 fun _ => 0) 34)
  replace hr := keep_below hb hlt hr
  go_upto_region 1 with (refine wpList_alloc_arr rfl rfl ZTFe ?_)
  generalize ((w).alloc (.cells (arr .u64 5 fun i => ((F i : Nat) : Int)) 34)).alloc (.cells (arr .u64 5 fun _ => 0) 34) = wa at *
  (try simp only [Act.put, List.setIfInBounds_toArray, List.set_cons_zero, List.set_cons_succ])
  simp only [World.size_alloc]
  have okF' := Lib.hid hF
  clear hF hsz
  go_wp2_with (first | (refine wpList_load_arr rfl rfl rfl RTFe h0 ?_) | (go_at_call 36; fail))
  refine (Square_yes F okF'.out 1 (by omega) _).mono ?_
  rintro e w4 ⟨rfl, b4⟩
  replace hr := keep_below b4 (lt_of_block hr) hr
  replace h1 := keep_below b4 (lt_of_block h1) h1
  replace hb := hb.trans (b4.mono hb.size)
  clear b4
  go_wp2_with (first | (go_at_call 23; fail))
  refine (keep_yes R _ _ hr).mono ?_
  rintro e w5 ⟨rfl, b5⟩
  replace h1 := keep_below b5 (lt_of_block h1) h1
  replace hb := hb.trans (b5.mono hb.size)
  clear b5
  go_wp2_with (first | (refine wpList_store_arr rfl rfl rfl rfl RTFe h1 ?_))
  exact bodyPost_ret (results_arr rfl rfl RTFe (row_self h1)) rfl ⟨rfl, row_below hb (by omega) _⟩

end Go.Proofs.Ythgjhipfgdlbnaa
