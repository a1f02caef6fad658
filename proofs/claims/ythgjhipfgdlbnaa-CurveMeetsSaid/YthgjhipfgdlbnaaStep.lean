/- The walk of layer 6: a step of the ladder, of numbers that may be. -/
import Derived.Test.YthgjhipfgdlbnaaSwap
namespace Go.Proofs.Ythgjhipfgdlbnaa
set_option linter.unusedSimpArgs false
set_option linter.unusedVariables false
open Go.RowKit
attribute [local irreducible] accN byteN prodN carN diffN sqN sumN difN oneF valN bytesN invN ofN

section
variable {P : Program} {Q : Exit → Act → World → Prop} {a : Act} {ops : Array Oper} {o : Oper} {r : Fact} {w : World}
theorem free_load_as {ty : TypeId} {x : Operand} {n M t g off : Nat} {k : IntKind} {f : Nat → Int} {fr : Nat × Nat} (f' : Nat → Int) (hg : Region.wanted o (yielded ops a.tmps) = true) (ho : o.op = .load ty x) (hx : a.eval x = .pointer (some ⟨g, off, none⟩)) (hT : RowT P ty n)
    (hc : w.heap[g]? = some (.cells (arr k M f) t fr)) (hle : off + n ≤ M) (hf : ∀ i, i < n → f (off + i) = f' i) (h : r (.agg (arr k n f')) w) : freeOp P ops Q o r a w :=
  free_v hg (by rw [run_op_load ho hx (run_loadVar_arrV hT hc hle), show (arrV n fun i => Value.int k (f (off + i))) = arr k n f' from arr_ext hf]) h
end
theorem ne_of_type {w : World} {A B : Nat} {c c' : Array Value} {t t' : TypeId} {fr fr' : Nat × Nat} (h : w.heap[A]? = some (.cells c t fr)) (h' : w.heap[B]? = some (.cells c' t' fr')) (hne : t ≠ t') : A ≠ B := fun e => by
  subst e
  rw [h] at h'
  injection h' with h'
  injection h' with _ h' _
  exact hne h'
theorem two_lo (F G : Nat → Nat) (i : Nat) (hi : i < 5) : ((two5 F G (0 + i) : Nat) : Int) = ((F i : Nat) : Int) := by unfold two5; rw [if_pos (by omega), Nat.zero_add]
theorem two_hi (F G : Nat → Nat) (i : Nat) (hi : i < 5) : ((two5 F G (5 + i) : Nat) : Int) = ((G i : Nat) : Int) := by unfold two5; rw [if_neg (by omega), Nat.add_sub_cancel_left]
theorem built_point (F G : Nat → Nat) : Try.prog.built 41 [(0, .agg (arr .u64 5 fun i => ((F i : Nat) : Int))), (1, .agg (arr .u64 5 fun i => ((G i : Nat) : Int)))] = some (arr .u64 10 fun i => ((two5 F G i : Nat) : Int)) := by kernel_rfl
/-- Where the ladder's numbers lie. -/
structure Lad (w : World) (RV R LO HI FI : Nat) (L H U : Nat → Nat) : Prop where
  rv : w.heap[RV]? = some (.cells #[.pointer (some ⟨R, 0, none⟩)] 37 (0, 0))
  r : w.heap[R]? = some (.cells (arr .i64 1 fun _ => 0) 39 (0, 0))
  lo : w.heap[LO]? = some (.cells (arr .u64 10 fun i => ((L i : Nat) : Int)) 41 (0, 0))
  hi : w.heap[HI]? = some (.cells (arr .u64 10 fun i => ((H i : Nat) : Int)) 41 (0, 0))
  fi : w.heap[FI]? = some (.cells (arr .u64 5 fun i => ((U i : Nat) : Int)) 34 (0, 0))
/-- A step's numbers. -/
def sA (X Z : Nat → Nat) := sumN X Z
def sB (X Z : Nat → Nat) := difN X Z
def sDA (X Z X' Z' : Nat → Nat) := prodN (difN X' Z') (sA X Z)
def sCB (X Z X' Z' : Nat → Nat) := prodN (sumN X' Z') (sB X Z)
def sHX (X Z X' Z' : Nat → Nat) := sqN (sumN (sDA X Z X' Z') (sCB X Z X' Z')) 1
def sHZ (X Z X' Z' U : Nat → Nat) := prodN U (sqN (difN (sDA X Z X' Z') (sCB X Z X' Z')) 1)
def sAA (X Z : Nat → Nat) := sqN (sA X Z) 1
def sBB (X Z : Nat → Nat) := sqN (sB X Z) 1
def sE (X Z : Nat → Nat) := difN (sAA X Z) (sBB X Z)
def sLX (X Z : Nat → Nat) := prodN (sAA X Z) (sBB X Z)
def sLZ (X Z : Nat → Nat) := prodN (sE X Z) (sumN (sAA X Z) (prodN (oneF 121665) (sE X Z)))
section
variable {X Z X' Z' U : Nat → Nat}
theorem ok_A (h : okF X 5) (h' : okF Z 5) : okF (sA X Z) 5 := sum_ok h h'
theorem ok_B (h : okF X 5) (h' : okF Z 5) : okF (sB X Z) 5 := dif_ok h
theorem ok_DA (h1 : okF X 5) (h2 : okF Z 5) (h3 : okF X' 5) (h4 : okF Z' 5) : okF (sDA X Z X' Z') 5 := prod_ok _ _ (dif_ok h3) (ok_A h1 h2)
theorem ok_CB (h1 : okF X 5) (h2 : okF Z 5) (h3 : okF X' 5) (h4 : okF Z' 5) : okF (sCB X Z X' Z') 5 := prod_ok _ _ (sum_ok h3 h4) (ok_B h1 h2)
theorem ok_HX (h1 : okF X 5) (h2 : okF Z 5) (h3 : okF X' 5) (h4 : okF Z' 5) : okF (sHX X Z X' Z') 5 := sq_ok _ (sum_ok (ok_DA h1 h2 h3 h4) (ok_CB h1 h2 h3 h4)) 1
theorem ok_HZ (h1 : okF X 5) (h2 : okF Z 5) (h3 : okF X' 5) (h4 : okF Z' 5) (h5 : okF U 5) : okF (sHZ X Z X' Z' U) 5 := prod_ok _ _ h5 (sq_ok _ (dif_ok (ok_DA h1 h2 h3 h4)) 1)
theorem ok_AA (h : okF X 5) (h' : okF Z 5) : okF (sAA X Z) 5 := sq_ok _ (ok_A h h') 1
theorem ok_BB (h : okF X 5) (h' : okF Z 5) : okF (sBB X Z) 5 := sq_ok _ (ok_B h h') 1
theorem ok_E (h : okF X 5) (h' : okF Z 5) : okF (sE X Z) 5 := dif_ok (ok_AA h h')
theorem ok_121665 : okF (oneF 121665) 5 := one_ok (by omega)
theorem ok_LX (h : okF X 5) (h' : okF Z 5) : okF (sLX X Z) 5 := prod_ok _ _ (ok_AA h h') (ok_BB h h')
theorem ok_LZ (h : okF X 5) (h' : okF Z 5) : okF (sLZ X Z) 5 := prod_ok _ _ (ok_E h h') (sum_ok (ok_AA h h') (prod_ok _ _ ok_121665 (ok_E h h')))
end

set_option maxRecDepth 100000 in
set_option maxHeartbeats 8000000 in
theorem step_any (RV R LO HI FI : Nat) (X Z X' Z' U : Nat → Nat) (oX : okF X 5) (oZ : okF Z 5) (oX' : okF X' 5) (oZ' : okF Z' 5) (oU : okF U 5) (hne : LO ≠ HI) (w : World) (L : Lad w RV R LO HI FI (two5 X Z) (two5 X' Z') U) :
    Calls Try.prog 17 #[.pointer (some ⟨RV, 0, none⟩), .pointer (some ⟨LO, 0, none⟩), .pointer (some ⟨HI, 0, none⟩), .pointer (some ⟨FI, 0, none⟩)] w fun e w' => e = .returned (.tuple #[]) ∧ Bar LO HI w w' ∧
      Lad w' RV R LO HI FI (two5 (sLX X Z) (sLZ X Z)) (two5 (sHX X Z X' Z') (sHZ X Z X' Z' U)) U := by
  obtain ⟨hrv, hr, hlo, hhi, hfi⟩ := L
  have OX := Lib.hid oX
  have OZ := Lib.hid oZ
  have OX' := Lib.hid oX'
  have OZ' := Lib.hid oZ'
  have OU := Lib.hid oU
  have n1 := Lib.hid (ne_of_type hrv hlo (by decide))
  have n2 := Lib.hid (ne_of_type hrv hhi (by decide))
  have n3 := Lib.hid (ne_of_type hr hlo (by decide))
  have n4 := Lib.hid (ne_of_type hr hhi (by decide))
  have n5 := Lib.hid (ne_of_type hfi hlo (by decide))
  have n6 := Lib.hid (ne_of_type hfi hhi (by decide))
  have N7 := Lib.hid hne
  clear oX oZ oX' oZ' oU hne
  go_enter Try.func17, Try.ntmps17
  go_upto_region 0 with (fail)
  (try simp only [Act.put, List.setIfInBounds_toArray, List.set_cons_zero, List.set_cons_succ])
  refine wp_cut (fun x => x.heap[RV]? = some (.cells #[.pointer (some ⟨R, 0, none⟩)] 37 (0, 0)) ∧ x.heap[R]? = some (.cells (arr .i64 1 fun _ => 0) 39 (0, 0)) ∧ x.heap[LO]? = some (.cells (arr .u64 10 fun i => ((two5 X Z i : Nat) : Int)) 41 (0, 0)) ∧ x.heap[HI]? = some (.cells (arr .u64 10 fun i => ((two5 X' Z' i : Nat) : Int)) 41 (0, 0)) ∧ x.heap[FI]? = some (.cells (arr .u64 5 fun i => ((U i : Nat) : Int)) 34 (0, 0)) ∧ Bar LO HI w x) ⟨hrv, hr, hlo, hhi, hfi, Bar.refl _ _ _⟩ ?_
  clear hrv hr hlo hhi hfi
  rintro wq ⟨hrv, hr, hlo, hhi, hfi, hb⟩
  have lw := hb.size
  refine wp_region_free2 14 [Is (.pointer (some ⟨R, 0, none⟩)), Is (.pointer (some ⟨LO, 0, none⟩)), Is (.agg (arr .u64 5 fun i => ((X i : Nat) : Int))), Is (.pointer (some ⟨LO, 5, none⟩)), Is (.agg (arr .u64 5 fun i => ((Z i : Nat) : Int))), Is (.agg (arr .u64 5 fun i => (((sA X Z) i : Nat) : Int))), Is (.pointer (some ⟨R, 0, none⟩)), Is (.pointer (some ⟨LO, 0, none⟩)), Is (.agg (arr .u64 5 fun i => ((X i : Nat) : Int))), Is (.pointer (some ⟨LO, 5, none⟩)), Is (.agg (arr .u64 5 fun i => ((Z i : Nat) : Int))), Is (.agg (arr .u64 5 fun i => (((sB X Z) i : Nat) : Int))), NewAt wq.heap.size (.cells (arr .u64 5 fun _ => 0) 34), NewAt wq.heap.size (.cells (arr .u64 5 fun _ => 0) 34)] [[], [], [1], [], [3], [0, 2, 4], [], [], [7], [], [9], [6, 8, 10], [], []] [(12, 13)] (by kernel_rfl) (by kernel_rfl) (by kernel_rfl) rfl (st_cons (is_stays _) (st_cons (is_stays _) (st_cons (is_stays _) (st_cons (is_stays _) (st_cons (is_stays _) (st_cons (is_stays _) (st_cons (is_stays _) (st_cons (is_stays _) (st_cons (is_stays _) (st_cons (is_stays _) (st_cons (is_stays _) (st_cons (is_stays _) (st_cons (new_stays _ _) (st_cons (new_stays _ _) st_nil)))))))))))))) ?_ ?_
  · (simp only [List.take_succ_cons, List.take_zero, List.drop_succ_cons, List.drop_zero, List.zip_cons_cons, List.zip_nil_left, List.zip_nil_right, freeOps2, allV, under, underD, apartAt, factAt, fillA, List.getElem?_cons_zero, List.getElem?_cons_succ, List.range_succ, List.range_zero, List.nil_append, List.cons_append, Act.put, List.setIfInBounds_toArray, List.set_cons_zero, List.set_cons_succ])
    refine ⟨?_, ?_, ?_, ?_, ?_, ?_, ?_, ?_, ?_, ?_, ?_, ?_, ?_, ?_, trivial⟩
    · intro x0 x1 x2 x3 x4 x5 x6 x7 x8 x9 x10 x11 x12 x13 w' hb' 
      have cr := cell_of_row _ _ 0 _ _ _ (keep_below hb' (lt_of_block (w := wq) hrv) hrv)
      refine free2_of (free_e rfl (fun K hK => ?_)) rfl
      go_simp
      exact hK _ _ (Below.refl _ _) rfl
    · intro x0 x1 x2 x3 x4 x5 x6 x7 x8 x9 x10 x11 x12 x13 w' hb' 
      refine free2_of (free_e rfl (fun K hK => ?_)) rfl
      go_simp
      exact hK _ _ (Below.refl _ _) rfl
    · intro x0 x1 x2 x3 x4 x5 x6 x7 x8 x9 x10 x11 x12 x13 w' hb' e0
      unfold Is at e0
      subst e0
      exact free2_of (free_load_as (fun i => ((X i : Nat) : Int)) rfl rfl rfl RTFe (keep_below hb' (lt_of_block (w := wq) hlo) hlo) (by omega) (fun i hi => two_lo _ _ i hi) rfl) rfl
    · intro x0 x1 x2 x3 x4 x5 x6 x7 x8 x9 x10 x11 x12 x13 w' hb' 
      refine free2_of (free_e rfl (fun K hK => ?_)) rfl
      go_simp
      exact hK _ _ (Below.refl _ _) rfl
    · intro x0 x1 x2 x3 x4 x5 x6 x7 x8 x9 x10 x11 x12 x13 w' hb' e0
      unfold Is at e0
      subst e0
      exact free2_of (free_load_as (fun i => ((Z i : Nat) : Int)) rfl rfl rfl RTFe (keep_below hb' (lt_of_block (w := wq) hlo) hlo) (by omega) (fun i hi => two_hi _ _ i hi) rfl) rfl
    · intro x0 x1 x2 x3 x4 x5 x6 x7 x8 x9 x10 x11 x12 x13 w' hb' e0 e1 e2
      unfold Is at e0 e1 e2
      subst e0 e1 e2
      refine free2_of (free_e rfl (fun K hK => ?_)) rfl
      go_simp
      refine (radd_yes R X Z OX.out OZ.out _ (keep_below hb' (lt_of_block (w := wq) hr) hr)).mono ?_
      rintro e w4 ⟨rfl, b4⟩
      exact hK _ _ b4 (by unfold Is sA; rfl)
    · intro x0 x1 x2 x3 x4 x5 x6 x7 x8 x9 x10 x11 x12 x13 w' hb' 
      have cr := cell_of_row _ _ 0 _ _ _ (keep_below hb' (lt_of_block (w := wq) hrv) hrv)
      refine free2_of (free_e rfl (fun K hK => ?_)) rfl
      go_simp
      exact hK _ _ (Below.refl _ _) rfl
    · intro x0 x1 x2 x3 x4 x5 x6 x7 x8 x9 x10 x11 x12 x13 w' hb' 
      refine free2_of (free_e rfl (fun K hK => ?_)) rfl
      go_simp
      exact hK _ _ (Below.refl _ _) rfl
    · intro x0 x1 x2 x3 x4 x5 x6 x7 x8 x9 x10 x11 x12 x13 w' hb' e0
      unfold Is at e0
      subst e0
      exact free2_of (free_load_as (fun i => ((X i : Nat) : Int)) rfl rfl rfl RTFe (keep_below hb' (lt_of_block (w := wq) hlo) hlo) (by omega) (fun i hi => two_lo _ _ i hi) rfl) rfl
    · intro x0 x1 x2 x3 x4 x5 x6 x7 x8 x9 x10 x11 x12 x13 w' hb' 
      refine free2_of (free_e rfl (fun K hK => ?_)) rfl
      go_simp
      exact hK _ _ (Below.refl _ _) rfl
    · intro x0 x1 x2 x3 x4 x5 x6 x7 x8 x9 x10 x11 x12 x13 w' hb' e0
      unfold Is at e0
      subst e0
      exact free2_of (free_load_as (fun i => ((Z i : Nat) : Int)) rfl rfl rfl RTFe (keep_below hb' (lt_of_block (w := wq) hlo) hlo) (by omega) (fun i hi => two_hi _ _ i hi) rfl) rfl
    · intro x0 x1 x2 x3 x4 x5 x6 x7 x8 x9 x10 x11 x12 x13 w' hb' e0 e1 e2
      unfold Is at e0 e1 e2
      subst e0 e1 e2
      refine free2_of (free_e rfl (fun K hK => ?_)) rfl
      go_simp
      refine (rsub_yes R X Z OX.out OZ.out _ (keep_below hb' (lt_of_block (w := wq) hr) hr)).mono ?_
      rintro e w4 ⟨rfl, b4⟩
      exact hK _ _ b4 (by unfold Is sB; rfl)
    · intro x0 x1 x2 x3 x4 x5 x6 x7 x8 x9 x10 x11 x12 x13 w' hb' 
      exact free2_alloc rfl rfl ZTFe ⟨_, rfl, hb'.size, heap_alloc_new _ _⟩
    · intro x0 x1 x2 x3 x4 x5 x6 x7 x8 x9 x10 x11 x12 x13 w' hb' 
      exact free2_alloc rfl rfl ZTFe ⟨_, rfl, hb'.size, heap_alloc_new _ _⟩
  · (simp only [List.take_succ_cons, List.take_zero, List.drop_succ_cons, List.drop_zero, List.zip_cons_cons, List.zip_nil_left, List.zip_nil_right, freeOps2, allV, under, underD, apartAt, factAt, fillA, List.getElem?_cons_zero, List.getElem?_cons_succ, List.range_succ, List.range_zero, List.nil_append, List.cons_append, Act.put, List.setIfInBounds_toArray, List.set_cons_zero, List.set_cons_succ])
    rintro x0 x1 x2 x3 x4 x5 x6 x7 x8 x9 x10 x11 x12 x13 w5 hb' e0 e1 e2 e3 e4 e5 e6 e7 e8 e9 e10 e11 e12 e13 d0
    unfold Is at e0 e1 e2 e3 e4 e5 e6 e7 e8 e9 e10 e11
    subst e0 e1 e2 e3 e4 e5 e6 e7 e8 e9 e10 e11
    obtain ⟨BA, rfl, lBA, hA⟩ := e12
    replace lBA : wq.heap.size ≤ BA := lBA
    obtain ⟨BB, rfl, lBB, hB⟩ := e13
    replace lBB : wq.heap.size ≤ BB := lBB
    have nBABB : BA ≠ BB := fun e => d0 (by rw [e])
    clear d0
    have l_hrv := lt_of_block (w := wq) hrv
    replace hrv := keep_below hb' l_hrv hrv
    have l_hr := lt_of_block (w := wq) hr
    replace hr := keep_below hb' l_hr hr
    have l_hlo := lt_of_block (w := wq) hlo
    replace hlo := keep_below hb' l_hlo hlo
    have l_hhi := lt_of_block (w := wq) hhi
    replace hhi := keep_below hb' l_hhi hhi
    have l_hfi := lt_of_block (w := wq) hfi
    replace hfi := keep_below hb' l_hfi hfi
    replace hb := (Bar.drewl (Bar.of_below (P := LO) (Q := HI) (w := wq.drew) hb') |> fun h => hb.drew.trans (w' := wq.drew) (by exact ⟨h.os, h.tape, h.output, h.size, h.block⟩))
    go_upto_region 1 with (first | (refine wpList_store_arr rfl rfl rfl rfl RTFe hA ?_) | (refine wpList_store_arr rfl rfl rfl rfl RTFe (row_keep hB (Ne.symm nBABB)) ?_))
    replace hrv := row_keep (g := BA) (c' := (arr .u64 5 fun i => (((sA X Z) i : Nat) : Int))) hrv (Nat.ne_of_lt (Nat.lt_of_lt_of_le l_hrv lBA))
    replace hr := row_keep (g := BA) (c' := (arr .u64 5 fun i => (((sA X Z) i : Nat) : Int))) hr (Nat.ne_of_lt (Nat.lt_of_lt_of_le l_hr lBA))
    replace hlo := row_keep (g := BA) (c' := (arr .u64 5 fun i => (((sA X Z) i : Nat) : Int))) hlo (Nat.ne_of_lt (Nat.lt_of_lt_of_le l_hlo lBA))
    replace hhi := row_keep (g := BA) (c' := (arr .u64 5 fun i => (((sA X Z) i : Nat) : Int))) hhi (Nat.ne_of_lt (Nat.lt_of_lt_of_le l_hhi lBA))
    replace hfi := row_keep (g := BA) (c' := (arr .u64 5 fun i => (((sA X Z) i : Nat) : Int))) hfi (Nat.ne_of_lt (Nat.lt_of_lt_of_le l_hfi lBA))
    replace hA := row_self (c' := (arr .u64 5 fun i => (((sA X Z) i : Nat) : Int))) hA
    replace hB := row_keep (g := BA) (c' := (arr .u64 5 fun i => (((sA X Z) i : Nat) : Int))) hB (Ne.symm nBABB)
    replace hb := hb.row (g := BA) (.inr (.inr (Nat.le_trans lw lBA))) (arr .u64 5 fun i => (((sA X Z) i : Nat) : Int))
    replace hrv := row_keep (g := BB) (c' := (arr .u64 5 fun i => (((sB X Z) i : Nat) : Int))) hrv (Nat.ne_of_lt (Nat.lt_of_lt_of_le l_hrv lBB))
    replace hr := row_keep (g := BB) (c' := (arr .u64 5 fun i => (((sB X Z) i : Nat) : Int))) hr (Nat.ne_of_lt (Nat.lt_of_lt_of_le l_hr lBB))
    replace hlo := row_keep (g := BB) (c' := (arr .u64 5 fun i => (((sB X Z) i : Nat) : Int))) hlo (Nat.ne_of_lt (Nat.lt_of_lt_of_le l_hlo lBB))
    replace hhi := row_keep (g := BB) (c' := (arr .u64 5 fun i => (((sB X Z) i : Nat) : Int))) hhi (Nat.ne_of_lt (Nat.lt_of_lt_of_le l_hhi lBB))
    replace hfi := row_keep (g := BB) (c' := (arr .u64 5 fun i => (((sB X Z) i : Nat) : Int))) hfi (Nat.ne_of_lt (Nat.lt_of_lt_of_le l_hfi lBB))
    replace hA := row_keep (g := BB) (c' := (arr .u64 5 fun i => (((sB X Z) i : Nat) : Int))) hA nBABB
    replace hB := row_self (c' := (arr .u64 5 fun i => (((sB X Z) i : Nat) : Int))) hB
    replace hb := hb.row (g := BB) (.inr (.inr (Nat.le_trans lw lBB))) (arr .u64 5 fun i => (((sB X Z) i : Nat) : Int))
    replace lw : w.heap.size ≤ ((w5.setRow BA (arr .u64 5 fun i => (((sA X Z) i : Nat) : Int))).setRow BB (arr .u64 5 fun i => (((sB X Z) i : Nat) : Int))).heap.size := hb.size
    clear l_hrv l_hr l_hlo l_hhi l_hfi lBA lBB hb' nBABB
    generalize ((w5.setRow BA (arr .u64 5 fun i => (((sA X Z) i : Nat) : Int))).setRow BB (arr .u64 5 fun i => (((sB X Z) i : Nat) : Int))) = wn at *
    clear wq
    obtain ⟨wq, rfl⟩ : ∃ x, x = wn := ⟨_, rfl⟩
    (try simp only [Act.put, List.setIfInBounds_toArray, List.set_cons_zero, List.set_cons_succ])
    refine wp_region_free2 20 [Is (.pointer (some ⟨R, 0, none⟩)), Is (.pointer (some ⟨R, 0, none⟩)), Is (.pointer (some ⟨HI, 0, none⟩)), Is (.agg (arr .u64 5 fun i => ((X' i : Nat) : Int))), Is (.pointer (some ⟨HI, 5, none⟩)), Is (.agg (arr .u64 5 fun i => ((Z' i : Nat) : Int))), Is (.agg (arr .u64 5 fun i => (((difN X' Z') i : Nat) : Int))), Is (.agg (arr .u64 5 fun i => (((sA X Z) i : Nat) : Int))), Is (.agg (arr .u64 5 fun i => (((sDA X Z X' Z') i : Nat) : Int))), Is (.pointer (some ⟨R, 0, none⟩)), Is (.pointer (some ⟨R, 0, none⟩)), Is (.pointer (some ⟨HI, 0, none⟩)), Is (.agg (arr .u64 5 fun i => ((X' i : Nat) : Int))), Is (.pointer (some ⟨HI, 5, none⟩)), Is (.agg (arr .u64 5 fun i => ((Z' i : Nat) : Int))), Is (.agg (arr .u64 5 fun i => (((sumN X' Z') i : Nat) : Int))), Is (.agg (arr .u64 5 fun i => (((sB X Z) i : Nat) : Int))), Is (.agg (arr .u64 5 fun i => (((sCB X Z X' Z') i : Nat) : Int))), NewAt wq.heap.size (.cells (arr .u64 5 fun _ => 0) 34), NewAt wq.heap.size (.cells (arr .u64 5 fun _ => 0) 34)] [[], [], [], [2], [], [4], [1, 3, 5], [], [0, 6, 7], [], [], [], [11], [], [13], [10, 12, 14], [], [9, 15, 16], [], []] [(18, 19)] (by kernel_rfl) (by kernel_rfl) (by kernel_rfl) rfl (st_cons (is_stays _) (st_cons (is_stays _) (st_cons (is_stays _) (st_cons (is_stays _) (st_cons (is_stays _) (st_cons (is_stays _) (st_cons (is_stays _) (st_cons (is_stays _) (st_cons (is_stays _) (st_cons (is_stays _) (st_cons (is_stays _) (st_cons (is_stays _) (st_cons (is_stays _) (st_cons (is_stays _) (st_cons (is_stays _) (st_cons (is_stays _) (st_cons (is_stays _) (st_cons (is_stays _) (st_cons (new_stays _ _) (st_cons (new_stays _ _) st_nil)))))))))))))))))))) ?_ ?_
    · (simp only [List.take_succ_cons, List.take_zero, List.drop_succ_cons, List.drop_zero, List.zip_cons_cons, List.zip_nil_left, List.zip_nil_right, freeOps2, allV, under, underD, apartAt, factAt, fillA, List.getElem?_cons_zero, List.getElem?_cons_succ, List.range_succ, List.range_zero, List.nil_append, List.cons_append, Act.put, List.setIfInBounds_toArray, List.set_cons_zero, List.set_cons_succ])
      refine ⟨?_, ?_, ?_, ?_, ?_, ?_, ?_, ?_, ?_, ?_, ?_, ?_, ?_, ?_, ?_, ?_, ?_, ?_, ?_, ?_, trivial⟩
      · intro x0 x1 x2 x3 x4 x5 x6 x7 x8 x9 x10 x11 x12 x13 x14 x15 x16 x17 x18 x19 w' hb' 
        have cr := cell_of_row _ _ 0 _ _ _ (keep_below hb' (lt_of_block (w := wq) hrv) hrv)
        refine free2_of (free_e rfl (fun K hK => ?_)) rfl
        go_simp
        exact hK _ _ (Below.refl _ _) rfl
      · intro x0 x1 x2 x3 x4 x5 x6 x7 x8 x9 x10 x11 x12 x13 x14 x15 x16 x17 x18 x19 w' hb' 
        have cr := cell_of_row _ _ 0 _ _ _ (keep_below hb' (lt_of_block (w := wq) hrv) hrv)
        refine free2_of (free_e rfl (fun K hK => ?_)) rfl
        go_simp
        exact hK _ _ (Below.refl _ _) rfl
      · intro x0 x1 x2 x3 x4 x5 x6 x7 x8 x9 x10 x11 x12 x13 x14 x15 x16 x17 x18 x19 w' hb' 
        refine free2_of (free_e rfl (fun K hK => ?_)) rfl
        go_simp
        exact hK _ _ (Below.refl _ _) rfl
      · intro x0 x1 x2 x3 x4 x5 x6 x7 x8 x9 x10 x11 x12 x13 x14 x15 x16 x17 x18 x19 w' hb' e0
        unfold Is at e0
        subst e0
        exact free2_of (free_load_as (fun i => ((X' i : Nat) : Int)) rfl rfl rfl RTFe (keep_below hb' (lt_of_block (w := wq) hhi) hhi) (by omega) (fun i hi => two_lo _ _ i hi) rfl) rfl
      · intro x0 x1 x2 x3 x4 x5 x6 x7 x8 x9 x10 x11 x12 x13 x14 x15 x16 x17 x18 x19 w' hb' 
        refine free2_of (free_e rfl (fun K hK => ?_)) rfl
        go_simp
        exact hK _ _ (Below.refl _ _) rfl
      · intro x0 x1 x2 x3 x4 x5 x6 x7 x8 x9 x10 x11 x12 x13 x14 x15 x16 x17 x18 x19 w' hb' e0
        unfold Is at e0
        subst e0
        exact free2_of (free_load_as (fun i => ((Z' i : Nat) : Int)) rfl rfl rfl RTFe (keep_below hb' (lt_of_block (w := wq) hhi) hhi) (by omega) (fun i hi => two_hi _ _ i hi) rfl) rfl
      · intro x0 x1 x2 x3 x4 x5 x6 x7 x8 x9 x10 x11 x12 x13 x14 x15 x16 x17 x18 x19 w' hb' e0 e1 e2
        unfold Is at e0 e1 e2
        subst e0 e1 e2
        refine free2_of (free_e rfl (fun K hK => ?_)) rfl
        go_simp
        refine (rsub_yes R X' Z' OX'.out OZ'.out _ (keep_below hb' (lt_of_block (w := wq) hr) hr)).mono ?_
        rintro e w4 ⟨rfl, b4⟩
        exact hK _ _ b4 (by unfold Is; rfl)
      · intro x0 x1 x2 x3 x4 x5 x6 x7 x8 x9 x10 x11 x12 x13 x14 x15 x16 x17 x18 x19 w' hb' 
        exact free2_of (free_load_arr rfl rfl rfl RTFe (keep_below hb' (lt_of_block (w := wq) hA) hA) rfl) rfl
      · intro x0 x1 x2 x3 x4 x5 x6 x7 x8 x9 x10 x11 x12 x13 x14 x15 x16 x17 x18 x19 w' hb' e0 e1 e2
        unfold Is at e0 e1 e2
        subst e0 e1 e2
        refine free2_of (free_e rfl (fun K hK => ?_)) rfl
        go_simp
        refine (rmul_yes R (difN X' Z') (sA X Z) (dif_ok OX'.out) (ok_A OX.out OZ.out) _ (keep_below hb' (lt_of_block (w := wq) hr) hr)).mono ?_
        rintro e w4 ⟨rfl, b4⟩
        exact hK _ _ b4 (by unfold Is sDA; rfl)
      · intro x0 x1 x2 x3 x4 x5 x6 x7 x8 x9 x10 x11 x12 x13 x14 x15 x16 x17 x18 x19 w' hb' 
        have cr := cell_of_row _ _ 0 _ _ _ (keep_below hb' (lt_of_block (w := wq) hrv) hrv)
        refine free2_of (free_e rfl (fun K hK => ?_)) rfl
        go_simp
        exact hK _ _ (Below.refl _ _) rfl
      · intro x0 x1 x2 x3 x4 x5 x6 x7 x8 x9 x10 x11 x12 x13 x14 x15 x16 x17 x18 x19 w' hb' 
        have cr := cell_of_row _ _ 0 _ _ _ (keep_below hb' (lt_of_block (w := wq) hrv) hrv)
        refine free2_of (free_e rfl (fun K hK => ?_)) rfl
        go_simp
        exact hK _ _ (Below.refl _ _) rfl
      · intro x0 x1 x2 x3 x4 x5 x6 x7 x8 x9 x10 x11 x12 x13 x14 x15 x16 x17 x18 x19 w' hb' 
        refine free2_of (free_e rfl (fun K hK => ?_)) rfl
        go_simp
        exact hK _ _ (Below.refl _ _) rfl
      · intro x0 x1 x2 x3 x4 x5 x6 x7 x8 x9 x10 x11 x12 x13 x14 x15 x16 x17 x18 x19 w' hb' e0
        unfold Is at e0
        subst e0
        exact free2_of (free_load_as (fun i => ((X' i : Nat) : Int)) rfl rfl rfl RTFe (keep_below hb' (lt_of_block (w := wq) hhi) hhi) (by omega) (fun i hi => two_lo _ _ i hi) rfl) rfl
      · intro x0 x1 x2 x3 x4 x5 x6 x7 x8 x9 x10 x11 x12 x13 x14 x15 x16 x17 x18 x19 w' hb' 
        refine free2_of (free_e rfl (fun K hK => ?_)) rfl
        go_simp
        exact hK _ _ (Below.refl _ _) rfl
      · intro x0 x1 x2 x3 x4 x5 x6 x7 x8 x9 x10 x11 x12 x13 x14 x15 x16 x17 x18 x19 w' hb' e0
        unfold Is at e0
        subst e0
        exact free2_of (free_load_as (fun i => ((Z' i : Nat) : Int)) rfl rfl rfl RTFe (keep_below hb' (lt_of_block (w := wq) hhi) hhi) (by omega) (fun i hi => two_hi _ _ i hi) rfl) rfl
      · intro x0 x1 x2 x3 x4 x5 x6 x7 x8 x9 x10 x11 x12 x13 x14 x15 x16 x17 x18 x19 w' hb' e0 e1 e2
        unfold Is at e0 e1 e2
        subst e0 e1 e2
        refine free2_of (free_e rfl (fun K hK => ?_)) rfl
        go_simp
        refine (radd_yes R X' Z' OX'.out OZ'.out _ (keep_below hb' (lt_of_block (w := wq) hr) hr)).mono ?_
        rintro e w4 ⟨rfl, b4⟩
        exact hK _ _ b4 (by unfold Is; rfl)
      · intro x0 x1 x2 x3 x4 x5 x6 x7 x8 x9 x10 x11 x12 x13 x14 x15 x16 x17 x18 x19 w' hb' 
        exact free2_of (free_load_arr rfl rfl rfl RTFe (keep_below hb' (lt_of_block (w := wq) hB) hB) rfl) rfl
      · intro x0 x1 x2 x3 x4 x5 x6 x7 x8 x9 x10 x11 x12 x13 x14 x15 x16 x17 x18 x19 w' hb' e0 e1 e2
        unfold Is at e0 e1 e2
        subst e0 e1 e2
        refine free2_of (free_e rfl (fun K hK => ?_)) rfl
        go_simp
        refine (rmul_yes R (sumN X' Z') (sB X Z) (sum_ok OX'.out OZ'.out) (ok_B OX.out OZ.out) _ (keep_below hb' (lt_of_block (w := wq) hr) hr)).mono ?_
        rintro e w4 ⟨rfl, b4⟩
        exact hK _ _ b4 (by unfold Is sCB; rfl)
      · intro x0 x1 x2 x3 x4 x5 x6 x7 x8 x9 x10 x11 x12 x13 x14 x15 x16 x17 x18 x19 w' hb' 
        exact free2_alloc rfl rfl ZTFe ⟨_, rfl, hb'.size, heap_alloc_new _ _⟩
      · intro x0 x1 x2 x3 x4 x5 x6 x7 x8 x9 x10 x11 x12 x13 x14 x15 x16 x17 x18 x19 w' hb' 
        exact free2_alloc rfl rfl ZTFe ⟨_, rfl, hb'.size, heap_alloc_new _ _⟩
    · (simp only [List.take_succ_cons, List.take_zero, List.drop_succ_cons, List.drop_zero, List.zip_cons_cons, List.zip_nil_left, List.zip_nil_right, freeOps2, allV, under, underD, apartAt, factAt, fillA, List.getElem?_cons_zero, List.getElem?_cons_succ, List.range_succ, List.range_zero, List.nil_append, List.cons_append, Act.put, List.setIfInBounds_toArray, List.set_cons_zero, List.set_cons_succ])
      rintro x0 x1 x2 x3 x4 x5 x6 x7 x8 x9 x10 x11 x12 x13 x14 x15 x16 x17 x18 x19 w5 hb' e0 e1 e2 e3 e4 e5 e6 e7 e8 e9 e10 e11 e12 e13 e14 e15 e16 e17 e18 e19 d0
      unfold Is at e0 e1 e2 e3 e4 e5 e6 e7 e8 e9 e10 e11 e12 e13 e14 e15 e16 e17
      subst e0 e1 e2 e3 e4 e5 e6 e7 e8 e9 e10 e11 e12 e13 e14 e15 e16 e17
      obtain ⟨BD, rfl, lBD, hD⟩ := e18
      replace lBD : wq.heap.size ≤ BD := lBD
      obtain ⟨BC, rfl, lBC, hC⟩ := e19
      replace lBC : wq.heap.size ≤ BC := lBC
      have nBDBC : BD ≠ BC := fun e => d0 (by rw [e])
      clear d0
      have l_hrv := lt_of_block (w := wq) hrv
      replace hrv := keep_below hb' l_hrv hrv
      have l_hr := lt_of_block (w := wq) hr
      replace hr := keep_below hb' l_hr hr
      have l_hlo := lt_of_block (w := wq) hlo
      replace hlo := keep_below hb' l_hlo hlo
      have l_hhi := lt_of_block (w := wq) hhi
      replace hhi := keep_below hb' l_hhi hhi
      have l_hfi := lt_of_block (w := wq) hfi
      replace hfi := keep_below hb' l_hfi hfi
      have l_hA := lt_of_block (w := wq) hA
      replace hA := keep_below hb' l_hA hA
      have l_hB := lt_of_block (w := wq) hB
      replace hB := keep_below hb' l_hB hB
      replace hb := (Bar.drewl (Bar.of_below (P := LO) (Q := HI) (w := wq.drew) hb') |> fun h => hb.drew.trans (w' := wq.drew) (by exact ⟨h.os, h.tape, h.output, h.size, h.block⟩))
      go_upto_region 2 with (first | (refine wpList_store_arr rfl rfl rfl rfl RTFe hD ?_) | (refine wpList_store_arr rfl rfl rfl rfl RTFe (row_keep hC (Ne.symm nBDBC)) ?_))
      replace hrv := row_keep (g := BD) (c' := (arr .u64 5 fun i => (((sDA X Z X' Z') i : Nat) : Int))) hrv (Nat.ne_of_lt (Nat.lt_of_lt_of_le l_hrv lBD))
      replace hr := row_keep (g := BD) (c' := (arr .u64 5 fun i => (((sDA X Z X' Z') i : Nat) : Int))) hr (Nat.ne_of_lt (Nat.lt_of_lt_of_le l_hr lBD))
      replace hlo := row_keep (g := BD) (c' := (arr .u64 5 fun i => (((sDA X Z X' Z') i : Nat) : Int))) hlo (Nat.ne_of_lt (Nat.lt_of_lt_of_le l_hlo lBD))
      replace hhi := row_keep (g := BD) (c' := (arr .u64 5 fun i => (((sDA X Z X' Z') i : Nat) : Int))) hhi (Nat.ne_of_lt (Nat.lt_of_lt_of_le l_hhi lBD))
      replace hfi := row_keep (g := BD) (c' := (arr .u64 5 fun i => (((sDA X Z X' Z') i : Nat) : Int))) hfi (Nat.ne_of_lt (Nat.lt_of_lt_of_le l_hfi lBD))
      replace hA := row_keep (g := BD) (c' := (arr .u64 5 fun i => (((sDA X Z X' Z') i : Nat) : Int))) hA (Nat.ne_of_lt (Nat.lt_of_lt_of_le l_hA lBD))
      replace hB := row_keep (g := BD) (c' := (arr .u64 5 fun i => (((sDA X Z X' Z') i : Nat) : Int))) hB (Nat.ne_of_lt (Nat.lt_of_lt_of_le l_hB lBD))
      replace hD := row_self (c' := (arr .u64 5 fun i => (((sDA X Z X' Z') i : Nat) : Int))) hD
      replace hC := row_keep (g := BD) (c' := (arr .u64 5 fun i => (((sDA X Z X' Z') i : Nat) : Int))) hC (Ne.symm nBDBC)
      replace hb := hb.row (g := BD) (.inr (.inr (Nat.le_trans lw lBD))) (arr .u64 5 fun i => (((sDA X Z X' Z') i : Nat) : Int))
      replace hrv := row_keep (g := BC) (c' := (arr .u64 5 fun i => (((sCB X Z X' Z') i : Nat) : Int))) hrv (Nat.ne_of_lt (Nat.lt_of_lt_of_le l_hrv lBC))
      replace hr := row_keep (g := BC) (c' := (arr .u64 5 fun i => (((sCB X Z X' Z') i : Nat) : Int))) hr (Nat.ne_of_lt (Nat.lt_of_lt_of_le l_hr lBC))
      replace hlo := row_keep (g := BC) (c' := (arr .u64 5 fun i => (((sCB X Z X' Z') i : Nat) : Int))) hlo (Nat.ne_of_lt (Nat.lt_of_lt_of_le l_hlo lBC))
      replace hhi := row_keep (g := BC) (c' := (arr .u64 5 fun i => (((sCB X Z X' Z') i : Nat) : Int))) hhi (Nat.ne_of_lt (Nat.lt_of_lt_of_le l_hhi lBC))
      replace hfi := row_keep (g := BC) (c' := (arr .u64 5 fun i => (((sCB X Z X' Z') i : Nat) : Int))) hfi (Nat.ne_of_lt (Nat.lt_of_lt_of_le l_hfi lBC))
      replace hA := row_keep (g := BC) (c' := (arr .u64 5 fun i => (((sCB X Z X' Z') i : Nat) : Int))) hA (Nat.ne_of_lt (Nat.lt_of_lt_of_le l_hA lBC))
      replace hB := row_keep (g := BC) (c' := (arr .u64 5 fun i => (((sCB X Z X' Z') i : Nat) : Int))) hB (Nat.ne_of_lt (Nat.lt_of_lt_of_le l_hB lBC))
      replace hD := row_keep (g := BC) (c' := (arr .u64 5 fun i => (((sCB X Z X' Z') i : Nat) : Int))) hD nBDBC
      replace hC := row_self (c' := (arr .u64 5 fun i => (((sCB X Z X' Z') i : Nat) : Int))) hC
      replace hb := hb.row (g := BC) (.inr (.inr (Nat.le_trans lw lBC))) (arr .u64 5 fun i => (((sCB X Z X' Z') i : Nat) : Int))
      replace lw : w.heap.size ≤ ((w5.setRow BD (arr .u64 5 fun i => (((sDA X Z X' Z') i : Nat) : Int))).setRow BC (arr .u64 5 fun i => (((sCB X Z X' Z') i : Nat) : Int))).heap.size := hb.size
      clear l_hrv l_hr l_hlo l_hhi l_hfi l_hA l_hB lBD lBC hb' nBDBC
      generalize ((w5.setRow BD (arr .u64 5 fun i => (((sDA X Z X' Z') i : Nat) : Int))).setRow BC (arr .u64 5 fun i => (((sCB X Z X' Z') i : Nat) : Int))) = wn at *
      clear wq
      obtain ⟨wq, rfl⟩ : ∃ x, x = wn := ⟨_, rfl⟩
      (try simp only [Act.put, List.setIfInBounds_toArray, List.set_cons_zero, List.set_cons_succ])
      have lrv : RV < wq.drew.heap.size := lt_of_block (w := wq) hrv
      refine wp_region_can wq.heap.size 16 [(0, false), (1, false), (2, false), (3, false), (6, false), (7, false), (8, false), (9, false), (10, false), (11, false), (4, true), (5, true), (12, true), (13, true), (14, true), (15, false)] (by kernel_rfl) (by kernel_rfl) ?_
      (simp only [canOps, List.getElem?_cons_zero, List.getElem?_cons_succ, List.drop_succ_cons, List.drop_zero])
      have c_rv : wq.drew.cell? ⟨RV, 0, none⟩ = some (.pointer (some ⟨R, 0, none⟩)) := cell_of_row _ _ 0 _ _ _ hrv
      iterate 1 (first | (refine wpCan_move rfl rfl (fun _ _ _ _ h => h) ?_; (simp only [Act.put, Act.eval, Array.getD_eq_getD_getElem?, List.getElem?_toArray, List.getElem?_cons_zero, List.getElem?_cons_succ, Option.getD_some, List.setIfInBounds_toArray, List.set_cons_zero, List.set_cons_succ])) | (refine wpCan_assign rfl rfl (fun _ _ _ _ h => h) ?_; (simp only [Act.put, Act.eval, Array.getD_eq_getD_getElem?, List.getElem?_toArray, List.getElem?_cons_zero, List.getElem?_cons_succ, Option.getD_some, List.setIfInBounds_toArray, List.set_cons_zero, List.set_cons_succ])) | (refine wpCan_nilCheck rfl rfl rfl (fun _ _ _ _ h => h) ?_; (simp only [Act.put, List.setIfInBounds_toArray, List.set_cons_zero, List.set_cons_succ])) | (refine wpCan_q rfl rfl (fun _ _ _ _ h => h) (by first | exact .bin rfl rfl rfl | exact .indexAddr rfl | exact .un rfl | exact .extract rfl | exact .index rfl | exact .field rfl | exact .slice rfl | exact .load rfl rfl lrv hrv) (fun K hK => ?_); go_simp; (try (simp only [↓IntWalk.iteOmega]; go_simp)); (try go_bits); refine hK _ ?_; clear hK K))
      iterate 1 (first | (refine wpCan_move rfl rfl (fun _ _ _ _ h => h) ?_; (simp only [Act.put, Act.eval, Array.getD_eq_getD_getElem?, List.getElem?_toArray, List.getElem?_cons_zero, List.getElem?_cons_succ, Option.getD_some, List.setIfInBounds_toArray, List.set_cons_zero, List.set_cons_succ])) | (refine wpCan_assign rfl rfl (fun _ _ _ _ h => h) ?_; (simp only [Act.put, Act.eval, Array.getD_eq_getD_getElem?, List.getElem?_toArray, List.getElem?_cons_zero, List.getElem?_cons_succ, Option.getD_some, List.setIfInBounds_toArray, List.set_cons_zero, List.set_cons_succ])) | (refine wpCan_nilCheck rfl rfl rfl (fun _ _ _ _ h => h) ?_; (simp only [Act.put, List.setIfInBounds_toArray, List.set_cons_zero, List.set_cons_succ])) | (refine wpCan_q rfl rfl (fun _ _ _ _ h => h) (by first | exact .bin rfl rfl rfl | exact .indexAddr rfl | exact .un rfl | exact .extract rfl | exact .index rfl | exact .field rfl | exact .slice rfl | exact .load rfl rfl lrv hrv) (fun K hK => ?_); go_simp; (try (simp only [↓IntWalk.iteOmega]; go_simp)); (try go_bits); refine hK _ ?_; clear hK K))
      refine wpCan_load_arr rfl rfl rfl (fun _ _ _ _ h => h) RTFe (lt_of_block (w := wq) hD) hD ?_
      (try simp only [Act.put, List.setIfInBounds_toArray, List.set_cons_zero, List.set_cons_succ])
      refine wpCan_load_arr rfl rfl rfl (fun _ _ _ _ h => h) RTFe (lt_of_block (w := wq) hC) hC ?_
      (try simp only [Act.put, List.setIfInBounds_toArray, List.set_cons_zero, List.set_cons_succ])
      iterate 1 (first | (refine wpCan_move rfl rfl (fun _ _ _ _ h => h) ?_; (simp only [Act.put, Act.eval, Array.getD_eq_getD_getElem?, List.getElem?_toArray, List.getElem?_cons_zero, List.getElem?_cons_succ, Option.getD_some, List.setIfInBounds_toArray, List.set_cons_zero, List.set_cons_succ])) | (refine wpCan_assign rfl rfl (fun _ _ _ _ h => h) ?_; (simp only [Act.put, Act.eval, Array.getD_eq_getD_getElem?, List.getElem?_toArray, List.getElem?_cons_zero, List.getElem?_cons_succ, Option.getD_some, List.setIfInBounds_toArray, List.set_cons_zero, List.set_cons_succ])) | (refine wpCan_nilCheck rfl rfl rfl (fun _ _ _ _ h => h) ?_; (simp only [Act.put, List.setIfInBounds_toArray, List.set_cons_zero, List.set_cons_succ])) | (refine wpCan_q rfl rfl (fun _ _ _ _ h => h) (by first | exact .bin rfl rfl rfl | exact .indexAddr rfl | exact .un rfl | exact .extract rfl | exact .index rfl | exact .field rfl | exact .slice rfl | exact .load rfl rfl lrv hrv) (fun K hK => ?_); go_simp; (try (simp only [↓IntWalk.iteOmega]; go_simp)); (try go_bits); refine hK _ ?_; clear hK K))
      refine wpCan_load_arr rfl rfl rfl (fun _ _ _ _ h => h) RTFe (lt_of_block (w := wq) hfi) hfi ?_
      (try simp only [Act.put, List.setIfInBounds_toArray, List.set_cons_zero, List.set_cons_succ])
      iterate 1 (first | (refine wpCan_move rfl rfl (fun _ _ _ _ h => h) ?_; (simp only [Act.put, Act.eval, Array.getD_eq_getD_getElem?, List.getElem?_toArray, List.getElem?_cons_zero, List.getElem?_cons_succ, Option.getD_some, List.setIfInBounds_toArray, List.set_cons_zero, List.set_cons_succ])) | (refine wpCan_assign rfl rfl (fun _ _ _ _ h => h) ?_; (simp only [Act.put, Act.eval, Array.getD_eq_getD_getElem?, List.getElem?_toArray, List.getElem?_cons_zero, List.getElem?_cons_succ, Option.getD_some, List.setIfInBounds_toArray, List.set_cons_zero, List.set_cons_succ])) | (refine wpCan_nilCheck rfl rfl rfl (fun _ _ _ _ h => h) ?_; (simp only [Act.put, List.setIfInBounds_toArray, List.set_cons_zero, List.set_cons_succ])) | (refine wpCan_q rfl rfl (fun _ _ _ _ h => h) (by first | exact .bin rfl rfl rfl | exact .indexAddr rfl | exact .un rfl | exact .extract rfl | exact .index rfl | exact .field rfl | exact .slice rfl | exact .load rfl rfl lrv hrv) (fun K hK => ?_); go_simp; (try (simp only [↓IntWalk.iteOmega]; go_simp)); (try go_bits); refine hK _ ?_; clear hK K))
      iterate 1 (first | (refine wpCan_move rfl rfl (fun _ _ _ _ h => h) ?_; (simp only [Act.put, Act.eval, Array.getD_eq_getD_getElem?, List.getElem?_toArray, List.getElem?_cons_zero, List.getElem?_cons_succ, Option.getD_some, List.setIfInBounds_toArray, List.set_cons_zero, List.set_cons_succ])) | (refine wpCan_assign rfl rfl (fun _ _ _ _ h => h) ?_; (simp only [Act.put, Act.eval, Array.getD_eq_getD_getElem?, List.getElem?_toArray, List.getElem?_cons_zero, List.getElem?_cons_succ, Option.getD_some, List.setIfInBounds_toArray, List.set_cons_zero, List.set_cons_succ])) | (refine wpCan_nilCheck rfl rfl rfl (fun _ _ _ _ h => h) ?_; (simp only [Act.put, List.setIfInBounds_toArray, List.set_cons_zero, List.set_cons_succ])) | (refine wpCan_q rfl rfl (fun _ _ _ _ h => h) (by first | exact .bin rfl rfl rfl | exact .indexAddr rfl | exact .un rfl | exact .extract rfl | exact .index rfl | exact .field rfl | exact .slice rfl | exact .load rfl rfl lrv hrv) (fun K hK => ?_); go_simp; (try (simp only [↓IntWalk.iteOmega]; go_simp)); (try go_bits); refine hK _ ?_; clear hK K))
      refine wpCan_load_arr rfl rfl rfl (fun _ _ _ _ h => h) RTFe (lt_of_block (w := wq) hD) hD ?_
      (try simp only [Act.put, List.setIfInBounds_toArray, List.set_cons_zero, List.set_cons_succ])
      refine wpCan_load_arr rfl rfl rfl (fun _ _ _ _ h => h) RTFe (lt_of_block (w := wq) hC) hC ?_
      (try simp only [Act.put, List.setIfInBounds_toArray, List.set_cons_zero, List.set_cons_succ])
      refine wpCan_e rfl (fun K hK => ?_)
      go_simp
      refine (radd_yes R (sDA X Z X' Z') (sCB X Z X' Z') (ok_DA OX.out OZ.out OX'.out OZ'.out) (ok_CB OX.out OZ.out OX'.out OZ'.out) _ (by exact hr)).mono ?_
      rintro e v1 ⟨rfl, b1⟩
      refine hK _ _ (Keep.of_below b1 (Nat.le_refl _)) ?_
      clear hK K
      (try simp only [Act.put, List.setIfInBounds_toArray, List.set_cons_zero, List.set_cons_succ])
      have cb := b1
      clear b1
      refine wpCan_e rfl (fun K hK => ?_)
      go_simp
      refine (rsquare_yes R _ (sum_ok (ok_DA OX.out OZ.out OX'.out OZ'.out) (ok_CB OX.out OZ.out OX'.out OZ'.out)) _ (by exact keep_below (w := wq.drew) cb (lt_of_block (w := wq) hr) hr)).mono ?_
      rintro e v2 ⟨rfl, b2⟩
      refine hK _ _ (Keep.of_below b2 cb.size) ?_
      clear hK K
      (try simp only [Act.put, List.setIfInBounds_toArray, List.set_cons_zero, List.set_cons_succ])
      replace cb := cb.trans (b2.mono cb.size)
      clear b2
      refine wpCan_e rfl (fun K hK => ?_)
      go_simp
      refine (rsub_yes R (sDA X Z X' Z') (sCB X Z X' Z') (ok_DA OX.out OZ.out OX'.out OZ'.out) (ok_CB OX.out OZ.out OX'.out OZ'.out) _ (by exact keep_below (w := wq.drew) cb (lt_of_block (w := wq) hr) hr)).mono ?_
      rintro e v3 ⟨rfl, b3⟩
      refine hK _ _ (Keep.of_below b3 cb.size) ?_
      clear hK K
      (try simp only [Act.put, List.setIfInBounds_toArray, List.set_cons_zero, List.set_cons_succ])
      replace cb := cb.trans (b3.mono cb.size)
      clear b3
      refine wpCan_e rfl (fun K hK => ?_)
      go_simp
      refine (rsquare_yes R _ (dif_ok (ok_DA OX.out OZ.out OX'.out OZ'.out)) _ (by exact keep_below (w := wq.drew) cb (lt_of_block (w := wq) hr) hr)).mono ?_
      rintro e v4 ⟨rfl, b4⟩
      refine hK _ _ (Keep.of_below b4 cb.size) ?_
      clear hK K
      (try simp only [Act.put, List.setIfInBounds_toArray, List.set_cons_zero, List.set_cons_succ])
      replace cb := cb.trans (b4.mono cb.size)
      clear b4
      refine wpCan_e rfl (fun K hK => ?_)
      go_simp
      refine (rmul_yes R U _ OU.out (sq_ok _ (dif_ok (ok_DA OX.out OZ.out OX'.out OZ'.out)) 1) _ (by exact keep_below (w := wq.drew) cb (lt_of_block (w := wq) hr) hr)).mono ?_
      rintro e v5 ⟨rfl, b5⟩
      refine hK _ _ (Keep.of_below b5 cb.size) ?_
      clear hK K
      (try simp only [Act.put, List.setIfInBounds_toArray, List.set_cons_zero, List.set_cons_succ])
      replace cb := cb.trans (b5.mono cb.size)
      clear b5
      refine wpCan_all rfl (fun _ _ _ _ h => h) (fun w' => run_op_build rfl (by simp [Act.eval, Act.put]; exact ⟨rfl, rfl⟩) (built_point (sHX X Z X' Z') (sHZ X Z X' Z' U))) ?_
      (try simp only [Act.put, List.setIfInBounds_toArray, List.set_cons_zero, List.set_cons_succ])
      refine wpCan_nil ?_
      clear c_rv lrv
      replace hrv := keep_below (w := wq.drew) cb (lt_of_block (w := wq) hrv) hrv
      replace hr := keep_below (w := wq.drew) cb (lt_of_block (w := wq) hr) hr
      replace hlo := keep_below (w := wq.drew) cb (lt_of_block (w := wq) hlo) hlo
      replace hhi := keep_below (w := wq.drew) cb (lt_of_block (w := wq) hhi) hhi
      replace hfi := keep_below (w := wq.drew) cb (lt_of_block (w := wq) hfi) hfi
      replace hA := keep_below (w := wq.drew) cb (lt_of_block (w := wq) hA) hA
      replace hB := keep_below (w := wq.drew) cb (lt_of_block (w := wq) hB) hB
      replace hD := keep_below (w := wq.drew) cb (lt_of_block (w := wq) hD) hD
      replace hC := keep_below (w := wq.drew) cb (lt_of_block (w := wq) hC) hC
      replace hb := hb.drew.trans (Bar.of_below cb)
      clear cb
      obtain ⟨ws, hws⟩ : ∃ x, x = v5 := ⟨_, rfl⟩
      rw [← hws] at hrv hr hlo hhi hfi hA hB hD hC hb ⊢
      clear hws
      go_upto_region 3 with (first | (refine wpList_store_arr rfl rfl rfl rfl RTPoint hhi ?_))
      replace hrv := row_keep (g := HI) (c' := (arr .u64 10 fun i => (((two5 (sHX X Z X' Z') (sHZ X Z X' Z' U)) i : Nat) : Int))) hrv (ne_of_type hrv hhi (by decide))
      replace hr := row_keep (g := HI) (c' := (arr .u64 10 fun i => (((two5 (sHX X Z X' Z') (sHZ X Z X' Z' U)) i : Nat) : Int))) hr (ne_of_type hr hhi (by decide))
      replace hlo := row_keep (g := HI) (c' := (arr .u64 10 fun i => (((two5 (sHX X Z X' Z') (sHZ X Z X' Z' U)) i : Nat) : Int))) hlo N7.out
      replace hfi := row_keep (g := HI) (c' := (arr .u64 10 fun i => (((two5 (sHX X Z X' Z') (sHZ X Z X' Z' U)) i : Nat) : Int))) hfi (ne_of_type hfi hhi (by decide))
      replace hA := row_keep (g := HI) (c' := (arr .u64 10 fun i => (((two5 (sHX X Z X' Z') (sHZ X Z X' Z' U)) i : Nat) : Int))) hA (ne_of_type hA hhi (by decide))
      replace hB := row_keep (g := HI) (c' := (arr .u64 10 fun i => (((two5 (sHX X Z X' Z') (sHZ X Z X' Z' U)) i : Nat) : Int))) hB (ne_of_type hB hhi (by decide))
      replace hD := row_keep (g := HI) (c' := (arr .u64 10 fun i => (((two5 (sHX X Z X' Z') (sHZ X Z X' Z' U)) i : Nat) : Int))) hD (ne_of_type hD hhi (by decide))
      replace hC := row_keep (g := HI) (c' := (arr .u64 10 fun i => (((two5 (sHX X Z X' Z') (sHZ X Z X' Z' U)) i : Nat) : Int))) hC (ne_of_type hC hhi (by decide))
      replace hb := hb.row (g := HI) (.inr (.inl rfl)) (arr .u64 10 fun i => (((two5 (sHX X Z X' Z') (sHZ X Z X' Z' U)) i : Nat) : Int))
      replace hhi := row_self (c' := (arr .u64 10 fun i => (((two5 (sHX X Z X' Z') (sHZ X Z X' Z' U)) i : Nat) : Int))) hhi
      generalize ws.setRow HI (arr .u64 10 fun i => (((two5 (sHX X Z X' Z') (sHZ X Z X' Z' U)) i : Nat) : Int)) = wn at *
      clear ws
      obtain ⟨wq, rfl⟩ : ∃ x, x = wn := ⟨_, rfl⟩
      (try simp only [Act.put, List.setIfInBounds_toArray, List.set_cons_zero, List.set_cons_succ])
      replace lw := hb.size
      clear hD hC
      refine wp_region_free2 8 [Is (.pointer (some ⟨R, 0, none⟩)), Is (.agg (arr .u64 5 fun i => (((sA X Z) i : Nat) : Int))), Is (.agg (arr .u64 5 fun i => (((sAA X Z) i : Nat) : Int))), Is (.pointer (some ⟨R, 0, none⟩)), Is (.agg (arr .u64 5 fun i => (((sB X Z) i : Nat) : Int))), Is (.agg (arr .u64 5 fun i => (((sBB X Z) i : Nat) : Int))), NewAt wq.heap.size (.cells (arr .u64 5 fun _ => 0) 34), NewAt wq.heap.size (.cells (arr .u64 5 fun _ => 0) 34)] [[], [], [0, 1], [], [], [3, 4], [], []] [(6, 7)] (by kernel_rfl) (by kernel_rfl) (by kernel_rfl) rfl (st_cons (is_stays _) (st_cons (is_stays _) (st_cons (is_stays _) (st_cons (is_stays _) (st_cons (is_stays _) (st_cons (is_stays _) (st_cons (new_stays _ _) (st_cons (new_stays _ _) st_nil)))))))) ?_ ?_
      · (simp only [List.take_succ_cons, List.take_zero, List.drop_succ_cons, List.drop_zero, List.zip_cons_cons, List.zip_nil_left, List.zip_nil_right, freeOps2, allV, under, underD, apartAt, factAt, fillA, List.getElem?_cons_zero, List.getElem?_cons_succ, List.range_succ, List.range_zero, List.nil_append, List.cons_append, Act.put, List.setIfInBounds_toArray, List.set_cons_zero, List.set_cons_succ])
        refine ⟨?_, ?_, ?_, ?_, ?_, ?_, ?_, ?_, trivial⟩
        · intro x0 x1 x2 x3 x4 x5 x6 x7 w' hb' 
          have cr := cell_of_row _ _ 0 _ _ _ (keep_below hb' (lt_of_block (w := wq) hrv) hrv)
          refine free2_of (free_e rfl (fun K hK => ?_)) rfl
          go_simp
          exact hK _ _ (Below.refl _ _) rfl
        · intro x0 x1 x2 x3 x4 x5 x6 x7 w' hb' 
          exact free2_of (free_load_arr rfl rfl rfl RTFe (keep_below hb' (lt_of_block (w := wq) hA) hA) rfl) rfl
        · intro x0 x1 x2 x3 x4 x5 x6 x7 w' hb' e0 e1
          unfold Is at e0 e1
          subst e0 e1
          refine free2_of (free_e rfl (fun K hK => ?_)) rfl
          go_simp
          refine (rsquare_yes R (sA X Z) (ok_A OX.out OZ.out) _ (keep_below hb' (lt_of_block (w := wq) hr) hr)).mono ?_
          rintro e w4 ⟨rfl, b4⟩
          exact hK _ _ b4 (by unfold Is sAA; rfl)
        · intro x0 x1 x2 x3 x4 x5 x6 x7 w' hb' 
          have cr := cell_of_row _ _ 0 _ _ _ (keep_below hb' (lt_of_block (w := wq) hrv) hrv)
          refine free2_of (free_e rfl (fun K hK => ?_)) rfl
          go_simp
          exact hK _ _ (Below.refl _ _) rfl
        · intro x0 x1 x2 x3 x4 x5 x6 x7 w' hb' 
          exact free2_of (free_load_arr rfl rfl rfl RTFe (keep_below hb' (lt_of_block (w := wq) hB) hB) rfl) rfl
        · intro x0 x1 x2 x3 x4 x5 x6 x7 w' hb' e0 e1
          unfold Is at e0 e1
          subst e0 e1
          refine free2_of (free_e rfl (fun K hK => ?_)) rfl
          go_simp
          refine (rsquare_yes R (sB X Z) (ok_B OX.out OZ.out) _ (keep_below hb' (lt_of_block (w := wq) hr) hr)).mono ?_
          rintro e w4 ⟨rfl, b4⟩
          exact hK _ _ b4 (by unfold Is sBB; rfl)
        · intro x0 x1 x2 x3 x4 x5 x6 x7 w' hb' 
          exact free2_alloc rfl rfl ZTFe ⟨_, rfl, hb'.size, heap_alloc_new _ _⟩
        · intro x0 x1 x2 x3 x4 x5 x6 x7 w' hb' 
          exact free2_alloc rfl rfl ZTFe ⟨_, rfl, hb'.size, heap_alloc_new _ _⟩
      · (simp only [List.take_succ_cons, List.take_zero, List.drop_succ_cons, List.drop_zero, List.zip_cons_cons, List.zip_nil_left, List.zip_nil_right, freeOps2, allV, under, underD, apartAt, factAt, fillA, List.getElem?_cons_zero, List.getElem?_cons_succ, List.range_succ, List.range_zero, List.nil_append, List.cons_append, Act.put, List.setIfInBounds_toArray, List.set_cons_zero, List.set_cons_succ])
        rintro x0 x1 x2 x3 x4 x5 x6 x7 w5 hb' e0 e1 e2 e3 e4 e5 e6 e7 d0
        unfold Is at e0 e1 e2 e3 e4 e5
        subst e0 e1 e2 e3 e4 e5
        obtain ⟨BP, rfl, lBP, hP⟩ := e6
        replace lBP : wq.heap.size ≤ BP := lBP
        obtain ⟨BQ, rfl, lBQ, hQ⟩ := e7
        replace lBQ : wq.heap.size ≤ BQ := lBQ
        have nBPBQ : BP ≠ BQ := fun e => d0 (by rw [e])
        clear d0
        have l_hrv := lt_of_block (w := wq) hrv
        replace hrv := keep_below hb' l_hrv hrv
        have l_hr := lt_of_block (w := wq) hr
        replace hr := keep_below hb' l_hr hr
        have l_hlo := lt_of_block (w := wq) hlo
        replace hlo := keep_below hb' l_hlo hlo
        have l_hhi := lt_of_block (w := wq) hhi
        replace hhi := keep_below hb' l_hhi hhi
        have l_hfi := lt_of_block (w := wq) hfi
        replace hfi := keep_below hb' l_hfi hfi
        have l_hA := lt_of_block (w := wq) hA
        replace hA := keep_below hb' l_hA hA
        have l_hB := lt_of_block (w := wq) hB
        replace hB := keep_below hb' l_hB hB
        replace hb := (Bar.drewl (Bar.of_below (P := LO) (Q := HI) (w := wq.drew) hb') |> fun h => hb.drew.trans (w' := wq.drew) (by exact ⟨h.os, h.tape, h.output, h.size, h.block⟩))
        go_upto_region 4 with (first | (refine wpList_store_arr rfl rfl rfl rfl RTFe hP ?_) | (refine wpList_store_arr rfl rfl rfl rfl RTFe (row_keep hQ (Ne.symm nBPBQ)) ?_))
        replace hrv := row_keep (g := BP) (c' := (arr .u64 5 fun i => (((sAA X Z) i : Nat) : Int))) hrv (Nat.ne_of_lt (Nat.lt_of_lt_of_le l_hrv lBP))
        replace hr := row_keep (g := BP) (c' := (arr .u64 5 fun i => (((sAA X Z) i : Nat) : Int))) hr (Nat.ne_of_lt (Nat.lt_of_lt_of_le l_hr lBP))
        replace hlo := row_keep (g := BP) (c' := (arr .u64 5 fun i => (((sAA X Z) i : Nat) : Int))) hlo (Nat.ne_of_lt (Nat.lt_of_lt_of_le l_hlo lBP))
        replace hhi := row_keep (g := BP) (c' := (arr .u64 5 fun i => (((sAA X Z) i : Nat) : Int))) hhi (Nat.ne_of_lt (Nat.lt_of_lt_of_le l_hhi lBP))
        replace hfi := row_keep (g := BP) (c' := (arr .u64 5 fun i => (((sAA X Z) i : Nat) : Int))) hfi (Nat.ne_of_lt (Nat.lt_of_lt_of_le l_hfi lBP))
        replace hA := row_keep (g := BP) (c' := (arr .u64 5 fun i => (((sAA X Z) i : Nat) : Int))) hA (Nat.ne_of_lt (Nat.lt_of_lt_of_le l_hA lBP))
        replace hB := row_keep (g := BP) (c' := (arr .u64 5 fun i => (((sAA X Z) i : Nat) : Int))) hB (Nat.ne_of_lt (Nat.lt_of_lt_of_le l_hB lBP))
        replace hP := row_self (c' := (arr .u64 5 fun i => (((sAA X Z) i : Nat) : Int))) hP
        replace hQ := row_keep (g := BP) (c' := (arr .u64 5 fun i => (((sAA X Z) i : Nat) : Int))) hQ (Ne.symm nBPBQ)
        replace hb := hb.row (g := BP) (.inr (.inr (Nat.le_trans lw lBP))) (arr .u64 5 fun i => (((sAA X Z) i : Nat) : Int))
        replace hrv := row_keep (g := BQ) (c' := (arr .u64 5 fun i => (((sBB X Z) i : Nat) : Int))) hrv (Nat.ne_of_lt (Nat.lt_of_lt_of_le l_hrv lBQ))
        replace hr := row_keep (g := BQ) (c' := (arr .u64 5 fun i => (((sBB X Z) i : Nat) : Int))) hr (Nat.ne_of_lt (Nat.lt_of_lt_of_le l_hr lBQ))
        replace hlo := row_keep (g := BQ) (c' := (arr .u64 5 fun i => (((sBB X Z) i : Nat) : Int))) hlo (Nat.ne_of_lt (Nat.lt_of_lt_of_le l_hlo lBQ))
        replace hhi := row_keep (g := BQ) (c' := (arr .u64 5 fun i => (((sBB X Z) i : Nat) : Int))) hhi (Nat.ne_of_lt (Nat.lt_of_lt_of_le l_hhi lBQ))
        replace hfi := row_keep (g := BQ) (c' := (arr .u64 5 fun i => (((sBB X Z) i : Nat) : Int))) hfi (Nat.ne_of_lt (Nat.lt_of_lt_of_le l_hfi lBQ))
        replace hA := row_keep (g := BQ) (c' := (arr .u64 5 fun i => (((sBB X Z) i : Nat) : Int))) hA (Nat.ne_of_lt (Nat.lt_of_lt_of_le l_hA lBQ))
        replace hB := row_keep (g := BQ) (c' := (arr .u64 5 fun i => (((sBB X Z) i : Nat) : Int))) hB (Nat.ne_of_lt (Nat.lt_of_lt_of_le l_hB lBQ))
        replace hP := row_keep (g := BQ) (c' := (arr .u64 5 fun i => (((sBB X Z) i : Nat) : Int))) hP nBPBQ
        replace hQ := row_self (c' := (arr .u64 5 fun i => (((sBB X Z) i : Nat) : Int))) hQ
        replace hb := hb.row (g := BQ) (.inr (.inr (Nat.le_trans lw lBQ))) (arr .u64 5 fun i => (((sBB X Z) i : Nat) : Int))
        replace lw : w.heap.size ≤ ((w5.setRow BP (arr .u64 5 fun i => (((sAA X Z) i : Nat) : Int))).setRow BQ (arr .u64 5 fun i => (((sBB X Z) i : Nat) : Int))).heap.size := hb.size
        clear l_hrv l_hr l_hlo l_hhi l_hfi l_hA l_hB lBP lBQ hb' nBPBQ
        generalize ((w5.setRow BP (arr .u64 5 fun i => (((sAA X Z) i : Nat) : Int))).setRow BQ (arr .u64 5 fun i => (((sBB X Z) i : Nat) : Int))) = wn at *
        clear wq
        obtain ⟨wq, rfl⟩ : ∃ x, x = wn := ⟨_, rfl⟩
        (try simp only [Act.put, List.setIfInBounds_toArray, List.set_cons_zero, List.set_cons_succ])
        clear hA hB
        have c_rv : wq.cell? ⟨RV, 0, none⟩ = some (.pointer (some ⟨R, 0, none⟩)) := cell_of_row _ _ 0 _ _ _ hrv
        go_wp2_with (first | (refine wpList_load_arr rfl rfl rfl RTFe hP ?_) | (refine wpList_load_arr rfl rfl rfl RTFe hQ ?_) | (go_at_call 19; fail))
        refine (rsub_yes R (sAA X Z) (sBB X Z) (ok_AA OX.out OZ.out) (ok_BB OX.out OZ.out) _ hr).mono ?_
        rintro e w4 ⟨rfl, b4⟩
        replace hrv := keep_below b4 (lt_of_block hrv) hrv
        replace hr := keep_below b4 (lt_of_block hr) hr
        replace hlo := keep_below b4 (lt_of_block hlo) hlo
        replace hhi := keep_below b4 (lt_of_block hhi) hhi
        replace hfi := keep_below b4 (lt_of_block hfi) hfi
        replace hP := keep_below b4 (lt_of_block hP) hP
        replace hQ := keep_below b4 (lt_of_block hQ) hQ
        replace hb := hb.trans (Bar.of_below b4)
        clear b4 c_rv
        go_upto_region 5 with (refine wpList_new_arr rfl rfl rfl rfl ZTFe RTFe rfl rfl ?_; intro w8 hE b8 hs8)
        have l0 := lt_of_block hlo
        replace hrv := keep_below b8 (lt_of_block hrv) hrv
        replace hr := keep_below b8 (lt_of_block hr) hr
        replace hlo := keep_below b8 (lt_of_block hlo) hlo
        replace hhi := keep_below b8 (lt_of_block hhi) hhi
        replace hfi := keep_below b8 (lt_of_block hfi) hfi
        replace hP := keep_below b8 (lt_of_block hP) hP
        replace hQ := keep_below b8 (lt_of_block hQ) hQ
        replace hb := hb.trans (Bar.of_below b8)
        clear b8 hs8
        obtain ⟨BE, hBE⟩ : ∃ B, B = w4.heap.size := ⟨_, rfl⟩
        rw [← hBE] at l0 hE ⊢
        clear hBE
        obtain ⟨wq, rfl⟩ : ∃ x, x = w8 := ⟨_, rfl⟩
        (try simp only [Act.put, List.setIfInBounds_toArray, List.set_cons_zero, List.set_cons_succ])
        have lrv : RV < wq.drew.heap.size := lt_of_block (w := wq) hrv
        refine wp_region_can wq.heap.size 15 [(0, false), (1, false), (2, false), (4, false), (5, false), (6, false), (7, false), (8, false), (9, false), (10, false), (3, true), (11, true), (12, true), (13, true), (14, false)] (by kernel_rfl) (by kernel_rfl) ?_
        (simp only [canOps, List.getElem?_cons_zero, List.getElem?_cons_succ, List.drop_succ_cons, List.drop_zero])
        have c_rv : wq.drew.cell? ⟨RV, 0, none⟩ = some (.pointer (some ⟨R, 0, none⟩)) := cell_of_row _ _ 0 _ _ _ hrv
        iterate 1 (first | (refine wpCan_move rfl rfl (fun _ _ _ _ h => h) ?_; (simp only [Act.put, Act.eval, Array.getD_eq_getD_getElem?, List.getElem?_toArray, List.getElem?_cons_zero, List.getElem?_cons_succ, Option.getD_some, List.setIfInBounds_toArray, List.set_cons_zero, List.set_cons_succ])) | (refine wpCan_assign rfl rfl (fun _ _ _ _ h => h) ?_; (simp only [Act.put, Act.eval, Array.getD_eq_getD_getElem?, List.getElem?_toArray, List.getElem?_cons_zero, List.getElem?_cons_succ, Option.getD_some, List.setIfInBounds_toArray, List.set_cons_zero, List.set_cons_succ])) | (refine wpCan_nilCheck rfl rfl rfl (fun _ _ _ _ h => h) ?_; (simp only [Act.put, List.setIfInBounds_toArray, List.set_cons_zero, List.set_cons_succ])) | (refine wpCan_q rfl rfl (fun _ _ _ _ h => h) (by first | exact .bin rfl rfl rfl | exact .indexAddr rfl | exact .un rfl | exact .extract rfl | exact .index rfl | exact .field rfl | exact .slice rfl | exact .load rfl rfl lrv hrv) (fun K hK => ?_); go_simp; (try (simp only [↓IntWalk.iteOmega]; go_simp)); (try go_bits); refine hK _ ?_; clear hK K))
        refine wpCan_load_arr rfl rfl rfl (fun _ _ _ _ h => h) RTFe (lt_of_block (w := wq) hP) hP ?_
        (try simp only [Act.put, List.setIfInBounds_toArray, List.set_cons_zero, List.set_cons_succ])
        refine wpCan_load_arr rfl rfl rfl (fun _ _ _ _ h => h) RTFe (lt_of_block (w := wq) hQ) hQ ?_
        (try simp only [Act.put, List.setIfInBounds_toArray, List.set_cons_zero, List.set_cons_succ])
        iterate 1 (first | (refine wpCan_move rfl rfl (fun _ _ _ _ h => h) ?_; (simp only [Act.put, Act.eval, Array.getD_eq_getD_getElem?, List.getElem?_toArray, List.getElem?_cons_zero, List.getElem?_cons_succ, Option.getD_some, List.setIfInBounds_toArray, List.set_cons_zero, List.set_cons_succ])) | (refine wpCan_assign rfl rfl (fun _ _ _ _ h => h) ?_; (simp only [Act.put, Act.eval, Array.getD_eq_getD_getElem?, List.getElem?_toArray, List.getElem?_cons_zero, List.getElem?_cons_succ, Option.getD_some, List.setIfInBounds_toArray, List.set_cons_zero, List.set_cons_succ])) | (refine wpCan_nilCheck rfl rfl rfl (fun _ _ _ _ h => h) ?_; (simp only [Act.put, List.setIfInBounds_toArray, List.set_cons_zero, List.set_cons_succ])) | (refine wpCan_q rfl rfl (fun _ _ _ _ h => h) (by first | exact .bin rfl rfl rfl | exact .indexAddr rfl | exact .un rfl | exact .extract rfl | exact .index rfl | exact .field rfl | exact .slice rfl | exact .load rfl rfl lrv hrv) (fun K hK => ?_); go_simp; (try (simp only [↓IntWalk.iteOmega]; go_simp)); (try go_bits); refine hK _ ?_; clear hK K))
        refine wpCan_load_arr rfl rfl rfl (fun _ _ _ _ h => h) RTFe (lt_of_block (w := wq) hE) hE ?_
        (try simp only [Act.put, List.setIfInBounds_toArray, List.set_cons_zero, List.set_cons_succ])
        iterate 1 (first | (refine wpCan_move rfl rfl (fun _ _ _ _ h => h) ?_; (simp only [Act.put, Act.eval, Array.getD_eq_getD_getElem?, List.getElem?_toArray, List.getElem?_cons_zero, List.getElem?_cons_succ, Option.getD_some, List.setIfInBounds_toArray, List.set_cons_zero, List.set_cons_succ])) | (refine wpCan_assign rfl rfl (fun _ _ _ _ h => h) ?_; (simp only [Act.put, Act.eval, Array.getD_eq_getD_getElem?, List.getElem?_toArray, List.getElem?_cons_zero, List.getElem?_cons_succ, Option.getD_some, List.setIfInBounds_toArray, List.set_cons_zero, List.set_cons_succ])) | (refine wpCan_nilCheck rfl rfl rfl (fun _ _ _ _ h => h) ?_; (simp only [Act.put, List.setIfInBounds_toArray, List.set_cons_zero, List.set_cons_succ])) | (refine wpCan_q rfl rfl (fun _ _ _ _ h => h) (by first | exact .bin rfl rfl rfl | exact .indexAddr rfl | exact .un rfl | exact .extract rfl | exact .index rfl | exact .field rfl | exact .slice rfl | exact .load rfl rfl lrv hrv) (fun K hK => ?_); go_simp; (try (simp only [↓IntWalk.iteOmega]; go_simp)); (try go_bits); refine hK _ ?_; clear hK K))
        refine wpCan_load_arr rfl rfl rfl (fun _ _ _ _ h => h) RTFe (lt_of_block (w := wq) hP) hP ?_
        (try simp only [Act.put, List.setIfInBounds_toArray, List.set_cons_zero, List.set_cons_succ])
        iterate 1 (first | (refine wpCan_move rfl rfl (fun _ _ _ _ h => h) ?_; (simp only [Act.put, Act.eval, Array.getD_eq_getD_getElem?, List.getElem?_toArray, List.getElem?_cons_zero, List.getElem?_cons_succ, Option.getD_some, List.setIfInBounds_toArray, List.set_cons_zero, List.set_cons_succ])) | (refine wpCan_assign rfl rfl (fun _ _ _ _ h => h) ?_; (simp only [Act.put, Act.eval, Array.getD_eq_getD_getElem?, List.getElem?_toArray, List.getElem?_cons_zero, List.getElem?_cons_succ, Option.getD_some, List.setIfInBounds_toArray, List.set_cons_zero, List.set_cons_succ])) | (refine wpCan_nilCheck rfl rfl rfl (fun _ _ _ _ h => h) ?_; (simp only [Act.put, List.setIfInBounds_toArray, List.set_cons_zero, List.set_cons_succ])) | (refine wpCan_q rfl rfl (fun _ _ _ _ h => h) (by first | exact .bin rfl rfl rfl | exact .indexAddr rfl | exact .un rfl | exact .extract rfl | exact .index rfl | exact .field rfl | exact .slice rfl | exact .load rfl rfl lrv hrv) (fun K hK => ?_); go_simp; (try (simp only [↓IntWalk.iteOmega]; go_simp)); (try go_bits); refine hK _ ?_; clear hK K))
        refine wpCan_all rfl (fun _ _ _ _ h => h) (fun w' => run_op_build rfl (by simp [Act.eval, Act.put]) (built_fe1 121665)) ?_
        (try simp only [Act.put, List.setIfInBounds_toArray, List.set_cons_zero, List.set_cons_succ])
        refine wpCan_load_arr rfl rfl rfl (fun _ _ _ _ h => h) RTFe (lt_of_block (w := wq) hE) hE ?_
        (try simp only [Act.put, List.setIfInBounds_toArray, List.set_cons_zero, List.set_cons_succ])
        refine wpCan_e rfl (fun K hK => ?_)
        go_simp
        refine (rmul_yes R (sAA X Z) (sBB X Z) (ok_AA OX.out OZ.out) (ok_BB OX.out OZ.out) _ (by exact hr)).mono ?_
        rintro e v1 ⟨rfl, b1⟩
        refine hK _ _ (Keep.of_below b1 (Nat.le_refl _)) ?_
        clear hK K
        (try simp only [Act.put, List.setIfInBounds_toArray, List.set_cons_zero, List.set_cons_succ])
        have cb := b1
        clear b1
        refine wpCan_e rfl (fun K hK => ?_)
        go_simp
        refine (rmul_yes R (oneF 121665) (sE X Z) ok_121665 (ok_E OX.out OZ.out) _ (by exact keep_below (w := wq.drew) cb (lt_of_block (w := wq) hr) hr)).mono ?_
        rintro e v2 ⟨rfl, b2⟩
        refine hK _ _ (Keep.of_below b2 cb.size) ?_
        clear hK K
        (try simp only [Act.put, List.setIfInBounds_toArray, List.set_cons_zero, List.set_cons_succ])
        replace cb := cb.trans (b2.mono cb.size)
        clear b2
        refine wpCan_e rfl (fun K hK => ?_)
        go_simp
        refine (radd_yes R (sAA X Z) _ (ok_AA OX.out OZ.out) (prod_ok _ _ ok_121665 (ok_E OX.out OZ.out)) _ (by exact keep_below (w := wq.drew) cb (lt_of_block (w := wq) hr) hr)).mono ?_
        rintro e v3 ⟨rfl, b3⟩
        refine hK _ _ (Keep.of_below b3 cb.size) ?_
        clear hK K
        (try simp only [Act.put, List.setIfInBounds_toArray, List.set_cons_zero, List.set_cons_succ])
        replace cb := cb.trans (b3.mono cb.size)
        clear b3
        refine wpCan_e rfl (fun K hK => ?_)
        go_simp
        refine (rmul_yes R (sE X Z) _ (ok_E OX.out OZ.out) (sum_ok (ok_AA OX.out OZ.out) (prod_ok _ _ ok_121665 (ok_E OX.out OZ.out))) _ (by exact keep_below (w := wq.drew) cb (lt_of_block (w := wq) hr) hr)).mono ?_
        rintro e v4 ⟨rfl, b4⟩
        refine hK _ _ (Keep.of_below b4 cb.size) ?_
        clear hK K
        (try simp only [Act.put, List.setIfInBounds_toArray, List.set_cons_zero, List.set_cons_succ])
        replace cb := cb.trans (b4.mono cb.size)
        clear b4
        refine wpCan_all rfl (fun _ _ _ _ h => h) (fun w' => run_op_build rfl (by simp [Act.eval, Act.put]; exact ⟨rfl, rfl⟩) (built_point (sLX X Z) (sLZ X Z))) ?_
        (try simp only [Act.put, List.setIfInBounds_toArray, List.set_cons_zero, List.set_cons_succ])
        refine wpCan_nil ?_
        clear c_rv lrv
        replace hrv := keep_below (w := wq.drew) cb (lt_of_block (w := wq) hrv) hrv
        replace hr := keep_below (w := wq.drew) cb (lt_of_block (w := wq) hr) hr
        replace hlo := keep_below (w := wq.drew) cb (lt_of_block (w := wq) hlo) hlo
        replace hhi := keep_below (w := wq.drew) cb (lt_of_block (w := wq) hhi) hhi
        replace hfi := keep_below (w := wq.drew) cb (lt_of_block (w := wq) hfi) hfi
        replace hP := keep_below (w := wq.drew) cb (lt_of_block (w := wq) hP) hP
        replace hQ := keep_below (w := wq.drew) cb (lt_of_block (w := wq) hQ) hQ
        replace hE := keep_below (w := wq.drew) cb (lt_of_block (w := wq) hE) hE
        replace hb := hb.drew.trans (Bar.of_below cb)
        clear cb
        obtain ⟨ws, hws⟩ : ∃ x, x = v4 := ⟨_, rfl⟩
        rw [← hws] at hrv hr hlo hhi hfi hP hQ hE hb ⊢
        clear hws
        go_wp2_with (first | (refine wpList_store_arr rfl rfl rfl rfl RTPoint hlo ?_))
        replace hrv := row_keep (g := LO) (c' := (arr .u64 10 fun i => (((two5 (sLX X Z) (sLZ X Z)) i : Nat) : Int))) hrv (ne_of_type hrv hlo (by decide))
        replace hr := row_keep (g := LO) (c' := (arr .u64 10 fun i => (((two5 (sLX X Z) (sLZ X Z)) i : Nat) : Int))) hr (ne_of_type hr hlo (by decide))
        replace hhi := row_keep (g := LO) (c' := (arr .u64 10 fun i => (((two5 (sLX X Z) (sLZ X Z)) i : Nat) : Int))) hhi (Ne.symm N7.out)
        replace hfi := row_keep (g := LO) (c' := (arr .u64 10 fun i => (((two5 (sLX X Z) (sLZ X Z)) i : Nat) : Int))) hfi (ne_of_type hfi hlo (by decide))
        replace hP := row_keep (g := LO) (c' := (arr .u64 10 fun i => (((two5 (sLX X Z) (sLZ X Z)) i : Nat) : Int))) hP (ne_of_type hP hlo (by decide))
        replace hQ := row_keep (g := LO) (c' := (arr .u64 10 fun i => (((two5 (sLX X Z) (sLZ X Z)) i : Nat) : Int))) hQ (ne_of_type hQ hlo (by decide))
        replace hE := row_keep (g := LO) (c' := (arr .u64 10 fun i => (((two5 (sLX X Z) (sLZ X Z)) i : Nat) : Int))) hE (ne_of_type hE hlo (by decide))
        replace hb := hb.row (g := LO) (.inl rfl) (arr .u64 10 fun i => (((two5 (sLX X Z) (sLZ X Z)) i : Nat) : Int))
        replace hlo := row_self (c' := (arr .u64 10 fun i => (((two5 (sLX X Z) (sLZ X Z)) i : Nat) : Int))) hlo
        exact bodyPost_end (results_none rfl _ _ _) rfl ⟨rfl, hb, hrv, hr, hlo, hhi, hfi⟩
end Go.Proofs.Ythgjhipfgdlbnaa
