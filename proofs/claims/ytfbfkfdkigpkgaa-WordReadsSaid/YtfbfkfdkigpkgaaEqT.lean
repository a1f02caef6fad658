/- The walks of layer 16: steps held against each other. -/
import Derived.Test.YtfbfkfdkigpkgaaEqF
import Derived.Test.YtfbfkfdkigpkgaaChk
namespace Go.Proofs.Ytfbfkfdkigpkgaa
set_option linter.unusedSimpArgs false
set_option linter.unusedVariables false
open Go.RowKit
attribute [local irreducible] beL beK

def SameSt (node frm : Int) (n : Nat) (v : Nat → Int) (node' frm' : Int) (n' : Nat) (v' : Nat → Int) : Prop := node = node' ∧ frm = frm' ∧ SameS n n' fun j => (v j) = (v' j)
instance (node frm : Int) (n : Nat) (v : Nat → Int) (node' frm' : Int) (n' : Nat) (v' : Nat → Int) : Decidable (SameSt node frm n v node' frm' n' v') := by unfold SameSt; infer_instance

set_option maxRecDepth 100000 in
set_option maxHeartbeats 2000000 in
theorem sameStep_any (node frm : Int) (D : Option Addr) (n c : Nat) (v : Nat → Int) (node' frm' : Int) (D' : Option Addr) (n' c' : Nat) (v' : Nat → Int) (B : Nat) (w : World) (h : Els w B D n 1 fun j _ => .int .i64 (v j)) (h' : Els w B D' n' 1 fun j _ => .int .i64 (v' j)) (hB : B ≤ w.heap.size) (hn : (n : Int) ≤ 9223372036854775807) :
    Calls Try.prog 54 #[.agg (arrV 3 (stepV node frm D n c)), .agg (arrV 3 (stepV node' frm' D' n' c'))] w fun e w' => e = .returned (.bool (decide (SameSt node frm n v node' frm' n' v'))) ∧ Below w.heap.size w w' := by
  have H0 := Lib.hid h
  have H1 := Lib.hid h'
  have HN := Lib.hid hn
  clear h h' hn
  by_cases k1 : node = node'
  · by_cases k2 : frm = frm'
    · have EX := Lib.hid (show decide (SameSt node frm n v node' frm' n' v') = decide (SameS n n' fun j => (v j) = (v' j)) from decide_eq_decide.2 ⟨fun h => h.2.2, fun h => ⟨k1, k2, h⟩⟩)
      have kb1 : (node == node') = true := beq_iff_eq.2 k1
      have kb2 : (frm == frm') = true := beq_iff_eq.2 k2
      clear k1 k2
      go_enter Try.func54, Try.ntmps54
      obtain ⟨g0, g1, hz, hb⟩ := alloc2 w (.cells (arrV 3 (stepV node frm D n c)) 71) (.cells (arrV 3 (stepV node' frm' D' n' c')) 71)
      have c0 := cell_arrV g0 0 (by omega)
      replace c0 : _ = some (Value.int .i64 node) := c0
      have c1 := cell_arrV g0 1 (by omega)
      replace c1 : _ = some (Value.int .i64 frm) := c1
      have c2 := cell_arrV g0 2 (by omega)
      replace c2 : _ = some (Value.slice D n c) := c2
      have d0 := cell_arrV g1 0 (by omega)
      replace d0 : _ = some (Value.int .i64 node') := d0
      have d1 := cell_arrV g1 1 (by omega)
      replace d1 : _ = some (Value.int .i64 frm') := d1
      have d2 := cell_arrV g1 2 (by omega)
      replace d2 : _ = some (Value.slice D' n' c') := d2
      have e1 := H0.out.below' hb hB
      have e2 := H1.out.below' hb hB
      have hBw := Nat.le_trans hB hb.size
      go_wp2_with (go_at_call 55; (with_reducible refine (EqInts D n c v D' n' c' v' B _ e1 e2 hBw HN.out).mono ?_); rintro e w2 ⟨rfl, b2⟩)
      go_ret
      refine ⟨?_, hb.trans (b2.mono hb.size)⟩
      rw [EX.out]
      rfl
    · have EX := Lib.hid (show decide (SameSt node frm n v node' frm' n' v') = false from decide_eq_false fun h => k2 h.2.1)
      have kb : (frm == frm') = false := beq_eq_false_iff_ne.2 k2
      have kb1 : (node == node') = true := beq_iff_eq.2 k1
      clear k1 k2
      go_enter Try.func54, Try.ntmps54
      obtain ⟨g0, g1, hz, hb⟩ := alloc2 w (.cells (arrV 3 (stepV node frm D n c)) 71) (.cells (arrV 3 (stepV node' frm' D' n' c')) 71)
      have c0 := cell_arrV g0 0 (by omega)
      replace c0 : _ = some (Value.int .i64 node) := c0
      have c1 := cell_arrV g0 1 (by omega)
      replace c1 : _ = some (Value.int .i64 frm) := c1
      have d0 := cell_arrV g1 0 (by omega)
      replace d0 : _ = some (Value.int .i64 node') := d0
      have d1 := cell_arrV g1 1 (by omega)
      replace d1 : _ = some (Value.int .i64 frm') := d1
      go_wp2
      go_ret
      refine ⟨?_, hb⟩
      rw [EX.out]
      rfl
  · have EX := Lib.hid (show decide (SameSt node frm n v node' frm' n' v') = false from decide_eq_false fun h => k1 h.1)
    have kb : (node == node') = false := beq_eq_false_iff_ne.2 k1
    clear k1
    go_enter Try.func54, Try.ntmps54
    obtain ⟨g0, g1, hz, hb⟩ := alloc2 w (.cells (arrV 3 (stepV node frm D n c)) 71) (.cells (arrV 3 (stepV node' frm' D' n' c')) 71)
    have c0 := cell_arrV g0 0 (by omega)
    replace c0 : _ = some (Value.int .i64 node) := c0
    have d0 := cell_arrV g1 0 (by omega)
    replace d0 : _ = some (Value.int .i64 node') := d0
    go_wp2
    go_ret
    refine ⟨?_, hb⟩
    rw [EX.out]
    rfl

set_option maxRecDepth 100000 in
set_option maxHeartbeats 2000000 in
theorem EqSteps (A : Option Addr) (n c : Nat) (node frm : Nat → Int) (DA : Nat → Option Addr) (dn dc : Nat → Nat) (dv : Nat → Nat → Int) (A' : Option Addr) (n' c' : Nat) (node' frm' : Nat → Int) (DA' : Nat → Option Addr) (dn' dc' : Nat → Nat) (dv' : Nat → Nat → Int) (B : Nat) (w : World)
    (h : Els w B A n 3 (fun i => stepV (node i) (frm i) (DA i) (dn i) (dc i))) (h' : Els w B A' n' 3 (fun i => stepV (node' i) (frm' i) (DA' i) (dn' i) (dc' i))) (hs : ∀ i, i < n → Els w B (DA i) (dn i) 1 fun j _ => .int .i64 (dv i j)) (hs' : ∀ i, i < n' → Els w B (DA' i) (dn' i) 1 fun j _ => .int .i64 (dv' i j)) (hB : B ≤ w.heap.size) (hn : (n : Int) ≤ 9223372036854775807) (hd : ∀ i, i < n → (dn i : Int) ≤ 9223372036854775807) :
    Calls Try.prog 57 #[.slice A n c, .slice A' n' c', .func (.func 54) #[] #[]] w fun e w' => e = .returned (.bool (decide (SameS n n' fun i => SameSt (node i) (frm i) (dn i) (dv i) (node' i) (frm' i) (dn' i) (dv' i)))) ∧ Below w.heap.size w w' := by
  have H0 := Lib.hid h
  have H1 := Lib.hid h'
  have HS := Lib.hid hs
  have HS' := Lib.hid hs'
  have HDN := Lib.hid hd
  clear h h' hs hs' hd
  by_cases hnn : n = n'
  · subst hnn
    go_enter Try.func57, Try.ntmps57
    go_wp2
    go_loopg [17] n (fun r x wr => ∃ i : Nat, i + r = n ∧ x = .int .i64 i ∧ (∀ j, j < i → SameSt (node j) (frm j) (dn j) (dv j) (node' j) (frm' j) (dn' j) (dv' j)) ∧ Below w.heap.size w wr)
    case atStart => exact ⟨0, by omega, rfl, (fun j hj => absurd hj (by omega)), Below.refl _ _⟩
    case round =>
      obtain ⟨i, hi, rfl, hd, hb⟩ := hrel
      have HI := Lib.hid hi
      have HD := Lib.hid hd
      clear hi hd
      by_cases hlt : i < n
      · obtain ⟨ad, rfl, hab, hc⟩ := (H0.out.below' hb hB).cell hlt
        have e1 := (HS.out i hlt).below' hb hB
        have e2 := (HS'.out i hlt).below' hb hB
        have hdn := Lib.hid (HDN.out i hlt)
        go_upto_region 6 with (first | (refine wpList_el rfl rfl Try.underlying38 (sz := 3) (by kernel_rfl) rfl rfl hlt ?_) | (refine wpList_load_at (n := 3) rfl rfl RTStep rfl hc ?_) | (refine wpList_newV2 rfl rfl rfl rfl rfl rfl ZVStep RTStep rfl rfl (fun _ _ => stepV_one _ _ _ _ _ _) ?_; intro w2 g2 b2 hs2))
        have hbs := hb.size
        replace hb := hb.trans (b2.mono hb.size)
        replace e1 := e1.below' b2 (by omega)
        replace e2 := e2.below' b2 (by omega)
        obtain ⟨ad', rfl, hab', hc'⟩ := (H1.out.below' hb hB).cell hlt
        clear b2 hs2
        generalize wr.heap.size = N2 at *
        go_upto_region 7 with (first | (refine wpList_el rfl rfl Try.underlying38 (sz := 3) (by kernel_rfl) rfl rfl hlt ?_) | (refine wpList_load_at (n := 3) rfl rfl RTStep rfl hc' ?_) | (refine wpList_newV rfl rfl rfl rfl ZVStep RTStep rfl rfl (fun _ _ => stepV_one _ _ _ _ _ _) ?_; intro w3 g3 b3 hs3))
        have l2 := lt_of_block g2
        replace g2 := keep_below b3 l2 g2
        have hbs3 := hb.size
        replace hb := hb.trans (b3.mono hb.size)
        replace e1 := e1.below' b3 (by omega)
        replace e2 := e2.below' b3 (by omega)
        clear b3 hs3
        generalize w2.heap.size = N3 at *
        have hBw := Nat.le_trans hB hb.size
        have C := Lib.hid (sameStep_any (node i) (frm i) (DA i) (dn i) (dc i) (dv i) (node' i) (frm' i) (DA' i) (dn' i) (dc' i) (dv' i) B _ e1 e2 hBw hdn.out)
        clear e1 e2
        go_upto_region 7 with (fail)
        (try simp only [Act.put, List.setIfInBounds_toArray, List.set_cons_zero, List.set_cons_succ])
        go_wp2_with (first | (refine wpList_load_all (g := N3) rfl rfl RTStep rfl g3 ?_) | (refine wpList_load_all (g := N2) rfl rfl RTStep rfl g2 ?_) | (go_at_call 54; fail))
        refine C.out.mono ?_
        rintro e w4 ⟨rfl, b4⟩
        replace hb := hb.trans (b4.mono hb.size)
        clear g2 g3 b4
        by_cases he : SameSt (node i) (frm i) (dn i) (dv i) (node' i) (frm' i) (dn' i) (dv' i)
        · rw [decide_eq_true he]
          have HE := Lib.hid he
          clear he
          go_wp2
          go_roundg (gk - 1)
          case measure => have := HI.out; omega
          case rel =>
            have hI := HI.out
            exact ⟨i + 1, by omega, by go_num, all_succ HD.out HE.out, hb⟩
        · rw [decide_eq_false he]
          have EX := Lib.hid (show decide (SameS n n fun i => SameSt (node i) (frm i) (dn i) (dv i) (node' i) (frm' i) (dn' i) (dv' i)) = false from decide_eq_false fun h => he (h.2 i hlt))
          clear he
          go_wp2
          go_ret
          refine ⟨?_, hb⟩
          rw [EX.out]
          rfl
      · obtain rfl : i = n := by have := HI.out; omega
        have EX := Lib.hid (show decide (SameS i i fun i => SameSt (node i) (frm i) (dn i) (dv i) (node' i) (frm' i) (dn' i) (dv' i)) = true from decide_eq_true ⟨rfl, HD.out⟩)
        go_wp2
        go_ret
        refine ⟨?_, hb⟩
        rw [EX.out]
        rfl
  · have EX := Lib.hid (show decide (SameS n n' fun i => SameSt (node i) (frm i) (dn i) (dv i) (node' i) (frm' i) (dn' i) (dv' i)) = false from decide_eq_false fun h => hnn h.1)
    have hnb : (((n : Nat) : Int) != ((n' : Nat) : Int)) = true := bne_iff_ne.2 (by omega)
    go_enter Try.func57, Try.ntmps57
    go_wp2
    go_ret
    refine ⟨?_, Below.refl _ _⟩
    rw [EX.out]
    rfl
end Go.Proofs.Ytfbfkfdkigpkgaa
