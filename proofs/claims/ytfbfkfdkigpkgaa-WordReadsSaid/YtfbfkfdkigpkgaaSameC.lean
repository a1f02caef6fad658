/- The walk of layer 16: whether two commits are the same. -/
import Derived.Test.YtfbfkfdkigpkgaaEqT
import Derived.Test.YtfbfkfdkigpkgaaHcm
namespace Go.Proofs.Ytfbfkfdkigpkgaa
set_option linter.unusedSimpArgs false
set_option linter.unusedVariables false
open Go.RowKit
attribute [local irreducible] beL beK

def SameCP (c o : Com) : Prop := SameS c.pn o.pn fun i => SameP (c.kind i) (c.id i) (c.ppt i) (o.kind i) (o.id i) (o.ppt i)
def SameCS (c o : Com) : Prop := SameS c.sn o.sn fun i => SameSt (c.node i) (c.frm i) (c.dn i) (c.dv i) (o.node i) (o.frm i) (o.dn i) (o.dv i)
def SameCK (c o : Com) : Prop := SameS c.kn o.kn fun i => SameK (c.key i) (o.key i)
def SameCB (c o : Com) : Prop := SameS c.bn o.bn fun i => c.bx i = o.bx i
instance (c o : Com) : Decidable (SameCP c o) := by unfold SameCP; infer_instance
instance (c o : Com) : Decidable (SameCS c o) := by unfold SameCS; infer_instance
instance (c o : Com) : Decidable (SameCK c o) := by unfold SameCK; infer_instance
instance (c o : Com) : Decidable (SameCB c o) := by unfold SameCB; infer_instance
def SameC (c : Com) (tg : Nat → Nat) (o : Com) (tg' : Nat → Nat) : Prop := c.ep = o.ep ∧ c.by_ = o.by_ ∧ SameCP c o ∧ SameK c.pt o.pt ∧ SameCS c o ∧ SameCK c o ∧ SameCB c o ∧ SameK tg tg'
instance (c : Com) (tg : Nat → Nat) (o : Com) (tg' : Nat → Nat) : Decidable (SameC c tg o tg') := by unfold SameC; infer_instance

set_option maxRecDepth 100000 in
set_option maxHeartbeats 4000000 in
theorem SameCom_any (c : Com) (tg : Nat → Nat) (o : Com) (tg' : Nat → Nat) (B : Nat) (w : World) (h : ComOk w B c) (h' : ComOk w B o) (hb1 : ComB c) (hb2 : ComB o) (hf : MidC c) (hB : B ≤ w.heap.size) :
    Calls Try.prog 24 #[.agg (arrV 70 (comV c tg)), .agg (arrV 70 (comV o tg'))] w fun e w' => e = .returned (.bool (decide (SameC c tg o tg'))) ∧ Below w.heap.size w w' := by
  have H0 := Lib.hid h
  have H1 := Lib.hid h'
  have HB0 := Lib.hid hb1
  have HB1 := Lib.hid hb2
  have hsn := hf.sn
  have hkn := hf.kn
  have hbn := hf.bn
  have hpn := hf.pn
  have HDN := Lib.hid hf.dn
  clear h h' hb1 hb2 hf
  go_enter Try.func24, Try.ntmps24
  obtain ⟨g0, g1, hz, hb⟩ := alloc2 w (.cells (arrV 70 (comV c tg)) 42) (.cells (arrV 70 (comV o tg')) 42)
  have c0 := cell_arrV g0 0 (by omega)
  replace c0 : _ = some (Value.int .u64 (c.ep : Int)) := c0
  have c1 := cell_arrV g0 1 (by omega)
  replace c1 : _ = some (Value.int .i64 c.by_) := c1
  have o0 := cell_arrV g1 0 (by omega)
  replace o0 : _ = some (Value.int .u64 (o.ep : Int)) := o0
  have o1 := cell_arrV g1 1 (by omega)
  replace o1 : _ = some (Value.int .i64 o.by_) := o1
  clear hz
  by_cases he : c.ep = o.ep
  · have s0 := he
    have kb0 : (((c.ep : Nat) : Int) == ((o.ep : Nat) : Int)) = true := beq_iff_eq.2 (by omega)
    clear he
    by_cases he : c.by_ = o.by_
    · have s1 := he
      have kb1 : (c.by_ == o.by_) = true := beq_iff_eq.2 (by omega)
      clear he
      have c2 := cell_arrV g0 2 (by omega)
      replace c2 : _ = some (Value.slice c.PA c.pn c.pc) := c2
      have o2 := cell_arrV g1 2 (by omega)
      replace o2 : _ = some (Value.slice o.PA o.pn o.pc) := o2
      have hc := H0.out.below hb hB
      have ho := H1.out.below hb hB
      have hBw := Nat.le_trans hB hb.size
      go_wp2_with (first | (go_at_call 56; fail))
      refine (EqProps c.PA c.pn c.pc c.kind c.id c.ppt o.PA o.pn o.pc o.kind o.id o.ppt B _ hc.props ho.props hBw (by omega)).mono ?_
      rintro e w4 ⟨rfl, b2⟩
      replace g0 := keep_below b2 (lt_of_block g0) g0
      replace g1 := keep_below b2 (lt_of_block g1) g1
      replace hb := hb.trans (b2.mono hb.size)
      clear b2 hc ho hBw
      clear c2 o2
      by_cases he : SameCP c o
      · have eq := decide_eq_true he
        unfold SameCP at eq
        rw [eq]
        have S2 := Lib.hid he
        clear he eq
        by_cases he : SameK c.pt o.pt
        · have hq := sameTo_key c.pt o.pt
          rw [decide_eq_true he] at hq
          have HQ := Lib.hid hq
          clear hq
          have S3 := Lib.hid he
          clear he
          have c35 := cell_arrV g0 35 (by omega)
          replace c35 : _ = some (Value.slice c.SA c.sn c.sc) := c35
          have o35 := cell_arrV g1 35 (by omega)
          replace o35 : _ = some (Value.slice o.SA o.sn o.sc) := o35
          have hc := H0.out.below hb hB
          have ho := H1.out.below hb hB
          have hBw := Nat.le_trans hB hb.size
          go_wp2_with (first | (refine wpList_valg rfl (run_op_load_part (off := 3) (k := .u8) (fun j => ((c.pt j : Nat) : Int)) rfl RTKey rfl g0 (by omega) (fun j hj => by unfold comV; rw [if_neg (by omega), if_neg (by omega), if_neg (by omega), if_pos (by omega), show 3 + j - 3 = j from by omega])) ?_) | (refine wpList_valg rfl (run_op_load_part (off := 3) (k := .u8) (fun j => ((o.pt j : Nat) : Int)) rfl RTKey rfl g1 (by omega) (fun j hj => by unfold comV; rw [if_neg (by omega), if_neg (by omega), if_neg (by omega), if_pos (by omega), show 3 + j - 3 = j from by omega])) ?_) | (refine wpList_valg rfl (run_op_eqArr (op := .eql) rfl ITKey rfl rfl) ?_; rw [HQ.out]) | (go_at_call 57; fail))
          refine (EqSteps c.SA c.sn c.sc c.node c.frm c.DA c.dn c.dc c.dv o.SA o.sn o.sc o.node o.frm o.DA o.dn o.dc o.dv B _ hc.steps ho.steps hc.sends ho.sends hBw (by omega) (fun i hi => by have := HDN.out i hi; omega)).mono ?_
          rintro e w6 ⟨rfl, b2⟩
          replace g0 := keep_below b2 (lt_of_block g0) g0
          replace g1 := keep_below b2 (lt_of_block g1) g1
          replace hb := hb.trans (b2.mono hb.size)
          clear b2 hc ho hBw
          clear c35 o35
          by_cases he : SameCS c o
          · have eq := decide_eq_true he
            unfold SameCS at eq
            rw [eq]
            have S4 := Lib.hid he
            clear he eq
            have c36 := cell_arrV g0 36 (by omega)
            replace c36 : _ = some (Value.slice c.KA c.kn c.kc) := c36
            have o36 := cell_arrV g1 36 (by omega)
            replace o36 : _ = some (Value.slice o.KA o.kn o.kc) := o36
            have hc := H0.out.below hb hB
            have ho := H1.out.below hb hB
            have hBw := Nat.le_trans hB hb.size
            go_wp2_with (first | (go_at_call 58; fail))
            refine (EqKeys c.KA c.kn c.kc c.key o.KA o.kn o.kc o.key B _ hc.keys ho.keys hBw (by omega)).mono ?_
            rintro e w7 ⟨rfl, b2⟩
            replace g0 := keep_below b2 (lt_of_block g0) g0
            replace g1 := keep_below b2 (lt_of_block g1) g1
            replace hb := hb.trans (b2.mono hb.size)
            clear b2 hc ho hBw
            clear c36 o36
            by_cases he : SameCK c o
            · have eq := decide_eq_true he
              unfold SameCK at eq
              rw [eq]
              have S5 := Lib.hid he
              clear he eq
              have c37 := cell_arrV g0 37 (by omega)
              replace c37 : _ = some (Value.slice c.BA c.bn c.bc) := c37
              have o37 := cell_arrV g1 37 (by omega)
              replace o37 : _ = some (Value.slice o.BA o.bn o.bc) := o37
              have hc := H0.out.below hb hB
              have ho := H1.out.below hb hB
              have hBw := Nat.le_trans hB hb.size
              go_wp2_with (first | (go_at_call 59; fail))
              refine (EqBoxes c.BA c.bn c.bc c.XA c.xn c.xc c.bx o.BA o.bn o.bc o.XA o.xn o.xc o.bx B _ hc.boxes ho.boxes hc.texts ho.texts HB0.out.bx HB1.out.bx hBw (by omega)).mono ?_
              rintro e w8 ⟨rfl, b2⟩
              replace g0 := keep_below b2 (lt_of_block g0) g0
              replace g1 := keep_below b2 (lt_of_block g1) g1
              replace hb := hb.trans (b2.mono hb.size)
              clear b2 hc ho hBw
              clear c37 o37
              by_cases he : SameCB c o
              · have eq := decide_eq_true he
                unfold SameCB at eq
                rw [eq]
                have S6 := Lib.hid he
                clear he eq
                by_cases he : SameK tg tg'
                · have hq := sameTo_key tg tg'
                  rw [decide_eq_true he] at hq
                  have HQ := Lib.hid hq
                  clear hq
                  have S7 := Lib.hid he
                  clear he
                  have EX := Lib.hid (show decide (SameC c tg o tg') = true from decide_eq_true ⟨s0, s1, S2.out, S3.out, S4.out, S5.out, S6.out, S7.out⟩)
                  clear s0 s1
                  go_wp2_with (first | (refine wpList_valg rfl (run_op_load_part (off := 38) (k := .u8) (fun j => ((tg j : Nat) : Int)) rfl RTKey rfl g0 (by omega) (fun j hj => by unfold comV; rw [if_neg (by omega), if_neg (by omega), if_neg (by omega), if_neg (by omega), if_neg (by omega), if_neg (by omega), if_neg (by omega), show 38 + j - 38 = j from by omega])) ?_) | (refine wpList_valg rfl (run_op_load_part (off := 38) (k := .u8) (fun j => ((tg' j : Nat) : Int)) rfl RTKey rfl g1 (by omega) (fun j hj => by unfold comV; rw [if_neg (by omega), if_neg (by omega), if_neg (by omega), if_neg (by omega), if_neg (by omega), if_neg (by omega), if_neg (by omega), show 38 + j - 38 = j from by omega])) ?_) | (refine wpList_valg rfl (run_op_eqArr (op := .eql) rfl ITKey rfl rfl) ?_; rw [HQ.out]))
                  go_ret
                  refine ⟨?_, hb⟩
                  rw [EX.out]
                  rfl
                · have hq := sameTo_key tg tg'
                  rw [decide_eq_false he] at hq
                  have HQ := Lib.hid hq
                  clear hq
                  have EX := Lib.hid (show decide (SameC c tg o tg') = false from decide_eq_false fun h => he h.2.2.2.2.2.2.2)
                  clear he
                  go_wp2_with (first | (refine wpList_valg rfl (run_op_load_part (off := 38) (k := .u8) (fun j => ((tg j : Nat) : Int)) rfl RTKey rfl g0 (by omega) (fun j hj => by unfold comV; rw [if_neg (by omega), if_neg (by omega), if_neg (by omega), if_neg (by omega), if_neg (by omega), if_neg (by omega), if_neg (by omega), show 38 + j - 38 = j from by omega])) ?_) | (refine wpList_valg rfl (run_op_load_part (off := 38) (k := .u8) (fun j => ((tg' j : Nat) : Int)) rfl RTKey rfl g1 (by omega) (fun j hj => by unfold comV; rw [if_neg (by omega), if_neg (by omega), if_neg (by omega), if_neg (by omega), if_neg (by omega), if_neg (by omega), if_neg (by omega), show 38 + j - 38 = j from by omega])) ?_) | (refine wpList_valg rfl (run_op_eqArr (op := .eql) rfl ITKey rfl rfl) ?_; rw [HQ.out]))
                  go_ret
                  refine ⟨?_, hb⟩
                  rw [EX.out]
                  rfl
              · have eq := decide_eq_false he
                unfold SameCB at eq
                rw [eq]
                clear eq
                have EX := Lib.hid (show decide (SameC c tg o tg') = false from decide_eq_false fun h => he h.2.2.2.2.2.2.1)
                clear he
                go_wp2
                go_ret
                refine ⟨?_, hb⟩
                rw [EX.out]
                rfl
            · have eq := decide_eq_false he
              unfold SameCK at eq
              rw [eq]
              clear eq
              have EX := Lib.hid (show decide (SameC c tg o tg') = false from decide_eq_false fun h => he h.2.2.2.2.2.1)
              clear he
              go_wp2
              go_ret
              refine ⟨?_, hb⟩
              rw [EX.out]
              rfl
          · have eq := decide_eq_false he
            unfold SameCS at eq
            rw [eq]
            clear eq
            have EX := Lib.hid (show decide (SameC c tg o tg') = false from decide_eq_false fun h => he h.2.2.2.2.1)
            clear he
            go_wp2
            go_ret
            refine ⟨?_, hb⟩
            rw [EX.out]
            rfl
        · have hq := sameTo_key c.pt o.pt
          rw [decide_eq_false he] at hq
          have HQ := Lib.hid hq
          clear hq
          have EX := Lib.hid (show decide (SameC c tg o tg') = false from decide_eq_false fun h => he h.2.2.2.1)
          clear he
          go_wp2_with (first | (refine wpList_valg rfl (run_op_load_part (off := 3) (k := .u8) (fun j => ((c.pt j : Nat) : Int)) rfl RTKey rfl g0 (by omega) (fun j hj => by unfold comV; rw [if_neg (by omega), if_neg (by omega), if_neg (by omega), if_pos (by omega), show 3 + j - 3 = j from by omega])) ?_) | (refine wpList_valg rfl (run_op_load_part (off := 3) (k := .u8) (fun j => ((o.pt j : Nat) : Int)) rfl RTKey rfl g1 (by omega) (fun j hj => by unfold comV; rw [if_neg (by omega), if_neg (by omega), if_neg (by omega), if_pos (by omega), show 3 + j - 3 = j from by omega])) ?_) | (refine wpList_valg rfl (run_op_eqArr (op := .eql) rfl ITKey rfl rfl) ?_; rw [HQ.out]))
          go_ret
          refine ⟨?_, hb⟩
          rw [EX.out]
          rfl
      · have eq := decide_eq_false he
        unfold SameCP at eq
        rw [eq]
        clear eq
        have EX := Lib.hid (show decide (SameC c tg o tg') = false from decide_eq_false fun h => he h.2.2.1)
        clear he
        go_wp2
        go_ret
        refine ⟨?_, hb⟩
        rw [EX.out]
        rfl
    · have kb1 : (c.by_ == o.by_) = false := beq_eq_false_iff_ne.2 (by omega)
      have EX := Lib.hid (show decide (SameC c tg o tg') = false from decide_eq_false fun h => he h.2.1)
      clear he
      go_wp2
      go_ret
      refine ⟨?_, hb⟩
      rw [EX.out]
      rfl
  · have kb0 : (((c.ep : Nat) : Int) == ((o.ep : Nat) : Int)) = false := beq_eq_false_iff_ne.2 (by omega)
    have EX := Lib.hid (show decide (SameC c tg o tg') = false from decide_eq_false fun h => he h.1)
    clear he
    go_wp2
    go_ret
    refine ⟨?_, hb⟩
    rw [EX.out]
    rfl
end Go.Proofs.Ytfbfkfdkigpkgaa
