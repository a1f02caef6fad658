/- The walk of layer 16's reference: whether two commits are the same. -/
import Derived.Test.YtfbfkfdkigpkgaaSameC
namespace Go.Proofs.Ytfbfkfdkigpkgaa
set_option linter.unusedSimpArgs false
set_option linter.unusedVariables false
open Go.RowKit
attribute [local irreducible] beL beK wpStill

theorem run_elE {P : Program} {o : Oper} {a : Act} {w : World} {t e sz n c : Nat} {x y : Operand} {A : Option Addr} {ad : Addr} {i : Nat} (hA : A = some ad) (ho : o.op = .indexAddr t x y) (ht : P.underlying t = some (.slice e)) (hs : (P.info? e).map (·.size) = some sz) (hx : a.eval x = .slice A n c) (hy : a.eval y = .int .i64 i) (hi : i < n) :
    (execOp a.eval o).run P w = .ok (.value (.pointer (some (ad.add (i * sz))))) w := run_op_el ho ht hs (hx.trans (by rw [hA])) hy hi

theorem wpStill_stepg {P : Program} {ops : Array Oper} {rest : List Oper} {o : Oper} {a : Act} {w : World} {Q : Act → Prop} (hgd : Region.wanted o (yielded ops a.tmps) = true) (h : ∀ K : Act → Prop, (∀ a, wpStill P ops w Q rest a → K a) → o.still P a w K) : wpStill P ops w Q (o :: rest) a :=
  wpStill_step fun K hK => by rw [if_pos hgd]; exact h K hK
theorem wpStill_skip {P : Program} {ops : Array Oper} {rest : List Oper} {o : Oper} {a : Act} {w : World} {Q : Act → Prop} (hgd : Region.wanted o (yielded ops a.tmps) = false) (h : wpStill P ops w Q rest (a.put o.dst undef)) : wpStill P ops w Q (o :: rest) a :=
  wpStill_step fun K hK => by rw [if_neg (by rw [hgd]; decide)]; exact hK _ h
theorem wpStill_valg {P : Program} {ops : Array Oper} {rest : List Oper} {o : Oper} {a : Act} {w : World} {v : Value} {Q : Act → Prop} (hgd : Region.wanted o (yielded ops a.tmps) = true) (hr : (execOp a.eval o).run P w = .ok (.value v) w) (h : wpStill P ops w Q rest (a.put o.dst v)) : wpStill P ops w Q (o :: rest) a := by
  refine wpStill_step fun K hK => ?_
  rw [if_pos hgd]
  unfold Oper.still
  rw [hr, Oper.stillUpon_value]
  exact hK _ h

set_option maxRecDepth 100000 in
set_option maxHeartbeats 40000000 in
theorem RSameCom_any (c : Com) (tg : Nat → Nat) (o : Com) (tg' : Nat → Nat) (B : Nat) (w : World) (h : ComOk w B c) (h' : ComOk w B o) (hb1 : ComB c) (hb2 : ComB o) (hf : MidC c) (hB : B ≤ w.heap.size) :
    Calls Try.prog 25 #[.agg (arrV 70 (comV c tg)), .agg (arrV 70 (comV o tg'))] w fun e w' => e = .returned (.bool (decide (SameC c tg o tg'))) ∧ Below w.heap.size w w' := by
  have H0 := Lib.hid h
  have H1 := Lib.hid h'
  have HB0 := Lib.hid hb1
  have HB1 := Lib.hid hb2
  have hsn := hf.sn
  have hkn := hf.kn
  have hbn := hf.bn
  have hpn := hf.pn
  have HDN := Lib.hid hf.dn
  clear h h' hb1 hb2 hf
  go_enter Try.func25, Try.ntmps25
  obtain ⟨g0, g1, hz, hb⟩ := alloc2 w (.cells (arrV 70 (comV c tg)) 42) (.cells (arrV 70 (comV o tg')) 42)
  have c0 := cell_arrV g0 0 (by omega)
  replace c0 : _ = some (Value.int .u64 (c.ep : Int)) := c0
  have c1 := cell_arrV g0 1 (by omega)
  replace c1 : _ = some (Value.int .i64 c.by_) := c1
  have c2 := cell_arrV g0 2 (by omega)
  replace c2 : _ = some (Value.slice c.PA c.pn c.pc) := c2
  have c35 := cell_arrV g0 35 (by omega)
  replace c35 : _ = some (Value.slice c.SA c.sn c.sc) := c35
  have o0 := cell_arrV g1 0 (by omega)
  replace o0 : _ = some (Value.int .u64 (o.ep : Int)) := o0
  have o1 := cell_arrV g1 1 (by omega)
  replace o1 : _ = some (Value.int .i64 o.by_) := o1
  have o2 := cell_arrV g1 2 (by omega)
  replace o2 : _ = some (Value.slice o.PA o.pn o.pc) := o2
  have o35 := cell_arrV g1 35 (by omega)
  replace o35 : _ = some (Value.slice o.SA o.sn o.sc) := o35
  clear hz
  by_cases he : c.ep = o.ep
  · have S0 := Lib.hid he
    have kb0 : (((c.ep : Nat) : Int) == ((o.ep : Nat) : Int)) = true := beq_iff_eq.2 (by omega)
    have kn0 : (((c.ep : Nat) : Int) != ((o.ep : Nat) : Int)) = false := bne_eq_false_iff_eq.2 (by omega)
    clear he
    by_cases he : c.by_ = o.by_
    · have S1 := Lib.hid he
      have kb1 : (c.by_ == o.by_) = true := beq_iff_eq.2 (by omega)
      have kn1 : (c.by_ != o.by_) = false := bne_eq_false_iff_eq.2 (by omega)
      clear he
      by_cases he : c.pn = o.pn
      · have S2 := Lib.hid he
        have kb2 : (((c.pn : Nat) : Int) == ((o.pn : Nat) : Int)) = true := beq_iff_eq.2 (by omega)
        have kn2 : (((c.pn : Nat) : Int) != ((o.pn : Nat) : Int)) = false := bne_eq_false_iff_eq.2 (by omega)
        clear he
        by_cases he : SameK c.pt o.pt
        · have hq := sameTo_key c.pt o.pt
          rw [decide_eq_true he] at hq
          have HQ := Lib.hid hq
          clear hq
          have S3 := Lib.hid he
          clear he
          by_cases he : c.sn = o.sn
          · have S4 := Lib.hid he
            have kb4 : (((c.sn : Nat) : Int) == ((o.sn : Nat) : Int)) = true := beq_iff_eq.2 (by omega)
            have kn4 : (((c.sn : Nat) : Int) != ((o.sn : Nat) : Int)) = false := bne_eq_false_iff_eq.2 (by omega)
            clear he
            have c36 := cell_arrV g0 36 (by omega)
            replace c36 : _ = some (Value.slice c.KA c.kn c.kc) := c36
            have o36 := cell_arrV g1 36 (by omega)
            replace o36 : _ = some (Value.slice o.KA o.kn o.kc) := o36
            have hc := H0.out.below hb hB
            have ho := H1.out.below hb hB
            have hBw := Nat.le_trans hB hb.size
            go_wp2_with (first | (refine wpList_valg (o := { dst := some 30, op := _, type := _, pos := _, after := _, guard := _ }) rfl (run_op_load_part (off := 3) (k := .u8) (fun j => ((c.pt j : Nat) : Int)) rfl RTKey rfl g0 (by omega) (fun j hj => by unfold comV; rw [if_neg (by omega), if_neg (by omega), if_neg (by omega), if_pos (by omega), show 3 + j - 3 = j from by omega])) ?_) | (refine wpList_valg (o := { dst := some 32, op := _, type := _, pos := _, after := _, guard := _ }) rfl (run_op_load_part (off := 3) (k := .u8) (fun j => ((o.pt j : Nat) : Int)) rfl RTKey rfl g1 (by omega) (fun j hj => by unfold comV; rw [if_neg (by omega), if_neg (by omega), if_neg (by omega), if_pos (by omega), show 3 + j - 3 = j from by omega])) ?_) | (refine wpList_valg (o := { dst := some 33, op := _, type := _, pos := _, after := _, guard := _ }) rfl (run_op_neArr (op := .neq) rfl ITKey rfl rfl) ?_; rw [HQ.out]) | (go_at_call 61; fail))
            refine (REqKeys c.KA c.kn c.kc c.key o.KA o.kn o.kc o.key B _ hc.keys ho.keys hBw (by omega)).mono ?_
            rintro e w7 ⟨rfl, b2⟩
            replace g0 := keep_below b2 (lt_of_block g0) g0
            replace g1 := keep_below b2 (lt_of_block g1) g1
            replace hb := hb.trans (b2.mono hb.size)
            clear b2 hc ho hBw
            clear c36 o36
            by_cases he : SameCK c o
            · have eq := decide_eq_true he
              unfold SameCK at eq
              rw [eq]
              have S5 := Lib.hid he
              clear he eq
              have c37 := cell_arrV g0 37 (by omega)
              replace c37 : _ = some (Value.slice c.BA c.bn c.bc) := c37
              have o37 := cell_arrV g1 37 (by omega)
              replace o37 : _ = some (Value.slice o.BA o.bn o.bc) := o37
              have hc := H0.out.below hb hB
              have ho := H1.out.below hb hB
              have hBw := Nat.le_trans hB hb.size
              go_wp2_with (first | (go_at_call 62; fail))
              refine (REqBoxes c.BA c.bn c.bc c.XA c.xn c.xc c.bx o.BA o.bn o.bc o.XA o.xn o.xc o.bx B _ hc.boxes ho.boxes hc.texts ho.texts HB0.out.bx HB1.out.bx hBw (by omega)).mono ?_
              rintro e w8 ⟨rfl, b2⟩
              replace g0 := keep_below b2 (lt_of_block g0) g0
              replace g1 := keep_below b2 (lt_of_block g1) g1
              replace hb := hb.trans (b2.mono hb.size)
              clear b2 hc ho hBw
              clear c37 o37
              by_cases he : SameCB c o
              · have eq := decide_eq_true he
                unfold SameCB at eq
                rw [eq]
                have S6 := Lib.hid he
                clear he eq
                by_cases he : SameK tg tg'
                · have hq := sameTo_key tg tg'
                  rw [decide_eq_true he] at hq
                  have HQ := Lib.hid hq
                  clear hq
                  have S7 := Lib.hid he
                  clear he
                  go_upto_region 3 with (first | (refine wpList_valg (o := { dst := some 62, op := _, type := _, pos := _, after := _, guard := _ }) rfl (run_op_load_part (off := 38) (k := .u8) (fun j => ((tg j : Nat) : Int)) rfl RTKey rfl g0 (by omega) (fun j hj => by unfold comV; rw [if_neg (by omega), if_neg (by omega), if_neg (by omega), if_neg (by omega), if_neg (by omega), if_neg (by omega), if_neg (by omega), show 38 + j - 38 = j from by omega])) ?_) | (refine wpList_valg (o := { dst := some 64, op := _, type := _, pos := _, after := _, guard := _ }) rfl (run_op_load_part (off := 38) (k := .u8) (fun j => ((tg' j : Nat) : Int)) rfl RTKey rfl g1 (by omega) (fun j hj => by unfold comV; rw [if_neg (by omega), if_neg (by omega), if_neg (by omega), if_neg (by omega), if_neg (by omega), if_neg (by omega), if_neg (by omega), show 38 + j - 38 = j from by omega])) ?_) | (refine wpList_valg (o := { dst := some 65, op := _, type := _, pos := _, after := _, guard := _ }) rfl (run_op_neArr (op := .neq) rfl ITKey rfl rfl) ?_; rw [HQ.out]))
                  have c2 := cell_arrV g0 2 (by omega)
                  replace c2 : _ = some (Value.slice c.PA c.pn c.pc) := c2
                  have o2 := cell_arrV g1 2 (by omega)
                  replace o2 : _ = some (Value.slice o.PA o.pn o.pc) := o2
                  go_wp2
                  go_loopg [70] c.pn (fun r x wr => ∃ i : Nat, i + r = c.pn ∧ x = .int .i64 i ∧ (∀ j, j < i → SameP (c.kind j) (c.id j) (c.ppt j) (o.kind j) (o.id j) (o.ppt j)) ∧ wr.heap[w.heap.size]? = some (.cells (arrV 70 (comV c tg)) 42 (0, 0)) ∧ wr.heap[w.heap.size + 1]? = some (.cells (arrV 70 (comV o tg')) 42 (0, 0)) ∧ Below w.heap.size w wr)
                  case atStart => exact ⟨0, by omega, rfl, (fun j hj => absurd hj (by omega)), g0, g1, hb⟩
                  case round =>
                    clear g0 g1 hb c2 o2
                    obtain ⟨i, hi, rfl, hd, g0, g1, hb⟩ := hrel
                    have HI := Lib.hid hi
                    have HD := Lib.hid hd
                    clear hi hd
                    by_cases hlt : i < c.pn
                    · obtain ⟨ad, hA, hab, hc⟩ := (H0.out.props.below' hb hB).cell hlt
                      have hlt' : i < o.pn := S2.out ▸ hlt
                      obtain ⟨ad', hA', hab', hc'⟩ := (H1.out.props.below' hb hB).cell hlt'
                      have HA := Lib.hid hA
                      have HA' := Lib.hid hA'
                      clear hA hA'
                      have c2 := cell_arrV g0 2 (by omega)
                      replace c2 : _ = some (Value.slice c.PA c.pn c.pc) := c2
                      have o2 := cell_arrV g1 2 (by omega)
                      replace o2 : _ = some (Value.slice o.PA o.pn o.pc) := o2
                      go_upto_region 6 with (fail)
                      (try simp only [Act.put, List.setIfInBounds_toArray, List.set_cons_zero, List.set_cons_succ])
                      refine wp_region_tail 10 (by kernel_rfl) (by kernel_rfl) ?_
                      (simp only [List.take_succ_cons, List.take_zero, List.drop_succ_cons, List.drop_zero])
                      iterate 3 (refine wpStill_step (fun K hK => ?_); go_simp; (try (simp only [↓IntWalk.iteOmega]; go_simp)); (try go_bits); refine hK _ ?_; clear hK K)
                      refine wpStill_val rfl (run_elE HA.out rfl Try.underlying35 (sz := 34) (by kernel_rfl) rfl rfl hlt) ?_
                      (try simp only [Act.put, List.setIfInBounds_toArray, List.set_cons_zero, List.set_cons_succ])
                      refine wpStill_val rfl (run_op_load_at (n := 34) rfl RTProp rfl hc) ?_
                      (try simp only [Act.put, List.setIfInBounds_toArray, List.set_cons_zero, List.set_cons_succ])
                      iterate 3 (refine wpStill_step (fun K hK => ?_); go_simp; (try (simp only [↓IntWalk.iteOmega]; go_simp)); (try go_bits); refine hK _ ?_; clear hK K)
                      refine wpStill_val rfl (run_elE HA'.out rfl Try.underlying35 (sz := 34) (by kernel_rfl) rfl rfl hlt') ?_
                      (try simp only [Act.put, List.setIfInBounds_toArray, List.set_cons_zero, List.set_cons_succ])
                      refine wpStill_val rfl (run_op_load_at (n := 34) rfl RTProp rfl hc') ?_
                      (try simp only [Act.put, List.setIfInBounds_toArray, List.set_cons_zero, List.set_cons_succ])
                      refine wpStill_nil ?_
                      by_cases he : SameP (c.kind i) (c.id i) (c.ppt i) (o.kind i) (o.id i) (o.ppt i)
                      · have HE := Lib.hid he
                        refine wpList_val rfl (run_op_neProp rfl rfl rfl) ?_
                        rw [decide_eq_true he]
                        clear he
                        go_wp2
                        go_roundg (gk - 1)
                        case measure => have := HI.out; omega
                        case rel =>
                          have hI := HI.out
                          exact ⟨i + 1, by omega, by go_num, all_succ HD.out HE.out, g0, g1, hb.drew⟩
                      · have EX := Lib.hid (show decide (SameC c tg o tg') = false from decide_eq_false fun h => he (h.2.2.1.2 i hlt))
                        refine wpList_val rfl (run_op_neProp rfl rfl rfl) ?_
                        rw [decide_eq_false he]
                        clear he
                        go_wp2
                        go_ret
                        refine ⟨?_, hb.drew⟩
                        rw [EX.out]
                        rfl
                    · obtain rfl : i = c.pn := by have := HI.out; omega
                      have SP := Lib.hid (show SameCP c o from ⟨S2.out, HD.out⟩)
                      clear HD
                      have c35 := cell_arrV g0 35 (by omega)
                      replace c35 : _ = some (Value.slice c.SA c.sn c.sc) := c35
                      have o35 := cell_arrV g1 35 (by omega)
                      replace o35 : _ = some (Value.slice o.SA o.sn o.sc) := o35
                      go_wp2
                      go_loopg [88] c.sn (fun r x wr => ∃ i : Nat, i + r = c.sn ∧ x = .int .i64 i ∧ (∀ j, j < i → SameSt (c.node j) (c.frm j) (c.dn j) (c.dv j) (o.node j) (o.frm j) (o.dn j) (o.dv j)) ∧ wr.heap[w.heap.size]? = some (.cells (arrV 70 (comV c tg)) 42 (0, 0)) ∧ wr.heap[w.heap.size + 1]? = some (.cells (arrV 70 (comV o tg')) 42 (0, 0)) ∧ Below w.heap.size w wr)
                      case atStart => exact ⟨0, by omega, rfl, (fun j hj => absurd hj (by omega)), g0, g1, hb⟩
                      case round =>
                        clear g0 g1 hb c35 o35
                        obtain ⟨i, hi, rfl, hd, g0, g1, hb⟩ := hrel
                        have HI := Lib.hid hi
                        have HD := Lib.hid hd
                        clear hi hd
                        by_cases hlt : i < c.sn
                        · obtain ⟨ad, hA, hab, hc⟩ := (H0.out.steps.below' hb hB).cell hlt
                          have hlt' : i < o.sn := S4.out ▸ hlt
                          obtain ⟨ad', hA', hab', hc'⟩ := (H1.out.steps.below' hb hB).cell hlt'
                          have HA := Lib.hid hA
                          have HA' := Lib.hid hA'
                          clear hA hA'
                          have c35 := cell_arrV g0 35 (by omega)
                          replace c35 : _ = some (Value.slice c.SA c.sn c.sc) := c35
                          have o35 := cell_arrV g1 35 (by omega)
                          replace o35 : _ = some (Value.slice o.SA o.sn o.sc) := o35
                          go_upto_region 12 with (fail)
                          (try simp only [Act.put, List.setIfInBounds_toArray, List.set_cons_zero, List.set_cons_succ])
                          refine wp_region_tail 41 (by kernel_rfl) (by kernel_rfl) ?_
                          (simp only [List.take_succ_cons, List.take_zero, List.drop_succ_cons, List.drop_zero])
                          replace hc : ∀ k, k < 3 → wr.cell? ((ad.add (i * 3)).add k) = some (stepV (c.node i) (c.frm i) (c.DA i) (c.dn i) (c.dc i) k) := hc
                          replace hc' : ∀ k, k < 3 → wr.cell? ((ad'.add (i * 3)).add k) = some (stepV (o.node i) (o.frm i) (o.DA i) (o.dn i) (o.dc i) k) := hc'
                          have n0 : wr.cell? ((ad.add (i * 3)).add 0) = some (.int .i64 (c.node i)) := hc 0 (by omega)
                          have n1 : wr.cell? ((ad.add (i * 3)).add 1) = some (.int .i64 (c.frm i)) := hc 1 (by omega)
                          have n2 : wr.cell? ((ad.add (i * 3)).add 2) = some (.slice (c.DA i) (c.dn i) (c.dc i)) := hc 2 (by omega)
                          have m0 : wr.cell? ((ad'.add (i * 3)).add 0) = some (.int .i64 (o.node i)) := hc' 0 (by omega)
                          have m1 : wr.cell? ((ad'.add (i * 3)).add 1) = some (.int .i64 (o.frm i)) := hc' 1 (by omega)
                          have m2 : wr.cell? ((ad'.add (i * 3)).add 2) = some (.slice (o.DA i) (o.dn i) (o.dc i)) := hc' 2 (by omega)
                          clear hc hc'
                          by_cases en : c.node i = o.node i
                          · have EN := Lib.hid en
                            have en0 : (c.node i != o.node i) = false := by rw [en]; exact bne_self_eq_false _
                            clear en
                            iterate 3 (refine wpStill_stepg rfl (fun K hK => ?_); go_simp; (try (simp only [↓IntWalk.iteOmega]; go_simp)); (try go_bits); refine hK _ ?_; clear hK K)
                            refine wpStill_val rfl (run_elE HA.out rfl Try.underlying38 (sz := 3) (by kernel_rfl) rfl rfl hlt) ?_
                            (try simp only [Act.put, List.setIfInBounds_toArray, List.set_cons_zero, List.set_cons_succ])
                            (refine wpStill_stepg rfl (fun K hK => ?_); go_simp; (try (simp only [↓IntWalk.iteOmega]; go_simp)); (try go_bits); refine hK _ ?_; clear hK K)
                            refine wpStill_val rfl (run_op_load1 rfl Try.underlying3 rfl rfl n0) ?_
                            (try simp only [Act.put, List.setIfInBounds_toArray, List.set_cons_zero, List.set_cons_succ])
                            iterate 3 (refine wpStill_stepg rfl (fun K hK => ?_); go_simp; (try (simp only [↓IntWalk.iteOmega]; go_simp)); (try go_bits); refine hK _ ?_; clear hK K)
                            refine wpStill_val rfl (run_elE HA'.out rfl Try.underlying38 (sz := 3) (by kernel_rfl) rfl rfl hlt') ?_
                            (try simp only [Act.put, List.setIfInBounds_toArray, List.set_cons_zero, List.set_cons_succ])
                            (refine wpStill_stepg rfl (fun K hK => ?_); go_simp; (try (simp only [↓IntWalk.iteOmega]; go_simp)); (try go_bits); refine hK _ ?_; clear hK K)
                            refine wpStill_val rfl (run_op_load1 rfl Try.underlying3 rfl rfl m0) ?_
                            (try simp only [Act.put, List.setIfInBounds_toArray, List.set_cons_zero, List.set_cons_succ])
                            iterate 2 (refine wpStill_stepg rfl (fun K hK => ?_); go_simp; (try (simp only [↓IntWalk.iteOmega]; go_simp)); (try go_bits); refine hK _ ?_; clear hK K)
                            by_cases ef : c.frm i = o.frm i
                            · have EF := Lib.hid ef
                              have ef0 : (c.frm i != o.frm i) = false := by rw [ef]; exact bne_self_eq_false _
                              clear ef
                              iterate 3 (refine wpStill_stepg rfl (fun K hK => ?_); go_simp; (try (simp only [↓IntWalk.iteOmega]; go_simp)); (try go_bits); refine hK _ ?_; clear hK K)
                              refine wpStill_valg rfl (run_elE HA.out rfl Try.underlying38 (sz := 3) (by kernel_rfl) rfl rfl hlt) ?_
                              (try simp only [Act.put, List.setIfInBounds_toArray, List.set_cons_zero, List.set_cons_succ])
                              (refine wpStill_stepg rfl (fun K hK => ?_); go_simp; (try (simp only [↓IntWalk.iteOmega]; go_simp)); (try go_bits); refine hK _ ?_; clear hK K)
                              refine wpStill_valg rfl (run_op_load1 rfl Try.underlying3 rfl rfl n1) ?_
                              (try simp only [Act.put, List.setIfInBounds_toArray, List.set_cons_zero, List.set_cons_succ])
                              iterate 3 (refine wpStill_stepg rfl (fun K hK => ?_); go_simp; (try (simp only [↓IntWalk.iteOmega]; go_simp)); (try go_bits); refine hK _ ?_; clear hK K)
                              refine wpStill_valg rfl (run_elE HA'.out rfl Try.underlying38 (sz := 3) (by kernel_rfl) rfl rfl hlt') ?_
                              (try simp only [Act.put, List.setIfInBounds_toArray, List.set_cons_zero, List.set_cons_succ])
                              (refine wpStill_stepg rfl (fun K hK => ?_); go_simp; (try (simp only [↓IntWalk.iteOmega]; go_simp)); (try go_bits); refine hK _ ?_; clear hK K)
                              refine wpStill_valg rfl (run_op_load1 rfl Try.underlying3 rfl rfl m1) ?_
                              (try simp only [Act.put, List.setIfInBounds_toArray, List.set_cons_zero, List.set_cons_succ])
                              iterate 3 (refine wpStill_stepg rfl (fun K hK => ?_); go_simp; (try (simp only [↓IntWalk.iteOmega]; go_simp)); (try go_bits); refine hK _ ?_; clear hK K)
                              iterate 3 (refine wpStill_stepg rfl (fun K hK => ?_); go_simp; (try (simp only [↓IntWalk.iteOmega]; go_simp)); (try go_bits); refine hK _ ?_; clear hK K)
                              refine wpStill_valg rfl (run_elE HA.out rfl Try.underlying38 (sz := 3) (by kernel_rfl) rfl rfl hlt) ?_
                              (try simp only [Act.put, List.setIfInBounds_toArray, List.set_cons_zero, List.set_cons_succ])
                              (refine wpStill_stepg rfl (fun K hK => ?_); go_simp; (try (simp only [↓IntWalk.iteOmega]; go_simp)); (try go_bits); refine hK _ ?_; clear hK K)
                              refine wpStill_valg rfl (run_op_load1 rfl Try.underlying69 rfl rfl n2) ?_
                              (try simp only [Act.put, List.setIfInBounds_toArray, List.set_cons_zero, List.set_cons_succ])
                              iterate 3 (refine wpStill_stepg rfl (fun K hK => ?_); go_simp; (try (simp only [↓IntWalk.iteOmega]; go_simp)); (try go_bits); refine hK _ ?_; clear hK K)
                              refine wpStill_valg rfl (run_elE HA'.out rfl Try.underlying38 (sz := 3) (by kernel_rfl) rfl rfl hlt') ?_
                              (try simp only [Act.put, List.setIfInBounds_toArray, List.set_cons_zero, List.set_cons_succ])
                              (refine wpStill_stepg rfl (fun K hK => ?_); go_simp; (try (simp only [↓IntWalk.iteOmega]; go_simp)); (try go_bits); refine hK _ ?_; clear hK K)
                              refine wpStill_valg rfl (run_op_load1 rfl Try.underlying69 rfl rfl m2) ?_
                              (try simp only [Act.put, List.setIfInBounds_toArray, List.set_cons_zero, List.set_cons_succ])
                              refine wpStill_nil ?_
                              have hd1 := (H0.out.sends i hlt).below' (hb.drew) hB
                              have hd2 := (H1.out.sends i hlt').below' (hb.drew) hB
                              have hbd := hb.drew
                              have hBw : B ≤ wr.drew.heap.size := Nat.le_trans hB hbd.size
                              go_wp2_with (first | (go_at_call 63; fail))
                              refine (REqInts (c.DA i) (c.dn i) (c.dc i) (c.dv i) (o.DA i) (o.dn i) (o.dc i) (o.dv i) B _ hd1 hd2 hBw (by have := HDN.out i hlt; omega)).mono ?_
                              rintro e w9 ⟨rfl, b2⟩
                              replace g0 := keep_below b2 (lt_of_block (w := wr.drew) g0) g0
                              replace g1 := keep_below b2 (lt_of_block (w := wr.drew) g1) g1
                              replace hb := hbd.trans (b2.mono hbd.size)
                              clear b2 hd1 hd2 hBw hbd n0 n1 n2 m0 m1 m2
                              by_cases es : SameS (c.dn i) (o.dn i) fun j => c.dv i j = o.dv i j
                              · have ES := Lib.hid es
                                rw [decide_eq_true es]
                                clear es
                                go_wp2
                                go_roundg (gk - 1)
                                case measure => have := HI.out; omega
                                case rel =>
                                  have hI := HI.out
                                  exact ⟨i + 1, by omega, by go_num, all_succ HD.out ⟨EN.out, EF.out, ES.out⟩, g0, g1, hb⟩
                              · have EX := Lib.hid (show decide (SameC c tg o tg') = false from decide_eq_false fun h => es (h.2.2.2.2.1.2 i hlt).2.2)
                                rw [decide_eq_false es]
                                clear es
                                go_wp2
                                go_ret
                                refine ⟨?_, hb⟩
                                rw [EX.out]
                                rfl
                            · have EX := Lib.hid (show decide (SameC c tg o tg') = false from decide_eq_false fun h => ef (h.2.2.2.2.1.2 i hlt).2.1)
                              have ef0 : (c.frm i != o.frm i) = true := bne_iff_ne.2 ef
                              clear ef
                              iterate 3 (refine wpStill_stepg rfl (fun K hK => ?_); go_simp; (try (simp only [↓IntWalk.iteOmega]; go_simp)); (try go_bits); refine hK _ ?_; clear hK K)
                              refine wpStill_valg rfl (run_elE HA.out rfl Try.underlying38 (sz := 3) (by kernel_rfl) rfl rfl hlt) ?_
                              (try simp only [Act.put, List.setIfInBounds_toArray, List.set_cons_zero, List.set_cons_succ])
                              (refine wpStill_stepg rfl (fun K hK => ?_); go_simp; (try (simp only [↓IntWalk.iteOmega]; go_simp)); (try go_bits); refine hK _ ?_; clear hK K)
                              refine wpStill_valg rfl (run_op_load1 rfl Try.underlying3 rfl rfl n1) ?_
                              (try simp only [Act.put, List.setIfInBounds_toArray, List.set_cons_zero, List.set_cons_succ])
                              iterate 3 (refine wpStill_stepg rfl (fun K hK => ?_); go_simp; (try (simp only [↓IntWalk.iteOmega]; go_simp)); (try go_bits); refine hK _ ?_; clear hK K)
                              refine wpStill_valg rfl (run_elE HA'.out rfl Try.underlying38 (sz := 3) (by kernel_rfl) rfl rfl hlt') ?_
                              (try simp only [Act.put, List.setIfInBounds_toArray, List.set_cons_zero, List.set_cons_succ])
                              (refine wpStill_stepg rfl (fun K hK => ?_); go_simp; (try (simp only [↓IntWalk.iteOmega]; go_simp)); (try go_bits); refine hK _ ?_; clear hK K)
                              refine wpStill_valg rfl (run_op_load1 rfl Try.underlying3 rfl rfl m1) ?_
                              (try simp only [Act.put, List.setIfInBounds_toArray, List.set_cons_zero, List.set_cons_succ])
                              (refine wpStill_stepg rfl (fun K hK => ?_); go_simp; (try (simp only [↓IntWalk.iteOmega]; go_simp)); (try go_bits); refine hK _ ?_; clear hK K)
                              clear ef0
                              iterate 2 (refine wpStill_stepg rfl (fun K hK => ?_); go_simp; (try (simp only [↓IntWalk.iteOmega]; go_simp)); (try go_bits); refine hK _ ?_; clear hK K)
                              iterate 12 (refine wpStill_skip rfl ?_; (try simp only [Act.put, List.setIfInBounds_toArray, List.set_cons_zero, List.set_cons_succ]))
                              clear n0 n1 n2 m0 m1 m2
                              refine wpStill_nil ?_
                              go_wp2
                              go_ret
                              refine ⟨?_, hb.drew⟩
                              rw [EX.out]
                              rfl
                          · have EX := Lib.hid (show decide (SameC c tg o tg') = false from decide_eq_false fun h => en (h.2.2.2.2.1.2 i hlt).1)
                            have en0 : (c.node i != o.node i) = true := bne_iff_ne.2 en
                            clear en
                            iterate 3 (refine wpStill_stepg rfl (fun K hK => ?_); go_simp; (try (simp only [↓IntWalk.iteOmega]; go_simp)); (try go_bits); refine hK _ ?_; clear hK K)
                            refine wpStill_val rfl (run_elE HA.out rfl Try.underlying38 (sz := 3) (by kernel_rfl) rfl rfl hlt) ?_
                            (try simp only [Act.put, List.setIfInBounds_toArray, List.set_cons_zero, List.set_cons_succ])
                            (refine wpStill_stepg rfl (fun K hK => ?_); go_simp; (try (simp only [↓IntWalk.iteOmega]; go_simp)); (try go_bits); refine hK _ ?_; clear hK K)
                            refine wpStill_val rfl (run_op_load1 rfl Try.underlying3 rfl rfl n0) ?_
                            (try simp only [Act.put, List.setIfInBounds_toArray, List.set_cons_zero, List.set_cons_succ])
                            iterate 3 (refine wpStill_stepg rfl (fun K hK => ?_); go_simp; (try (simp only [↓IntWalk.iteOmega]; go_simp)); (try go_bits); refine hK _ ?_; clear hK K)
                            refine wpStill_val rfl (run_elE HA'.out rfl Try.underlying38 (sz := 3) (by kernel_rfl) rfl rfl hlt') ?_
                            (try simp only [Act.put, List.setIfInBounds_toArray, List.set_cons_zero, List.set_cons_succ])
                            (refine wpStill_stepg rfl (fun K hK => ?_); go_simp; (try (simp only [↓IntWalk.iteOmega]; go_simp)); (try go_bits); refine hK _ ?_; clear hK K)
                            refine wpStill_val rfl (run_op_load1 rfl Try.underlying3 rfl rfl m0) ?_
                            (try simp only [Act.put, List.setIfInBounds_toArray, List.set_cons_zero, List.set_cons_succ])
                            (refine wpStill_stepg rfl (fun K hK => ?_); go_simp; (try (simp only [↓IntWalk.iteOmega]; go_simp)); (try go_bits); refine hK _ ?_; clear hK K)
                            clear en0
                            (refine wpStill_stepg rfl (fun K hK => ?_); go_simp; (try (simp only [↓IntWalk.iteOmega]; go_simp)); (try go_bits); refine hK _ ?_; clear hK K)
                            iterate 13 (refine wpStill_skip rfl ?_; (try simp only [Act.put, List.setIfInBounds_toArray, List.set_cons_zero, List.set_cons_succ]))
                            iterate 2 (refine wpStill_stepg rfl (fun K hK => ?_); go_simp; (try (simp only [↓IntWalk.iteOmega]; go_simp)); (try go_bits); refine hK _ ?_; clear hK K)
                            iterate 12 (refine wpStill_skip rfl ?_; (try simp only [Act.put, List.setIfInBounds_toArray, List.set_cons_zero, List.set_cons_succ]))
                            clear n0 n1 n2 m0 m1 m2
                            refine wpStill_nil ?_
                            go_wp2
                            go_ret
                            refine ⟨?_, hb.drew⟩
                            rw [EX.out]
                            rfl
                        · obtain rfl : i = c.sn := by have := HI.out; omega
                          have EX := Lib.hid (show decide (SameC c tg o tg') = true from decide_eq_true ⟨S0.out, S1.out, SP.out, S3.out, ⟨S4.out, HD.out⟩, S5.out, S6.out, S7.out⟩)
                          go_wp2
                          go_ret
                          refine ⟨?_, hb⟩
                          rw [EX.out]
                          rfl
                · have hq := sameTo_key tg tg'
                  rw [decide_eq_false he] at hq
                  have HQ := Lib.hid hq
                  clear hq
                  have EX := Lib.hid (show decide (SameC c tg o tg') = false from decide_eq_false fun h => he h.2.2.2.2.2.2.2)
                  clear he
                  go_wp2_with (first | (refine wpList_valg (o := { dst := some 62, op := _, type := _, pos := _, after := _, guard := _ }) rfl (run_op_load_part (off := 38) (k := .u8) (fun j => ((tg j : Nat) : Int)) rfl RTKey rfl g0 (by omega) (fun j hj => by unfold comV; rw [if_neg (by omega), if_neg (by omega), if_neg (by omega), if_neg (by omega), if_neg (by omega), if_neg (by omega), if_neg (by omega), show 38 + j - 38 = j from by omega])) ?_) | (refine wpList_valg (o := { dst := some 64, op := _, type := _, pos := _, after := _, guard := _ }) rfl (run_op_load_part (off := 38) (k := .u8) (fun j => ((tg' j : Nat) : Int)) rfl RTKey rfl g1 (by omega) (fun j hj => by unfold comV; rw [if_neg (by omega), if_neg (by omega), if_neg (by omega), if_neg (by omega), if_neg (by omega), if_neg (by omega), if_neg (by omega), show 38 + j - 38 = j from by omega])) ?_) | (refine wpList_valg (o := { dst := some 65, op := _, type := _, pos := _, after := _, guard := _ }) rfl (run_op_neArr (op := .neq) rfl ITKey rfl rfl) ?_; rw [HQ.out]))
                  go_ret
                  refine ⟨?_, hb⟩
                  rw [EX.out]
                  rfl
              · have eq := decide_eq_false he
                unfold SameCB at eq
                rw [eq]
                clear eq
                have EX := Lib.hid (show decide (SameC c tg o tg') = false from decide_eq_false fun h => he h.2.2.2.2.2.2.1)
                clear he
                go_wp2
                go_ret
                refine ⟨?_, hb⟩
                rw [EX.out]
                rfl
            · have eq := decide_eq_false he
              unfold SameCK at eq
              rw [eq]
              clear eq
              have EX := Lib.hid (show decide (SameC c tg o tg') = false from decide_eq_false fun h => he h.2.2.2.2.2.1)
              clear he
              go_wp2
              go_ret
              refine ⟨?_, hb⟩
              rw [EX.out]
              rfl
          · have kb4 : (((c.sn : Nat) : Int) == ((o.sn : Nat) : Int)) = false := beq_eq_false_iff_ne.2 (by omega)
            have kn4 : (((c.sn : Nat) : Int) != ((o.sn : Nat) : Int)) = true := bne_iff_ne.2 (by omega)
            have EX := Lib.hid (show decide (SameC c tg o tg') = false from decide_eq_false fun h => he h.2.2.2.2.1.1)
            clear he
            go_wp2_with (first | (refine wpList_valg (o := { dst := some 30, op := _, type := _, pos := _, after := _, guard := _ }) rfl (run_op_load_part (off := 3) (k := .u8) (fun j => ((c.pt j : Nat) : Int)) rfl RTKey rfl g0 (by omega) (fun j hj => by unfold comV; rw [if_neg (by omega), if_neg (by omega), if_neg (by omega), if_pos (by omega), show 3 + j - 3 = j from by omega])) ?_) | (refine wpList_valg (o := { dst := some 32, op := _, type := _, pos := _, after := _, guard := _ }) rfl (run_op_load_part (off := 3) (k := .u8) (fun j => ((o.pt j : Nat) : Int)) rfl RTKey rfl g1 (by omega) (fun j hj => by unfold comV; rw [if_neg (by omega), if_neg (by omega), if_neg (by omega), if_pos (by omega), show 3 + j - 3 = j from by omega])) ?_) | (refine wpList_valg (o := { dst := some 33, op := _, type := _, pos := _, after := _, guard := _ }) rfl (run_op_neArr (op := .neq) rfl ITKey rfl rfl) ?_; rw [HQ.out]))
            go_ret
            refine ⟨?_, hb⟩
            rw [EX.out]
            rfl
        · have hq := sameTo_key c.pt o.pt
          rw [decide_eq_false he] at hq
          have HQ := Lib.hid hq
          clear hq
          have EX := Lib.hid (show decide (SameC c tg o tg') = false from decide_eq_false fun h => he h.2.2.2.1)
          clear he
          go_wp2_with (first | (refine wpList_valg (o := { dst := some 30, op := _, type := _, pos := _, after := _, guard := _ }) rfl (run_op_load_part (off := 3) (k := .u8) (fun j => ((c.pt j : Nat) : Int)) rfl RTKey rfl g0 (by omega) (fun j hj => by unfold comV; rw [if_neg (by omega), if_neg (by omega), if_neg (by omega), if_pos (by omega), show 3 + j - 3 = j from by omega])) ?_) | (refine wpList_valg (o := { dst := some 32, op := _, type := _, pos := _, after := _, guard := _ }) rfl (run_op_load_part (off := 3) (k := .u8) (fun j => ((o.pt j : Nat) : Int)) rfl RTKey rfl g1 (by omega) (fun j hj => by unfold comV; rw [if_neg (by omega), if_neg (by omega), if_neg (by omega), if_pos (by omega), show 3 + j - 3 = j from by omega])) ?_) | (refine wpList_valg (o := { dst := some 33, op := _, type := _, pos := _, after := _, guard := _ }) rfl (run_op_neArr (op := .neq) rfl ITKey rfl rfl) ?_; rw [HQ.out]))
          go_ret
          refine ⟨?_, hb⟩
          rw [EX.out]
          rfl
      · have kb2 : (((c.pn : Nat) : Int) == ((o.pn : Nat) : Int)) = false := beq_eq_false_iff_ne.2 (by omega)
        have kn2 : (((c.pn : Nat) : Int) != ((o.pn : Nat) : Int)) = true := bne_iff_ne.2 (by omega)
        have EX := Lib.hid (show decide (SameC c tg o tg') = false from decide_eq_false fun h => he h.2.2.1.1)
        clear he
        go_wp2
        go_ret
        refine ⟨?_, hb⟩
        rw [EX.out]
        rfl
    · have kb1 : (c.by_ == o.by_) = false := beq_eq_false_iff_ne.2 (by omega)
      have kn1 : (c.by_ != o.by_) = true := bne_iff_ne.2 (by omega)
      have EX := Lib.hid (show decide (SameC c tg o tg') = false from decide_eq_false fun h => he h.2.1)
      clear he
      go_wp2
      go_ret
      refine ⟨?_, hb⟩
      rw [EX.out]
      rfl
  · have kb0 : (((c.ep : Nat) : Int) == ((o.ep : Nat) : Int)) = false := beq_eq_false_iff_ne.2 (by omega)
    have kn0 : (((c.ep : Nat) : Int) != ((o.ep : Nat) : Int)) = true := bne_iff_ne.2 (by omega)
    have EX := Lib.hid (show decide (SameC c tg o tg') = false from decide_eq_false fun h => he h.1)
    clear he
    go_wp2
    go_ret
    refine ⟨?_, hb⟩
    rw [EX.out]
    rfl
end Go.Proofs.Ytfbfkfdkigpkgaa
