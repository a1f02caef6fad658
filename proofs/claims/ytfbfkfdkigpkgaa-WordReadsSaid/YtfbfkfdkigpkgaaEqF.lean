/- The walks of layer 16: boxes and steps held against each other. -/
import Derived.Test.YtfbfkfdkigpkgaaEqS
import Derived.Test.YtfbfkfdkigpkgaaLst
namespace Go.Proofs.Ytfbfkfdkigpkgaa
set_option linter.unusedSimpArgs false
set_option linter.unusedVariables false
open Go.RowKit
attribute [local irreducible] beL beK

theorem BytesEq_txt (A : Option Addr) (n c : Nat) (l : List Nat) (A' : Option Addr) (n' c' : Nat) (l' : List Nat) (B : Nat) (w : World) (h : Txt w B A n c l) (h' : Txt w B A' n' c' l') (hl : ∀ x ∈ l, x < 256) (hl' : ∀ x ∈ l', x < 256) :
    Calls Try.prog 60 #[.slice A n c, .slice A' n' c'] w fun e w' => e = .returned (.bool (decide (l = l'))) ∧ w = w' := by
  have e1 := run_bytes_string (P := Try.prog) (dst := 9) BT Try.underlying9 h hl
  have e2 := run_bytes_string (P := Try.prog) (dst := 9) BT Try.underlying9 h' hl'
  go_enter Try.func60, Try.ntmps60
  go_wp2
  go_ret
  refine ⟨?_, rfl⟩
  show Ending.returned (Value.bool _) = Ending.returned (Value.bool _)
  rw [show (List.map UInt8.ofNat l == List.map UInt8.ofNat l') = decide (l = l') from by rw [Bool.eq_iff_iff, beq_iff_eq, decide_eq_true_eq, ofNat_inj hl hl']]
section
variable {P : Program} {N : Nat} {o : Oper} {a : Act} {w : World}
theorem Framed.load1 {ty : Nat} {d : TypeDesc} {x : Operand} {ad : Addr} {v : Value} (ho : o.op = .load ty x) (hu : P.underlying ty = some d) (hd : (match d with | .struct _ | .array _ _ => true | _ => false) = false) (hx : a.eval x = .pointer (some ad)) (hb : ad.block < N) (hc : w.cell? ad = some v) : Framed P N o a w := by
  intro u hv w' hk
  rw [run_op_load1 ho hu hd hx hc] at hv
  have hc' : w'.cell? ad = some v := by
    rw [← hc]
    unfold World.cell?
    rw [hk _ hb]
  rw [run_op_load1 ho hu hd hx hc']
  injection hv with h1 h2
  rw [h1]
/-- 'x := v' of a struct, something else between. -/
theorem wpList_newV2 {ops : Array Oper} {rest : List Oper} {o' oa : Oper} {Q : Exit → Act → World → Prop} {ty n : Nat} {z : Array Value} {f : Nat → Value} {x y q : Operand} (h1 : o.guard = none) (ha : oa.guard = none) (h2 : o'.guard = none) (ho : o.op = .alloc ty) (hoa : oa.op = .assign q) (ho' : o'.op = .store ty x y) (hz : ZeroV P ty n z) (hT : RowT P ty n)
    (hx : ((a.put o.dst (.pointer (some ⟨w.heap.size, 0, none⟩))).put oa.dst ((a.put o.dst (.pointer (some ⟨w.heap.size, 0, none⟩))).eval q)).eval x = .pointer (some ⟨w.heap.size, 0, none⟩)) (hy : ((a.put o.dst (.pointer (some ⟨w.heap.size, 0, none⟩))).put oa.dst ((a.put o.dst (.pointer (some ⟨w.heap.size, 0, none⟩))).eval q)).eval y = .agg (arrV n f)) (hf : ∀ i, i < n → (f i).oneCell' = true)
    (h : ∀ w', w'.heap[w.heap.size]? = some (.cells (arrV n f) ty (0, 0)) → Below w.heap.size w w' → w'.heap.size = w.heap.size + 1 → wpList P ops Q rest (((a.put o.dst (.pointer (some ⟨w.heap.size, 0, none⟩))).put oa.dst ((a.put o.dst (.pointer (some ⟨w.heap.size, 0, none⟩))).eval q)).put o'.dst undef) w') : wpList P ops Q (o :: oa :: o' :: rest) a w := by
  have hr : (execOp a.eval o).run P w = .ok (.value (.pointer (some ⟨w.heap.size, 0, none⟩))) (w.alloc (.cells z ty)) := by
    obtain ⟨hz, _⟩ := hz
    cases hq : P.info? ty with
    | none => simp [hq] at hz
    | some i =>
      have hs : i.zero = some (.agg z) := by simpa [hq] using hz
      unfold execOp
      simp [ho, Instr.alloc, zeroValue, typeInfo, hq, hs, newVar, newRow, newObj, Value.cells, Sem.run_bind]
      rfl
  refine wpList_val' h1 hr (wpList_val ha (by unfold execOp; rw [hoa]; rfl) (wpList_skip h2 (run_op_store ho' hx hy (run_storeVar_new hT hz.2 (heap_alloc_new _ _) hf)) (h _ ?_ ?_ ?_)))
  · exact row_self (heap_alloc_new _ _)
  · exact row_below ((Below.refl _ _).alloc (Nat.le_refl _) _) (Nat.le_refl _) _
  · simp
end

set_option maxRecDepth 100000 in
set_option maxHeartbeats 2000000 in
theorem EqBoxes (A : Option Addr) (n c : Nat) (XA : Nat → Option Addr) (xn xc : Nat → Nat) (bx : Nat → List Nat) (A' : Option Addr) (n' c' : Nat) (XA' : Nat → Option Addr) (xn' xc' : Nat → Nat) (bx' : Nat → List Nat) (B : Nat) (w : World) (h : Els w B A n 1 (fun i _ => .slice (XA i) (xn i) (xc i))) (h' : Els w B A' n' 1 (fun i _ => .slice (XA' i) (xn' i) (xc' i))) (ht : ∀ i, i < n → Txt w B (XA i) (xn i) (xc i) (bx i)) (ht' : ∀ i, i < n' → Txt w B (XA' i) (xn' i) (xc' i) (bx' i)) (hl : ∀ i, i < n → ∀ x ∈ bx i, x < 256) (hl' : ∀ i, i < n' → ∀ x ∈ bx' i, x < 256) (hB : B ≤ w.heap.size) (hn : (n : Int) ≤ 9223372036854775807) :
    Calls Try.prog 59 #[.slice A n c, .slice A' n' c', .func (.func 60) #[] #[]] w fun e w' => e = .returned (.bool (decide (SameS n n' fun i => bx i = bx' i))) ∧ Below w.heap.size w w' := by
  have H0 := Lib.hid h
  have H1 := Lib.hid h'
  have HT := Lib.hid ht
  have HT' := Lib.hid ht'
  have HL := Lib.hid hl
  have HL' := Lib.hid hl'
  clear h h' ht ht' hl hl'
  by_cases hnn : n = n'
  · subst hnn
    go_enter Try.func59, Try.ntmps59
    go_wp2
    go_loopg [17] n (fun r x wr => ∃ i : Nat, i + r = n ∧ x = .int .i64 i ∧ (∀ j, j < i → bx j = bx' j) ∧ Below w.heap.size w wr)
    case atStart => exact ⟨0, by omega, rfl, (fun j hj => absurd hj (by omega)), Below.refl _ _⟩
    case round =>
      obtain ⟨i, hi, rfl, hd, hb⟩ := hrel
      have HI := Lib.hid hi
      have HD := Lib.hid hd
      clear hi hd
      by_cases hlt : i < n
      · obtain ⟨ad, rfl, hab, hc⟩ := (H0.out.below' hb hB).cell hlt
        obtain ⟨ad', rfl, hab', hc'⟩ := (H1.out.below' hb hB).cell hlt
        replace hc : wr.cell? (ad.add (i * 1)) = some (.slice (XA i) (xn i) (xc i)) := by have := hc 0 (by omega); rwa [addr_add_zero] at this
        replace hc' : wr.cell? (ad'.add (i * 1)) = some (.slice (XA' i) (xn' i) (xc' i)) := by have := hc' 0 (by omega); rwa [addr_add_zero] at this
        have t1 := (HT.out i hlt).below' hb hB
        have t2 := (HT'.out i hlt).below' hb hB
        have l1 := HL.out i hlt
        have l2 := HL'.out i hlt
        go_upto_region 7 with (first | (refine wpList_el rfl rfl Try.underlying40 (sz := 1) (by kernel_rfl) rfl rfl hlt ?_) | (refine wpList_load1 rfl rfl Try.underlying22 rfl rfl hc ?_) | (refine wpList_load1 rfl rfl Try.underlying22 rfl rfl hc' ?_))
        go_wp2_with (go_at_call 60; fail)
        refine (BytesEq_txt _ _ _ _ _ _ _ _ B _ t1 t2 l1 l2).mono ?_
        rintro e w2 ⟨rfl, rfl⟩
        by_cases he : bx i = bx' i
        · rw [decide_eq_true he]
          have HE := Lib.hid he
          clear he
          go_wp2
          go_roundg (gk - 1)
          case measure => have := HI.out; omega
          case rel =>
            have hI := HI.out
            exact ⟨i + 1, by omega, by go_num, all_succ HD.out HE.out, hb⟩
        · rw [decide_eq_false he]
          have EX := Lib.hid (show decide (SameS n n fun i => bx i = bx' i) = false from decide_eq_false fun h => he (h.2 i hlt))
          clear he
          go_wp2
          go_ret
          refine ⟨?_, hb⟩
          rw [EX.out]
          rfl
      · obtain rfl : i = n := by have := HI.out; omega
        have EX := Lib.hid (show decide (SameS i i fun j => bx j = bx' j) = true from decide_eq_true ⟨rfl, HD.out⟩)
        go_wp2
        go_ret
        refine ⟨?_, hb⟩
        rw [EX.out]
        rfl
  · have EX := Lib.hid (show decide (SameS n n' fun i => bx i = bx' i) = false from decide_eq_false fun h => hnn h.1)
    have hnb : (((n : Nat) : Int) != ((n' : Nat) : Int)) = true := bne_iff_ne.2 (by omega)
    go_enter Try.func59, Try.ntmps59
    go_wp2
    go_ret
    refine ⟨?_, Below.refl _ _⟩
    rw [EX.out]
    rfl

set_option maxRecDepth 100000 in
set_option maxHeartbeats 2000000 in
theorem REqBoxes (A : Option Addr) (n c : Nat) (XA : Nat → Option Addr) (xn xc : Nat → Nat) (bx : Nat → List Nat) (A' : Option Addr) (n' c' : Nat) (XA' : Nat → Option Addr) (xn' xc' : Nat → Nat) (bx' : Nat → List Nat) (B : Nat) (w : World) (h : Els w B A n 1 (fun i _ => .slice (XA i) (xn i) (xc i))) (h' : Els w B A' n' 1 (fun i _ => .slice (XA' i) (xn' i) (xc' i))) (ht : ∀ i, i < n → Txt w B (XA i) (xn i) (xc i) (bx i)) (ht' : ∀ i, i < n' → Txt w B (XA' i) (xn' i) (xc' i) (bx' i)) (hl : ∀ i, i < n → ∀ x ∈ bx i, x < 256) (hl' : ∀ i, i < n' → ∀ x ∈ bx' i, x < 256) (hB : B ≤ w.heap.size) (hn : (n : Int) ≤ 9223372036854775807) :
    Calls Try.prog 62 #[.slice A n c, .slice A' n' c'] w fun e w' => e = .returned (.bool (decide (SameS n n' fun i => bx i = bx' i))) ∧ Below w.heap.size w w' := by
  have H0 := Lib.hid h
  have H1 := Lib.hid h'
  have HT := Lib.hid ht
  have HT' := Lib.hid ht'
  have HL := Lib.hid hl
  have HL' := Lib.hid hl'
  clear h h' ht ht' hl hl'
  by_cases hnn : n = n'
  · subst hnn
    go_enter Try.func62, Try.ntmps62
    go_wp2
    go_loopg [13] n (fun r x wr => ∃ i : Nat, i + r = n ∧ x = .int .i64 i ∧ (∀ j, j < i → bx j = bx' j) ∧ Below w.heap.size w wr)
    case atStart => exact ⟨0, by omega, rfl, (fun j hj => absurd hj (by omega)), Below.refl _ _⟩
    case round =>
      obtain ⟨i, hi, rfl, hd, hb⟩ := hrel
      have HI := Lib.hid hi
      have HD := Lib.hid hd
      clear hi hd
      by_cases hlt : i < n
      · obtain ⟨ad, rfl, hab, hc⟩ := (H0.out.below' hb hB).cell hlt
        obtain ⟨ad', rfl, hab', hc'⟩ := (H1.out.below' hb hB).cell hlt
        replace hc : wr.cell? (ad.add (i * 1)) = some (.slice (XA i) (xn i) (xc i)) := by have := hc 0 (by omega); rwa [addr_add_zero] at this
        replace hc' : wr.cell? (ad'.add (i * 1)) = some (.slice (XA' i) (xn' i) (xc' i)) := by have := hc' 0 (by omega); rwa [addr_add_zero] at this
        have t1 := (HT.out i hlt).below' hb hB
        have t2 := (HT'.out i hlt).below' hb hB
        have l1 := HL.out i hlt
        have l2 := HL'.out i hlt
        go_upto_region 6 with (fail)
        (try simp only [Act.put, List.setIfInBounds_toArray, List.set_cons_zero, List.set_cons_succ])
        refine wp_region_can B 9 [(0, false), (1, false), (2, false), (3, false), (4, false), (5, false), (6, false), (7, false), (8, true)] (by kernel_rfl) (by kernel_rfl) ?_
        (simp only [canOps, List.getElem?_cons_zero, List.getElem?_cons_succ, List.drop_succ_cons, List.drop_zero])
        iterate 2 (first | (refine wpCan_move rfl rfl (fun _ _ _ _ h => h) ?_; (simp only [Act.put, Act.eval, Array.getD_eq_getD_getElem?, List.getElem?_toArray, List.getElem?_cons_zero, List.getElem?_cons_succ, Option.getD_some, List.setIfInBounds_toArray, List.set_cons_zero, List.set_cons_succ])) | (refine wpCan_assign rfl rfl (fun _ _ _ _ h => h) ?_; (simp only [Act.put, Act.eval, Array.getD_eq_getD_getElem?, List.getElem?_toArray, List.getElem?_cons_zero, List.getElem?_cons_succ, Option.getD_some, List.setIfInBounds_toArray, List.set_cons_zero, List.set_cons_succ])) | (refine wpCan_nilCheck rfl rfl rfl (fun _ _ _ _ h => h) ?_; (simp only [Act.put, List.setIfInBounds_toArray, List.set_cons_zero, List.set_cons_succ])) | (refine wpCan_q rfl rfl (fun _ _ _ _ h => h) (by first | exact .bin rfl rfl rfl | exact .indexAddr rfl | exact .un rfl | exact .extract rfl | exact .index rfl | exact .field rfl | exact .slice rfl) (fun K hK => ?_); go_simp; (try (simp only [↓IntWalk.iteOmega]; go_simp)); (try go_bits); refine hK _ ?_; clear hK K))
        refine wpCan_v rfl (fun _ _ _ _ h => h) (.indexAddr rfl) (run_elA rfl Try.underlying40 (sz := 1) (by kernel_rfl) rfl rfl hlt) ?_
        (try simp only [Act.put, List.setIfInBounds_toArray, List.set_cons_zero, List.set_cons_succ])
        refine wpCan_v rfl (fun _ _ _ _ h => h) (Framed.load1 (w := wr.drew) rfl Try.underlying22 rfl rfl (by rw [add_block]; exact hab) hc) (run_op_load1 (w := wr.drew) rfl Try.underlying22 rfl rfl hc) ?_
        (try simp only [Act.put, List.setIfInBounds_toArray, List.set_cons_zero, List.set_cons_succ])
        iterate 2 (first | (refine wpCan_move rfl rfl (fun _ _ _ _ h => h) ?_; (simp only [Act.put, Act.eval, Array.getD_eq_getD_getElem?, List.getElem?_toArray, List.getElem?_cons_zero, List.getElem?_cons_succ, Option.getD_some, List.setIfInBounds_toArray, List.set_cons_zero, List.set_cons_succ])) | (refine wpCan_assign rfl rfl (fun _ _ _ _ h => h) ?_; (simp only [Act.put, Act.eval, Array.getD_eq_getD_getElem?, List.getElem?_toArray, List.getElem?_cons_zero, List.getElem?_cons_succ, Option.getD_some, List.setIfInBounds_toArray, List.set_cons_zero, List.set_cons_succ])) | (refine wpCan_nilCheck rfl rfl rfl (fun _ _ _ _ h => h) ?_; (simp only [Act.put, List.setIfInBounds_toArray, List.set_cons_zero, List.set_cons_succ])) | (refine wpCan_q rfl rfl (fun _ _ _ _ h => h) (by first | exact .bin rfl rfl rfl | exact .indexAddr rfl | exact .un rfl | exact .extract rfl | exact .index rfl | exact .field rfl | exact .slice rfl) (fun K hK => ?_); go_simp; (try (simp only [↓IntWalk.iteOmega]; go_simp)); (try go_bits); refine hK _ ?_; clear hK K))
        refine wpCan_v rfl (fun _ _ _ _ h => h) (.indexAddr rfl) (run_elA rfl Try.underlying40 (sz := 1) (by kernel_rfl) rfl rfl hlt) ?_
        (try simp only [Act.put, List.setIfInBounds_toArray, List.set_cons_zero, List.set_cons_succ])
        refine wpCan_v rfl (fun _ _ _ _ h => h) (Framed.load1 (w := wr.drew) rfl Try.underlying22 rfl rfl (by rw [add_block]; exact hab') hc') (run_op_load1 (w := wr.drew) rfl Try.underlying22 rfl rfl hc') ?_
        (try simp only [Act.put, List.setIfInBounds_toArray, List.set_cons_zero, List.set_cons_succ])
        refine wpCan_e rfl (fun K hK => ?_)
        go_simp
        refine (Same_txt _ _ _ _ _ _ _ _ B _ t1.drew t2.drew l1 l2).mono ?_
        rintro e w2 ⟨rfl, rfl⟩
        refine hK _ _ (Keep.refl _ _) ?_
        clear hK K
        (try simp only [Act.put, List.setIfInBounds_toArray, List.set_cons_zero, List.set_cons_succ])
        refine wpCan_nil ?_
        by_cases he : bx i = bx' i
        · rw [decide_eq_true he]
          have HE := Lib.hid he
          clear he
          go_wp2
          go_roundg (gk - 1)
          case measure => have := HI.out; omega
          case rel =>
            have hI := HI.out
            exact ⟨i + 1, by omega, by go_num, all_succ HD.out HE.out, hb.drew⟩
        · rw [decide_eq_false he]
          have EX := Lib.hid (show decide (SameS n n fun i => bx i = bx' i) = false from decide_eq_false fun h => he (h.2 i hlt))
          clear he
          go_wp2
          go_ret
          refine ⟨?_, hb.drew⟩
          rw [EX.out]
          rfl
      · obtain rfl : i = n := by have := HI.out; omega
        have EX := Lib.hid (show decide (SameS i i fun j => bx j = bx' j) = true from decide_eq_true ⟨rfl, HD.out⟩)
        go_wp2
        go_ret
        refine ⟨?_, hb⟩
        rw [EX.out]
        rfl
  · have EX := Lib.hid (show decide (SameS n n' fun i => bx i = bx' i) = false from decide_eq_false fun h => hnn h.1)
    have hnb : (((n : Nat) : Int) != ((n' : Nat) : Int)) = true := bne_iff_ne.2 (by omega)
    go_enter Try.func62, Try.ntmps62
    go_wp2
    go_ret
    refine ⟨?_, Below.refl _ _⟩
    rw [EX.out]
    rfl
end Go.Proofs.Ytfbfkfdkigpkgaa
