/- The walks of layer 16: slices held against each other. -/
import Derived.Test.YtfbfkfdkigpkgaaEqC
import Derived.Test.YtfbfkfdkigpkgaaAof
namespace Go.Proofs.Ytfbfkfdkigpkgaa
set_option linter.unusedSimpArgs false
set_option linter.unusedVariables false
open Go.RowKit
attribute [local irreducible] beL beK

theorem run_op_neProp {o : Oper} {a : Act} {w : World} {u : TypeId} {x y : Operand} {k i k' i' : Int} {p p' : Nat → Nat} (ho : o.op = .binOp .neq 75 x y u) (hx : a.eval x = .agg (arrV 34 (propV k i p))) (hy : a.eval y = .agg (arrV 34 (propV k' i' p'))) :
    (execOp a.eval o).run Try.prog w = .ok (.value (.bool (!decide (SameP k i p k' i' p')))) w := by
  unfold execOp
  simp only [ho, hx, hy, Sem.run_bind, run_eqGuard_agg w _ _ x y _ _ (show Try.prog.eqGuardType Try.prog.depth 75 = false from by kernel_rfl), Result.andThen_ok, run_neq_struct, run_eqPropE 10000 rfl, Sem.run_pure]
theorem run_elA {P : Program} {o : Oper} {a : Act} {w : World} {t e sz n c : Nat} {x y : Operand} {ad : Addr} {i : Nat} (ho : o.op = .indexAddr t x y) (ht : P.underlying t = some (.slice e)) (hs : (P.info? e).map (·.size) = some sz) (hx : a.eval x = .slice (some ad) n c) (hy : a.eval y = .int .i64 i) (hi : i < n) :
    (execOp a.eval o).run P w = .ok (.value (.pointer (some (ad.add (i * sz))))) w := run_op_el ho ht hs hx hy hi
def SameS (n n' : Nat) (E : Nat → Prop) : Prop := n = n' ∧ ∀ i, i < n → E i
instance (n n' : Nat) (E : Nat → Prop) [DecidablePred E] : Decidable (SameS n n' E) := by unfold SameS; infer_instance

set_option maxRecDepth 100000 in
set_option maxHeartbeats 2000000 in
theorem EqInts (A : Option Addr) (n c : Nat) (v : Nat → Int) (A' : Option Addr) (n' c' : Nat) (v' : Nat → Int) (B : Nat) (w : World) (h : Els w B A n 1 (fun j _ => .int .i64 (v j))) (h' : Els w B A' n' 1 (fun j _ => .int .i64 (v' j))) (hB : B ≤ w.heap.size) (hn : (n : Int) ≤ 9223372036854775807) :
    Calls Try.prog 55 #[.slice A n c, .slice A' n' c'] w fun e w' => e = .returned (.bool (decide (SameS n n' fun i => (v i) = (v' i)))) ∧ Below w.heap.size w w' := by
  have H0 := Lib.hid h
  have H1 := Lib.hid h'
  clear h h'
  by_cases hnn : n = n'
  · subst hnn
    go_enter Try.func55, Try.ntmps55
    go_wp2
    go_loopg [13] n (fun r x wr => ∃ i : Nat, i + r = n ∧ x = .int .i64 i ∧ (∀ j, j < i → (v j) = (v' j)) ∧ Below w.heap.size w wr)
    case atStart => exact ⟨0, by omega, rfl, (fun j hj => absurd hj (by omega)), Below.refl _ _⟩
    case round =>
      obtain ⟨i, hi, rfl, hd, hb⟩ := hrel
      have HI := Lib.hid hi
      have HD := Lib.hid hd
      clear hi hd
      by_cases hlt : i < n
      · obtain ⟨ad, rfl, hab, hc⟩ := (H0.out.below' hb hB).cell hlt
        obtain ⟨ad', rfl, hab', hc'⟩ := (H1.out.below' hb hB).cell hlt
        replace hc : wr.cell? (ad.add (i * 1)) = some (.int .i64 (v i)) := by have := hc 0 (by omega); rwa [addr_add_zero] at this
        replace hc' : wr.cell? (ad'.add (i * 1)) = some (.int .i64 (v' i)) := by have := hc' 0 (by omega); rwa [addr_add_zero] at this
        go_upto_region 6 with (fail)
        (try simp only [Act.put, List.setIfInBounds_toArray, List.set_cons_zero, List.set_cons_succ])
        refine wp_region_tail 8 (by kernel_rfl) (by kernel_rfl) ?_
        (simp only [List.take_succ_cons, List.take_zero, List.drop_succ_cons, List.drop_zero])
        iterate 2 (refine wpStill_step (fun K hK => ?_); go_simp; (try (simp only [↓IntWalk.iteOmega]; go_simp)); (try go_bits); refine hK _ ?_; clear hK K)
        refine wpStill_val rfl (run_elA rfl Try.underlying69 (sz := 1) (by kernel_rfl) rfl rfl hlt) ?_
        (try simp only [Act.put, List.setIfInBounds_toArray, List.set_cons_zero, List.set_cons_succ])
        refine wpStill_val rfl (run_op_load1 rfl Try.underlying3 rfl rfl hc) ?_
        (try simp only [Act.put, List.setIfInBounds_toArray, List.set_cons_zero, List.set_cons_succ])
        iterate 2 (refine wpStill_step (fun K hK => ?_); go_simp; (try (simp only [↓IntWalk.iteOmega]; go_simp)); (try go_bits); refine hK _ ?_; clear hK K)
        refine wpStill_val rfl (run_elA rfl Try.underlying69 (sz := 1) (by kernel_rfl) rfl rfl hlt) ?_
        (try simp only [Act.put, List.setIfInBounds_toArray, List.set_cons_zero, List.set_cons_succ])
        refine wpStill_val rfl (run_op_load1 rfl Try.underlying3 rfl rfl hc') ?_
        (try simp only [Act.put, List.setIfInBounds_toArray, List.set_cons_zero, List.set_cons_succ])
        refine wpStill_nil ?_
        by_cases he : (v i) = (v' i)
        · have HE := Lib.hid he
          have heb : (v i != v' i) = false := by rw [he]; exact bne_self_eq_false _
          clear he
          go_wp2
          go_roundg (gk - 1)
          case measure => have := HI.out; omega
          case rel =>
            have hI := HI.out
            exact ⟨i + 1, by omega, by go_num, all_succ HD.out HE.out, hb.drew⟩
        · have EX := Lib.hid (show decide (SameS n n fun i => (v i) = (v' i)) = false from decide_eq_false fun h => he (h.2 i hlt))
          have heb : (v i != v' i) = true := bne_iff_ne.2 he
          clear he
          go_wp2
          go_ret
          refine ⟨?_, hb.drew⟩
          rw [EX.out]
          rfl
      · obtain rfl : i = n := by have := HI.out; omega
        have EX := Lib.hid (show decide (SameS i i fun j => (v j) = (v' j)) = true from decide_eq_true ⟨rfl, HD.out⟩)
        go_wp2
        go_ret
        refine ⟨?_, hb⟩
        rw [EX.out]
        rfl
  · have EX := Lib.hid (show decide (SameS n n' fun i => (v i) = (v' i)) = false from decide_eq_false fun h => hnn h.1)
    have hnb : (((n : Nat) : Int) != ((n' : Nat) : Int)) = true := bne_iff_ne.2 (by omega)
    go_enter Try.func55, Try.ntmps55
    go_wp2
    go_ret
    refine ⟨?_, Below.refl _ _⟩
    rw [EX.out]
    rfl

set_option maxRecDepth 100000 in
set_option maxHeartbeats 2000000 in
theorem REqInts (A : Option Addr) (n c : Nat) (v : Nat → Int) (A' : Option Addr) (n' c' : Nat) (v' : Nat → Int) (B : Nat) (w : World) (h : Els w B A n 1 (fun j _ => .int .i64 (v j))) (h' : Els w B A' n' 1 (fun j _ => .int .i64 (v' j))) (hB : B ≤ w.heap.size) (hn : (n : Int) ≤ 9223372036854775807) :
    Calls Try.prog 63 #[.slice A n c, .slice A' n' c'] w fun e w' => e = .returned (.bool (decide (SameS n n' fun i => (v i) = (v' i)))) ∧ Below w.heap.size w w' := by
  have H0 := Lib.hid h
  have H1 := Lib.hid h'
  clear h h'
  by_cases hnn : n = n'
  · subst hnn
    go_enter Try.func63, Try.ntmps63
    go_wp2
    go_loopg [13] n (fun r x wr => ∃ i : Nat, i + r = n ∧ x = .int .i64 i ∧ (∀ j, j < i → (v j) = (v' j)) ∧ Below w.heap.size w wr)
    case atStart => exact ⟨0, by omega, rfl, (fun j hj => absurd hj (by omega)), Below.refl _ _⟩
    case round =>
      obtain ⟨i, hi, rfl, hd, hb⟩ := hrel
      have HI := Lib.hid hi
      have HD := Lib.hid hd
      clear hi hd
      by_cases hlt : i < n
      · obtain ⟨ad, rfl, hab, hc⟩ := (H0.out.below' hb hB).cell hlt
        obtain ⟨ad', rfl, hab', hc'⟩ := (H1.out.below' hb hB).cell hlt
        replace hc : wr.cell? (ad.add (i * 1)) = some (.int .i64 (v i)) := by have := hc 0 (by omega); rwa [addr_add_zero] at this
        replace hc' : wr.cell? (ad'.add (i * 1)) = some (.int .i64 (v' i)) := by have := hc' 0 (by omega); rwa [addr_add_zero] at this
        go_upto_region 6 with (fail)
        (try simp only [Act.put, List.setIfInBounds_toArray, List.set_cons_zero, List.set_cons_succ])
        refine wp_region_tail 8 (by kernel_rfl) (by kernel_rfl) ?_
        (simp only [List.take_succ_cons, List.take_zero, List.drop_succ_cons, List.drop_zero])
        iterate 2 (refine wpStill_step (fun K hK => ?_); go_simp; (try (simp only [↓IntWalk.iteOmega]; go_simp)); (try go_bits); refine hK _ ?_; clear hK K)
        refine wpStill_val rfl (run_elA rfl Try.underlying69 (sz := 1) (by kernel_rfl) rfl rfl hlt) ?_
        (try simp only [Act.put, List.setIfInBounds_toArray, List.set_cons_zero, List.set_cons_succ])
        refine wpStill_val rfl (run_op_load1 rfl Try.underlying3 rfl rfl hc) ?_
        (try simp only [Act.put, List.setIfInBounds_toArray, List.set_cons_zero, List.set_cons_succ])
        iterate 2 (refine wpStill_step (fun K hK => ?_); go_simp; (try (simp only [↓IntWalk.iteOmega]; go_simp)); (try go_bits); refine hK _ ?_; clear hK K)
        refine wpStill_val rfl (run_elA rfl Try.underlying69 (sz := 1) (by kernel_rfl) rfl rfl hlt) ?_
        (try simp only [Act.put, List.setIfInBounds_toArray, List.set_cons_zero, List.set_cons_succ])
        refine wpStill_val rfl (run_op_load1 rfl Try.underlying3 rfl rfl hc') ?_
        (try simp only [Act.put, List.setIfInBounds_toArray, List.set_cons_zero, List.set_cons_succ])
        refine wpStill_nil ?_
        by_cases he : (v i) = (v' i)
        · have HE := Lib.hid he
          have heb : (v i != v' i) = false := by rw [he]; exact bne_self_eq_false _
          clear he
          go_wp2
          go_roundg (gk - 1)
          case measure => have := HI.out; omega
          case rel =>
            have hI := HI.out
            exact ⟨i + 1, by omega, by go_num, all_succ HD.out HE.out, hb.drew⟩
        · have EX := Lib.hid (show decide (SameS n n fun i => (v i) = (v' i)) = false from decide_eq_false fun h => he (h.2 i hlt))
          have heb : (v i != v' i) = true := bne_iff_ne.2 he
          clear he
          go_wp2
          go_ret
          refine ⟨?_, hb.drew⟩
          rw [EX.out]
          rfl
      · obtain rfl : i = n := by have := HI.out; omega
        have EX := Lib.hid (show decide (SameS i i fun j => (v j) = (v' j)) = true from decide_eq_true ⟨rfl, HD.out⟩)
        go_wp2
        go_ret
        refine ⟨?_, hb⟩
        rw [EX.out]
        rfl
  · have EX := Lib.hid (show decide (SameS n n' fun i => (v i) = (v' i)) = false from decide_eq_false fun h => hnn h.1)
    have hnb : (((n : Nat) : Int) != ((n' : Nat) : Int)) = true := bne_iff_ne.2 (by omega)
    go_enter Try.func63, Try.ntmps63
    go_wp2
    go_ret
    refine ⟨?_, Below.refl _ _⟩
    rw [EX.out]
    rfl

set_option maxRecDepth 100000 in
set_option maxHeartbeats 2000000 in
theorem EqKeys (A : Option Addr) (n c : Nat) (p : Nat → Nat → Nat) (A' : Option Addr) (n' c' : Nat) (p' : Nat → Nat → Nat) (B : Nat) (w : World) (h : Els w B A n 32 (fun i => byteV (p i))) (h' : Els w B A' n' 32 (fun i => byteV (p' i))) (hB : B ≤ w.heap.size) (hn : (n : Int) ≤ 9223372036854775807) :
    Calls Try.prog 58 #[.slice A n c, .slice A' n' c'] w fun e w' => e = .returned (.bool (decide (SameS n n' fun i => SameK (p i) (p' i)))) ∧ Below w.heap.size w w' := by
  have H0 := Lib.hid h
  have H1 := Lib.hid h'
  clear h h'
  by_cases hnn : n = n'
  · subst hnn
    go_enter Try.func58, Try.ntmps58
    go_wp2
    go_loopg [13] n (fun r x wr => ∃ i : Nat, i + r = n ∧ x = .int .i64 i ∧ (∀ j, j < i → SameK (p j) (p' j)) ∧ Below w.heap.size w wr)
    case atStart => exact ⟨0, by omega, rfl, (fun j hj => absurd hj (by omega)), Below.refl _ _⟩
    case round =>
      obtain ⟨i, hi, rfl, hd, hb⟩ := hrel
      have HI := Lib.hid hi
      have HD := Lib.hid hd
      clear hi hd
      by_cases hlt : i < n
      · obtain ⟨ad, rfl, hab, hc⟩ := (H0.out.below' hb hB).cell hlt
        obtain ⟨ad', rfl, hab', hc'⟩ := (H1.out.below' hb hB).cell hlt
        skip
        go_upto_region 6 with (fail)
        (try simp only [Act.put, List.setIfInBounds_toArray, List.set_cons_zero, List.set_cons_succ])
        refine wp_region_tail 8 (by kernel_rfl) (by kernel_rfl) ?_
        (simp only [List.take_succ_cons, List.take_zero, List.drop_succ_cons, List.drop_zero])
        iterate 2 (refine wpStill_step (fun K hK => ?_); go_simp; (try (simp only [↓IntWalk.iteOmega]; go_simp)); (try go_bits); refine hK _ ?_; clear hK K)
        refine wpStill_val rfl (run_elA rfl Try.underlying39 (sz := 32) (by kernel_rfl) rfl rfl hlt) ?_
        (try simp only [Act.put, List.setIfInBounds_toArray, List.set_cons_zero, List.set_cons_succ])
        refine wpStill_val rfl (run_op_load_at (n := 32) rfl RTKey rfl hc) ?_
        (try simp only [Act.put, List.setIfInBounds_toArray, List.set_cons_zero, List.set_cons_succ])
        iterate 2 (refine wpStill_step (fun K hK => ?_); go_simp; (try (simp only [↓IntWalk.iteOmega]; go_simp)); (try go_bits); refine hK _ ?_; clear hK K)
        refine wpStill_val rfl (run_elA rfl Try.underlying39 (sz := 32) (by kernel_rfl) rfl rfl hlt) ?_
        (try simp only [Act.put, List.setIfInBounds_toArray, List.set_cons_zero, List.set_cons_succ])
        refine wpStill_val rfl (run_op_load_at (n := 32) rfl RTKey rfl hc') ?_
        (try simp only [Act.put, List.setIfInBounds_toArray, List.set_cons_zero, List.set_cons_succ])
        refine wpStill_nil ?_
        by_cases he : SameK (p i) (p' i)
        · have HE := Lib.hid he
          have heb := sameTo_key (p i) (p' i)
          rw [decide_eq_true he] at heb
          clear he
          refine wpList_neArr (k := .u8) (f := fun j => ((p i j : Nat) : Int)) (g := fun j => ((p' i j : Nat) : Int)) rfl rfl ITKey rfl rfl ?_
          rw [heb]
          go_wp2
          go_roundg (gk - 1)
          case measure => have := HI.out; omega
          case rel =>
            have hI := HI.out
            exact ⟨i + 1, by omega, by go_num, all_succ HD.out HE.out, hb.drew⟩
        · have EX := Lib.hid (show decide (SameS n n fun i => SameK (p i) (p' i)) = false from decide_eq_false fun h => he (h.2 i hlt))
          have heb := sameTo_key (p i) (p' i)
          rw [decide_eq_false he] at heb
          clear he
          refine wpList_neArr (k := .u8) (f := fun j => ((p i j : Nat) : Int)) (g := fun j => ((p' i j : Nat) : Int)) rfl rfl ITKey rfl rfl ?_
          rw [heb]
          go_wp2
          go_ret
          refine ⟨?_, hb.drew⟩
          rw [EX.out]
          rfl
      · obtain rfl : i = n := by have := HI.out; omega
        have EX := Lib.hid (show decide (SameS i i fun j => SameK (p j) (p' j)) = true from decide_eq_true ⟨rfl, HD.out⟩)
        go_wp2
        go_ret
        refine ⟨?_, hb⟩
        rw [EX.out]
        rfl
  · have EX := Lib.hid (show decide (SameS n n' fun i => SameK (p i) (p' i)) = false from decide_eq_false fun h => hnn h.1)
    have hnb : (((n : Nat) : Int) != ((n' : Nat) : Int)) = true := bne_iff_ne.2 (by omega)
    go_enter Try.func58, Try.ntmps58
    go_wp2
    go_ret
    refine ⟨?_, Below.refl _ _⟩
    rw [EX.out]
    rfl

set_option maxRecDepth 100000 in
set_option maxHeartbeats 2000000 in
theorem REqKeys (A : Option Addr) (n c : Nat) (p : Nat → Nat → Nat) (A' : Option Addr) (n' c' : Nat) (p' : Nat → Nat → Nat) (B : Nat) (w : World) (h : Els w B A n 32 (fun i => byteV (p i))) (h' : Els w B A' n' 32 (fun i => byteV (p' i))) (hB : B ≤ w.heap.size) (hn : (n : Int) ≤ 9223372036854775807) :
    Calls Try.prog 61 #[.slice A n c, .slice A' n' c'] w fun e w' => e = .returned (.bool (decide (SameS n n' fun i => SameK (p i) (p' i)))) ∧ Below w.heap.size w w' := by
  have H0 := Lib.hid h
  have H1 := Lib.hid h'
  clear h h'
  by_cases hnn : n = n'
  · subst hnn
    go_enter Try.func61, Try.ntmps61
    go_wp2
    go_loopg [13] n (fun r x wr => ∃ i : Nat, i + r = n ∧ x = .int .i64 i ∧ (∀ j, j < i → SameK (p j) (p' j)) ∧ Below w.heap.size w wr)
    case atStart => exact ⟨0, by omega, rfl, (fun j hj => absurd hj (by omega)), Below.refl _ _⟩
    case round =>
      obtain ⟨i, hi, rfl, hd, hb⟩ := hrel
      have HI := Lib.hid hi
      have HD := Lib.hid hd
      clear hi hd
      by_cases hlt : i < n
      · obtain ⟨ad, rfl, hab, hc⟩ := (H0.out.below' hb hB).cell hlt
        obtain ⟨ad', rfl, hab', hc'⟩ := (H1.out.below' hb hB).cell hlt
        skip
        go_upto_region 6 with (fail)
        (try simp only [Act.put, List.setIfInBounds_toArray, List.set_cons_zero, List.set_cons_succ])
        refine wp_region_tail 8 (by kernel_rfl) (by kernel_rfl) ?_
        (simp only [List.take_succ_cons, List.take_zero, List.drop_succ_cons, List.drop_zero])
        iterate 2 (refine wpStill_step (fun K hK => ?_); go_simp; (try (simp only [↓IntWalk.iteOmega]; go_simp)); (try go_bits); refine hK _ ?_; clear hK K)
        refine wpStill_val rfl (run_elA rfl Try.underlying39 (sz := 32) (by kernel_rfl) rfl rfl hlt) ?_
        (try simp only [Act.put, List.setIfInBounds_toArray, List.set_cons_zero, List.set_cons_succ])
        refine wpStill_val rfl (run_op_load_at (n := 32) rfl RTKey rfl hc) ?_
        (try simp only [Act.put, List.setIfInBounds_toArray, List.set_cons_zero, List.set_cons_succ])
        iterate 2 (refine wpStill_step (fun K hK => ?_); go_simp; (try (simp only [↓IntWalk.iteOmega]; go_simp)); (try go_bits); refine hK _ ?_; clear hK K)
        refine wpStill_val rfl (run_elA rfl Try.underlying39 (sz := 32) (by kernel_rfl) rfl rfl hlt) ?_
        (try simp only [Act.put, List.setIfInBounds_toArray, List.set_cons_zero, List.set_cons_succ])
        refine wpStill_val rfl (run_op_load_at (n := 32) rfl RTKey rfl hc') ?_
        (try simp only [Act.put, List.setIfInBounds_toArray, List.set_cons_zero, List.set_cons_succ])
        refine wpStill_nil ?_
        by_cases he : SameK (p i) (p' i)
        · have HE := Lib.hid he
          have heb := sameTo_key (p i) (p' i)
          rw [decide_eq_true he] at heb
          clear he
          refine wpList_neArr (k := .u8) (f := fun j => ((p i j : Nat) : Int)) (g := fun j => ((p' i j : Nat) : Int)) rfl rfl ITKey rfl rfl ?_
          rw [heb]
          go_wp2
          go_roundg (gk - 1)
          case measure => have := HI.out; omega
          case rel =>
            have hI := HI.out
            exact ⟨i + 1, by omega, by go_num, all_succ HD.out HE.out, hb.drew⟩
        · have EX := Lib.hid (show decide (SameS n n fun i => SameK (p i) (p' i)) = false from decide_eq_false fun h => he (h.2 i hlt))
          have heb := sameTo_key (p i) (p' i)
          rw [decide_eq_false he] at heb
          clear he
          refine wpList_neArr (k := .u8) (f := fun j => ((p i j : Nat) : Int)) (g := fun j => ((p' i j : Nat) : Int)) rfl rfl ITKey rfl rfl ?_
          rw [heb]
          go_wp2
          go_ret
          refine ⟨?_, hb.drew⟩
          rw [EX.out]
          rfl
      · obtain rfl : i = n := by have := HI.out; omega
        have EX := Lib.hid (show decide (SameS i i fun j => SameK (p j) (p' j)) = true from decide_eq_true ⟨rfl, HD.out⟩)
        go_wp2
        go_ret
        refine ⟨?_, hb⟩
        rw [EX.out]
        rfl
  · have EX := Lib.hid (show decide (SameS n n' fun i => SameK (p i) (p' i)) = false from decide_eq_false fun h => hnn h.1)
    have hnb : (((n : Nat) : Int) != ((n' : Nat) : Int)) = true := bne_iff_ne.2 (by omega)
    go_enter Try.func61, Try.ntmps61
    go_wp2
    go_ret
    refine ⟨?_, Below.refl _ _⟩
    rw [EX.out]
    rfl

set_option maxRecDepth 100000 in
set_option maxHeartbeats 2000000 in
theorem EqProps (A : Option Addr) (n c : Nat) (k q : Nat → Int) (p : Nat → Nat → Nat) (A' : Option Addr) (n' c' : Nat) (k' q' : Nat → Int) (p' : Nat → Nat → Nat) (B : Nat) (w : World) (h : Els w B A n 34 (fun i => propV (k i) (q i) (p i))) (h' : Els w B A' n' 34 (fun i => propV (k' i) (q' i) (p' i))) (hB : B ≤ w.heap.size) (hn : (n : Int) ≤ 9223372036854775807) :
    Calls Try.prog 56 #[.slice A n c, .slice A' n' c'] w fun e w' => e = .returned (.bool (decide (SameS n n' fun i => SameP (k i) (q i) (p i) (k' i) (q' i) (p' i)))) ∧ Below w.heap.size w w' := by
  have H0 := Lib.hid h
  have H1 := Lib.hid h'
  clear h h'
  by_cases hnn : n = n'
  · subst hnn
    go_enter Try.func56, Try.ntmps56
    go_wp2
    go_loopg [13] n (fun r x wr => ∃ i : Nat, i + r = n ∧ x = .int .i64 i ∧ (∀ j, j < i → SameP (k j) (q j) (p j) (k' j) (q' j) (p' j)) ∧ Below w.heap.size w wr)
    case atStart => exact ⟨0, by omega, rfl, (fun j hj => absurd hj (by omega)), Below.refl _ _⟩
    case round =>
      obtain ⟨i, hi, rfl, hd, hb⟩ := hrel
      have HI := Lib.hid hi
      have HD := Lib.hid hd
      clear hi hd
      by_cases hlt : i < n
      · obtain ⟨ad, rfl, hab, hc⟩ := (H0.out.below' hb hB).cell hlt
        obtain ⟨ad', rfl, hab', hc'⟩ := (H1.out.below' hb hB).cell hlt
        skip
        go_upto_region 6 with (fail)
        (try simp only [Act.put, List.setIfInBounds_toArray, List.set_cons_zero, List.set_cons_succ])
        refine wp_region_tail 8 (by kernel_rfl) (by kernel_rfl) ?_
        (simp only [List.take_succ_cons, List.take_zero, List.drop_succ_cons, List.drop_zero])
        iterate 2 (refine wpStill_step (fun K hK => ?_); go_simp; (try (simp only [↓IntWalk.iteOmega]; go_simp)); (try go_bits); refine hK _ ?_; clear hK K)
        refine wpStill_val rfl (run_elA rfl Try.underlying35 (sz := 34) (by kernel_rfl) rfl rfl hlt) ?_
        (try simp only [Act.put, List.setIfInBounds_toArray, List.set_cons_zero, List.set_cons_succ])
        refine wpStill_val rfl (run_op_load_at (n := 34) rfl RTProp rfl hc) ?_
        (try simp only [Act.put, List.setIfInBounds_toArray, List.set_cons_zero, List.set_cons_succ])
        iterate 2 (refine wpStill_step (fun K hK => ?_); go_simp; (try (simp only [↓IntWalk.iteOmega]; go_simp)); (try go_bits); refine hK _ ?_; clear hK K)
        refine wpStill_val rfl (run_elA rfl Try.underlying35 (sz := 34) (by kernel_rfl) rfl rfl hlt) ?_
        (try simp only [Act.put, List.setIfInBounds_toArray, List.set_cons_zero, List.set_cons_succ])
        refine wpStill_val rfl (run_op_load_at (n := 34) rfl RTProp rfl hc') ?_
        (try simp only [Act.put, List.setIfInBounds_toArray, List.set_cons_zero, List.set_cons_succ])
        refine wpStill_nil ?_
        by_cases he : SameP (k i) (q i) (p i) (k' i) (q' i) (p' i)
        · have HE := Lib.hid he
          refine wpList_val rfl (run_op_neProp rfl rfl rfl) ?_
          rw [decide_eq_true he]
          clear he
          go_wp2
          go_roundg (gk - 1)
          case measure => have := HI.out; omega
          case rel =>
            have hI := HI.out
            exact ⟨i + 1, by omega, by go_num, all_succ HD.out HE.out, hb.drew⟩
        · have EX := Lib.hid (show decide (SameS n n fun i => SameP (k i) (q i) (p i) (k' i) (q' i) (p' i)) = false from decide_eq_false fun h => he (h.2 i hlt))
          refine wpList_val rfl (run_op_neProp rfl rfl rfl) ?_
          rw [decide_eq_false he]
          clear he
          go_wp2
          go_ret
          refine ⟨?_, hb.drew⟩
          rw [EX.out]
          rfl
      · obtain rfl : i = n := by have := HI.out; omega
        have EX := Lib.hid (show decide (SameS i i fun j => SameP (k j) (q j) (p j) (k' j) (q' j) (p' j)) = true from decide_eq_true ⟨rfl, HD.out⟩)
        go_wp2
        go_ret
        refine ⟨?_, hb⟩
        rw [EX.out]
        rfl
  · have EX := Lib.hid (show decide (SameS n n' fun i => SameP (k i) (q i) (p i) (k' i) (q' i) (p' i)) = false from decide_eq_false fun h => hnn h.1)
    have hnb : (((n : Nat) : Int) != ((n' : Nat) : Int)) = true := bne_iff_ne.2 (by omega)
    go_enter Try.func56, Try.ntmps56
    go_wp2
    go_ret
    refine ⟨?_, Below.refl _ _⟩
    rw [EX.out]
    rfl
end Go.Proofs.Ytfbfkfdkigpkgaa
