/- Proposals, steps, rows held against each other (layer 16). -/
import Derived.Test.YtfbfkfdkigpkgaaBad
namespace Go.Proofs.Ytfbfkfdkigpkgaa
set_option linter.unusedSimpArgs false
set_option linter.unusedVariables false
open Go.RowKit
section
variable {P : Program} {w : World}
theorem run_part_cell {e N i : Nat} {d : TypeDesc} {f : Nat → Value} (he : P.underlying e = some d) (hd : (match d with | .struct _ | .array _ _ => true | _ => false) = false) (hi : i < N) : (part e (arrV N f) i).run P w = .ok (f i) w := by
  have hg : (isAgg e).run P w = .ok false w := by
    unfold isAgg
    rw [Sem.run_bind, run_underlying he w]
    cases d <;> simp_all
  unfold part
  simp only [Sem.run_bind, hg, Result.andThen_ok, Bool.false_eq_true, if_false, arrV_get _ _ _ hi]
  rfl
theorem arrV_extract (N : Nat) (f : Nat → Value) (off n : Nat) (h : off + n ≤ N) : (arrV N f).extract off (off + n) = arrV n fun i => f (off + i) := by
  apply Array.ext_getElem?
  intro j
  by_cases hj : j < n
  · rw [arrV_get _ _ _ hj, Array.getElem?_extract, if_pos (by rw [arrV_size]; omega), arrV_get _ _ _ (by omega)]
  · rw [Array.getElem?_eq_none (by simp [arrV_size]; omega), Array.getElem?_eq_none (by rw [arrV_size]; omega)]
theorem run_part_row {e N off n : Nat} {f : Nat → Value} (hT : RowT P e n) (hle : off + n ≤ N) : (part e (arrV N f) off).run P w = .ok (.agg (arrV n fun i => f (off + i))) w := by
  have hs := hT
  obtain ⟨_, _, _, hs⟩ := hs
  unfold part
  simp only [Sem.run_bind, run_isAgg_row hT, Result.andThen_ok, if_true, run_sizeOf_of hs, arrV_extract N f off n hle, Sem.run_pure]
end
theorem eqFields3 {P : Program} {w : World} (D : Nat) (xs ys : Array Value) (f0 f1 f2 : Field) (x0 y0 x1 y1 x2 y2 : Value) (b0 b1 b2 : Bool) (n0 : f0.name ≠ "_") (n1 : f1.name ≠ "_") (n2 : f2.name ≠ "_")
    (p0 : (part f0.type xs f0.offset).run P w = .ok x0 w) (q0 : (part f0.type ys f0.offset).run P w = .ok y0 w) (e0 : (Op.equalIn D f0.type x0 y0).run P w = .ok b0 w)
    (p1 : (part f1.type xs f1.offset).run P w = .ok x1 w) (q1 : (part f1.type ys f1.offset).run P w = .ok y1 w) (e1 : (Op.equalIn D f1.type x1 y1).run P w = .ok b1 w)
    (p2 : (part f2.type xs f2.offset).run P w = .ok x2 w) (q2 : (part f2.type ys f2.offset).run P w = .ok y2 w) (e2 : (Op.equalIn D f2.type x2 y2).run P w = .ok b2 w) :
    (Op.eqFields D xs ys [f0, f1, f2]).run P w = .ok (b0 && (b1 && b2)) w := by
  cases b0 <;> cases b1 <;> cases b2 <;> simp [Op.eqFields, n0, n1, n2, p0, q0, e0, p1, q1, e1, p2, q2, e2]
theorem fields_of {P : Program} {t : TypeId} {fs : Array Field} (h : P.underlying t = some (.struct fs)) : P.fieldsOf t = fs := by unfold Program.fieldsOf; rw [h]
def SameK (p p' : Nat → Nat) : Prop := ∀ j, j < 32 → p j = p' j
instance (p p' : Nat → Nat) : Decidable (SameK p p') := by unfold SameK; infer_instance
def SameP (k i : Int) (p : Nat → Nat) (k' i' : Int) (p' : Nat → Nat) : Prop := k = k' ∧ i = i' ∧ SameK p p'
instance (k i : Int) (p : Nat → Nat) (k' i' : Int) (p' : Nat → Nat) : Decidable (SameP k i p k' i' p') := by unfold SameP; infer_instance
theorem sameTo_key (p p' : Nat → Nat) : sameTo (fun j => ((p j : Nat) : Int)) (fun j => ((p' j : Nat) : Int)) 32 0 = decide (SameK p p') := by
  rw [Bool.eq_iff_iff, decide_eq_true_eq, sameTo_iff]
  unfold SameK
  constructor
  · intro h j hj
    have := h j hj
    simp only [Nat.zero_add] at this
    omega
  · intro h j hj
    simp only [Nat.zero_add, h j hj]
theorem keyAgg (p : Nat → Nat) (k i : Int) : (arrV 32 fun j => propV k i p (2 + j)) = arr .u8 32 fun j => ((p j : Nat) : Int) := arrV_ext fun j hj => by
  unfold propV
  rw [if_neg (by omega), if_neg (by omega), show 2 + j - 2 = j from by omega]
set_option maxRecDepth 100000 in
theorem run_eqPropD (D : Nat) (k i : Int) (p : Nat → Nat) (k' i' : Int) (p' : Nat → Nat) (w : World) :
    (Op.equalIn (D + 3) 75 (.agg (arrV 34 (propV k i p))) (.agg (arrV 34 (propV k' i' p')))).run Try.prog w = .ok (decide (SameP k i p k' i' p')) w := by
  rw [run_equalIn_struct w (D + 2) _ _ _ (by kernel_rfl) (by kernel_rfl)]
  rw [fields_of Try.underlying75]
  have a0 := run_part_cell (P := Try.prog) (w := w) (e := 3) (N := 34) (i := 0) (f := propV k i p) Try.underlying3 rfl (by omega)
  have a1 := run_part_cell (P := Try.prog) (w := w) (e := 3) (N := 34) (i := 1) (f := propV k i p) Try.underlying3 rfl (by omega)
  have a2 := run_part_row (P := Try.prog) (w := w) (e := 37) (N := 34) (off := 2) (n := 32) (f := propV k i p) RTKey (by omega)
  have b0 := run_part_cell (P := Try.prog) (w := w) (e := 3) (N := 34) (i := 0) (f := propV k' i' p') Try.underlying3 rfl (by omega)
  have b1 := run_part_cell (P := Try.prog) (w := w) (e := 3) (N := 34) (i := 1) (f := propV k' i' p') Try.underlying3 rfl (by omega)
  have b2 := run_part_row (P := Try.prog) (w := w) (e := 37) (N := 34) (off := 2) (n := 32) (f := propV k' i' p') RTKey (by omega)
  rw [keyAgg] at a2 b2
  have ei := fun a b => run_equalIn_int (P := Try.prog) w (D + 1) 3 .i64 .i64 a b Try.underlying3
  have ek := run_equalIn_arr (P := Try.prog) (w := w) (d := D) (t := 37) (e := 5) (k := .u8) (n := 32) (f := fun j => ((p j : Nat) : Int)) (g := fun j => ((p' j : Nat) : Int)) Try.underlying37 Try.underlying5 (by kernel_rfl)
  rw [sameTo_key] at ek
  have u0 : propV k i p 0 = .int .i64 k := rfl
  have u1 : propV k i p 1 = .int .i64 i := rfl
  have v0 : propV k' i' p' 0 = .int .i64 k' := rfl
  have v1 : propV k' i' p' 1 = .int .i64 i' := rfl
  rw [u0] at a0
  rw [u1] at a1
  rw [v0] at b0
  rw [v1] at b1
  refine (eqFields3 (D + 2) _ _ _ _ _ _ _ _ _ _ _ _ _ _ (by decide) (by decide) (by decide) a0 b0 (ei k k') a1 b1 (ei i i') a2 b2 ek).trans ?_
  congr 1
  unfold SameP
  by_cases h1 : k = k'
  · by_cases h2 : i = i'
    · by_cases h3 : SameK p p' <;> simp [h1, h2, h3]
    · simp [h1, h2]
  · simp [h1]
theorem run_eqPropE (E : Nat) (hE : E = 9997 + 3) (k i : Int) (p : Nat → Nat) (k' i' : Int) (p' : Nat → Nat) (w : World) :
    (Op.equalIn E 75 (.agg (arrV 34 (propV k i p))) (.agg (arrV 34 (propV k' i' p')))).run Try.prog w = .ok (decide (SameP k i p k' i' p')) w := by
  subst hE
  exact run_eqPropD 9997 k i p k' i' p' w
end Go.Proofs.Ytfbfkfdkigpkgaa
