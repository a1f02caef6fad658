/- Two rows of integers held against each other. -/
import Derived.Test.YtfbfkfdkigpkgaaArr
import Derived.Laws.StructEq
namespace Go.Proofs.Ytfbfkfdkigpkgaa
set_option linter.unusedSimpArgs false
set_option linter.unusedVariables false
open Go.RowKit

/-- A type of rows of n integers of a kind. -/
def IntsT (P : Program) (t : TypeId) (k : IntKind) (n : Nat) : Prop := ∃ e, P.underlying t = some (.array n e) ∧ P.underlying e = some (.int k) ∧ (P.info? e).map (·.size) = some 1 ∧ P.eqGuardType P.depth t = false

section
variable {P : Program} {ops : Array Oper} {rest : List Oper} {o : Oper} {a : Act} {w : World} {Q : Exit → Act → World → Prop}
theorem run_part_arr {e : TypeId} {k : IntKind} {n : Nat} {f : Nat → Int} {i : Nat} (he : P.underlying e = some (.int k)) (hi : i < n) : (part e (arr k n f) i).run P w = .ok (.int k (f i)) w := by
  unfold part isAgg
  simp only [Sem.run_bind, run_underlying he, Result.andThen_ok, Sem.run_pure]
  simp only [Bool.false_eq_true, if_false, arr_get _ _ _ _ hi]
  rfl
def sameTo (f g : Nat → Int) : Nat → Nat → Bool
  | 0, _ => true
  | m + 1, s => decide (f s = g s) && sameTo f g m (s + 1)
theorem sameTo_iff (f g : Nat → Int) : ∀ m s, sameTo f g m s = true ↔ ∀ i, i < m → f (s + i) = g (s + i)
  | 0, s => by simp [sameTo]
  | m + 1, s => by
    simp only [sameTo, Bool.and_eq_true, decide_eq_true_eq, sameTo_iff f g m (s + 1)]
    constructor
    · rintro ⟨h0, h⟩ i hi
      cases i with
      | zero => simpa using h0
      | succ i => have := h i (by omega); rwa [show s + 1 + i = s + (i + 1) by omega] at this
    · intro h
      exact ⟨by simpa using h 0 (by omega), fun i hi => by have := h (i + 1) (by omega); rwa [show s + (i + 1) = s + 1 + i by omega] at this⟩
theorem run_equalIn_arr {d t e : TypeId} {k : IntKind} {n : Nat} {f g : Nat → Int} (ht : P.underlying t = some (.array n e)) (he : P.underlying e = some (.int k)) (hs : (P.info? e).map (·.size) = some 1) :
    (Op.equalIn (d + 2) t (.agg (arr k n f)) (.agg (arr k n g))).run P w = .ok (sameTo f g n 0) w := by
  have hsz : (sizeOf e).run P w = .ok 1 w := by
    cases hq : P.info? e with
    | none => simp [hq] at hs
    | some i =>
      have : i.size = 1 := by simpa [hq] using hs
      simp [sizeOf, typeInfo, hq, this]
  obtain ⟨D, hD⟩ : ∃ D, D = d + 1 := ⟨_, rfl⟩
  rw [show d + 2 = D + 1 from by rw [hD]]
  simp only [Op.equalIn, Sem.run_bind, run_underlying ht, Result.andThen_ok, hsz]
  rw [Std.Legacy.Range.forIn_eq_forIn_range']
  simp only [Std.Legacy.Range.size, Nat.sub_zero, Nat.add_sub_cancel, Nat.div_one]
  have key : ∀ m s, s + m ≤ n → ((forIn (List.range' s m) (none, ()) fun i (_ : Option Bool × Unit) => do
      let x ← part e (arr k n f) (i * 1)
      let y ← part e (arr k n g) (i * 1)
      let r ← Op.equalIn D e x y
      if (!r) = true then pure (ForInStep.done (some false, ())) else pure (ForInStep.yield (none, ())) : Sem (Option Bool × Unit))).run P w = .ok (if sameTo f g m s then none else some false, ()) w := by
    intro m
    induction m with
    | zero => intro s _; simp [sameTo]
    | succ m ih =>
      intro s hs
      rw [List.range'_succ, List.forIn_cons]
      simp only [Sem.run_bind, Nat.mul_one, run_part_arr he (show s < n by omega), Result.andThen_ok, hD, run_equalIn_int w d e k k _ _ he]
      by_cases hfg : f s = g s
      · simp [hfg, sameTo]
        have := ih (s + 1) (by omega)
        rw [hD] at this
        simpa using this
      · simp [hfg, sameTo]
  rw [key n 0 (by omega)]
  cases h : sameTo f g n 0 <;> simp
theorem run_op_eqArr {op : BinOp} {t u : TypeId} {x y : Operand} {k : IntKind} {n : Nat} {f g : Nat → Int} (ho : o.op = .binOp .eql t x y u) (hT : IntsT P t k n) (hx : a.eval x = .agg (arr k n f)) (hy : a.eval y = .agg (arr k n g)) :
    (execOp a.eval o).run P w = .ok (.value (.bool (sameTo f g n 0))) w := by
  obtain ⟨e, h1, h2, h3, h4⟩ := hT
  unfold execOp
  simp only [ho, hx, hy, Sem.run_bind, run_eqGuard_agg w _ t x y _ _ h4, Result.andThen_ok, run_eql_struct, run_equalIn_arr (d := 9998) h1 h2 h3, Sem.run_pure]
theorem run_op_neArr {op : BinOp} {t u : TypeId} {x y : Operand} {k : IntKind} {n : Nat} {f g : Nat → Int} (ho : o.op = .binOp .neq t x y u) (hT : IntsT P t k n) (hx : a.eval x = .agg (arr k n f)) (hy : a.eval y = .agg (arr k n g)) :
    (execOp a.eval o).run P w = .ok (.value (.bool (!sameTo f g n 0))) w := by
  obtain ⟨e, h1, h2, h3, h4⟩ := hT
  unfold execOp
  simp only [ho, hx, hy, Sem.run_bind, run_eqGuard_agg w _ t x y _ _ h4, Result.andThen_ok, run_neq_struct, run_equalIn_arr (d := 9998) h1 h2 h3, Sem.run_pure]
theorem wpList_eqArr {t u : TypeId} {x y : Operand} {k : IntKind} {n : Nat} {f g : Nat → Int} (hgd : o.guard = none) (ho : o.op = .binOp .eql t x y u) (hT : IntsT P t k n) (hx : a.eval x = .agg (arr k n f)) (hy : a.eval y = .agg (arr k n g))
    (h : wpList P ops Q rest (a.put o.dst (.bool (sameTo f g n 0))) w) : wpList P ops Q (o :: rest) a w := wpList_val hgd (run_op_eqArr (op := .eql) ho hT hx hy) h
theorem wpList_neArr {t u : TypeId} {x y : Operand} {k : IntKind} {n : Nat} {f g : Nat → Int} (hgd : o.guard = none) (ho : o.op = .binOp .neq t x y u) (hT : IntsT P t k n) (hx : a.eval x = .agg (arr k n f)) (hy : a.eval y = .agg (arr k n g))
    (h : wpList P ops Q rest (a.put o.dst (.bool (!sameTo f g n 0))) w) : wpList P ops Q (o :: rest) a w := wpList_val hgd (run_op_neArr (op := .neq) ho hT hx hy) h
theorem sameTo_true {f g : Nat → Int} {n : Nat} (h : ∀ i, i < n → f i = g i) : sameTo f g n 0 = true := (sameTo_iff f g n 0).2 (by simpa using h)
theorem sameTo_all {f g : Nat → Int} {n : Nat} (h : sameTo f g n 0 = true) : ∀ i, i < n → f i = g i := by simpa using (sameTo_iff f g n 0).1 h
end
end Go.Proofs.Ytfbfkfdkigpkgaa
