/- x[i] of an array that is a value; no program is in sight. -/
import Derived.Test.YtfbfkfdkigpkgaaNew
import Derived.Great.Walk
namespace Go.Proofs.Ytfbfkfdkigpkgaa
set_option linter.unusedSimpArgs false
set_option linter.unusedVariables false
open Go.RowKit
section
variable {P : Program} {ops : Array Oper} {rest : List Oper} {o : Oper} {a : Act} {w : World} {Q : Exit → Act → World → Prop}
theorem arr_extract (k : IntKind) (N : Nat) (f : Nat → Int) (off n : Nat) (h : off + n ≤ N) : (arr k N f).extract off (off + n) = arr k n fun i => f (off + i) := by
  apply Array.ext_getElem?
  intro j
  by_cases hj : j < n
  · rw [arr_get _ _ _ _ hj, Array.getElem?_extract, if_pos (by rw [arr_size]; omega), arr_get _ _ _ _ (by omega)]
  · rw [Array.getElem?_eq_none (by simp [arr_size]; omega), Array.getElem?_eq_none (by rw [arr_size]; omega)]
theorem run_isAgg_row {e n : Nat} (hT : RowT P e n) : (isAgg e).run P w = .ok true w := by
  obtain ⟨d, hu, hd, _⟩ := hT
  unfold isAgg
  rw [Sem.run_bind, run_underlying hu w]
  cases d <;> simp_all
/-- A row, out of a row of rows. -/
theorem run_op_index_row {t e n N len : Nat} {k : IntKind} {f : Nat → Int} {x y : Operand} {i : Int} (ho : o.op = .index t x y) (ht : P.underlying t = some (.array len e)) (hT : RowT P e n) (hx : a.eval x = .agg (arr k N f)) (hy : a.eval y = .int .i64 i) (h0 : 0 ≤ i) (hi : i < len) (hle : i.toNat * n + n ≤ N) :
    (execOp a.eval o).run P w = .ok (.value (.agg (arr k n fun j => f (i.toNat * n + j)))) w := by
  have hs := hT
  obtain ⟨_, _, _, hs⟩ := hs
  unfold execOp
  simp only [ho, hx, hy]
  unfold Instr.index
  have h1 : 0 ≤ i ∧ i < (len : Int) := ⟨h0, hi⟩
  simp [Sem.run_bind, run_underlying ht, asIntOf, h1, run_sizeOf_of hs, part, run_isAgg_row hT, arr_extract k N f _ n hle]
/-- A cell, out of a row. -/
theorem run_op_index_cell {t e N len : Nat} {k : IntKind} {d : TypeDesc} {f : Nat → Int} {x y : Operand} {i : Int} (ho : o.op = .index t x y) (ht : P.underlying t = some (.array len e)) (he : P.underlying e = some d) (hd : (match d with | .struct _ | .array _ _ => true | _ => false) = false) (hs : (P.info? e).map (·.size) = some 1) (hx : a.eval x = .agg (arr k N f)) (hy : a.eval y = .int .i64 i) (h0 : 0 ≤ i) (hi : i < len) (hle : i.toNat < N) :
    (execOp a.eval o).run P w = .ok (.value (.int k (f i.toNat))) w := by
  have hg : (isAgg e).run P w = .ok false w := by
    unfold isAgg
    rw [Sem.run_bind, run_underlying he w]
    cases d <;> simp_all
  unfold execOp
  simp only [ho, hx, hy]
  unfold Instr.index
  have h1 : 0 ≤ i ∧ i < (len : Int) := ⟨h0, hi⟩
  simp [Sem.run_bind, run_underlying ht, asIntOf, h1, run_sizeOf_of hs, part, hg, arr_get _ _ _ _ hle]
theorem wpList_index_row {t e n N len : Nat} {k : IntKind} {f : Nat → Int} {x y : Operand} {i : Int} (hgd : o.guard = none) (ho : o.op = .index t x y) (ht : P.underlying t = some (.array len e)) (hT : RowT P e n) (hx : a.eval x = .agg (arr k N f)) (hy : a.eval y = .int .i64 i) (h0 : 0 ≤ i) (hi : i < len) (hle : i.toNat * n + n ≤ N)
    (f' : Nat → Int) (hf : ∀ j, j < n → f (i.toNat * n + j) = f' j) (h : wpList P ops Q rest (a.put o.dst (.agg (arr k n f'))) w) : wpList P ops Q (o :: rest) a w :=
  wpList_val hgd (run_op_index_row ho ht hT hx hy h0 hi hle) (by rw [arr_ext hf]; exact h)
theorem wpList_index_cell {t e N len : Nat} {k : IntKind} {d : TypeDesc} {f : Nat → Int} {x y : Operand} {i : Int} (hgd : o.guard = none) (ho : o.op = .index t x y) (ht : P.underlying t = some (.array len e)) (he : P.underlying e = some d) (hd : (match d with | .struct _ | .array _ _ => true | _ => false) = false) (hs : (P.info? e).map (·.size) = some 1) (hx : a.eval x = .agg (arr k N f)) (hy : a.eval y = .int .i64 i) (h0 : 0 ≤ i) (hi : i < len) (hle : i.toNat < N)
    (h : wpList P ops Q rest (a.put o.dst (.int k (f i.toNat))) w) : wpList P ops Q (o :: rest) a w :=
  wpList_val hgd (run_op_index_cell ho ht he hd hs hx hy h0 hi hle) h
theorem run_op_build {ty : TypeId} {parts : Array (Nat × Operand)} {c : Array Value} {l : List (Nat × Value)} (ho : o.op = .build ty parts) (hl : (parts.map fun (i, x) => (i, a.eval x)).toList = l) (hb : P.built ty l = some c) : (execOp a.eval o).run P w = .ok (.value (.agg c)) w := by
  subst hl
  unfold execOp
  simp only [ho, Sem.run_bind, run_build w ty _ c hb, Result.andThen_ok]
  rfl
/-- A slice of given values: a new block. -/
theorem wpList_bslice {t e len : Nat} {parts : Array (Nat × Operand)} {c : Array Value} {l : List (Nat × Value)} (hgd : o.guard = none) (ho : o.op = .buildSlice t len parts) (hu : P.underlying t = some (.slice e)) (hl : (parts.map fun (i, x) => (i, a.eval x)).toList = l) (hb : P.builtSlice e len l = some c)
    (h : wpList P ops Q rest (a.put o.dst (.slice (some ⟨w.heap.size, 0, none⟩) len len)) (w.alloc (.cells c e))) : wpList P ops Q (o :: rest) a w := by
  subst hl
  exact Go.Great.wpList_buildSliceTo hgd t e len parts ho _ rfl _ rfl hu c hb h
end
end Go.Proofs.Ytfbfkfdkigpkgaa
