/- A local variable that lies in memory: made, and filled, in one step. -/
import Derived.Test.YtfbfkfdkigpkgaaArr
import Derived.Deep.Cut
import Derived.Deep.CutBlock
import Derived.Deep.CutRange
namespace Go.Proofs.Ytfbfkfdkigpkgaa
set_option linter.unusedSimpArgs false
set_option linter.unusedVariables false
open Go.RowKit
section
variable {P : Program} {ops : Array Oper} {rest : List Oper} {o o' : Oper} {a : Act} {w : World} {Q : Exit → Act → World → Prop}
theorem new_arr_world (w : World) (ty n : Nat) (k : IntKind) (f : Nat → Int) :
    let w' := (w.alloc (.cells (arr k n fun _ => 0) ty)).setRow w.heap.size (arr k n f)
    w'.heap[w.heap.size]? = some (.cells (arr k n f) ty (0, 0)) ∧ Below w.heap.size w w' ∧ w'.heap.size = w.heap.size + 1 :=
  ⟨row_self (heap_alloc_new _ _), row_below ((Below.refl _ _).alloc (Nat.le_refl _) _) (Nat.le_refl _) _, by simp⟩
/-- 'x := v' of an array: the world behind it has the new block. -/
theorem wpList_new_arr {ty n : Nat} {k : IntKind} {f : Nat → Int} {x y : Operand} (h1 : o.guard = none) (h2 : o'.guard = none) (ho : o.op = .alloc ty) (ho' : o'.op = .store ty x y) (hz : ZeroT P ty k n) (hT : RowT P ty n)
    (hx : (a.put o.dst (.pointer (some ⟨w.heap.size, 0, none⟩))).eval x = .pointer (some ⟨w.heap.size, 0, none⟩)) (hy : (a.put o.dst (.pointer (some ⟨w.heap.size, 0, none⟩))).eval y = .agg (arr k n f))
    (h : ∀ w', w'.heap[w.heap.size]? = some (.cells (arr k n f) ty (0, 0)) → Below w.heap.size w w' → w'.heap.size = w.heap.size + 1 → wpList P ops Q rest ((a.put o.dst (.pointer (some ⟨w.heap.size, 0, none⟩))).put o'.dst undef) w') : wpList P ops Q (o :: o' :: rest) a w :=
  wpList_alloc_arr h1 ho hz (wpList_store_arr h2 ho' hx hy hT (heap_alloc_new _ _) (h _ (new_arr_world w ty n k f).1 (new_arr_world w ty n k f).2.1 (new_arr_world w ty n k f).2.2))
/-- What is known of a block goes on, below. -/
theorem keep_below {B b : Nat} {w w' : World} {x : Obj} (h : Below B w w') (hb : b < B) (hg : w.heap[b]? = some x) : w'.heap[b]? = some x := (h.block b hb).trans hg
/-- A part of a block of integers, told as another function. -/
theorem wpList_load_as {ty : TypeId} {x : Operand} {m N t g off : Nat} {k : IntKind} {f : Nat → Int} {fr : Nat × Nat} (f' : Nat → Int) (hgd : o.guard = none) (ho : o.op = .load ty x) (hx : a.eval x = .pointer (some ⟨g, off, none⟩)) (hT : RowT P ty m)
    (hg : w.heap[g]? = some (.cells (arr k N f) t fr)) (hle : off + m ≤ N) (hf : ∀ i, i < m → f (off + i) = f' i) (h : wpList P ops Q rest (a.put o.dst (.agg (arr k m f'))) w) : wpList P ops Q (o :: rest) a w :=
  wpList_load_sub hgd ho hx hT hg hle (by rw [arr_ext hf]; exact h)
theorem wpList_val' {v : Value} {w' : World} (hgd : o.guard = none) (hr : (execOp a.eval o).run P w = .ok (.value v) w') (h : wpList P ops Q rest (a.put o.dst v) w') : wpList P ops Q (o :: rest) a w :=
  wpList_plain hgd fun _ hK => by unfold Oper.wp; rw [hr]; exact hK _ _ h
/-- copy: from a row of integers into another one. -/
theorem wpList_copy_arr {x y : Operand} {dT sT e : TypeId} {k : IntKind} {N M t t' g s off off' dl dc sl sc m : Nat} {f f' : Nat → Int} {fr : Nat × Nat} (hgd : o.guard = none) (ho : o.op = .call { callee := .builtin .copy, args := #[x, y], argTypes := #[dT, sT] })
    (hx : a.eval x = .slice (some ⟨g, off, none⟩) dl dc) (hy : a.eval y = .slice (some ⟨s, off', none⟩) sl sc) (hu : P.underlying dT = some (.slice e)) (hs : (P.info? e).map (·.size) = some 1)
    (hg : w.heap[g]? = some (.cells (arr k N f) t (0, 0))) (hsrc : w.heap[s]? = some (.cells (arr k M f') t' fr)) (hm : m = Nat.min sl dl) (h1 : off + m ≤ N) (h2 : off' + m ≤ M)
    (h : wpList P ops Q rest (a.put o.dst (.int .i64 m)) (w.setRow g (arr k N (patch f off m fun i => f' (off' + i))))) : wpList P ops Q (o :: rest) a w := by
  refine wpList_val' hgd ?_ h
  have hr := run_copy_row P w dT sT o.type e g off dl dc ⟨s, off', none⟩ sl sc (arr k N f) t (arr k m fun i => f' (off' + i)).toList hu hs hg (by simp [arr_size, hm])
    (fun j v hv => by
      rw [addr_add, cell_of_row w s _ _ t' fr hsrc]
      have hj : j < m := by
        rcases Nat.lt_or_ge j m with h | h
        · exact h
        · rw [List.getElem?_eq_none (by simp [arr_size, h])] at hv; cases hv
      rw [arr_get _ _ _ _ (by omega)]
      have h3 := arr_get k m (fun i => f' (off' + i)) j hj
      rw [← Array.getElem?_toList, hv] at h3
      exact h3.symm)
    (by simp [arr_size]; exact h1) (arrV_one m k _)
  have e1 : ((arr k N f).toList.take off ++ (arr k m fun i => f' (off' + i)).toList ++ (arr k N f).toList.drop (off + (arr k m fun i => f' (off' + i)).toList.length)).toArray = arr k N (patch f off m fun i => f' (off' + i)) := by
    rw [← arr_patch, show (arr k m fun i => f' (off' + i)).toList.length = m from by simp [arr_size]]
    exact arrV_splice N off m _ _ h1
  rw [e1] at hr
  have e2 : (arr k m fun i => f' (off' + i)).toList.length = m := by simp [arr_size]
  rw [e2] at hr
  unfold execOp
  simp only [ho]
  have e3 : (resolve a.eval { callee := .builtin .copy, args := #[x, y], argTypes := #[dT, sT] } o.type) = pure { target := .builtin .copy #[dT, sT] o.type (#[x, y].map fun | .const _ => true | _ => false), args := #[a.eval x, a.eval y] } := by
    simp [resolve]; rfl
  rw [e3, hx, hy]
  simp only [Sem.run_bind, Sem.run_pure, Result.andThen_ok, invoke, builtin, hr]
  rfl
theorem run_sizeOf_of {e sz : Nat} (hs : (P.info? e).map (·.size) = some sz) : (sizeOf e).run P w = .ok sz w := by
  cases hq : P.info? e with
  | none => simp [hq] at hs
  | some i =>
    have : i.size = sz := by simpa [hq] using hs
    simp [sizeOf, typeInfo, hq, this]
/-- x[j:] of an array's place. -/
theorem run_op_slice_lo {t e n sz g off : Nat} {x lo : Operand} {j : Int} (ho : o.op = .slice t x (some lo) none none) (ht : P.underlying t = some (.array n e)) (hs : (P.info? e).map (·.size) = some sz) (hx : a.eval x = .pointer (some ⟨g, off, none⟩)) (hl : a.eval lo = .int .i64 j) (h0 : 0 ≤ j) (hj : j < n) :
    (execOp a.eval o).run P w = .ok (.value (.slice (some ⟨g, off + j.toNat * sz, none⟩) (n - j.toNat) (n - j.toNat))) w := by
  unfold execOp
  simp only [ho, hx, hl, Option.map_some, Option.map_none]
  unfold Instr.sliceAt
  simp only [Sem.run_bind, run_underlying ht, Result.andThen_ok, Instr.sureAddr, Sem.run_pure]
  have hb : (Instr.sliceBounds false n n (some (.int .i64 j)) none none).run P w = .ok (j.toNat, n, n) w := by
    have h1 : 0 ≤ j ∧ j ≤ (n : Int) := ⟨h0, by omega⟩
    simp [Instr.sliceBounds, Instr.sliceBound, asIntOf, h1]
  simp only [hb, Result.andThen_ok, run_sizeOf_of hs, Sem.run_pure]
  rw [if_neg (by omega), addr_add]
/-- x[:] of an array's place. -/
theorem run_op_slice_all {t e n sz g off : Nat} {x : Operand} (ho : o.op = .slice t x none none none) (ht : P.underlying t = some (.array n e)) (hs : (P.info? e).map (·.size) = some sz) (hx : a.eval x = .pointer (some ⟨g, off, none⟩)) :
    (execOp a.eval o).run P w = .ok (.value (.slice (some ⟨g, off, none⟩) n n)) w := by
  unfold execOp
  simp only [ho, hx, Option.map_none]
  unfold Instr.sliceAt
  simp only [Sem.run_bind, run_underlying ht, Result.andThen_ok, Instr.sureAddr, Sem.run_pure]
  have hb : (Instr.sliceBounds false n n none none none).run P w = .ok (0, n, n) w := by simp [Instr.sliceBounds]
  simp only [hb, Result.andThen_ok, run_sizeOf_of hs, Sem.run_pure]
  by_cases h : n = 0
  · rw [if_pos h]; simp
  · rw [if_neg h, addr_add]; simp
end
end Go.Proofs.Ytfbfkfdkigpkgaa
