/- A local variable that lies in memory: made, and filled, in one step. -/
import Derived.Test.YtnckddjlpmkkgaaArr
import Derived.Deep.Cut
import Derived.Deep.CutBlock
import Derived.Deep.CutRange
namespace Go.Proofs.Ytnckddjlpmkkgaa
open Go.RowKit
section
variable {P : Program} {ops : Array Oper} {rest : List Oper} {o o' : Oper} {a : Act} {w : World} {Q : Exit → Act → World → Prop}
theorem new_arr_world (w : World) (ty n : Nat) (k : IntKind) (f : Nat → Int) :
    let w' := (w.alloc (.cells (arr k n fun _ => 0) ty)).setRow w.heap.size (arr k n f)
    w'.heap[w.heap.size]? = some (.cells (arr k n f) ty (0, 0)) ∧ Below w.heap.size w w' ∧ w'.heap.size = w.heap.size + 1 :=
  ⟨row_self (heap_alloc_new _ _), row_below ((Below.refl _ _).alloc (Nat.le_refl _) _) (Nat.le_refl _) _, by simp⟩
/-- 'x := v' of an array: the world behind it has the new block. -/
theorem wpList_new_arr {ty n : Nat} {k : IntKind} {f : Nat → Int} {x y : Operand} (h1 : o.guard = none) (h2 : o'.guard = none) (ho : o.op = .alloc ty) (ho' : o'.op = .store ty x y) (hz : ZeroT P ty k n) (hT : RowT P ty n)
    (hx : (a.put o.dst (.pointer (some ⟨w.heap.size, 0, none⟩))).eval x = .pointer (some ⟨w.heap.size, 0, none⟩)) (hy : (a.put o.dst (.pointer (some ⟨w.heap.size, 0, none⟩))).eval y = .agg (arr k n f))
    (h : ∀ w', w'.heap[w.heap.size]? = some (.cells (arr k n f) ty (0, 0)) → Below w.heap.size w w' → w'.heap.size = w.heap.size + 1 → wpList P ops Q rest ((a.put o.dst (.pointer (some ⟨w.heap.size, 0, none⟩))).put o'.dst undef) w') : wpList P ops Q (o :: o' :: rest) a w :=
  wpList_alloc_arr h1 ho hz (wpList_store_arr h2 ho' hx hy hT (heap_alloc_new _ _) (h _ (new_arr_world w ty n k f).1 (new_arr_world w ty n k f).2.1 (new_arr_world w ty n k f).2.2))
/-- What is known of a block goes on, below. -/
theorem keep_below {B b : Nat} {w w' : World} {x : Obj} (h : Below B w w') (hb : b < B) (hg : w.heap[b]? = some x) : w'.heap[b]? = some x := (h.block b hb).trans hg
/-- A part of a block of integers, told as another function. -/
theorem wpList_load_as {ty : TypeId} {x : Operand} {m N t g off : Nat} {k : IntKind} {f : Nat → Int} {fr : Nat × Nat} (f' : Nat → Int) (hgd : o.guard = none) (ho : o.op = .load ty x) (hx : a.eval x = .pointer (some ⟨g, off, none⟩)) (hT : RowT P ty m)
    (hg : w.heap[g]? = some (.cells (arr k N f) t fr)) (hle : off + m ≤ N) (hf : ∀ i, i < m → f (off + i) = f' i) (h : wpList P ops Q rest (a.put o.dst (.agg (arr k m f'))) w) : wpList P ops Q (o :: rest) a w :=
  wpList_load_sub hgd ho hx hT hg hle (by rw [arr_ext hf]; exact h)
end
end Go.Proofs.Ytnckddjlpmkkgaa
