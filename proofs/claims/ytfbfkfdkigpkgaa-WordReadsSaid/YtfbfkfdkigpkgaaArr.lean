/- Arrays as functions from their indexes, as blocks of memory; no program is in sight. -/
import Derived.WalkKit
import Derived.WalkSpells
import Derived.WalkLawsBesides
import Derived.Deep.QuietTactic
import Derived.BigQuiet
import Derived.StillTailTactics
import Derived.Lib.Hide
import Derived.Deep.LoopGhost
import Derived.Outline
import Derived.Deep.DeepFit
import Derived.Deep.RegionHeld3
import Derived.Deep.RegionLaw
namespace Go.Proofs.Ytfbfkfdkigpkgaa
set_option linter.unusedSimpArgs false
set_option linter.unusedVariables false
open Go.RowKit

def arrV (n : Nat) (g : Nat → Value) : Array Value := ((List.range n).map g).toArray
def arr (k : IntKind) (n : Nat) (f : Nat → Int) : Array Value := arrV n (fun i => .int k (f i))
def upd {α : Type} (f : Nat → α) (i : Nat) (v : α) : Nat → α := fun j => if j = i then v else f j

theorem arrV_size (n : Nat) (g : Nat → Value) : (arrV n g).size = n := by simp [arrV]
theorem arr_size (k : IntKind) (n : Nat) (f : Nat → Int) : (arr k n f).size = n := arrV_size _ _
theorem arrV_get (n : Nat) (g : Nat → Value) (i : Nat) (h : i < n) : (arrV n g)[i]? = some (g i) := by
  simp [arrV, h]
theorem arr_get (k : IntKind) (n : Nat) (f : Nat → Int) (i : Nat) (h : i < n) : (arr k n f)[i]? = some (.int k (f i)) := arrV_get _ _ _ h
theorem arrV_ext {n : Nat} {f g : Nat → Value} (h : ∀ i, i < n → f i = g i) : arrV n f = arrV n g := by
  unfold arrV
  congr 1
  apply List.map_congr_left
  intro i hi
  exact h i (List.mem_range.1 hi)
theorem arr_ext {k : IntKind} {n : Nat} {f g : Nat → Int} (h : ∀ i, i < n → f i = g i) : arr k n f = arr k n g :=
  arrV_ext fun i hi => by rw [h i hi]
theorem arrV_inj {n : Nat} {f g : Nat → Value} (h : arrV n f = arrV n g) : ∀ i, i < n → f i = g i := fun i hi => by
  have h1 := arrV_get n f i hi
  rw [h, arrV_get n g i hi] at h1
  exact (Option.some.inj h1).symm
theorem arr_inj {k : IntKind} {n : Nat} {f g : Nat → Int} (h : arr k n f = arr k n g) : ∀ i, i < n → f i = g i := fun i hi => by
  have := arrV_inj h i hi
  simpa using this
theorem arrV_set (n : Nat) (g : Nat → Value) (i : Nat) (v : Value) : (arrV n g).setIfInBounds i v = arrV n (upd g i v) := by
  apply Array.ext_getElem?
  intro j
  by_cases hj : j < n
  · rw [arrV_get n _ j hj, Array.getElem?_setIfInBounds]
    by_cases hij : i = j
    · subst hij; simp [upd, arrV_size, hj]
    · rw [if_neg hij, arrV_get n _ j hj]; simp [upd, Ne.symm hij]
  · rw [Array.getElem?_eq_none (by simp [arrV_size]; omega), Array.getElem?_eq_none (by simp [arrV_size]; omega)]
theorem arr_set (k : IntKind) (n : Nat) (f : Nat → Int) (i : Nat) (v : Int) : (arr k n f).setIfInBounds i (.int k v) = arr k n (upd f i v) := by
  unfold arr
  rw [arrV_set]
  exact arrV_ext fun j _ => by unfold upd; split <;> rfl

section
variable {w : World} {B n t : Nat} {k : IntKind} {f : Nat → Int} {fr : Nat × Nat}
theorem cell_arr (h : w.heap[B]? = some (.cells (arr k n f) t fr)) (i : Nat) (hi : i < n) : w.cell? ⟨B, i, none⟩ = some (.int k (f i)) := by
  rw [cell_of_row w B i _ t fr h, arr_get _ _ _ _ hi]
theorem free_arr (h : w.heap[B]? = some (.cells (arr k n f) t (0, 0))) (i : Nat) : w.frozen? ⟨B, i, none⟩ = false := frozen_of_row w B i _ t h
theorem set_arr (h : w.heap[B]? = some (.cells (arr k n f) t (0, 0))) (i : Nat) (v : Int) :
    (w.setCell ⟨B, i, none⟩ (.int k v)).heap[B]? = some (.cells (arr k n (upd f i v)) t (0, 0)) := by
  rw [heap_setCell_same w B i _ t _ h, arr_set]
theorem keep_arr {o : Obj} {C : Nat} (h : w.heap[B]? = some o) (i : Nat) (v : Value) (hne : B ≠ C) : (w.setCell ⟨C, i, none⟩ v).heap[B]? = some o := by
  rw [heap_setCell_other _ _ _ _ hne]; exact h
end


/-- The same block, its numbers told otherwise. -/
theorem blk_congr {w : World} {B n t : Nat} {k : IntKind} {f f' : Nat → Int} {fr : Nat × Nat} (hg : w.heap[B]? = some (.cells (arr k n f) t fr)) (h : ∀ i, i < n → f i = f' i) : w.heap[B]? = some (.cells (arr k n f') t fr) := by
  rw [← arr_ext h]; exact hg
/-- A loop's step: what is filled up to k is filled up to k + 1. -/
theorem fill_step {α : Type} (f g : Nat → α) (k i : Nat) : upd (fun i => if i < k then g i else f i) k (g k) i = if i < k + 1 then g i else f i := by
  unfold upd
  by_cases h : i = k
  · simp [h]
  · simp [h, show (i < k + 1) = (i < k) from by apply propext; omega]

/-- Three new blocks, in a world under one name. -/
theorem alloc1 (w : World) (a : Obj) : (w.alloc a).heap[w.heap.size]? = some a ∧ (w.alloc a).heap.size = w.heap.size + 1 ∧ Below w.heap.size w (w.alloc a) :=
  ⟨heap_alloc_new w a, by simp, (Below.refl _ _).alloc (Nat.le_refl _) _⟩
theorem alloc2 (w : World) (a b : Obj) : ((w.alloc a).alloc b).heap[w.heap.size]? = some a ∧ ((w.alloc a).alloc b).heap[w.heap.size + 1]? = some b ∧
    ((w.alloc a).alloc b).heap.size = w.heap.size + 2 ∧ Below w.heap.size w ((w.alloc a).alloc b) :=
  ⟨heap_alloc2_old w a b, heap_alloc2_new w a b, by simp, ((Below.refl _ _).alloc (Nat.le_refl _) _).alloc (by simp) _⟩
theorem alloc3 (w : World) (a b c : Obj) : (((w.alloc a).alloc b).alloc c).heap[w.heap.size]? = some a ∧ (((w.alloc a).alloc b).alloc c).heap[w.heap.size + 1]? = some b ∧
    (((w.alloc a).alloc b).alloc c).heap[w.heap.size + 1 + 1]? = some c ∧ (((w.alloc a).alloc b).alloc c).heap.size = w.heap.size + 3 ∧ Below w.heap.size w (((w.alloc a).alloc b).alloc c) := by
  have hs : ((w.alloc a).alloc b).heap.size = w.heap.size + 1 + 1 := by simp
  refine ⟨?_, ?_, ?_, by simp, (((Below.refl _ _).alloc (Nat.le_refl _) _).alloc (by simp) _).alloc (by simp; omega) _⟩
  · rw [Below.heap_alloc _ _ _ (by omega)]; exact heap_alloc2_old w a b
  · rw [Below.heap_alloc _ _ _ (by omega)]; exact heap_alloc2_new w a b
  · rw [← hs]; exact heap_alloc_new _ c
theorem arr16_zero (k : IntKind) : #[Value.int k 0, Value.int k 0, Value.int k 0, Value.int k 0, Value.int k 0, Value.int k 0, Value.int k 0, Value.int k 0,
      Value.int k 0, Value.int k 0, Value.int k 0, Value.int k 0, Value.int k 0, Value.int k 0, Value.int k 0, Value.int k 0] = arr k 16 (fun _ => 0) := rfl


/-- A type whose values are rows of n cells. -/
def RowT (P : Program) (ty : TypeId) (n : Nat) : Prop := ∃ d, P.underlying ty = some d ∧ (match d with | .struct _ | .array _ _ => true | _ => false) = true ∧ (P.info? ty).map (·.size) = some n

section
variable {P : Program} {ops : Array Oper} {rest : List Oper} {o : Oper} {a : Act} {w : World} {Q : Exit → Act → World → Prop}

theorem addr_add (g o j : Nat) : (⟨g, o, none⟩ : Addr).add j = ⟨g, o + j, none⟩ := by
  unfold Addr.add; split <;> simp_all

theorem run_loadVar_arrV {ty n N t g off : Nat} {f : Nat → Value} {fr : Nat × Nat} (hT : RowT P ty n) (hg : w.heap[g]? = some (.cells (arrV N f) t fr)) (hle : off + n ≤ N) :
    (loadVar ty ⟨g, off, none⟩).run P w = .ok (.agg (arrV n fun i => f (off + i))) w := by
  obtain ⟨d, hu, hd, hi⟩ := hT
  have hl : (loadCells ⟨g, off, none⟩ n).run P w = .ok (arrV n fun i => f (off + i)) w :=
    run_loadCells w ⟨g, off, none⟩ n _ (fun j hj => by rw [addr_add, cell_of_row w g _ _ t fr hg, arrV_get _ _ _ (by omega)])
  cases hq : P.info? ty with
  | none => simp [hq] at hi
  | some i =>
    have hs : i.size = n := by simpa [hq] using hi
    have hagg : (isAgg ty).run P w = .ok true w := by
      unfold isAgg
      rw [Sem.run_bind, run_underlying hu w]
      cases d <;> simp_all
    simp [loadVar, Sem.run_bind, hagg, sizeOf, typeInfo, hq, hs, hl]

theorem run_loadVar_arr0 {ty n t g : Nat} {k : IntKind} {f : Nat → Int} {fr : Nat × Nat} (hT : RowT P ty n) (hg : w.heap[g]? = some (.cells (arr k n f) t fr)) :
    (loadVar ty ⟨g, 0, none⟩).run P w = .ok (.agg (arr k n f)) w := by
  have := run_loadVar_arrV hT hg (show 0 + n ≤ n by omega)
  simp only [Nat.zero_add] at this
  exact this

theorem run_op_load {ty : TypeId} {x : Operand} (ho : o.op = .load ty x) {g off : Nat} (hx : a.eval x = .pointer (some ⟨g, off, none⟩)) {v : Value}
    (hl : (loadVar ty ⟨g, off, none⟩).run P w = .ok v w) : (execOp a.eval o).run P w = .ok (.value v) w := by
  unfold execOp
  simp only [ho, hx, Instr.loadAt, Instr.sureAddr, Sem.run_bind, Sem.run_pure, Result.andThen_ok, hl]

theorem wpList_val {v : Value} (hgd : o.guard = none) (hr : (execOp a.eval o).run P w = .ok (.value v) w) (h : wpList P ops Q rest (a.put o.dst v) w) : wpList P ops Q (o :: rest) a w :=
  wpList_plain hgd fun _ hK => by unfold Oper.wp; rw [hr]; exact hK _ _ h

theorem wpStill_val {v : Value} {Q : Act → Prop} (hgd : o.guard = none) (hr : (execOp a.eval o).run P w = .ok (.value v) w) (h : wpStill P ops w Q rest (a.put o.dst v)) : wpStill P ops w Q (o :: rest) a := by
  refine wpStill_step fun K hK => ?_
  simp only [Region.wanted, hgd, if_true]
  unfold Oper.still
  rw [hr, Oper.stillUpon_value]
  exact hK _ h

theorem wpQuiet_val {v : Value} {C : World → Prop} {Q : Act → Prop} (hgd : o.guard = none) (hr : ∀ w', C w' → (execOp a.eval o).run P w' = .ok (.value v) w') (h : wpQuiet P ops C Q rest (a.put o.dst v)) :
    wpQuiet P ops C Q (o :: rest) a := by
  refine wpQuiet_step fun K hK => ?_
  simp only [Region.wanted, hgd, if_true]
  refine ⟨v, fun w' hw' => ?_, hK _ h⟩
  unfold Oper.quietAt
  rw [hr w' hw']
  exact ⟨rfl, rfl⟩

/-- A whole row out of a block of integers. -/
theorem wpList_load_arr {ty : TypeId} {x : Operand} {n t g : Nat} {k : IntKind} {f : Nat → Int} {fr : Nat × Nat} (hgd : o.guard = none) (ho : o.op = .load ty x) (hx : a.eval x = .pointer (some ⟨g, 0, none⟩)) (hT : RowT P ty n)
    (hg : w.heap[g]? = some (.cells (arr k n f) t fr)) (h : wpList P ops Q rest (a.put o.dst (.agg (arr k n f))) w) : wpList P ops Q (o :: rest) a w :=
  wpList_val hgd (run_op_load ho hx (run_loadVar_arr0 hT hg)) h
/-- A part of a block of integers. -/
theorem wpList_load_sub {ty : TypeId} {x : Operand} {n N t g off : Nat} {k : IntKind} {f : Nat → Int} {fr : Nat × Nat} (hgd : o.guard = none) (ho : o.op = .load ty x) (hx : a.eval x = .pointer (some ⟨g, off, none⟩)) (hT : RowT P ty n)
    (hg : w.heap[g]? = some (.cells (arr k N f) t fr)) (hle : off + n ≤ N) (h : wpList P ops Q rest (a.put o.dst (.agg (arr k n fun i => f (off + i)))) w) : wpList P ops Q (o :: rest) a w :=
  wpList_val hgd (run_op_load ho hx (run_loadVar_arrV hT hg hle)) h
theorem wpStill_load_arr {ty : TypeId} {x : Operand} {n t g : Nat} {k : IntKind} {f : Nat → Int} {fr : Nat × Nat} {Q : Act → Prop} (hgd : o.guard = none) (ho : o.op = .load ty x) (hx : a.eval x = .pointer (some ⟨g, 0, none⟩)) (hT : RowT P ty n)
    (hg : w.heap[g]? = some (.cells (arr k n f) t fr)) (h : wpStill P ops w Q rest (a.put o.dst (.agg (arr k n f)))) : wpStill P ops w Q (o :: rest) a :=
  wpStill_val hgd (run_op_load ho hx (run_loadVar_arr0 hT hg)) h
theorem wpStill_load_sub {ty : TypeId} {x : Operand} {n N t g off : Nat} {k : IntKind} {f : Nat → Int} {fr : Nat × Nat} {Q : Act → Prop} (hgd : o.guard = none) (ho : o.op = .load ty x) (hx : a.eval x = .pointer (some ⟨g, off, none⟩)) (hT : RowT P ty n)
    (hg : w.heap[g]? = some (.cells (arr k N f) t fr)) (hle : off + n ≤ N) (h : wpStill P ops w Q rest (a.put o.dst (.agg (arr k n fun i => f (off + i))))) : wpStill P ops w Q (o :: rest) a :=
  wpStill_val hgd (run_op_load ho hx (run_loadVar_arrV hT hg hle)) h
theorem wpQuiet_load_arr {ty : TypeId} {x : Operand} {n t g : Nat} {k : IntKind} {f : Nat → Int} {fr : Nat × Nat} {Q : Act → Prop} (hgd : o.guard = none) (ho : o.op = .load ty x) (hx : a.eval x = .pointer (some ⟨g, 0, none⟩)) (hT : RowT P ty n)
    (hg : w.heap[g]? = some (.cells (arr k n f) t fr)) (h : wpQuiet P ops (fun w' => ∃ m, w' = w.drewN m) Q rest (a.put o.dst (.agg (arr k n f)))) : wpQuiet P ops (fun w' => ∃ m, w' = w.drewN m) Q (o :: rest) a :=
  wpQuiet_val hgd (fun w' ⟨m, hm⟩ => by
    subst hm
    exact run_op_load ho hx (run_loadVar_arr0 (w := w.drewN m) hT hg)) h
theorem wpQuiet_load_sub {ty : TypeId} {x : Operand} {n N t g off : Nat} {k : IntKind} {f : Nat → Int} {fr : Nat × Nat} {Q : Act → Prop} (hgd : o.guard = none) (ho : o.op = .load ty x) (hx : a.eval x = .pointer (some ⟨g, off, none⟩)) (hT : RowT P ty n)
    (hg : w.heap[g]? = some (.cells (arr k N f) t fr)) (hle : off + n ≤ N) (h : wpQuiet P ops (fun w' => ∃ m, w' = w.drewN m) Q rest (a.put o.dst (.agg (arr k n fun i => f (off + i))))) : wpQuiet P ops (fun w' => ∃ m, w' = w.drewN m) Q (o :: rest) a :=
  wpQuiet_val hgd (fun w' ⟨m, hm⟩ => by subst hm; exact run_op_load ho hx (run_loadVar_arrV (w := w.drewN m) hT hg hle)) h

/-- f, but from off on, n places long, g. -/
def patch {α : Type} (f : Nat → α) (off n : Nat) (g : Nat → α) : Nat → α := fun j => if off ≤ j ∧ j < off + n then g (j - off) else f j

theorem arrV_splice (N off n : Nat) (f g : Nat → Value) (hle : off + n ≤ N) :
    ((arrV N f).toList.take off ++ (arrV n g).toList ++ (arrV N f).toList.drop (off + n)).toArray = arrV N (patch f off n g) := by
  apply Array.ext_getElem?
  intro j
  simp only [arrV, List.getElem?_toArray, List.toList_toArray]
  simp only [List.getElem?_append, List.length_take, List.length_append, List.length_map, List.length_range, List.getElem?_take, List.getElem?_drop, List.getElem?_map]
  unfold patch
  rw [Nat.min_eq_left (by omega)]
  by_cases h1 : j < off
  · simp [h1, show j < off + n by omega, show ¬ off ≤ j by omega, show j < N by omega]
  · by_cases h2 : j < off + n
    · simp [h1, h2, show off ≤ j by omega, show j - off < n by omega, show j < N by omega]
    · by_cases h3 : j < N
      · simp [h1, h2, h3, show off + n + (j - (off + n)) = j by omega]
      · simp [h2, h3, show off + n + (j - (off + n)) = j by omega]

theorem arrV_one (n : Nat) (k : IntKind) (f : Nat → Int) : ∀ v ∈ (arr k n f).toList, v.oneCell' = true := by
  intro v hv
  simp only [arr, arrV, List.toList_toArray, List.mem_map] at hv
  obtain ⟨i, _, rfl⟩ := hv
  rfl

theorem arr_patch (k : IntKind) (N off n : Nat) (f g : Nat → Int) : arrV N (patch (fun i => Value.int k (f i)) off n (fun i => Value.int k (g i))) = arr k N (patch f off n g) :=
  arrV_ext fun j _ => by unfold patch; split <;> rfl

theorem run_storeVar_arr {ty n N t g off : Nat} {k : IntKind} {f f' : Nat → Int} (hT : RowT P ty n) (hg : w.heap[g]? = some (.cells (arr k N f) t (0, 0))) (hle : off + n ≤ N) :
    (storeVar ty ⟨g, off, none⟩ (.agg (arr k n f'))).run P w = .ok () (w.setRow g (arr k N (patch f off n f'))) := by
  obtain ⟨d, hu, hd, hi⟩ := hT
  have h1 := run_storeCells_at P g off t (arr k n f').toList 0 (arr k N f) w hg (by simp [arr_size]; omega) (arrV_one n k f')
  cases hq : P.info? ty with
  | none => simp [hq] at hi
  | some i =>
    have hs : i.size = n := by simpa [hq] using hi
    have hsz : ((arr k n f').toList).length = n := by simp [arr_size]
    rw [hsz, Nat.add_zero] at h1
    have e : ((arr k N f).toList.take off ++ (arr k n f').toList ++ (arr k N f).toList.drop (off + n)).toArray = arr k N (patch f off n f') := by
      rw [← arr_patch]; exact arrV_splice N off n _ _ hle
    rw [e] at h1
    have h2 : (storeCells ⟨g, off, none⟩ (arr k n f').toList).run P w = .ok () (w.setRow g (arr k N (patch f off n f'))) := h1
    simp [storeVar, sizeOf, typeInfo, hq, Value.cells, hs, arr_size, h2]

theorem run_op_store {ty : TypeId} {x y : Operand} (ho : o.op = .store ty x y) {g off : Nat} (hx : a.eval x = .pointer (some ⟨g, off, none⟩)) {v : Value} (hy : a.eval y = v) {w' : World}
    (hl : (storeVar ty ⟨g, off, none⟩ v).run P w = .ok () w') : (execOp a.eval o).run P w = .ok .skip w' := by
  unfold execOp
  simp only [ho, hx, hy, Instr.storeAt, Instr.sureAddr, Sem.run_bind, Sem.run_pure, Result.andThen_ok, hl]

theorem wpList_skip {w' : World} (hgd : o.guard = none) (hr : (execOp a.eval o).run P w = .ok .skip w') (h : wpList P ops Q rest (a.put o.dst undef) w') : wpList P ops Q (o :: rest) a w :=
  wpList_plain hgd fun _ hK => by unfold Oper.wp; rw [hr]; exact hK _ _ h

/-- A row into a part of a block of integers. -/
theorem wpList_store_sub {ty : TypeId} {x y : Operand} {n N t g off : Nat} {k : IntKind} {f f' : Nat → Int} (hgd : o.guard = none) (ho : o.op = .store ty x y) (hx : a.eval x = .pointer (some ⟨g, off, none⟩)) (hy : a.eval y = .agg (arr k n f'))
    (hT : RowT P ty n) (hg : w.heap[g]? = some (.cells (arr k N f) t (0, 0))) (hle : off + n ≤ N) (h : wpList P ops Q rest (a.put o.dst undef) (w.setRow g (arr k N (patch f off n f')))) : wpList P ops Q (o :: rest) a w :=
  wpList_skip hgd (run_op_store ho hx hy (run_storeVar_arr hT hg hle)) h
theorem patch_whole {α : Type} (f g : Nat → α) (n j : Nat) (h : j < n) : patch f 0 n g j = g j := by unfold patch; simp [h]
/-- A row into a whole block of integers. -/
theorem wpList_store_arr {ty : TypeId} {x y : Operand} {n t g : Nat} {k : IntKind} {f f' : Nat → Int} (hgd : o.guard = none) (ho : o.op = .store ty x y) (hx : a.eval x = .pointer (some ⟨g, 0, none⟩)) (hy : a.eval y = .agg (arr k n f'))
    (hT : RowT P ty n) (hg : w.heap[g]? = some (.cells (arr k n f) t (0, 0))) (h : wpList P ops Q rest (a.put o.dst undef) (w.setRow g (arr k n f'))) : wpList P ops Q (o :: rest) a w :=
  wpList_store_sub hgd ho hx hy hT hg (by omega) (by rw [show arr k n (patch f 0 n f') = arr k n f' from arr_ext fun i hi => patch_whole _ _ _ _ hi]; exact h)
theorem row_self {c c' : Array Value} {g t : Nat} {fr : Nat × Nat} (hg : w.heap[g]? = some (.cells c t fr)) : (w.setRow g c').heap[g]? = some (.cells c' t fr) := setRow_heap w g c c' t fr hg
theorem row_keep {c' : Array Value} {g b : Nat} {x : Obj} (hg : w.heap[b]? = some x) (hne : b ≠ g) : (w.setRow g c').heap[b]? = some x := by rw [setRow_other _ _ _ _ hne]; exact hg
theorem row_below {B g : Nat} {w0 w : World} (hb : Below B w0 w) (hBg : B ≤ g) (cs : Array Value) : Below B w0 (w.setRow g cs) :=
  hb.trans ⟨rfl, rfl, rfl, by simp [World.setRow], fun k hk => setRow_other w g k cs (by omega)⟩

/-- A type's zero value is so many zeros. -/
def ZeroT (P : Program) (ty : TypeId) (k : IntKind) (n : Nat) : Prop := (P.info? ty).map (·.zero) = some (some (.agg (arr k n fun _ => 0)))

theorem run_op_alloc {ty n : Nat} {k : IntKind} (ho : o.op = .alloc ty) (hz : ZeroT P ty k n) :
    (execOp a.eval o).run P w = .ok (.value (.pointer (some ⟨w.heap.size, 0, none⟩))) (w.alloc (.cells (arr k n fun _ => 0) ty)) := by
  unfold ZeroT at hz
  cases hq : P.info? ty with
  | none => simp [hq] at hz
  | some i =>
    have hs : i.zero = some (.agg (arr k n fun _ => 0)) := by simpa [hq] using hz
    unfold execOp
    simp [ho, Instr.alloc, zeroValue, typeInfo, hq, hs, newVar, newRow, newObj, Value.cells, Sem.run_bind]
    rfl
/-- A new block of zeros. -/
theorem wpList_alloc_arr {ty n : Nat} {k : IntKind} (hgd : o.guard = none) (ho : o.op = .alloc ty) (hz : ZeroT P ty k n)
    (h : wpList P ops Q rest (a.put o.dst (.pointer (some ⟨w.heap.size, 0, none⟩))) (w.alloc (.cells (arr k n fun _ => 0) ty))) : wpList P ops Q (o :: rest) a w :=
  wpList_plain hgd fun _ hK => by unfold Oper.wp; rw [run_op_alloc ho hz]; exact hK _ _ h

theorem wpList_built {ty : TypeId} {parts : Array (Nat × Operand)} {c : Array Value} {l : List (Nat × Value)} (hgd : o.guard = none) (ho : o.op = .build ty parts) (hl : (parts.map fun (i, x) => (i, a.eval x)).toList = l) (hb : P.built ty l = some c)
    (h : wpList P ops Q rest (a.put o.dst (.agg c)) w) : wpList P ops Q (o :: rest) a w := by
  subst hl
  exact wpList_build hgd ty parts ho (by rw [hb]; rfl) (by rw [hb]; exact h)

/-- A row that is handed back. -/
theorem results_arr {fn : Func} {p : Tmp} {ty : TypeId} {n t g : Nat} {k : IntKind} {f : Nat → Int} {fr : Nat × Nat} (h : fn.results = #[.cell p ty]) {tmps : Array Value} (hp : tmps.getD p undef = .pointer (some ⟨g, 0, none⟩))
    (hT : RowT P ty n) (hg : w.heap[g]? = some (.cells (arr k n f) t fr)) : (results fn tmps).run P w = .ok (.agg (arr k n f)) w := by
  have hp' : tmps[p]?.getD undef = .pointer (some ⟨g, 0, none⟩) := by simpa using hp
  simp [results, h, hp', asAddr, run_loadVar_arr0 hT hg]
/-- The walk goes on from any world of which this is known. -/
theorem wp_cut {c : Code} (S : World → Prop) (hS : S w) (h : ∀ w', S w' → c.wp P Q a w') : c.wp P Q a w := h w hS
theorem wpList_cut {l : List Oper} (S : World → Prop) (hS : S w) (h : ∀ w', S w' → wpList P ops Q l a w') : wpList P ops Q l a w := h w hS
/-- 'wp_region_still_tail', the world behind the draw under its own name. -/
theorem wp_region_tail {id : Nat} {l : List Oper} (n : Nat) (hm : P.follows .mixedOrders = true) (hB : Region.lexTailB .any l.toArray n = true)
    (h : wpStill P l.toArray w.drew (fun a' => wpList P l.toArray Q (l.drop n) a' w.drew) (l.take n) a) : (Code.region id l.toArray true).wp P Q a w := wp_region_still_tail n hm hB h
end

end Go.Proofs.Ytfbfkfdkigpkgaa
