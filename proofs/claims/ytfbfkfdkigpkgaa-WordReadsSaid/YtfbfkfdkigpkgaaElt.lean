/- Slices of elements of any kind; local variables of any kind. No program is in sight. -/
import Derived.Test.YtfbfkfdkigpkgaaNew
import Derived.Test.YtfbfkfdkigpkgaaRow
import Derived.DataElems
namespace Go.Proofs.Ytfbfkfdkigpkgaa
set_option linter.unusedSimpArgs false
set_option linter.unusedVariables false
open Go.RowKit

theorem Own.lt' {w : World} {base : Nat} {e : TypeId} {v : Value} {l : List Nat} (h : Own w base e v l) : ∀ k, v.ownBlock = some k → k < w.heap.size := fun k hk => (h.lt k hk).2
theorem addr_add_zero (a : Addr) : a.add 0 = a := by
  obtain ⟨b, o, f⟩ := a
  unfold Addr.add
  split <;> simp_all
/-- A slice of n elements of sz cells each, below block B: cell j of element i is f i j. -/
structure Els (w : World) (B : Nat) (A : Option Addr) (n sz : Nat) (f : Nat → Nat → Value) : Prop where
  at_ : 0 < n → ∃ ad, A = some ad ∧ ad.block < B ∧ ∀ i j, i < n → j < sz → w.cell? (ad.add (i * sz + j)) = some (f i j)
section
variable {w w' : World} {B B' n sz : Nat} {A : Option Addr} {f : Nat → Nat → Value}
theorem Els.keep (h : Els w B A n sz f) (hk : ∀ p : Addr, p.block < B → w'.cell? p = w.cell? p) : Els w' B A n sz f :=
  ⟨fun hn => by
    obtain ⟨ad, e, hb, hc⟩ := h.at_ hn
    exact ⟨ad, e, hb, fun i j hi hj => (hk _ (by rw [add_block]; exact hb)).trans (hc i j hi hj)⟩⟩
theorem Els.below (h : Els w B A n sz f) (hb : Below B w w') : Els w' B A n sz f := h.keep fun _ hp => hb.cell hp
theorem Els.below' (h : Els w B A n sz f) (hb : Below B' w w') (hB : B ≤ B') : Els w' B A n sz f := h.keep fun _ hp => hb.cell (Nat.lt_of_lt_of_le hp hB)
theorem Els.cell (h : Els w B A n sz f) {i : Nat} (hi : i < n) : ∃ ad, A = some ad ∧ ad.block < B ∧ ∀ j, j < sz → w.cell? ((ad.add (i * sz)).add j) = some (f i j) := by
  obtain ⟨ad, e, hb, hc⟩ := h.at_ (by omega)
  exact ⟨ad, e, hb, fun j hj => by rw [Addr.add_add]; exact hc i j hi hj⟩
end

section
variable {P : Program} {ops : Array Oper} {rest : List Oper} {o o' : Oper} {a : Act} {w : World} {Q : Exit → Act → World → Prop}
theorem wpList_valg {v : Value} (hgd : Region.wanted o (yielded ops a.tmps) = true) (hr : (execOp a.eval o).run P w = .ok (.value v) w) (h : wpList P ops Q rest (a.put o.dst v) w) : wpList P ops Q (o :: rest) a w := by
  refine wpList_step fun K hK => ?_
  rw [if_pos hgd]
  unfold Oper.wp
  rw [hr]
  exact hK _ _ h
end
section
variable {P : Program} {w : World} {o : Oper} {a : Act}
/-- Bytes are added to a row of the call's own: one step of an order. -/
theorem oper_append_txt {Q : Exit → Act → World → Prop} {K : Act → World → Prop} {t e : TypeId} {s x : Operand} (ho : o.op = .call { callee := .builtin .append, args := #[s, x], argTypes := #[t, t] })
    (hT : ByteT P t e) {base B : Nat} {v : Value} {l m : List Nat} {A : Option Addr} {n c : Nat} (hs : a.eval s = v) (hx : a.eval x = .slice A n c) (hown : Own w base e v l) (hr : Txt w B A n c m) (hlen : l.length + n ≤ 140737488355328) (hbase : base ≤ w.heap.size)
    (h : ∀ v' w', Own w' base e v' (l ++ m) → w.grownBy w' v.ownBlock → (v'.ownBlock = v.ownBlock ∨ v'.ownBlock = some w.heap.size) → K (a.put o.dst v') w') : o.wp P a w K Q := by
  obtain ⟨v', w', hrun, h2, h3, h4⟩ := run_append_txt (P := P) (ty := o.type) hT hown hr hlen hbase
  unfold Oper.wp execOp
  simp only [ho, resolve, invoke, builtin, Sem.run_bind, Sem.run_pure, Result.andThen_ok, List.map_toArray, List.map_cons, List.map_nil, hs, hx, hrun]
  exact h v' w' h2 h3 h4
end
/-- .. where the operation is guarded. -/
theorem wpList_append_g {ops : Array Oper} {rest : List Oper} {o : Oper} {a : Act} {w : World} {P : Program} {Q : Exit → Act → World → Prop} {t e : TypeId} {s x : Operand} (hgd : Region.wanted o (yielded ops a.tmps) = true) (ho : o.op = .call { callee := .builtin .append, args := #[s, x], argTypes := #[t, t] })
    (hT : ByteT P t e) {base B : Nat} {v : Value} {l m : List Nat} {A : Option Addr} {n c : Nat} (hs : a.eval s = v) (hx : a.eval x = .slice A n c) (hown : Own w base e v l) (hr : Txt w B A n c m) (hlen : l.length + n ≤ 140737488355328) (hbase : base ≤ w.heap.size)
    (h : ∀ v' w', Own w' base e v' (l ++ m) → w.grownBy w' v.ownBlock → (v'.ownBlock = v.ownBlock ∨ v'.ownBlock = some w.heap.size) → wpList P ops Q rest (a.put o.dst v') w') : wpList P ops Q (o :: rest) a w := by
  refine wpList_step fun K hK => ?_
  rw [if_pos hgd]
  exact oper_append_txt ho hT hs hx hown hr hlen hbase fun v' w' h1 h2 h3 => hK _ _ (h v' w' h1 h2 h3)
section
variable {P : Program} {ops : Array Oper} {rest : List Oper} {o o' : Oper} {a : Act} {w : World} {Q : Exit → Act → World → Prop}
/-- x[i]'s place. -/
theorem run_op_el {t e sz n c : Nat} {x y : Operand} {ad : Addr} {i : Nat} (ho : o.op = .indexAddr t x y) (ht : P.underlying t = some (.slice e)) (hs : (P.info? e).map (·.size) = some sz) (hx : a.eval x = .slice (some ad) n c) (hy : a.eval y = .int .i64 i) (hi : i < n) :
    (execOp a.eval o).run P w = .ok (.value (.pointer (some (ad.add (i * sz))))) w := by
  unfold execOp
  simp only [ho, hx, hy]
  unfold Instr.indexAt
  have h1 : 0 ≤ (i : Int) ∧ (i : Int) < (n : Int) := by omega
  simp [Sem.run_bind, run_underlying ht, asIntOf, h1, hi, run_sizeOf_of hs]
theorem wpList_el {t e sz n c : Nat} {x y : Operand} {ad : Addr} {i : Nat} (hgd : o.guard = none) (ho : o.op = .indexAddr t x y) (ht : P.underlying t = some (.slice e)) (hs : (P.info? e).map (·.size) = some sz) (hx : a.eval x = .slice (some ad) n c) (hy : a.eval y = .int .i64 i) (hi : i < n)
    (h : wpList P ops Q rest (a.put o.dst (.pointer (some (ad.add (i * sz))))) w) : wpList P ops Q (o :: rest) a w := wpList_val hgd (run_op_el ho ht hs hx hy hi) h
theorem wpList_elA {t e sz n c : Nat} {x y : Operand} {A : Option Addr} {ad : Addr} {i : Nat} (hA : A = some ad) (hgd : o.guard = none) (ho : o.op = .indexAddr t x y) (ht : P.underlying t = some (.slice e)) (hs : (P.info? e).map (·.size) = some sz) (hx : a.eval x = .slice A n c) (hy : a.eval y = .int .i64 i) (hi : i < n)
    (h : wpList P ops Q rest (a.put o.dst (.pointer (some (ad.add (i * sz))))) w) : wpList P ops Q (o :: rest) a w := wpList_el hgd ho ht hs (hx.trans (by rw [hA])) hy hi h
/-- A load of an element that is a struct or an array. -/
theorem run_op_load_at {ty n : Nat} {x : Operand} {ad : Addr} {f : Nat → Value} (ho : o.op = .load ty x) (hT : RowT P ty n) (hx : a.eval x = .pointer (some ad)) (hc : ∀ j, j < n → w.cell? (ad.add j) = some (f j)) :
    (execOp a.eval o).run P w = .ok (.value (.agg (arrV n f))) w := by
  obtain ⟨d, hu, hd, hi⟩ := hT
  have hl : (loadCells ad n).run P w = .ok (arrV n f) w := run_loadCells w ad n _ hc
  cases hq : P.info? ty with
  | none => simp [hq] at hi
  | some i =>
    have hs : i.size = n := by simpa [hq] using hi
    have hagg : (isAgg ty).run P w = .ok true w := by
      unfold isAgg
      rw [Sem.run_bind, run_underlying hu w]
      cases d <;> simp_all
    unfold execOp
    simp only [ho, hx]
    simp [Instr.loadAt, Instr.sureAddr, loadVar, Sem.run_bind, hagg, sizeOf, typeInfo, hq, hs, hl]
theorem wpList_load_at {ty n : Nat} {x : Operand} {ad : Addr} {f : Nat → Value} (hgd : o.guard = none) (ho : o.op = .load ty x) (hT : RowT P ty n) (hx : a.eval x = .pointer (some ad)) (hc : ∀ j, j < n → w.cell? (ad.add j) = some (f j))
    (h : wpList P ops Q rest (a.put o.dst (.agg (arrV n f))) w) : wpList P ops Q (o :: rest) a w := wpList_val hgd (run_op_load_at ho hT hx hc) h
/-- A load of one cell. -/
theorem run_op_load1 {ty : Nat} {d : TypeDesc} {x : Operand} {ad : Addr} {v : Value} (ho : o.op = .load ty x) (hu : P.underlying ty = some d) (hd : (match d with | .struct _ | .array _ _ => true | _ => false) = false) (hx : a.eval x = .pointer (some ad)) (hc : w.cell? ad = some v) :
    (execOp a.eval o).run P w = .ok (.value v) w := by
  have hagg : (isAgg ty).run P w = .ok false w := by
    unfold isAgg
    rw [Sem.run_bind, run_underlying hu w]
    cases d <;> simp_all
  unfold execOp
  simp only [ho, hx]
  simp [Instr.loadAt, Instr.sureAddr, loadVar, Sem.run_bind, hagg, hc]
theorem wpList_load1 {ty : Nat} {d : TypeDesc} {x : Operand} {ad : Addr} {v : Value} (hgd : o.guard = none) (ho : o.op = .load ty x) (hu : P.underlying ty = some d) (hd : (match d with | .struct _ | .array _ _ => true | _ => false) = false) (hx : a.eval x = .pointer (some ad)) (hc : w.cell? ad = some v)
    (h : wpList P ops Q rest (a.put o.dst v) w) : wpList P ops Q (o :: rest) a w := wpList_val hgd (run_op_load1 ho hu hd hx hc) h
/-- A load of a part of a block. -/
theorem wpList_load_part {ty n N t g off : Nat} {x : Operand} {f : Nat → Value} {fr : Nat × Nat} {k : IntKind} (f' : Nat → Int) (hgd : o.guard = none) (ho : o.op = .load ty x) (hT : RowT P ty n) (hx : a.eval x = .pointer (some ⟨g, off, none⟩)) (hg : w.heap[g]? = some (.cells (arrV N f) t fr)) (hle : off + n ≤ N)
    (hf : ∀ i, i < n → f (off + i) = .int k (f' i)) (h : wpList P ops Q rest (a.put o.dst (.agg (arr k n f'))) w) : wpList P ops Q (o :: rest) a w :=
  wpList_val hgd (by rw [run_op_load ho hx (run_loadVar_arrV hT hg hle)]) (by rw [show (arrV n fun i => f (off + i)) = arr k n f' from arrV_ext fun i hi => hf i hi]; exact h)
theorem run_op_load_part {ty n N t g off : Nat} {x : Operand} {f : Nat → Value} {fr : Nat × Nat} {k : IntKind} (f' : Nat → Int) (ho : o.op = .load ty x) (hT : RowT P ty n) (hx : a.eval x = .pointer (some ⟨g, off, none⟩)) (hg : w.heap[g]? = some (.cells (arrV N f) t fr)) (hle : off + n ≤ N)
    (hf : ∀ i, i < n → f (off + i) = .int k (f' i)) : (execOp a.eval o).run P w = .ok (.value (.agg (arr k n f'))) w := by
  rw [run_op_load ho hx (run_loadVar_arrV hT hg hle), show (arrV n fun i => f (off + i)) = arr k n f' from arrV_ext fun i hi => hf i hi]
/-- A load of a whole block. -/
theorem wpList_load_all {ty n t g : Nat} {x : Operand} {f : Nat → Value} {fr : Nat × Nat} (hgd : o.guard = none) (ho : o.op = .load ty x) (hT : RowT P ty n) (hx : a.eval x = .pointer (some ⟨g, 0, none⟩)) (hg : w.heap[g]? = some (.cells (arrV n f) t fr))
    (h : wpList P ops Q rest (a.put o.dst (.agg (arrV n f))) w) : wpList P ops Q (o :: rest) a w :=
  wpList_val hgd (by
    have := run_loadVar_arrV hT hg (show 0 + n ≤ n by omega)
    simp only [Nat.zero_add] at this
    rw [run_op_load ho hx this]) h
/-- A type's zero value is of so many cells. -/
def ZeroV (P : Program) (ty n : Nat) (z : Array Value) : Prop := (P.info? ty).map (·.zero) = some (some (.agg z)) ∧ z.size = n
theorem run_storeVar_new {ty n t g : Nat} {z : Array Value} {f : Nat → Value} (hT : RowT P ty n) (hz : z.size = n) (hg : w.heap[g]? = some (.cells z t (0, 0))) (h1 : ∀ i, i < n → (f i).oneCell' = true) :
    (storeVar ty ⟨g, 0, none⟩ (.agg (arrV n f))).run P w = .ok () (w.setRow g (arrV n f)) := by
  obtain ⟨d, hu, hd, hi⟩ := hT
  have hlen : (arrV n f).toList.length = n := by simp [arrV_size]
  have h2 := run_storeCells_at P g 0 t (arrV n f).toList 0 z w hg (by simp [arrV_size, hz]) (fun v hv => by
    simp only [arrV, List.toList_toArray, List.mem_map] at hv
    obtain ⟨i, hi, rfl⟩ := hv
    exact h1 i (List.mem_range.1 hi))
  rw [hlen] at h2
  have e : (z.toList.take (0 + 0) ++ (arrV n f).toList ++ z.toList.drop (0 + 0 + n)).toArray = arrV n f := by
    have : z.toList.drop (0 + 0 + n) = [] := List.drop_eq_nil_of_le (by simp [hz])
    rw [this]
    simp
  rw [e] at h2
  cases hq : P.info? ty with
  | none => simp [hq] at hi
  | some i =>
    have hs : i.size = n := by simpa [hq] using hi
    simp [storeVar, sizeOf, typeInfo, hq, Value.cells, hs, arrV_size, h2]
/-- A row of integers into a part of a block of any cells. -/
theorem run_storeVar_sub {ty n N t g off : Nat} {k : IntKind} {f : Nat → Value} {f' : Nat → Int} (hT : RowT P ty n) (hg : w.heap[g]? = some (.cells (arrV N f) t (0, 0))) (hle : off + n ≤ N) :
    (storeVar ty ⟨g, off, none⟩ (.agg (arr k n f'))).run P w = .ok () (w.setRow g (arrV N (patch f off n fun i => .int k (f' i)))) := by
  obtain ⟨d, hu, hd, hi⟩ := hT
  have h1 := run_storeCells_at P g off t (arr k n f').toList 0 (arrV N f) w hg (by simp [arr_size, arrV_size]; omega) (arrV_one n k f')
  cases hq : P.info? ty with
  | none => simp [hq] at hi
  | some i =>
    have hs : i.size = n := by simpa [hq] using hi
    have hsz : ((arr k n f').toList).length = n := by simp [arr_size]
    rw [hsz, Nat.add_zero] at h1
    have e : ((arrV N f).toList.take off ++ (arr k n f').toList ++ (arrV N f).toList.drop (off + n)).toArray = arrV N (patch f off n fun i => .int k (f' i)) := arrV_splice N off n f (fun i => .int k (f' i)) hle
    rw [e] at h1
    have h2 : (storeCells ⟨g, off, none⟩ (arr k n f').toList).run P w = .ok () (w.setRow g (arrV N (patch f off n fun i => .int k (f' i)))) := h1
    simp [storeVar, sizeOf, typeInfo, hq, Value.cells, hs, arr_size, h2]
theorem wpList_store_part {ty n N t g off : Nat} {x y : Operand} {k : IntKind} {f : Nat → Value} {f' : Nat → Int} (hgd : o.guard = none) (ho : o.op = .store ty x y) (hT : RowT P ty n) (hx : a.eval x = .pointer (some ⟨g, off, none⟩)) (hy : a.eval y = .agg (arr k n f')) (hg : w.heap[g]? = some (.cells (arrV N f) t (0, 0))) (hle : off + n ≤ N)
    (h : wpList P ops Q rest (a.put o.dst undef) (w.setRow g (arrV N (patch f off n fun i => .int k (f' i))))) : wpList P ops Q (o :: rest) a w := wpList_skip hgd (run_op_store ho hx hy (run_storeVar_sub hT hg hle)) h
/-- 'x := v' of a struct or an array: the world behind it has the new block. -/
theorem wpList_newV {ty n : Nat} {z : Array Value} {f : Nat → Value} {x y : Operand} (h1 : o.guard = none) (h2 : o'.guard = none) (ho : o.op = .alloc ty) (ho' : o'.op = .store ty x y) (hz : ZeroV P ty n z) (hT : RowT P ty n)
    (hx : (a.put o.dst (.pointer (some ⟨w.heap.size, 0, none⟩))).eval x = .pointer (some ⟨w.heap.size, 0, none⟩)) (hy : (a.put o.dst (.pointer (some ⟨w.heap.size, 0, none⟩))).eval y = .agg (arrV n f)) (hf : ∀ i, i < n → (f i).oneCell' = true)
    (h : ∀ w', w'.heap[w.heap.size]? = some (.cells (arrV n f) ty (0, 0)) → Below w.heap.size w w' → w'.heap.size = w.heap.size + 1 → wpList P ops Q rest ((a.put o.dst (.pointer (some ⟨w.heap.size, 0, none⟩))).put o'.dst undef) w') : wpList P ops Q (o :: o' :: rest) a w := by
  have hr : (execOp a.eval o).run P w = .ok (.value (.pointer (some ⟨w.heap.size, 0, none⟩))) (w.alloc (.cells z ty)) := by
    obtain ⟨hz, _⟩ := hz
    cases hq : P.info? ty with
    | none => simp [hq] at hz
    | some i =>
      have hs : i.zero = some (.agg z) := by simpa [hq] using hz
      unfold execOp
      simp [ho, Instr.alloc, zeroValue, typeInfo, hq, hs, newVar, newRow, newObj, Value.cells, Sem.run_bind]
      rfl
  refine wpList_val' h1 hr (wpList_skip h2 (run_op_store ho' hx hy (run_storeVar_new hT hz.2 (heap_alloc_new _ _) hf)) (h _ ?_ ?_ ?_))
  · exact row_self (heap_alloc_new _ _)
  · exact row_below ((Below.refl _ _).alloc (Nat.le_refl _) _) (Nat.le_refl _) _
  · simp
end
end Go.Proofs.Ytfbfkfdkigpkgaa
