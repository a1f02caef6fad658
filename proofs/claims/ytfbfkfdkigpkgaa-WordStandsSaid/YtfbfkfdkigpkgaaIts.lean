/- Rows of a call's own, of elements of any kind: one more. No program is in sight. -/
import Derived.Test.YtfbfkfdkigpkgaaElt
import Derived.Test.YtfbfkfdkigpkgaaIdx
namespace Go.Proofs.Ytfbfkfdkigpkgaa
set_option linter.unusedSimpArgs false
set_option linter.unusedVariables false
open Go.RowKit

/-- The types of slices of elements of so many cells, and so many bytes. -/
structure ElT (P : Program) (t e : TypeId) (sz by_ : Nat) : Prop where
  sl : P.underlying t = some (.slice e)
  info : (P.info? e).map (fun i => (i.zero.map (·.cells.size), i.size, i.bytes)) = some (some sz, sz, by_)
/-- The cells of a list of elements. -/
def cellsOf {α : Type} (sz : Nat) (F : α → Nat → Value) (l : List α) : List Value := l.flatMap fun x => (arrV sz (F x)).toList
section
variable {α : Type} {sz : Nat} {F : α → Nat → Value}
theorem cellsOf_snoc (l : List α) (x : α) : cellsOf sz F (l ++ [x]) = cellsOf sz F l ++ (arrV sz (F x)).toList := by unfold cellsOf; rw [List.flatMap_append]; simp
theorem cellsOf_len (l : List α) : (cellsOf sz F l).length = l.length * sz := by
  unfold cellsOf
  induction l with
  | nil => simp
  | cons x l ih => rw [List.flatMap_cons, List.length_append, ih, List.length_cons, Nat.succ_mul]; simp [arrV_size]; omega
theorem cellsOf_at : ∀ (l : List α) (i j : Nat) (x : α), l[i]? = some x → j < sz → (cellsOf sz F l)[i * sz + j]? = some (F x j)
  | [], i, j, x, h, _ => by simp at h
  | y :: l, 0, j, x, h, hj => by
    obtain rfl : y = x := by simpa using h
    unfold cellsOf
    rw [List.flatMap_cons, Nat.zero_mul, Nat.zero_add, List.getElem?_append_left (by simp [arrV_size]; exact hj)]
    simp [arrV, hj]
  | y :: l, i + 1, j, x, h, hj => by
    have ih := cellsOf_at l i j x (by simpa using h) hj
    unfold cellsOf at *
    rw [List.flatMap_cons, List.getElem?_append_right (by simp [arrV_size]; rw [Nat.succ_mul]; omega)]
    rw [show (i + 1) * sz + j - (arrV sz (F y)).toList.length = i * sz + j from by simp [arrV_size]; rw [Nat.succ_mul]; omega]
    exact ih
/-- A row of a call's own, as elements that are read. -/
theorem own_els {w : World} {base n : Nat} {e : TypeId} {v : Value} {l : List α} (h : w.ownsRow base e sz v n (cellsOf sz F l)) (hn : n = l.length) (G : Nat → Nat → Value) (hG : ∀ i x, l[i]? = some x → ∀ j, j < sz → G i j = F x j) : ∃ A c, v = .slice A n c ∧ n ≤ c + 0 ∧ Els w w.heap.size A n sz G := by
  have hl := h
  rcases h.2 with ⟨rfl, h0⟩ | ⟨g, cap, cur, rfl, hb, hh, hn', hm, hs, ht⟩
  · exact ⟨none, 0, by rw [h0], by omega, ⟨fun hn => absurd hn (by omega)⟩⟩
  · refine ⟨some ⟨g, 0, none⟩, cap, rfl, by omega, ⟨fun _ => ⟨_, rfl, lt_of_block hh, fun i j hi hj => ?_⟩⟩⟩
    obtain ⟨x, hx⟩ : ∃ x, l[i]? = some x := ⟨l[i]'(by omega), List.getElem?_eq_getElem (by omega)⟩
    exact hl.cells (g := g) rfl (i * sz + j) (G i j) (by rw [hG i x hx j hj]; exact cellsOf_at l i j x hx hj)
end
section
variable {P : Program} {w : World} {o : Oper} {a : Act} {ops : Array Oper} {rest : List Oper} {Q : Exit → Act → World → Prop}
theorem run_append_el {t e ty : TypeId} {sz by_ : Nat} (hT : ElT P t e sz by_) (h0 : 0 < sz) {base n b : Nat} {v : Value} {xs : List Value} {f : Nat → Value} (hown : w.ownsRow base e sz v n xs) (hb : w.heap[b]? = some (.cells (arrV sz f) e (0, 0))) (h1 : ∀ i, i < sz → (f i).oneCell' = true)
    (hn : n + 1 ≤ 70368744177664) (hby : (n + 1) * by_ ≤ 140737488355328) (hbase : base ≤ w.heap.size) :
    ∃ v' w', (Builtin.append_ #[t, t] ty #[v, .slice (some ⟨b, 0, none⟩) 1 1]).run P w = .ok v' w' ∧ w'.ownsRow base e sz v' (n + 1) (xs ++ (arrV sz f).toList) ∧ w.grownBy w' v.ownBlock ∧ (v'.ownBlock = v.ownBlock ∨ v'.ownBlock = some w.heap.size) := by
  have hinfo := hT.info
  cases hi : P.info? e with
  | none => rw [hi] at hinfo; cases hinfo
  | some i =>
    rw [hi] at hinfo
    simp only [Option.map_some, Option.some.injEq, Prod.mk.injEq] at hinfo
    obtain ⟨hz, hs, hbt⟩ := hinfo
    cases hzz : i.zero with
    | none => rw [hzz] at hz; cases hz
    | some z =>
      rw [hzz] at hz
      simp only [Option.map_some, Option.some.injEq] at hz
      obtain ⟨v', w', hrun, h5, h6, _, h7⟩ := run_append_own_at (P := P) w base t ty e i z sz by_ hT.sl hi hzz hs hbt hz h0 v n xs hown ⟨b, 0, none⟩ 1 1 (arrV sz f).toList (by simp [arrV_size])
        (fun j u hu => by
          have hj : j < sz := by
            have := (List.getElem?_eq_some_iff.1 hu).1
            simpa [arrV_size] using this
          rw [addr_add, cell_of_row _ _ _ _ _ _ hb, ← Array.getElem?_toList, Nat.zero_add]
          exact hu)
        (fun u hu => by
          simp only [arrV, List.mem_map] at hu
          obtain ⟨i, hi, rfl⟩ := hu
          exact h1 i (List.mem_range.1 hi)) (by unfold maxLen; omega) hby hbase
      exact ⟨v', w', hrun, h5, h6, h7⟩
theorem wpList_append_el {t e : TypeId} {sz by_ : Nat} {s x : Operand} (hgd : o.guard = none) (ho : o.op = .call { callee := .builtin .append, args := #[s, x], argTypes := #[t, t] })
    (hT : ElT P t e sz by_) (h0 : 0 < sz) {base n b : Nat} {v : Value} {xs : List Value} {f : Nat → Value} (hs : a.eval s = v) (hx : a.eval x = .slice (some ⟨b, 0, none⟩) 1 1) (hown : w.ownsRow base e sz v n xs) (hb : w.heap[b]? = some (.cells (arrV sz f) e (0, 0))) (h1 : ∀ i, i < sz → (f i).oneCell' = true)
    (hn : n + 1 ≤ 70368744177664) (hby : (n + 1) * by_ ≤ 140737488355328) (hbase : base ≤ w.heap.size)
    (h : ∀ v' w', w'.ownsRow base e sz v' (n + 1) (xs ++ (arrV sz f).toList) → w.grownBy w' v.ownBlock → (v'.ownBlock = v.ownBlock ∨ v'.ownBlock = some w.heap.size) → wpList P ops Q rest (a.put o.dst v') w') : wpList P ops Q (o :: rest) a w := by
  obtain ⟨v', w', hrun, h2, h3, h4⟩ := run_append_el (P := P) (ty := o.type) hT h0 hown hb h1 hn hby hbase
  refine wpList_plain hgd fun K hK => ?_
  unfold Oper.wp execOp
  simp only [ho, resolve, invoke, builtin, Sem.run_bind, Sem.run_pure, Result.andThen_ok, List.map_toArray, List.map_cons, List.map_nil, hs, hx, hrun]
  exact hK _ _ (h v' w' h2 h3 h4)
/-- A slice literal of one element, and it, added to a row of the call's own. -/
theorem wpList_add_el {t e : TypeId} {sz by_ : Nat} {o' : Oper} {parts : Array (Nat × Operand)} {l : List (Nat × Value)} {s x : Operand} (hgd : o.guard = none) (hgd' : o'.guard = none) (ho : o.op = .buildSlice t 1 parts) (ho' : o'.op = .call { callee := .builtin .append, args := #[s, x], argTypes := #[t, t] })
    (hT : ElT P t e sz by_) (h0 : 0 < sz) {base n : Nat} {v : Value} {xs : List Value} {f : Nat → Value} (hl : (parts.map fun (i, x) => (i, a.eval x)).toList = l) (hbl : P.builtSlice e 1 l = some (arrV sz f)) (hs : (a.put o.dst (.slice (some ⟨w.heap.size, 0, none⟩) 1 1)).eval s = v) (hx : (a.put o.dst (.slice (some ⟨w.heap.size, 0, none⟩) 1 1)).eval x = .slice (some ⟨w.heap.size, 0, none⟩) 1 1)
    (hown : w.ownsRow base e sz v n xs) (h1 : ∀ i, i < sz → (f i).oneCell' = true) (hn : n + 1 ≤ 70368744177664) (hby : (n + 1) * by_ ≤ 140737488355328) (hbase : base ≤ w.heap.size)
    (h : ∀ v' w', w'.ownsRow base e sz v' (n + 1) (xs ++ (arrV sz f).toList) → (∀ k, k < w.heap.size → v.ownBlock ≠ some k → w'.heap[k]? = w.heap[k]?) → w'.os = w.os ∧ w'.tape = w.tape ∧ w'.output = w.output ∧ w.heap.size ≤ w'.heap.size → (v'.ownBlock = v.ownBlock ∨ ∃ k, v'.ownBlock = some k ∧ w.heap.size ≤ k) → wpList P ops Q rest ((a.put o.dst (.slice (some ⟨w.heap.size, 0, none⟩) 1 1)).put o'.dst v') w') : wpList P ops Q (o :: o' :: rest) a w := by
  refine wpList_bslice hgd ho hT.sl hl hbl ?_
  refine wpList_append_el hgd' ho' hT h0 hs hx (World.ownsRow.alloc hown (.cells (arrV sz f) e)) (heap_alloc_new w _) h1 hn hby (by simp; omega) ?_
  intro v' w' h2 h3 h4
  have hb : Below w.heap.size w (w.alloc (.cells (arrV sz f) e)) := (Below.refl _ _).alloc (Nat.le_refl _) _
  refine h v' w' h2 (fun k hk hne => ?_) ⟨h3.os.trans hb.os, h3.tape.trans hb.tape, h3.output.trans hb.output, Nat.le_trans hb.size h3.size⟩ ?_
  · rw [h3.block k (by simp; omega) (fun e => hne e.symm), hb.block k hk]
  · rcases h4 with h4 | h4
    · exact .inl h4
    · exact .inr ⟨_, h4, by simp⟩
end
end Go.Proofs.Ytfbfkfdkigpkgaa
