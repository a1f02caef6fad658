/- A region that draws its order, with new blocks and stores into them in its head. No program is in sight. -/
import Derived.Test.YthgjhipfgdlbnaaAnd
namespace Go.Proofs.Ythgjhipfgdlbnaa
set_option linter.unusedSimpArgs false
set_option linter.unusedVariables false
open Go.RowKit

/-- What an operation of the head does: it gives a value; it makes a block; it stores a row into the block that operation a made. -/
inductive HK where
  | val (r : Fact)
  | new (ty : TypeId) (k : IntKind) (m : Nat)
  | put (a : Nat) (f : Nat → Int)
def HK.fact : HK → Fact
  | .val r => r
  | _ => fun _ _ => True
def HK.putsIn (K : HK) (a : Nat) : Bool := match K with | .put b _ => b == a | _ => false
/-- What stands in the block that operation a made. -/
def contF (listed : Array Bool) (a : Nat) : List HK → Nat → Nat → Int
  | [], _ => fun _ => 0
  | .put b f :: l, i => if b = a ∧ listed.getD i true = true then f else contF listed a l (i + 1)
  | .val _ :: l, i => contF listed a l (i + 1)
  | .new _ _ _ :: l, i => contF listed a l (i + 1)
def endF (a : Nat) : List HK → Nat → Int
  | [] => fun _ => 0
  | .put b f :: l => if b = a then f else endF a l
  | .val _ :: l => endF a l
  | .new _ _ _ :: l => endF a l
theorem contF_all (listed : Array Bool) (a : Nat) : ∀ (l : List HK) (i : Nat), (∀ j, i ≤ j → j < i + l.length → listed.getD j true = true) → contF listed a l i = endF a l
  | [], _, _ => rfl
  | .put b f :: l, i, h => by
    unfold contF endF
    have := contF_all listed a l (i + 1) (fun j h1 h2 => h j (by omega) (by simp only [List.length_cons]; omega))
    rw [this]
    by_cases hb : b = a
    · rw [if_pos ⟨hb, h i (Nat.le_refl _) (by simp)⟩, if_pos hb]
    · rw [if_neg (fun e => hb e.1), if_neg hb]
  | .val r :: l, i, h => by
    unfold contF endF
    exact contF_all listed a l (i + 1) (fun j h1 h2 => h j (by omega) (by simp only [List.length_cons]; omega))
  | .new _ _ _ :: l, i, h => by
    unfold contF endF
    exact contF_all listed a l (i + 1) (fun j h1 h2 => h j (by omega) (by simp only [List.length_cons]; omega))
theorem contF_other (listed : Array Bool) (a j : Nat) : ∀ (l : List HK) (i : Nat), (∀ K, i ≤ j → l[j - i]? = some K → K.putsIn a = false) → contF (listed.setIfInBounds j true) a l i = contF listed a l i
  | [], _, _ => rfl
  | .put b f :: l, i, h => by
    unfold contF
    rw [contF_other listed a j l (i + 1) (fun K h1 h2 => h K (by omega) (by rw [show j - i = (j - (i + 1)) + 1 by omega]; exact h2))]
    by_cases hj : i = j
    · subst hj
      have := h (.put b f) (Nat.le_refl _) (by simp)
      have hb : ¬ b = a := by simpa [HK.putsIn] using this
      rw [if_neg (fun e => hb e.1), if_neg (fun e => hb e.1)]
    · rw [getD_set_ne true (Ne.symm hj)]
  | .val r :: l, i, h => by
    unfold contF
    exact contF_other listed a j l (i + 1) (fun K h1 h2 => h K (by omega) (by rw [show j - i = (j - (i + 1)) + 1 by omega]; exact h2))
  | .new _ _ _ :: l, i, h => by
    unfold contF
    exact contF_other listed a j l (i + 1) (fun K h1 h2 => h K (by omega) (by rw [show j - i = (j - (i + 1)) + 1 by omega]; exact h2))
/-- One store at the most into each block. -/
def onceB (a : Nat) (l : List HK) : Bool := decide ((l.filter fun K => K.putsIn a).length ≤ 1)
theorem contF_put (listed : Array Bool) (a j : Nat) (f : Nat → Int) (hl : listed.getD j true = false) : ∀ (l : List HK) (i : Nat), i ≤ j → l[j - i]? = some (.put a f) → onceB a l = true → contF (listed.setIfInBounds j true) a l i = f
  | [], _, _, h, _ => by simp at h
  | K :: l, i, hi, h, ho => by
    have hs : (listed.setIfInBounds j true).getD j true = true := by
      simp [Array.getElem?_setIfInBounds]
      split <;> simp
    by_cases hj : i = j
    · subst hj
      rw [Nat.sub_self] at h
      simp only [List.getElem?_cons_zero, Option.some.injEq] at h
      subst h
      unfold contF
      rw [if_pos ⟨rfl, hs⟩]
    · have h' : l[j - (i + 1)]? = some (.put a f) := by
        rw [show j - i = (j - (i + 1)) + 1 by omega, List.getElem?_cons_succ] at h
        exact h
      have hK : K.putsIn a = false := by
        cases hp : K.putsIn a with
        | false => rfl
        | true =>
          unfold onceB at ho
          rw [List.filter_cons, if_pos hp, decide_eq_true_eq] at ho
          have : (l.filter fun K => K.putsIn a) = [] := by
            apply List.eq_nil_of_length_eq_zero
            simp only [List.length_cons] at ho
            omega
          rw [List.filter_eq_nil_iff] at this
          exact absurd (by simp [HK.putsIn]) (this _ (List.mem_of_getElem? h'))
      have ho' : onceB a l = true := by
        unfold onceB at ho ⊢
        rw [List.filter_cons, if_neg (by rw [hK]; decide)] at ho
        exact ho
      have ih := contF_put listed a j f hl l (i + 1) (by omega) h' ho'
      cases K with
      | val r => unfold contF; exact ih
      | new _ _ _ => unfold contF; exact ih
      | put b g =>
        unfold contF
        have hb : ¬ b = a := by simpa [HK.putsIn] using hK
        rw [if_neg (fun e => hb e.1)]
        exact ih
/-- What stands in a new block. -/
def NewIs (N : Nat) (x : Value) (w : World) (ty : TypeId) (k : IntKind) (m : Nat) (f : Nat → Int) : Prop := ∃ B, x = .pointer (some ⟨B, 0, none⟩) ∧ N ≤ B ∧ w.heap[B]? = some (.cells (arr k m f) ty (0, 0))
theorem NewIs.below {N : Nat} {x : Value} {w w' : World} {ty : TypeId} {k : IntKind} {m : Nat} {f : Nat → Int} (h : NewIs N x w ty k m f) (hb : Below w.heap.size w w') : NewIs N x w' ty k m f := by
  obtain ⟨B, h1, h2, h3⟩ := h
  exact ⟨B, h1, h2, (hb.block B (lt_of_block h3)).trans h3⟩
/-- What an operation is to do. -/
def freeOp3 (P : Program) (ops : Array Oper) (Q : Exit → Act → World → Prop) (Ks : List HK) (xs : List Value) (o : Oper) (r : HK) (js : List Nat) (a : Act) (w : World) : Prop :=
  match r with
  | .val r => freeOp P ops Q o r a w
  | .new ty k m => Region.wanted o (yielded ops a.tmps) = true ∧ o.op = .alloc ty ∧ ZeroT P ty k m
  | .put b f => Region.wanted o (yielded ops a.tmps) = true ∧ ∃ ty k m x y, o.op = .store ty x y ∧ Ks[b]? = some (.new ty k m) ∧ b ∈ js ∧ RowT P ty m ∧ (∀ v, xs[b]? = some v → a.eval x = v) ∧ a.eval y = .agg (arr k m f)
def freeOps3 (P : Program) (ops : Array Oper) (Q : Exit → Act → World → Prop) (n : Nat) (hd : List Oper) (a : Act) (w0 : World) (Ks : List HK) : List (Oper × HK × List Nat) → Prop
  | [] => True
  | (o, r, js) :: l => (allV n fun xs => ∀ w', Below w0.heap.size w0 w' → under (Ks.map HK.fact) xs w' js (freeOp3 P ops Q Ks xs o r js (fillA hd a xs) w')) ∧ freeOps3 P ops Q n hd a w0 Ks l
/-- What is known of the new blocks at the end. -/
def underN (N : Nat) (Ks : List HK) (xs : List Value) (w : World) (p : Prop) : List HK → Nat → Prop
  | [], _ => p
  | .new ty k m :: l, i => (match xs[i]? with | some x => NewIs N x w ty k m (endF i Ks) | none => True) → underN N Ks xs w p l (i + 1)
  | _ :: l, i => underN N Ks xs w p l (i + 1)
/-- Facts that hang on no block from N on. -/
def StaysN (N : Nat) (K : HK) : Prop := ∀ v w w', Below N w w' → K.fact v w → K.fact v w'
theorem stn_is (N : Nat) (v : Value) : StaysN N (.val (Is v)) := fun _ _ _ _ h => h
theorem stn_new (N : Nat) (ty : TypeId) (k : IntKind) (m : Nat) : StaysN N (.new ty k m) := fun _ _ _ _ _ => trivial
theorem stn_put (N : Nat) (a : Nat) (f : Nat → Int) : StaysN N (.put a f) := fun _ _ _ _ _ => trivial
theorem stn_nil (N : Nat) : ∀ K ∈ ([] : List HK), StaysN N K := fun _ h => by cases h
theorem stn_cons {N : Nat} {K : HK} {l : List HK} (h : StaysN N K) (hl : ∀ K ∈ l, StaysN N K) : ∀ K' ∈ K :: l, StaysN N K' := fun K' hK => by
  rcases List.mem_cons.1 hK with rfl | hK
  · exact h
  · exact hl _ hK
def HK.isNew : HK → Bool
  | .new _ _ _ => true
  | _ => false
def pairs3B (Ks : List HK) (D : List (Nat × Nat)) : Bool := D.all fun d => decide (d.1 < d.2) && (match Ks[d.1]? with | some K => K.isNew | none => false) && (match Ks[d.2]? with | some K => K.isNew | none => false)
def once3B (Ks : List HK) : Bool := (List.range Ks.length).all fun a => onceB a Ks

section
variable {P : Program} {Q : Exit → Act → World → Prop} {l : List Oper} {n : Nat} {a : Act} {w0 : World}
theorem freeOps3_get {Ks : List HK} {hd : List Oper} : ∀ (items : List (Oper × HK × List Nat)), freeOps3 P l.toArray Q n hd a w0 Ks items → ∀ (i : Nat) (o : Oper) (r : HK) (js : List Nat), items[i]? = some (o, r, js) →
    allV n fun xs => ∀ w', Below w0.heap.size w0 w' → under (Ks.map HK.fact) xs w' js (freeOp3 P l.toArray Q Ks xs o r js (fillA hd a xs) w')
  | [], _, _, _, _, _, h => by simp at h
  | (o', r', js') :: items, h, 0, o, r, js, hi => by
    simp only [List.getElem?_cons_zero, Option.some.injEq, Prod.mk.injEq] at hi
    obtain ⟨rfl, rfl, rfl⟩ := hi
    exact h.1
  | (o', r', js') :: items, h, i + 1, o, r, js, hi => freeOps3_get items h.2 i o r js (by simpa using hi)
/-- The new blocks that were made: what stands there; they lie apart. -/
structure NInv (N : Nat) (Ks : List HK) (listed : Array Bool) (xs : List Value) (w : World) : Prop where
  is : ∀ i ty k m, Ks[i]? = some (.new ty k m) → listed.getD i true = true → ∀ x, xs[i]? = some x → NewIs N x w ty k m (contF listed i Ks 0)
  ap : ∀ i j ty k m ty' k' m', Ks[i]? = some (.new ty k m) → Ks[j]? = some (.new ty' k' m') → listed.getD i true = true → listed.getD j true = true → i ≠ j → apartAt xs i j
theorem isNew_of {K : HK} (h : K.isNew = true) : ∃ ty k m, K = .new ty k m := by
  cases K with
  | new ty k m => exact ⟨ty, k, m, rfl⟩
  | val r => cases h
  | put a f => cases h
theorem n_endD {N : Nat} {Ks : List HK} {D : List (Nat × Nat)} {listed : Array Bool} {xs : List Value} {w : World} (hD : pairs3B Ks D = true) (hK : Ks.length = n) (h : NInv N Ks listed xs w) (hl : ∀ i, i < n → listed.getD i true = true) : ∀ d ∈ D, apartAt xs d.1 d.2 := by
  intro d hd
  unfold pairs3B at hD
  rw [List.all_eq_true] at hD
  have h1 := hD d hd
  simp only [Bool.and_eq_true, decide_eq_true_eq] at h1
  obtain ⟨⟨h2, h4⟩, h5⟩ := h1
  split at h4
  · rename_i K hk
    split at h5
    · rename_i K' hk'
      obtain ⟨ty, k, m, rfl⟩ := isNew_of h4
      obtain ⟨ty', k', m', rfl⟩ := isNew_of h5
      have l1 : d.1 < Ks.length := (List.getElem?_eq_some_iff.1 hk).1
      have l2 : d.2 < Ks.length := (List.getElem?_eq_some_iff.1 hk').1
      exact h.ap d.1 d.2 _ _ _ _ _ _ hk hk' (hl _ (by omega)) (hl _ (by omega)) (by omega)
    · cases h5
  · cases h4
theorem n_endN {N : Nat} {Ks : List HK} {listed : Array Bool} {xs : List Value} {w : World} {p : Prop} (hK : Ks.length = n) (h : NInv N Ks listed xs w) (hl : ∀ i, i < n → listed.getD i true = true) : ∀ (L : List HK) (i : Nat), (∀ j, L[j]? = Ks[i + j]?) → underN N Ks xs w p L i → p
  | [], _, _, hp => hp
  | .new ty k m :: L, i, hL, hp => by
    unfold underN at hp
    have h0 : Ks[i]? = some (.new ty k m) := by have := hL 0; simpa using this.symm
    have hi : i < Ks.length := (List.getElem?_eq_some_iff.1 h0).1
    refine n_endN hK h hl L (i + 1) (fun j => by have := hL (j + 1); simp only [List.getElem?_cons_succ] at this; rw [this]; congr 1; omega) (hp ?_)
    cases hx : xs[i]? with
    | none => trivial
    | some x =>
      have := h.is i ty k m h0 (hl i (by omega)) x hx
      rw [contF_all listed i Ks 0 (fun j _ hj => hl j (by omega))] at this
      exact this
  | .val r :: L, i, hL, hp => by
    unfold underN at hp
    exact n_endN hK h hl L (i + 1) (fun j => by have := hL (j + 1); simp only [List.getElem?_cons_succ] at this; rw [this]; congr 1; omega) hp
  | .put b f :: L, i, hL, hp => by
    unfold underN at hp
    exact n_endN hK h hl L (i + 1) (fun j => by have := hL (j + 1); simp only [List.getElem?_cons_succ] at this; rw [this]; congr 1; omega) hp
/-- An operation that gives a value changes no new block. -/
theorem n_val {N : Nat} {Ks : List HK} {listed : Array Bool} {xs : List Value} {w w2 : World} {j : Nat} {v : Value} {r : Fact} (h : NInv N Ks listed xs w) (hj : Ks[j]? = some (.val r)) (hb : Below w.heap.size w w2) : NInv N Ks (listed.setIfInBounds j true) (xs.set j v) w2 := by
  refine ⟨fun i ty k m hi hl x hx => ?_, fun i i' ty k m ty' k' m' hi hi' hl hl' hne => ?_⟩
  · have hij : i ≠ j := fun e => by subst e; rw [hi] at hj; cases hj
    rw [getD_set_ne true (Ne.symm hij)] at hl
    rw [List.getElem?_set_ne (Ne.symm hij)] at hx
    rw [contF_other listed i j Ks 0 (fun K _ hK => by rw [Nat.sub_zero, hj] at hK; injection hK with hK; subst hK; rfl)]
    exact (h.is i ty k m hi hl x hx).below hb
  · have hij : i ≠ j := fun e => by subst e; rw [hi] at hj; cases hj
    have hij' : i' ≠ j := fun e => by subst e; rw [hi'] at hj; cases hj
    rw [getD_set_ne true (Ne.symm hij)] at hl
    rw [getD_set_ne true (Ne.symm hij')] at hl'
    have := h.ap i i' _ _ _ _ _ _ hi hi' hl hl' hne
    unfold apartAt at this ⊢
    rw [List.getElem?_set_ne (Ne.symm hij), List.getElem?_set_ne (Ne.symm hij')]
    exact this
theorem contF_zero (listed : Array Bool) (a : Nat) : ∀ (l : List HK) (i : Nat), (∀ j K, l[j]? = some K → K.putsIn a = true → listed.getD (i + j) true = false) → contF listed a l i = fun _ => 0
  | [], _, _ => rfl
  | .put b f :: l, i, h => by
    unfold contF
    have h2 := contF_zero listed a l (i + 1) (fun j K h1 h2 => by have := h (j + 1) K (by simpa using h1) h2; rwa [show i + (j + 1) = i + 1 + j by omega] at this)
    rw [h2]
    by_cases hb : b = a
    · have := h 0 (.put b f) (by simp) (by simp [HK.putsIn, hb])
      rw [Nat.add_zero] at this
      rw [if_neg (by rw [this]; simp)]
    · rw [if_neg (fun e => hb e.1)]
  | .val r :: l, i, h => by
    unfold contF
    exact contF_zero listed a l (i + 1) (fun j K h1 h2 => by have := h (j + 1) K (by simpa using h1) h2; rwa [show i + (j + 1) = i + 1 + j by omega] at this)
  | .new _ _ _ :: l, i, h => by
    unfold contF
    exact contF_zero listed a l (i + 1) (fun j K h1 h2 => by have := h (j + 1) K (by simpa using h1) h2; rwa [show i + (j + 1) = i + 1 + j by omega] at this)
/-- A new block. -/
theorem n_new {N : Nat} {Ks : List HK} {listed : Array Bool} {xs : List Value} {w : World} {j : Nat} {ty : TypeId} {k : IntKind} {m : Nat} (h : NInv N Ks listed xs w) (hj : Ks[j]? = some (.new ty k m)) (hjx : j < xs.length) (hN : N ≤ w.heap.size) (hz : ∀ i K, Ks[i]? = some K → K.putsIn j = true → listed.getD i true = false) :
    NInv N Ks (listed.setIfInBounds j true) (xs.set j (.pointer (some ⟨w.heap.size, 0, none⟩))) (w.alloc (.cells (arr k m fun _ => 0) ty)) := by
  have key : ∀ i ty' k' m', Ks[i]? = some (.new ty' k' m') → i ≠ j → listed.getD i true = true → apartAt (xs.set j (.pointer (some ⟨w.heap.size, 0, none⟩))) i j := by
    intro i ty' k' m' hi hij hl
    unfold apartAt
    rw [List.getElem?_set_ne (Ne.symm hij), List.getElem?_set_self hjx]
    split
    · rename_i x y hx hy
      injection hy with hy
      subst hy
      obtain ⟨B, rfl, _, hB⟩ := h.is i ty' k' m' hi hl _ hx
      intro e
      injection e with e
      injection e with e
      injection e with e
      have := lt_of_block hB
      omega
    · trivial
  refine ⟨fun i ty' k' m' hi hl x hx => ?_, fun i i' ty1 k1 m1 ty2 k2 m2 hi hi' hl hl' hne => ?_⟩
  · by_cases hij : i = j
    · subst hij
      rw [hj] at hi
      injection hi with hi
      injection hi with e1 e2 e3
      subst e1 e2 e3
      rw [List.getElem?_set_self hjx] at hx
      injection hx with hx
      subst hx
      rw [contF_other listed i i Ks 0 (fun K _ hK => by rw [Nat.sub_zero, hj] at hK; injection hK with hK; subst hK; rfl), contF_zero listed i Ks 0 (fun j K h1 h2 => by rw [Nat.zero_add]; exact hz j K h1 h2)]
      exact ⟨_, rfl, hN, heap_alloc_new _ _⟩
    · rw [getD_set_ne true (Ne.symm hij)] at hl
      rw [List.getElem?_set_ne (Ne.symm hij)] at hx
      rw [contF_other listed i j Ks 0 (fun K _ hK => by rw [Nat.sub_zero, hj] at hK; injection hK with hK; subst hK; rfl)]
      exact (h.is i ty' k' m' hi hl x hx).below ((Below.refl _ _).alloc (Nat.le_refl _) _)
  · by_cases hij : i = j
    · subst hij
      rw [getD_set_ne true hne] at hl'
      exact apart_symm (key i' ty2 k2 m2 hi' (Ne.symm hne) hl')
    · by_cases hij' : i' = j
      · subst hij'
        rw [getD_set_ne true (Ne.symm hij)] at hl
        exact key i ty1 k1 m1 hi hij hl
      · rw [getD_set_ne true (Ne.symm hij)] at hl
        rw [getD_set_ne true (Ne.symm hij')] at hl'
        have := h.ap i i' _ _ _ _ _ _ hi hi' hl hl' hne
        unfold apartAt at this ⊢
        rw [List.getElem?_set_ne (Ne.symm hij), List.getElem?_set_ne (Ne.symm hij')]
        exact this
/-- A store into a new block. -/
theorem n_put {N : Nat} {Ks : List HK} {listed : Array Bool} {xs : List Value} {w : World} {j b B : Nat} {f : Nat → Int} {v : Value} {ty : TypeId} {k : IntKind} {m : Nat} (h : NInv N Ks listed xs w) (hj : Ks[j]? = some (.put b f)) (hb : Ks[b]? = some (.new ty k m)) (hbl : listed.getD b true = true) (hbx : xs[b]? = some (.pointer (some ⟨B, 0, none⟩)))
    (hjl : listed.getD j true = false) (ho : once3B Ks = true) (hB : w.heap[B]? = some (.cells (arr k m (contF listed b Ks 0)) ty (0, 0))) (hN : N ≤ B) : NInv N Ks (listed.setIfInBounds j true) (xs.set j v) (w.setRow B (arr k m f)) := by
  have hjb : j ≠ b := fun e => by subst e; rw [hj] at hb; cases hb
  refine ⟨fun i ty' k' m' hi hl x hx => ?_, fun i i' ty1 k1 m1 ty2 k2 m2 hi hi' hl hl' hne => ?_⟩
  · have hij : i ≠ j := fun e => by subst e; rw [hi] at hj; cases hj
    rw [getD_set_ne true (Ne.symm hij)] at hl
    rw [List.getElem?_set_ne (Ne.symm hij)] at hx
    by_cases hib : i = b
    · subst hib
      rw [hb] at hi
      injection hi with hi
      injection hi with e1 e2 e3
      subst e1 e2 e3
      rw [hbx] at hx
      injection hx with hx
      subst hx
      have hi2 : i < Ks.length := (List.getElem?_eq_some_iff.1 hb).1
      have hon : onceB i Ks = true := by
        unfold once3B at ho
        rw [List.all_eq_true] at ho
        exact ho i (List.mem_range.2 hi2)
      rw [contF_put listed i j f hjl Ks 0 (Nat.zero_le _) (by rw [Nat.sub_zero]; exact hj) hon]
      exact ⟨B, rfl, hN, row_self hB⟩
    · rw [contF_other listed i j Ks 0 (fun K _ hK => by
        rw [Nat.sub_zero, hj] at hK
        injection hK with hK
        subst hK
        simp only [HK.putsIn, beq_eq_false_iff_ne, ne_eq]
        exact fun e => hib e.symm)]
      obtain ⟨C, rfl, hC, hC2⟩ := h.is i ty' k' m' hi hl x hx
      have hap := h.ap i b _ _ _ _ _ _ hi hb hl hbl hib
      unfold apartAt at hap
      rw [hx, hbx] at hap
      have hne : C ≠ B := fun e => hap (by rw [e])
      exact ⟨C, rfl, hC, row_keep hC2 hne⟩
  · have hij : i ≠ j := fun e => by subst e; rw [hi] at hj; cases hj
    have hij' : i' ≠ j := fun e => by subst e; rw [hi'] at hj; cases hj
    rw [getD_set_ne true (Ne.symm hij)] at hl
    rw [getD_set_ne true (Ne.symm hij')] at hl'
    have := h.ap i i' _ _ _ _ _ _ hi hi' hl hl' hne
    unfold apartAt at this ⊢
    rw [List.getElem?_set_ne (Ne.symm hij), List.getElem?_set_ne (Ne.symm hij')]
    exact this

/-- What is stored into a block comes behind its making. -/
def putsAfter (Ks : List HK) (ps : List (List Nat)) : Bool := (List.range Ks.length).all fun i => match Ks[i]?, ps[i]? with | some (.put b _), some js => js.contains b | some (.put _ _), none => false | _, _ => true
theorem putsAfter_get {Ks : List HK} {ps : List (List Nat)} (h : putsAfter Ks ps = true) (i : Nat) (K : HK) {b : Nat} (hi : Ks[i]? = some K) (hp : K.putsIn b = true) : Nonempty (∃ js, ps[i]? = some js ∧ b ∈ js) := by
  unfold putsAfter at h
  rw [List.all_eq_true] at h
  have := h i (List.mem_range.2 (List.getElem?_eq_some_iff.1 hi).1)
  rw [hi] at this
  cases K with
  | val r => cases hp
  | new _ _ _ => cases hp
  | put c f =>
    obtain rfl : c = b := by simpa [HK.putsIn] using hp
    cases hq : ps[i]? with
    | none => rw [hq] at this; cases this
    | some js =>
      rw [hq] at this
      exact ⟨js, rfl, by simpa using this⟩
/-- **A region that draws its order: each operation of the head, told by itself; D: pairs of new blocks that lie apart.** R: what each gives; ps: behind which of the others it comes. -/
theorem wp_region_free3 {id : Nat} {w : World} (n : Nat) (Ks : List HK) (ps : List (List Nat)) (D : List (Nat × Nat)) (hm : P.follows .mixedOrders = true) (hB : freeB l n ps = true) (hD : (pairs3B Ks D && once3B Ks && putsAfter Ks ps) = true) (hR : Ks.length = n) (hst : ∀ K ∈ Ks, StaysN w.heap.size K)
    (hop : freeOps3 P l.toArray Q n (l.take n) a w.drew Ks ((l.take n).zip (Ks.zip ps)))
    (hend : allV n fun xs => ∀ w', Below w.heap.size w.drew w' → under (Ks.map HK.fact) xs w' (List.range n) (underN w.heap.size Ks xs w' (underD xs D (wpList P l.toArray Q (l.drop n) (fillA (l.take n) a xs) w')) Ks 0)) : (Code.region id l.toArray true).wp P Q a w := by
  simp only [freeB, Bool.and_eq_true, decide_eq_true_eq] at hB
  obtain ⟨⟨⟨⟨⟨⟨⟨hsel, hn⟩, hp⟩, hs⟩, hc⟩, hd⟩, hps⟩, hseq⟩ := hB
  simp only [Bool.and_eq_true] at hD
  obtain ⟨⟨hD, hOnce⟩, hPut⟩ := hD
  have hn' : n < l.toArray.size := by simpa using hn
  have inv0 : HeadInv .any l.toArray n (Array.replicate l.toArray.size false) :=
    ⟨by simp, fun j oj _ hl => (by rw [getD_replicate_false] at hl; cases hl), fun t _ ht => getD_in (by simpa using ht) (getD_replicate_false _ _)⟩
  have main : ∀ (f : Nat) (listed : Array Bool) (xs : List Value) (w' : World), HeadInv .any l.toArray n listed → restN n listed = f → xs.length = n → Below w.heap.size w.drew w' →
      (∀ j, j < n → listed.getD j true = true → factAt (Ks.map HK.fact) xs w' j) → NInv w.heap.size Ks listed xs w' → (∀ i j K, i < n → j < n → Ks[i]? = some K → K.putsIn j = true → listed.getD i true = true → listed.getD j true = true) →
      wpAnyC P .any l.toArray Q (fun _ => True) n (fun listed' a' w' => Region.seqB .any l.toArray (l.toArray.size - n) n listed' = true ∧ wpList P l.toArray Q (l.drop n) a' w') f listed (fillA (l.take n) a xs) w' := by
    intro f
    induction f with
    | zero =>
      intro listed xs w' inv hr hx hb hf hap hord
      refine ⟨?_, underD_of D (n_endN hR hap (rest_zero n listed hr) Ks 0 (fun j => by rw [Nat.zero_add]) (under_of _ (allV_of n _ hend xs hx w' hb) (fun j hj => hf j (List.mem_range.1 hj) (rest_zero n listed hr j (List.mem_range.1 hj))))) (n_endD hD hR hap (rest_zero n listed hr))⟩
      have e : listed = (List.replicate n true ++ List.replicate (l.length - n) false).toArray := by
        apply Array.ext_getElem?
        intro i
        have hsz := inv.size
        simp only [List.size_toArray] at hsz
        by_cases hi : i < n
        · have h1 := rest_zero n listed hr i hi
          have h2 : i < listed.size := by omega
          simp [h2] at h1
          simp [List.getElem?_append, hi, h2, h1]
        · by_cases hi2 : i < l.length
          · have h1 := inv.tail i (by omega) (by simpa using hi2)
            have h2 : i < listed.size := by omega
            simp [h2] at h1
            simp only [List.getElem?_toArray, List.getElem?_append, List.length_replicate, hi, if_false, List.getElem?_replicate]
            rw [if_pos (by omega), Array.getElem?_eq_getElem h2, h1]
          · rw [Array.getElem?_eq_none (by omega)]
            simp only [List.getElem?_toArray, List.getElem?_append, List.length_replicate, hi, if_false, List.getElem?_replicate]
            rw [if_neg (by omega)]
      rw [e]
      simpa using hseq
    | succ f ih =>
      intro listed xs w' inv hr hx hb hf hap hord
      obtain ⟨i, hi, hil, hmin⟩ := rest_pos n listed hr
      refine ⟨?_, fun j hj => ?_⟩
      · intro h0
        obtain ⟨o, ho, he, _⟩ := predsB_get l ps 0 hps i ps[i] (by simp)
        have : i ∈ Region.ready .any l.toArray listed := mem_ready.2 ⟨hil, o, by simpa using ho, fun e hee hbe => by
          have h1 := he e hee hbe
          have h2 := hmin e.on (by omega)
          have h3 : e.on < listed.size := by rw [inv.size]; simp; omega
          simp [h3] at h2 ⊢
          exact h2⟩
        rw [h0] at this
        cases this
      · have hjn : j < n := by
          rcases Nat.lt_or_ge j n with h | h
          · exact h
          · exact absurd hj (tail_waits hs hc hn' inv _ i rfl hi hil j h)
        refine ⟨hjn, ?_⟩
        obtain ⟨hjl, oj, hoj, hall⟩ := mem_ready.1 hj
        have hoj' : l[j]? = some oj := by simpa using hoj
        have hjp : j < ps.length := by omega
        have hjR : j < Ks.length := by omega
        have hit : ((l.take n).zip (Ks.zip ps))[j]? = some (oj, Ks[j], ps[j]) := by
          rw [List.getElem?_zip_eq_some]
          refine ⟨by rw [List.getElem?_take, if_pos hjn]; exact hoj', ?_⟩
          rw [List.getElem?_zip_eq_some]
          exact ⟨by simp [hjR], by simp [hjp]⟩
        obtain ⟨oj', hoj2, _, hpj⟩ := predsB_get l ps 0 hps j ps[j] (by simp [hjp])
        have hOrd : ∀ i K, i < n → Ks[i]? = some K → K.putsIn j = true → listed.getD i true = true → listed.getD j true = true := fun i K hin hi hp hli => hord i j K hin hjn hi hp hli
        obtain rfl : oj' = oj := by
          rw [Nat.zero_add, hoj'] at hoj2
          exact (Option.some.inj hoj2).symm
        have hfree := under_of _ (allV_of n _ (freeOps3_get _ hop j oj' Ks[j] ps[j] hit) xs hx w' hb) (fun k hk => by
          obtain ⟨e, hee, hbe, hek⟩ := hpj k hk
          have h1 := hall e hee hbe
          rw [hek] at h1
          by_cases hkn : k < n
          · refine hf k hkn ?_
            by_cases h2 : k < listed.size
            · simp [h2] at h1 ⊢; exact h1
            · simp [Array.getElem?_eq_none (Nat.le_of_not_lt h2)] at h1
          · unfold factAt
            rw [List.getElem?_eq_none (l := Ks.map HK.fact) (by simp; omega)]
            trivial)
        have go : ∀ (v : Value) (w2 : World), Below w.heap.size w' w2 → Ks[j].fact v w2 → NInv w.heap.size Ks (listed.setIfInBounds j true) (xs.set j v) w2 →
            wpAnyC P .any l.toArray Q (fun _ => True) n (fun listed' a' w' => Region.seqB .any l.toArray (l.toArray.size - n) n listed' = true ∧ wpList P l.toArray Q (l.drop n) a' w') f (listed.setIfInBounds j true) ((fillA (l.take n) a xs).put oj'.dst v) w2 := by
          intro v w2 hb2 hv hal
          rw [fill_set (l.take n) j oj' a xs v hd (by rw [List.getElem?_take, if_pos hjn]; exact hoj') (by omega)]
          refine ih _ _ _ (inv.set hj hjn) ?_ (by simpa using hx) (hb.trans hb2) (fun k hk hkl => ?_) hal (fun i b K hin hbn hi hp hli => ?_)
          · have := rest_set n listed j hjn hjl
            omega
          · by_cases hkj : k = j
            · subst hkj
              unfold factAt
              simp only [List.getElem?_map, List.getElem?_eq_getElem hjR, Option.map_some, List.getElem?_set_self (show k < xs.length by omega)]
              exact hv
            · have h1 := hf k hk (by rwa [getD_set_ne true (Ne.symm hkj)] at hkl)
              unfold factAt at h1 ⊢
              rw [List.getElem?_set_ne (Ne.symm hkj)]
              have hkR : k < Ks.length := by omega
              have hkx : k < xs.length := by omega
              simp only [List.getElem?_map, List.getElem?_eq_getElem hkR, Option.map_some, List.getElem?_eq_getElem hkx] at h1 ⊢
              exact hst _ (List.getElem_mem hkR) _ _ _ hb2 h1
          · by_cases hbj : b = j
            · subst hbj
              simp [Array.getElem?_setIfInBounds]
              split <;> simp
            · rw [getD_set_ne true (Ne.symm hbj)]
              by_cases hij : i = j
              · subst hij
                -- its predecessors are listed
                obtain ⟨hm1⟩ := putsAfter_get hPut i K hi hp
                obtain ⟨js, hjs, hbm⟩ := hm1
                obtain rfl : js = ps[i] := by rw [List.getElem?_eq_getElem hjp] at hjs; exact (Option.some.inj hjs).symm
                obtain ⟨e, hee, hbe, hek⟩ := hpj b hbm
                have h1 := hall e hee hbe
                rw [hek] at h1
                by_cases h2 : b < listed.size
                · simp [h2] at h1 ⊢; exact h1
                · simp [Array.getElem?_eq_none (Nat.le_of_not_lt h2)] at h1
              · rw [getD_set_ne true (Ne.symm hij)] at hli
                exact hord i b K hin hbn hi hp hli
        have hKj : Ks[j]? = some Ks[j] := List.getElem?_eq_getElem hjR
        have hsz : w.heap.size ≤ w'.heap.size := hb.size
        unfold wpOp
        simp only [hoj]
        generalize hq : Ks[j] = Kj at *
        cases Kj with
        | val r =>
          unfold freeOp3 at hfree
          dsimp only at hfree
          unfold freeOp at hfree
          split
          · rename_i hw
            rw [if_pos hw] at hfree
            refine .inl (Oper.wp_mono (fun a' w2 h => ?_) hfree)
            obtain ⟨hb2, v, rfl, hv⟩ := h
            exact ⟨trivial, go v w2 (hb2.mono hsz) hv (n_val hap hKj hb2)⟩
          · rename_i hw
            rw [if_neg hw] at hfree
            exact ⟨trivial, go undef w' (Below.refl _ _) hfree (n_val hap hKj (Below.refl _ _))⟩
        | new ty k m =>
          unfold freeOp3 at hfree
          dsimp only at hfree
          obtain ⟨hw, hop2, hz⟩ := hfree
          rw [if_pos hw]
          refine .inl ?_
          unfold Oper.wp
          rw [run_op_alloc hop2 hz]
          refine ⟨trivial, go _ _ ((Below.refl _ _).alloc hsz _) trivial (n_new hap hKj (by omega) hsz (fun i K hi hp => ?_))⟩
          -- what is stored into it comes behind it
          cases hli : listed.getD i true with
          | false => rfl
          | true =>
            have hin : i < n := by
              have := (List.getElem?_eq_some_iff.1 hi).1
              omega
            exact absurd (hOrd i K hin hi hp hli) (by rw [hjl]; decide)
        | put b fv =>
          unfold freeOp3 at hfree
          dsimp only at hfree
          obtain ⟨hw, ty, k, m, x, y, hop2, hKb, hbj, hT, hxv, hyv⟩ := hfree
          have hbn : b < n := by
            have := (List.getElem?_eq_some_iff.1 hKb).1
            omega
          obtain ⟨e, hee, hbe, hek⟩ := hpj b hbj
          have hbl : listed.getD b true = true := by
            have h1 := hall e hee hbe
            rw [hek] at h1
            by_cases h2 : b < listed.size
            · simp [h2] at h1 ⊢; exact h1
            · simp [Array.getElem?_eq_none (Nat.le_of_not_lt h2)] at h1
          have hbx : xs[b]? = some xs[b] := List.getElem?_eq_getElem (by omega)
          obtain ⟨B, hBx, hBN, hB⟩ := hap.is b ty k m hKb hbl _ hbx
          rw [hBx] at hbx
          have hxv' := hxv _ hbx
          rw [if_pos hw]
          refine .inl ?_
          unfold Oper.wp
          have hrun := run_op_store hop2 hxv' hyv (run_storeVar_arr (off := 0) hT hB (by omega))
          rw [show arr k m (patch (contF listed b Ks 0) 0 m fv) = arr k m fv from arr_ext fun i hi => patch_whole _ _ _ _ hi] at hrun
          rw [hrun]
          exact ⟨trivial, go _ _ (row_below (Below.refl _ _) hBN _) trivial (n_put hap hKj hKb hbl hbx hjl hOnce hB hBN)⟩
  obtain ⟨xs0, hx0, hf0⟩ := fill_own (l.take n) a
  have H := main n (Array.replicate l.toArray.size false) xs0 w.drew inv0 (by
    unfold restN
    rw [List.filter_eq_self.2 (fun i hi => ?_)]
    · simp
    · have := List.mem_range.1 hi
      have : i < l.length := by omega
      simp [this]) (by simp at hx0; omega) (Below.refl _ _) (fun j hj hl => by
    have : j < l.length := by omega
    simp [this] at hl) ⟨fun k ty kk m hk hl => by
    have : k < n := by
      have := (List.getElem?_eq_some_iff.1 hk).1
      omega
    have : k < l.length := by omega
    simp [this] at hl, fun i j ty k m ty' k' m' hi hj hl => by
    have : i < n := by
      have := (List.getElem?_eq_some_iff.1 hi).1
      omega
    have : i < l.length := by omega
    simp [this] at hl⟩ (fun i j K hi hj h1 h2 hl => by
    have : i < l.length := by omega
    simp [this] at hl)
  rw [hf0] at H
  refine wp_region_any hm ?_
  have hdl : (l.drop n).length = l.toArray.size - n := by simp
  have := wpAny_of_anyC (g := l.toArray.size - n) (fun listed a' w' hL => by
    have := wpAny_of_seq (md := .any) (Q' := Q) (l.drop n) n listed a' w' (fun j => by simp [List.getElem?_drop]) (by rw [hdl]; exact hL.1) hL.2
    rwa [hdl] at this) _ _ _ _ H
  rw [show n + (l.toArray.size - n) = l.toArray.size by omega] at this
  exact this


end
end Go.Proofs.Ythgjhipfgdlbnaa
