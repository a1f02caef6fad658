/- A region that draws its order: what each operation gives is told in whatever order; no program is in sight. -/
import Derived.Test.YthgjhipfgdlbnaaCan
namespace Go.Proofs.Ythgjhipfgdlbnaa
set_option linter.unusedSimpArgs false
set_option linter.unusedVariables false
open Go.RowKit

/-- What a value is to be, in a world. -/
abbrev Fact := Value → World → Prop

/-- A frame, into which values are put. -/
def fillA : List Oper → Act → List Value → Act
  | o :: l, a, x :: xs => fillA l (a.put o.dst x) xs
  | _, a, _ => a
def allV : Nat → (List Value → Prop) → Prop
  | 0, p => p []
  | n + 1, p => ∀ x, allV n fun xs => p (x :: xs)
theorem allV_of : ∀ (n : Nat) (p : List Value → Prop), allV n p → ∀ xs, xs.length = n → p xs
  | 0, p, h, xs, hx => by cases xs with | nil => exact h | cons x xs => simp at hx
  | n + 1, p, h, xs, hx => by
    cases xs with
    | nil => simp at hx
    | cons x xs => exact allV_of n (fun xs => p (x :: xs)) (h x) xs (by simpa using hx)
def factAt (R : List Fact) (xs : List Value) (w : World) (j : Nat) : Prop :=
  match R[j]?, xs[j]? with
  | some r, some x => r x w
  | _, _ => True
def under (R : List Fact) (xs : List Value) (w : World) : List Nat → Prop → Prop
  | [], p => p
  | j :: js, p => factAt R xs w j → under R xs w js p
theorem under_of {R : List Fact} {xs : List Value} {w : World} {p : Prop} : ∀ (js : List Nat), under R xs w js p → (∀ j ∈ js, factAt R xs w j) → p
  | [], h, _ => h
  | j :: js, h, hj => under_of js (h (hj j (by simp))) (fun k hk => hj k (by simp [hk]))
/-- What an operation gives, where it is wanted. -/
def freeOp (P : Program) (ops : Array Oper) (Q : Exit → Act → World → Prop) (o : Oper) (r : Fact) (a : Act) (w : World) : Prop :=
  if Region.wanted o (yielded ops a.tmps) then o.wp P a w (fun a' w' => Below w.heap.size w w' ∧ ∃ v, a' = a.put o.dst v ∧ r v w') Q else r undef w
def freeOps (P : Program) (ops : Array Oper) (Q : Exit → Act → World → Prop) (n : Nat) (hd : List Oper) (a : Act) (w0 : World) (R : List Fact) : List (Oper × Fact × List Nat) → Prop
  | [] => True
  | (o, r, js) :: l => (allV n fun xs => ∀ w', Below w0.heap.size w0 w' → under R xs w' js (freeOp P ops Q o r (fillA hd a xs) w')) ∧ freeOps P ops Q n hd a w0 R l

def dstsB : List Oper → Bool
  | [] => true
  | o :: l => (o.dst.isNone || l.all fun o' => o'.dst != o.dst) && dstsB l
def predsB (ops : List Oper) : Nat → List (List Nat) → Bool
  | _, [] => true
  | i, js :: l => (match ops[i]? with | some o => (o.after.all fun e => !Region.binds .any e || decide (e.on < i)) && js.all (fun j => o.after.any fun e => Region.binds .any e && e.on == j) | none => false) && predsB ops (i + 1) l
def freeB (l : List Oper) (n : Nat) (ps : List (List Nat)) : Bool :=
  Region.noSelect l.toArray && decide (n < l.length) && decide (ps.length = n) && Region.sinkB .any l.toArray n && Region.chainB .any l.toArray n && dstsB (l.take n) && predsB l 0 ps &&
    Region.seqB .any l.toArray (l.length - n) n (List.replicate n true ++ List.replicate (l.length - n) false).toArray

theorem put_comm (a : Act) {d d' : Option Tmp} (x y : Value) (h : d = none ∨ d' = none ∨ d ≠ d') : (a.put d x).put d' y = (a.put d' y).put d x := by
  cases d with
  | none => rfl
  | some d =>
    cases d' with
    | none => rfl
    | some d' =>
      have hne : d ≠ d' := by
        rcases h with h | h | h
        · cases h
        · cases h
        · exact fun e => h (by rw [e])
      simp only [Act.put]
      rw [Array.setIfInBounds_comm _ _ hne]
theorem put_put (a : Act) (d : Option Tmp) (x y : Value) : (a.put d x).put d y = a.put d y := by
  cases d with
  | none => rfl
  | some d => simp only [Act.put]; rw [Array.setIfInBounds_setIfInBounds]
theorem put_own (a : Act) (d : Option Tmp) : ∃ x, a.put d x = a := by
  cases d with
  | none => exact ⟨undef, rfl⟩
  | some d =>
    by_cases h : d < a.tmps.size
    · refine ⟨a.tmps[d], ?_⟩
      simp only [Act.put]
      rw [Array.setIfInBounds_def, dif_pos h, Array.set_getElem_self]
    · refine ⟨undef, ?_⟩
      simp only [Act.put]
      rw [Array.setIfInBounds_def, dif_neg h]
theorem fill_own : ∀ (l : List Oper) (a : Act), ∃ xs, xs.length = l.length ∧ fillA l a xs = a
  | [], a => ⟨[], rfl, rfl⟩
  | o :: l, a => by
    obtain ⟨x, hx⟩ := put_own a o.dst
    obtain ⟨xs, hl, hf⟩ := fill_own l a
    exact ⟨x :: xs, by simp [hl], by simp only [fillA]; rw [hx, hf]⟩
theorem fill_put : ∀ (l : List Oper) (a : Act) (xs : List Value) (d : Option Tmp) (y : Value), (d = none ∨ ∀ o ∈ l, o.dst ≠ d) → (fillA l a xs).put d y = fillA l (a.put d y) xs
  | [], a, xs, d, y, _ => rfl
  | o :: l, a, [], d, y, _ => rfl
  | o :: l, a, x :: xs, d, y, h => by
    simp only [fillA]
    rw [fill_put l _ xs d y (h.imp id fun h o' ho' => h o' (by simp [ho']))]
    rw [put_comm a x y (by rcases h with h | h; exact .inr (.inl h); exact .inr (.inr (h o (by simp))))]
theorem fill_set : ∀ (l : List Oper) (i : Nat) (o : Oper) (a : Act) (xs : List Value) (v : Value), dstsB l = true → l[i]? = some o → i < xs.length → (fillA l a xs).put o.dst v = fillA l a (xs.set i v)
  | [], _, _, _, _, _, _, h, _ => by simp at h
  | p :: l, i, o, a, [], v, _, _, h => by simp at h
  | p :: l, 0, o, a, x :: xs, v, hd, ho, _ => by
    simp only [List.getElem?_cons_zero, Option.some.injEq] at ho
    subst ho
    simp only [fillA, List.set_cons_zero]
    simp only [dstsB, Bool.and_eq_true, Bool.or_eq_true, Option.isNone_iff_eq_none, List.all_eq_true, bne_iff_ne] at hd
    rw [fill_put l _ xs _ v hd.1, put_put]
  | p :: l, i + 1, o, a, x :: xs, v, hd, ho, hi => by
    simp only [List.getElem?_cons_succ] at ho
    simp only [fillA, List.set_cons_succ]
    simp only [dstsB, Bool.and_eq_true] at hd
    exact fill_set l i o _ xs v hd.2 ho (by simpa using hi)

/-- How many of the head are not listed. -/
def restN (n : Nat) (listed : Array Bool) : Nat := ((List.range n).filter fun i => !listed.getD i true).length
theorem rest_set (n : Nat) (listed : Array Bool) (i : Nat) (hi : i < n) (hl : listed.getD i true = false) : restN n listed = restN n (listed.setIfInBounds i true) + 1 := by
  have key : ∀ m, ((List.range m).filter fun k => !listed.getD k true).length = ((List.range m).filter fun k => !(listed.setIfInBounds i true).getD k true).length + if i < m then 1 else 0 := by
    intro m
    induction m with
    | zero => rfl
    | succ m ih =>
      rw [List.range_succ, List.filter_append, List.filter_append, List.length_append, List.length_append, ih]
      by_cases h : i = m
      · subst h
        have hs : (listed.setIfInBounds i true).getD i true = true := getD_set_true' listed i
        simp only [List.filter_cons, List.filter_nil, hl, hs]
        simp
      · have hs : (listed.setIfInBounds i true).getD m true = listed.getD m true := getD_set_ne true h
        simp only [List.filter_cons, List.filter_nil, hs]
        by_cases h2 : i < m
        · simp only [if_pos h2, if_pos (show i < m + 1 by omega)]; omega
        · simp only [if_neg h2, if_neg (show ¬ i < m + 1 by omega)]; omega
  have := key n
  rw [if_pos hi] at this
  exact this
where
  getD_set_true' (listed : Array Bool) (i : Nat) : (listed.setIfInBounds i true).getD i true = true := by
    simp [Array.getElem?_setIfInBounds]
    split <;> simp
theorem rest_zero (n : Nat) (listed : Array Bool) (h : restN n listed = 0) (i : Nat) (hi : i < n) : listed.getD i true = true := by
  unfold restN at h
  rw [List.length_eq_zero_iff, List.filter_eq_nil_iff] at h
  have := h i (List.mem_range.2 hi)
  simpa using this
theorem rest_pos (n : Nat) (listed : Array Bool) {f : Nat} (h : restN n listed = f + 1) : ∃ i, i < n ∧ listed.getD i true = false ∧ ∀ j, j < i → listed.getD j true = true := by
  have hex : ∃ i, i < n ∧ listed.getD i true = false := by
    refine Classical.byContradiction fun hno => ?_
    have : restN n listed = 0 := by
      unfold restN
      rw [List.length_eq_zero_iff, List.filter_eq_nil_iff]
      intro i hi
      have hi' := List.mem_range.1 hi
      cases hb : listed.getD i true
      · exact absurd ⟨i, hi', hb⟩ hno
      · simp
    omega
  obtain ⟨i, hi, hl⟩ := hex
  induction i using Nat.strongRecOn with
  | _ i ih =>
    by_cases hm : ∃ j, j < i ∧ listed.getD j true = false
    · obtain ⟨j, hj, hjl⟩ := hm
      exact ih j hj (by omega) hjl
    · refine ⟨i, hi, hl, fun j hj => ?_⟩
      cases hb : listed.getD j true
      · exact absurd ⟨j, hj, hb⟩ hm
      · rfl

section
variable {P : Program} {Q : Exit → Act → World → Prop} {l : List Oper} {n : Nat} {a : Act} {w0 : World}
theorem freeOps_get {R : List Fact} {hd : List Oper} : ∀ (items : List (Oper × Fact × List Nat)), freeOps P l.toArray Q n hd a w0 R items → ∀ (i : Nat) (o : Oper) (r : Fact) (js : List Nat), items[i]? = some (o, r, js) →
    allV n fun xs => ∀ w', Below w0.heap.size w0 w' → under R xs w' js (freeOp P l.toArray Q o r (fillA hd a xs) w')
  | [], _, _, _, _, _, h => by simp at h
  | (o', r', js') :: items, h, 0, o, r, js, hi => by
    simp only [List.getElem?_cons_zero, Option.some.injEq, Prod.mk.injEq] at hi
    obtain ⟨rfl, rfl, rfl⟩ := hi
    exact h.1
  | (o', r', js') :: items, h, i + 1, o, r, js, hi => freeOps_get items h.2 i o r js (by simpa using hi)

theorem predsB_get (ops : List Oper) : ∀ (ps : List (List Nat)) (k : Nat), predsB ops k ps = true → ∀ i js, ps[i]? = some js → ∃ o, ops[k + i]? = some o ∧ (∀ e ∈ o.after, Region.binds .any e = true → e.on < k + i) ∧ ∀ j ∈ js, ∃ e ∈ o.after, Region.binds .any e = true ∧ e.on = j
  | [], _, _, _, _, h => by simp at h
  | js :: ps, k, hB, 0, js', h => by
    simp only [predsB, Bool.and_eq_true] at hB
    obtain ⟨h1, _⟩ := hB
    simp only [List.getElem?_cons_zero, Option.some.injEq] at h
    subst h
    cases ho : ops[k]? with
    | none => rw [ho] at h1; cases h1
    | some o =>
      rw [ho] at h1
      simp only [Bool.and_eq_true, Array.all_eq_true', List.all_eq_true, Bool.or_eq_true, Bool.not_eq_true', decide_eq_true_eq, Array.any_eq_true', beq_iff_eq] at h1
      refine ⟨o, rfl, fun e he hb => ?_, fun j hj => ?_⟩
      · rcases h1.1 e he with h | h
        · rw [hb] at h; cases h
        · simpa using h
      · obtain ⟨e, he, hb, h⟩ := h1.2 j hj
        exact ⟨e, he, hb, h⟩
  | js :: ps, k, hB, i + 1, js', h => by
    simp only [predsB, Bool.and_eq_true] at hB
    have := predsB_get ops ps (k + 1) hB.2 i js' (by simpa using h)
    rwa [show k + 1 + i = k + (i + 1) from by omega] at this

/-- Facts that are kept where blocks that were there are. -/
def Stays (r : Fact) : Prop := ∀ v w w', Below w.heap.size w w' → r v w → r v w'

/-- **A region that draws its order: each operation of the head, told by itself.** R: what each gives; ps: behind which of the others it comes. -/
theorem wp_region_free {id : Nat} {w : World} (n : Nat) (R : List Fact) (ps : List (List Nat)) (hm : P.follows .mixedOrders = true) (hB : freeB l n ps = true) (hR : R.length = n) (hst : ∀ r ∈ R, Stays r)
    (hop : freeOps P l.toArray Q n (l.take n) a w.drew R ((l.take n).zip (R.zip ps)))
    (hend : allV n fun xs => ∀ w', Below w.heap.size w.drew w' → under R xs w' (List.range n) (wpList P l.toArray Q (l.drop n) (fillA (l.take n) a xs) w')) : (Code.region id l.toArray true).wp P Q a w := by
  simp only [freeB, Bool.and_eq_true, decide_eq_true_eq] at hB
  obtain ⟨⟨⟨⟨⟨⟨⟨hsel, hn⟩, hp⟩, hs⟩, hc⟩, hd⟩, hps⟩, hseq⟩ := hB
  have hn' : n < l.toArray.size := by simpa using hn
  have inv0 : HeadInv .any l.toArray n (Array.replicate l.toArray.size false) :=
    ⟨by simp, fun j oj _ hl => (by rw [getD_replicate_false] at hl; cases hl), fun t _ ht => getD_in (by simpa using ht) (getD_replicate_false _ _)⟩
  have main : ∀ (f : Nat) (listed : Array Bool) (xs : List Value) (w' : World), HeadInv .any l.toArray n listed → restN n listed = f → xs.length = n → Below w.heap.size w.drew w' →
      (∀ j, j < n → listed.getD j true = true → factAt R xs w' j) →
      wpAnyC P .any l.toArray Q (fun _ => True) n (fun listed' a' w' => Region.seqB .any l.toArray (l.toArray.size - n) n listed' = true ∧ wpList P l.toArray Q (l.drop n) a' w') f listed (fillA (l.take n) a xs) w' := by
    intro f
    induction f with
    | zero =>
      intro listed xs w' inv hr hx hb hf
      refine ⟨?_, under_of _ (allV_of n _ hend xs hx w' hb) (fun j hj => hf j (List.mem_range.1 hj) (rest_zero n listed hr j (List.mem_range.1 hj)))⟩
      have e : listed = (List.replicate n true ++ List.replicate (l.length - n) false).toArray := by
        apply Array.ext_getElem?
        intro i
        have hsz := inv.size
        simp only [List.size_toArray] at hsz
        by_cases hi : i < n
        · have h1 := rest_zero n listed hr i hi
          have h2 : i < listed.size := by omega
          simp [h2] at h1
          simp [List.getElem?_append, hi, h2, h1]
        · by_cases hi2 : i < l.length
          · have h1 := inv.tail i (by omega) (by simpa using hi2)
            have h2 : i < listed.size := by omega
            simp [h2] at h1
            simp only [List.getElem?_toArray, List.getElem?_append, List.length_replicate, hi, if_false, List.getElem?_replicate]
            rw [if_pos (by omega), Array.getElem?_eq_getElem h2, h1]
          · rw [Array.getElem?_eq_none (by omega)]
            simp only [List.getElem?_toArray, List.getElem?_append, List.length_replicate, hi, if_false, List.getElem?_replicate]
            rw [if_neg (by omega)]
      rw [e]
      simpa using hseq
    | succ f ih =>
      intro listed xs w' inv hr hx hb hf
      obtain ⟨i, hi, hil, hmin⟩ := rest_pos n listed hr
      refine ⟨?_, fun j hj => ?_⟩
      · intro h0
        obtain ⟨o, ho, he, _⟩ := predsB_get l ps 0 hps i ps[i] (by simp)
        have : i ∈ Region.ready .any l.toArray listed := mem_ready.2 ⟨hil, o, by simpa using ho, fun e hee hbe => by
          have h1 := he e hee hbe
          have h2 := hmin e.on (by omega)
          have h3 : e.on < listed.size := by rw [inv.size]; simp; omega
          simp [h3] at h2 ⊢
          exact h2⟩
        rw [h0] at this
        cases this
      · have hjn : j < n := by
          rcases Nat.lt_or_ge j n with h | h
          · exact h
          · exact absurd hj (tail_waits hs hc hn' inv _ i rfl hi hil j h)
        refine ⟨hjn, ?_⟩
        obtain ⟨hjl, oj, hoj, hall⟩ := mem_ready.1 hj
        have hoj' : l[j]? = some oj := by simpa using hoj
        have hjp : j < ps.length := by omega
        have hjR : j < R.length := by omega
        have hit : ((l.take n).zip (R.zip ps))[j]? = some (oj, R[j], ps[j]) := by
          rw [List.getElem?_zip_eq_some]
          refine ⟨by rw [List.getElem?_take, if_pos hjn]; exact hoj', ?_⟩
          rw [List.getElem?_zip_eq_some]
          exact ⟨by simp [hjR], by simp [hjp]⟩
        obtain ⟨oj', hoj2, _, hpj⟩ := predsB_get l ps 0 hps j ps[j] (by simp [hjp])
        obtain rfl : oj' = oj := by
          rw [Nat.zero_add, hoj'] at hoj2
          exact (Option.some.inj hoj2).symm
        have hfree := under_of _ (allV_of n _ (freeOps_get _ hop j oj' R[j] ps[j] hit) xs hx w' hb) (fun k hk => by
          obtain ⟨e, hee, hbe, hek⟩ := hpj k hk
          have h1 := hall e hee hbe
          rw [hek] at h1
          by_cases hkn : k < n
          · refine hf k hkn ?_
            by_cases h2 : k < listed.size
            · simp [h2] at h1 ⊢; exact h1
            · simp [Array.getElem?_eq_none (Nat.le_of_not_lt h2)] at h1
          · unfold factAt
            rw [List.getElem?_eq_none (l := R) (by omega)]
            trivial)
        have go : ∀ (v : Value) (w2 : World), Below w'.heap.size w' w2 → R[j] v w2 →
            wpAnyC P .any l.toArray Q (fun _ => True) n (fun listed' a' w' => Region.seqB .any l.toArray (l.toArray.size - n) n listed' = true ∧ wpList P l.toArray Q (l.drop n) a' w') f (listed.setIfInBounds j true) ((fillA (l.take n) a xs).put oj'.dst v) w2 := by
          intro v w2 hb2 hv
          rw [fill_set (l.take n) j oj' a xs v hd (by rw [List.getElem?_take, if_pos hjn]; exact hoj') (by omega)]
          refine ih _ _ _ (inv.set hj hjn) ?_ (by simpa using hx) (hb.trans (hb2.mono hb.size)) (fun k hk hkl => ?_)
          · have := rest_set n listed j hjn hjl
            omega
          · by_cases hkj : k = j
            · subst hkj
              unfold factAt
              simp only [List.getElem?_eq_getElem hjR, List.getElem?_set_self (show k < xs.length by omega)]
              exact hv
            · have h1 := hf k hk (by rwa [getD_set_ne true (Ne.symm hkj)] at hkl)
              unfold factAt at h1 ⊢
              rw [List.getElem?_set_ne (Ne.symm hkj)]
              have hkR : k < R.length := by omega
              have hkx : k < xs.length := by omega
              simp only [List.getElem?_eq_getElem hkR, List.getElem?_eq_getElem hkx] at h1 ⊢
              exact hst _ (List.getElem_mem hkR) _ _ _ hb2 h1
        unfold wpOp
        simp only [hoj]
        unfold freeOp at hfree
        split
        · rename_i hw
          rw [if_pos hw] at hfree
          refine .inl (Oper.wp_mono (fun a' w2 h => ?_) hfree)
          obtain ⟨hb2, v, rfl, hv⟩ := h
          exact ⟨trivial, go v w2 hb2 hv⟩
        · rename_i hw
          rw [if_neg hw] at hfree
          exact ⟨trivial, go undef w' (Below.refl _ _) hfree⟩
  obtain ⟨xs0, hx0, hf0⟩ := fill_own (l.take n) a
  have H := main n (Array.replicate l.toArray.size false) xs0 w.drew inv0 (by
    unfold restN
    rw [List.filter_eq_self.2 (fun i hi => ?_)]
    · simp
    · have := List.mem_range.1 hi
      have : i < l.length := by omega
      simp [this]) (by simp at hx0; omega) (Below.refl _ _) (fun j hj hl => by
    have : j < l.length := by omega
    simp [this] at hl)
  rw [hf0] at H
  refine wp_region_any hm ?_
  have hdl : (l.drop n).length = l.toArray.size - n := by simp
  have := wpAny_of_anyC (g := l.toArray.size - n) (fun listed a' w' hL => by
    have := wpAny_of_seq (md := .any) (Q' := Q) (l.drop n) n listed a' w' (fun j => by simp [List.getElem?_drop]) (by rw [hdl]; exact hL.1) hL.2
    rwa [hdl] at this) _ _ _ _ H
  rw [show n + (l.toArray.size - n) = l.toArray.size by omega] at this
  exact this

/-! ### Single operations -/
variable {ops : Array Oper} {o : Oper} {r : Fact} {w : World}
theorem free_v {v : Value} (hg : Region.wanted o (yielded ops a.tmps) = true) (hr : (execOp a.eval o).run P w = .ok (.value v) w) (h : r v w) : freeOp P ops Q o r a w := by
  unfold freeOp
  rw [if_pos hg]
  unfold Oper.wp
  rw [hr]
  exact ⟨Below.refl _ _, v, rfl, h⟩
theorem free_e (hg : Region.wanted o (yielded ops a.tmps) = true) (h : ∀ K : Act → World → Prop, (∀ v w', Below w.heap.size w w' → r v w' → K (a.put o.dst v) w') → o.wp P a w K Q) : freeOp P ops Q o r a w := by
  unfold freeOp
  rw [if_pos hg]
  exact h _ fun v w' hb hv => ⟨hb, v, rfl, hv⟩
theorem free_skip (hg : Region.wanted o (yielded ops a.tmps) = false) (h : r undef w) : freeOp P ops Q o r a w := by
  unfold freeOp
  rw [if_neg (by rw [hg]; decide)]
  exact h
theorem free_move {x : Operand} (hg : Region.wanted o (yielded ops a.tmps) = true) (ho : o.op = .move x) (h : r (a.eval x) w) : freeOp P ops Q o r a w :=
  free_v hg (by unfold execOp; rw [ho]; rfl) h
theorem free_alloc_arr {ty m : Nat} {k : IntKind} (hg : Region.wanted o (yielded ops a.tmps) = true) (ho : o.op = .alloc ty) (hz : ZeroT P ty k m)
    (h : r (.pointer (some ⟨w.heap.size, 0, none⟩)) (w.alloc (.cells (arr k m fun _ => 0) ty))) : freeOp P ops Q o r a w := by
  unfold freeOp
  rw [if_pos hg]
  unfold Oper.wp
  rw [run_op_alloc ho hz]
  exact ⟨(Below.refl _ _).alloc (Nat.le_refl _) _, _, rfl, h⟩
theorem free_load_arr {ty : TypeId} {x : Operand} {m t g : Nat} {k : IntKind} {f : Nat → Int} {fr : Nat × Nat} (hg : Region.wanted o (yielded ops a.tmps) = true) (ho : o.op = .load ty x) (hx : a.eval x = .pointer (some ⟨g, 0, none⟩)) (hT : RowT P ty m)
    (hc : w.heap[g]? = some (.cells (arr k m f) t fr)) (h : r (.agg (arr k m f)) w) : freeOp P ops Q o r a w := free_v hg (run_op_load ho hx (run_loadVar_arr0 hT hc)) h
theorem st_nil : ∀ r ∈ ([] : List Fact), Stays r := fun _ h => by cases h
theorem st_cons {r : Fact} {R : List Fact} (h : Stays r) (hR : ∀ r ∈ R, Stays r) : ∀ r' ∈ r :: R, Stays r' := fun r' hr => by
  rcases List.mem_cons.1 hr with rfl | hr
  · exact h
  · exact hR _ hr
/-- A value, and nothing else. -/
def Is (v : Value) : Fact := fun x _ => x = v
theorem is_stays (v : Value) : Stays (Is v) := fun _ _ _ _ h => h
/-- A new block. -/
def NewAt (N : Nat) (b : Obj) : Fact := fun x w => ∃ B, x = .pointer (some ⟨B, 0, none⟩) ∧ N ≤ B ∧ w.heap[B]? = some b
theorem new_stays (N : Nat) (b : Obj) : Stays (NewAt N b) := fun _ _ _ hb ⟨B, h1, h2, h3⟩ => ⟨B, h1, h2, (hb.block B (lt_of_block h3)).trans h3⟩
/-- A value of a kind. -/
def Some1 {α : Type} (v : α → Value) (p : α → Prop) : Fact := fun x _ => ∃ y, x = v y ∧ p y
theorem some_stays {α : Type} (v : α → Value) (p : α → Prop) : Stays (Some1 v p) := fun _ _ _ _ h => h
end
end Go.Proofs.Ythgjhipfgdlbnaa
