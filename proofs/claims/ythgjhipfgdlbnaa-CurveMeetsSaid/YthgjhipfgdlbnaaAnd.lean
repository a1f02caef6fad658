/- A region that draws its order, with several new blocks: they lie apart. No program is in sight. -/
import Derived.Test.YthgjhipfgdlbnaaAny
namespace Go.Proofs.Ythgjhipfgdlbnaa
set_option linter.unusedSimpArgs false
set_option linter.unusedVariables false
open Go.RowKit

def isAlloc (o : Oper) : Bool := match o.op with | .alloc _ => true | _ => false
/-- A value is a pointer to a block that is there. -/
def InHeap (v : Value) (w : World) : Prop := ∃ B, v = .pointer (some ⟨B, 0, none⟩) ∧ B < w.heap.size
theorem InHeap.below {v : Value} {w w' : World} (h : InHeap v w) (hb : Below w.heap.size w w') : InHeap v w' := by
  obtain ⟨B, rfl, hB⟩ := h
  exact ⟨B, rfl, Nat.lt_of_lt_of_le hB hb.size⟩
def newAddr (w : World) : Addr := ⟨w.heap.size, 0, none⟩
/-- What an operation gives; a new block is one behind all others. -/
def freeOp2 (P : Program) (ops : Array Oper) (Q : Exit → Act → World → Prop) (o : Oper) (r : Fact) (a : Act) (w : World) : Prop :=
  match o.op with
  | .alloc _ => Region.wanted o (yielded ops a.tmps) = true ∧ (∃ b, (execOp a.eval o).run P w = .ok (.value (.pointer (some (newAddr w)))) (w.alloc b) ∧ r (.pointer (some (newAddr w))) (w.alloc b))
  | _ => freeOp P ops Q o r a w
def freeOps2 (P : Program) (ops : Array Oper) (Q : Exit → Act → World → Prop) (n : Nat) (hd : List Oper) (a : Act) (w0 : World) (R : List Fact) : List (Oper × Fact × List Nat) → Prop
  | [] => True
  | (o, r, js) :: l => (allV n fun xs => ∀ w', Below w0.heap.size w0 w' → under R xs w' js (freeOp2 P ops Q o r (fillA hd a xs) w')) ∧ freeOps2 P ops Q n hd a w0 R l
def apartAt (xs : List Value) (i j : Nat) : Prop := match xs[i]?, xs[j]? with | some x, some y => x ≠ y | _, _ => True
def underD (xs : List Value) : List (Nat × Nat) → Prop → Prop
  | [], p => p
  | d :: ds, p => apartAt xs d.1 d.2 → underD xs ds p
theorem underD_of {xs : List Value} {p : Prop} : ∀ (ds : List (Nat × Nat)), underD xs ds p → (∀ d ∈ ds, apartAt xs d.1 d.2) → p
  | [], h, _ => h
  | d :: ds, h, hd => underD_of ds (h (hd d (by simp))) (fun k hk => hd k (by simp [hk]))
def pairsB (l : List Oper) (n : Nat) (D : List (Nat × Nat)) : Bool :=
  D.all fun d => decide (d.1 < d.2) && decide (d.2 < n) && (match l[d.1]? with | some o => isAlloc o | none => false) && (match l[d.2]? with | some o => isAlloc o | none => false)

section
variable {P : Program} {Q : Exit → Act → World → Prop} {l : List Oper} {n : Nat} {a : Act} {w0 : World}
theorem freeOps2_get {R : List Fact} {hd : List Oper} : ∀ (items : List (Oper × Fact × List Nat)), freeOps2 P l.toArray Q n hd a w0 R items → ∀ (i : Nat) (o : Oper) (r : Fact) (js : List Nat), items[i]? = some (o, r, js) →
    allV n fun xs => ∀ w', Below w0.heap.size w0 w' → under R xs w' js (freeOp2 P l.toArray Q o r (fillA hd a xs) w')
  | [], _, _, _, _, _, h => by simp at h
  | (o', r', js') :: items, h, 0, o, r, js, hi => by
    simp only [List.getElem?_cons_zero, Option.some.injEq, Prod.mk.injEq] at hi
    obtain ⟨rfl, rfl, rfl⟩ := hi
    exact h.1
  | (o', r', js') :: items, h, i + 1, o, r, js, hi => freeOps2_get items h.2 i o r js (by simpa using hi)

theorem isAlloc_op {o : Oper} (h : isAlloc o = true) : ∃ ty, o.op = .alloc ty := by
  unfold isAlloc at h
  split at h
  · rename_i ty he
    exact ⟨ty, he⟩
  · cases h
/-- New blocks that are listed are there, and lie apart. -/
structure ApInv (l : List Oper) (n : Nat) (listed : Array Bool) (xs : List Value) (w : World) : Prop where
  inh : ∀ k o, k < n → l[k]? = some o → isAlloc o = true → listed.getD k true = true → ∀ x, xs[k]? = some x → InHeap x w
  ap : ∀ i j o o', i < n → j < n → l[i]? = some o → l[j]? = some o' → isAlloc o = true → isAlloc o' = true → listed.getD i true = true → listed.getD j true = true → i ≠ j → apartAt xs i j
theorem ap_end {D : List (Nat × Nat)} {listed : Array Bool} {xs : List Value} {w : World} (hD : pairsB l n D = true) (h : ApInv l n listed xs w) (hl : ∀ i, i < n → listed.getD i true = true) : ∀ d ∈ D, apartAt xs d.1 d.2 := by
  intro d hd
  unfold pairsB at hD
  rw [List.all_eq_true] at hD
  have h1 := hD d hd
  simp only [Bool.and_eq_true, decide_eq_true_eq] at h1
  obtain ⟨⟨⟨h2, h3⟩, h4⟩, h5⟩ := h1
  split at h4
  · rename_i o ho
    split at h5
    · rename_i o' ho'
      exact h.ap d.1 d.2 o o' (by omega) h3 ho ho' h4 h5 (hl _ (by omega)) (hl _ h3) (by omega)
    · cases h5
  · cases h4
theorem apart_symm {xs : List Value} {i j : Nat} (h : apartAt xs i j) : apartAt xs j i := by
  unfold apartAt at *
  split
  · rename_i x y hx hy
    rw [hx, hy] at h
    exact Ne.symm h
  · trivial
theorem ap_set {listed : Array Bool} {xs : List Value} {w w2 : World} {j : Nat} {oj : Oper} {v : Value} (h : ApInv l n listed xs w) (hoj : l[j]? = some oj) (hx : xs.length = n) (hj : j < n) (hjl : listed.getD j true = false) (hb : Below w.heap.size w w2)
    (hal : isAlloc oj = true → v = .pointer (some (newAddr w)) ∧ w.heap.size < w2.heap.size) : ApInv l n (listed.setIfInBounds j true) (xs.set j v) w2 := by
  have key : ∀ k o', k < n → l[k]? = some o' → isAlloc o' = true → listed.getD k true = true → k ≠ j → isAlloc oj = true → apartAt (xs.set j v) k j := by
    intro k o' hk ho' ha' hl hkj ha
    obtain ⟨rfl, _⟩ := hal ha
    unfold apartAt
    rw [List.getElem?_set_ne (Ne.symm hkj), List.getElem?_set_self (by omega)]
    split
    · rename_i x y hx1 hy1
      injection hy1 with hy1
      subst hy1
      obtain ⟨B, rfl, hB⟩ := h.inh k o' hk ho' ha' hl _ hx1
      intro e
      injection e with e
      injection e with e
      unfold newAddr at e
      injection e with e
      omega
    · trivial
  refine ⟨fun k o hk ho ha hl x hxk => ?_, fun i k o o' hi hk ho ho' ha ha' hli hlk hne => ?_⟩
  · by_cases hkj : k = j
    · subst hkj
      obtain rfl : o = oj := by rw [hoj] at ho; exact (Option.some.inj ho).symm
      obtain ⟨rfl, h2⟩ := hal ha
      rw [List.getElem?_set_self (by omega)] at hxk
      obtain rfl := Option.some.inj hxk
      exact ⟨_, rfl, h2⟩
    · rw [List.getElem?_set_ne (Ne.symm hkj)] at hxk
      rw [getD_set_ne true (Ne.symm hkj)] at hl
      exact (h.inh k o hk ho ha hl x hxk).below hb
  · by_cases hij : i = j
    · subst hij
      obtain rfl : o = oj := by rw [hoj] at ho; exact (Option.some.inj ho).symm
      rw [getD_set_ne true hne] at hlk
      exact apart_symm (key k o' hk ho' ha' hlk (Ne.symm hne) ha)
    · by_cases hkj : k = j
      · subst hkj
        obtain rfl : o' = oj := by rw [hoj] at ho'; exact (Option.some.inj ho').symm
        rw [getD_set_ne true (Ne.symm hij)] at hli
        exact key i o hi ho ha hli hij ha'
      · rw [getD_set_ne true (Ne.symm hij)] at hli
        rw [getD_set_ne true (Ne.symm hkj)] at hlk
        have := h.ap i k o o' hi hk ho ho' ha ha' hli hlk hne
        unfold apartAt at this ⊢
        rw [List.getElem?_set_ne (Ne.symm hij), List.getElem?_set_ne (Ne.symm hkj)]
        exact this

/-- **A region that draws its order: each operation of the head, told by itself; D: pairs of new blocks that lie apart.** R: what each gives; ps: behind which of the others it comes. -/
theorem wp_region_free2 {id : Nat} {w : World} (n : Nat) (R : List Fact) (ps : List (List Nat)) (D : List (Nat × Nat)) (hm : P.follows .mixedOrders = true) (hB : freeB l n ps = true) (hD : pairsB l n D = true) (hR : R.length = n) (hst : ∀ r ∈ R, Stays r)
    (hop : freeOps2 P l.toArray Q n (l.take n) a w.drew R ((l.take n).zip (R.zip ps)))
    (hend : allV n fun xs => ∀ w', Below w.heap.size w.drew w' → under R xs w' (List.range n) (underD xs D (wpList P l.toArray Q (l.drop n) (fillA (l.take n) a xs) w'))) : (Code.region id l.toArray true).wp P Q a w := by
  simp only [freeB, Bool.and_eq_true, decide_eq_true_eq] at hB
  obtain ⟨⟨⟨⟨⟨⟨⟨hsel, hn⟩, hp⟩, hs⟩, hc⟩, hd⟩, hps⟩, hseq⟩ := hB
  have hn' : n < l.toArray.size := by simpa using hn
  have inv0 : HeadInv .any l.toArray n (Array.replicate l.toArray.size false) :=
    ⟨by simp, fun j oj _ hl => (by rw [getD_replicate_false] at hl; cases hl), fun t _ ht => getD_in (by simpa using ht) (getD_replicate_false _ _)⟩
  have main : ∀ (f : Nat) (listed : Array Bool) (xs : List Value) (w' : World), HeadInv .any l.toArray n listed → restN n listed = f → xs.length = n → Below w.heap.size w.drew w' →
      (∀ j, j < n → listed.getD j true = true → factAt R xs w' j) → ApInv l n listed xs w' →
      wpAnyC P .any l.toArray Q (fun _ => True) n (fun listed' a' w' => Region.seqB .any l.toArray (l.toArray.size - n) n listed' = true ∧ wpList P l.toArray Q (l.drop n) a' w') f listed (fillA (l.take n) a xs) w' := by
    intro f
    induction f with
    | zero =>
      intro listed xs w' inv hr hx hb hf hap
      refine ⟨?_, underD_of D (under_of _ (allV_of n _ hend xs hx w' hb) (fun j hj => hf j (List.mem_range.1 hj) (rest_zero n listed hr j (List.mem_range.1 hj)))) (ap_end hD hap (rest_zero n listed hr))⟩
      have e : listed = (List.replicate n true ++ List.replicate (l.length - n) false).toArray := by
        apply Array.ext_getElem?
        intro i
        have hsz := inv.size
        simp only [List.size_toArray] at hsz
        by_cases hi : i < n
        · have h1 := rest_zero n listed hr i hi
          have h2 : i < listed.size := by omega
          simp [h2] at h1
          simp [List.getElem?_append, hi, h2, h1]
        · by_cases hi2 : i < l.length
          · have h1 := inv.tail i (by omega) (by simpa using hi2)
            have h2 : i < listed.size := by omega
            simp [h2] at h1
            simp only [List.getElem?_toArray, List.getElem?_append, List.length_replicate, hi, if_false, List.getElem?_replicate]
            rw [if_pos (by omega), Array.getElem?_eq_getElem h2, h1]
          · rw [Array.getElem?_eq_none (by omega)]
            simp only [List.getElem?_toArray, List.getElem?_append, List.length_replicate, hi, if_false, List.getElem?_replicate]
            rw [if_neg (by omega)]
      rw [e]
      simpa using hseq
    | succ f ih =>
      intro listed xs w' inv hr hx hb hf hap
      obtain ⟨i, hi, hil, hmin⟩ := rest_pos n listed hr
      refine ⟨?_, fun j hj => ?_⟩
      · intro h0
        obtain ⟨o, ho, he, _⟩ := predsB_get l ps 0 hps i ps[i] (by simp)
        have : i ∈ Region.ready .any l.toArray listed := mem_ready.2 ⟨hil, o, by simpa using ho, fun e hee hbe => by
          have h1 := he e hee hbe
          have h2 := hmin e.on (by omega)
          have h3 : e.on < listed.size := by rw [inv.size]; simp; omega
          simp [h3] at h2 ⊢
          exact h2⟩
        rw [h0] at this
        cases this
      · have hjn : j < n := by
          rcases Nat.lt_or_ge j n with h | h
          · exact h
          · exact absurd hj (tail_waits hs hc hn' inv _ i rfl hi hil j h)
        refine ⟨hjn, ?_⟩
        obtain ⟨hjl, oj, hoj, hall⟩ := mem_ready.1 hj
        have hoj' : l[j]? = some oj := by simpa using hoj
        have hjp : j < ps.length := by omega
        have hjR : j < R.length := by omega
        have hit : ((l.take n).zip (R.zip ps))[j]? = some (oj, R[j], ps[j]) := by
          rw [List.getElem?_zip_eq_some]
          refine ⟨by rw [List.getElem?_take, if_pos hjn]; exact hoj', ?_⟩
          rw [List.getElem?_zip_eq_some]
          exact ⟨by simp [hjR], by simp [hjp]⟩
        obtain ⟨oj', hoj2, _, hpj⟩ := predsB_get l ps 0 hps j ps[j] (by simp [hjp])
        obtain rfl : oj' = oj := by
          rw [Nat.zero_add, hoj'] at hoj2
          exact (Option.some.inj hoj2).symm
        have hfree := under_of _ (allV_of n _ (freeOps2_get _ hop j oj' R[j] ps[j] hit) xs hx w' hb) (fun k hk => by
          obtain ⟨e, hee, hbe, hek⟩ := hpj k hk
          have h1 := hall e hee hbe
          rw [hek] at h1
          by_cases hkn : k < n
          · refine hf k hkn ?_
            by_cases h2 : k < listed.size
            · simp [h2] at h1 ⊢; exact h1
            · simp [Array.getElem?_eq_none (Nat.le_of_not_lt h2)] at h1
          · unfold factAt
            rw [List.getElem?_eq_none (l := R) (by omega)]
            trivial)
        have go : ∀ (v : Value) (w2 : World), Below w'.heap.size w' w2 → R[j] v w2 → (isAlloc oj' = true → v = .pointer (some (newAddr w')) ∧ w'.heap.size < w2.heap.size) →
            wpAnyC P .any l.toArray Q (fun _ => True) n (fun listed' a' w' => Region.seqB .any l.toArray (l.toArray.size - n) n listed' = true ∧ wpList P l.toArray Q (l.drop n) a' w') f (listed.setIfInBounds j true) ((fillA (l.take n) a xs).put oj'.dst v) w2 := by
          intro v w2 hb2 hv hal
          rw [fill_set (l.take n) j oj' a xs v hd (by rw [List.getElem?_take, if_pos hjn]; exact hoj') (by omega)]
          refine ih _ _ _ (inv.set hj hjn) ?_ (by simpa using hx) (hb.trans (hb2.mono hb.size)) (fun k hk hkl => ?_) (ap_set hap hoj' hx hjn hjl hb2 hal)
          · have := rest_set n listed j hjn hjl
            omega
          · by_cases hkj : k = j
            · subst hkj
              unfold factAt
              simp only [List.getElem?_eq_getElem hjR, List.getElem?_set_self (show k < xs.length by omega)]
              exact hv
            · have h1 := hf k hk (by rwa [getD_set_ne true (Ne.symm hkj)] at hkl)
              unfold factAt at h1 ⊢
              rw [List.getElem?_set_ne (Ne.symm hkj)]
              have hkR : k < R.length := by omega
              have hkx : k < xs.length := by omega
              simp only [List.getElem?_eq_getElem hkR, List.getElem?_eq_getElem hkx] at h1 ⊢
              exact hst _ (List.getElem_mem hkR) _ _ _ hb2 h1
        unfold wpOp
        simp only [hoj]
        by_cases hA : isAlloc oj' = true
        · obtain ⟨ty, hop2⟩ := isAlloc_op hA
          unfold freeOp2 at hfree
          rw [hop2] at hfree
          obtain ⟨hw, b, hrun, hr2⟩ := hfree
          rw [if_pos hw]
          refine .inl ?_
          unfold Oper.wp
          rw [hrun]
          exact ⟨trivial, go _ _ ((Below.refl _ _).alloc (Nat.le_refl _) _) hr2 (fun _ => ⟨rfl, by simp⟩)⟩
        · have hfree : freeOp P l.toArray Q oj' R[j] (fillA (l.take n) a xs) w' := by
            unfold freeOp2 at hfree
            unfold isAlloc at hA
            split at hfree
            · rename_i ty he
              rw [he] at hA
              exact absurd rfl hA
            · exact hfree
          unfold freeOp at hfree
          split
          · rename_i hw
            rw [if_pos hw] at hfree
            refine .inl (Oper.wp_mono (fun a' w2 h => ?_) hfree)
            obtain ⟨hb2, v, rfl, hv⟩ := h
            exact ⟨trivial, go v w2 hb2 hv (fun h => absurd h hA)⟩
          · rename_i hw
            rw [if_neg hw] at hfree
            exact ⟨trivial, go undef w' (Below.refl _ _) hfree (fun h => absurd h hA)⟩
  obtain ⟨xs0, hx0, hf0⟩ := fill_own (l.take n) a
  have H := main n (Array.replicate l.toArray.size false) xs0 w.drew inv0 (by
    unfold restN
    rw [List.filter_eq_self.2 (fun i hi => ?_)]
    · simp
    · have := List.mem_range.1 hi
      have : i < l.length := by omega
      simp [this]) (by simp at hx0; omega) (Below.refl _ _) (fun j hj hl => by
    have : j < l.length := by omega
    simp [this] at hl) ⟨fun k o hk ho ha hl => by
    have : k < l.length := by omega
    simp [this] at hl, fun i j o o' hi hj ho ho' ha ha' hl => by
    have : i < l.length := by omega
    simp [this] at hl⟩
  rw [hf0] at H
  refine wp_region_any hm ?_
  have hdl : (l.drop n).length = l.toArray.size - n := by simp
  have := wpAny_of_anyC (g := l.toArray.size - n) (fun listed a' w' hL => by
    have := wpAny_of_seq (md := .any) (Q' := Q) (l.drop n) n listed a' w' (fun j => by simp [List.getElem?_drop]) (by rw [hdl]; exact hL.1) hL.2
    rwa [hdl] at this) _ _ _ _ H
  rw [show n + (l.toArray.size - n) = l.toArray.size by omega] at this
  exact this


variable {ops : Array Oper} {o : Oper} {r : Fact} {w : World}
theorem free2_alloc {ty m : Nat} {k : IntKind} (hg : Region.wanted o (yielded ops a.tmps) = true) (ho : o.op = .alloc ty) (hz : ZeroT P ty k m)
    (h : r (.pointer (some ⟨w.heap.size, 0, none⟩)) (w.alloc (.cells (arr k m fun _ => 0) ty))) : freeOp2 P ops Q o r a w := by
  unfold freeOp2
  rw [ho]
  exact ⟨hg, _, run_op_alloc ho hz, h⟩
theorem free2_of (h : freeOp P ops Q o r a w) (ho : isAlloc o = false) : freeOp2 P ops Q o r a w := by
  unfold freeOp2
  unfold isAlloc at ho
  split
  · rename_i ty he
    rw [he] at ho
    cases ho
  · exact h
end
end Go.Proofs.Ythgjhipfgdlbnaa
