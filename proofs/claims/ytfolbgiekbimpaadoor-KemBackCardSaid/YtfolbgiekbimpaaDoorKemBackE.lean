/- A region that draws its order, with several new blocks: they lie apart. No program is in sight. The walks of layer 6: the reckoner's methods, of numbers that may be. The walk of layer 6: two points change places, or do not. The walk of layer 6: a step of the ladder, of numbers that may be. Plain: the prime of layer 5, and its powers; no program is in sight. Plain law of layer 5: what a number is divided by is it, to the power of the prime less 2. The ladder's numbers (plain): sums, differences, products by the prime; twice a point, two points together; what the program's steps stand for. The w -/
import Derived.Test.YtfolbgiekbimpaaDoorKemBackD
import Derived.Laws.BitsAllLaws
namespace Go.Proofs.YtfolbgiekbimpaaDoor
set_option linter.unusedSimpArgs false
set_option linter.unusedVariables false
open Go.RowKit

def isAlloc (o : Oper) : Bool := match o.op with | .alloc _ => true | _ => false
/-- A value is a pointer to a block that is there. -/
def InHeap (v : Value) (w : World) : Prop := ∃ B, v = .pointer (some ⟨B, 0, none⟩) ∧ B < w.heap.size
theorem InHeap.below {v : Value} {w w' : World} (h : InHeap v w) (hb : Below w.heap.size w w') : InHeap v w' := by
  obtain ⟨B, rfl, hB⟩ := h
  exact ⟨B, rfl, Nat.lt_of_lt_of_le hB hb.size⟩
def newAddr (w : World) : Addr := ⟨w.heap.size, 0, none⟩
/-- What an operation gives; a new block is one behind all others. -/
def freeOp2 (P : Program) (ops : Array Oper) (Q : Exit → Act → World → Prop) (o : Oper) (r : Fact) (a : Act) (w : World) : Prop :=
  match o.op with
  | .alloc _ => Region.wanted o (yielded ops a.tmps) = true ∧ (∃ b, (execOp a.eval o).run P w = .ok (.value (.pointer (some (newAddr w)))) (w.alloc b) ∧ r (.pointer (some (newAddr w))) (w.alloc b))
  | _ => freeOp P ops Q o r a w
def freeOps2 (P : Program) (ops : Array Oper) (Q : Exit → Act → World → Prop) (n : Nat) (hd : List Oper) (a : Act) (w0 : World) (R : List Fact) : List (Oper × Fact × List Nat) → Prop
  | [] => True
  | (o, r, js) :: l => (allV n fun xs => ∀ w', Below w0.heap.size w0 w' → under R xs w' js (freeOp2 P ops Q o r (fillA hd a xs) w')) ∧ freeOps2 P ops Q n hd a w0 R l
def apartAt (xs : List Value) (i j : Nat) : Prop := match xs[i]?, xs[j]? with | some x, some y => x ≠ y | _, _ => True
def underD (xs : List Value) : List (Nat × Nat) → Prop → Prop
  | [], p => p
  | d :: ds, p => apartAt xs d.1 d.2 → underD xs ds p
theorem underD_of {xs : List Value} {p : Prop} : ∀ (ds : List (Nat × Nat)), underD xs ds p → (∀ d ∈ ds, apartAt xs d.1 d.2) → p
  | [], h, _ => h
  | d :: ds, h, hd => underD_of ds (h (hd d (by simp))) (fun k hk => hd k (by simp [hk]))
def pairsB (l : List Oper) (n : Nat) (D : List (Nat × Nat)) : Bool :=
  D.all fun d => decide (d.1 < d.2) && decide (d.2 < n) && (match l[d.1]? with | some o => isAlloc o | none => false) && (match l[d.2]? with | some o => isAlloc o | none => false)

section
variable {P : Program} {Q : Exit → Act → World → Prop} {l : List Oper} {n : Nat} {a : Act} {w0 : World}
theorem freeOps2_get {R : List Fact} {hd : List Oper} : ∀ (items : List (Oper × Fact × List Nat)), freeOps2 P l.toArray Q n hd a w0 R items → ∀ (i : Nat) (o : Oper) (r : Fact) (js : List Nat), items[i]? = some (o, r, js) →
    allV n fun xs => ∀ w', Below w0.heap.size w0 w' → under R xs w' js (freeOp2 P l.toArray Q o r (fillA hd a xs) w')
  | [], _, _, _, _, _, h => by simp at h
  | (o', r', js') :: items, h, 0, o, r, js, hi => by
    simp only [List.getElem?_cons_zero, Option.some.injEq, Prod.mk.injEq] at hi
    obtain ⟨rfl, rfl, rfl⟩ := hi
    exact h.1
  | (o', r', js') :: items, h, i + 1, o, r, js, hi => freeOps2_get items h.2 i o r js (by simpa using hi)

theorem isAlloc_op {o : Oper} (h : isAlloc o = true) : ∃ ty, o.op = .alloc ty := by
  unfold isAlloc at h
  split at h
  · rename_i ty he
    exact ⟨ty, he⟩
  · cases h
/-- New blocks that are listed are there, and lie apart. -/
structure ApInv (l : List Oper) (n : Nat) (listed : Array Bool) (xs : List Value) (w : World) : Prop where
  inh : ∀ k o, k < n → l[k]? = some o → isAlloc o = true → listed.getD k true = true → ∀ x, xs[k]? = some x → InHeap x w
  ap : ∀ i j o o', i < n → j < n → l[i]? = some o → l[j]? = some o' → isAlloc o = true → isAlloc o' = true → listed.getD i true = true → listed.getD j true = true → i ≠ j → apartAt xs i j
theorem ap_end {D : List (Nat × Nat)} {listed : Array Bool} {xs : List Value} {w : World} (hD : pairsB l n D = true) (h : ApInv l n listed xs w) (hl : ∀ i, i < n → listed.getD i true = true) : ∀ d ∈ D, apartAt xs d.1 d.2 := by
  intro d hd
  unfold pairsB at hD
  rw [List.all_eq_true] at hD
  have h1 := hD d hd
  simp only [Bool.and_eq_true, decide_eq_true_eq] at h1
  obtain ⟨⟨⟨h2, h3⟩, h4⟩, h5⟩ := h1
  split at h4
  · rename_i o ho
    split at h5
    · rename_i o' ho'
      exact h.ap d.1 d.2 o o' (by omega) h3 ho ho' h4 h5 (hl _ (by omega)) (hl _ h3) (by omega)
    · cases h5
  · cases h4
theorem apart_symm {xs : List Value} {i j : Nat} (h : apartAt xs i j) : apartAt xs j i := by
  unfold apartAt at *
  split
  · rename_i x y hx hy
    rw [hx, hy] at h
    exact Ne.symm h
  · trivial
theorem ap_set {listed : Array Bool} {xs : List Value} {w w2 : World} {j : Nat} {oj : Oper} {v : Value} (h : ApInv l n listed xs w) (hoj : l[j]? = some oj) (hx : xs.length = n) (hj : j < n) (hjl : listed.getD j true = false) (hb : Below w.heap.size w w2)
    (hal : isAlloc oj = true → v = .pointer (some (newAddr w)) ∧ w.heap.size < w2.heap.size) : ApInv l n (listed.setIfInBounds j true) (xs.set j v) w2 := by
  have key : ∀ k o', k < n → l[k]? = some o' → isAlloc o' = true → listed.getD k true = true → k ≠ j → isAlloc oj = true → apartAt (xs.set j v) k j := by
    intro k o' hk ho' ha' hl hkj ha
    obtain ⟨rfl, _⟩ := hal ha
    unfold apartAt
    rw [List.getElem?_set_ne (Ne.symm hkj), List.getElem?_set_self (by omega)]
    split
    · rename_i x y hx1 hy1
      injection hy1 with hy1
      subst hy1
      obtain ⟨B, rfl, hB⟩ := h.inh k o' hk ho' ha' hl _ hx1
      intro e
      injection e with e
      injection e with e
      unfold newAddr at e
      injection e with e
      omega
    · trivial
  refine ⟨fun k o hk ho ha hl x hxk => ?_, fun i k o o' hi hk ho ho' ha ha' hli hlk hne => ?_⟩
  · by_cases hkj : k = j
    · subst hkj
      obtain rfl : o = oj := by rw [hoj] at ho; exact (Option.some.inj ho).symm
      obtain ⟨rfl, h2⟩ := hal ha
      rw [List.getElem?_set_self (by omega)] at hxk
      obtain rfl := Option.some.inj hxk
      exact ⟨_, rfl, h2⟩
    · rw [List.getElem?_set_ne (Ne.symm hkj)] at hxk
      rw [getD_set_ne true (Ne.symm hkj)] at hl
      exact (h.inh k o hk ho ha hl x hxk).below hb
  · by_cases hij : i = j
    · subst hij
      obtain rfl : o = oj := by rw [hoj] at ho; exact (Option.some.inj ho).symm
      rw [getD_set_ne true hne] at hlk
      exact apart_symm (key k o' hk ho' ha' hlk (Ne.symm hne) ha)
    · by_cases hkj : k = j
      · subst hkj
        obtain rfl : o' = oj := by rw [hoj] at ho'; exact (Option.some.inj ho').symm
        rw [getD_set_ne true (Ne.symm hij)] at hli
        exact key i o hi ho ha hli hij ha'
      · rw [getD_set_ne true (Ne.symm hij)] at hli
        rw [getD_set_ne true (Ne.symm hkj)] at hlk
        have := h.ap i k o o' hi hk ho ho' ha ha' hli hlk hne
        unfold apartAt at this ⊢
        rw [List.getElem?_set_ne (Ne.symm hij), List.getElem?_set_ne (Ne.symm hkj)]
        exact this

/-- **A region that draws its order: each operation of the head, told by itself; D: pairs of new blocks that lie apart.** R: what each gives; ps: behind which of the others it comes. -/
theorem wp_region_free2 {id : Nat} {w : World} (n : Nat) (R : List Fact) (ps : List (List Nat)) (D : List (Nat × Nat)) (hm : P.follows .mixedOrders = true) (hB : freeB l n ps = true) (hD : pairsB l n D = true) (hR : R.length = n) (hst : ∀ r ∈ R, Stays r)
    (hop : freeOps2 P l.toArray Q n (l.take n) a w.drew R ((l.take n).zip (R.zip ps)))
    (hend : allV n fun xs => ∀ w', Below w.heap.size w.drew w' → under R xs w' (List.range n) (underD xs D (wpList P l.toArray Q (l.drop n) (fillA (l.take n) a xs) w'))) : (Code.region id l.toArray true).wp P Q a w := by
  simp only [freeB, Bool.and_eq_true, decide_eq_true_eq] at hB
  obtain ⟨⟨⟨⟨⟨⟨⟨hsel, hn⟩, hp⟩, hs⟩, hc⟩, hd⟩, hps⟩, hseq⟩ := hB
  have hn' : n < l.toArray.size := by simpa using hn
  have inv0 : HeadInv .any l.toArray n (Array.replicate l.toArray.size false) :=
    ⟨by simp, fun j oj _ hl => (by rw [getD_replicate_false] at hl; cases hl), fun t _ ht => getD_in (by simpa using ht) (getD_replicate_false _ _)⟩
  have main : ∀ (f : Nat) (listed : Array Bool) (xs : List Value) (w' : World), HeadInv .any l.toArray n listed → restN n listed = f → xs.length = n → Below w.heap.size w.drew w' →
      (∀ j, j < n → listed.getD j true = true → factAt R xs w' j) → ApInv l n listed xs w' →
      wpAnyC P .any l.toArray Q (fun _ => True) n (fun listed' a' w' => Region.seqB .any l.toArray (l.toArray.size - n) n listed' = true ∧ wpList P l.toArray Q (l.drop n) a' w') f listed (fillA (l.take n) a xs) w' := by
    intro f
    induction f with
    | zero =>
      intro listed xs w' inv hr hx hb hf hap
      refine ⟨?_, underD_of D (under_of _ (allV_of n _ hend xs hx w' hb) (fun j hj => hf j (List.mem_range.1 hj) (rest_zero n listed hr j (List.mem_range.1 hj)))) (ap_end hD hap (rest_zero n listed hr))⟩
      have e : listed = (List.replicate n true ++ List.replicate (l.length - n) false).toArray := by
        apply Array.ext_getElem?
        intro i
        have hsz := inv.size
        simp only [List.size_toArray] at hsz
        by_cases hi : i < n
        · have h1 := rest_zero n listed hr i hi
          have h2 : i < listed.size := by omega
          simp [h2] at h1
          simp [List.getElem?_append, hi, h2, h1]
        · by_cases hi2 : i < l.length
          · have h1 := inv.tail i (by omega) (by simpa using hi2)
            have h2 : i < listed.size := by omega
            simp [h2] at h1
            simp only [List.getElem?_toArray, List.getElem?_append, List.length_replicate, hi, if_false, List.getElem?_replicate]
            rw [if_pos (by omega), Array.getElem?_eq_getElem h2, h1]
          · rw [Array.getElem?_eq_none (by omega)]
            simp only [List.getElem?_toArray, List.getElem?_append, List.length_replicate, hi, if_false, List.getElem?_replicate]
            rw [if_neg (by omega)]
      rw [e]
      simpa using hseq
    | succ f ih =>
      intro listed xs w' inv hr hx hb hf hap
      obtain ⟨i, hi, hil, hmin⟩ := rest_pos n listed hr
      refine ⟨?_, fun j hj => ?_⟩
      · intro h0
        obtain ⟨o, ho, he, _⟩ := predsB_get l ps 0 hps i ps[i] (by simp)
        have : i ∈ Region.ready .any l.toArray listed := mem_ready.2 ⟨hil, o, by simpa using ho, fun e hee hbe => by
          have h1 := he e hee hbe
          have h2 := hmin e.on (by omega)
          have h3 : e.on < listed.size := by rw [inv.size]; simp; omega
          simp [h3] at h2 ⊢
          exact h2⟩
        rw [h0] at this
        cases this
      · have hjn : j < n := by
          rcases Nat.lt_or_ge j n with h | h
          · exact h
          · exact absurd hj (tail_waits hs hc hn' inv _ i rfl hi hil j h)
        refine ⟨hjn, ?_⟩
        obtain ⟨hjl, oj, hoj, hall⟩ := mem_ready.1 hj
        have hoj' : l[j]? = some oj := by simpa using hoj
        have hjp : j < ps.length := by omega
        have hjR : j < R.length := by omega
        have hit : ((l.take n).zip (R.zip ps))[j]? = some (oj, R[j], ps[j]) := by
          rw [List.getElem?_zip_eq_some]
          refine ⟨by rw [List.getElem?_take, if_pos hjn]; exact hoj', ?_⟩
          rw [List.getElem?_zip_eq_some]
          exact ⟨by simp [hjR], by simp [hjp]⟩
        obtain ⟨oj', hoj2, _, hpj⟩ := predsB_get l ps 0 hps j ps[j] (by simp [hjp])
        obtain rfl : oj' = oj := by
          rw [Nat.zero_add, hoj'] at hoj2
          exact (Option.some.inj hoj2).symm
        have hfree := under_of _ (allV_of n _ (freeOps2_get _ hop j oj' R[j] ps[j] hit) xs hx w' hb) (fun k hk => by
          obtain ⟨e, hee, hbe, hek⟩ := hpj k hk
          have h1 := hall e hee hbe
          rw [hek] at h1
          by_cases hkn : k < n
          · refine hf k hkn ?_
            by_cases h2 : k < listed.size
            · simp [h2] at h1 ⊢; exact h1
            · simp [Array.getElem?_eq_none (Nat.le_of_not_lt h2)] at h1
          · unfold factAt
            rw [List.getElem?_eq_none (l := R) (by omega)]
            trivial)
        have go : ∀ (v : Value) (w2 : World), Below w'.heap.size w' w2 → R[j] v w2 → (isAlloc oj' = true → v = .pointer (some (newAddr w')) ∧ w'.heap.size < w2.heap.size) →
            wpAnyC P .any l.toArray Q (fun _ => True) n (fun listed' a' w' => Region.seqB .any l.toArray (l.toArray.size - n) n listed' = true ∧ wpList P l.toArray Q (l.drop n) a' w') f (listed.setIfInBounds j true) ((fillA (l.take n) a xs).put oj'.dst v) w2 := by
          intro v w2 hb2 hv hal
          rw [fill_set (l.take n) j oj' a xs v hd (by rw [List.getElem?_take, if_pos hjn]; exact hoj') (by omega)]
          refine ih _ _ _ (inv.set hj hjn) ?_ (by simpa using hx) (hb.trans (hb2.mono hb.size)) (fun k hk hkl => ?_) (ap_set hap hoj' hx hjn hjl hb2 hal)
          · have := rest_set n listed j hjn hjl
            omega
          · by_cases hkj : k = j
            · subst hkj
              unfold factAt
              simp only [List.getElem?_eq_getElem hjR, List.getElem?_set_self (show k < xs.length by omega)]
              exact hv
            · have h1 := hf k hk (by rwa [getD_set_ne true (Ne.symm hkj)] at hkl)
              unfold factAt at h1 ⊢
              rw [List.getElem?_set_ne (Ne.symm hkj)]
              have hkR : k < R.length := by omega
              have hkx : k < xs.length := by omega
              simp only [List.getElem?_eq_getElem hkR, List.getElem?_eq_getElem hkx] at h1 ⊢
              exact hst _ (List.getElem_mem hkR) _ _ _ hb2 h1
        unfold wpOp
        simp only [hoj]
        by_cases hA : isAlloc oj' = true
        · obtain ⟨ty, hop2⟩ := isAlloc_op hA
          unfold freeOp2 at hfree
          rw [hop2] at hfree
          obtain ⟨hw, b, hrun, hr2⟩ := hfree
          rw [if_pos hw]
          refine .inl ?_
          unfold Oper.wp
          rw [hrun]
          exact ⟨trivial, go _ _ ((Below.refl _ _).alloc (Nat.le_refl _) _) hr2 (fun _ => ⟨rfl, by simp⟩)⟩
        · have hfree : freeOp P l.toArray Q oj' R[j] (fillA (l.take n) a xs) w' := by
            unfold freeOp2 at hfree
            unfold isAlloc at hA
            split at hfree
            · rename_i ty he
              rw [he] at hA
              exact absurd rfl hA
            · exact hfree
          unfold freeOp at hfree
          split
          · rename_i hw
            rw [if_pos hw] at hfree
            refine .inl (Oper.wp_mono (fun a' w2 h => ?_) hfree)
            obtain ⟨hb2, v, rfl, hv⟩ := h
            exact ⟨trivial, go v w2 hb2 hv (fun h => absurd h hA)⟩
          · rename_i hw
            rw [if_neg hw] at hfree
            exact ⟨trivial, go undef w' (Below.refl _ _) hfree (fun h => absurd h hA)⟩
  obtain ⟨xs0, hx0, hf0⟩ := fill_own (l.take n) a
  have H := main n (Array.replicate l.toArray.size false) xs0 w.drew inv0 (by
    unfold restN
    rw [List.filter_eq_self.2 (fun i hi => ?_)]
    · simp
    · have := List.mem_range.1 hi
      have : i < l.length := by omega
      simp [this]) (by simp at hx0; omega) (Below.refl _ _) (fun j hj hl => by
    have : j < l.length := by omega
    simp [this] at hl) ⟨fun k o hk ho ha hl => by
    have : k < l.length := by omega
    simp [this] at hl, fun i j o o' hi hj ho ho' ha ha' hl => by
    have : i < l.length := by omega
    simp [this] at hl⟩
  rw [hf0] at H
  refine wp_region_any hm ?_
  have hdl : (l.drop n).length = l.toArray.size - n := by simp
  have := wpAny_of_anyC (g := l.toArray.size - n) (fun listed a' w' hL => by
    have := wpAny_of_seq (md := .any) (Q' := Q) (l.drop n) n listed a' w' (fun j => by simp [List.getElem?_drop]) (by rw [hdl]; exact hL.1) hL.2
    rwa [hdl] at this) _ _ _ _ H
  rw [show n + (l.toArray.size - n) = l.toArray.size by omega] at this
  exact this


variable {ops : Array Oper} {o : Oper} {r : Fact} {w : World}
theorem free2_alloc {ty m : Nat} {k : IntKind} (hg : Region.wanted o (yielded ops a.tmps) = true) (ho : o.op = .alloc ty) (hz : ZeroT P ty k m)
    (h : r (.pointer (some ⟨w.heap.size, 0, none⟩)) (w.alloc (.cells (arr k m fun _ => 0) ty))) : freeOp2 P ops Q o r a w := by
  unfold freeOp2
  rw [ho]
  exact ⟨hg, _, run_op_alloc ho hz, h⟩
theorem free2_of (h : freeOp P ops Q o r a w) (ho : isAlloc o = false) : freeOp2 P ops Q o r a w := by
  unfold freeOp2
  unfold isAlloc at ho
  split
  · rename_i ty he
    rw [he] at ho
    cases ho
  · exact h
end
end Go.Proofs.YtfolbgiekbimpaaDoor
namespace Go.Proofs.YtfolbgiekbimpaaDoor
set_option linter.unusedSimpArgs false
set_option linter.unusedVariables false
open Go.RowKit
attribute [local irreducible] accN byteN prodN carN diffN sqN sumN difN oneF valN bytesN invN ofN
/-- What is stored where it stood changes nothing. -/
theorem setCell_same {w : World} {B t : Nat} {k : IntKind} {n : Nat} {f : Nat → Int} (h : w.heap[B]? = some (.cells (arr k n f) t (0, 0))) (i : Nat) (hi : i < n) : w.setCell ⟨B, i, none⟩ (.int k (f i)) = w := by
  unfold World.setCell
  have e : w.heap.modify B (fun | .cells c elem frozen => .cells (if ((none : Option Nat)).isSome then c else c.setIfInBounds i (.int k (f i))) elem frozen | o => o) = w.heap := by
    apply Array.ext_getElem?
    intro j
    rw [Array.getElem?_modify]
    by_cases hj : B = j
    · subst hj
      rw [if_pos rfl, h]
      simp only [Option.map_some, Option.isSome_none, Bool.false_eq_true, if_false]
      rw [arr_set]
      congr 2
      refine arr_ext fun j hj => ?_
      unfold upd
      split
      · rename_i e; rw [e]
      · rfl
    · rw [if_neg hj]
  cases w
  simp only [World.mk.injEq, and_true]
  exact e
set_option maxRecDepth 100000 in
set_option maxHeartbeats 1000000 in
theorem keep_yes (R : Nat) (F : Nat → Nat) (w : World) (hr : w.heap[R]? = some (.cells (arr .i64 1 fun _ => 0) 48 (0, 0))) :
    Calls Tryd.prog 30 #[.pointer (some ⟨R, 0, none⟩), .agg (arr .u64 5 fun i => ((F i : Nat) : Int)), .int .i64 0] w fun e w' => e = .returned (.agg (arr .u64 5 fun i => ((F i : Nat) : Int))) ∧ Below w.heap.size w w' := by
  have hlt := lt_of_block hr
  go_enter Tryd.func30, Tryd.ntmps30
  obtain ⟨h0, h1, hsz, hb⟩ := alloc2 w (.cells (arr .u64 5 fun i => ((F i : Nat) : Int)) 51) (.cells (arr .u64 5 fun _ => 0) 51)
  replace hr := keep_below hb hlt hr
  go_upto_region 1 with (refine wpList_alloc_arr rfl rfl ZTFe ?_)
  generalize (w.alloc (.cells (arr .u64 5 fun i => ((F i : Nat) : Int)) 51)).alloc (.cells (arr .u64 5 fun _ => 0) 51) = wa at *
  (try simp only [Act.put, List.setIfInBounds_toArray, List.set_cons_zero, List.set_cons_succ])
  simp only [World.size_alloc]
  have cr := cell_arr hr 0 (by omega)
  have fr := free_arr hr 0
  have es := setCell_same hr 0 (by omega)
  clear hsz
  go_wp2_with (first | (refine wpList_load_arr rfl rfl rfl RTFe h0 ?_) | (refine wpList_store_arr rfl rfl rfl rfl RTFe h1 ?_))
  exact bodyPost_ret (results_arr rfl rfl RTFe (row_self h1)) rfl ⟨rfl, row_below hb (by omega) _⟩


set_option maxRecDepth 100000 in
set_option maxHeartbeats 1000000 in
theorem radd_yes (R : Nat) (F G : Nat → Nat) (hF : okF F 5) (hG : okF G 5) (w : World) (hr : w.heap[R]? = some (.cells (arr .i64 1 fun _ => 0) 48 (0, 0))) :
    Calls Tryd.prog 24 #[.pointer (some ⟨R, 0, none⟩), .agg (arr .u64 5 fun i => ((F i : Nat) : Int)), .agg (arr .u64 5 fun i => ((G i : Nat) : Int))] w fun e w' => e = .returned (.agg (arr .u64 5 fun i => ((sumN F G i : Nat) : Int))) ∧ Below w.heap.size w w' := by
  have hlt := lt_of_block hr
  go_enter Tryd.func24, Tryd.ntmps24
  obtain ⟨h0, h1, h2, hsz, hb⟩ := alloc3 w (.cells (arr .u64 5 fun i => ((F i : Nat) : Int)) 51) (.cells (arr .u64 5 fun i => ((G i : Nat) : Int)) 51) (.cells (arr .u64 5 fun _ => 0) 51)
  replace hr := keep_below hb hlt hr
  go_upto_region 1 with (refine wpList_alloc_arr rfl rfl ZTFe ?_)
  generalize (((w).alloc (.cells (arr .u64 5 fun i => ((F i : Nat) : Int)) 51)).alloc (.cells (arr .u64 5 fun i => ((G i : Nat) : Int)) 51)).alloc (.cells (arr .u64 5 fun _ => 0) 51) = wa at *
  (try simp only [Act.put, List.setIfInBounds_toArray, List.set_cons_zero, List.set_cons_succ])
  simp only [World.size_alloc]
  have okF' := Lib.hid hF
  have okG' := Lib.hid hG
  clear hF hG hsz
  go_wp2_with (first | (refine wpList_load_arr rfl rfl rfl RTFe h0 ?_) | (refine wpList_load_arr rfl rfl rfl RTFe h1 ?_) | (go_at_call 40; fail))
  refine (Add_yes F G okF'.out okG'.out _).mono ?_
  rintro e w4 ⟨rfl, b4⟩
  replace hr := keep_below b4 (lt_of_block hr) hr
  replace h2 := keep_below b4 (lt_of_block h2) h2
  replace hb := hb.trans (b4.mono hb.size)
  clear b4
  go_wp2_with (first | (go_at_call 30; fail))
  refine (keep_yes R _ _ hr).mono ?_
  rintro e w5 ⟨rfl, b5⟩
  replace h2 := keep_below b5 (lt_of_block h2) h2
  replace hb := hb.trans (b5.mono hb.size)
  clear b5
  go_wp2_with (first | (refine wpList_store_arr rfl rfl rfl rfl RTFe h2 ?_))
  exact bodyPost_ret (results_arr rfl rfl RTFe (row_self h2)) rfl ⟨rfl, row_below hb (by omega) _⟩


set_option maxRecDepth 100000 in
set_option maxHeartbeats 1000000 in
theorem rsub_yes (R : Nat) (F G : Nat → Nat) (hF : okF F 5) (hG : okF G 5) (w : World) (hr : w.heap[R]? = some (.cells (arr .i64 1 fun _ => 0) 48 (0, 0))) :
    Calls Tryd.prog 25 #[.pointer (some ⟨R, 0, none⟩), .agg (arr .u64 5 fun i => ((F i : Nat) : Int)), .agg (arr .u64 5 fun i => ((G i : Nat) : Int))] w fun e w' => e = .returned (.agg (arr .u64 5 fun i => ((difN F G i : Nat) : Int))) ∧ Below w.heap.size w w' := by
  have hlt := lt_of_block hr
  go_enter Tryd.func25, Tryd.ntmps25
  obtain ⟨h0, h1, h2, hsz, hb⟩ := alloc3 w (.cells (arr .u64 5 fun i => ((F i : Nat) : Int)) 51) (.cells (arr .u64 5 fun i => ((G i : Nat) : Int)) 51) (.cells (arr .u64 5 fun _ => 0) 51)
  replace hr := keep_below hb hlt hr
  go_upto_region 1 with (refine wpList_alloc_arr rfl rfl ZTFe ?_)
  generalize (((w).alloc (.cells (arr .u64 5 fun i => ((F i : Nat) : Int)) 51)).alloc (.cells (arr .u64 5 fun i => ((G i : Nat) : Int)) 51)).alloc (.cells (arr .u64 5 fun _ => 0) 51) = wa at *
  (try simp only [Act.put, List.setIfInBounds_toArray, List.set_cons_zero, List.set_cons_succ])
  simp only [World.size_alloc]
  have okF' := Lib.hid hF
  have okG' := Lib.hid hG
  clear hF hG hsz
  go_wp2_with (first | (refine wpList_load_arr rfl rfl rfl RTFe h0 ?_) | (refine wpList_load_arr rfl rfl rfl RTFe h1 ?_) | (go_at_call 41; fail))
  refine (Sub_yes F G okF'.out okG'.out _).mono ?_
  rintro e w4 ⟨rfl, b4⟩
  replace hr := keep_below b4 (lt_of_block hr) hr
  replace h2 := keep_below b4 (lt_of_block h2) h2
  replace hb := hb.trans (b4.mono hb.size)
  clear b4
  go_wp2_with (first | (go_at_call 30; fail))
  refine (keep_yes R _ _ hr).mono ?_
  rintro e w5 ⟨rfl, b5⟩
  replace h2 := keep_below b5 (lt_of_block h2) h2
  replace hb := hb.trans (b5.mono hb.size)
  clear b5
  go_wp2_with (first | (refine wpList_store_arr rfl rfl rfl rfl RTFe h2 ?_))
  exact bodyPost_ret (results_arr rfl rfl RTFe (row_self h2)) rfl ⟨rfl, row_below hb (by omega) _⟩


set_option maxRecDepth 100000 in
set_option maxHeartbeats 1000000 in
theorem rmul_yes (R : Nat) (F G : Nat → Nat) (hF : okF F 5) (hG : okF G 5) (w : World) (hr : w.heap[R]? = some (.cells (arr .i64 1 fun _ => 0) 48 (0, 0))) :
    Calls Tryd.prog 26 #[.pointer (some ⟨R, 0, none⟩), .agg (arr .u64 5 fun i => ((F i : Nat) : Int)), .agg (arr .u64 5 fun i => ((G i : Nat) : Int))] w fun e w' => e = .returned (.agg (arr .u64 5 fun i => ((prodN F G i : Nat) : Int))) ∧ Below w.heap.size w w' := by
  have hlt := lt_of_block hr
  go_enter Tryd.func26, Tryd.ntmps26
  obtain ⟨h0, h1, h2, hsz, hb⟩ := alloc3 w (.cells (arr .u64 5 fun i => ((F i : Nat) : Int)) 51) (.cells (arr .u64 5 fun i => ((G i : Nat) : Int)) 51) (.cells (arr .u64 5 fun _ => 0) 51)
  replace hr := keep_below hb hlt hr
  go_upto_region 1 with (refine wpList_alloc_arr rfl rfl ZTFe ?_)
  generalize (((w).alloc (.cells (arr .u64 5 fun i => ((F i : Nat) : Int)) 51)).alloc (.cells (arr .u64 5 fun i => ((G i : Nat) : Int)) 51)).alloc (.cells (arr .u64 5 fun _ => 0) 51) = wa at *
  (try simp only [Act.put, List.setIfInBounds_toArray, List.set_cons_zero, List.set_cons_succ])
  simp only [World.size_alloc]
  have okF' := Lib.hid hF
  have okG' := Lib.hid hG
  clear hF hG hsz
  go_wp2_with (first | (refine wpList_load_arr rfl rfl rfl RTFe h0 ?_) | (refine wpList_load_arr rfl rfl rfl RTFe h1 ?_) | (go_at_call 42; fail))
  refine (Mul_yes F G okF'.out okG'.out _).mono ?_
  rintro e w4 ⟨rfl, b4⟩
  replace hr := keep_below b4 (lt_of_block hr) hr
  replace h2 := keep_below b4 (lt_of_block h2) h2
  replace hb := hb.trans (b4.mono hb.size)
  clear b4
  go_wp2_with (first | (go_at_call 30; fail))
  refine (keep_yes R _ _ hr).mono ?_
  rintro e w5 ⟨rfl, b5⟩
  replace h2 := keep_below b5 (lt_of_block h2) h2
  replace hb := hb.trans (b5.mono hb.size)
  clear b5
  go_wp2_with (first | (refine wpList_store_arr rfl rfl rfl rfl RTFe h2 ?_))
  exact bodyPost_ret (results_arr rfl rfl RTFe (row_self h2)) rfl ⟨rfl, row_below hb (by omega) _⟩


set_option maxRecDepth 100000 in
set_option maxHeartbeats 1000000 in
theorem rsquare_yes (R : Nat) (F : Nat → Nat) (hF : okF F 5) (w : World) (hr : w.heap[R]? = some (.cells (arr .i64 1 fun _ => 0) 48 (0, 0))) :
    Calls Tryd.prog 27 #[.pointer (some ⟨R, 0, none⟩), .agg (arr .u64 5 fun i => ((F i : Nat) : Int))] w fun e w' => e = .returned (.agg (arr .u64 5 fun i => ((sqN F 1 i : Nat) : Int))) ∧ Below w.heap.size w w' := by
  have hlt := lt_of_block hr
  go_enter Tryd.func27, Tryd.ntmps27
  obtain ⟨h0, h1, hsz, hb⟩ := alloc2 w (.cells (arr .u64 5 fun i => ((F i : Nat) : Int)) 51) (.cells (arr .u64 5 fun _ => 0) 51)
  replace hr := keep_below hb hlt hr
  go_upto_region 1 with (refine wpList_alloc_arr rfl rfl ZTFe ?_)
  generalize ((w).alloc (.cells (arr .u64 5 fun i => ((F i : Nat) : Int)) 51)).alloc (.cells (arr .u64 5 fun _ => 0) 51) = wa at *
  (try simp only [Act.put, List.setIfInBounds_toArray, List.set_cons_zero, List.set_cons_succ])
  simp only [World.size_alloc]
  have okF' := Lib.hid hF
  clear hF hsz
  go_wp2_with (first | (refine wpList_load_arr rfl rfl rfl RTFe h0 ?_) | (go_at_call 43; fail))
  refine (Square_yes F okF'.out 1 (by omega) _).mono ?_
  rintro e w4 ⟨rfl, b4⟩
  replace hr := keep_below b4 (lt_of_block hr) hr
  replace h1 := keep_below b4 (lt_of_block h1) h1
  replace hb := hb.trans (b4.mono hb.size)
  clear b4
  go_wp2_with (first | (go_at_call 30; fail))
  refine (keep_yes R _ _ hr).mono ?_
  rintro e w5 ⟨rfl, b5⟩
  replace h1 := keep_below b5 (lt_of_block h1) h1
  replace hb := hb.trans (b5.mono hb.size)
  clear b5
  go_wp2_with (first | (refine wpList_store_arr rfl rfl rfl rfl RTFe h1 ?_))
  exact bodyPost_ret (results_arr rfl rfl RTFe (row_self h1)) rfl ⟨rfl, row_below hb (by omega) _⟩

end Go.Proofs.YtfolbgiekbimpaaDoor
namespace Go.Proofs.YtfolbgiekbimpaaDoor
set_option linter.unusedSimpArgs false
set_option linter.unusedVariables false
open Go.RowKit

/-- All but two blocks stay. -/
structure Bar (P Q : Nat) (w w' : World) : Prop where
  os : w'.os = w.os
  tape : w'.tape = w.tape
  output : w'.output = w.output
  size : w.heap.size ≤ w'.heap.size
  block : ∀ k, k < w.heap.size → k ≠ P → k ≠ Q → w'.heap[k]? = w.heap[k]?
section
variable {P Q B : Nat} {w w' w'' : World}
theorem Bar.refl (P Q : Nat) (w : World) : Bar P Q w w := ⟨rfl, rfl, rfl, Nat.le_refl _, fun _ _ _ _ => rfl⟩
theorem Bar.trans (h : Bar P Q w w') (k : Bar P Q w' w'') : Bar P Q w w'' :=
  ⟨k.os.trans h.os, k.tape.trans h.tape, k.output.trans h.output, Nat.le_trans h.size k.size, fun i hi h1 h2 => (k.block i (Nat.lt_of_lt_of_le hi h.size) h1 h2).trans (h.block i hi h1 h2)⟩
theorem Bar.of_below (h : Below w.heap.size w w') : Bar P Q w w' := ⟨h.os, h.tape, h.output, h.size, fun i hi _ _ => h.block i hi⟩
theorem Bar.drew (h : Bar P Q w w') : Bar P Q w w'.drew := ⟨h.os, h.tape, h.output, h.size, h.block⟩
theorem Bar.row (h : Bar P Q w w') {g : Nat} (hg : g = P ∨ g = Q ∨ w.heap.size ≤ g) (cs : Array Value) : Bar P Q w (w'.setRow g cs) := by
  refine ⟨h.os, h.tape, h.output, ?_, fun i hi h1 h2 => ?_⟩
  · have : (w'.setRow g cs).heap.size = w'.heap.size := by unfold World.setRow; simp
    rw [this]
    exact h.size
  · rw [setRow_other _ _ _ _ (by omega)]
    exact h.block i hi h1 h2
theorem Bar.set (h : Bar P Q w w') {g i : Nat} (hg : g = P ∨ g = Q ∨ w.heap.size ≤ g) (v : Value) : Bar P Q w (w'.setCell ⟨g, i, none⟩ v) := by
  refine ⟨h.os, h.tape, h.output, ?_, fun k hk h1 h2 => ?_⟩
  · have : (w'.setCell ⟨g, i, none⟩ v).heap.size = w'.heap.size := by unfold World.setCell; simp
    rw [this]
    exact h.size
  · rw [Below.heap_setCell _ _ _ _ (by show k ≠ g; omega)]
    exact h.block k hk h1 h2
theorem Bar.keep {k : Nat} {o : Obj} (h : Bar P Q w w') (hk : w.heap[k]? = some o) (h1 : k ≠ P) (h2 : k ≠ Q) : w'.heap[k]? = some o := (h.block k (lt_of_block hk) h1 h2).trans hk
theorem Bar.below {w0 : World} (h : Bar P Q w w') (hb : Below B w0 w) (h1 : B ≤ P) (h2 : B ≤ Q) (hB : B ≤ w.heap.size) : Below B w0 w' :=
  ⟨h.os.trans hb.os, h.tape.trans hb.tape, h.output.trans hb.output, Nat.le_trans hb.size h.size, fun i hi => (h.block i (by omega) (by omega) (by omega)).trans (hb.block i hi)⟩
theorem Bar.drewl (h : Bar P Q w w') : Bar P Q w.drew w' := ⟨h.os, h.tape, h.output, h.size, h.block⟩
end
/-- What two rows are, of which so many have changed places. -/
def selN (b : Nat) (F G : Nat → Nat) (i : Nat) : Nat := if b = 1 then G i else F i
def swpN (b m : Nat) (F G : Nat → Nat) (i : Nat) : Nat := if i % 5 < m then selN b F G i else F i
theorem swpN_hi (b m : Nat) (F G : Nat → Nat) (i : Nat) (h : m ≤ i % 5) : swpN b m F G i = F i := by unfold swpN; rw [if_neg (by omega)]
theorem swpN_succ (b m : Nat) (F G : Nat → Nat) (i : Nat) : swpN b (m + 1) F G i = if i % 5 = m then selN b F G i else swpN b m F G i := by
  unfold swpN
  by_cases h : i % 5 = m
  · rw [if_pos h, if_pos (by omega)]
  · rw [if_neg h]
    by_cases h2 : i % 5 < m
    · rw [if_pos h2, if_pos (by omega)]
    · rw [if_neg h2, if_neg (by omega)]
theorem cell_other (w : World) {a b : Addr} {v : Value} (h : a.block ≠ b.block) : (w.setCell a v).cell? b = w.cell? b := World.cell?_of_block (Below.heap_setCell _ _ _ _ (Ne.symm h))
theorem x_off (x y : Nat) (hx : x < 18446744073709551616) (hy : y < 18446744073709551616) : bits .xor .u64 (x : Int) (bits .and .u64 0 (bits .xor .u64 (x : Int) (y : Int))) = (x : Int) := by
  rw [u64_xor_nat x y hx hy, show (0 : Int) = ((0 : Nat) : Int) from rfl, u64_and_nat 0 _ (by omega) (Nat.xor_lt_two_pow (n := 64) hx hy), Nat.zero_and, u64_xor_nat x 0 hx (by omega), Nat.xor_zero]
theorem x_off2 (x y : Nat) (hx : x < 18446744073709551616) (hy : y < 18446744073709551616) : bits .xor .u64 (y : Int) (bits .and .u64 0 (bits .xor .u64 (x : Int) (y : Int))) = (y : Int) := by
  rw [u64_xor_nat x y hx hy, show (0 : Int) = ((0 : Nat) : Int) from rfl, u64_and_nat 0 _ (by omega) (Nat.xor_lt_two_pow (n := 64) hx hy), Nat.zero_and, u64_xor_nat y 0 hy (by omega), Nat.xor_zero]
theorem and_all64 (x : Nat) (h : x < 18446744073709551616) : 18446744073709551615 &&& x = x := by
  rw [show (18446744073709551615 : Nat) = 2 ^ 64 - 1 from rfl, Nat.and_comm, Nat.and_two_pow_sub_one_eq_mod, Nat.mod_eq_of_lt h]
theorem x_on (x y : Nat) (hx : x < 18446744073709551616) (hy : y < 18446744073709551616) : bits .xor .u64 (x : Int) (bits .and .u64 (IntKind.u64.wrap (-1)) (bits .xor .u64 (x : Int) (y : Int))) = (y : Int) := by
  rw [show IntKind.u64.wrap (-1) = 18446744073709551615 from by decide]
  have hl : x ^^^ y < 18446744073709551616 := Nat.xor_lt_two_pow (n := 64) hx hy
  rw [u64_xor_nat x y hx hy, show (18446744073709551615 : Int) = ((18446744073709551615 : Nat) : Int) from rfl, u64_and_nat _ _ (by omega) hl, and_all64 _ hl, u64_xor_nat x _ hx hl, ← Nat.xor_assoc, Nat.xor_self, Nat.zero_xor]
theorem x_on2 (x y : Nat) (hx : x < 18446744073709551616) (hy : y < 18446744073709551616) : bits .xor .u64 (y : Int) (bits .and .u64 (IntKind.u64.wrap (-1)) (bits .xor .u64 (x : Int) (y : Int))) = (x : Int) := by
  rw [show IntKind.u64.wrap (-1) = 18446744073709551615 from by decide]
  have hl : x ^^^ y < 18446744073709551616 := Nat.xor_lt_two_pow (n := 64) hx hy
  rw [u64_xor_nat x y hx hy, show (18446744073709551615 : Int) = ((18446744073709551615 : Nat) : Int) from rfl, u64_and_nat _ _ (by omega) hl, and_all64 _ hl, u64_xor_nat y _ hy hl, Nat.xor_comm x y, ← Nat.xor_assoc, Nat.xor_self, Nat.zero_xor]
theorem FTPoint0 : FieldT Tryd.prog 54 0 := ⟨_, _, 4, Tryd.underlying54, rfl, by kernel_rfl⟩
theorem FTPoint1 : FieldT Tryd.prog 54 1 := ⟨_, _, 4, Tryd.underlying54, rfl, by kernel_rfl⟩
theorem RTPoint : RowT Tryd.prog 54 10 := ⟨_, Tryd.underlying54, rfl, by kernel_rfl⟩

set_option maxRecDepth 100000 in
set_option maxHeartbeats 4000000 in
theorem swap_any (b : Nat) (hb01 : b = 0 ∨ b = 1) (P Q : Nat) (hne : P ≠ Q) (F G : Nat → Nat) (hF : ∀ i, i < 10 → F i < 18446744073709551616) (hG : ∀ i, i < 10 → G i < 18446744073709551616) (w : World)
    (hP : w.heap[P]? = some (.cells (arr .u64 10 fun i => ((F i : Nat) : Int)) 54 (0, 0))) (hQ : w.heap[Q]? = some (.cells (arr .u64 10 fun i => ((G i : Nat) : Int)) 54 (0, 0))) :
    Calls Tryd.prog 28 #[.int .u64 b, .pointer (some ⟨P, 0, none⟩), .pointer (some ⟨Q, 0, none⟩)] w fun e w' => e = .returned (.tuple #[]) ∧ Bar P Q w w' ∧
      w'.heap[P]? = some (.cells (arr .u64 10 fun i => ((selN b F G i : Nat) : Int)) 54 (0, 0)) ∧ w'.heap[Q]? = some (.cells (arr .u64 10 fun i => ((selN b G F i : Nat) : Int)) 54 (0, 0)) := by
  have HF := Lib.hid hF
  have HG := Lib.hid hG
  have HN := Lib.hid hne
  clear hF hG hne
  rcases hb01 with rfl | rfl
  · go_enter Tryd.func28, Tryd.ntmps28
    go_wp2
    go_loopg [12] 5 (fun n i wr => ∃ m : Nat, m + n = 5 ∧ i = .int .i64 m ∧ wr.heap[P]? = some (.cells (arr .u64 10 fun i => ((swpN 0 m F G i : Nat) : Int)) 54 (0, 0)) ∧
      wr.heap[Q]? = some (.cells (arr .u64 10 fun i => ((swpN 0 m G F i : Nat) : Int)) 54 (0, 0)) ∧ Bar P Q w wr)
    case atStart => exact ⟨0, rfl, rfl, blk_congr hP (fun i _ => by rw [swpN_hi _ _ _ _ _ (by omega)]), blk_congr hQ (fun i _ => by rw [swpN_hi _ _ _ _ _ (by omega)]), Bar.refl _ _ _⟩
    case round =>
      clear hP hQ
      obtain ⟨m, hm, rfl, hP, hQ, hB⟩ := hrel
      have hm' := Lib.hid hm
      clear hm
      by_cases hlt : m < 5
      · have n1 : m % 5 = m := Nat.mod_eq_of_lt hlt
        have n2 : (5 + m) % 5 = m := by omega
        obtain ⟨x1, hx1⟩ : ∃ x, F m = x := ⟨_, rfl⟩
        obtain ⟨z1, hz1⟩ : ∃ x, F (5 + m) = x := ⟨_, rfl⟩
        obtain ⟨x2, hx2⟩ : ∃ x, G m = x := ⟨_, rfl⟩
        obtain ⟨z2, hz2⟩ : ∃ x, G (5 + m) = x := ⟨_, rfl⟩
        have lx1 : x1 < 18446744073709551616 := hx1 ▸ HF.out m (by omega)
        have lz1 : z1 < 18446744073709551616 := hz1 ▸ HF.out (5 + m) (by omega)
        have lx2 : x2 < 18446744073709551616 := hx2 ▸ HG.out m (by omega)
        have lz2 : z2 < 18446744073709551616 := hz2 ▸ HG.out (5 + m) (by omega)
        have p1 : wr.cell? ⟨P, m, none⟩ = some (.int .u64 (x1 : Int)) := by rw [cell_arr hP m (by omega), swpN_hi _ _ _ _ _ (by omega), hx1]
        have p2 : wr.cell? ⟨P, 5 + m, none⟩ = some (.int .u64 (z1 : Int)) := by rw [cell_arr hP (5 + m) (by omega), swpN_hi _ _ _ _ _ (by omega), hz1]
        have q1 : wr.cell? ⟨Q, m, none⟩ = some (.int .u64 (x2 : Int)) := by rw [cell_arr hQ m (by omega), swpN_hi _ _ _ _ _ (by omega), hx2]
        have q2 : wr.cell? ⟨Q, 5 + m, none⟩ = some (.int .u64 (z2 : Int)) := by rw [cell_arr hQ (5 + m) (by omega), swpN_hi _ _ _ _ _ (by omega), hz2]
        have fp := free_arr hP
        have lP : P < wr.drew.heap.size := lt_of_block hP
        have lQ : Q < wr.drew.heap.size := lt_of_block hQ
        have fq := free_arr hQ
        clear n1 n2
        go_upto_region 4 with (fail)
        (try simp only [Act.put, List.setIfInBounds_toArray, List.set_cons_zero, List.set_cons_succ])
        refine wp_region_can wr.heap.size 31 [(0, false), (1, false), (2, false), (3, false), (4, false), (5, false), (6, false), (7, false), (8, false), (9, false), (10, false), (11, false), (12, false), (13, false), (14, false), (15, false), (16, false), (17, false), (18, false), (19, false), (20, false), (21, false), (22, false), (23, false), (24, false), (25, false), (26, false), (27, false), (28, false), (29, false), (30, false)] (by kernel_rfl) (by kernel_rfl) ?_
        (simp only [canOps, List.getElem?_cons_zero, List.getElem?_cons_succ, List.drop_succ_cons, List.drop_zero])
        iterate 31 (first | (refine wpCan_move rfl rfl (fun _ _ _ _ h => h) ?_; (simp only [Act.put, Act.eval, Array.getD_eq_getD_getElem?, List.getElem?_toArray, List.getElem?_cons_zero, List.getElem?_cons_succ, Option.getD_some, List.setIfInBounds_toArray, List.set_cons_zero, List.set_cons_succ])) | (refine wpCan_assign rfl rfl (fun _ _ _ _ h => h) ?_; (simp only [Act.put, Act.eval, Array.getD_eq_getD_getElem?, List.getElem?_toArray, List.getElem?_cons_zero, List.getElem?_cons_succ, Option.getD_some, List.setIfInBounds_toArray, List.set_cons_zero, List.set_cons_succ])) | (refine wpCan_nilCheck rfl rfl rfl (fun _ _ _ _ h => h) ?_; (simp only [Act.put, List.setIfInBounds_toArray, List.set_cons_zero, List.set_cons_succ])) | (refine wpCan_q rfl rfl (fun _ _ _ _ h => h) (by first | exact .bin rfl rfl rfl | exact .indexAddr rfl | exact .un rfl | exact .extract rfl | exact .index rfl | exact .field rfl | exact .slice rfl | exact .fieldT rfl FTPoint0 | exact .fieldT rfl FTPoint1 | exact .load rfl rfl lP hP | exact .load rfl rfl lQ hQ) (fun K hK => ?_); go_simp; (try (simp only [↓IntWalk.iteOmega]; go_simp)); (try go_bits); refine hK _ ?_; clear hK K))
        refine wpCan_nil ?_
        have ex1 := x_off x1 x2 lx1 lx2
        have ex2 := x_off2 x1 x2 lx1 lx2
        have ez1 := x_off z1 z2 lz1 lz2
        have ez2 := x_off2 z1 z2 lz1 lz2
        have EX1 := Lib.hid ex1
        have EX2 := Lib.hid ex2
        have EZ1 := Lib.hid ez1
        have EZ2 := Lib.hid ez2
        clear ex1 ex2 ez1 ez2
        go_upto_region 5 with (fail)
        (try simp only [Act.put, List.setIfInBounds_toArray, List.set_cons_zero, List.set_cons_succ])
        have c1 : ∀ v, (wr.setCell ⟨P, m, none⟩ v).cell? ⟨Q, m, none⟩ = some (.int .u64 (x2 : Int)) := fun v => by rw [cell_other wr (by exact HN.out)]; exact q1
        have f1 : ∀ v, (wr.setCell ⟨P, m, none⟩ v).frozen? ⟨Q, m, none⟩ = false := fun v => frozen_of_row _ _ _ _ _ (keep_arr hQ _ _ (Ne.symm HN.out))
        go_region
        clear c1 f1 p1 q1
        simp only [EX1.out, EX2.out]
        have hP5 := keep_arr (C := Q) (set_arr hP m (x1 : Int)) m (.int .u64 (x2 : Int)) HN.out
        have hQ5 := set_arr (keep_arr (C := P) hQ m (.int .u64 (x1 : Int)) (Ne.symm HN.out)) m (x2 : Int)
        have hB5 := ((hB.set (.inl rfl) (i := m) (.int .u64 (x1 : Int))).set (.inr (.inl rfl)) (i := m) (.int .u64 (x2 : Int))).drew.drew
        clear p2 q2 fp fq lP lQ hP hQ hB
        generalize ((wr.setCell ⟨P, m, none⟩ (.int .u64 (x1 : Int))).setCell ⟨Q, m, none⟩ (.int .u64 (x2 : Int))) = ws at *
        have p2 : ws.cell? ⟨P, 5 + m, none⟩ = some (.int .u64 (z1 : Int)) := by rw [cell_arr hP5 (5 + m) (by omega)]; unfold upd; rw [if_neg (by omega)]; dsimp only; rw [swpN_hi _ _ _ _ _ (by omega), hz1]
        have q2 : ws.cell? ⟨Q, 5 + m, none⟩ = some (.int .u64 (z2 : Int)) := by rw [cell_arr hQ5 (5 + m) (by omega)]; unfold upd; rw [if_neg (by omega)]; dsimp only; rw [swpN_hi _ _ _ _ _ (by omega), hz2]
        have fp := free_arr hP5
        have fq := free_arr hQ5
        go_upto_region 6 with (fail)
        (try simp only [Act.put, List.setIfInBounds_toArray, List.set_cons_zero, List.set_cons_succ])
        have c1 : ∀ v, (ws.setCell ⟨P, 5 + m, none⟩ v).cell? ⟨Q, 5 + m, none⟩ = some (.int .u64 (z2 : Int)) := fun v => by rw [cell_other ws (by exact HN.out)]; exact q2
        have f1 : ∀ v, (ws.setCell ⟨P, 5 + m, none⟩ v).frozen? ⟨Q, 5 + m, none⟩ = false := fun v => frozen_of_row _ _ _ _ _ (keep_arr hQ5 _ _ (Ne.symm HN.out))
        go_region
        clear c1 f1 p2 q2
        simp only [EZ1.out, EZ2.out]
        go_wp2
        go_roundg (gk - 1)
        case measure => have := hm'.out; omega
        case rel =>
          have hm'' := hm'.out
          refine ⟨m + 1, by omega, by go_num, blk_congr (keep_arr (C := Q) (set_arr hP5 (5 + m) (z1 : Int)) (5 + m) _ HN.out) (fun i hi => ?_), blk_congr (set_arr (keep_arr (C := P) hQ5 (5 + m) _ (Ne.symm HN.out)) (5 + m) (z2 : Int)) (fun i hi => ?_), ((hB5.set (.inl rfl) _).set (.inr (.inl rfl)) _).drew⟩
          all_goals
            rw [swpN_succ]
            unfold upd
            dsimp only
            by_cases e1 : i = 5 + m
            · rw [if_pos e1, if_pos (by omega), e1]
              unfold selN
              simp only [if_true, if_false, Nat.zero_ne_one, hz1, hz2]
            · rw [if_neg e1]
              by_cases e2 : i = m
              · rw [if_pos e2, if_pos (by omega), e2]
                unfold selN
                simp only [if_true, if_false, Nat.zero_ne_one, hx1, hx2]
              · rw [if_neg e2, if_neg (by omega)]
      · obtain rfl : m = 5 := by have := hm'.out; omega
        go_wp2
        refine bodyPost_end (results_none rfl _ _ _) rfl ?_
        refine ⟨rfl, hB, blk_congr hP (fun i hi => ?_), blk_congr hQ (fun i hi => ?_)⟩
        all_goals
          unfold swpN
          rw [if_pos (by omega)]
  · go_enter Tryd.func28, Tryd.ntmps28
    go_wp2
    go_loopg [12] 5 (fun n i wr => ∃ m : Nat, m + n = 5 ∧ i = .int .i64 m ∧ wr.heap[P]? = some (.cells (arr .u64 10 fun i => ((swpN 1 m F G i : Nat) : Int)) 54 (0, 0)) ∧
      wr.heap[Q]? = some (.cells (arr .u64 10 fun i => ((swpN 1 m G F i : Nat) : Int)) 54 (0, 0)) ∧ Bar P Q w wr)
    case atStart => exact ⟨0, rfl, rfl, blk_congr hP (fun i _ => by rw [swpN_hi _ _ _ _ _ (by omega)]), blk_congr hQ (fun i _ => by rw [swpN_hi _ _ _ _ _ (by omega)]), Bar.refl _ _ _⟩
    case round =>
      clear hP hQ
      obtain ⟨m, hm, rfl, hP, hQ, hB⟩ := hrel
      have hm' := Lib.hid hm
      clear hm
      by_cases hlt : m < 5
      · have n1 : m % 5 = m := Nat.mod_eq_of_lt hlt
        have n2 : (5 + m) % 5 = m := by omega
        obtain ⟨x1, hx1⟩ : ∃ x, F m = x := ⟨_, rfl⟩
        obtain ⟨z1, hz1⟩ : ∃ x, F (5 + m) = x := ⟨_, rfl⟩
        obtain ⟨x2, hx2⟩ : ∃ x, G m = x := ⟨_, rfl⟩
        obtain ⟨z2, hz2⟩ : ∃ x, G (5 + m) = x := ⟨_, rfl⟩
        have lx1 : x1 < 18446744073709551616 := hx1 ▸ HF.out m (by omega)
        have lz1 : z1 < 18446744073709551616 := hz1 ▸ HF.out (5 + m) (by omega)
        have lx2 : x2 < 18446744073709551616 := hx2 ▸ HG.out m (by omega)
        have lz2 : z2 < 18446744073709551616 := hz2 ▸ HG.out (5 + m) (by omega)
        have p1 : wr.cell? ⟨P, m, none⟩ = some (.int .u64 (x1 : Int)) := by rw [cell_arr hP m (by omega), swpN_hi _ _ _ _ _ (by omega), hx1]
        have p2 : wr.cell? ⟨P, 5 + m, none⟩ = some (.int .u64 (z1 : Int)) := by rw [cell_arr hP (5 + m) (by omega), swpN_hi _ _ _ _ _ (by omega), hz1]
        have q1 : wr.cell? ⟨Q, m, none⟩ = some (.int .u64 (x2 : Int)) := by rw [cell_arr hQ m (by omega), swpN_hi _ _ _ _ _ (by omega), hx2]
        have q2 : wr.cell? ⟨Q, 5 + m, none⟩ = some (.int .u64 (z2 : Int)) := by rw [cell_arr hQ (5 + m) (by omega), swpN_hi _ _ _ _ _ (by omega), hz2]
        have fp := free_arr hP
        have lP : P < wr.drew.heap.size := lt_of_block hP
        have lQ : Q < wr.drew.heap.size := lt_of_block hQ
        have fq := free_arr hQ
        clear n1 n2
        go_upto_region 4 with (fail)
        (try simp only [Act.put, List.setIfInBounds_toArray, List.set_cons_zero, List.set_cons_succ])
        refine wp_region_can wr.heap.size 31 [(0, false), (1, false), (2, false), (3, false), (4, false), (5, false), (6, false), (7, false), (8, false), (9, false), (10, false), (11, false), (12, false), (13, false), (14, false), (15, false), (16, false), (17, false), (18, false), (19, false), (20, false), (21, false), (22, false), (23, false), (24, false), (25, false), (26, false), (27, false), (28, false), (29, false), (30, false)] (by kernel_rfl) (by kernel_rfl) ?_
        (simp only [canOps, List.getElem?_cons_zero, List.getElem?_cons_succ, List.drop_succ_cons, List.drop_zero])
        iterate 31 (first | (refine wpCan_move rfl rfl (fun _ _ _ _ h => h) ?_; (simp only [Act.put, Act.eval, Array.getD_eq_getD_getElem?, List.getElem?_toArray, List.getElem?_cons_zero, List.getElem?_cons_succ, Option.getD_some, List.setIfInBounds_toArray, List.set_cons_zero, List.set_cons_succ])) | (refine wpCan_assign rfl rfl (fun _ _ _ _ h => h) ?_; (simp only [Act.put, Act.eval, Array.getD_eq_getD_getElem?, List.getElem?_toArray, List.getElem?_cons_zero, List.getElem?_cons_succ, Option.getD_some, List.setIfInBounds_toArray, List.set_cons_zero, List.set_cons_succ])) | (refine wpCan_nilCheck rfl rfl rfl (fun _ _ _ _ h => h) ?_; (simp only [Act.put, List.setIfInBounds_toArray, List.set_cons_zero, List.set_cons_succ])) | (refine wpCan_q rfl rfl (fun _ _ _ _ h => h) (by first | exact .bin rfl rfl rfl | exact .indexAddr rfl | exact .un rfl | exact .extract rfl | exact .index rfl | exact .field rfl | exact .slice rfl | exact .fieldT rfl FTPoint0 | exact .fieldT rfl FTPoint1 | exact .load rfl rfl lP hP | exact .load rfl rfl lQ hQ) (fun K hK => ?_); go_simp; (try (simp only [↓IntWalk.iteOmega]; go_simp)); (try go_bits); refine hK _ ?_; clear hK K))
        refine wpCan_nil ?_
        have ex1 := x_on x1 x2 lx1 lx2
        have ex2 := x_on2 x1 x2 lx1 lx2
        have ez1 := x_on z1 z2 lz1 lz2
        have ez2 := x_on2 z1 z2 lz1 lz2
        have EX1 := Lib.hid ex1
        have EX2 := Lib.hid ex2
        have EZ1 := Lib.hid ez1
        have EZ2 := Lib.hid ez2
        clear ex1 ex2 ez1 ez2
        go_upto_region 5 with (fail)
        (try simp only [Act.put, List.setIfInBounds_toArray, List.set_cons_zero, List.set_cons_succ])
        have c1 : ∀ v, (wr.setCell ⟨P, m, none⟩ v).cell? ⟨Q, m, none⟩ = some (.int .u64 (x2 : Int)) := fun v => by rw [cell_other wr (by exact HN.out)]; exact q1
        have f1 : ∀ v, (wr.setCell ⟨P, m, none⟩ v).frozen? ⟨Q, m, none⟩ = false := fun v => frozen_of_row _ _ _ _ _ (keep_arr hQ _ _ (Ne.symm HN.out))
        go_region
        clear c1 f1 p1 q1
        simp only [EX1.out, EX2.out]
        have hP5 := keep_arr (C := Q) (set_arr hP m (x2 : Int)) m (.int .u64 (x1 : Int)) HN.out
        have hQ5 := set_arr (keep_arr (C := P) hQ m (.int .u64 (x2 : Int)) (Ne.symm HN.out)) m (x1 : Int)
        have hB5 := ((hB.set (.inl rfl) (i := m) (.int .u64 (x2 : Int))).set (.inr (.inl rfl)) (i := m) (.int .u64 (x1 : Int))).drew.drew
        clear p2 q2 fp fq lP lQ hP hQ hB
        generalize ((wr.setCell ⟨P, m, none⟩ (.int .u64 (x2 : Int))).setCell ⟨Q, m, none⟩ (.int .u64 (x1 : Int))) = ws at *
        have p2 : ws.cell? ⟨P, 5 + m, none⟩ = some (.int .u64 (z1 : Int)) := by rw [cell_arr hP5 (5 + m) (by omega)]; unfold upd; rw [if_neg (by omega)]; dsimp only; rw [swpN_hi _ _ _ _ _ (by omega), hz1]
        have q2 : ws.cell? ⟨Q, 5 + m, none⟩ = some (.int .u64 (z2 : Int)) := by rw [cell_arr hQ5 (5 + m) (by omega)]; unfold upd; rw [if_neg (by omega)]; dsimp only; rw [swpN_hi _ _ _ _ _ (by omega), hz2]
        have fp := free_arr hP5
        have fq := free_arr hQ5
        go_upto_region 6 with (fail)
        (try simp only [Act.put, List.setIfInBounds_toArray, List.set_cons_zero, List.set_cons_succ])
        have c1 : ∀ v, (ws.setCell ⟨P, 5 + m, none⟩ v).cell? ⟨Q, 5 + m, none⟩ = some (.int .u64 (z2 : Int)) := fun v => by rw [cell_other ws (by exact HN.out)]; exact q2
        have f1 : ∀ v, (ws.setCell ⟨P, 5 + m, none⟩ v).frozen? ⟨Q, 5 + m, none⟩ = false := fun v => frozen_of_row _ _ _ _ _ (keep_arr hQ5 _ _ (Ne.symm HN.out))
        go_region
        clear c1 f1 p2 q2
        simp only [EZ1.out, EZ2.out]
        go_wp2
        go_roundg (gk - 1)
        case measure => have := hm'.out; omega
        case rel =>
          have hm'' := hm'.out
          refine ⟨m + 1, by omega, by go_num, blk_congr (keep_arr (C := Q) (set_arr hP5 (5 + m) (z2 : Int)) (5 + m) _ HN.out) (fun i hi => ?_), blk_congr (set_arr (keep_arr (C := P) hQ5 (5 + m) _ (Ne.symm HN.out)) (5 + m) (z1 : Int)) (fun i hi => ?_), ((hB5.set (.inl rfl) _).set (.inr (.inl rfl)) _).drew⟩
          all_goals
            rw [swpN_succ]
            unfold upd
            dsimp only
            by_cases e1 : i = 5 + m
            · rw [if_pos e1, if_pos (by omega), e1]
              unfold selN
              simp only [if_true, if_false, Nat.zero_ne_one, hz1, hz2]
            · rw [if_neg e1]
              by_cases e2 : i = m
              · rw [if_pos e2, if_pos (by omega), e2]
                unfold selN
                simp only [if_true, if_false, Nat.zero_ne_one, hx1, hx2]
              · rw [if_neg e2, if_neg (by omega)]
      · obtain rfl : m = 5 := by have := hm'.out; omega
        go_wp2
        refine bodyPost_end (results_none rfl _ _ _) rfl ?_
        refine ⟨rfl, hB, blk_congr hP (fun i hi => ?_), blk_congr hQ (fun i hi => ?_)⟩
        all_goals
          unfold swpN
          rw [if_pos (by omega)]
end Go.Proofs.YtfolbgiekbimpaaDoor
namespace Go.Proofs.YtfolbgiekbimpaaDoor
set_option linter.unusedSimpArgs false
set_option linter.unusedVariables false
open Go.RowKit
attribute [local irreducible] accN byteN prodN carN diffN sqN sumN difN oneF valN bytesN invN ofN
section
variable {P : Program} {Q : Exit → Act → World → Prop} {a : Act} {ops : Array Oper} {o : Oper} {r : Fact} {w : World}
theorem free_load_as {ty : TypeId} {x : Operand} {n M t g off : Nat} {k : IntKind} {f : Nat → Int} {fr : Nat × Nat} (f' : Nat → Int) (hg : Region.wanted o (yielded ops a.tmps) = true) (ho : o.op = .load ty x) (hx : a.eval x = .pointer (some ⟨g, off, none⟩)) (hT : RowT P ty n)
    (hc : w.heap[g]? = some (.cells (arr k M f) t fr)) (hle : off + n ≤ M) (hf : ∀ i, i < n → f (off + i) = f' i) (h : r (.agg (arr k n f')) w) : freeOp P ops Q o r a w :=
  free_v hg (by rw [run_op_load ho hx (run_loadVar_arrV hT hc hle), show (arrV n fun i => Value.int k (f (off + i))) = arr k n f' from arr_ext hf]) h
end
theorem ne_of_type {w : World} {A B : Nat} {c c' : Array Value} {t t' : TypeId} {fr fr' : Nat × Nat} (h : w.heap[A]? = some (.cells c t fr)) (h' : w.heap[B]? = some (.cells c' t' fr')) (hne : t ≠ t') : A ≠ B := fun e => by
  subst e
  rw [h] at h'
  injection h' with h'
  injection h' with _ h' _
  exact hne h'
theorem two_lo (F G : Nat → Nat) (i : Nat) (hi : i < 5) : ((two5 F G (0 + i) : Nat) : Int) = ((F i : Nat) : Int) := by unfold two5; rw [if_pos (by omega), Nat.zero_add]
theorem two_hi (F G : Nat → Nat) (i : Nat) (hi : i < 5) : ((two5 F G (5 + i) : Nat) : Int) = ((G i : Nat) : Int) := by unfold two5; rw [if_neg (by omega), Nat.add_sub_cancel_left]
theorem built_point (F G : Nat → Nat) : Tryd.prog.built 54 [(0, .agg (arr .u64 5 fun i => ((F i : Nat) : Int))), (1, .agg (arr .u64 5 fun i => ((G i : Nat) : Int)))] = some (arr .u64 10 fun i => ((two5 F G i : Nat) : Int)) := by kernel_rfl
/-- Where the ladder's numbers lie. -/
structure Lad (w : World) (RV R LO HI FI : Nat) (L H U : Nat → Nat) : Prop where
  rv : w.heap[RV]? = some (.cells #[.pointer (some ⟨R, 0, none⟩)] 46 (0, 0))
  r : w.heap[R]? = some (.cells (arr .i64 1 fun _ => 0) 48 (0, 0))
  lo : w.heap[LO]? = some (.cells (arr .u64 10 fun i => ((L i : Nat) : Int)) 54 (0, 0))
  hi : w.heap[HI]? = some (.cells (arr .u64 10 fun i => ((H i : Nat) : Int)) 54 (0, 0))
  fi : w.heap[FI]? = some (.cells (arr .u64 5 fun i => ((U i : Nat) : Int)) 51 (0, 0))
/-- A step's numbers. -/
def sA (X Z : Nat → Nat) := sumN X Z
def sB (X Z : Nat → Nat) := difN X Z
def sDA (X Z X' Z' : Nat → Nat) := prodN (difN X' Z') (sA X Z)
def sCB (X Z X' Z' : Nat → Nat) := prodN (sumN X' Z') (sB X Z)
def sHX (X Z X' Z' : Nat → Nat) := sqN (sumN (sDA X Z X' Z') (sCB X Z X' Z')) 1
def sHZ (X Z X' Z' U : Nat → Nat) := prodN U (sqN (difN (sDA X Z X' Z') (sCB X Z X' Z')) 1)
def sAA (X Z : Nat → Nat) := sqN (sA X Z) 1
def sBB (X Z : Nat → Nat) := sqN (sB X Z) 1
def sE (X Z : Nat → Nat) := difN (sAA X Z) (sBB X Z)
def sLX (X Z : Nat → Nat) := prodN (sAA X Z) (sBB X Z)
def sLZ (X Z : Nat → Nat) := prodN (sE X Z) (sumN (sAA X Z) (prodN (oneF 121665) (sE X Z)))
section
variable {X Z X' Z' U : Nat → Nat}
theorem ok_A (h : okF X 5) (h' : okF Z 5) : okF (sA X Z) 5 := sum_ok h h'
theorem ok_B (h : okF X 5) (h' : okF Z 5) : okF (sB X Z) 5 := dif_ok h
theorem ok_DA (h1 : okF X 5) (h2 : okF Z 5) (h3 : okF X' 5) (h4 : okF Z' 5) : okF (sDA X Z X' Z') 5 := prod_ok _ _ (dif_ok h3) (ok_A h1 h2)
theorem ok_CB (h1 : okF X 5) (h2 : okF Z 5) (h3 : okF X' 5) (h4 : okF Z' 5) : okF (sCB X Z X' Z') 5 := prod_ok _ _ (sum_ok h3 h4) (ok_B h1 h2)
theorem ok_AA (h : okF X 5) (h' : okF Z 5) : okF (sAA X Z) 5 := sq_ok _ (ok_A h h') 1
theorem ok_BB (h : okF X 5) (h' : okF Z 5) : okF (sBB X Z) 5 := sq_ok _ (ok_B h h') 1
theorem ok_E (h : okF X 5) (h' : okF Z 5) : okF (sE X Z) 5 := dif_ok (ok_AA h h')
theorem ok_121665 : okF (oneF 121665) 5 := one_ok (by omega)
end

set_option maxRecDepth 100000 in
set_option maxHeartbeats 8000000 in
theorem step_any (RV R LO HI FI : Nat) (X Z X' Z' U : Nat → Nat) (oX : okF X 5) (oZ : okF Z 5) (oX' : okF X' 5) (oZ' : okF Z' 5) (oU : okF U 5) (hne : LO ≠ HI) (w : World) (L : Lad w RV R LO HI FI (two5 X Z) (two5 X' Z') U) :
    Calls Tryd.prog 23 #[.pointer (some ⟨RV, 0, none⟩), .pointer (some ⟨LO, 0, none⟩), .pointer (some ⟨HI, 0, none⟩), .pointer (some ⟨FI, 0, none⟩)] w fun e w' => e = .returned (.tuple #[]) ∧ Bar LO HI w w' ∧
      Lad w' RV R LO HI FI (two5 (sLX X Z) (sLZ X Z)) (two5 (sHX X Z X' Z') (sHZ X Z X' Z' U)) U := by
  obtain ⟨hrv, hr, hlo, hhi, hfi⟩ := L
  have OX := Lib.hid oX
  have OZ := Lib.hid oZ
  have OX' := Lib.hid oX'
  have OZ' := Lib.hid oZ'
  have OU := Lib.hid oU
  have n1 := Lib.hid (ne_of_type hrv hlo (by decide))
  have n2 := Lib.hid (ne_of_type hrv hhi (by decide))
  have n3 := Lib.hid (ne_of_type hr hlo (by decide))
  have n4 := Lib.hid (ne_of_type hr hhi (by decide))
  have n5 := Lib.hid (ne_of_type hfi hlo (by decide))
  have n6 := Lib.hid (ne_of_type hfi hhi (by decide))
  have N7 := Lib.hid hne
  clear oX oZ oX' oZ' oU hne
  go_enter Tryd.func23, Tryd.ntmps23
  go_upto_region 0 with (fail)
  (try simp only [Act.put, List.setIfInBounds_toArray, List.set_cons_zero, List.set_cons_succ])
  refine wp_cut (fun x => x.heap[RV]? = some (.cells #[.pointer (some ⟨R, 0, none⟩)] 46 (0, 0)) ∧ x.heap[R]? = some (.cells (arr .i64 1 fun _ => 0) 48 (0, 0)) ∧ x.heap[LO]? = some (.cells (arr .u64 10 fun i => ((two5 X Z i : Nat) : Int)) 54 (0, 0)) ∧ x.heap[HI]? = some (.cells (arr .u64 10 fun i => ((two5 X' Z' i : Nat) : Int)) 54 (0, 0)) ∧ x.heap[FI]? = some (.cells (arr .u64 5 fun i => ((U i : Nat) : Int)) 51 (0, 0)) ∧ Bar LO HI w x) ⟨hrv, hr, hlo, hhi, hfi, Bar.refl _ _ _⟩ ?_
  clear hrv hr hlo hhi hfi
  rintro wq ⟨hrv, hr, hlo, hhi, hfi, hb⟩
  have lw := hb.size
  refine wp_region_free2 14 [Is (.pointer (some ⟨R, 0, none⟩)), Is (.pointer (some ⟨LO, 0, none⟩)), Is (.agg (arr .u64 5 fun i => ((X i : Nat) : Int))), Is (.pointer (some ⟨LO, 5, none⟩)), Is (.agg (arr .u64 5 fun i => ((Z i : Nat) : Int))), Is (.agg (arr .u64 5 fun i => (((sA X Z) i : Nat) : Int))), Is (.pointer (some ⟨R, 0, none⟩)), Is (.pointer (some ⟨LO, 0, none⟩)), Is (.agg (arr .u64 5 fun i => ((X i : Nat) : Int))), Is (.pointer (some ⟨LO, 5, none⟩)), Is (.agg (arr .u64 5 fun i => ((Z i : Nat) : Int))), Is (.agg (arr .u64 5 fun i => (((sB X Z) i : Nat) : Int))), NewAt wq.heap.size (.cells (arr .u64 5 fun _ => 0) 51), NewAt wq.heap.size (.cells (arr .u64 5 fun _ => 0) 51)] [[], [], [1], [], [3], [0, 2, 4], [], [], [7], [], [9], [6, 8, 10], [], []] [(12, 13)] (by kernel_rfl) (by kernel_rfl) (by kernel_rfl) rfl (st_cons (is_stays _) (st_cons (is_stays _) (st_cons (is_stays _) (st_cons (is_stays _) (st_cons (is_stays _) (st_cons (is_stays _) (st_cons (is_stays _) (st_cons (is_stays _) (st_cons (is_stays _) (st_cons (is_stays _) (st_cons (is_stays _) (st_cons (is_stays _) (st_cons (new_stays _ _) (st_cons (new_stays _ _) st_nil)))))))))))))) ?_ ?_
  · (simp only [List.take_succ_cons, List.take_zero, List.drop_succ_cons, List.drop_zero, List.zip_cons_cons, List.zip_nil_left, List.zip_nil_right, freeOps2, allV, under, underD, apartAt, factAt, fillA, List.getElem?_cons_zero, List.getElem?_cons_succ, List.range_succ, List.range_zero, List.nil_append, List.cons_append, Act.put, List.setIfInBounds_toArray, List.set_cons_zero, List.set_cons_succ])
    refine ⟨?_, ?_, ?_, ?_, ?_, ?_, ?_, ?_, ?_, ?_, ?_, ?_, ?_, ?_, trivial⟩
    · intro x0 x1 x2 x3 x4 x5 x6 x7 x8 x9 x10 x11 x12 x13 w' hb' 
      have cr := cell_of_row _ _ 0 _ _ _ (keep_below hb' (lt_of_block (w := wq) hrv) hrv)
      refine free2_of (free_e rfl (fun K hK => ?_)) rfl
      go_simp
      exact hK _ _ (Below.refl _ _) rfl
    · intro x0 x1 x2 x3 x4 x5 x6 x7 x8 x9 x10 x11 x12 x13 w' hb' 
      refine free2_of (free_e rfl (fun K hK => ?_)) rfl
      go_simp
      exact hK _ _ (Below.refl _ _) rfl
    · intro x0 x1 x2 x3 x4 x5 x6 x7 x8 x9 x10 x11 x12 x13 w' hb' e0
      unfold Is at e0
      subst e0
      exact free2_of (free_load_as (fun i => ((X i : Nat) : Int)) rfl rfl rfl RTFe (keep_below hb' (lt_of_block (w := wq) hlo) hlo) (by omega) (fun i hi => two_lo _ _ i hi) rfl) rfl
    · intro x0 x1 x2 x3 x4 x5 x6 x7 x8 x9 x10 x11 x12 x13 w' hb' 
      refine free2_of (free_e rfl (fun K hK => ?_)) rfl
      go_simp
      exact hK _ _ (Below.refl _ _) rfl
    · intro x0 x1 x2 x3 x4 x5 x6 x7 x8 x9 x10 x11 x12 x13 w' hb' e0
      unfold Is at e0
      subst e0
      exact free2_of (free_load_as (fun i => ((Z i : Nat) : Int)) rfl rfl rfl RTFe (keep_below hb' (lt_of_block (w := wq) hlo) hlo) (by omega) (fun i hi => two_hi _ _ i hi) rfl) rfl
    · intro x0 x1 x2 x3 x4 x5 x6 x7 x8 x9 x10 x11 x12 x13 w' hb' e0 e1 e2
      unfold Is at e0 e1 e2
      subst e0 e1 e2
      refine free2_of (free_e rfl (fun K hK => ?_)) rfl
      go_simp
      refine (radd_yes R X Z OX.out OZ.out _ (keep_below hb' (lt_of_block (w := wq) hr) hr)).mono ?_
      rintro e w4 ⟨rfl, b4⟩
      exact hK _ _ b4 (by unfold Is sA; rfl)
    · intro x0 x1 x2 x3 x4 x5 x6 x7 x8 x9 x10 x11 x12 x13 w' hb' 
      have cr := cell_of_row _ _ 0 _ _ _ (keep_below hb' (lt_of_block (w := wq) hrv) hrv)
      refine free2_of (free_e rfl (fun K hK => ?_)) rfl
      go_simp
      exact hK _ _ (Below.refl _ _) rfl
    · intro x0 x1 x2 x3 x4 x5 x6 x7 x8 x9 x10 x11 x12 x13 w' hb' 
      refine free2_of (free_e rfl (fun K hK => ?_)) rfl
      go_simp
      exact hK _ _ (Below.refl _ _) rfl
    · intro x0 x1 x2 x3 x4 x5 x6 x7 x8 x9 x10 x11 x12 x13 w' hb' e0
      unfold Is at e0
      subst e0
      exact free2_of (free_load_as (fun i => ((X i : Nat) : Int)) rfl rfl rfl RTFe (keep_below hb' (lt_of_block (w := wq) hlo) hlo) (by omega) (fun i hi => two_lo _ _ i hi) rfl) rfl
    · intro x0 x1 x2 x3 x4 x5 x6 x7 x8 x9 x10 x11 x12 x13 w' hb' 
      refine free2_of (free_e rfl (fun K hK => ?_)) rfl
      go_simp
      exact hK _ _ (Below.refl _ _) rfl
    · intro x0 x1 x2 x3 x4 x5 x6 x7 x8 x9 x10 x11 x12 x13 w' hb' e0
      unfold Is at e0
      subst e0
      exact free2_of (free_load_as (fun i => ((Z i : Nat) : Int)) rfl rfl rfl RTFe (keep_below hb' (lt_of_block (w := wq) hlo) hlo) (by omega) (fun i hi => two_hi _ _ i hi) rfl) rfl
    · intro x0 x1 x2 x3 x4 x5 x6 x7 x8 x9 x10 x11 x12 x13 w' hb' e0 e1 e2
      unfold Is at e0 e1 e2
      subst e0 e1 e2
      refine free2_of (free_e rfl (fun K hK => ?_)) rfl
      go_simp
      refine (rsub_yes R X Z OX.out OZ.out _ (keep_below hb' (lt_of_block (w := wq) hr) hr)).mono ?_
      rintro e w4 ⟨rfl, b4⟩
      exact hK _ _ b4 (by unfold Is sB; rfl)
    · intro x0 x1 x2 x3 x4 x5 x6 x7 x8 x9 x10 x11 x12 x13 w' hb' 
      exact free2_alloc rfl rfl ZTFe ⟨_, rfl, hb'.size, heap_alloc_new _ _⟩
    · intro x0 x1 x2 x3 x4 x5 x6 x7 x8 x9 x10 x11 x12 x13 w' hb' 
      exact free2_alloc rfl rfl ZTFe ⟨_, rfl, hb'.size, heap_alloc_new _ _⟩
  · (simp only [List.take_succ_cons, List.take_zero, List.drop_succ_cons, List.drop_zero, List.zip_cons_cons, List.zip_nil_left, List.zip_nil_right, freeOps2, allV, under, underD, apartAt, factAt, fillA, List.getElem?_cons_zero, List.getElem?_cons_succ, List.range_succ, List.range_zero, List.nil_append, List.cons_append, Act.put, List.setIfInBounds_toArray, List.set_cons_zero, List.set_cons_succ])
    rintro x0 x1 x2 x3 x4 x5 x6 x7 x8 x9 x10 x11 x12 x13 w5 hb' e0 e1 e2 e3 e4 e5 e6 e7 e8 e9 e10 e11 e12 e13 d0
    unfold Is at e0 e1 e2 e3 e4 e5 e6 e7 e8 e9 e10 e11
    subst e0 e1 e2 e3 e4 e5 e6 e7 e8 e9 e10 e11
    obtain ⟨BA, rfl, lBA, hA⟩ := e12
    replace lBA : wq.heap.size ≤ BA := lBA
    obtain ⟨BB, rfl, lBB, hB⟩ := e13
    replace lBB : wq.heap.size ≤ BB := lBB
    have nBABB : BA ≠ BB := fun e => d0 (by rw [e])
    clear d0
    have l_hrv := lt_of_block (w := wq) hrv
    replace hrv := keep_below hb' l_hrv hrv
    have l_hr := lt_of_block (w := wq) hr
    replace hr := keep_below hb' l_hr hr
    have l_hlo := lt_of_block (w := wq) hlo
    replace hlo := keep_below hb' l_hlo hlo
    have l_hhi := lt_of_block (w := wq) hhi
    replace hhi := keep_below hb' l_hhi hhi
    have l_hfi := lt_of_block (w := wq) hfi
    replace hfi := keep_below hb' l_hfi hfi
    replace hb := (Bar.drewl (Bar.of_below (P := LO) (Q := HI) (w := wq.drew) hb') |> fun h => hb.drew.trans (w' := wq.drew) (by exact ⟨h.os, h.tape, h.output, h.size, h.block⟩))
    go_upto_region 1 with (first | (refine wpList_store_arr rfl rfl rfl rfl RTFe hA ?_) | (refine wpList_store_arr rfl rfl rfl rfl RTFe (row_keep hB (Ne.symm nBABB)) ?_))
    replace hrv := row_keep (g := BA) (c' := (arr .u64 5 fun i => (((sA X Z) i : Nat) : Int))) hrv (Nat.ne_of_lt (Nat.lt_of_lt_of_le l_hrv lBA))
    replace hr := row_keep (g := BA) (c' := (arr .u64 5 fun i => (((sA X Z) i : Nat) : Int))) hr (Nat.ne_of_lt (Nat.lt_of_lt_of_le l_hr lBA))
    replace hlo := row_keep (g := BA) (c' := (arr .u64 5 fun i => (((sA X Z) i : Nat) : Int))) hlo (Nat.ne_of_lt (Nat.lt_of_lt_of_le l_hlo lBA))
    replace hhi := row_keep (g := BA) (c' := (arr .u64 5 fun i => (((sA X Z) i : Nat) : Int))) hhi (Nat.ne_of_lt (Nat.lt_of_lt_of_le l_hhi lBA))
    replace hfi := row_keep (g := BA) (c' := (arr .u64 5 fun i => (((sA X Z) i : Nat) : Int))) hfi (Nat.ne_of_lt (Nat.lt_of_lt_of_le l_hfi lBA))
    replace hA := row_self (c' := (arr .u64 5 fun i => (((sA X Z) i : Nat) : Int))) hA
    replace hB := row_keep (g := BA) (c' := (arr .u64 5 fun i => (((sA X Z) i : Nat) : Int))) hB (Ne.symm nBABB)
    replace hb := hb.row (g := BA) (.inr (.inr (Nat.le_trans lw lBA))) (arr .u64 5 fun i => (((sA X Z) i : Nat) : Int))
    replace hrv := row_keep (g := BB) (c' := (arr .u64 5 fun i => (((sB X Z) i : Nat) : Int))) hrv (Nat.ne_of_lt (Nat.lt_of_lt_of_le l_hrv lBB))
    replace hr := row_keep (g := BB) (c' := (arr .u64 5 fun i => (((sB X Z) i : Nat) : Int))) hr (Nat.ne_of_lt (Nat.lt_of_lt_of_le l_hr lBB))
    replace hlo := row_keep (g := BB) (c' := (arr .u64 5 fun i => (((sB X Z) i : Nat) : Int))) hlo (Nat.ne_of_lt (Nat.lt_of_lt_of_le l_hlo lBB))
    replace hhi := row_keep (g := BB) (c' := (arr .u64 5 fun i => (((sB X Z) i : Nat) : Int))) hhi (Nat.ne_of_lt (Nat.lt_of_lt_of_le l_hhi lBB))
    replace hfi := row_keep (g := BB) (c' := (arr .u64 5 fun i => (((sB X Z) i : Nat) : Int))) hfi (Nat.ne_of_lt (Nat.lt_of_lt_of_le l_hfi lBB))
    replace hA := row_keep (g := BB) (c' := (arr .u64 5 fun i => (((sB X Z) i : Nat) : Int))) hA nBABB
    replace hB := row_self (c' := (arr .u64 5 fun i => (((sB X Z) i : Nat) : Int))) hB
    replace hb := hb.row (g := BB) (.inr (.inr (Nat.le_trans lw lBB))) (arr .u64 5 fun i => (((sB X Z) i : Nat) : Int))
    replace lw : w.heap.size ≤ ((w5.setRow BA (arr .u64 5 fun i => (((sA X Z) i : Nat) : Int))).setRow BB (arr .u64 5 fun i => (((sB X Z) i : Nat) : Int))).heap.size := hb.size
    clear l_hrv l_hr l_hlo l_hhi l_hfi lBA lBB hb' nBABB
    generalize ((w5.setRow BA (arr .u64 5 fun i => (((sA X Z) i : Nat) : Int))).setRow BB (arr .u64 5 fun i => (((sB X Z) i : Nat) : Int))) = wn at *
    clear wq
    obtain ⟨wq, rfl⟩ : ∃ x, x = wn := ⟨_, rfl⟩
    (try simp only [Act.put, List.setIfInBounds_toArray, List.set_cons_zero, List.set_cons_succ])
    refine wp_region_free2 20 [Is (.pointer (some ⟨R, 0, none⟩)), Is (.pointer (some ⟨R, 0, none⟩)), Is (.pointer (some ⟨HI, 0, none⟩)), Is (.agg (arr .u64 5 fun i => ((X' i : Nat) : Int))), Is (.pointer (some ⟨HI, 5, none⟩)), Is (.agg (arr .u64 5 fun i => ((Z' i : Nat) : Int))), Is (.agg (arr .u64 5 fun i => (((difN X' Z') i : Nat) : Int))), Is (.agg (arr .u64 5 fun i => (((sA X Z) i : Nat) : Int))), Is (.agg (arr .u64 5 fun i => (((sDA X Z X' Z') i : Nat) : Int))), Is (.pointer (some ⟨R, 0, none⟩)), Is (.pointer (some ⟨R, 0, none⟩)), Is (.pointer (some ⟨HI, 0, none⟩)), Is (.agg (arr .u64 5 fun i => ((X' i : Nat) : Int))), Is (.pointer (some ⟨HI, 5, none⟩)), Is (.agg (arr .u64 5 fun i => ((Z' i : Nat) : Int))), Is (.agg (arr .u64 5 fun i => (((sumN X' Z') i : Nat) : Int))), Is (.agg (arr .u64 5 fun i => (((sB X Z) i : Nat) : Int))), Is (.agg (arr .u64 5 fun i => (((sCB X Z X' Z') i : Nat) : Int))), NewAt wq.heap.size (.cells (arr .u64 5 fun _ => 0) 51), NewAt wq.heap.size (.cells (arr .u64 5 fun _ => 0) 51)] [[], [], [], [2], [], [4], [1, 3, 5], [], [0, 6, 7], [], [], [], [11], [], [13], [10, 12, 14], [], [9, 15, 16], [], []] [(18, 19)] (by kernel_rfl) (by kernel_rfl) (by kernel_rfl) rfl (st_cons (is_stays _) (st_cons (is_stays _) (st_cons (is_stays _) (st_cons (is_stays _) (st_cons (is_stays _) (st_cons (is_stays _) (st_cons (is_stays _) (st_cons (is_stays _) (st_cons (is_stays _) (st_cons (is_stays _) (st_cons (is_stays _) (st_cons (is_stays _) (st_cons (is_stays _) (st_cons (is_stays _) (st_cons (is_stays _) (st_cons (is_stays _) (st_cons (is_stays _) (st_cons (is_stays _) (st_cons (new_stays _ _) (st_cons (new_stays _ _) st_nil)))))))))))))))))))) ?_ ?_
    · (simp only [List.take_succ_cons, List.take_zero, List.drop_succ_cons, List.drop_zero, List.zip_cons_cons, List.zip_nil_left, List.zip_nil_right, freeOps2, allV, under, underD, apartAt, factAt, fillA, List.getElem?_cons_zero, List.getElem?_cons_succ, List.range_succ, List.range_zero, List.nil_append, List.cons_append, Act.put, List.setIfInBounds_toArray, List.set_cons_zero, List.set_cons_succ])
      refine ⟨?_, ?_, ?_, ?_, ?_, ?_, ?_, ?_, ?_, ?_, ?_, ?_, ?_, ?_, ?_, ?_, ?_, ?_, ?_, ?_, trivial⟩
      · intro x0 x1 x2 x3 x4 x5 x6 x7 x8 x9 x10 x11 x12 x13 x14 x15 x16 x17 x18 x19 w' hb' 
        have cr := cell_of_row _ _ 0 _ _ _ (keep_below hb' (lt_of_block (w := wq) hrv) hrv)
        refine free2_of (free_e rfl (fun K hK => ?_)) rfl
        go_simp
        exact hK _ _ (Below.refl _ _) rfl
      · intro x0 x1 x2 x3 x4 x5 x6 x7 x8 x9 x10 x11 x12 x13 x14 x15 x16 x17 x18 x19 w' hb' 
        have cr := cell_of_row _ _ 0 _ _ _ (keep_below hb' (lt_of_block (w := wq) hrv) hrv)
        refine free2_of (free_e rfl (fun K hK => ?_)) rfl
        go_simp
        exact hK _ _ (Below.refl _ _) rfl
      · intro x0 x1 x2 x3 x4 x5 x6 x7 x8 x9 x10 x11 x12 x13 x14 x15 x16 x17 x18 x19 w' hb' 
        refine free2_of (free_e rfl (fun K hK => ?_)) rfl
        go_simp
        exact hK _ _ (Below.refl _ _) rfl
      · intro x0 x1 x2 x3 x4 x5 x6 x7 x8 x9 x10 x11 x12 x13 x14 x15 x16 x17 x18 x19 w' hb' e0
        unfold Is at e0
        subst e0
        exact free2_of (free_load_as (fun i => ((X' i : Nat) : Int)) rfl rfl rfl RTFe (keep_below hb' (lt_of_block (w := wq) hhi) hhi) (by omega) (fun i hi => two_lo _ _ i hi) rfl) rfl
      · intro x0 x1 x2 x3 x4 x5 x6 x7 x8 x9 x10 x11 x12 x13 x14 x15 x16 x17 x18 x19 w' hb' 
        refine free2_of (free_e rfl (fun K hK => ?_)) rfl
        go_simp
        exact hK _ _ (Below.refl _ _) rfl
      · intro x0 x1 x2 x3 x4 x5 x6 x7 x8 x9 x10 x11 x12 x13 x14 x15 x16 x17 x18 x19 w' hb' e0
        unfold Is at e0
        subst e0
        exact free2_of (free_load_as (fun i => ((Z' i : Nat) : Int)) rfl rfl rfl RTFe (keep_below hb' (lt_of_block (w := wq) hhi) hhi) (by omega) (fun i hi => two_hi _ _ i hi) rfl) rfl
      · intro x0 x1 x2 x3 x4 x5 x6 x7 x8 x9 x10 x11 x12 x13 x14 x15 x16 x17 x18 x19 w' hb' e0 e1 e2
        unfold Is at e0 e1 e2
        subst e0 e1 e2
        refine free2_of (free_e rfl (fun K hK => ?_)) rfl
        go_simp
        refine (rsub_yes R X' Z' OX'.out OZ'.out _ (keep_below hb' (lt_of_block (w := wq) hr) hr)).mono ?_
        rintro e w4 ⟨rfl, b4⟩
        exact hK _ _ b4 (by unfold Is; rfl)
      · intro x0 x1 x2 x3 x4 x5 x6 x7 x8 x9 x10 x11 x12 x13 x14 x15 x16 x17 x18 x19 w' hb' 
        exact free2_of (free_load_arr rfl rfl rfl RTFe (keep_below hb' (lt_of_block (w := wq) hA) hA) rfl) rfl
      · intro x0 x1 x2 x3 x4 x5 x6 x7 x8 x9 x10 x11 x12 x13 x14 x15 x16 x17 x18 x19 w' hb' e0 e1 e2
        unfold Is at e0 e1 e2
        subst e0 e1 e2
        refine free2_of (free_e rfl (fun K hK => ?_)) rfl
        go_simp
        refine (rmul_yes R (difN X' Z') (sA X Z) (dif_ok OX'.out) (ok_A OX.out OZ.out) _ (keep_below hb' (lt_of_block (w := wq) hr) hr)).mono ?_
        rintro e w4 ⟨rfl, b4⟩
        exact hK _ _ b4 (by unfold Is sDA; rfl)
      · intro x0 x1 x2 x3 x4 x5 x6 x7 x8 x9 x10 x11 x12 x13 x14 x15 x16 x17 x18 x19 w' hb' 
        have cr := cell_of_row _ _ 0 _ _ _ (keep_below hb' (lt_of_block (w := wq) hrv) hrv)
        refine free2_of (free_e rfl (fun K hK => ?_)) rfl
        go_simp
        exact hK _ _ (Below.refl _ _) rfl
      · intro x0 x1 x2 x3 x4 x5 x6 x7 x8 x9 x10 x11 x12 x13 x14 x15 x16 x17 x18 x19 w' hb' 
        have cr := cell_of_row _ _ 0 _ _ _ (keep_below hb' (lt_of_block (w := wq) hrv) hrv)
        refine free2_of (free_e rfl (fun K hK => ?_)) rfl
        go_simp
        exact hK _ _ (Below.refl _ _) rfl
      · intro x0 x1 x2 x3 x4 x5 x6 x7 x8 x9 x10 x11 x12 x13 x14 x15 x16 x17 x18 x19 w' hb' 
        refine free2_of (free_e rfl (fun K hK => ?_)) rfl
        go_simp
        exact hK _ _ (Below.refl _ _) rfl
      · intro x0 x1 x2 x3 x4 x5 x6 x7 x8 x9 x10 x11 x12 x13 x14 x15 x16 x17 x18 x19 w' hb' e0
        unfold Is at e0
        subst e0
        exact free2_of (free_load_as (fun i => ((X' i : Nat) : Int)) rfl rfl rfl RTFe (keep_below hb' (lt_of_block (w := wq) hhi) hhi) (by omega) (fun i hi => two_lo _ _ i hi) rfl) rfl
      · intro x0 x1 x2 x3 x4 x5 x6 x7 x8 x9 x10 x11 x12 x13 x14 x15 x16 x17 x18 x19 w' hb' 
        refine free2_of (free_e rfl (fun K hK => ?_)) rfl
        go_simp
        exact hK _ _ (Below.refl _ _) rfl
      · intro x0 x1 x2 x3 x4 x5 x6 x7 x8 x9 x10 x11 x12 x13 x14 x15 x16 x17 x18 x19 w' hb' e0
        unfold Is at e0
        subst e0
        exact free2_of (free_load_as (fun i => ((Z' i : Nat) : Int)) rfl rfl rfl RTFe (keep_below hb' (lt_of_block (w := wq) hhi) hhi) (by omega) (fun i hi => two_hi _ _ i hi) rfl) rfl
      · intro x0 x1 x2 x3 x4 x5 x6 x7 x8 x9 x10 x11 x12 x13 x14 x15 x16 x17 x18 x19 w' hb' e0 e1 e2
        unfold Is at e0 e1 e2
        subst e0 e1 e2
        refine free2_of (free_e rfl (fun K hK => ?_)) rfl
        go_simp
        refine (radd_yes R X' Z' OX'.out OZ'.out _ (keep_below hb' (lt_of_block (w := wq) hr) hr)).mono ?_
        rintro e w4 ⟨rfl, b4⟩
        exact hK _ _ b4 (by unfold Is; rfl)
      · intro x0 x1 x2 x3 x4 x5 x6 x7 x8 x9 x10 x11 x12 x13 x14 x15 x16 x17 x18 x19 w' hb' 
        exact free2_of (free_load_arr rfl rfl rfl RTFe (keep_below hb' (lt_of_block (w := wq) hB) hB) rfl) rfl
      · intro x0 x1 x2 x3 x4 x5 x6 x7 x8 x9 x10 x11 x12 x13 x14 x15 x16 x17 x18 x19 w' hb' e0 e1 e2
        unfold Is at e0 e1 e2
        subst e0 e1 e2
        refine free2_of (free_e rfl (fun K hK => ?_)) rfl
        go_simp
        refine (rmul_yes R (sumN X' Z') (sB X Z) (sum_ok OX'.out OZ'.out) (ok_B OX.out OZ.out) _ (keep_below hb' (lt_of_block (w := wq) hr) hr)).mono ?_
        rintro e w4 ⟨rfl, b4⟩
        exact hK _ _ b4 (by unfold Is sCB; rfl)
      · intro x0 x1 x2 x3 x4 x5 x6 x7 x8 x9 x10 x11 x12 x13 x14 x15 x16 x17 x18 x19 w' hb' 
        exact free2_alloc rfl rfl ZTFe ⟨_, rfl, hb'.size, heap_alloc_new _ _⟩
      · intro x0 x1 x2 x3 x4 x5 x6 x7 x8 x9 x10 x11 x12 x13 x14 x15 x16 x17 x18 x19 w' hb' 
        exact free2_alloc rfl rfl ZTFe ⟨_, rfl, hb'.size, heap_alloc_new _ _⟩
    · (simp only [List.take_succ_cons, List.take_zero, List.drop_succ_cons, List.drop_zero, List.zip_cons_cons, List.zip_nil_left, List.zip_nil_right, freeOps2, allV, under, underD, apartAt, factAt, fillA, List.getElem?_cons_zero, List.getElem?_cons_succ, List.range_succ, List.range_zero, List.nil_append, List.cons_append, Act.put, List.setIfInBounds_toArray, List.set_cons_zero, List.set_cons_succ])
      rintro x0 x1 x2 x3 x4 x5 x6 x7 x8 x9 x10 x11 x12 x13 x14 x15 x16 x17 x18 x19 w5 hb' e0 e1 e2 e3 e4 e5 e6 e7 e8 e9 e10 e11 e12 e13 e14 e15 e16 e17 e18 e19 d0
      unfold Is at e0 e1 e2 e3 e4 e5 e6 e7 e8 e9 e10 e11 e12 e13 e14 e15 e16 e17
      subst e0 e1 e2 e3 e4 e5 e6 e7 e8 e9 e10 e11 e12 e13 e14 e15 e16 e17
      obtain ⟨BD, rfl, lBD, hD⟩ := e18
      replace lBD : wq.heap.size ≤ BD := lBD
      obtain ⟨BC, rfl, lBC, hC⟩ := e19
      replace lBC : wq.heap.size ≤ BC := lBC
      have nBDBC : BD ≠ BC := fun e => d0 (by rw [e])
      clear d0
      have l_hrv := lt_of_block (w := wq) hrv
      replace hrv := keep_below hb' l_hrv hrv
      have l_hr := lt_of_block (w := wq) hr
      replace hr := keep_below hb' l_hr hr
      have l_hlo := lt_of_block (w := wq) hlo
      replace hlo := keep_below hb' l_hlo hlo
      have l_hhi := lt_of_block (w := wq) hhi
      replace hhi := keep_below hb' l_hhi hhi
      have l_hfi := lt_of_block (w := wq) hfi
      replace hfi := keep_below hb' l_hfi hfi
      have l_hA := lt_of_block (w := wq) hA
      replace hA := keep_below hb' l_hA hA
      have l_hB := lt_of_block (w := wq) hB
      replace hB := keep_below hb' l_hB hB
      replace hb := (Bar.drewl (Bar.of_below (P := LO) (Q := HI) (w := wq.drew) hb') |> fun h => hb.drew.trans (w' := wq.drew) (by exact ⟨h.os, h.tape, h.output, h.size, h.block⟩))
      go_upto_region 2 with (first | (refine wpList_store_arr rfl rfl rfl rfl RTFe hD ?_) | (refine wpList_store_arr rfl rfl rfl rfl RTFe (row_keep hC (Ne.symm nBDBC)) ?_))
      replace hrv := row_keep (g := BD) (c' := (arr .u64 5 fun i => (((sDA X Z X' Z') i : Nat) : Int))) hrv (Nat.ne_of_lt (Nat.lt_of_lt_of_le l_hrv lBD))
      replace hr := row_keep (g := BD) (c' := (arr .u64 5 fun i => (((sDA X Z X' Z') i : Nat) : Int))) hr (Nat.ne_of_lt (Nat.lt_of_lt_of_le l_hr lBD))
      replace hlo := row_keep (g := BD) (c' := (arr .u64 5 fun i => (((sDA X Z X' Z') i : Nat) : Int))) hlo (Nat.ne_of_lt (Nat.lt_of_lt_of_le l_hlo lBD))
      replace hhi := row_keep (g := BD) (c' := (arr .u64 5 fun i => (((sDA X Z X' Z') i : Nat) : Int))) hhi (Nat.ne_of_lt (Nat.lt_of_lt_of_le l_hhi lBD))
      replace hfi := row_keep (g := BD) (c' := (arr .u64 5 fun i => (((sDA X Z X' Z') i : Nat) : Int))) hfi (Nat.ne_of_lt (Nat.lt_of_lt_of_le l_hfi lBD))
      replace hA := row_keep (g := BD) (c' := (arr .u64 5 fun i => (((sDA X Z X' Z') i : Nat) : Int))) hA (Nat.ne_of_lt (Nat.lt_of_lt_of_le l_hA lBD))
      replace hB := row_keep (g := BD) (c' := (arr .u64 5 fun i => (((sDA X Z X' Z') i : Nat) : Int))) hB (Nat.ne_of_lt (Nat.lt_of_lt_of_le l_hB lBD))
      replace hD := row_self (c' := (arr .u64 5 fun i => (((sDA X Z X' Z') i : Nat) : Int))) hD
      replace hC := row_keep (g := BD) (c' := (arr .u64 5 fun i => (((sDA X Z X' Z') i : Nat) : Int))) hC (Ne.symm nBDBC)
      replace hb := hb.row (g := BD) (.inr (.inr (Nat.le_trans lw lBD))) (arr .u64 5 fun i => (((sDA X Z X' Z') i : Nat) : Int))
      replace hrv := row_keep (g := BC) (c' := (arr .u64 5 fun i => (((sCB X Z X' Z') i : Nat) : Int))) hrv (Nat.ne_of_lt (Nat.lt_of_lt_of_le l_hrv lBC))
      replace hr := row_keep (g := BC) (c' := (arr .u64 5 fun i => (((sCB X Z X' Z') i : Nat) : Int))) hr (Nat.ne_of_lt (Nat.lt_of_lt_of_le l_hr lBC))
      replace hlo := row_keep (g := BC) (c' := (arr .u64 5 fun i => (((sCB X Z X' Z') i : Nat) : Int))) hlo (Nat.ne_of_lt (Nat.lt_of_lt_of_le l_hlo lBC))
      replace hhi := row_keep (g := BC) (c' := (arr .u64 5 fun i => (((sCB X Z X' Z') i : Nat) : Int))) hhi (Nat.ne_of_lt (Nat.lt_of_lt_of_le l_hhi lBC))
      replace hfi := row_keep (g := BC) (c' := (arr .u64 5 fun i => (((sCB X Z X' Z') i : Nat) : Int))) hfi (Nat.ne_of_lt (Nat.lt_of_lt_of_le l_hfi lBC))
      replace hA := row_keep (g := BC) (c' := (arr .u64 5 fun i => (((sCB X Z X' Z') i : Nat) : Int))) hA (Nat.ne_of_lt (Nat.lt_of_lt_of_le l_hA lBC))
      replace hB := row_keep (g := BC) (c' := (arr .u64 5 fun i => (((sCB X Z X' Z') i : Nat) : Int))) hB (Nat.ne_of_lt (Nat.lt_of_lt_of_le l_hB lBC))
      replace hD := row_keep (g := BC) (c' := (arr .u64 5 fun i => (((sCB X Z X' Z') i : Nat) : Int))) hD nBDBC
      replace hC := row_self (c' := (arr .u64 5 fun i => (((sCB X Z X' Z') i : Nat) : Int))) hC
      replace hb := hb.row (g := BC) (.inr (.inr (Nat.le_trans lw lBC))) (arr .u64 5 fun i => (((sCB X Z X' Z') i : Nat) : Int))
      replace lw : w.heap.size ≤ ((w5.setRow BD (arr .u64 5 fun i => (((sDA X Z X' Z') i : Nat) : Int))).setRow BC (arr .u64 5 fun i => (((sCB X Z X' Z') i : Nat) : Int))).heap.size := hb.size
      clear l_hrv l_hr l_hlo l_hhi l_hfi l_hA l_hB lBD lBC hb' nBDBC
      generalize ((w5.setRow BD (arr .u64 5 fun i => (((sDA X Z X' Z') i : Nat) : Int))).setRow BC (arr .u64 5 fun i => (((sCB X Z X' Z') i : Nat) : Int))) = wn at *
      clear wq
      obtain ⟨wq, rfl⟩ : ∃ x, x = wn := ⟨_, rfl⟩
      (try simp only [Act.put, List.setIfInBounds_toArray, List.set_cons_zero, List.set_cons_succ])
      have lrv : RV < wq.drew.heap.size := lt_of_block (w := wq) hrv
      refine wp_region_can wq.heap.size 16 [(0, false), (1, false), (2, false), (3, false), (6, false), (7, false), (8, false), (9, false), (10, false), (11, false), (4, true), (5, true), (12, true), (13, true), (14, true), (15, false)] (by kernel_rfl) (by kernel_rfl) ?_
      (simp only [canOps, List.getElem?_cons_zero, List.getElem?_cons_succ, List.drop_succ_cons, List.drop_zero])
      have c_rv : wq.drew.cell? ⟨RV, 0, none⟩ = some (.pointer (some ⟨R, 0, none⟩)) := cell_of_row _ _ 0 _ _ _ hrv
      iterate 1 (first | (refine wpCan_move rfl rfl (fun _ _ _ _ h => h) ?_; (simp only [Act.put, Act.eval, Array.getD_eq_getD_getElem?, List.getElem?_toArray, List.getElem?_cons_zero, List.getElem?_cons_succ, Option.getD_some, List.setIfInBounds_toArray, List.set_cons_zero, List.set_cons_succ])) | (refine wpCan_assign rfl rfl (fun _ _ _ _ h => h) ?_; (simp only [Act.put, Act.eval, Array.getD_eq_getD_getElem?, List.getElem?_toArray, List.getElem?_cons_zero, List.getElem?_cons_succ, Option.getD_some, List.setIfInBounds_toArray, List.set_cons_zero, List.set_cons_succ])) | (refine wpCan_nilCheck rfl rfl rfl (fun _ _ _ _ h => h) ?_; (simp only [Act.put, List.setIfInBounds_toArray, List.set_cons_zero, List.set_cons_succ])) | (refine wpCan_q rfl rfl (fun _ _ _ _ h => h) (by first | exact .bin rfl rfl rfl | exact .indexAddr rfl | exact .un rfl | exact .extract rfl | exact .index rfl | exact .field rfl | exact .slice rfl | exact .load rfl rfl lrv hrv) (fun K hK => ?_); go_simp; (try (simp only [↓IntWalk.iteOmega]; go_simp)); (try go_bits); refine hK _ ?_; clear hK K))
      iterate 1 (first | (refine wpCan_move rfl rfl (fun _ _ _ _ h => h) ?_; (simp only [Act.put, Act.eval, Array.getD_eq_getD_getElem?, List.getElem?_toArray, List.getElem?_cons_zero, List.getElem?_cons_succ, Option.getD_some, List.setIfInBounds_toArray, List.set_cons_zero, List.set_cons_succ])) | (refine wpCan_assign rfl rfl (fun _ _ _ _ h => h) ?_; (simp only [Act.put, Act.eval, Array.getD_eq_getD_getElem?, List.getElem?_toArray, List.getElem?_cons_zero, List.getElem?_cons_succ, Option.getD_some, List.setIfInBounds_toArray, List.set_cons_zero, List.set_cons_succ])) | (refine wpCan_nilCheck rfl rfl rfl (fun _ _ _ _ h => h) ?_; (simp only [Act.put, List.setIfInBounds_toArray, List.set_cons_zero, List.set_cons_succ])) | (refine wpCan_q rfl rfl (fun _ _ _ _ h => h) (by first | exact .bin rfl rfl rfl | exact .indexAddr rfl | exact .un rfl | exact .extract rfl | exact .index rfl | exact .field rfl | exact .slice rfl | exact .load rfl rfl lrv hrv) (fun K hK => ?_); go_simp; (try (simp only [↓IntWalk.iteOmega]; go_simp)); (try go_bits); refine hK _ ?_; clear hK K))
      refine wpCan_load_arr rfl rfl rfl (fun _ _ _ _ h => h) RTFe (lt_of_block (w := wq) hD) hD ?_
      (try simp only [Act.put, List.setIfInBounds_toArray, List.set_cons_zero, List.set_cons_succ])
      refine wpCan_load_arr rfl rfl rfl (fun _ _ _ _ h => h) RTFe (lt_of_block (w := wq) hC) hC ?_
      (try simp only [Act.put, List.setIfInBounds_toArray, List.set_cons_zero, List.set_cons_succ])
      iterate 1 (first | (refine wpCan_move rfl rfl (fun _ _ _ _ h => h) ?_; (simp only [Act.put, Act.eval, Array.getD_eq_getD_getElem?, List.getElem?_toArray, List.getElem?_cons_zero, List.getElem?_cons_succ, Option.getD_some, List.setIfInBounds_toArray, List.set_cons_zero, List.set_cons_succ])) | (refine wpCan_assign rfl rfl (fun _ _ _ _ h => h) ?_; (simp only [Act.put, Act.eval, Array.getD_eq_getD_getElem?, List.getElem?_toArray, List.getElem?_cons_zero, List.getElem?_cons_succ, Option.getD_some, List.setIfInBounds_toArray, List.set_cons_zero, List.set_cons_succ])) | (refine wpCan_nilCheck rfl rfl rfl (fun _ _ _ _ h => h) ?_; (simp only [Act.put, List.setIfInBounds_toArray, List.set_cons_zero, List.set_cons_succ])) | (refine wpCan_q rfl rfl (fun _ _ _ _ h => h) (by first | exact .bin rfl rfl rfl | exact .indexAddr rfl | exact .un rfl | exact .extract rfl | exact .index rfl | exact .field rfl | exact .slice rfl | exact .load rfl rfl lrv hrv) (fun K hK => ?_); go_simp; (try (simp only [↓IntWalk.iteOmega]; go_simp)); (try go_bits); refine hK _ ?_; clear hK K))
      refine wpCan_load_arr rfl rfl rfl (fun _ _ _ _ h => h) RTFe (lt_of_block (w := wq) hfi) hfi ?_
      (try simp only [Act.put, List.setIfInBounds_toArray, List.set_cons_zero, List.set_cons_succ])
      iterate 1 (first | (refine wpCan_move rfl rfl (fun _ _ _ _ h => h) ?_; (simp only [Act.put, Act.eval, Array.getD_eq_getD_getElem?, List.getElem?_toArray, List.getElem?_cons_zero, List.getElem?_cons_succ, Option.getD_some, List.setIfInBounds_toArray, List.set_cons_zero, List.set_cons_succ])) | (refine wpCan_assign rfl rfl (fun _ _ _ _ h => h) ?_; (simp only [Act.put, Act.eval, Array.getD_eq_getD_getElem?, List.getElem?_toArray, List.getElem?_cons_zero, List.getElem?_cons_succ, Option.getD_some, List.setIfInBounds_toArray, List.set_cons_zero, List.set_cons_succ])) | (refine wpCan_nilCheck rfl rfl rfl (fun _ _ _ _ h => h) ?_; (simp only [Act.put, List.setIfInBounds_toArray, List.set_cons_zero, List.set_cons_succ])) | (refine wpCan_q rfl rfl (fun _ _ _ _ h => h) (by first | exact .bin rfl rfl rfl | exact .indexAddr rfl | exact .un rfl | exact .extract rfl | exact .index rfl | exact .field rfl | exact .slice rfl | exact .load rfl rfl lrv hrv) (fun K hK => ?_); go_simp; (try (simp only [↓IntWalk.iteOmega]; go_simp)); (try go_bits); refine hK _ ?_; clear hK K))
      iterate 1 (first | (refine wpCan_move rfl rfl (fun _ _ _ _ h => h) ?_; (simp only [Act.put, Act.eval, Array.getD_eq_getD_getElem?, List.getElem?_toArray, List.getElem?_cons_zero, List.getElem?_cons_succ, Option.getD_some, List.setIfInBounds_toArray, List.set_cons_zero, List.set_cons_succ])) | (refine wpCan_assign rfl rfl (fun _ _ _ _ h => h) ?_; (simp only [Act.put, Act.eval, Array.getD_eq_getD_getElem?, List.getElem?_toArray, List.getElem?_cons_zero, List.getElem?_cons_succ, Option.getD_some, List.setIfInBounds_toArray, List.set_cons_zero, List.set_cons_succ])) | (refine wpCan_nilCheck rfl rfl rfl (fun _ _ _ _ h => h) ?_; (simp only [Act.put, List.setIfInBounds_toArray, List.set_cons_zero, List.set_cons_succ])) | (refine wpCan_q rfl rfl (fun _ _ _ _ h => h) (by first | exact .bin rfl rfl rfl | exact .indexAddr rfl | exact .un rfl | exact .extract rfl | exact .index rfl | exact .field rfl | exact .slice rfl | exact .load rfl rfl lrv hrv) (fun K hK => ?_); go_simp; (try (simp only [↓IntWalk.iteOmega]; go_simp)); (try go_bits); refine hK _ ?_; clear hK K))
      refine wpCan_load_arr rfl rfl rfl (fun _ _ _ _ h => h) RTFe (lt_of_block (w := wq) hD) hD ?_
      (try simp only [Act.put, List.setIfInBounds_toArray, List.set_cons_zero, List.set_cons_succ])
      refine wpCan_load_arr rfl rfl rfl (fun _ _ _ _ h => h) RTFe (lt_of_block (w := wq) hC) hC ?_
      (try simp only [Act.put, List.setIfInBounds_toArray, List.set_cons_zero, List.set_cons_succ])
      refine wpCan_e rfl (fun K hK => ?_)
      go_simp
      refine (radd_yes R (sDA X Z X' Z') (sCB X Z X' Z') (ok_DA OX.out OZ.out OX'.out OZ'.out) (ok_CB OX.out OZ.out OX'.out OZ'.out) _ (by exact hr)).mono ?_
      rintro e v1 ⟨rfl, b1⟩
      refine hK _ _ (Keep.of_below b1 (Nat.le_refl _)) ?_
      clear hK K
      (try simp only [Act.put, List.setIfInBounds_toArray, List.set_cons_zero, List.set_cons_succ])
      have cb := b1
      clear b1
      refine wpCan_e rfl (fun K hK => ?_)
      go_simp
      refine (rsquare_yes R _ (sum_ok (ok_DA OX.out OZ.out OX'.out OZ'.out) (ok_CB OX.out OZ.out OX'.out OZ'.out)) _ (by exact keep_below (w := wq.drew) cb (lt_of_block (w := wq) hr) hr)).mono ?_
      rintro e v2 ⟨rfl, b2⟩
      refine hK _ _ (Keep.of_below b2 cb.size) ?_
      clear hK K
      (try simp only [Act.put, List.setIfInBounds_toArray, List.set_cons_zero, List.set_cons_succ])
      replace cb := cb.trans (b2.mono cb.size)
      clear b2
      refine wpCan_e rfl (fun K hK => ?_)
      go_simp
      refine (rsub_yes R (sDA X Z X' Z') (sCB X Z X' Z') (ok_DA OX.out OZ.out OX'.out OZ'.out) (ok_CB OX.out OZ.out OX'.out OZ'.out) _ (by exact keep_below (w := wq.drew) cb (lt_of_block (w := wq) hr) hr)).mono ?_
      rintro e v3 ⟨rfl, b3⟩
      refine hK _ _ (Keep.of_below b3 cb.size) ?_
      clear hK K
      (try simp only [Act.put, List.setIfInBounds_toArray, List.set_cons_zero, List.set_cons_succ])
      replace cb := cb.trans (b3.mono cb.size)
      clear b3
      refine wpCan_e rfl (fun K hK => ?_)
      go_simp
      refine (rsquare_yes R _ (dif_ok (ok_DA OX.out OZ.out OX'.out OZ'.out)) _ (by exact keep_below (w := wq.drew) cb (lt_of_block (w := wq) hr) hr)).mono ?_
      rintro e v4 ⟨rfl, b4⟩
      refine hK _ _ (Keep.of_below b4 cb.size) ?_
      clear hK K
      (try simp only [Act.put, List.setIfInBounds_toArray, List.set_cons_zero, List.set_cons_succ])
      replace cb := cb.trans (b4.mono cb.size)
      clear b4
      refine wpCan_e rfl (fun K hK => ?_)
      go_simp
      refine (rmul_yes R U _ OU.out (sq_ok _ (dif_ok (ok_DA OX.out OZ.out OX'.out OZ'.out)) 1) _ (by exact keep_below (w := wq.drew) cb (lt_of_block (w := wq) hr) hr)).mono ?_
      rintro e v5 ⟨rfl, b5⟩
      refine hK _ _ (Keep.of_below b5 cb.size) ?_
      clear hK K
      (try simp only [Act.put, List.setIfInBounds_toArray, List.set_cons_zero, List.set_cons_succ])
      replace cb := cb.trans (b5.mono cb.size)
      clear b5
      refine wpCan_all rfl (fun _ _ _ _ h => h) (fun w' => run_op_build rfl (by simp [Act.eval, Act.put]; exact ⟨rfl, rfl⟩) (built_point (sHX X Z X' Z') (sHZ X Z X' Z' U))) ?_
      (try simp only [Act.put, List.setIfInBounds_toArray, List.set_cons_zero, List.set_cons_succ])
      refine wpCan_nil ?_
      clear c_rv lrv
      replace hrv := keep_below (w := wq.drew) cb (lt_of_block (w := wq) hrv) hrv
      replace hr := keep_below (w := wq.drew) cb (lt_of_block (w := wq) hr) hr
      replace hlo := keep_below (w := wq.drew) cb (lt_of_block (w := wq) hlo) hlo
      replace hhi := keep_below (w := wq.drew) cb (lt_of_block (w := wq) hhi) hhi
      replace hfi := keep_below (w := wq.drew) cb (lt_of_block (w := wq) hfi) hfi
      replace hA := keep_below (w := wq.drew) cb (lt_of_block (w := wq) hA) hA
      replace hB := keep_below (w := wq.drew) cb (lt_of_block (w := wq) hB) hB
      replace hD := keep_below (w := wq.drew) cb (lt_of_block (w := wq) hD) hD
      replace hC := keep_below (w := wq.drew) cb (lt_of_block (w := wq) hC) hC
      replace hb := hb.drew.trans (Bar.of_below cb)
      clear cb
      obtain ⟨ws, hws⟩ : ∃ x, x = v5 := ⟨_, rfl⟩
      rw [← hws] at hrv hr hlo hhi hfi hA hB hD hC hb ⊢
      clear hws
      go_upto_region 3 with (first | (refine wpList_store_arr rfl rfl rfl rfl RTPoint hhi ?_))
      replace hrv := row_keep (g := HI) (c' := (arr .u64 10 fun i => (((two5 (sHX X Z X' Z') (sHZ X Z X' Z' U)) i : Nat) : Int))) hrv (ne_of_type hrv hhi (by decide))
      replace hr := row_keep (g := HI) (c' := (arr .u64 10 fun i => (((two5 (sHX X Z X' Z') (sHZ X Z X' Z' U)) i : Nat) : Int))) hr (ne_of_type hr hhi (by decide))
      replace hlo := row_keep (g := HI) (c' := (arr .u64 10 fun i => (((two5 (sHX X Z X' Z') (sHZ X Z X' Z' U)) i : Nat) : Int))) hlo N7.out
      replace hfi := row_keep (g := HI) (c' := (arr .u64 10 fun i => (((two5 (sHX X Z X' Z') (sHZ X Z X' Z' U)) i : Nat) : Int))) hfi (ne_of_type hfi hhi (by decide))
      replace hA := row_keep (g := HI) (c' := (arr .u64 10 fun i => (((two5 (sHX X Z X' Z') (sHZ X Z X' Z' U)) i : Nat) : Int))) hA (ne_of_type hA hhi (by decide))
      replace hB := row_keep (g := HI) (c' := (arr .u64 10 fun i => (((two5 (sHX X Z X' Z') (sHZ X Z X' Z' U)) i : Nat) : Int))) hB (ne_of_type hB hhi (by decide))
      replace hD := row_keep (g := HI) (c' := (arr .u64 10 fun i => (((two5 (sHX X Z X' Z') (sHZ X Z X' Z' U)) i : Nat) : Int))) hD (ne_of_type hD hhi (by decide))
      replace hC := row_keep (g := HI) (c' := (arr .u64 10 fun i => (((two5 (sHX X Z X' Z') (sHZ X Z X' Z' U)) i : Nat) : Int))) hC (ne_of_type hC hhi (by decide))
      replace hb := hb.row (g := HI) (.inr (.inl rfl)) (arr .u64 10 fun i => (((two5 (sHX X Z X' Z') (sHZ X Z X' Z' U)) i : Nat) : Int))
      replace hhi := row_self (c' := (arr .u64 10 fun i => (((two5 (sHX X Z X' Z') (sHZ X Z X' Z' U)) i : Nat) : Int))) hhi
      generalize ws.setRow HI (arr .u64 10 fun i => (((two5 (sHX X Z X' Z') (sHZ X Z X' Z' U)) i : Nat) : Int)) = wn at *
      clear ws
      obtain ⟨wq, rfl⟩ : ∃ x, x = wn := ⟨_, rfl⟩
      (try simp only [Act.put, List.setIfInBounds_toArray, List.set_cons_zero, List.set_cons_succ])
      replace lw := hb.size
      clear hD hC
      refine wp_region_free2 8 [Is (.pointer (some ⟨R, 0, none⟩)), Is (.agg (arr .u64 5 fun i => (((sA X Z) i : Nat) : Int))), Is (.agg (arr .u64 5 fun i => (((sAA X Z) i : Nat) : Int))), Is (.pointer (some ⟨R, 0, none⟩)), Is (.agg (arr .u64 5 fun i => (((sB X Z) i : Nat) : Int))), Is (.agg (arr .u64 5 fun i => (((sBB X Z) i : Nat) : Int))), NewAt wq.heap.size (.cells (arr .u64 5 fun _ => 0) 51), NewAt wq.heap.size (.cells (arr .u64 5 fun _ => 0) 51)] [[], [], [0, 1], [], [], [3, 4], [], []] [(6, 7)] (by kernel_rfl) (by kernel_rfl) (by kernel_rfl) rfl (st_cons (is_stays _) (st_cons (is_stays _) (st_cons (is_stays _) (st_cons (is_stays _) (st_cons (is_stays _) (st_cons (is_stays _) (st_cons (new_stays _ _) (st_cons (new_stays _ _) st_nil)))))))) ?_ ?_
      · (simp only [List.take_succ_cons, List.take_zero, List.drop_succ_cons, List.drop_zero, List.zip_cons_cons, List.zip_nil_left, List.zip_nil_right, freeOps2, allV, under, underD, apartAt, factAt, fillA, List.getElem?_cons_zero, List.getElem?_cons_succ, List.range_succ, List.range_zero, List.nil_append, List.cons_append, Act.put, List.setIfInBounds_toArray, List.set_cons_zero, List.set_cons_succ])
        refine ⟨?_, ?_, ?_, ?_, ?_, ?_, ?_, ?_, trivial⟩
        · intro x0 x1 x2 x3 x4 x5 x6 x7 w' hb' 
          have cr := cell_of_row _ _ 0 _ _ _ (keep_below hb' (lt_of_block (w := wq) hrv) hrv)
          refine free2_of (free_e rfl (fun K hK => ?_)) rfl
          go_simp
          exact hK _ _ (Below.refl _ _) rfl
        · intro x0 x1 x2 x3 x4 x5 x6 x7 w' hb' 
          exact free2_of (free_load_arr rfl rfl rfl RTFe (keep_below hb' (lt_of_block (w := wq) hA) hA) rfl) rfl
        · intro x0 x1 x2 x3 x4 x5 x6 x7 w' hb' e0 e1
          unfold Is at e0 e1
          subst e0 e1
          refine free2_of (free_e rfl (fun K hK => ?_)) rfl
          go_simp
          refine (rsquare_yes R (sA X Z) (ok_A OX.out OZ.out) _ (keep_below hb' (lt_of_block (w := wq) hr) hr)).mono ?_
          rintro e w4 ⟨rfl, b4⟩
          exact hK _ _ b4 (by unfold Is sAA; rfl)
        · intro x0 x1 x2 x3 x4 x5 x6 x7 w' hb' 
          have cr := cell_of_row _ _ 0 _ _ _ (keep_below hb' (lt_of_block (w := wq) hrv) hrv)
          refine free2_of (free_e rfl (fun K hK => ?_)) rfl
          go_simp
          exact hK _ _ (Below.refl _ _) rfl
        · intro x0 x1 x2 x3 x4 x5 x6 x7 w' hb' 
          exact free2_of (free_load_arr rfl rfl rfl RTFe (keep_below hb' (lt_of_block (w := wq) hB) hB) rfl) rfl
        · intro x0 x1 x2 x3 x4 x5 x6 x7 w' hb' e0 e1
          unfold Is at e0 e1
          subst e0 e1
          refine free2_of (free_e rfl (fun K hK => ?_)) rfl
          go_simp
          refine (rsquare_yes R (sB X Z) (ok_B OX.out OZ.out) _ (keep_below hb' (lt_of_block (w := wq) hr) hr)).mono ?_
          rintro e w4 ⟨rfl, b4⟩
          exact hK _ _ b4 (by unfold Is sBB; rfl)
        · intro x0 x1 x2 x3 x4 x5 x6 x7 w' hb' 
          exact free2_alloc rfl rfl ZTFe ⟨_, rfl, hb'.size, heap_alloc_new _ _⟩
        · intro x0 x1 x2 x3 x4 x5 x6 x7 w' hb' 
          exact free2_alloc rfl rfl ZTFe ⟨_, rfl, hb'.size, heap_alloc_new _ _⟩
      · (simp only [List.take_succ_cons, List.take_zero, List.drop_succ_cons, List.drop_zero, List.zip_cons_cons, List.zip_nil_left, List.zip_nil_right, freeOps2, allV, under, underD, apartAt, factAt, fillA, List.getElem?_cons_zero, List.getElem?_cons_succ, List.range_succ, List.range_zero, List.nil_append, List.cons_append, Act.put, List.setIfInBounds_toArray, List.set_cons_zero, List.set_cons_succ])
        rintro x0 x1 x2 x3 x4 x5 x6 x7 w5 hb' e0 e1 e2 e3 e4 e5 e6 e7 d0
        unfold Is at e0 e1 e2 e3 e4 e5
        subst e0 e1 e2 e3 e4 e5
        obtain ⟨BP, rfl, lBP, hP⟩ := e6
        replace lBP : wq.heap.size ≤ BP := lBP
        obtain ⟨BQ, rfl, lBQ, hQ⟩ := e7
        replace lBQ : wq.heap.size ≤ BQ := lBQ
        have nBPBQ : BP ≠ BQ := fun e => d0 (by rw [e])
        clear d0
        have l_hrv := lt_of_block (w := wq) hrv
        replace hrv := keep_below hb' l_hrv hrv
        have l_hr := lt_of_block (w := wq) hr
        replace hr := keep_below hb' l_hr hr
        have l_hlo := lt_of_block (w := wq) hlo
        replace hlo := keep_below hb' l_hlo hlo
        have l_hhi := lt_of_block (w := wq) hhi
        replace hhi := keep_below hb' l_hhi hhi
        have l_hfi := lt_of_block (w := wq) hfi
        replace hfi := keep_below hb' l_hfi hfi
        have l_hA := lt_of_block (w := wq) hA
        replace hA := keep_below hb' l_hA hA
        have l_hB := lt_of_block (w := wq) hB
        replace hB := keep_below hb' l_hB hB
        replace hb := (Bar.drewl (Bar.of_below (P := LO) (Q := HI) (w := wq.drew) hb') |> fun h => hb.drew.trans (w' := wq.drew) (by exact ⟨h.os, h.tape, h.output, h.size, h.block⟩))
        go_upto_region 4 with (first | (refine wpList_store_arr rfl rfl rfl rfl RTFe hP ?_) | (refine wpList_store_arr rfl rfl rfl rfl RTFe (row_keep hQ (Ne.symm nBPBQ)) ?_))
        replace hrv := row_keep (g := BP) (c' := (arr .u64 5 fun i => (((sAA X Z) i : Nat) : Int))) hrv (Nat.ne_of_lt (Nat.lt_of_lt_of_le l_hrv lBP))
        replace hr := row_keep (g := BP) (c' := (arr .u64 5 fun i => (((sAA X Z) i : Nat) : Int))) hr (Nat.ne_of_lt (Nat.lt_of_lt_of_le l_hr lBP))
        replace hlo := row_keep (g := BP) (c' := (arr .u64 5 fun i => (((sAA X Z) i : Nat) : Int))) hlo (Nat.ne_of_lt (Nat.lt_of_lt_of_le l_hlo lBP))
        replace hhi := row_keep (g := BP) (c' := (arr .u64 5 fun i => (((sAA X Z) i : Nat) : Int))) hhi (Nat.ne_of_lt (Nat.lt_of_lt_of_le l_hhi lBP))
        replace hfi := row_keep (g := BP) (c' := (arr .u64 5 fun i => (((sAA X Z) i : Nat) : Int))) hfi (Nat.ne_of_lt (Nat.lt_of_lt_of_le l_hfi lBP))
        replace hA := row_keep (g := BP) (c' := (arr .u64 5 fun i => (((sAA X Z) i : Nat) : Int))) hA (Nat.ne_of_lt (Nat.lt_of_lt_of_le l_hA lBP))
        replace hB := row_keep (g := BP) (c' := (arr .u64 5 fun i => (((sAA X Z) i : Nat) : Int))) hB (Nat.ne_of_lt (Nat.lt_of_lt_of_le l_hB lBP))
        replace hP := row_self (c' := (arr .u64 5 fun i => (((sAA X Z) i : Nat) : Int))) hP
        replace hQ := row_keep (g := BP) (c' := (arr .u64 5 fun i => (((sAA X Z) i : Nat) : Int))) hQ (Ne.symm nBPBQ)
        replace hb := hb.row (g := BP) (.inr (.inr (Nat.le_trans lw lBP))) (arr .u64 5 fun i => (((sAA X Z) i : Nat) : Int))
        replace hrv := row_keep (g := BQ) (c' := (arr .u64 5 fun i => (((sBB X Z) i : Nat) : Int))) hrv (Nat.ne_of_lt (Nat.lt_of_lt_of_le l_hrv lBQ))
        replace hr := row_keep (g := BQ) (c' := (arr .u64 5 fun i => (((sBB X Z) i : Nat) : Int))) hr (Nat.ne_of_lt (Nat.lt_of_lt_of_le l_hr lBQ))
        replace hlo := row_keep (g := BQ) (c' := (arr .u64 5 fun i => (((sBB X Z) i : Nat) : Int))) hlo (Nat.ne_of_lt (Nat.lt_of_lt_of_le l_hlo lBQ))
        replace hhi := row_keep (g := BQ) (c' := (arr .u64 5 fun i => (((sBB X Z) i : Nat) : Int))) hhi (Nat.ne_of_lt (Nat.lt_of_lt_of_le l_hhi lBQ))
        replace hfi := row_keep (g := BQ) (c' := (arr .u64 5 fun i => (((sBB X Z) i : Nat) : Int))) hfi (Nat.ne_of_lt (Nat.lt_of_lt_of_le l_hfi lBQ))
        replace hA := row_keep (g := BQ) (c' := (arr .u64 5 fun i => (((sBB X Z) i : Nat) : Int))) hA (Nat.ne_of_lt (Nat.lt_of_lt_of_le l_hA lBQ))
        replace hB := row_keep (g := BQ) (c' := (arr .u64 5 fun i => (((sBB X Z) i : Nat) : Int))) hB (Nat.ne_of_lt (Nat.lt_of_lt_of_le l_hB lBQ))
        replace hP := row_keep (g := BQ) (c' := (arr .u64 5 fun i => (((sBB X Z) i : Nat) : Int))) hP nBPBQ
        replace hQ := row_self (c' := (arr .u64 5 fun i => (((sBB X Z) i : Nat) : Int))) hQ
        replace hb := hb.row (g := BQ) (.inr (.inr (Nat.le_trans lw lBQ))) (arr .u64 5 fun i => (((sBB X Z) i : Nat) : Int))
        replace lw : w.heap.size ≤ ((w5.setRow BP (arr .u64 5 fun i => (((sAA X Z) i : Nat) : Int))).setRow BQ (arr .u64 5 fun i => (((sBB X Z) i : Nat) : Int))).heap.size := hb.size
        clear l_hrv l_hr l_hlo l_hhi l_hfi l_hA l_hB lBP lBQ hb' nBPBQ
        generalize ((w5.setRow BP (arr .u64 5 fun i => (((sAA X Z) i : Nat) : Int))).setRow BQ (arr .u64 5 fun i => (((sBB X Z) i : Nat) : Int))) = wn at *
        clear wq
        obtain ⟨wq, rfl⟩ : ∃ x, x = wn := ⟨_, rfl⟩
        (try simp only [Act.put, List.setIfInBounds_toArray, List.set_cons_zero, List.set_cons_succ])
        clear hA hB
        have c_rv : wq.cell? ⟨RV, 0, none⟩ = some (.pointer (some ⟨R, 0, none⟩)) := cell_of_row _ _ 0 _ _ _ hrv
        go_wp2_with (first | (refine wpList_load_arr rfl rfl rfl RTFe hP ?_) | (refine wpList_load_arr rfl rfl rfl RTFe hQ ?_) | (go_at_call 25; fail))
        refine (rsub_yes R (sAA X Z) (sBB X Z) (ok_AA OX.out OZ.out) (ok_BB OX.out OZ.out) _ hr).mono ?_
        rintro e w4 ⟨rfl, b4⟩
        replace hrv := keep_below b4 (lt_of_block hrv) hrv
        replace hr := keep_below b4 (lt_of_block hr) hr
        replace hlo := keep_below b4 (lt_of_block hlo) hlo
        replace hhi := keep_below b4 (lt_of_block hhi) hhi
        replace hfi := keep_below b4 (lt_of_block hfi) hfi
        replace hP := keep_below b4 (lt_of_block hP) hP
        replace hQ := keep_below b4 (lt_of_block hQ) hQ
        replace hb := hb.trans (Bar.of_below b4)
        clear b4 c_rv
        go_upto_region 5 with (refine wpList_new_arr rfl rfl rfl rfl ZTFe RTFe rfl rfl ?_; intro w8 hE b8 hs8)
        have l0 := lt_of_block hlo
        replace hrv := keep_below b8 (lt_of_block hrv) hrv
        replace hr := keep_below b8 (lt_of_block hr) hr
        replace hlo := keep_below b8 (lt_of_block hlo) hlo
        replace hhi := keep_below b8 (lt_of_block hhi) hhi
        replace hfi := keep_below b8 (lt_of_block hfi) hfi
        replace hP := keep_below b8 (lt_of_block hP) hP
        replace hQ := keep_below b8 (lt_of_block hQ) hQ
        replace hb := hb.trans (Bar.of_below b8)
        clear b8 hs8
        obtain ⟨BE, hBE⟩ : ∃ B, B = w4.heap.size := ⟨_, rfl⟩
        rw [← hBE] at l0 hE ⊢
        clear hBE
        obtain ⟨wq, rfl⟩ : ∃ x, x = w8 := ⟨_, rfl⟩
        (try simp only [Act.put, List.setIfInBounds_toArray, List.set_cons_zero, List.set_cons_succ])
        have lrv : RV < wq.drew.heap.size := lt_of_block (w := wq) hrv
        refine wp_region_can wq.heap.size 15 [(0, false), (1, false), (2, false), (4, false), (5, false), (6, false), (7, false), (8, false), (9, false), (10, false), (3, true), (11, true), (12, true), (13, true), (14, false)] (by kernel_rfl) (by kernel_rfl) ?_
        (simp only [canOps, List.getElem?_cons_zero, List.getElem?_cons_succ, List.drop_succ_cons, List.drop_zero])
        have c_rv : wq.drew.cell? ⟨RV, 0, none⟩ = some (.pointer (some ⟨R, 0, none⟩)) := cell_of_row _ _ 0 _ _ _ hrv
        iterate 1 (first | (refine wpCan_move rfl rfl (fun _ _ _ _ h => h) ?_; (simp only [Act.put, Act.eval, Array.getD_eq_getD_getElem?, List.getElem?_toArray, List.getElem?_cons_zero, List.getElem?_cons_succ, Option.getD_some, List.setIfInBounds_toArray, List.set_cons_zero, List.set_cons_succ])) | (refine wpCan_assign rfl rfl (fun _ _ _ _ h => h) ?_; (simp only [Act.put, Act.eval, Array.getD_eq_getD_getElem?, List.getElem?_toArray, List.getElem?_cons_zero, List.getElem?_cons_succ, Option.getD_some, List.setIfInBounds_toArray, List.set_cons_zero, List.set_cons_succ])) | (refine wpCan_nilCheck rfl rfl rfl (fun _ _ _ _ h => h) ?_; (simp only [Act.put, List.setIfInBounds_toArray, List.set_cons_zero, List.set_cons_succ])) | (refine wpCan_q rfl rfl (fun _ _ _ _ h => h) (by first | exact .bin rfl rfl rfl | exact .indexAddr rfl | exact .un rfl | exact .extract rfl | exact .index rfl | exact .field rfl | exact .slice rfl | exact .load rfl rfl lrv hrv) (fun K hK => ?_); go_simp; (try (simp only [↓IntWalk.iteOmega]; go_simp)); (try go_bits); refine hK _ ?_; clear hK K))
        refine wpCan_load_arr rfl rfl rfl (fun _ _ _ _ h => h) RTFe (lt_of_block (w := wq) hP) hP ?_
        (try simp only [Act.put, List.setIfInBounds_toArray, List.set_cons_zero, List.set_cons_succ])
        refine wpCan_load_arr rfl rfl rfl (fun _ _ _ _ h => h) RTFe (lt_of_block (w := wq) hQ) hQ ?_
        (try simp only [Act.put, List.setIfInBounds_toArray, List.set_cons_zero, List.set_cons_succ])
        iterate 1 (first | (refine wpCan_move rfl rfl (fun _ _ _ _ h => h) ?_; (simp only [Act.put, Act.eval, Array.getD_eq_getD_getElem?, List.getElem?_toArray, List.getElem?_cons_zero, List.getElem?_cons_succ, Option.getD_some, List.setIfInBounds_toArray, List.set_cons_zero, List.set_cons_succ])) | (refine wpCan_assign rfl rfl (fun _ _ _ _ h => h) ?_; (simp only [Act.put, Act.eval, Array.getD_eq_getD_getElem?, List.getElem?_toArray, List.getElem?_cons_zero, List.getElem?_cons_succ, Option.getD_some, List.setIfInBounds_toArray, List.set_cons_zero, List.set_cons_succ])) | (refine wpCan_nilCheck rfl rfl rfl (fun _ _ _ _ h => h) ?_; (simp only [Act.put, List.setIfInBounds_toArray, List.set_cons_zero, List.set_cons_succ])) | (refine wpCan_q rfl rfl (fun _ _ _ _ h => h) (by first | exact .bin rfl rfl rfl | exact .indexAddr rfl | exact .un rfl | exact .extract rfl | exact .index rfl | exact .field rfl | exact .slice rfl | exact .load rfl rfl lrv hrv) (fun K hK => ?_); go_simp; (try (simp only [↓IntWalk.iteOmega]; go_simp)); (try go_bits); refine hK _ ?_; clear hK K))
        refine wpCan_load_arr rfl rfl rfl (fun _ _ _ _ h => h) RTFe (lt_of_block (w := wq) hE) hE ?_
        (try simp only [Act.put, List.setIfInBounds_toArray, List.set_cons_zero, List.set_cons_succ])
        iterate 1 (first | (refine wpCan_move rfl rfl (fun _ _ _ _ h => h) ?_; (simp only [Act.put, Act.eval, Array.getD_eq_getD_getElem?, List.getElem?_toArray, List.getElem?_cons_zero, List.getElem?_cons_succ, Option.getD_some, List.setIfInBounds_toArray, List.set_cons_zero, List.set_cons_succ])) | (refine wpCan_assign rfl rfl (fun _ _ _ _ h => h) ?_; (simp only [Act.put, Act.eval, Array.getD_eq_getD_getElem?, List.getElem?_toArray, List.getElem?_cons_zero, List.getElem?_cons_succ, Option.getD_some, List.setIfInBounds_toArray, List.set_cons_zero, List.set_cons_succ])) | (refine wpCan_nilCheck rfl rfl rfl (fun _ _ _ _ h => h) ?_; (simp only [Act.put, List.setIfInBounds_toArray, List.set_cons_zero, List.set_cons_succ])) | (refine wpCan_q rfl rfl (fun _ _ _ _ h => h) (by first | exact .bin rfl rfl rfl | exact .indexAddr rfl | exact .un rfl | exact .extract rfl | exact .index rfl | exact .field rfl | exact .slice rfl | exact .load rfl rfl lrv hrv) (fun K hK => ?_); go_simp; (try (simp only [↓IntWalk.iteOmega]; go_simp)); (try go_bits); refine hK _ ?_; clear hK K))
        refine wpCan_load_arr rfl rfl rfl (fun _ _ _ _ h => h) RTFe (lt_of_block (w := wq) hP) hP ?_
        (try simp only [Act.put, List.setIfInBounds_toArray, List.set_cons_zero, List.set_cons_succ])
        iterate 1 (first | (refine wpCan_move rfl rfl (fun _ _ _ _ h => h) ?_; (simp only [Act.put, Act.eval, Array.getD_eq_getD_getElem?, List.getElem?_toArray, List.getElem?_cons_zero, List.getElem?_cons_succ, Option.getD_some, List.setIfInBounds_toArray, List.set_cons_zero, List.set_cons_succ])) | (refine wpCan_assign rfl rfl (fun _ _ _ _ h => h) ?_; (simp only [Act.put, Act.eval, Array.getD_eq_getD_getElem?, List.getElem?_toArray, List.getElem?_cons_zero, List.getElem?_cons_succ, Option.getD_some, List.setIfInBounds_toArray, List.set_cons_zero, List.set_cons_succ])) | (refine wpCan_nilCheck rfl rfl rfl (fun _ _ _ _ h => h) ?_; (simp only [Act.put, List.setIfInBounds_toArray, List.set_cons_zero, List.set_cons_succ])) | (refine wpCan_q rfl rfl (fun _ _ _ _ h => h) (by first | exact .bin rfl rfl rfl | exact .indexAddr rfl | exact .un rfl | exact .extract rfl | exact .index rfl | exact .field rfl | exact .slice rfl | exact .load rfl rfl lrv hrv) (fun K hK => ?_); go_simp; (try (simp only [↓IntWalk.iteOmega]; go_simp)); (try go_bits); refine hK _ ?_; clear hK K))
        refine wpCan_all rfl (fun _ _ _ _ h => h) (fun w' => run_op_build rfl (by simp [Act.eval, Act.put]) (built_fe1 121665)) ?_
        (try simp only [Act.put, List.setIfInBounds_toArray, List.set_cons_zero, List.set_cons_succ])
        refine wpCan_load_arr rfl rfl rfl (fun _ _ _ _ h => h) RTFe (lt_of_block (w := wq) hE) hE ?_
        (try simp only [Act.put, List.setIfInBounds_toArray, List.set_cons_zero, List.set_cons_succ])
        refine wpCan_e rfl (fun K hK => ?_)
        go_simp
        refine (rmul_yes R (sAA X Z) (sBB X Z) (ok_AA OX.out OZ.out) (ok_BB OX.out OZ.out) _ (by exact hr)).mono ?_
        rintro e v1 ⟨rfl, b1⟩
        refine hK _ _ (Keep.of_below b1 (Nat.le_refl _)) ?_
        clear hK K
        (try simp only [Act.put, List.setIfInBounds_toArray, List.set_cons_zero, List.set_cons_succ])
        have cb := b1
        clear b1
        refine wpCan_e rfl (fun K hK => ?_)
        go_simp
        refine (rmul_yes R (oneF 121665) (sE X Z) ok_121665 (ok_E OX.out OZ.out) _ (by exact keep_below (w := wq.drew) cb (lt_of_block (w := wq) hr) hr)).mono ?_
        rintro e v2 ⟨rfl, b2⟩
        refine hK _ _ (Keep.of_below b2 cb.size) ?_
        clear hK K
        (try simp only [Act.put, List.setIfInBounds_toArray, List.set_cons_zero, List.set_cons_succ])
        replace cb := cb.trans (b2.mono cb.size)
        clear b2
        refine wpCan_e rfl (fun K hK => ?_)
        go_simp
        refine (radd_yes R (sAA X Z) _ (ok_AA OX.out OZ.out) (prod_ok _ _ ok_121665 (ok_E OX.out OZ.out)) _ (by exact keep_below (w := wq.drew) cb (lt_of_block (w := wq) hr) hr)).mono ?_
        rintro e v3 ⟨rfl, b3⟩
        refine hK _ _ (Keep.of_below b3 cb.size) ?_
        clear hK K
        (try simp only [Act.put, List.setIfInBounds_toArray, List.set_cons_zero, List.set_cons_succ])
        replace cb := cb.trans (b3.mono cb.size)
        clear b3
        refine wpCan_e rfl (fun K hK => ?_)
        go_simp
        refine (rmul_yes R (sE X Z) _ (ok_E OX.out OZ.out) (sum_ok (ok_AA OX.out OZ.out) (prod_ok _ _ ok_121665 (ok_E OX.out OZ.out))) _ (by exact keep_below (w := wq.drew) cb (lt_of_block (w := wq) hr) hr)).mono ?_
        rintro e v4 ⟨rfl, b4⟩
        refine hK _ _ (Keep.of_below b4 cb.size) ?_
        clear hK K
        (try simp only [Act.put, List.setIfInBounds_toArray, List.set_cons_zero, List.set_cons_succ])
        replace cb := cb.trans (b4.mono cb.size)
        clear b4
        refine wpCan_all rfl (fun _ _ _ _ h => h) (fun w' => run_op_build rfl (by simp [Act.eval, Act.put]; exact ⟨rfl, rfl⟩) (built_point (sLX X Z) (sLZ X Z))) ?_
        (try simp only [Act.put, List.setIfInBounds_toArray, List.set_cons_zero, List.set_cons_succ])
        refine wpCan_nil ?_
        clear c_rv lrv
        replace hrv := keep_below (w := wq.drew) cb (lt_of_block (w := wq) hrv) hrv
        replace hr := keep_below (w := wq.drew) cb (lt_of_block (w := wq) hr) hr
        replace hlo := keep_below (w := wq.drew) cb (lt_of_block (w := wq) hlo) hlo
        replace hhi := keep_below (w := wq.drew) cb (lt_of_block (w := wq) hhi) hhi
        replace hfi := keep_below (w := wq.drew) cb (lt_of_block (w := wq) hfi) hfi
        replace hP := keep_below (w := wq.drew) cb (lt_of_block (w := wq) hP) hP
        replace hQ := keep_below (w := wq.drew) cb (lt_of_block (w := wq) hQ) hQ
        replace hE := keep_below (w := wq.drew) cb (lt_of_block (w := wq) hE) hE
        replace hb := hb.drew.trans (Bar.of_below cb)
        clear cb
        obtain ⟨ws, hws⟩ : ∃ x, x = v4 := ⟨_, rfl⟩
        rw [← hws] at hrv hr hlo hhi hfi hP hQ hE hb ⊢
        clear hws
        go_wp2_with (first | (refine wpList_store_arr rfl rfl rfl rfl RTPoint hlo ?_))
        replace hrv := row_keep (g := LO) (c' := (arr .u64 10 fun i => (((two5 (sLX X Z) (sLZ X Z)) i : Nat) : Int))) hrv (ne_of_type hrv hlo (by decide))
        replace hr := row_keep (g := LO) (c' := (arr .u64 10 fun i => (((two5 (sLX X Z) (sLZ X Z)) i : Nat) : Int))) hr (ne_of_type hr hlo (by decide))
        replace hhi := row_keep (g := LO) (c' := (arr .u64 10 fun i => (((two5 (sLX X Z) (sLZ X Z)) i : Nat) : Int))) hhi (Ne.symm N7.out)
        replace hfi := row_keep (g := LO) (c' := (arr .u64 10 fun i => (((two5 (sLX X Z) (sLZ X Z)) i : Nat) : Int))) hfi (ne_of_type hfi hlo (by decide))
        replace hP := row_keep (g := LO) (c' := (arr .u64 10 fun i => (((two5 (sLX X Z) (sLZ X Z)) i : Nat) : Int))) hP (ne_of_type hP hlo (by decide))
        replace hQ := row_keep (g := LO) (c' := (arr .u64 10 fun i => (((two5 (sLX X Z) (sLZ X Z)) i : Nat) : Int))) hQ (ne_of_type hQ hlo (by decide))
        replace hE := row_keep (g := LO) (c' := (arr .u64 10 fun i => (((two5 (sLX X Z) (sLZ X Z)) i : Nat) : Int))) hE (ne_of_type hE hlo (by decide))
        replace hb := hb.row (g := LO) (.inl rfl) (arr .u64 10 fun i => (((two5 (sLX X Z) (sLZ X Z)) i : Nat) : Int))
        replace hlo := row_self (c' := (arr .u64 10 fun i => (((two5 (sLX X Z) (sLZ X Z)) i : Nat) : Int))) hlo
        exact bodyPost_end (results_none rfl _ _ _) rfl ⟨rfl, hb, hrv, hr, hlo, hhi, hfi⟩
end Go.Proofs.YtfolbgiekbimpaaDoor
namespace Go.Proofs.YtfolbgiekbimpaaDoor
set_option linter.unusedSimpArgs false
set_option linter.unusedVariables false
def IsP (p : Nat) : Prop := 2 ≤ p ∧ ∀ d, d ∣ p → d = 1 ∨ d = p
theorem euclid {p a b : Nat} (hp : IsP p) (h : p ∣ a * b) : p ∣ a ∨ p ∣ b := by
  rcases hp.2 (Nat.gcd p a) (Nat.gcd_dvd_left p a) with h1 | h1
  · exact .inr (Nat.Coprime.dvd_of_dvd_mul_left h1 h)
  · exact .inl (by rw [← h1]; exact Nat.gcd_dvd_right p a)
theorem has_prime (m : Nat) (h : 2 ≤ m) : ∃ q, IsP q ∧ q ∣ m := by
  induction m using Nat.strongRecOn with
  | _ m ih =>
    by_cases hm : ∃ d, d ∣ m ∧ d ≠ 1 ∧ d ≠ m
    · obtain ⟨d, hd, h1, h2⟩ := hm
      have hle := Nat.le_of_dvd (by omega) hd
      have h0 : d ≠ 0 := fun e => by rw [e] at hd; have := Nat.eq_zero_of_zero_dvd hd; omega
      obtain ⟨q, hq, hqd⟩ := ih d (by omega) (by omega)
      exact ⟨q, hq, Nat.dvd_trans hqd hd⟩
    · refine ⟨m, ⟨h, fun d hd => ?_⟩, Nat.dvd_refl m⟩
      by_cases h1 : d = 1
      · exact .inl h1
      · by_cases h2 : d = m
        · exact .inr h2
        · exact absurd ⟨d, hd, h1, h2⟩ hm
def mulL : List Nat → Nat
  | [] => 1
  | q :: l => q * mulL l
theorem in_list {q : Nat} (hq : IsP q) : ∀ (l : List Nat), (∀ x ∈ l, IsP x) → q ∣ mulL l → q ∈ l
  | [], _, h => by have := Nat.le_of_dvd (by unfold mulL; omega) h; unfold mulL at this; have := hq.1; omega
  | x :: l, hl, h => by
    rcases euclid hq h with h1 | h1
    · rcases (hl x (by simp)).2 q h1 with h2 | h2
      · have := hq.1; omega
      · simp [h2]
    · simp [in_list hq l (fun y hy => hl y (by simp [hy])) h1]
theorem pigeon : ∀ (N : Nat) (f : Nat → Nat), (∀ i, i < N + 1 → f i < N) → ∃ i j, i < j ∧ j < N + 1 ∧ f i = f j
  | 0, f, h => absurd (h 0 (by omega)) (by omega)
  | N + 1, f, h => by
    by_cases hv : ∃ i, i < N + 1 ∧ f i = f (N + 1)
    · obtain ⟨i, hi, e⟩ := hv
      exact ⟨i, N + 1, hi, by omega, e⟩
    · have hne : ∀ i, i < N + 1 → f i ≠ f (N + 1) := fun i hi e => hv ⟨i, hi, e⟩
      have hlast := h (N + 1) (by omega)
      obtain ⟨i, j, hij, hj, e⟩ := pigeon N (fun i => if f i = N then f (N + 1) else f i) (fun i hi => by
        have h1 := h i (by omega)
        have h2 := hne i hi
        try dsimp only
        split <;> omega)
      refine ⟨i, j, hij, by omega, ?_⟩
      have hi1 := hne i (by omega)
      have hj1 := hne j hj
      try dsimp only at e
      split at e <;> split at e <;> omega
theorem onto (N : Nat) (f : Nat → Nat) (h : ∀ i, i < N → f i < N) (inj : ∀ i j, i < j → j < N → f i ≠ f j) (y : Nat) (hy : y < N) : ∃ i, i < N ∧ f i = y := by
  refine Classical.byContradiction fun hno => ?_
  have hn : ∀ i, i < N → f i ≠ y := fun i hi e => hno ⟨i, hi, e⟩
  obtain ⟨M, rfl⟩ : ∃ M, N = M + 1 := ⟨N - 1, by omega⟩
  obtain ⟨i, j, hij, hj, e⟩ := pigeon M (fun i => if f i = M then y else f i) (fun i hi => by
    have h1 := h i hi
    have h2 := hn i hi
    try dsimp only
    split <;> omega)
  have hi1 := hn i (by omega)
  have hj1 := hn j hj
  refine inj i j hij hj ?_
  try dsimp only at e
  split at e <;> split at e <;> omega

theorem pow_one_mod {n g k : Nat} (h : g ^ k % n = 1 % n) (t : Nat) : g ^ (k * t) % n = 1 % n := by
  rw [Nat.pow_mul, Nat.pow_mod, h, ← Nat.pow_mod, Nat.one_pow]
theorem cancel {n g N x y : Nat} (hN : 0 < N) (h : g ^ N % n = 1 % n) (k : Nat) (e : g ^ k * x % n = g ^ k * y % n) : x % n = y % n := by
  have key : ∀ z, (g ^ (N - 1)) ^ k * (g ^ k * z) % n = z % n := by
    intro z
    rw [← Nat.mul_assoc, ← Nat.mul_pow, ← Nat.pow_succ, show (N - 1).succ = N from by omega, Nat.mul_mod, Nat.pow_mod, h, ← Nat.pow_mod, Nat.one_pow, ← Nat.mul_mod, Nat.one_mul]
  rw [← key x, ← key y, Nat.mul_mod, e, ← Nat.mul_mod]
/-- A least one. -/
theorem least {p : Nat → Prop} : ∀ k, p k → ∃ e, p e ∧ ∀ d, d < e → ¬ p d := by
  intro k
  induction k using Nat.strongRecOn with
  | _ k ih =>
    intro hk
    by_cases hm : ∃ d, d < k ∧ p d
    · obtain ⟨d, hd, hp⟩ := hm
      exact ih d hd hp
    · exact ⟨k, hk, fun d hd hp => hm ⟨d, hd, hp⟩⟩
theorem no_less {n g N : Nat} {qs : List Nat} (hN : 0 < N) (hqs : ∀ q ∈ qs, IsP q) (hm : mulL qs = N) (h1 : g ^ N % n = 1 % n) (h2 : ∀ q ∈ qs, g ^ (N / q) % n ≠ 1 % n) (k : Nat) (hk0 : 0 < k) (hk : k < N) : g ^ k % n ≠ 1 % n := by
  intro hk1
  obtain ⟨e, ⟨he0, he1⟩, hmin⟩ := least (p := fun e => 0 < e ∧ g ^ e % n = 1 % n) k ⟨hk0, hk1⟩
  have hek : e ≤ k := by
    rcases Nat.lt_or_ge k e with h | h
    · exact absurd ⟨hk0, hk1⟩ (hmin k h)
    · exact h
  have hdv : e ∣ N := by
    have hr := Nat.div_add_mod N e
    have hl := Nat.mod_lt N he0
    have h3 : g ^ (N % e) % n = 1 % n := by
      have h4 := pow_one_mod he1 (N / e)
      rw [← hr, Nat.pow_add, Nat.mul_mod, h4, ← Nat.mul_mod, Nat.one_mul] at h1
      exact h1
    rcases Nat.eq_zero_or_pos (N % e) with h | h
    · exact Nat.dvd_of_mod_eq_zero h
    · exact absurd ⟨h, h3⟩ (hmin _ hl)
  obtain ⟨t, ht⟩ := hdv
  have ht2 : 2 ≤ t := by
    rcases Nat.lt_or_ge t 2 with h | h
    · have : t = 0 ∨ t = 1 := by omega
      rcases this with rfl | rfl <;> omega
    · exact h
  obtain ⟨q, hq, hqt⟩ := has_prime t ht2
  have hqm : q ∈ qs := in_list hq qs hqs (by rw [hm, ht]; exact Nat.dvd_trans hqt (Nat.dvd_mul_left t e))
  obtain ⟨s, hs⟩ := hqt
  refine h2 q hqm ?_
  have : N / q = e * s := by
    rw [ht, hs, Nat.mul_left_comm]
    exact Nat.mul_div_cancel_left _ (by have := hq.1; omega)
  rw [this]
  exact pow_one_mod he1 s

/-- **A prime, and its powers.** -/
theorem lucas_of {n g : Nat} {qs : List Nat} (hn : 2 ≤ n) (hqs : ∀ q ∈ qs, IsP q) (hm : mulL qs = n - 1) (h1 : g ^ (n - 1) % n = 1) (h2 : ∀ q ∈ qs, g ^ ((n - 1) / q) % n ≠ 1) :
    IsP n ∧ ∀ a, a % n ≠ 0 → a ^ (n - 1) % n = 1 := by
  have e1 : 1 % n = 1 := Nat.mod_eq_of_lt (by omega)
  have hN : 0 < n - 1 := by omega
  have h1' : g ^ (n - 1) % n = 1 % n := by rw [h1, e1]
  have hless := no_less hN hqs hm h1' (fun q hq => by rw [e1]; exact h2 q hq)
  have all : ∀ a, a % n ≠ 0 → a ^ (n - 1) % n = 1 := by
    intro a ha
    have hlt := Nat.mod_lt a (show n > 0 by omega)
    have nz : ∀ i, g ^ i % n ≠ 0 := by
      intro i hi
      have h3 := pow_one_mod h1' i
      rw [Nat.mul_comm, Nat.pow_mul, Nat.pow_mod, hi, e1] at h3
      rw [Nat.zero_pow hN, Nat.zero_mod] at h3
      omega
    obtain ⟨k, _, hk⟩ := onto (n - 1) (fun i => g ^ i % n - 1) (fun i hi => by
        have := nz i
        have := Nat.mod_lt (g ^ i) (show n > 0 by omega)
        try dsimp only
        omega) (fun i j hij hj e => by
        have a1 := nz i
        have a2 := nz j
        try dsimp only at e
        have e3 : g ^ i * 1 % n = g ^ i * g ^ (j - i) % n := by
          rw [Nat.mul_one, ← Nat.pow_add, show i + (j - i) = j from by omega]
          omega
        exact hless (j - i) (by omega) (by omega) (cancel hN h1' i e3).symm) (a % n - 1) (by omega)
    have hka : g ^ k % n = a % n := by have := nz k; omega
    have h4 := pow_one_mod h1' k
    rw [Nat.mul_comm, Nat.pow_mul, Nat.pow_mod, hka, ← Nat.pow_mod, e1] at h4
    exact h4
  refine ⟨⟨hn, fun d hd => ?_⟩, all⟩
  by_cases hd1 : d = 1
  · exact .inl hd1
  by_cases hdn : d = n
  · exact .inr hdn
  exfalso
  have hle := Nat.le_of_dvd (by omega) hd
  have hd0 : d ≠ 0 := fun e => by rw [e] at hd; have := Nat.eq_zero_of_zero_dvd hd; omega
  have h3 := all d (by rw [Nat.mod_eq_of_lt (by omega)]; exact hd0)
  have h4 : d ∣ d ^ (n - 1) % n := by
    rw [Nat.dvd_mod_iff hd]
    exact Nat.dvd_trans (by rw [Nat.pow_one]; exact Nat.dvd_refl d) (Nat.pow_dvd_pow d (show 1 ≤ n - 1 by omega))
  rw [h3] at h4
  have := Nat.le_of_dvd (by omega) h4
  omega

/-- A power, modulo n. -/
def pw (n : Nat) : Nat → Nat → Nat → Nat
  | 0, _, _ => 1 % n
  | f + 1, b, e => if e % 2 = 1 then b * pw n f (b * b % n) (e / 2) % n else pw n f (b * b % n) (e / 2)
theorem pw_is (n : Nat) : ∀ f b e, e < 2 ^ f → pw n f b e = b ^ e % n
  | 0, b, e, h => by
    have : e = 0 := by simpa using h
    subst this
    simp [pw]
  | f + 1, b, e, h => by
    have ih := pw_is n f (b * b % n) (e / 2) (by rw [Nat.pow_succ] at h; omega)
    have e2 : (b * b % n) ^ (e / 2) % n = b ^ (2 * (e / 2)) % n := by rw [← Nat.pow_mod, ← Nat.pow_two, ← Nat.pow_mul]
    unfold pw
    rw [ih, e2]
    split
    · rw [Nat.mul_mod_mod, ← Nat.pow_succ']
      congr 2
      omega
    · congr 2
      omega
def lucasB (n g : Nat) (qs : List Nat) : Bool := decide (2 ≤ n) && decide (n < 2 ^ 256) && decide (mulL qs = n - 1) && decide (pw n 256 g (n - 1) = 1) && qs.all fun q => decide (pw n 256 g ((n - 1) / q) ≠ 1)
/-- A power, which nothing reckons. -/
def powN (v e : Nat) : Nat := v ^ e
/-- A prime, and the powers of what it does not divide. -/
def IsL (n : Nat) : Prop := IsP n ∧ ∀ a, a % n ≠ 0 → powN a (n - 1) % n = 1
theorem lucas (n g : Nat) (qs : List Nat) (h : lucasB n g qs = true) (hqs : ∀ q ∈ qs, IsP q) : IsL n := by
  unfold IsL powN
  simp only [lucasB, Bool.and_eq_true, decide_eq_true_eq, List.all_eq_true] at h
  obtain ⟨⟨⟨⟨h1, h2⟩, h3⟩, h4⟩, h5⟩ := h
  refine lucas_of h1 hqs h3 (by rw [← pw_is n 256 g (n - 1) (Nat.lt_of_le_of_lt (Nat.sub_le _ _) h2)]; exact h4) (fun q hq => ?_)
  have := h5 q hq
  rwa [pw_is n 256 g _ (Nat.lt_of_le_of_lt (Nat.div_le_self _ _) (Nat.lt_of_le_of_lt (Nat.sub_le _ _) h2))] at this
def primeB (n : Nat) : Bool := decide (2 ≤ n) && (List.range n).all fun d => decide (d < 2) || decide (n % d ≠ 0)
theorem small {n : Nat} (h : primeB n = true) : IsP n := by
  simp only [primeB, Bool.and_eq_true, decide_eq_true_eq, List.all_eq_true, Bool.or_eq_true, List.mem_range] at h
  refine ⟨h.1, fun d hd => ?_⟩
  by_cases hdn : d = n
  · exact .inr hdn
  have hle := Nat.le_of_dvd (by omega) hd
  rcases h.2 d (by omega) with h2 | h2
  · have : d ≠ 0 := fun e => by rw [e] at hd; have := Nat.eq_zero_of_zero_dvd hd; omega
    omega
  · exact absurd (Nat.mod_eq_zero_of_dvd hd) h2
theorem all_nil : ∀ q ∈ ([] : List Nat), IsP q := fun _ h => by cases h
theorem all_cons {x : Nat} {l : List Nat} (h : IsP x) (hl : ∀ q ∈ l, IsP q) : ∀ q ∈ x :: l, IsP q := fun q hq => by
  rcases List.mem_cons.1 hq with rfl | hq
  · exact h
  · exact hl q hq
theorem p2 : IsP 2 := small (by decide +kernel)
theorem p3 : IsP 3 := small (by decide +kernel)
theorem p5 : IsP 5 := small (by decide +kernel)
theorem p7 : IsP 7 := small (by decide +kernel)
theorem p13 : IsP 13 := small (by decide +kernel)
theorem p17 : IsP 17 := small (by decide +kernel)
theorem p19 : IsP 19 := small (by decide +kernel)
theorem p23 : IsP 23 := small (by decide +kernel)
theorem p29 : IsP 29 := small (by decide +kernel)
theorem p31 : IsP 31 := small (by decide +kernel)
theorem p41 : IsP 41 := small (by decide +kernel)
theorem p43 : IsP 43 := small (by decide +kernel)
theorem p47 : IsP 47 := small (by decide +kernel)
theorem p59 : IsP 59 := small (by decide +kernel)
theorem p83 : IsP 83 := small (by decide +kernel)
theorem p97 : IsP 97 := small (by decide +kernel)
theorem p103 : IsP 103 := small (by decide +kernel)
theorem p107 : IsP 107 := small (by decide +kernel)
theorem p127 : IsP 127 := small (by decide +kernel)
theorem p131 : IsP 131 := small (by decide +kernel)
theorem p173 : IsP 173 := small (by decide +kernel)
theorem p223 : IsP 223 := small (by decide +kernel)
theorem p353 : IsP 353 := small (by decide +kernel)
theorem p419 : IsP 419 := small (by decide +kernel)
theorem p479 : IsP 479 := small (by decide +kernel)
theorem p487 : IsP 487 := small (by decide +kernel)
theorem p991 : IsP 991 := small (by decide +kernel)
theorem p1723 : IsL 1723 := lucas 1723 3 [2, 3, 7, 41] (by decide +kernel) (all_cons p2 (all_cons p3 (all_cons p7 (all_cons p41 all_nil))))
theorem p2437 : IsL 2437 := lucas 2437 2 [2, 2, 3, 7, 29] (by decide +kernel) (all_cons p2 (all_cons p2 (all_cons p3 (all_cons p7 (all_cons p29 all_nil)))))
theorem p3727 : IsL 3727 := lucas 3727 3 [2, 3, 3, 3, 3, 23] (by decide +kernel) (all_cons p2 (all_cons p3 (all_cons p3 (all_cons p3 (all_cons p3 (all_cons p23 all_nil))))))
theorem p4153 : IsL 4153 := lucas 4153 5 [2, 2, 2, 3, 173] (by decide +kernel) (all_cons p2 (all_cons p2 (all_cons p2 (all_cons p3 (all_cons p173 all_nil)))))
theorem p9463 : IsL 9463 := lucas 9463 3 [2, 3, 19, 83] (by decide +kernel) (all_cons p2 (all_cons p3 (all_cons p19 (all_cons p83 all_nil))))
theorem p32573 : IsL 32573 := lucas 32573 2 [2, 2, 17, 479] (by decide +kernel) (all_cons p2 (all_cons p2 (all_cons p17 (all_cons p479 all_nil))))
theorem p37853 : IsL 37853 := lucas 37853 2 [2, 2, 9463] (by decide +kernel) (all_cons p2 (all_cons p2 (all_cons p9463.1 all_nil)))
theorem p57467 : IsL 57467 := lucas 57467 2 [2, 59, 487] (by decide +kernel) (all_cons p2 (all_cons p59 (all_cons p487 all_nil)))
theorem p65147 : IsL 65147 := lucas 65147 2 [2, 32573] (by decide +kernel) (all_cons p2 (all_cons p32573.1 all_nil))
theorem p75707 : IsL 75707 := lucas 75707 2 [2, 37853] (by decide +kernel) (all_cons p2 (all_cons p37853.1 all_nil))
theorem p132049 : IsL 132049 := lucas 132049 26 [2, 2, 2, 2, 3, 3, 7, 131] (by decide +kernel) (all_cons p2 (all_cons p2 (all_cons p2 (all_cons p2 (all_cons p3 (all_cons p3 (all_cons p7 (all_cons p131 all_nil))))))))
theorem p430751 : IsL 430751 := lucas 430751 17 [2, 5, 5, 5, 1723] (by decide +kernel) (all_cons p2 (all_cons p5 (all_cons p5 (all_cons p5 (all_cons p1723.1 all_nil)))))
theorem p569003 : IsL 569003 := lucas 569003 2 [2, 7, 97, 419] (by decide +kernel) (all_cons p2 (all_cons p7 (all_cons p97 (all_cons p419 all_nil))))
theorem p1923133 : IsL 1923133 := lucas 1923133 2 [2, 2, 3, 43, 3727] (by decide +kernel) (all_cons p2 (all_cons p2 (all_cons p3 (all_cons p43 (all_cons p3727.1 all_nil)))))
theorem p8574133 : IsL 8574133 := lucas 8574133 2 [2, 2, 3, 7, 103, 991] (by decide +kernel) (all_cons p2 (all_cons p2 (all_cons p3 (all_cons p7 (all_cons p103 (all_cons p991 all_nil))))))
theorem p2773320623 : IsL 2773320623 := lucas 2773320623 5 [2, 2437, 569003] (by decide +kernel) (all_cons p2 (all_cons p2437.1 (all_cons p569003.1 all_nil)))
theorem p72106336199 : IsL 72106336199 := lucas 72106336199 7 [2, 13, 2773320623] (by decide +kernel) (all_cons p2 (all_cons p13 (all_cons p2773320623.1 all_nil)))
theorem p1919519569386763 : IsL 1919519569386763 := lucas 1919519569386763 2 [2, 3, 7, 19, 47, 47, 127, 8574133] (by decide +kernel) (all_cons p2 (all_cons p3 (all_cons p7 (all_cons p19 (all_cons p47 (all_cons p47 (all_cons p127 (all_cons p8574133.1 all_nil))))))))
theorem p31757755568855353 : IsL 31757755568855353 := lucas 31757755568855353 10 [2, 2, 2, 3, 31, 107, 223, 4153, 430751] (by decide +kernel) (all_cons p2 (all_cons p2 (all_cons p2 (all_cons p3 (all_cons p31 (all_cons p107 (all_cons p223 (all_cons p4153.1 (all_cons p430751.1 all_nil)))))))))
theorem p75445702479781427272750846543864801 : IsL 75445702479781427272750846543864801 := lucas 75445702479781427272750846543864801 7 [2, 2, 2, 2, 2, 3, 3, 5, 5, 75707, 72106336199, 1919519569386763] (by decide +kernel) (all_cons p2 (all_cons p2 (all_cons p2 (all_cons p2 (all_cons p2 (all_cons p3 (all_cons p3 (all_cons p5 (all_cons p5 (all_cons p75707.1 (all_cons p72106336199.1 (all_cons p1919519569386763.1 all_nil))))))))))))
theorem p74058212732561358302231226437062788676166966415465897661863160754340907 : IsL 74058212732561358302231226437062788676166966415465897661863160754340907 := lucas 74058212732561358302231226437062788676166966415465897661863160754340907 2 [2, 3, 353, 57467, 132049, 1923133, 31757755568855353, 75445702479781427272750846543864801] (by decide +kernel) (all_cons p2 (all_cons p3 (all_cons p353 (all_cons p57467.1 (all_cons p132049.1 (all_cons p1923133.1 (all_cons p31757755568855353.1 (all_cons p75445702479781427272750846543864801.1 all_nil))))))))
theorem p57896044618658097711785492504343953926634992332820282019728792003956564819949 : IsL 57896044618658097711785492504343953926634992332820282019728792003956564819949 := lucas 57896044618658097711785492504343953926634992332820282019728792003956564819949 2 [2, 2, 3, 65147, 74058212732561358302231226437062788676166966415465897661863160754340907] (by decide +kernel) (all_cons p2 (all_cons p2 (all_cons p3 (all_cons p65147.1 (all_cons p74058212732561358302231226437062788676166966415465897661863160754340907.1 all_nil)))))
end Go.Proofs.YtfolbgiekbimpaaDoor
namespace Go.Proofs.YtfolbgiekbimpaaDoor
set_option linter.unusedSimpArgs false
set_option linter.unusedVariables false
attribute [local irreducible] accN byteN prodN carN diffN sumN difN valN
theorem powN_one (v : Nat) : powN v 1 = v := Nat.pow_one v
theorem powN_sq (v e n : Nat) : powN v e ^ 2 ^ n = powN v (e * 2 ^ n) := (Nat.pow_mul v e _).symm
theorem powN_add (v e f : Nat) : powN v e * powN v f = powN v (e + f) := (Nat.pow_add v e f).symm
theorem powN_up (v e k : Nat) (h : e + 1 = k) : v * powN v e = powN v k := by subst h; exact (Nat.pow_succ' ..).symm
theorem powN_mod (v w e n : Nat) (h : v % n = w % n) : powN v e % n = powN w e % n := by unfold powN; rw [Nat.pow_mod, h, ← Nat.pow_mod]
theorem powN_zero (e n : Nat) (v : Nat) (he : e ≠ 0) (h : v % n = 0) : powN v e % n = 0 := by
  unfold powN
  rw [Nat.pow_mod, h, Nat.zero_pow (Nat.pos_of_ne_zero he), Nat.zero_mod]
attribute [local irreducible] powN
theorem prime_pow (v : Nat) (h : v % pN ≠ 0) : powN v 57896044618658097711785492504343953926634992332820282019728792003956564819948 % pN = 1 := by
  have h1 := p57896044618658097711785492504343953926634992332820282019728792003956564819949.2 v
  unfold pN at h ⊢
  exact h1 h
theorem fits_sq {F : Nat → Nat} {v e : Nat} (hF : Fits F (powN v e)) (n k : Nat) (h : e * 2 ^ n = k) : Fits (sqN F n) (powN v k) := by
  have := sq_fits hF n
  rwa [powN_sq, h] at this
theorem fits_prod {F G : Nat → Nat} {v e f k : Nat} (hF : Fits F (powN v e)) (hG : Fits G (powN v f)) (h : e + f = k) : Fits (prodN F G) (powN v k) := by
  have := prod_fits hF hG
  rwa [powN_add, h] at this
theorem fits_ones {F G : Nat → Nat} {v e f k : Nat} (n : Nat) (hF : Fits F (powN v e)) (hG : Fits G (powN v f)) (h : e * 2 ^ n + f = k) : Fits (onesN F n G) (powN v k) :=
  fits_prod (fits_sq hF n _ rfl) hG h
theorem inv_fits {F : Nat → Nat} {v : Nat} (hF : Fits F v) : Fits (invN F) (powN v 57896044618658097711785492504343953926634992332820282019728792003956564819947) := by
  have h1 : Fits F (powN v 1) := by rw [powN_one]; exact hF
  have h2 : Fits (i_two F) (powN v 2) := fits_sq h1 1 _ rfl
  have h9 : Fits (i_nine F) (powN v 9) := fits_ones 2 h2 h1 rfl
  have h11 : Fits (i_eleven F) (powN v 11) := fits_prod h9 h2 rfl
  have h5 : Fits (i_five F) (powN v 31) := fits_prod (fits_sq h11 1 22 rfl) h9 rfl
  have h10 : Fits (i_ten F) (powN v 1023) := fits_ones 5 h5 h5 rfl
  have h20 : Fits (i_twenty F) (powN v 1048575) := fits_ones 10 h10 h10 rfl
  have h40 : Fits (i_forty F) (powN v 1099511627775) := fits_ones 20 h20 h20 rfl
  have h50 : Fits (i_fifty F) (powN v 1125899906842623) := fits_ones 10 h40 h10 rfl
  have h100 : Fits (i_hundred F) (powN v 1267650600228229401496703205375) := fits_ones 50 h50 h50 rfl
  have h200 : Fits (i_double F) (powN v 1606938044258990275541962092341162602522202993782792835301375) := fits_ones 100 h100 h100 rfl
  have h250 : Fits (i_most F) (powN v 1809251394333065553493296640760748560207343510400633813116524750123642650623) := fits_ones 50 h200 h50 rfl
  exact fits_ones 5 h250 h11 rfl
/-- A number, and what it is divided by. -/
theorem inv_one (v : Nat) (h : v % pN ≠ 0) : v * powN v 57896044618658097711785492504343953926634992332820282019728792003956564819947 % pN = 1 % pN := by
  rw [powN_up v _ 57896044618658097711785492504343953926634992332820282019728792003956564819948 rfl, prime_pow v h]
  rfl
end Go.Proofs.YtfolbgiekbimpaaDoor
namespace Go.Proofs.YtfolbgiekbimpaaDoor
set_option linter.unusedSimpArgs false
set_option linter.unusedVariables false
open Go.RowKit
attribute [local irreducible] accN byteN prodN carN diffN sqN sumN difN oneF valN bytesN invN ofN
def fA (a b : Nat) : Nat := (a + b) % pN
def fS (a b : Nat) : Nat := (a + (pN - b)) % pN
def fM (a b : Nat) : Nat := a * b % pN
/-- A point, as a quotient. -/
structure Pt where
  x : Nat
  z : Nat
def PtOk (q : Pt) : Prop := q.x < pN ∧ q.z < pN
def dblE (q : Pt) : Nat := fS (fM (fA q.x q.z) (fA q.x q.z)) (fM (fS q.x q.z) (fS q.x q.z))
/-- Twice a point. -/
def dblP (q : Pt) : Pt := ⟨fM (fM (fA q.x q.z) (fA q.x q.z)) (fM (fS q.x q.z) (fS q.x q.z)), fM (dblE q) (fA (fM (fA q.x q.z) (fA q.x q.z)) (fM 121665 (dblE q)))⟩
def addDA (q s : Pt) : Nat := fM (fS s.x s.z) (fA q.x q.z)
def addCB (q s : Pt) : Nat := fM (fA s.x s.z) (fS q.x q.z)
/-- Two points together, that are apart by one of quotient u. -/
def addP (u : Nat) (q s : Pt) : Pt := ⟨fM (fA (addDA q s) (addCB q s)) (fA (addDA q s) (addCB q s)), fM u (fM (fS (addDA q s) (addCB q s)) (fS (addDA q s) (addCB q s)))⟩
def stepP (u b : Nat) (q s : Pt) : Pt × Pt := if b = 1 then (addP u s q, dblP s) else (dblP q, addP u q s)
/-- A number's bits, from the highest one down. -/
def bitN (k : Nat → Nat) (n : Nat) : Nat := k ((254 - n) / 8) / 2 ^ ((254 - n) % 8) % 2
def ladP (u : Nat) (k : Nat → Nat) : Nat → Pt × Pt
  | 0 => (⟨1, 0⟩, ⟨u, 1⟩)
  | n + 1 => stepP u (bitN k n) (ladP u k n).1 (ladP u k n).2
def clampN (k : Nat → Nat) (i : Nat) : Nat := if i = 0 then k 0 / 8 * 8 else if i = 31 then k 31 % 64 + 64 else k i
/-- A point of quotient u, multiplied by a number. -/
def multV (k : Nat → Nat) (u : Nat) : Nat := fM (ladP u (clampN k) 255).1.x (powN (ladP u (clampN k) 255).1.z 57896044618658097711785492504343953926634992332820282019728792003956564819947)
def keyU (u : Nat → Nat) : Nat := kvN (cutB u) 32 % pN

theorem zero_lt_p : 0 < pN := by unfold pN; decide +kernel
theorem fM_lt (a b : Nat) : fM a b < pN := Nat.mod_lt _ zero_lt_p
theorem dbl_ok (q : Pt) : PtOk (dblP q) := ⟨fM_lt _ _, fM_lt _ _⟩
theorem add_ok (u : Nat) (q s : Pt) : PtOk (addP u q s) := ⟨fM_lt _ _, fM_lt _ _⟩
theorem one_lt_p : 1 < pN := by unfold pN; decide +kernel
theorem lad_ok (u : Nat) (hu : u < pN) (k : Nat → Nat) : ∀ n, PtOk (ladP u k n).1 ∧ PtOk (ladP u k n).2
  | 0 => ⟨⟨one_lt_p, zero_lt_p⟩, ⟨hu, one_lt_p⟩⟩
  | n + 1 => by
    unfold ladP stepP
    split
    · exact ⟨add_ok _ _ _, dbl_ok _⟩
    · exact ⟨dbl_ok _, add_ok _ _ _⟩
theorem bitN_lt (k : Nat → Nat) (n : Nat) : bitN k n = 0 ∨ bitN k n = 1 := by unfold bitN; omega

/-! ### What the program's steps stand for -/
theorem fits_mod {F : Nat → Nat} {a : Nat} (h : Fits F a) : Fits F (a % pN) := ⟨h.1, by rw [h.2, Nat.mod_mod]⟩
theorem fits_A {F G : Nat → Nat} {a b : Nat} (hF : Fits F a) (hG : Fits G b) : Fits (sumN F G) (fA a b) := fits_mod (sum_fits hF hG)
theorem fits_S {F G : Nat → Nat} {a b : Nat} (hF : Fits F a) (hG : Fits G b) (hb : b < pN) : Fits (difN F G) (fS a b) := by
  refine dif_fits hF hG ?_
  unfold fS
  rw [Nat.mod_add_mod, show a + (pN - b) + b = a + pN by omega, Nat.add_mod_right]
theorem fits_M {F G : Nat → Nat} {a b : Nat} (hF : Fits F a) (hG : Fits G b) : Fits (prodN F G) (fM a b) := fits_mod (prod_fits hF hG)
theorem fits_Q {F : Nat → Nat} {a : Nat} (hF : Fits F a) : Fits (sqN F 1) (fM a a) := by
  have h := fits_mod (sq_fits hF 1)
  rw [show a ^ 2 ^ 1 = a * a from by rw [Nat.pow_one]; exact Nat.pow_two a] at h
  exact h
section
variable {X Z X' Z' U : Nat → Nat} {q s : Pt} {u : Nat}
theorem fits_aa (hX : Fits X q.x) (hZ : Fits Z q.z) : Fits (sAA X Z) (fM (fA q.x q.z) (fA q.x q.z)) := fits_Q (fits_A hX hZ)
theorem fits_bb (hX : Fits X q.x) (hZ : Fits Z q.z) (hq : PtOk q) : Fits (sBB X Z) (fM (fS q.x q.z) (fS q.x q.z)) := fits_Q (fits_S hX hZ hq.2)
theorem fits_e (hX : Fits X q.x) (hZ : Fits Z q.z) (hq : PtOk q) : Fits (sE X Z) (dblE q) := fits_S (fits_aa hX hZ) (fits_bb hX hZ hq) (fM_lt _ _)
theorem fits_LX (hX : Fits X q.x) (hZ : Fits Z q.z) (hq : PtOk q) : Fits (sLX X Z) (dblP q).x := fits_M (fits_aa hX hZ) (fits_bb hX hZ hq)
theorem fits_LZ (hX : Fits X q.x) (hZ : Fits Z q.z) (hq : PtOk q) : Fits (sLZ X Z) (dblP q).z := fits_M (fits_e hX hZ hq) (fits_A (fits_aa hX hZ) (fits_M (one_fits (by omega)) (fits_e hX hZ hq)))
theorem fits_da (hX : Fits X q.x) (hZ : Fits Z q.z) (hX' : Fits X' s.x) (hZ' : Fits Z' s.z) (hs : PtOk s) : Fits (sDA X Z X' Z') (addDA q s) := fits_M (fits_S hX' hZ' hs.2) (fits_A hX hZ)
theorem fits_cb (hX : Fits X q.x) (hZ : Fits Z q.z) (hX' : Fits X' s.x) (hZ' : Fits Z' s.z) (hq : PtOk q) : Fits (sCB X Z X' Z') (addCB q s) := fits_M (fits_A hX' hZ') (fits_S hX hZ hq.2)
theorem fits_HX (hX : Fits X q.x) (hZ : Fits Z q.z) (hX' : Fits X' s.x) (hZ' : Fits Z' s.z) (hq : PtOk q) (hs : PtOk s) : Fits (sHX X Z X' Z') (addP u q s).x := fits_Q (fits_A (fits_da hX hZ hX' hZ' hs) (fits_cb hX hZ hX' hZ' hq))
theorem fits_HZ (hX : Fits X q.x) (hZ : Fits Z q.z) (hX' : Fits X' s.x) (hZ' : Fits Z' s.z) (hq : PtOk q) (hs : PtOk s) (hU : Fits U u) : Fits (sHZ X Z X' Z' U) (addP u q s).z := fits_M hU (fits_Q (fits_S (fits_da hX hZ hX' hZ' hs) (fits_cb hX hZ hX' hZ' hq) (fM_lt _ _)))
end
end Go.Proofs.YtfolbgiekbimpaaDoor
namespace Go.Proofs.YtfolbgiekbimpaaDoor
set_option linter.unusedSimpArgs false
set_option linter.unusedVariables false
open Go.RowKit
theorem stands_same {F : Nat → Nat} (hF : okF F 5) {v : Nat} (h : valN F 5 % pN = v) (i : Nat) : ((bytesN F i : Nat) : Int) = ((byteN v i : Nat) : Int) := by
  rw [bytesN_ok F hF i, least_val F (fun i hi => okF_wide hF i hi), h]
attribute [local irreducible] pN valN byteN bytesN accN prodN carN diffN sqN sumN difN oneF invN powN
theorem Bytes_yes (F : Nat → Nat) (hF : okF F 5) (w : World) : Calls Tryd.prog 29 #[.agg (arr .u64 5 fun i => ((F i : Nat) : Int))] w fun e w' => e = .returned (.tuple #[.agg (arr .u8 32 fun k => ((bytesN F k : Nat) : Int)), .int .i64 0]) ∧ Below w.heap.size w w' :=
  (FeBytes_any F (ok_big hF) w).mono fun e w' h => by rw [if_pos hF] at h; exact h
end Go.Proofs.YtfolbgiekbimpaaDoor
namespace Go.Proofs.YtfolbgiekbimpaaDoor
set_option linter.unusedSimpArgs false
set_option linter.unusedVariables false
open Go.RowKit
attribute [local irreducible] accN byteN prodN carN diffN sqN sumN difN oneF valN bytesN invN ofN
theorem clamp_lt {k : Nat → Nat} (hk : ∀ i, i < 32 → k i < 256) (i : Nat) (hi : i < 32) : clampN k i < 256 := by
  have := hk i hi
  have := hk 0 (by omega)
  unfold clampN
  split
  · omega
  · split
    · omega
    · omega
theorem off7 (x : Nat) (h : x < 256) : bits .andNot .u8 (x : Int) 7 = ((x / 8 * 8 : Nat) : Int) := by
  have : ∀ x : Nat, x < 256 → bits .andNot .u8 (x : Int) 7 = ((x / 8 * 8 : Nat) : Int) := by decide +kernel
  exact this x h
theorem on64 (x : Nat) (h : x < 256) : bits .or .u8 ((x : Int) % 64) 64 = ((x % 64 + 64 : Nat) : Int) := by
  have : ∀ x : Nat, x < 256 → bits .or .u8 ((x : Int) % 64) 64 = ((x % 64 + 64 : Nat) : Int) := by decide +kernel
  exact this x h

set_option maxRecDepth 100000 in
set_option maxHeartbeats 1000000 in
theorem Clamp_any (k : Nat → Nat) (hk : ∀ i, i < 32 → k i < 256) (w : World) :
    Calls Tryd.prog 21 #[.agg (arr .u8 32 fun i => ((k i : Nat) : Int))] w fun e w' => e = .returned (.agg (arr .u8 32 fun i => ((clampN k i : Nat) : Int))) ∧ Below w.heap.size w w' := by
  obtain ⟨x, hx⟩ : ∃ x, k 0 = x := ⟨_, rfl⟩
  obtain ⟨y, hy⟩ : ∃ x, k 31 = x := ⟨_, rfl⟩
  have lx : x < 256 := hx ▸ hk 0 (by omega)
  have ly : y < 256 := hy ▸ hk 31 (by omega)
  have o7 := Lib.hid (off7 x lx)
  have o64 := Lib.hid (on64 y ly)
  clear hk
  go_enter Tryd.func21, Tryd.ntmps21
  obtain ⟨h0, h1, hsz, hb⟩ := alloc2 w (.cells (arr .u8 32 fun i => ((k i : Nat) : Int)) 23) (.cells (arr .u8 32 fun _ => 0) 23)
  go_upto_region 1 with (refine wpList_alloc_arr rfl rfl ZTKey ?_)
  generalize (w.alloc (.cells (arr .u8 32 fun i => ((k i : Nat) : Int)) 23)).alloc (.cells (arr .u8 32 fun _ => 0) 23) = wa at *
  (try simp only [Act.put, List.setIfInBounds_toArray, List.set_cons_zero, List.set_cons_succ])
  simp only [World.size_alloc]
  clear hsz
  have c0 : wa.cell? ⟨w.heap.size, 0, none⟩ = some (.int .u8 (x : Int)) := by rw [cell_arr h0 0 (by omega), hx]
  have f0 := free_arr h0
  go_upto_region 2 with (fail)
  simp only [o7.out]
  have h0' := set_arr h0 0 ((x / 8 * 8 : Nat) : Int)
  have h1' := keep_arr (C := w.heap.size) h1 0 (.int .u8 ((x / 8 * 8 : Nat) : Int)) (by omega)
  have hb' := hb.setCell (p := ⟨w.heap.size, 0, none⟩) (Nat.le_refl _) (.int .u8 ((x / 8 * 8 : Nat) : Int))
  clear c0 f0 h0 h1 hb
  generalize wa.setCell ⟨w.heap.size, 0, none⟩ (.int .u8 ((x / 8 * 8 : Nat) : Int)) = wb at *
  have c1 : wb.cell? ⟨w.heap.size, 31, none⟩ = some (.int .u8 (y : Int)) := by rw [cell_arr h0' 31 (by omega)]; unfold upd; rw [if_neg (by omega)]; dsimp only; rw [hy]
  have f1 := free_arr h0'
  go_upto_region 3 with (fail)
  simp only [o64.out]
  have h0 := set_arr h0' 31 ((y % 64 + 64 : Nat) : Int)
  have h1 := keep_arr (C := w.heap.size) h1' 31 (.int .u8 ((y % 64 + 64 : Nat) : Int)) (by omega)
  have hb := hb'.setCell (p := ⟨w.heap.size, 31, none⟩) (Nat.le_refl _) (.int .u8 ((y % 64 + 64 : Nat) : Int))
  clear c1 f1 h0' h1' hb'
  generalize wb.setCell ⟨w.heap.size, 31, none⟩ (.int .u8 ((y % 64 + 64 : Nat) : Int)) = wc at *
  replace h0 := blk_congr (f' := fun i => ((clampN k i : Nat) : Int)) h0 (fun i hi => by
    unfold upd clampN
    dsimp only
    rw [hx, hy]
    by_cases e1 : i = 31
    · rw [if_pos e1, if_neg (by omega), if_pos e1]
    · rw [if_neg e1]
      by_cases e2 : i = 0
      · rw [if_pos e2, if_pos e2]
      · rw [if_neg e2, if_neg e2, if_neg e1])
  go_wp2_with (first | (refine wpList_load_arr rfl rfl rfl RTKey h0 ?_) | (refine wpList_store_arr rfl rfl rfl rfl RTKey h1 ?_))
  exact bodyPost_ret (results_arr rfl rfl RTKey (row_self h1)) rfl ⟨rfl, row_below hb (by omega) _⟩

end Go.Proofs.YtfolbgiekbimpaaDoor
namespace Go.Proofs.YtfolbgiekbimpaaDoor
set_option linter.unusedSimpArgs false
set_option linter.unusedVariables false
open Go.RowKit
theorem cut_val (k : Nat → Nat) (hk : ∀ i, i < 32 → k i < 256) : kvN (cutB k) 32 = kvN k 32 % 57896044618658097711785492504343953926634992332820282019728792003956564819968 := by
  have e1 : kvN (cutB k) 31 = kvN k 31 := kvN_congr _ _ 31 (fun i hi => by unfold cutB; rw [if_neg (by omega)])
  have e2 : kvN (cutB k) 32 = kvN (cutB k) 31 + cutB k 31 * 2 ^ (8 * 31) := rfl
  have e3 : kvN k 32 = kvN k 31 + k 31 * 2 ^ (8 * 31) := rfl
  have h1 := kvN_lt k 31 (fun i hi => hk i (by omega)) 31 (Nat.le_refl _)
  have h2 : cutB k 31 = k 31 % 128 := by unfold cutB; rw [if_pos rfl]
  rw [e2, e3, e1, h2]
  generalize kvN k 31 = v at *
  generalize k 31 = x at *
  rw [show (2 : Nat) ^ (8 * 31) = 452312848583266388373324160190187140051835877600158453279131187530910662656 from rfl] at *
  omega
theorem of_fits (k : Nat → Nat) (hk : ∀ i, i < 32 → k i < 256) : valN (ofN k) 5 % pN = kvN (cutB k) 32 % pN := by
  have e : valN (ofN k) 5 = valN (digN (kvN k 32)) 5 := by
    rw [valN_five, valN_five]
    simp only [ofN_dig]
  rw [e, val_dig, cut_val k hk]
attribute [local irreducible] pN valN byteN bytesN accN prodN carN diffN sqN sumN difN oneF invN powN ofN kvN cutB
end Go.Proofs.YtfolbgiekbimpaaDoor
namespace Go.Proofs.YtfolbgiekbimpaaDoor
set_option linter.unusedSimpArgs false
set_option linter.unusedVariables false
open Go.RowKit

theorem zero_fM (a : Nat) : fM 0 a = 0 := by unfold fM; rw [Nat.zero_mul, Nat.zero_mod]
theorem fS_self (a : Nat) (h : a < pN) : fS a a = 0 := by
  unfold fS
  rw [show a + (pN - a) = pN by omega, Nat.mod_self]
theorem fA_zero (a : Nat) (h : a < pN) : fA a 0 = a := by unfold fA; rw [Nat.add_zero, Nat.mod_eq_of_lt h]
theorem fS_zero (a : Nat) (h : a < pN) : fS a 0 = a := by unfold fS; rw [Nat.sub_zero, Nat.add_mod_right, Nat.mod_eq_of_lt h]
theorem add0_z (q s : Pt) : (addP 0 q s).z = 0 := zero_fM _
theorem dblE_z {q : Pt} (h : q.x < pN) (hz : q.z = 0) : dblE q = 0 := by
  unfold dblE
  rw [hz, fA_zero _ h, fS_zero _ h]
  exact fS_self _ (fM_lt _ _)
theorem dbl_z {q : Pt} (h : dblE q = 0) : (dblP q).z = 0 := by
  unfold dblP
  dsimp only
  rw [h]
  exact zero_fM _
theorem dblE_one : dblE ⟨0, 1⟩ = 0 := by unfold dblE fS fM fA pN; decide +kernel
theorem lad0 (k : Nat → Nat) : ∀ n, (ladP 0 k (n + 1)).1.z = 0 ∧ (ladP 0 k (n + 1)).2.z = 0
  | 0 => by
    rw [show ladP 0 k (0 + 1) = stepP 0 (bitN k 0) ⟨1, 0⟩ ⟨0, 1⟩ from rfl]
    unfold stepP
    split
    · exact ⟨add0_z _ _, dbl_z dblE_one⟩
    · exact ⟨dbl_z (dblE_z one_lt_p rfl), add0_z _ _⟩
  | n + 1 => by
    have ih := lad0 k n
    have ok := lad_ok 0 zero_lt_p k (n + 1)
    rw [show ladP 0 k (n + 1 + 1) = stepP 0 (bitN k (n + 1)) (ladP 0 k (n + 1)).1 (ladP 0 k (n + 1)).2 from rfl]
    unfold stepP
    split
    · exact ⟨add0_z _ _, dbl_z (dblE_z ok.2.1 ih.2)⟩
    · exact ⟨dbl_z (dblE_z ok.1.1 ih.1), add0_z _ _⟩
theorem mult_zero (k : Nat → Nat) : multV k 0 = 0 := by
  unfold multV
  rw [(lad0 (clampN k) 254).1]
  unfold fM
  rw [Nat.mul_mod, powN_zero _ pN 0 (by omega) (Nat.zero_mod _), Nat.mul_zero, Nat.zero_mod]
theorem mult_lt (k : Nat → Nat) (u : Nat) : multV k u < pN := fM_lt _ _
theorem byteN_zero (i : Nat) : byteN 0 i = 0 := by unfold byteN; rw [Nat.zero_div, Nat.zero_mod]
theorem p_lt255 : pN < 57896044618658097711785492504343953926634992332820282019728792003956564819968 := by unfold pN; decide +kernel
theorem p_lt256 : pN < 2 ^ 256 := by unfold pN; decide +kernel
theorem keyU_byte (v : Nat) (h : v < pN) : keyU (byteN v) = v := by
  unfold keyU
  rw [cut_val _ (fun i _ => byteN_lt v i), kv_bytes]
  rw [show 8 * 32 = 256 from rfl, Nat.mod_eq_of_lt (Nat.lt_trans h p_lt256), Nat.mod_eq_of_lt (Nat.lt_trans h p_lt255), Nat.mod_eq_of_lt h]
theorem keyU_congr {u v : Nat → Nat} (h : ∀ i, i < 32 → cutB u i = cutB v i) : keyU u = keyU v := by
  unfold keyU
  rw [kvN_congr _ _ 32 h]
theorem keyU_nine : keyU (fun i => if i = 0 then 9 else 0) = 9 := by unfold keyU pN; decide +kernel
end Go.Proofs.YtfolbgiekbimpaaDoor
namespace Go.Proofs.YtfolbgiekbimpaaDoor
set_option linter.unusedSimpArgs false
set_option linter.unusedVariables false
open Go.RowKit

/-- What an operation of the head does: it gives a value; it makes a block; it stores a row into the block that operation a made. -/
inductive HK where
  | val (r : Fact)
  | new (ty : TypeId) (k : IntKind) (m : Nat)
  | put (a : Nat) (f : Nat → Int)
def HK.fact : HK → Fact
  | .val r => r
  | _ => fun _ _ => True
def HK.putsIn (K : HK) (a : Nat) : Bool := match K with | .put b _ => b == a | _ => false
/-- What stands in the block that operation a made. -/
def contF (listed : Array Bool) (a : Nat) : List HK → Nat → Nat → Int
  | [], _ => fun _ => 0
  | .put b f :: l, i => if b = a ∧ listed.getD i true = true then f else contF listed a l (i + 1)
  | .val _ :: l, i => contF listed a l (i + 1)
  | .new _ _ _ :: l, i => contF listed a l (i + 1)
def endF (a : Nat) : List HK → Nat → Int
  | [] => fun _ => 0
  | .put b f :: l => if b = a then f else endF a l
  | .val _ :: l => endF a l
  | .new _ _ _ :: l => endF a l
theorem contF_all (listed : Array Bool) (a : Nat) : ∀ (l : List HK) (i : Nat), (∀ j, i ≤ j → j < i + l.length → listed.getD j true = true) → contF listed a l i = endF a l
  | [], _, _ => rfl
  | .put b f :: l, i, h => by
    unfold contF endF
    have := contF_all listed a l (i + 1) (fun j h1 h2 => h j (by omega) (by simp only [List.length_cons]; omega))
    rw [this]
    by_cases hb : b = a
    · rw [if_pos ⟨hb, h i (Nat.le_refl _) (by simp)⟩, if_pos hb]
    · rw [if_neg (fun e => hb e.1), if_neg hb]
  | .val r :: l, i, h => by
    unfold contF endF
    exact contF_all listed a l (i + 1) (fun j h1 h2 => h j (by omega) (by simp only [List.length_cons]; omega))
  | .new _ _ _ :: l, i, h => by
    unfold contF endF
    exact contF_all listed a l (i + 1) (fun j h1 h2 => h j (by omega) (by simp only [List.length_cons]; omega))
theorem contF_other (listed : Array Bool) (a j : Nat) : ∀ (l : List HK) (i : Nat), (∀ K, i ≤ j → l[j - i]? = some K → K.putsIn a = false) → contF (listed.setIfInBounds j true) a l i = contF listed a l i
  | [], _, _ => rfl
  | .put b f :: l, i, h => by
    unfold contF
    rw [contF_other listed a j l (i + 1) (fun K h1 h2 => h K (by omega) (by rw [show j - i = (j - (i + 1)) + 1 by omega]; exact h2))]
    by_cases hj : i = j
    · subst hj
      have := h (.put b f) (Nat.le_refl _) (by simp)
      have hb : ¬ b = a := by simpa [HK.putsIn] using this
      rw [if_neg (fun e => hb e.1), if_neg (fun e => hb e.1)]
    · rw [getD_set_ne true (Ne.symm hj)]
  | .val r :: l, i, h => by
    unfold contF
    exact contF_other listed a j l (i + 1) (fun K h1 h2 => h K (by omega) (by rw [show j - i = (j - (i + 1)) + 1 by omega]; exact h2))
  | .new _ _ _ :: l, i, h => by
    unfold contF
    exact contF_other listed a j l (i + 1) (fun K h1 h2 => h K (by omega) (by rw [show j - i = (j - (i + 1)) + 1 by omega]; exact h2))
/-- One store at the most into each block. -/
def onceB (a : Nat) (l : List HK) : Bool := decide ((l.filter fun K => K.putsIn a).length ≤ 1)
theorem contF_put (listed : Array Bool) (a j : Nat) (f : Nat → Int) (hl : listed.getD j true = false) : ∀ (l : List HK) (i : Nat), i ≤ j → l[j - i]? = some (.put a f) → onceB a l = true → contF (listed.setIfInBounds j true) a l i = f
  | [], _, _, h, _ => by simp at h
  | K :: l, i, hi, h, ho => by
    have hs : (listed.setIfInBounds j true).getD j true = true := by
      simp [Array.getElem?_setIfInBounds]
      split <;> simp
    by_cases hj : i = j
    · subst hj
      rw [Nat.sub_self] at h
      simp only [List.getElem?_cons_zero, Option.some.injEq] at h
      subst h
      unfold contF
      rw [if_pos ⟨rfl, hs⟩]
    · have h' : l[j - (i + 1)]? = some (.put a f) := by
        rw [show j - i = (j - (i + 1)) + 1 by omega, List.getElem?_cons_succ] at h
        exact h
      have hK : K.putsIn a = false := by
        cases hp : K.putsIn a with
        | false => rfl
        | true =>
          unfold onceB at ho
          rw [List.filter_cons, if_pos hp, decide_eq_true_eq] at ho
          have : (l.filter fun K => K.putsIn a) = [] := by
            apply List.eq_nil_of_length_eq_zero
            simp only [List.length_cons] at ho
            omega
          rw [List.filter_eq_nil_iff] at this
          exact absurd (by simp [HK.putsIn]) (this _ (List.mem_of_getElem? h'))
      have ho' : onceB a l = true := by
        unfold onceB at ho ⊢
        rw [List.filter_cons, if_neg (by rw [hK]; decide)] at ho
        exact ho
      have ih := contF_put listed a j f hl l (i + 1) (by omega) h' ho'
      cases K with
      | val r => unfold contF; exact ih
      | new _ _ _ => unfold contF; exact ih
      | put b g =>
        unfold contF
        have hb : ¬ b = a := by simpa [HK.putsIn] using hK
        rw [if_neg (fun e => hb e.1)]
        exact ih
/-- What stands in a new block. -/
def NewIs (N : Nat) (x : Value) (w : World) (ty : TypeId) (k : IntKind) (m : Nat) (f : Nat → Int) : Prop := ∃ B, x = .pointer (some ⟨B, 0, none⟩) ∧ N ≤ B ∧ w.heap[B]? = some (.cells (arr k m f) ty (0, 0))
theorem NewIs.below {N : Nat} {x : Value} {w w' : World} {ty : TypeId} {k : IntKind} {m : Nat} {f : Nat → Int} (h : NewIs N x w ty k m f) (hb : Below w.heap.size w w') : NewIs N x w' ty k m f := by
  obtain ⟨B, h1, h2, h3⟩ := h
  exact ⟨B, h1, h2, (hb.block B (lt_of_block h3)).trans h3⟩
/-- What an operation is to do. -/
def freeOp3 (P : Program) (ops : Array Oper) (Q : Exit → Act → World → Prop) (Ks : List HK) (xs : List Value) (o : Oper) (r : HK) (js : List Nat) (a : Act) (w : World) : Prop :=
  match r with
  | .val r => freeOp P ops Q o r a w
  | .new ty k m => Region.wanted o (yielded ops a.tmps) = true ∧ o.op = .alloc ty ∧ ZeroT P ty k m
  | .put b f => Region.wanted o (yielded ops a.tmps) = true ∧ ∃ ty k m x y, o.op = .store ty x y ∧ Ks[b]? = some (.new ty k m) ∧ b ∈ js ∧ RowT P ty m ∧ (∀ v, xs[b]? = some v → a.eval x = v) ∧ a.eval y = .agg (arr k m f)
def freeOps3 (P : Program) (ops : Array Oper) (Q : Exit → Act → World → Prop) (n : Nat) (hd : List Oper) (a : Act) (w0 : World) (Ks : List HK) : List (Oper × HK × List Nat) → Prop
  | [] => True
  | (o, r, js) :: l => (allV n fun xs => ∀ w', Below w0.heap.size w0 w' → under (Ks.map HK.fact) xs w' js (freeOp3 P ops Q Ks xs o r js (fillA hd a xs) w')) ∧ freeOps3 P ops Q n hd a w0 Ks l
/-- What is known of the new blocks at the end. -/
def underN (N : Nat) (Ks : List HK) (xs : List Value) (w : World) (p : Prop) : List HK → Nat → Prop
  | [], _ => p
  | .new ty k m :: l, i => (match xs[i]? with | some x => NewIs N x w ty k m (endF i Ks) | none => True) → underN N Ks xs w p l (i + 1)
  | _ :: l, i => underN N Ks xs w p l (i + 1)
/-- Facts that hang on no block from N on. -/
def StaysN (N : Nat) (K : HK) : Prop := ∀ v w w', Below N w w' → K.fact v w → K.fact v w'
theorem stn_is (N : Nat) (v : Value) : StaysN N (.val (Is v)) := fun _ _ _ _ h => h
theorem stn_new (N : Nat) (ty : TypeId) (k : IntKind) (m : Nat) : StaysN N (.new ty k m) := fun _ _ _ _ _ => trivial
theorem stn_put (N : Nat) (a : Nat) (f : Nat → Int) : StaysN N (.put a f) := fun _ _ _ _ _ => trivial
theorem stn_nil (N : Nat) : ∀ K ∈ ([] : List HK), StaysN N K := fun _ h => by cases h
theorem stn_cons {N : Nat} {K : HK} {l : List HK} (h : StaysN N K) (hl : ∀ K ∈ l, StaysN N K) : ∀ K' ∈ K :: l, StaysN N K' := fun K' hK => by
  rcases List.mem_cons.1 hK with rfl | hK
  · exact h
  · exact hl _ hK
def HK.isNew : HK → Bool
  | .new _ _ _ => true
  | _ => false
def pairs3B (Ks : List HK) (D : List (Nat × Nat)) : Bool := D.all fun d => decide (d.1 < d.2) && (match Ks[d.1]? with | some K => K.isNew | none => false) && (match Ks[d.2]? with | some K => K.isNew | none => false)
def once3B (Ks : List HK) : Bool := (List.range Ks.length).all fun a => onceB a Ks

section
variable {P : Program} {Q : Exit → Act → World → Prop} {l : List Oper} {n : Nat} {a : Act} {w0 : World}
theorem freeOps3_get {Ks : List HK} {hd : List Oper} : ∀ (items : List (Oper × HK × List Nat)), freeOps3 P l.toArray Q n hd a w0 Ks items → ∀ (i : Nat) (o : Oper) (r : HK) (js : List Nat), items[i]? = some (o, r, js) →
    allV n fun xs => ∀ w', Below w0.heap.size w0 w' → under (Ks.map HK.fact) xs w' js (freeOp3 P l.toArray Q Ks xs o r js (fillA hd a xs) w')
  | [], _, _, _, _, _, h => by simp at h
  | (o', r', js') :: items, h, 0, o, r, js, hi => by
    simp only [List.getElem?_cons_zero, Option.some.injEq, Prod.mk.injEq] at hi
    obtain ⟨rfl, rfl, rfl⟩ := hi
    exact h.1
  | (o', r', js') :: items, h, i + 1, o, r, js, hi => freeOps3_get items h.2 i o r js (by simpa using hi)
/-- The new blocks that were made: what stands there; they lie apart. -/
structure NInv (N : Nat) (Ks : List HK) (listed : Array Bool) (xs : List Value) (w : World) : Prop where
  is : ∀ i ty k m, Ks[i]? = some (.new ty k m) → listed.getD i true = true → ∀ x, xs[i]? = some x → NewIs N x w ty k m (contF listed i Ks 0)
  ap : ∀ i j ty k m ty' k' m', Ks[i]? = some (.new ty k m) → Ks[j]? = some (.new ty' k' m') → listed.getD i true = true → listed.getD j true = true → i ≠ j → apartAt xs i j
theorem isNew_of {K : HK} (h : K.isNew = true) : ∃ ty k m, K = .new ty k m := by
  cases K with
  | new ty k m => exact ⟨ty, k, m, rfl⟩
  | val r => cases h
  | put a f => cases h
theorem n_endD {N : Nat} {Ks : List HK} {D : List (Nat × Nat)} {listed : Array Bool} {xs : List Value} {w : World} (hD : pairs3B Ks D = true) (hK : Ks.length = n) (h : NInv N Ks listed xs w) (hl : ∀ i, i < n → listed.getD i true = true) : ∀ d ∈ D, apartAt xs d.1 d.2 := by
  intro d hd
  unfold pairs3B at hD
  rw [List.all_eq_true] at hD
  have h1 := hD d hd
  simp only [Bool.and_eq_true, decide_eq_true_eq] at h1
  obtain ⟨⟨h2, h4⟩, h5⟩ := h1
  split at h4
  · rename_i K hk
    split at h5
    · rename_i K' hk'
      obtain ⟨ty, k, m, rfl⟩ := isNew_of h4
      obtain ⟨ty', k', m', rfl⟩ := isNew_of h5
      have l1 : d.1 < Ks.length := (List.getElem?_eq_some_iff.1 hk).1
      have l2 : d.2 < Ks.length := (List.getElem?_eq_some_iff.1 hk').1
      exact h.ap d.1 d.2 _ _ _ _ _ _ hk hk' (hl _ (by omega)) (hl _ (by omega)) (by omega)
    · cases h5
  · cases h4
theorem n_endN {N : Nat} {Ks : List HK} {listed : Array Bool} {xs : List Value} {w : World} {p : Prop} (hK : Ks.length = n) (h : NInv N Ks listed xs w) (hl : ∀ i, i < n → listed.getD i true = true) : ∀ (L : List HK) (i : Nat), (∀ j, L[j]? = Ks[i + j]?) → underN N Ks xs w p L i → p
  | [], _, _, hp => hp
  | .new ty k m :: L, i, hL, hp => by
    unfold underN at hp
    have h0 : Ks[i]? = some (.new ty k m) := by have := hL 0; simpa using this.symm
    have hi : i < Ks.length := (List.getElem?_eq_some_iff.1 h0).1
    refine n_endN hK h hl L (i + 1) (fun j => by have := hL (j + 1); simp only [List.getElem?_cons_succ] at this; rw [this]; congr 1; omega) (hp ?_)
    cases hx : xs[i]? with
    | none => trivial
    | some x =>
      have := h.is i ty k m h0 (hl i (by omega)) x hx
      rw [contF_all listed i Ks 0 (fun j _ hj => hl j (by omega))] at this
      exact this
  | .val r :: L, i, hL, hp => by
    unfold underN at hp
    exact n_endN hK h hl L (i + 1) (fun j => by have := hL (j + 1); simp only [List.getElem?_cons_succ] at this; rw [this]; congr 1; omega) hp
  | .put b f :: L, i, hL, hp => by
    unfold underN at hp
    exact n_endN hK h hl L (i + 1) (fun j => by have := hL (j + 1); simp only [List.getElem?_cons_succ] at this; rw [this]; congr 1; omega) hp
/-- An operation that gives a value changes no new block. -/
theorem n_val {N : Nat} {Ks : List HK} {listed : Array Bool} {xs : List Value} {w w2 : World} {j : Nat} {v : Value} {r : Fact} (h : NInv N Ks listed xs w) (hj : Ks[j]? = some (.val r)) (hb : Below w.heap.size w w2) : NInv N Ks (listed.setIfInBounds j true) (xs.set j v) w2 := by
  refine ⟨fun i ty k m hi hl x hx => ?_, fun i i' ty k m ty' k' m' hi hi' hl hl' hne => ?_⟩
  · have hij : i ≠ j := fun e => by subst e; rw [hi] at hj; cases hj
    rw [getD_set_ne true (Ne.symm hij)] at hl
    rw [List.getElem?_set_ne (Ne.symm hij)] at hx
    rw [contF_other listed i j Ks 0 (fun K _ hK => by rw [Nat.sub_zero, hj] at hK; injection hK with hK; subst hK; rfl)]
    exact (h.is i ty k m hi hl x hx).below hb
  · have hij : i ≠ j := fun e => by subst e; rw [hi] at hj; cases hj
    have hij' : i' ≠ j := fun e => by subst e; rw [hi'] at hj; cases hj
    rw [getD_set_ne true (Ne.symm hij)] at hl
    rw [getD_set_ne true (Ne.symm hij')] at hl'
    have := h.ap i i' _ _ _ _ _ _ hi hi' hl hl' hne
    unfold apartAt at this ⊢
    rw [List.getElem?_set_ne (Ne.symm hij), List.getElem?_set_ne (Ne.symm hij')]
    exact this
theorem contF_zero (listed : Array Bool) (a : Nat) : ∀ (l : List HK) (i : Nat), (∀ j K, l[j]? = some K → K.putsIn a = true → listed.getD (i + j) true = false) → contF listed a l i = fun _ => 0
  | [], _, _ => rfl
  | .put b f :: l, i, h => by
    unfold contF
    have h2 := contF_zero listed a l (i + 1) (fun j K h1 h2 => by have := h (j + 1) K (by simpa using h1) h2; rwa [show i + (j + 1) = i + 1 + j by omega] at this)
    rw [h2]
    by_cases hb : b = a
    · have := h 0 (.put b f) (by simp) (by simp [HK.putsIn, hb])
      rw [Nat.add_zero] at this
      rw [if_neg (by rw [this]; simp)]
    · rw [if_neg (fun e => hb e.1)]
  | .val r :: l, i, h => by
    unfold contF
    exact contF_zero listed a l (i + 1) (fun j K h1 h2 => by have := h (j + 1) K (by simpa using h1) h2; rwa [show i + (j + 1) = i + 1 + j by omega] at this)
  | .new _ _ _ :: l, i, h => by
    unfold contF
    exact contF_zero listed a l (i + 1) (fun j K h1 h2 => by have := h (j + 1) K (by simpa using h1) h2; rwa [show i + (j + 1) = i + 1 + j by omega] at this)
/-- A new block. -/
theorem n_new {N : Nat} {Ks : List HK} {listed : Array Bool} {xs : List Value} {w : World} {j : Nat} {ty : TypeId} {k : IntKind} {m : Nat} (h : NInv N Ks listed xs w) (hj : Ks[j]? = some (.new ty k m)) (hjx : j < xs.length) (hN : N ≤ w.heap.size) (hz : ∀ i K, Ks[i]? = some K → K.putsIn j = true → listed.getD i true = false) :
    NInv N Ks (listed.setIfInBounds j true) (xs.set j (.pointer (some ⟨w.heap.size, 0, none⟩))) (w.alloc (.cells (arr k m fun _ => 0) ty)) := by
  have key : ∀ i ty' k' m', Ks[i]? = some (.new ty' k' m') → i ≠ j → listed.getD i true = true → apartAt (xs.set j (.pointer (some ⟨w.heap.size, 0, none⟩))) i j := by
    intro i ty' k' m' hi hij hl
    unfold apartAt
    rw [List.getElem?_set_ne (Ne.symm hij), List.getElem?_set_self hjx]
    split
    · rename_i x y hx hy
      injection hy with hy
      subst hy
      obtain ⟨B, rfl, _, hB⟩ := h.is i ty' k' m' hi hl _ hx
      intro e
      injection e with e
      injection e with e
      injection e with e
      have := lt_of_block hB
      omega
    · trivial
  refine ⟨fun i ty' k' m' hi hl x hx => ?_, fun i i' ty1 k1 m1 ty2 k2 m2 hi hi' hl hl' hne => ?_⟩
  · by_cases hij : i = j
    · subst hij
      rw [hj] at hi
      injection hi with hi
      injection hi with e1 e2 e3
      subst e1 e2 e3
      rw [List.getElem?_set_self hjx] at hx
      injection hx with hx
      subst hx
      rw [contF_other listed i i Ks 0 (fun K _ hK => by rw [Nat.sub_zero, hj] at hK; injection hK with hK; subst hK; rfl), contF_zero listed i Ks 0 (fun j K h1 h2 => by rw [Nat.zero_add]; exact hz j K h1 h2)]
      exact ⟨_, rfl, hN, heap_alloc_new _ _⟩
    · rw [getD_set_ne true (Ne.symm hij)] at hl
      rw [List.getElem?_set_ne (Ne.symm hij)] at hx
      rw [contF_other listed i j Ks 0 (fun K _ hK => by rw [Nat.sub_zero, hj] at hK; injection hK with hK; subst hK; rfl)]
      exact (h.is i ty' k' m' hi hl x hx).below ((Below.refl _ _).alloc (Nat.le_refl _) _)
  · by_cases hij : i = j
    · subst hij
      rw [getD_set_ne true hne] at hl'
      exact apart_symm (key i' ty2 k2 m2 hi' (Ne.symm hne) hl')
    · by_cases hij' : i' = j
      · subst hij'
        rw [getD_set_ne true (Ne.symm hij)] at hl
        exact key i ty1 k1 m1 hi hij hl
      · rw [getD_set_ne true (Ne.symm hij)] at hl
        rw [getD_set_ne true (Ne.symm hij')] at hl'
        have := h.ap i i' _ _ _ _ _ _ hi hi' hl hl' hne
        unfold apartAt at this ⊢
        rw [List.getElem?_set_ne (Ne.symm hij), List.getElem?_set_ne (Ne.symm hij')]
        exact this
/-- A store into a new block. -/
theorem n_put {N : Nat} {Ks : List HK} {listed : Array Bool} {xs : List Value} {w : World} {j b B : Nat} {f : Nat → Int} {v : Value} {ty : TypeId} {k : IntKind} {m : Nat} (h : NInv N Ks listed xs w) (hj : Ks[j]? = some (.put b f)) (hb : Ks[b]? = some (.new ty k m)) (hbl : listed.getD b true = true) (hbx : xs[b]? = some (.pointer (some ⟨B, 0, none⟩)))
    (hjl : listed.getD j true = false) (ho : once3B Ks = true) (hB : w.heap[B]? = some (.cells (arr k m (contF listed b Ks 0)) ty (0, 0))) (hN : N ≤ B) : NInv N Ks (listed.setIfInBounds j true) (xs.set j v) (w.setRow B (arr k m f)) := by
  have hjb : j ≠ b := fun e => by subst e; rw [hj] at hb; cases hb
  refine ⟨fun i ty' k' m' hi hl x hx => ?_, fun i i' ty1 k1 m1 ty2 k2 m2 hi hi' hl hl' hne => ?_⟩
  · have hij : i ≠ j := fun e => by subst e; rw [hi] at hj; cases hj
    rw [getD_set_ne true (Ne.symm hij)] at hl
    rw [List.getElem?_set_ne (Ne.symm hij)] at hx
    by_cases hib : i = b
    · subst hib
      rw [hb] at hi
      injection hi with hi
      injection hi with e1 e2 e3
      subst e1 e2 e3
      rw [hbx] at hx
      injection hx with hx
      subst hx
      have hi2 : i < Ks.length := (List.getElem?_eq_some_iff.1 hb).1
      have hon : onceB i Ks = true := by
        unfold once3B at ho
        rw [List.all_eq_true] at ho
        exact ho i (List.mem_range.2 hi2)
      rw [contF_put listed i j f hjl Ks 0 (Nat.zero_le _) (by rw [Nat.sub_zero]; exact hj) hon]
      exact ⟨B, rfl, hN, row_self hB⟩
    · rw [contF_other listed i j Ks 0 (fun K _ hK => by
        rw [Nat.sub_zero, hj] at hK
        injection hK with hK
        subst hK
        simp only [HK.putsIn, beq_eq_false_iff_ne, ne_eq]
        exact fun e => hib e.symm)]
      obtain ⟨C, rfl, hC, hC2⟩ := h.is i ty' k' m' hi hl x hx
      have hap := h.ap i b _ _ _ _ _ _ hi hb hl hbl hib
      unfold apartAt at hap
      rw [hx, hbx] at hap
      have hne : C ≠ B := fun e => hap (by rw [e])
      exact ⟨C, rfl, hC, row_keep hC2 hne⟩
  · have hij : i ≠ j := fun e => by subst e; rw [hi] at hj; cases hj
    have hij' : i' ≠ j := fun e => by subst e; rw [hi'] at hj; cases hj
    rw [getD_set_ne true (Ne.symm hij)] at hl
    rw [getD_set_ne true (Ne.symm hij')] at hl'
    have := h.ap i i' _ _ _ _ _ _ hi hi' hl hl' hne
    unfold apartAt at this ⊢
    rw [List.getElem?_set_ne (Ne.symm hij), List.getElem?_set_ne (Ne.symm hij')]
    exact this

/-- What is stored into a block comes behind its making. -/
def putsAfter (Ks : List HK) (ps : List (List Nat)) : Bool := (List.range Ks.length).all fun i => match Ks[i]?, ps[i]? with | some (.put b _), some js => js.contains b | some (.put _ _), none => false | _, _ => true
theorem putsAfter_get {Ks : List HK} {ps : List (List Nat)} (h : putsAfter Ks ps = true) (i : Nat) (K : HK) {b : Nat} (hi : Ks[i]? = some K) (hp : K.putsIn b = true) : Nonempty (∃ js, ps[i]? = some js ∧ b ∈ js) := by
  unfold putsAfter at h
  rw [List.all_eq_true] at h
  have := h i (List.mem_range.2 (List.getElem?_eq_some_iff.1 hi).1)
  rw [hi] at this
  cases K with
  | val r => cases hp
  | new _ _ _ => cases hp
  | put c f =>
    obtain rfl : c = b := by simpa [HK.putsIn] using hp
    cases hq : ps[i]? with
    | none => rw [hq] at this; cases this
    | some js =>
      rw [hq] at this
      exact ⟨js, rfl, by simpa using this⟩
/-- **A region that draws its order: each operation of the head, told by itself; D: pairs of new blocks that lie apart.** R: what each gives; ps: behind which of the others it comes. -/
theorem wp_region_free3 {id : Nat} {w : World} (n : Nat) (Ks : List HK) (ps : List (List Nat)) (D : List (Nat × Nat)) (hm : P.follows .mixedOrders = true) (hB : freeB l n ps = true) (hD : (pairs3B Ks D && once3B Ks && putsAfter Ks ps) = true) (hR : Ks.length = n) (hst : ∀ K ∈ Ks, StaysN w.heap.size K)
    (hop : freeOps3 P l.toArray Q n (l.take n) a w.drew Ks ((l.take n).zip (Ks.zip ps)))
    (hend : allV n fun xs => ∀ w', Below w.heap.size w.drew w' → under (Ks.map HK.fact) xs w' (List.range n) (underN w.heap.size Ks xs w' (underD xs D (wpList P l.toArray Q (l.drop n) (fillA (l.take n) a xs) w')) Ks 0)) : (Code.region id l.toArray true).wp P Q a w := by
  simp only [freeB, Bool.and_eq_true, decide_eq_true_eq] at hB
  obtain ⟨⟨⟨⟨⟨⟨⟨hsel, hn⟩, hp⟩, hs⟩, hc⟩, hd⟩, hps⟩, hseq⟩ := hB
  simp only [Bool.and_eq_true] at hD
  obtain ⟨⟨hD, hOnce⟩, hPut⟩ := hD
  have hn' : n < l.toArray.size := by simpa using hn
  have inv0 : HeadInv .any l.toArray n (Array.replicate l.toArray.size false) :=
    ⟨by simp, fun j oj _ hl => (by rw [getD_replicate_false] at hl; cases hl), fun t _ ht => getD_in (by simpa using ht) (getD_replicate_false _ _)⟩
  have main : ∀ (f : Nat) (listed : Array Bool) (xs : List Value) (w' : World), HeadInv .any l.toArray n listed → restN n listed = f → xs.length = n → Below w.heap.size w.drew w' →
      (∀ j, j < n → listed.getD j true = true → factAt (Ks.map HK.fact) xs w' j) → NInv w.heap.size Ks listed xs w' → (∀ i j K, i < n → j < n → Ks[i]? = some K → K.putsIn j = true → listed.getD i true = true → listed.getD j true = true) →
      wpAnyC P .any l.toArray Q (fun _ => True) n (fun listed' a' w' => Region.seqB .any l.toArray (l.toArray.size - n) n listed' = true ∧ wpList P l.toArray Q (l.drop n) a' w') f listed (fillA (l.take n) a xs) w' := by
    intro f
    induction f with
    | zero =>
      intro listed xs w' inv hr hx hb hf hap hord
      refine ⟨?_, underD_of D (n_endN hR hap (rest_zero n listed hr) Ks 0 (fun j => by rw [Nat.zero_add]) (under_of _ (allV_of n _ hend xs hx w' hb) (fun j hj => hf j (List.mem_range.1 hj) (rest_zero n listed hr j (List.mem_range.1 hj))))) (n_endD hD hR hap (rest_zero n listed hr))⟩
      have e : listed = (List.replicate n true ++ List.replicate (l.length - n) false).toArray := by
        apply Array.ext_getElem?
        intro i
        have hsz := inv.size
        simp only [List.size_toArray] at hsz
        by_cases hi : i < n
        · have h1 := rest_zero n listed hr i hi
          have h2 : i < listed.size := by omega
          simp [h2] at h1
          simp [List.getElem?_append, hi, h2, h1]
        · by_cases hi2 : i < l.length
          · have h1 := inv.tail i (by omega) (by simpa using hi2)
            have h2 : i < listed.size := by omega
            simp [h2] at h1
            simp only [List.getElem?_toArray, List.getElem?_append, List.length_replicate, hi, if_false, List.getElem?_replicate]
            rw [if_pos (by omega), Array.getElem?_eq_getElem h2, h1]
          · rw [Array.getElem?_eq_none (by omega)]
            simp only [List.getElem?_toArray, List.getElem?_append, List.length_replicate, hi, if_false, List.getElem?_replicate]
            rw [if_neg (by omega)]
      rw [e]
      simpa using hseq
    | succ f ih =>
      intro listed xs w' inv hr hx hb hf hap hord
      obtain ⟨i, hi, hil, hmin⟩ := rest_pos n listed hr
      refine ⟨?_, fun j hj => ?_⟩
      · intro h0
        obtain ⟨o, ho, he, _⟩ := predsB_get l ps 0 hps i ps[i] (by simp)
        have : i ∈ Region.ready .any l.toArray listed := mem_ready.2 ⟨hil, o, by simpa using ho, fun e hee hbe => by
          have h1 := he e hee hbe
          have h2 := hmin e.on (by omega)
          have h3 : e.on < listed.size := by rw [inv.size]; simp; omega
          simp [h3] at h2 ⊢
          exact h2⟩
        rw [h0] at this
        cases this
      · have hjn : j < n := by
          rcases Nat.lt_or_ge j n with h | h
          · exact h
          · exact absurd hj (tail_waits hs hc hn' inv _ i rfl hi hil j h)
        refine ⟨hjn, ?_⟩
        obtain ⟨hjl, oj, hoj, hall⟩ := mem_ready.1 hj
        have hoj' : l[j]? = some oj := by simpa using hoj
        have hjp : j < ps.length := by omega
        have hjR : j < Ks.length := by omega
        have hit : ((l.take n).zip (Ks.zip ps))[j]? = some (oj, Ks[j], ps[j]) := by
          rw [List.getElem?_zip_eq_some]
          refine ⟨by rw [List.getElem?_take, if_pos hjn]; exact hoj', ?_⟩
          rw [List.getElem?_zip_eq_some]
          exact ⟨by simp [hjR], by simp [hjp]⟩
        obtain ⟨oj', hoj2, _, hpj⟩ := predsB_get l ps 0 hps j ps[j] (by simp [hjp])
        have hOrd : ∀ i K, i < n → Ks[i]? = some K → K.putsIn j = true → listed.getD i true = true → listed.getD j true = true := fun i K hin hi hp hli => hord i j K hin hjn hi hp hli
        obtain rfl : oj' = oj := by
          rw [Nat.zero_add, hoj'] at hoj2
          exact (Option.some.inj hoj2).symm
        have hfree := under_of _ (allV_of n _ (freeOps3_get _ hop j oj' Ks[j] ps[j] hit) xs hx w' hb) (fun k hk => by
          obtain ⟨e, hee, hbe, hek⟩ := hpj k hk
          have h1 := hall e hee hbe
          rw [hek] at h1
          by_cases hkn : k < n
          · refine hf k hkn ?_
            by_cases h2 : k < listed.size
            · simp [h2] at h1 ⊢; exact h1
            · simp [Array.getElem?_eq_none (Nat.le_of_not_lt h2)] at h1
          · unfold factAt
            rw [List.getElem?_eq_none (l := Ks.map HK.fact) (by simp; omega)]
            trivial)
        have go : ∀ (v : Value) (w2 : World), Below w.heap.size w' w2 → Ks[j].fact v w2 → NInv w.heap.size Ks (listed.setIfInBounds j true) (xs.set j v) w2 →
            wpAnyC P .any l.toArray Q (fun _ => True) n (fun listed' a' w' => Region.seqB .any l.toArray (l.toArray.size - n) n listed' = true ∧ wpList P l.toArray Q (l.drop n) a' w') f (listed.setIfInBounds j true) ((fillA (l.take n) a xs).put oj'.dst v) w2 := by
          intro v w2 hb2 hv hal
          rw [fill_set (l.take n) j oj' a xs v hd (by rw [List.getElem?_take, if_pos hjn]; exact hoj') (by omega)]
          refine ih _ _ _ (inv.set hj hjn) ?_ (by simpa using hx) (hb.trans hb2) (fun k hk hkl => ?_) hal (fun i b K hin hbn hi hp hli => ?_)
          · have := rest_set n listed j hjn hjl
            omega
          · by_cases hkj : k = j
            · subst hkj
              unfold factAt
              simp only [List.getElem?_map, List.getElem?_eq_getElem hjR, Option.map_some, List.getElem?_set_self (show k < xs.length by omega)]
              exact hv
            · have h1 := hf k hk (by rwa [getD_set_ne true (Ne.symm hkj)] at hkl)
              unfold factAt at h1 ⊢
              rw [List.getElem?_set_ne (Ne.symm hkj)]
              have hkR : k < Ks.length := by omega
              have hkx : k < xs.length := by omega
              simp only [List.getElem?_map, List.getElem?_eq_getElem hkR, Option.map_some, List.getElem?_eq_getElem hkx] at h1 ⊢
              exact hst _ (List.getElem_mem hkR) _ _ _ hb2 h1
          · by_cases hbj : b = j
            · subst hbj
              simp [Array.getElem?_setIfInBounds]
              split <;> simp
            · rw [getD_set_ne true (Ne.symm hbj)]
              by_cases hij : i = j
              · subst hij
                -- its predecessors are listed
                obtain ⟨hm1⟩ := putsAfter_get hPut i K hi hp
                obtain ⟨js, hjs, hbm⟩ := hm1
                obtain rfl : js = ps[i] := by rw [List.getElem?_eq_getElem hjp] at hjs; exact (Option.some.inj hjs).symm
                obtain ⟨e, hee, hbe, hek⟩ := hpj b hbm
                have h1 := hall e hee hbe
                rw [hek] at h1
                by_cases h2 : b < listed.size
                · simp [h2] at h1 ⊢; exact h1
                · simp [Array.getElem?_eq_none (Nat.le_of_not_lt h2)] at h1
              · rw [getD_set_ne true (Ne.symm hij)] at hli
                exact hord i b K hin hbn hi hp hli
        have hKj : Ks[j]? = some Ks[j] := List.getElem?_eq_getElem hjR
        have hsz : w.heap.size ≤ w'.heap.size := hb.size
        unfold wpOp
        simp only [hoj]
        generalize hq : Ks[j] = Kj at *
        cases Kj with
        | val r =>
          unfold freeOp3 at hfree
          dsimp only at hfree
          unfold freeOp at hfree
          split
          · rename_i hw
            rw [if_pos hw] at hfree
            refine .inl (Oper.wp_mono (fun a' w2 h => ?_) hfree)
            obtain ⟨hb2, v, rfl, hv⟩ := h
            exact ⟨trivial, go v w2 (hb2.mono hsz) hv (n_val hap hKj hb2)⟩
          · rename_i hw
            rw [if_neg hw] at hfree
            exact ⟨trivial, go undef w' (Below.refl _ _) hfree (n_val hap hKj (Below.refl _ _))⟩
        | new ty k m =>
          unfold freeOp3 at hfree
          dsimp only at hfree
          obtain ⟨hw, hop2, hz⟩ := hfree
          rw [if_pos hw]
          refine .inl ?_
          unfold Oper.wp
          rw [run_op_alloc hop2 hz]
          refine ⟨trivial, go _ _ ((Below.refl _ _).alloc hsz _) trivial (n_new hap hKj (by omega) hsz (fun i K hi hp => ?_))⟩
          -- what is stored into it comes behind it
          cases hli : listed.getD i true with
          | false => rfl
          | true =>
            have hin : i < n := by
              have := (List.getElem?_eq_some_iff.1 hi).1
              omega
            exact absurd (hOrd i K hin hi hp hli) (by rw [hjl]; decide)
        | put b fv =>
          unfold freeOp3 at hfree
          dsimp only at hfree
          obtain ⟨hw, ty, k, m, x, y, hop2, hKb, hbj, hT, hxv, hyv⟩ := hfree
          have hbn : b < n := by
            have := (List.getElem?_eq_some_iff.1 hKb).1
            omega
          obtain ⟨e, hee, hbe, hek⟩ := hpj b hbj
          have hbl : listed.getD b true = true := by
            have h1 := hall e hee hbe
            rw [hek] at h1
            by_cases h2 : b < listed.size
            · simp [h2] at h1 ⊢; exact h1
            · simp [Array.getElem?_eq_none (Nat.le_of_not_lt h2)] at h1
          have hbx : xs[b]? = some xs[b] := List.getElem?_eq_getElem (by omega)
          obtain ⟨B, hBx, hBN, hB⟩ := hap.is b ty k m hKb hbl _ hbx
          rw [hBx] at hbx
          have hxv' := hxv _ hbx
          rw [if_pos hw]
          refine .inl ?_
          unfold Oper.wp
          have hrun := run_op_store hop2 hxv' hyv (run_storeVar_arr (off := 0) hT hB (by omega))
          rw [show arr k m (patch (contF listed b Ks 0) 0 m fv) = arr k m fv from arr_ext fun i hi => patch_whole _ _ _ _ hi] at hrun
          rw [hrun]
          exact ⟨trivial, go _ _ (row_below (Below.refl _ _) hBN _) trivial (n_put hap hKj hKb hbl hbx hjl hOnce hB hBN)⟩
  obtain ⟨xs0, hx0, hf0⟩ := fill_own (l.take n) a
  have H := main n (Array.replicate l.toArray.size false) xs0 w.drew inv0 (by
    unfold restN
    rw [List.filter_eq_self.2 (fun i hi => ?_)]
    · simp
    · have := List.mem_range.1 hi
      have : i < l.length := by omega
      simp [this]) (by simp at hx0; omega) (Below.refl _ _) (fun j hj hl => by
    have : j < l.length := by omega
    simp [this] at hl) ⟨fun k ty kk m hk hl => by
    have : k < n := by
      have := (List.getElem?_eq_some_iff.1 hk).1
      omega
    have : k < l.length := by omega
    simp [this] at hl, fun i j ty k m ty' k' m' hi hj hl => by
    have : i < n := by
      have := (List.getElem?_eq_some_iff.1 hi).1
      omega
    have : i < l.length := by omega
    simp [this] at hl⟩ (fun i j K hi hj h1 h2 hl => by
    have : i < l.length := by omega
    simp [this] at hl)
  rw [hf0] at H
  refine wp_region_any hm ?_
  have hdl : (l.drop n).length = l.toArray.size - n := by simp
  have := wpAny_of_anyC (g := l.toArray.size - n) (fun listed a' w' hL => by
    have := wpAny_of_seq (md := .any) (Q' := Q) (l.drop n) n listed a' w' (fun j => by simp [List.getElem?_drop]) (by rw [hdl]; exact hL.1) hL.2
    rwa [hdl] at this) _ _ _ _ H
  rw [show n + (l.toArray.size - n) = l.toArray.size by omega] at this
  exact this


end
end Go.Proofs.YtfolbgiekbimpaaDoor
