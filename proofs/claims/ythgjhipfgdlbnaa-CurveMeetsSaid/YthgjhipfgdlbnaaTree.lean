/- A region that draws its order, where at some places either of two operations may come up: both ways are walked. -/
import Derived.Test.YthgjhipfgdlbnaaCan
namespace Go.Proofs.Ythgjhipfgdlbnaa
set_option linter.unusedSimpArgs false
set_option linter.unusedVariables false
open Go.RowKit

/-- Operations in an order; at a fork either of two may come up. -/
inductive CPlan where
  | done (p : List (Nat × Bool))
  | fork (p : List (Nat × Bool)) (i : Nat) (pi : CPlan) (j : Nat) (pj : CPlan)

def CPlan.size : CPlan → Nat
  | .done p => p.length
  | .fork p _ pi _ _ => p.length + (pi.size + 1)

def wpTree (P : Program) (l : List Oper) (Q : Exit → Act → World → Prop) (N : Nat) (T : Act → World → Prop) : CPlan → Act → World → Prop
  | .done p => wpCan P l.toArray Q N T (canOps l p)
  | .fork p i pi j pj => wpCan P l.toArray Q N (fun a w => wpCan P l.toArray Q N (wpTree P l Q N T pi) (canOps l [(i, true)]) a w ∧ wpCan P l.toArray Q N (wpTree P l Q N T pj) (canOps l [(j, true)]) a w) (canOps l p)

def segB (md : Region.Mode) (ops : Array Oper) (n : Nat) : List (Nat × Bool) → Array Bool → Bool
  | [], _ => true
  | (i, false) :: p, listed => decide (i < n) && (Region.ready md ops listed).contains i && Region.free md ops listed i && segB md ops n p (listed.setIfInBounds i true)
  | (i, true) :: p, listed => decide (i < n) && decide (Region.ready md ops listed = [i]) && segB md ops n p (listed.setIfInBounds i true)
def aft : List (Nat × Bool) → Array Bool → Array Bool
  | [], listed => listed
  | (i, _) :: p, listed => aft p (listed.setIfInBounds i true)
def treeB (md : Region.Mode) (ops : Array Oper) (n : Nat) : CPlan → Array Bool → Bool
  | .done p, listed => segB md ops n p listed && Region.seqB md ops (ops.size - n) n (aft p listed)
  | .fork p i pi j pj, listed => segB md ops n p listed && decide (Region.ready md ops (aft p listed) = [i, j]) && decide (i < n) && decide (j < n) && decide (pi.size = pj.size) &&
      treeB md ops n pi ((aft p listed).setIfInBounds i true) && treeB md ops n pj ((aft p listed).setIfInBounds j true)

section
variable {P : Program} {md : Region.Mode} {Q : Exit → Act → World → Prop} {N n : Nat} {w0 : World} {l : List Oper}
theorem wpAnyC_seg {T' : Act → World → Prop} {L : Array Bool → Act → World → Prop} (hsel : Region.noSelect l.toArray = true) (hs : Region.sinkB md l.toArray n = true) (hc : Region.chainB md l.toArray n = true) (hn : n < l.length)
    (hdone : ∀ listed a w, L listed a w → ∀ j ∈ Region.ready md l.toArray listed, n ≤ j) (f : Nat) :
    ∀ (p : List (Nat × Bool)) (listed : Array Bool) (a : Act) (w : World), HeadInv md l.toArray n listed → segB md l.toArray n p listed = true → Keep N w0 w → wpCan P l.toArray Q N T' (canOps l p) a w →
      (∀ a' w', HeadInv md l.toArray n (aft p listed) → Keep N w0 w' → T' a' w' → wpAnyC P md l.toArray Q (Keep N w0) n L f (aft p listed) a' w') →
      wpAnyC P md l.toArray Q (Keep N w0) n L (f + p.length) listed a w
  | [], listed, a, w, inv, _, hk, h, hL => hL a w inv hk h
  | (i, false) :: p, listed, a, w, inv, hB, hk, h, hL => by
    simp only [segB, Bool.and_eq_true, decide_eq_true_eq] at hB
    obtain ⟨⟨⟨hin, hr⟩, hf⟩, hB'⟩ := hB
    have hil : i < l.length := by omega
    have ho : l.toArray[i]? = some l[i] := by simp [hil]
    simp only [canOps, List.getElem?_eq_getElem hil] at h
    obtain ⟨v, hv, hQ, hK⟩ := h
    have hr' : i ∈ Region.ready md l.toArray listed := by simpa using hr
    have hy : YieldsIf P l.toArray (Keep N w0) l[i] v a := by
      rcases hv with ⟨hw, hrun, hfr⟩ | ⟨hw, hv⟩
      · exact .inl ⟨hw, fun w' hw' => hfr v hrun w' (hk.symm.trans hw')⟩
      · exact .inr ⟨hw, hv⟩
    exact wpAnyC_first ho (Region.noSelect_spec hsel) hQ hs hc (by simpa using hn) hin hdone (f + p.length) listed a w inv (Region.free_spec ho hf) hr' hy hk
      (wpAnyC_seg hsel hs hc hn hdone f p _ _ _ (inv.set hr' hin) hB' hk hK hL)
  | (i, true) :: p, listed, a, w, inv, hB, hk, h, hL => by
    simp only [segB, Bool.and_eq_true, decide_eq_true_eq] at hB
    obtain ⟨⟨hin, hr⟩, hB'⟩ := hB
    have hil : i < l.length := by omega
    have ho : l.toArray[i]? = some l[i] := by simp [hil]
    simp only [canOps, List.getElem?_eq_getElem hil] at h
    have hw : if Region.wanted l[i] (yielded l.toArray a.tmps) then l[i].wp P a w (fun a' w' => Keep N w w' ∧ wpCan P l.toArray Q N T' (canOps l p) a' w') Q else wpCan P l.toArray Q N T' (canOps l p) (a.put l[i].dst undef) w := h
    have hr' : i ∈ Region.ready md l.toArray listed := by rw [hr]; simp
    refine ⟨fun h0 => (by rw [h0] at hr; cases hr), fun j hj => ?_⟩
    rw [hr] at hj
    obtain rfl : j = i := by simpa using hj
    refine ⟨hin, ?_⟩
    unfold wpOp
    simp only [ho]
    split
    · rename_i hwt
      rw [if_pos hwt] at hw
      exact .inl (Oper.wp_mono (fun a' w' h' => ⟨hk.trans h'.1, wpAnyC_seg hsel hs hc hn hdone f p _ _ _ (inv.set hr' hin) hB' (hk.trans h'.1) h'.2 hL⟩) hw)
    · rename_i hwt
      rw [if_neg hwt] at hw
      exact ⟨hk, wpAnyC_seg hsel hs hc hn hdone f p _ _ _ (inv.set hr' hin) hB' hk hw hL⟩
theorem wpAnyC_tree {T : Act → World → Prop} (hsel : Region.noSelect l.toArray = true) (hs : Region.sinkB md l.toArray n = true) (hc : Region.chainB md l.toArray n = true) (hn : n < l.length) :
    ∀ (p : CPlan) (listed : Array Bool) (a : Act) (w : World), HeadInv md l.toArray n listed → treeB md l.toArray n p listed = true → Keep N w0 w → wpTree P l Q N T p a w →
      wpAnyC P md l.toArray Q (Keep N w0) n (fun listed' a' w' => Region.seqB md l.toArray (l.toArray.size - n) n listed' = true ∧ T a' w') p.size listed a w
  | .done p, listed, a, w, inv, hB, hk, h => by
    simp only [treeB, Bool.and_eq_true] at hB
    have := wpAnyC_seg hsel hs hc hn (L := fun listed' a' w' => Region.seqB md l.toArray (l.toArray.size - n) n listed' = true ∧ T a' w') (fun listed' a' w' hL => seqB_ready hL.1) 0 p listed a w inv hB.1 hk h (fun a' w' _ _ hT => ⟨hB.2, hT⟩)
    rwa [Nat.zero_add] at this
  | .fork p i pi j pj, listed, a, w, inv, hB, hk, h => by
    simp only [treeB, Bool.and_eq_true, decide_eq_true_eq] at hB
    obtain ⟨⟨⟨⟨⟨⟨h1, h2⟩, h3⟩, h4⟩, h5⟩, h6⟩, h7⟩ := hB
    unfold CPlan.size
    rw [Nat.add_comm]
    refine wpAnyC_seg hsel hs hc hn (fun listed' a' w' hL => seqB_ready hL.1) (pi.size + 1) p listed a w inv h1 hk h (fun a' w' inv' hk' hT => ?_)
    have step : ∀ (x : Nat) (px : CPlan), x < n → x ∈ Region.ready md l.toArray (aft p listed) → px.size = pi.size →
        (∀ a w, HeadInv md l.toArray n ((aft p listed).setIfInBounds x true) → Keep N w0 w → wpTree P l Q N T px a w → wpAnyC P md l.toArray Q (Keep N w0) n (fun listed' a' w' => Region.seqB md l.toArray (l.toArray.size - n) n listed' = true ∧ T a' w') px.size ((aft p listed).setIfInBounds x true) a w) →
        wpCan P l.toArray Q N (wpTree P l Q N T px) (canOps l [(x, true)]) a' w' →
        wpOp P l.toArray Q x (fun a'' w'' => Keep N w0 w'' ∧ wpAnyC P md l.toArray Q (Keep N w0) n (fun listed' a' w' => Region.seqB md l.toArray (l.toArray.size - n) n listed' = true ∧ T a' w') pi.size ((aft p listed).setIfInBounds x true) a'' w'') a' w' := by
      intro x px hx hr hsz ih hw
      have hil : x < l.length := by omega
      have ho : l.toArray[x]? = some l[x] := by simp [hil]
      simp only [canOps, List.getElem?_eq_getElem hil] at hw
      have hw' : if Region.wanted l[x] (yielded l.toArray a'.tmps) then l[x].wp P a' w' (fun a'' w'' => Keep N w' w'' ∧ wpTree P l Q N T px a'' w'') Q else wpTree P l Q N T px (a'.put l[x].dst undef) w' := hw
      rw [← hsz]
      unfold wpOp
      simp only [ho]
      split
      · rename_i hwt
        rw [if_pos hwt] at hw'
        exact .inl (Oper.wp_mono (fun a'' w'' h' => ⟨hk'.trans h'.1, ih _ _ (inv'.set hr hx) (hk'.trans h'.1) h'.2⟩) hw')
      · rename_i hwt
        rw [if_neg hwt] at hw'
        exact ⟨hk', ih _ _ (inv'.set hr hx) hk' hw'⟩
    have hri : i ∈ Region.ready md l.toArray (aft p listed) := by rw [h2]; simp
    have hrj : j ∈ Region.ready md l.toArray (aft p listed) := by rw [h2]; simp
    refine ⟨fun h0 => (by rw [h0] at h2; cases h2), fun x hx => ?_⟩
    rw [h2] at hx
    simp only [List.mem_cons, List.not_mem_nil, or_false] at hx
    rcases hx with rfl | rfl
    · exact ⟨h3, step x pi h3 hri rfl (fun a w iv k t => wpAnyC_tree hsel hs hc hn pi _ a w iv h6 k t) hT.1⟩
    · exact ⟨h4, step x pj h4 hrj h5.symm (fun a w iv k t => wpAnyC_tree hsel hs hc hn pj _ a w iv h7 k t) hT.2⟩

def forkB (md : Region.Mode) (ops : Array Oper) (n : Nat) (p : CPlan) : Bool :=
  Region.noSelect ops && decide (n < ops.size) && decide (p.size = n) && Region.sinkB md ops n && Region.chainB md ops n && treeB md ops n p (Array.replicate ops.size false)
/-- **A region that draws its order, in orders of the prover's: at a fork both ways.** -/
theorem wp_region_fork {id : Nat} {a : Act} {w : World} {l : List Oper} (N n : Nat) (p : CPlan) (hm : P.follows .mixedOrders = true) (hB : forkB .any l.toArray n p = true)
    (h : wpTree P l Q N (fun a' w' => wpList P l.toArray Q (l.drop n) a' w') p a w.drew) : (Code.region id l.toArray true).wp P Q a w := by
  simp only [forkB, Bool.and_eq_true, decide_eq_true_eq] at hB
  obtain ⟨⟨⟨⟨⟨hsel, hn⟩, hp⟩, hs⟩, hc⟩, hcan⟩ := hB
  have inv0 : HeadInv .any l.toArray n (Array.replicate l.toArray.size false) :=
    ⟨by simp, fun j oj _ hl => (by rw [getD_replicate_false] at hl; cases hl), fun t _ ht => getD_in (by simpa using ht) (getD_replicate_false _ _)⟩
  have H := wpAnyC_tree (md := .any) (w0 := w.drew) hsel hs hc (by simpa using hn) p _ a _ inv0 hcan (Keep.refl _ _) h
  refine wp_region_any hm ?_
  have hdl : (l.drop n).length = l.toArray.size - n := by simp
  have := wpAny_of_anyC (g := l.toArray.size - n) (fun listed a' w' hL => by
    have := wpAny_of_seq (md := .any) (Q' := Q) (l.drop n) n listed a' w' (fun j => by simp [List.getElem?_drop]) (by rw [hdl]; exact hL.1) hL.2
    rwa [hdl] at this) _ _ _ _ H
  rw [hp, show n + (l.toArray.size - n) = l.toArray.size by omega] at this
  exact this
end
end Go.Proofs.Ythgjhipfgdlbnaa
