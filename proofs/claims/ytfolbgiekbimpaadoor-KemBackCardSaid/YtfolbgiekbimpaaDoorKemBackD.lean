/- A region that draws its order, walked in each order of its calls and new blocks (a tree of orders); what only reads is taken as soon as it may come up. No program is in sight. x[i] of an array that is a value; no program is in sight. The walks of layer 5: whether numbers may be. The walks of layer 5: what goes over a part is carried. The walks of layer 5: a number's own, below p. Plain law of layer 5: a number's parts, and its bytes; no program is in sight. The walks of layer 5: a number's bytes. The walks of layer 5: a number of bytes. A region that draws its order, where at some places eithe -/
import Derived.Test.YtfolbgiekbimpaaDoorKemBackC
import Derived.Great.Walk
import Derived.Laws.Bits64b
import Derived.Lib.Mul64
import Derived.Laws.Externs
namespace Go.Proofs.YtfolbgiekbimpaaDoor.CanB
set_option linter.unusedSimpArgs false
set_option linter.unusedVariables false
open Go.RowKit

/-- Orders, as a tree: an operation that only reads; one that does something, or another one of these. -/
inductive Tr where
  | nil
  | pure (i : Nat) (t : Tr)
  | eff (i : Nat) (t more : Tr)
def Tr.alts : Tr → List Nat
  | .eff i _ m => i :: m.alts
  | _ => []
def Tr.isNil : Tr → Bool
  | .nil => true
  | _ => false
def Tr.uni : Tr → Nat → Bool
  | .nil, n => n == 0
  | .pure _ t, n + 1 => t.uni n
  | .eff _ t m, n + 1 => t.uni n && (m.isNil || m.uni (n + 1))
  | _, 0 => false
/-- The same, of operations. -/
inductive Tro where
  | nil
  | pure (o : Oper) (t : Tro)
  | eff (o : Oper) (t more : Tro)
def opsT (l : List Oper) : Tr → Tro
  | .nil => .nil
  | .pure i t => match l[i]? with | some o => .pure o (opsT l t) | none => .nil
  | .eff i t m => match l[i]? with | some o => .eff o (opsT l t) (opsT l m) | none => .nil
def wpTr (P : Program) (ops : Array Oper) (Q : Exit → Act → World → Prop) (N : Nat → Prop) (T : Act → World → Prop) : Bool → Tro → Act → World → Prop
  | true, .nil, _, _ => True
  | false, .nil, a, w => T a w
  | true, .pure _ _, _, _ => False
  | false, .pure o t, a, w => ∃ v, ((Region.wanted o (yielded ops a.tmps) = true ∧ (execOp a.eval o).run P w = .ok (.value v) w ∧ Framed P N o a w) ∨ (Region.wanted o (yielded ops a.tmps) = false ∧ v = undef)) ∧
      (∀ c a w, Q (.panic c) (a.put o.dst v) w → Q (.panic c) a w) ∧ wpTr P ops Q N T false t (a.put o.dst v) w
  | _, .eff o t m, a, w => (if Region.wanted o (yielded ops a.tmps) then o.wp P a w (fun a' w' => Keep N w w' ∧ wpTr P ops Q N T false t a' w') Q else wpTr P ops Q N T false t (a.put o.dst undef) w) ∧ wpTr P ops Q N T true m a w
def canT (md : Region.Mode) (ops : Array Oper) (n : Nat) : Bool → Tr → Array Bool → Bool
  | true, .nil, _ => true
  | false, .nil, listed => Region.seqB md ops (ops.size - n) n listed
  | true, .pure _ _, _ => false
  | false, .pure i t, listed => decide (i < n) && (Region.ready md ops listed).contains i && Region.free md ops listed i && canT md ops n false t (listed.setIfInBounds i true)
  | b, .eff i t m, listed => decide (i < n) && (b || decide (Region.ready md ops listed = i :: m.alts)) && canT md ops n false t (listed.setIfInBounds i true) && canT md ops n true m listed
def treB (md : Region.Mode) (ops : Array Oper) (n : Nat) (t : Tr) : Bool :=
  Region.noSelect ops && decide (n < ops.size) && t.uni n && Region.sinkB md ops n && Region.chainB md ops n && canT md ops n false t (Array.replicate ops.size false)

section
variable {P : Program} {Q : Exit → Act → World → Prop} {md : Region.Mode} {N : Nat → Prop} {n : Nat} {w0 : World} {T : Act → World → Prop} {l : List Oper}
theorem wpAnyC_tr (hsel : Region.noSelect l.toArray = true) (hs : Region.sinkB md l.toArray n = true) (hc : Region.chainB md l.toArray n = true) (hn : n < l.length) :
    ∀ (t : Tr) (f : Nat) (listed : Array Bool) (a : Act) (w : World), HeadInv md l.toArray n listed → Keep N w0 w → t.uni f = true →
      (canT md l.toArray n false t listed = true → wpTr P l.toArray Q N T false (opsT l t) a w → wpAnyC P md l.toArray Q (Keep N w0) n (fun listed' a' w' => Region.seqB md l.toArray (l.toArray.size - n) n listed' = true ∧ T a' w') f listed a w) ∧
      (∀ f', f = f' + 1 → canT md l.toArray n true t listed = true → wpTr P l.toArray Q N T true (opsT l t) a w → ∀ j ∈ t.alts, j ∈ Region.ready md l.toArray listed →
        j < n ∧ wpOp P l.toArray Q j (fun a' w' => Keep N w0 w' ∧ wpAnyC P md l.toArray Q (Keep N w0) n (fun listed' a' w' => Region.seqB md l.toArray (l.toArray.size - n) n listed' = true ∧ T a' w') f' (listed.setIfInBounds j true) a' w') a w) := by
  intro t
  induction t with
  | nil =>
    intro f listed a w inv hk hu
    have hf : f = 0 := by simpa [Tr.uni] using hu
    subst hf
    exact ⟨fun hB h => ⟨by simpa [canT] using hB, by simpa [wpTr, opsT] using h⟩, fun f' _ _ _ j hj => by cases hj⟩
  | pure i t ih =>
    intro f listed a w inv hk hu
    cases f with
    | zero => simp [Tr.uni] at hu
    | succ f =>
      have hu' : t.uni f = true := by simpa [Tr.uni] using hu
      refine ⟨fun hB h => ?_, fun f' _ hB => by simp [canT] at hB⟩
      simp only [canT, Bool.and_eq_true, decide_eq_true_eq] at hB
      obtain ⟨⟨⟨hin, hr⟩, hf⟩, hB'⟩ := hB
      have hil : i < l.length := by omega
      have ho : l.toArray[i]? = some l[i] := by simp [hil]
      simp only [opsT, List.getElem?_eq_getElem hil, wpTr] at h
      obtain ⟨v, hv, hQ, hK⟩ := h
      have hr' : i ∈ Region.ready md l.toArray listed := by simpa using hr
      have hy : YieldsIf P l.toArray (Keep N w0) l[i] v a := by
        rcases hv with ⟨hw, hrun, hfr⟩ | ⟨hw, hv⟩
        · exact .inl ⟨hw, fun w' hw' => hfr v hrun w' (hk.symm.trans hw')⟩
        · exact .inr ⟨hw, hv⟩
      exact wpAnyC_first ho (Region.noSelect_spec hsel) hQ hs hc (by simpa using hn) hin (fun listed' a' w' hL => seqB_ready hL.1) f listed a w inv (Region.free_spec ho hf) hr' hy hk
        ((ih f _ _ _ (inv.set hr' hin) hk hu').1 hB' hK)
  | eff i t m iht ihm =>
    intro f listed a w inv hk hu
    cases f with
    | zero => simp [Tr.uni] at hu
    | succ f =>
      simp only [Tr.uni, Bool.and_eq_true, Bool.or_eq_true] at hu
      obtain ⟨hu1, hu2⟩ := hu
      have step : ∀ (hin : i < n), i ∈ Region.ready md l.toArray listed → canT md l.toArray n false t (listed.setIfInBounds i true) = true →
          (if Region.wanted l[i] (yielded l.toArray a.tmps) then l[i].wp P a w (fun a' w' => Keep N w w' ∧ wpTr P l.toArray Q N T false (opsT l t) a' w') Q else wpTr P l.toArray Q N T false (opsT l t) (a.put l[i].dst undef) w) →
          i < n ∧ wpOp P l.toArray Q i (fun a' w' => Keep N w0 w' ∧ wpAnyC P md l.toArray Q (Keep N w0) n (fun listed' a' w' => Region.seqB md l.toArray (l.toArray.size - n) n listed' = true ∧ T a' w') f (listed.setIfInBounds i true) a' w') a w := by
        intro hin hr' hB' hw
        have hil : i < l.length := by omega
        have ho : l.toArray[i]? = some l[i] := by simp [hil]
        refine ⟨hin, ?_⟩
        unfold wpOp
        simp only [ho]
        split
        · rename_i hwt
          rw [if_pos hwt] at hw
          exact .inl (Oper.wp_mono (fun a' w' h' => ⟨hk.trans h'.1, (iht f _ _ _ (inv.set hr' hin) (hk.trans h'.1) hu1).1 hB' h'.2⟩) hw)
        · rename_i hwt
          rw [if_neg hwt] at hw
          exact ⟨hk, (iht f _ _ _ (inv.set hr' hin) hk hu1).1 hB' hw⟩
      have other : canT md l.toArray n true m listed = true → wpTr P l.toArray Q N T true (opsT l m) a w → ∀ j ∈ m.alts, j ∈ Region.ready md l.toArray listed →
          j < n ∧ wpOp P l.toArray Q j (fun a' w' => Keep N w0 w' ∧ wpAnyC P md l.toArray Q (Keep N w0) n (fun listed' a' w' => Region.seqB md l.toArray (l.toArray.size - n) n listed' = true ∧ T a' w') f (listed.setIfInBounds j true) a' w') a w := by
        intro hB hw j hj hr
        rcases hu2 with h | h
        · cases m with
          | nil => cases hj
          | pure i' t' => simp [Tr.isNil] at h
          | eff i' t' m' => simp [Tr.isNil] at h
        · exact (ihm (f + 1) listed a w inv hk h).2 f rfl hB hw j hj hr
      constructor
      · intro hB h
        simp only [canT, Bool.and_eq_true, Bool.or_eq_true, decide_eq_true_eq, Bool.false_eq_true, false_or] at hB
        obtain ⟨⟨⟨hin, hr⟩, hB1⟩, hB2⟩ := hB
        have hil : i < l.length := by omega
        simp only [opsT, List.getElem?_eq_getElem hil, wpTr] at h
        refine ⟨fun h0 => (by rw [h0] at hr; cases hr), fun j hj => ?_⟩
        have hj' := hj
        rw [hr] at hj'
        rcases List.mem_cons.1 hj' with rfl | h2
        · exact step hin hj hB1 h.1
        · exact other hB2 h.2 j h2 hj
      · intro f' hf' hB h j hj hr
        obtain rfl : f = f' := by omega
        simp only [canT, Bool.and_eq_true, Bool.true_or, decide_eq_true_eq, and_true] at hB
        obtain ⟨⟨hin, hB1⟩, hB2⟩ := hB
        have hil : i < l.length := by omega
        simp only [opsT, List.getElem?_eq_getElem hil, wpTr] at h
        rcases List.mem_cons.1 hj with rfl | h2
        · exact step hin hr hB1 h.1
        · exact other hB2 h.2 j h2 hr
/-- **A region that draws its order, in each order of its calls and new blocks.** -/
theorem wp_region_tr {id : Nat} {a : Act} {w : World} (N : Nat → Prop) (n : Nat) (t : Tr) (hm : P.follows .mixedOrders = true) (hB : treB .any l.toArray n t = true)
    (h : wpTr P l.toArray Q N (fun a' w' => wpList P l.toArray Q (l.drop n) a' w') false (opsT l t) a w.drew) : (Code.region id l.toArray true).wp P Q a w := by
  simp only [treB, Bool.and_eq_true, decide_eq_true_eq] at hB
  obtain ⟨⟨⟨⟨⟨hsel, hn⟩, hp⟩, hs⟩, hc⟩, hcan⟩ := hB
  have inv0 : HeadInv .any l.toArray n (Array.replicate l.toArray.size false) :=
    ⟨by simp, fun j oj _ hl => (by rw [getD_replicate_false] at hl; cases hl), fun t _ ht => getD_in (by simpa using ht) (getD_replicate_false _ _)⟩
  have H := (wpAnyC_tr (md := .any) (w0 := w.drew) hsel hs hc (by simpa using hn) t n _ a _ inv0 (Keep.refl _ _) hp).1 hcan h
  refine wp_region_any hm ?_
  have hdl : (l.drop n).length = l.toArray.size - n := by simp
  have := wpAny_of_anyC (g := l.toArray.size - n) (fun listed a' w' hL => by
    have := wpAny_of_seq (md := .any) (Q' := Q) (l.drop n) n listed a' w' (fun j => by simp [List.getElem?_drop]) (by rw [hdl]; exact hL.1) hL.2
    rwa [hdl] at this) _ _ _ _ H
  rw [show n + (l.toArray.size - n) = l.toArray.size by omega] at this
  exact this
end
end Go.Proofs.YtfolbgiekbimpaaDoor.CanB
namespace Go.Proofs.YtfolbgiekbimpaaDoor
open Go.RowKit
section
variable {P : Program} {ops : Array Oper} {Q : Exit → Act → World → Prop} {o : Oper} {a : Act} {w ws : World} {N d : Nat} {l : List (Nat × Value)} {v : Value} {S : Nat → Prop} {T : Act → World → Prop} {p m : CanB.Tro}
theorem T_val (E : Env a N l) (HK : CanB.Keep S ws w) (hv : PK P S ws l o v) (hg : gd ops l o = some true) (hd : o.dst = some d) (hN : Nat.blt d N = true) (hQ : ∀ c a v w, Q (.panic c) (a.put o.dst v) w → Q (.panic c) a w)
    (h : ∀ a', Env a' N ((d, v) :: l) → CanB.wpTr P ops Q S T false p a' w) : CanB.wpTr P ops Q S T false (.pure o p) a w := by
  unfold CanB.wpTr
  exact ⟨v, .inl ⟨gd_wanted E hg, hv w HK a N E, fun u hu w' hk => by
    have h1 := hv w HK a N E
    rw [hu] at h1
    simp only [Result.ok.injEq, Next.value.injEq] at h1
    rw [h1.1]
    exact hv w' (HK.trans hk) a N E⟩, fun c a w => hQ c a v w, h _ (by rw [hd]; exact E.put hN)⟩
/-- One of those that may come up. -/
theorem T_alt {b : Bool} (h : CanB.wpTr P ops Q S T false (.eff o p .nil) a w) (hm : CanB.wpTr P ops Q S T true m a w) : CanB.wpTr P ops Q S T b (.eff o p m) a w := by
  cases b <;> (unfold CanB.wpTr at h ⊢; exact ⟨h.1, hm⟩)
theorem T_last : CanB.wpTr P ops Q S T true .nil a w := by unfold CanB.wpTr; trivial
theorem T_one {b : Bool} (h : CanB.wpTr P ops Q S T false (.eff o p .nil) a w) : CanB.wpTr P ops Q S T b (.eff o p .nil) a w := T_alt h T_last
theorem T_nil (h : T a w) : CanB.wpTr P ops Q S T false .nil a w := by unfold CanB.wpTr; exact h
theorem T_eff (E : Env a N l) (hg : gd ops l o = some true) (h : ∀ K : Act → World → Prop, (∀ a' w', CanB.Keep S w w' → CanB.wpTr P ops Q S T false p a' w' → K a' w') → o.wp P a w K Q) : CanB.wpTr P ops Q S T false (.eff o p .nil) a w := by
  unfold CanB.wpTr
  refine ⟨?_, T_last⟩
  rw [if_pos (gd_wanted E hg)]
  exact h _ fun _ _ hk h => ⟨hk, h⟩
theorem T_put {u : Value} (E : Env a N l) (hd : o.dst = some d) (hN : Nat.blt d N = true) (h : ∀ a', Env a' N ((d, u) :: l) → CanB.wpTr P ops Q S T false p a' w) : CanB.wpTr P ops Q S T false p (a.put o.dst u) w := h _ (by rw [hd]; exact E.put hN)
theorem T_put0 {u : Value} (hd : o.dst = none) (h : CanB.wpTr P ops Q S T false p a w) : CanB.wpTr P ops Q S T false p (a.put o.dst u) w := by rw [hd]; exact h
/-- A region that draws its order, in each order. -/
theorem T_region {id : Nat} {lo : List Oper} {X G : List Nat} {w0 : World} {L : List Res} {R : List (World → Prop)} (E : Env a N l) (H : Sep X G w0 w L R) (D : List Nat) (n : Nat) (t : CanB.Tr) (hm : P.follows .mixedOrders = true) (hB : CanB.treB .any lo.toArray n t = true)
    (h : ∀ ws, Sep X G w0 ws L R → CanB.wpTr P lo.toArray Q (fun k => k < ws.heap.size ∧ k ∉ D) (fun a' w' => wpList P lo.toArray Q (lo.drop n) a' w') false (CanB.opsT lo t) a ws) : (Code.region id lo.toArray true).wp P Q a w :=
  CanB.wp_region_tr (fun k => k < w.drew.heap.size ∧ k ∉ D) n t hm hB (h w.drew H.drew)
end
section
variable {P : Program} {o : Oper} {a : Act} {w : World} {Q : Exit → Act → World → Prop} {N : Nat} {l : List (Nat × Value)} {v : Value} {K : Act → World → Prop} {X G : List Nat} {w0 : World} {L : List Res} {R : List (World → Prop)}
theorem eff_allocN {ty : TypeId} {z : List Chunk} (H : Sep X G w0 w L R) (ho : o.op = .alloc ty) (hz : zeroC P ty = some (ca z))
    (h : ∀ b w', w.heap.size ≤ b → Sep X G w0 w' (.blk b (ca z) ty :: L) R → Frm [] w w' → K (a.put o.dst (.pointer (some ⟨b, 0, none⟩))) w') : o.wp P a w K Q := by
  obtain ⟨i, zv, h1, h2, h3⟩ := zeroC_of hz
  have hr : (execOp a.eval o).run P w = .ok (.value (.pointer (some ⟨w.heap.size, 0, none⟩))) (w.alloc (.cells (ca z) ty)) := by
    unfold execOp
    simp [ho, Instr.alloc, zeroValue, typeInfo, h1, h2, newVar, newRow, newObj, h3, Sem.run_bind]
    rfl
  unfold Oper.wp
  rw [hr]
  have hf : Frm [] w (w.alloc (.cells (ca z) ty)) := Frm.of_below ((Below.refl _ _).alloc (Nat.le_refl _) _)
  exact h w.heap.size _ (Nat.le_refl _) (H.own hf (heap_alloc_new w _) (by simp [Res.keys]) (by simp [Res.keys])) hf
end
end Go.Proofs.YtfolbgiekbimpaaDoor
namespace Go.Proofs.YtfolbgiekbimpaaDoor
set_option linter.unusedSimpArgs false
set_option linter.unusedVariables false
open Go.RowKit
section
variable {P : Program} {ops : Array Oper} {rest : List Oper} {o : Oper} {a : Act} {w : World} {Q : Exit → Act → World → Prop}
theorem arr_extract (k : IntKind) (N : Nat) (f : Nat → Int) (off n : Nat) (h : off + n ≤ N) : (arr k N f).extract off (off + n) = arr k n fun i => f (off + i) := by
  apply Array.ext_getElem?
  intro j
  by_cases hj : j < n
  · rw [arr_get _ _ _ _ hj, Array.getElem?_extract, if_pos (by rw [arr_size]; omega), arr_get _ _ _ _ (by omega)]
  · rw [Array.getElem?_eq_none (by simp [arr_size]; omega), Array.getElem?_eq_none (by rw [arr_size]; omega)]
theorem run_isAgg_row {e n : Nat} (hT : RowT P e n) : (isAgg e).run P w = .ok true w := by
  obtain ⟨d, hu, hd, _⟩ := hT
  unfold isAgg
  rw [Sem.run_bind, run_underlying hu w]
  cases d <;> simp_all
/-- A row, out of a row of rows. -/
theorem run_op_index_row {t e n N len : Nat} {k : IntKind} {f : Nat → Int} {x y : Operand} {i : Int} (ho : o.op = .index t x y) (ht : P.underlying t = some (.array len e)) (hT : RowT P e n) (hx : a.eval x = .agg (arr k N f)) (hy : a.eval y = .int .i64 i) (h0 : 0 ≤ i) (hi : i < len) (hle : i.toNat * n + n ≤ N) :
    (execOp a.eval o).run P w = .ok (.value (.agg (arr k n fun j => f (i.toNat * n + j)))) w := by
  have hs := hT
  obtain ⟨_, _, _, hs⟩ := hs
  unfold execOp
  simp only [ho, hx, hy]
  unfold Instr.index
  have h1 : 0 ≤ i ∧ i < (len : Int) := ⟨h0, hi⟩
  simp [Sem.run_bind, run_underlying ht, asIntOf, h1, run_sizeOf_of hs, part, run_isAgg_row hT, arr_extract k N f _ n hle]
/-- A cell, out of a row. -/
theorem run_op_index_cell {t e N len : Nat} {k : IntKind} {d : TypeDesc} {f : Nat → Int} {x y : Operand} {i : Int} (ho : o.op = .index t x y) (ht : P.underlying t = some (.array len e)) (he : P.underlying e = some d) (hd : (match d with | .struct _ | .array _ _ => true | _ => false) = false) (hs : (P.info? e).map (·.size) = some 1) (hx : a.eval x = .agg (arr k N f)) (hy : a.eval y = .int .i64 i) (h0 : 0 ≤ i) (hi : i < len) (hle : i.toNat < N) :
    (execOp a.eval o).run P w = .ok (.value (.int k (f i.toNat))) w := by
  have hg : (isAgg e).run P w = .ok false w := by
    unfold isAgg
    rw [Sem.run_bind, run_underlying he w]
    cases d <;> simp_all
  unfold execOp
  simp only [ho, hx, hy]
  unfold Instr.index
  have h1 : 0 ≤ i ∧ i < (len : Int) := ⟨h0, hi⟩
  simp [Sem.run_bind, run_underlying ht, asIntOf, h1, run_sizeOf_of hs, part, hg, arr_get _ _ _ _ hle]
theorem wpList_index_row {t e n N len : Nat} {k : IntKind} {f : Nat → Int} {x y : Operand} {i : Int} (hgd : o.guard = none) (ho : o.op = .index t x y) (ht : P.underlying t = some (.array len e)) (hT : RowT P e n) (hx : a.eval x = .agg (arr k N f)) (hy : a.eval y = .int .i64 i) (h0 : 0 ≤ i) (hi : i < len) (hle : i.toNat * n + n ≤ N)
    (f' : Nat → Int) (hf : ∀ j, j < n → f (i.toNat * n + j) = f' j) (h : wpList P ops Q rest (a.put o.dst (.agg (arr k n f'))) w) : wpList P ops Q (o :: rest) a w :=
  wpList_val hgd (run_op_index_row ho ht hT hx hy h0 hi hle) (by rw [arr_ext hf]; exact h)
theorem wpList_index_cell {t e N len : Nat} {k : IntKind} {d : TypeDesc} {f : Nat → Int} {x y : Operand} {i : Int} (hgd : o.guard = none) (ho : o.op = .index t x y) (ht : P.underlying t = some (.array len e)) (he : P.underlying e = some d) (hd : (match d with | .struct _ | .array _ _ => true | _ => false) = false) (hs : (P.info? e).map (·.size) = some 1) (hx : a.eval x = .agg (arr k N f)) (hy : a.eval y = .int .i64 i) (h0 : 0 ≤ i) (hi : i < len) (hle : i.toNat < N)
    (h : wpList P ops Q rest (a.put o.dst (.int k (f i.toNat))) w) : wpList P ops Q (o :: rest) a w :=
  wpList_val hgd (run_op_index_cell ho ht he hd hs hx hy h0 hi hle) h
theorem run_op_build {ty : TypeId} {parts : Array (Nat × Operand)} {c : Array Value} {l : List (Nat × Value)} (ho : o.op = .build ty parts) (hl : (parts.map fun (i, x) => (i, a.eval x)).toList = l) (hb : P.built ty l = some c) : (execOp a.eval o).run P w = .ok (.value (.agg c)) w := by
  subst hl
  unfold execOp
  simp only [ho, Sem.run_bind, run_build w ty _ c hb, Result.andThen_ok]
  rfl
/-- A slice of given values: a new block. -/
theorem wpList_bslice {t e len : Nat} {parts : Array (Nat × Operand)} {c : Array Value} {l : List (Nat × Value)} (hgd : o.guard = none) (ho : o.op = .buildSlice t len parts) (hu : P.underlying t = some (.slice e)) (hl : (parts.map fun (i, x) => (i, a.eval x)).toList = l) (hb : P.builtSlice e len l = some c)
    (h : wpList P ops Q rest (a.put o.dst (.slice (some ⟨w.heap.size, 0, none⟩) len len)) (w.alloc (.cells c e))) : wpList P ops Q (o :: rest) a w := by
  subst hl
  exact Go.Great.wpList_buildSliceTo hgd t e len parts ho _ rfl _ rfl hu c hb h
end
end Go.Proofs.YtfolbgiekbimpaaDoor
namespace Go.Proofs.YtfolbgiekbimpaaDoor
set_option linter.unusedSimpArgs false
set_option linter.unusedVariables false
open Go.RowKit

theorem RTFe : RowT Tryd.prog 51 5 := ⟨_, Tryd.underlying51, rfl, by kernel_rfl⟩
theorem ZTFe : ZeroT Tryd.prog 51 .u64 5 := by unfold ZeroT; kernel_rfl
theorem SZU64 : (Tryd.prog.info? 49).map (·.size) = some 1 := by kernel_rfl

/-- The greatest of the first m + 1 numbers. -/
def mxN (F : Nat → Nat) : Nat → Nat
  | 0 => F 0
  | m + 1 => max (mxN F m) (F (m + 1))
theorem mxN_le (F : Nat → Nat) (b : Nat) : ∀ m, (mxN F m < b ↔ ∀ i, i < m + 1 → F i < b)
  | 0 => by
    unfold mxN
    exact ⟨fun h i hi => by rw [show i = 0 from by omega]; exact h, fun h => h 0 (by omega)⟩
  | m + 1 => by
    unfold mxN
    rw [Nat.max_lt, mxN_le F b m]
    constructor
    · rintro ⟨h1, h2⟩ i hi
      by_cases h : i < m + 1
      · exact h1 i h
      · rw [show i = m + 1 from by omega]; exact h2
    · intro h
      exact ⟨fun i hi => h i (by omega), h _ (by omega)⟩
theorem mxN_succ (F : Nat → Nat) (m : Nat) : mxN F (m + 1) = max (mxN F m) (F (m + 1)) := rfl
attribute [local irreducible] mxN
set_option maxHeartbeats 400000 in
theorem Max_any (F : Nat → Nat) (hF : ∀ i, i < 5 → F i < 18446744073709551616) (g : Nat) (w : World) (hg : w.heap[g]? = some (.cells (arr .u64 5 fun i => ((F i : Nat) : Int)) 51 (0, 0))) :
    Calls Tryd.prog 61 #[.slice (some ⟨g, 0, none⟩) 5 5] w fun e w' => e = .returned (.int .u64 ((mxN F 4 : Nat) : Int)) ∧ w = w' := by
  go_enter Tryd.func61, Tryd.ntmps61
  have c0 := cell_arr hg 0 (by omega)
  go_wp2
  have e0 : mxN F 0 = F 0 := by unfold mxN; rfl
  go_loopg [3, 4] 4 (fun n x i wr => ∃ m : Nat, m + n = 4 ∧ i = .int .i64 ((m : Int) + 1) ∧ x = .int .u64 ((mxN F m : Nat) : Int) ∧ w = wr)
  case atStart => exact ⟨0, rfl, rfl, by rw [e0], rfl⟩
  case round =>
    obtain ⟨m, hm, rfl, rfl, rfl⟩ := hrel
    have hm' := Lib.hid hm
    clear hm c0 e0
    by_cases hlt : m < 4
    · have c1 := cell_arr hg (m + 1) (by omega)
      go_wp2
      all_goals
        go_roundg (gk - 1)
        case measure => have := hm'.out; omega
        case rel =>
          have hm'' := hm'.out
          exact ⟨m + 1, by omega, by go_num, by rw [mxN_succ]; congr 2; omega, rfl⟩
    · obtain rfl : m = 4 := by have := hm'.out; omega
      go_wp2
      go_ret
      exact ⟨rfl, rfl⟩

/-- Whether the first n numbers may be parts. -/
def okF (F : Nat → Nat) (n : Nat) : Prop := ∀ i, i < n → F i < 4503599627370496
instance (F : Nat → Nat) (n : Nat) : Decidable (okF F n) := Nat.decidableBallLT n fun i _ => F i < 4503599627370496
theorem okF_five (F : Nat → Nat) (off k : Nat) (h : okF F (off + 5 * k)) : okF F (off + 5 * (k + 1)) ↔ okF (fun i => F (off + 5 * k + i)) 5 := by
  constructor
  · intro h i hi; exact h _ (by omega)
  · intro h' i hi
    by_cases hlt : i < off + 5 * k
    · exact h i hlt
    · have := h' (i - (off + 5 * k)) (by omega)
      simpa only [show off + 5 * k + (i - (off + 5 * k)) = i from by omega] using this

set_option maxHeartbeats 400000 in
theorem bad_any (F : Nat → Nat) (hF : ∀ i, i < 5 → F i < 18446744073709551616) (w : World) :
    Calls Tryd.prog 60 #[.agg (arr .u64 5 fun i => ((F i : Nat) : Int))] w fun e w' => e = .returned (.bool (!decide (okF F 5))) ∧ Below w.heap.size w w' := by
  go_enter Tryd.func60, Tryd.ntmps60
  obtain ⟨g0, hz, hb0⟩ := alloc1 w (.cells (arr .u64 5 fun i => ((F i : Nat) : Int)) 51)
  have hl := mxN_le F 4503599627370496 4
  have e0 : (!decide (okF F 5)) = decide (4503599627370496 ≤ mxN F 4) := by
    rw [← decide_not]
    exact decide_eq_decide.2 (by rw [← Nat.not_lt, hl]; rfl)
  rw [e0]
  clear e0 hl
  go_wp2_with (first | (refine wpList_val' rfl (run_op_slice_all rfl Tryd.underlying51 SZU64 rfl) ?_) | (go_at_call 61; refine (Max_any F hF _ _ g0).mono ?_; rintro e w' ⟨rfl, rfl⟩))
  go_ret
  refine ⟨?_, hb0⟩
  show Ending.returned (Value.bool _) = Ending.returned (Value.bool _)
  rw [show decide ((4503599627370496 : Int) ≤ ((mxN F 4 : Nat) : Int)) = decide (4503599627370496 ≤ mxN F 4) from decide_eq_decide.2 (by omega)]

set_option maxHeartbeats 1000000 in
theorem IndexFunc_any (n : Nat) (hn : n < 1000) (F : Nat → Nat) (hF : ∀ i, i < 5 * n → F i < 18446744073709551616) (g t : Nat) (w : World) (hg : w.heap[g]? = some (.cells (arr .u64 (5 * n) fun i => ((F i : Nat) : Int)) t (0, 0))) :
    Calls Tryd.prog 79 #[.slice (some ⟨g, 0, none⟩) n n, .func (.func 60) #[] #[]] w fun e w' => (∃ r : Int, e = .returned (.int .i64 r) ∧ decide (r ≥ 0) = !decide (okF F (5 * n))) ∧ Below w.heap.size w w' := by
  go_enter Tryd.func79, Tryd.ntmps79
  have hgl := lt_of_block hg
  go_wp2
  go_loopg [8] n (fun q i wr => ∃ m : Nat, m + q = n ∧ i = .int .i64 m ∧ okF F (5 * m) ∧ wr.heap[g]? = some (.cells (arr .u64 (5 * n) fun i => ((F i : Nat) : Int)) t (0, 0)) ∧ Below w.heap.size w wr)
  case atStart => exact ⟨0, by omega, rfl, fun i hi => absurd hi (by omega), hg, Below.refl _ _⟩
  case round =>
    clear hg
    obtain ⟨m, hm, rfl, hok, hg, hB⟩ := hrel
    have hm' := Lib.hid hm
    clear hm
    by_cases hlt : m < n
    · have h5 := okF_five F 0 m (by simpa using hok)
      simp only [Nat.zero_add] at h5
      by_cases hq : okF (fun i => F (5 * m + i)) 5
      · go_wp2_with (first | (refine wpList_load_as (off := m * 5) (fun i => ((F (5 * m + i) : Nat) : Int)) rfl rfl rfl RTFe hg (by omega) (fun i hi => by rw [Nat.mul_comm m 5]) ?_) | (go_at_call 60; refine (bad_any (fun i => F (5 * m + i)) (fun i hi => hF _ (by omega)) _).mono ?_; rintro e w2 ⟨rfl, b2⟩; rw [show (!decide (okF (fun i => F (5 * m + i)) 5)) = false from by rw [decide_eq_true hq]; rfl]))
        go_roundg (gk - 1)
        case measure => have := hm'.out; omega
        case rel =>
          have hm'' := hm'.out
          exact ⟨m + 1, by omega, by go_num, h5.2 hq, keep_below b2 (lt_of_block hg) hg, hB.trans (b2.mono hB.size)⟩
      · go_wp2_with (first | (refine wpList_load_as (off := m * 5) (fun i => ((F (5 * m + i) : Nat) : Int)) rfl rfl rfl RTFe hg (by omega) (fun i hi => by rw [Nat.mul_comm m 5]) ?_) | (go_at_call 60; refine (bad_any (fun i => F (5 * m + i)) (fun i hi => hF _ (by omega)) _).mono ?_; rintro e w2 ⟨rfl, b2⟩; rw [show (!decide (okF (fun i => F (5 * m + i)) 5)) = true from by rw [decide_eq_false hq]; rfl]))
        go_ret
        refine ⟨⟨_, rfl, ?_⟩, hB.trans (b2.mono hB.size)⟩
        rw [show decide (okF F (5 * n)) = false from decide_eq_false fun h => hq (h5.1 fun i hi => h i (by omega))]
        exact decide_eq_true (by omega)
    · obtain rfl : m = n := by have := hm'.out; omega
      go_wp2
      go_ret
      refine ⟨⟨_, rfl, ?_⟩, hB⟩
      rw [decide_eq_true hok]; rfl

theorem Contains_any (n : Nat) (hn : n < 1000) (F : Nat → Nat) (hF : ∀ i, i < 5 * n → F i < 18446744073709551616) (g t : Nat) (w : World) (hg : w.heap[g]? = some (.cells (arr .u64 (5 * n) fun i => ((F i : Nat) : Int)) t (0, 0))) :
    Calls Tryd.prog 59 #[.slice (some ⟨g, 0, none⟩) n n, .func (.func 60) #[] #[]] w fun e w' => e = .returned (.bool (!decide (okF F (5 * n)))) ∧ Below w.heap.size w w' := by
  go_enter Tryd.func59, Tryd.ntmps59
  go_wp2_with (go_at_call 79; refine (IndexFunc_any n hn F hF g t _ hg).mono ?_; rintro e w2 ⟨⟨r, rfl, hr⟩, b2⟩)
  go_ret
  exact ⟨rfl, b2⟩
theorem may_any (n m : Nat) (hm : 5 * n = m) (hn : n < 1000) (F : Nat → Nat) (hF : ∀ i, i < m → F i < 18446744073709551616) (g t : Nat) (w : World) (hg : w.heap[g]? = some (.cells (arr .u64 m fun i => ((F i : Nat) : Int)) t (0, 0))) :
    Calls Tryd.prog 44 #[.slice (some ⟨g, 0, none⟩) n n] w fun e w' => e = .returned (.bool (decide (okF F m))) ∧ Below w.heap.size w w' := by
  subst hm
  go_enter Tryd.func44, Tryd.ntmps44
  go_wp2_with (go_at_call 59; refine (Contains_any n hn F hF g t _ hg).mono ?_; rintro e w2 ⟨rfl, b2⟩)
  go_ret
  exact ⟨by simp, b2⟩

theorem built_one (F : Nat → Int) : Tryd.prog.builtSlice 51 1 [(0, .agg (arr .u64 5 F))] = some (arr .u64 5 F) := by kernel_rfl
def two5 (F G : Nat → Nat) (i : Nat) : Nat := if i < 5 then F i else G (i - 5)
theorem built_two (F G : Nat → Nat) : Tryd.prog.builtSlice 51 2 [(0, .agg (arr .u64 5 fun i => ((F i : Nat) : Int))), (1, .agg (arr .u64 5 fun i => ((G i : Nat) : Int)))] = some (arr .u64 10 fun i => ((two5 F G i : Nat) : Int)) := by kernel_rfl
theorem two5_ok (F G : Nat → Nat) : okF (two5 F G) 10 ↔ okF F 5 ∧ okF G 5 := by
  constructor
  · intro h
    refine ⟨fun i hi => ?_, fun i hi => ?_⟩
    · have := h i (by omega); unfold two5 at this; rwa [if_pos hi] at this
    · have := h (5 + i) (by omega); unfold two5 at this; rwa [if_neg (by omega), Nat.add_sub_cancel_left] at this
  · rintro ⟨h1, h2⟩ i hi
    unfold two5
    by_cases h : i < 5
    · rw [if_pos h]; exact h1 i h
    · rw [if_neg h]; exact h2 _ (by omega)
theorem two5_lt (F G : Nat → Nat) (b : Nat) (hF : ∀ i, i < 5 → F i < b) (hG : ∀ i, i < 5 → G i < b) (i : Nat) (hi : i < 10) : two5 F G i < b := by
  unfold two5
  by_cases h : i < 5
  · rw [if_pos h]; exact hF i h
  · rw [if_neg h]; exact hG _ (by omega)

end Go.Proofs.YtfolbgiekbimpaaDoor
namespace Go.Proofs.YtfolbgiekbimpaaDoor
set_option linter.unusedSimpArgs false
set_option linter.unusedVariables false
open Go.RowKit

theorem and_mask (a b : Nat) (h : a + b < 18446744073709551616) : bits .and .u64 ((a : Int) + (b : Int)) 2251799813685247 = (((a + b) % 2251799813685248 : Nat) : Int) := by
  have h1 := bits_and_u64_nat (a + b) 2251799813685247 h (by omega)
  have e : (a + b) &&& 2251799813685247 = (a + b) % 2251799813685248 := Nat.and_two_pow_sub_one_eq_mod (a + b) 51
  rw [e] at h1
  rw [← h1]
  rfl
/-- What goes over from the parts below m; what stays of part m. -/
def ovN (F : Nat → Nat) : Nat → Nat
  | 0 => 0
  | m + 1 => (F m + ovN F m) / 2251799813685248
def loN (F : Nat → Nat) (m : Nat) : Nat := (F m + ovN F m) % 2251799813685248
def carN (F : Nat → Nat) (i : Nat) : Nat := if i = 0 then loN F 0 + 19 * ovN F 5 else loN F i
theorem ovN_succ (F : Nat → Nat) (m : Nat) : ovN F (m + 1) = (F m + ovN F m) / 2251799813685248 := rfl
theorem ovN_lt (F : Nat → Nat) (hF : ∀ i, i < 5 → F i < 9223372036854775808) : ∀ m, m ≤ 5 → ovN F m < 8192
  | 0, _ => by unfold ovN; omega
  | m + 1, h => by
    have := ovN_lt F hF m (by omega)
    have := hF m (by omega)
    rw [ovN_succ]
    omega
attribute [local irreducible] ovN
set_option maxHeartbeats 1000000 in
theorem carry_any (F : Nat → Nat) (hF : ∀ i, i < 5 → F i < 9223372036854775808) (w : World) :
    Calls Tryd.prog 58 #[.agg (arr .u64 5 fun i => ((F i : Nat) : Int))] w fun e w' => e = .returned (.agg (arr .u64 5 fun i => ((carN F i : Nat) : Int))) ∧ Below w.heap.size w w' := by
  go_enter Tryd.func58, Tryd.ntmps58
  obtain ⟨h0, h1, hsz, hb⟩ := alloc2 w (.cells (arr .u64 5 fun i => ((F i : Nat) : Int)) 51) (.cells (arr .u64 5 fun _ => 0) 51)
  go_wp2_with (first | (refine wpList_alloc_arr rfl rfl ZTFe ?_) | (refine wpList_load_arr rfl rfl rfl RTFe h0 ?_))
  have hF' := Lib.hid hF
  have hov := Lib.hid (ovN_lt F hF)
  clear hF
  go_loopg [3, 7] 5 (fun n x i wr => ∃ m : Nat, m + n = 5 ∧ i = .int .i64 m ∧ x = .int .u64 ((ovN F m : Nat) : Int) ∧ wr.heap[w.heap.size]? = some (.cells (arr .u64 5 fun i => ((if i < m then loN F i else F i : Nat) : Int)) 51 (0, 0)) ∧
    wr.heap[w.heap.size + 1]? = some (.cells (arr .u64 5 fun _ => 0) 51 (0, 0)) ∧ Below w.heap.size w wr)
  case atStart => exact ⟨0, rfl, rfl, by unfold ovN; rfl, blk_congr h0 (fun i _ => by rw [if_neg (Nat.not_lt_zero i)]), h1, hb⟩
  case round =>
    obtain ⟨m, hm, rfl, rfl, g0, g1, hB⟩ := hrel
    have hm' := Lib.hid hm
    clear h0 h1 hsz hb hm
    by_cases hlt : m < 5
    · have fb := hF'.out m hlt
      have ob := hov.out m (by omega)
      have c0 := cell_arr g0 m hlt
      have fz := free_arr g0 m
      go_wp2_with (refine wpList_index_cell rfl rfl Tryd.underlying51 Tryd.underlying49 rfl SZU64 rfl rfl (by omega) (by omega) (by omega) ?_)
      go_roundg (gk - 1)
      case measure => have := hm'.out; omega
      case rel =>
        have hm'' := hm'.out
        refine ⟨m + 1, by omega, by go_num, ?_, blk_congr (set_arr g0 m _) (fun i _ => ?_), keep_arr g1 _ _ (by omega), hB.setCell (Nat.le_refl _) _⟩
        · rw [ovN_succ]; rfl
        · rw [and_mask _ _ (by omega)]
          unfold upd
          by_cases h : i = m
          · rw [if_pos h, h, if_pos (by omega)]; rfl
          · rw [if_neg h]
            dsimp only
            by_cases h2 : i < m
            · rw [if_pos h2, if_pos (by omega)]
            · rw [if_neg h2, if_neg (by omega)]
    · obtain rfl : m = 5 := by have := hm'.out; omega
      have ob := hov.out 5 (by omega)
      have g0' := blk_congr (f' := fun i => ((loN F i : Nat) : Int)) g0 (fun i hi => by rw [if_pos hi])
      clear g0
      have c0 := cell_arr g0' 0 (by omega)
      have fz := free_arr g0' 0
      have lb : loN F 0 < 2251799813685248 := Nat.mod_lt _ (by omega)
      go_upto_region 9 with (fail)
      have g2 := blk_congr (f' := fun i => ((carN F i : Nat) : Int)) (set_arr g0' 0 (((loN F 0 : Nat) : Int) + 19 * ((ovN F 5 : Nat) : Int))) (fun i _ => by
        unfold upd carN
        by_cases h : i = 0
        · rw [if_pos h, if_pos h]; omega
        · rw [if_neg h, if_neg h])
      have g3 := keep_arr (i := 0) (v := .int .u64 (((loN F 0 : Nat) : Int) + 19 * ((ovN F 5 : Nat) : Int))) g1 (C := w.heap.size) (by omega)
      have hBq := hB.setCell (p := ⟨w.heap.size, 0, none⟩) (Nat.le_refl _) (.int .u64 (((loN F 0 : Nat) : Int) + 19 * ((ovN F 5 : Nat) : Int)))
      go_wp2_with (first | (refine wpList_load_arr rfl rfl rfl RTFe g2 ?_) | (refine wpList_store_arr rfl rfl rfl rfl RTFe g3 ?_))
      exact bodyPost_ret (results_arr rfl rfl RTFe (row_self g3)) rfl ⟨rfl, row_below hBq (by omega) _⟩
end Go.Proofs.YtfolbgiekbimpaaDoor
namespace Go.Proofs.YtfolbgiekbimpaaDoor
set_option linter.unusedSimpArgs false
set_option linter.unusedVariables false
open Go.RowKit

theorem carN_lt (F : Nat → Nat) (hF : ∀ i, i < 5 → F i < 9223372036854775808) (i : Nat) (_hi : i < 5) : carN F i < 2251799813840896 := by
  have h1 := ovN_lt F hF 5 (by omega)
  have h2 : ∀ i, loN F i < 2251799813685248 := fun i => Nat.mod_lt _ (by omega)
  unfold carN
  have := h2 0
  have := h2 i
  split <;> omega
/-- Whether it is p or more: what goes over if 19 more is added. -/
def quN (F : Nat → Nat) : Nat → Nat
  | 0 => 19
  | m + 1 => (F m + quN F m) / 2251799813685248
theorem quN_succ (F : Nat → Nat) (m : Nat) : quN F (m + 1) = (F m + quN F m) / 2251799813685248 := rfl
theorem quN_lt (F : Nat → Nat) (hF : ∀ i, i < 5 → F i < 4503599627370496) : ∀ m, m ≤ 5 → quN F m < 20
  | 0, _ => by unfold quN; omega
  | m + 1, h => by
    have := quN_lt F hF m (by omega)
    have := hF m (by omega)
    rw [quN_succ]
    omega
/-- A number, and 19 for each p in it. -/
def upN (F : Nat → Nat) (i : Nat) : Nat := if i = 0 then F 0 + 19 * quN F 5 else F i
def leastN (F : Nat → Nat) (i : Nat) : Nat := loN (upN (carN (carN F))) i
theorem upN_lt (F : Nat → Nat) (hF : ∀ i, i < 5 → F i < 4503599627370496) (i : Nat) (hi : i < 5) : upN F i < 4503599627370877 := by
  have := quN_lt F hF 5 (by omega)
  have := hF 0 (by omega)
  have := hF i hi
  unfold upN
  split <;> omega
theorem leastN_lt (F : Nat → Nat) (i : Nat) : leastN F i < 2251799813685248 := Nat.mod_lt _ (by omega)
attribute [local irreducible] ovN quN
set_option maxHeartbeats 1000000 in
theorem least_any (F : Nat → Nat) (hF : ∀ i, i < 5 → F i < 9223372036854775808) (w : World) :
    Calls Tryd.prog 62 #[.agg (arr .u64 5 fun i => ((F i : Nat) : Int))] w fun e w' => e = .returned (.agg (arr .u64 5 fun i => ((leastN F i : Nat) : Int))) ∧ Below w.heap.size w w' := by
  go_enter Tryd.func62, Tryd.ntmps62
  obtain ⟨h0, h1, hsz, hb⟩ := alloc2 w (.cells (arr .u64 5 fun i => ((F i : Nat) : Int)) 51) (.cells (arr .u64 5 fun _ => 0) 51)
  go_wp2_with (first | (refine wpList_alloc_arr rfl rfl ZTFe ?_) | (refine wpList_load_arr rfl rfl rfl RTFe h0 ?_) | (go_at_call 58; fail))
  refine (carry_any F hF _).mono ?_
  rintro e w1 ⟨rfl, b1⟩
  have c1 := carN_lt F hF
  go_wp2_with (go_at_call 58; fail)
  refine (carry_any (carN F) (fun i hi => by have := c1 i hi; omega) _).mono ?_
  rintro e w2 ⟨rfl, b2⟩
  have c2 : ∀ i, i < 5 → carN (carN F) i < 4503599627370496 := fun i hi => by have := carN_lt (carN F) (fun i hi => by have := c1 i hi; omega) i hi; omega
  have b3 := b1.trans (b2.mono b1.size)
  have g0 := keep_below b3 (by omega) h0
  have g1 := keep_below b3 (by omega) h1
  have hB := hb.trans (b3.mono (by omega))
  clear h0 h1 b1 b2 b3 c1 hF hb hsz
  generalize hGe : carN (carN F) = G at c2 ⊢
  have hGe' := Lib.hid hGe
  clear hGe
  go_upto_region 2 with (refine wpList_store_arr rfl rfl rfl rfl RTFe g0 ?_)
  have q0 := row_self (w := w2) (c' := arr .u64 5 fun i => ((G i : Nat) : Int)) g0
  have q1 := row_keep (w := w2) (c' := arr .u64 5 fun i => ((G i : Nat) : Int)) (g := w.heap.size) g1 (by omega)
  have hBq := row_below hB (g := w.heap.size) (by omega) (arr .u64 5 fun i => ((G i : Nat) : Int))
  clear g0 g1 hB
  generalize w2.setRow w.heap.size (arr .u64 5 fun i => ((G i : Nat) : Int)) = w3 at *
  (try simp only [Act.put, List.setIfInBounds_toArray, List.set_cons_zero, List.set_cons_succ])
  have hq := Lib.hid (quN_lt G c2)
  have hu := Lib.hid (upN_lt G c2)
  have hG := Lib.hid c2
  clear c2
  go_wp2_with (refine wpList_load_arr rfl rfl rfl RTFe q0 ?_)
  go_loopg [3, 13] 5 (fun n x i wr => ∃ m : Nat, m + n = 5 ∧ i = .int .i64 m ∧ x = .int .u64 ((quN G m : Nat) : Int) ∧ wr.heap[w.heap.size]? = some (.cells (arr .u64 5 fun i => ((G i : Nat) : Int)) 51 (0, 0)) ∧
    wr.heap[w.heap.size + 1]? = some (.cells (arr .u64 5 fun _ => 0) 51 (0, 0)) ∧ Below w.heap.size w wr)
  case atStart => exact ⟨0, rfl, rfl, by unfold quN; rfl, q0, q1, hBq⟩
  case round =>
    clear q0 q1 hBq
    obtain ⟨m, hm, rfl, rfl, g0, g1, hB⟩ := hrel
    have hm' := Lib.hid hm
    clear hm
    by_cases hlt : m < 5
    · have fb := hG.out m hlt
      have ob := hq.out m (by omega)
      go_wp2_with (refine wpList_index_cell rfl rfl Tryd.underlying51 Tryd.underlying49 rfl SZU64 rfl rfl (by omega) (by omega) (by omega) ?_)
      go_roundg (gk - 1)
      case measure => have := hm'.out; omega
      case rel =>
        have hm'' := hm'.out
        exact ⟨m + 1, by omega, by go_num, by rw [quN_succ]; rfl, g0, g1, hB⟩
    · obtain rfl : m = 5 := by have := hm'.out; omega
      have ob := hq.out 5 (by omega)
      have fb := hG.out 0 (by omega)
      have c0 := cell_arr g0 0 (by omega)
      have fz := free_arr g0 0
      go_upto_region 9 with (fail)
      have q0 := blk_congr (f' := fun i => ((upN G i : Nat) : Int)) (set_arr g0 0 (((G 0 : Nat) : Int) + 19 * ((quN G 5 : Nat) : Int))) (fun i _ => by
        unfold upd upN
        by_cases h : i = 0
        · rw [if_pos h, if_pos h]; omega
        · rw [if_neg h, if_neg h])
      have q1 := keep_arr (i := 0) (v := .int .u64 (((G 0 : Nat) : Int) + 19 * ((quN G 5 : Nat) : Int))) g1 (C := w.heap.size) (by omega)
      have hBq := hB.setCell (p := ⟨w.heap.size, 0, none⟩) (Nat.le_refl _) (.int .u64 (((G 0 : Nat) : Int) + 19 * ((quN G 5 : Nat) : Int)))
      clear g0 g1 hB c0 fz ob fb
      generalize wr.setCell ⟨w.heap.size, 0, none⟩ (.int .u64 (((G 0 : Nat) : Int) + 19 * ((quN G 5 : Nat) : Int))) = w4 at *
      generalize hUe : upN G = U at hu q0 ⊢
      have hUe' := Lib.hid hUe
      clear hUe
      have hov := Lib.hid (ovN_lt U (fun i hi => by have := hu.out i hi; omega))
      go_wp2_with (refine wpList_load_arr rfl rfl rfl RTFe q0 ?_)
      go_loopg [6, 28] 5 (fun n x i wr => ∃ m : Nat, m + n = 5 ∧ i = .int .i64 m ∧ x = .int .u64 ((ovN U m : Nat) : Int) ∧ wr.heap[w.heap.size]? = some (.cells (arr .u64 5 fun i => ((if i < m then loN U i else U i : Nat) : Int)) 51 (0, 0)) ∧
        wr.heap[w.heap.size + 1]? = some (.cells (arr .u64 5 fun _ => 0) 51 (0, 0)) ∧ Below w.heap.size w wr)
      case atStart => exact ⟨0, rfl, rfl, by unfold ovN; rfl, blk_congr q0 (fun i _ => by rw [if_neg (Nat.not_lt_zero i)]), q1, hBq⟩
      case round =>
        clear q0 q1 hBq
        obtain ⟨m, hm, rfl, rfl, g0, g1, hB⟩ := hrel
        have hm' := Lib.hid hm
        clear hm
        by_cases hlt : m < 5
        · have fb := hu.out m hlt
          have ob := hov.out m (by omega)
          have c0 := cell_arr g0 m hlt
          have fz := free_arr g0 m
          go_wp2_with (refine wpList_index_cell rfl rfl Tryd.underlying51 Tryd.underlying49 rfl SZU64 rfl rfl (by omega) (by omega) (by omega) ?_)
          go_roundg (gk - 1)
          case measure => have := hm'.out; omega
          case rel =>
            have hm'' := hm'.out
            refine ⟨m + 1, by omega, by go_num, ?_, blk_congr (set_arr g0 m _) (fun i _ => ?_), keep_arr g1 _ _ (by omega), hB.setCell (Nat.le_refl _) _⟩
            · rw [ovN_succ]; rfl
            · rw [and_mask _ _ (by omega)]
              unfold upd
              by_cases h : i = m
              · rw [if_pos h, h, if_pos (by omega)]; rfl
              · rw [if_neg h]
                dsimp only
                by_cases h2 : i < m
                · rw [if_pos h2, if_pos (by omega)]
                · rw [if_neg h2, if_neg (by omega)]
        · obtain rfl : m = 5 := by have := hm'.out; omega
          have p0 := blk_congr (f' := fun i => ((loN U i : Nat) : Int)) g0 (fun i hi => by rw [if_pos hi])
          clear g0
          go_wp2_with (first | (refine wpList_load_arr rfl rfl rfl RTFe p0 ?_) | (refine wpList_store_arr rfl rfl rfl rfl RTFe g1 ?_))
          exact bodyPost_ret (results_arr rfl rfl RTFe (row_self g1)) rfl ⟨by rw [← hUe'.out, ← hGe'.out]; rfl, row_below hB (by omega) _⟩
end Go.Proofs.YtfolbgiekbimpaaDoor
namespace Go.Proofs.YtfolbgiekbimpaaDoor
set_option linter.unusedSimpArgs false
set_option linter.unusedVariables false

/-- What the first i parts stand for. -/
def valN (X : Nat → Nat) : Nat → Nat
  | 0 => 0
  | i + 1 => valN X i + X i * 2 ^ (51 * i)
theorem valN_succ (X : Nat → Nat) (i : Nat) : valN X (i + 1) = valN X i + X i * 2 ^ (51 * i) := rfl
theorem valN_lt (X : Nat → Nat) (n : Nat) (hX : ∀ i, i < n → X i < 2251799813685248) : ∀ i, i ≤ n → valN X i < 2 ^ (51 * i)
  | 0, _ => by unfold valN; decide
  | i + 1, h => by
    have h1 := valN_lt X n hX i (by omega)
    have h2 : X i + 1 ≤ 2251799813685248 := hX i (by omega)
    have h3 := Nat.mul_le_mul_right (2 ^ (51 * i)) h2
    rw [valN_succ, show 51 * (i + 1) = 51 + 51 * i from by omega, Nat.pow_add]
    rw [Nat.add_mul] at h3
    have : (2 : Nat) ^ 51 = 2251799813685248 := by decide
    rw [this]
    omega
/-- A number's k-th byte. -/
def byteN (v k : Nat) : Nat := v / 2 ^ (8 * k) % 256
theorem or_low (a b t : Nat) (ha : a < 2 ^ t) : a ||| (b * 2 ^ t) = a + b * 2 ^ t := by
  rw [Nat.or_comm, Nat.mul_comm, ← Nat.two_pow_add_eq_or_of_lt ha, Nat.add_comm]
/-- A part's bits that go below the byte's first. -/
theorem byte_low (v x i k : Nat) (hv : v < 2 ^ (51 * i)) (h : 8 * k < 51 * i) (h2 : 51 * i < 8 * k + 8) :
    byteN v k ||| (x * 2 ^ (51 * i - 8 * k) % 256) = byteN (v + x * 2 ^ (51 * i)) k := by
  obtain ⟨t, ht⟩ : ∃ t, 51 * i = 8 * k + t := ⟨51 * i - 8 * k, by omega⟩
  unfold byteN
  rw [show 51 * i - 8 * k = t from by omega, ht, Nat.pow_add]
  have ha : v / 2 ^ (8 * k) < 2 ^ t := by
    rw [Nat.div_lt_iff_lt_mul (Nat.two_pow_pos _), ← Nat.pow_add]
    rw [show t + 8 * k = 51 * i from by omega]; exact hv
  have e : (v + x * (2 ^ (8 * k) * 2 ^ t)) / 2 ^ (8 * k) = v / 2 ^ (8 * k) + x * 2 ^ t := by
    rw [show x * (2 ^ (8 * k) * 2 ^ t) = 2 ^ (8 * k) * (x * 2 ^ t) from by rw [Nat.mul_left_comm], Nat.add_mul_div_left _ _ (Nat.two_pow_pos _)]
  rw [e]
  generalize v / 2 ^ (8 * k) = a at *
  obtain ⟨u, hu⟩ : ∃ u, t + u = 8 := ⟨8 - t, by omega⟩
  have hp : (256 : Nat) = 2 ^ t * 2 ^ u := by rw [← Nat.pow_add, hu]
  have hl : a < 256 := Nat.lt_of_lt_of_le ha (by rw [hp]; exact Nat.le_mul_of_pos_right _ (Nat.two_pow_pos _))
  have hm : x * 2 ^ t % 256 = x % 2 ^ u * 2 ^ t := by rw [hp, Nat.mul_comm x, Nat.mul_mod_mul_left, Nat.mul_comm]
  have hlt : a + x * 2 ^ t % 256 < 256 := by
    rw [hm]
    have h1 : x % 2 ^ u + 1 ≤ 2 ^ u := Nat.mod_lt _ (Nat.two_pow_pos _)
    have h3 := Nat.mul_le_mul_right (2 ^ t) h1
    rw [Nat.add_mul, Nat.mul_comm (2 ^ u), ← hp] at h3
    omega
  rw [Nat.mod_eq_of_lt hl]
  have ho := or_low a (x % 2 ^ u) t ha
  rw [← hm] at ho
  rw [ho]
  generalize x * 2 ^ t = y at *
  omega
/-- A part's bits from the byte's first on. -/
theorem byte_high (v x i k : Nat) (hv : v < 2 ^ (51 * i)) (h : 51 * i ≤ 8 * k) : byteN v k = 0 ∧ x / 2 ^ (8 * k - 51 * i) % 256 = byteN (v + x * 2 ^ (51 * i)) k := by
  obtain ⟨t, ht⟩ : ∃ t, 8 * k = 51 * i + t := ⟨8 * k - 51 * i, by omega⟩
  unfold byteN
  rw [show 8 * k - 51 * i = t from by omega, ht, Nat.pow_add]
  constructor
  · rw [Nat.div_eq_of_lt (Nat.lt_of_lt_of_le hv (Nat.le_mul_of_pos_right _ (Nat.two_pow_pos _)))]
  · rw [← Nat.div_div_eq_div_mul, Nat.mul_comm x, Nat.add_mul_div_left _ _ (Nat.two_pow_pos _), Nat.div_eq_of_lt hv, Nat.zero_add]
/-- Bytes that a part does not reach. -/
theorem byte_below (v x i k : Nat) (h : 8 * k + 8 ≤ 51 * i) : byteN (v + x * 2 ^ (51 * i)) k = byteN v k := by
  obtain ⟨t, ht⟩ : ∃ t, 51 * i = 8 * k + (8 + t) := ⟨51 * i - 8 * k - 8, by omega⟩
  unfold byteN
  rw [ht, Nat.pow_add, show x * (2 ^ (8 * k) * 2 ^ (8 + t)) = 2 ^ (8 * k) * (x * 2 ^ (8 + t)) from by rw [Nat.mul_left_comm], Nat.add_mul_div_left _ _ (Nat.two_pow_pos _)]
  rw [Nat.pow_add, show x * (2 ^ 8 * 2 ^ t) = 256 * (x * 2 ^ t) from by rw [show (2 : Nat) ^ 8 = 256 from rfl, Nat.mul_left_comm], Nat.add_mul_mod_self_left]
theorem byte_above (v k : Nat) (h : v < 2 ^ (8 * k)) : byteN v k = 0 := by
  unfold byteN
  rw [Nat.div_eq_of_lt h]
end Go.Proofs.YtfolbgiekbimpaaDoor
namespace Go.Proofs.YtfolbgiekbimpaaDoor
set_option linter.unusedSimpArgs false
set_option linter.unusedVariables false
open Go.RowKit

theorem RTKey : RowT Tryd.prog 23 32 := ⟨_, Tryd.underlying23, rfl, by kernel_rfl⟩
theorem ZTKey : ZeroT Tryd.prog 23 .u8 32 := by unfold ZeroT; kernel_rfl
def midN (X : Nat → Nat) (m k q : Nat) : Nat := if q < k then byteN (valN X (m + 1)) q else byteN (valN X m) q
theorem midN_start (X : Nat → Nat) (m q : Nat) : byteN (valN X m) q = midN X m (51 * m / 8) q := by
  unfold midN
  by_cases h : q < 51 * m / 8
  · rw [if_pos h, valN_succ, byte_below _ _ _ _ (by omega)]
  · rw [if_neg h]
theorem midN_done (X : Nat → Nat) (hX : ∀ i, i < 5 → X i < 2251799813685248) (m k q : Nat) (hm : m < 5) (hq : q < 32) (hk : 51 * m / 8 + 8 ≤ k ∨ 32 ≤ k) : midN X m k q = byteN (valN X (m + 1)) q := by
  unfold midN
  by_cases h : q < k
  · rw [if_pos h]
  · rw [if_neg h, byte_above, byte_above]
    · exact Nat.lt_of_lt_of_le (valN_lt X 5 hX (m + 1) (by omega)) (Nat.pow_le_pow_right (by omega) (by omega))
    · exact Nat.lt_of_lt_of_le (valN_lt X 5 hX m (by omega)) (Nat.pow_le_pow_right (by omega) (by omega))
theorem bits_or_u8_nat (a b : Nat) (ha : a < 256) (hb : b < 256) : bits .or .u8 (a : Int) (b : Int) = ((a ||| b : Nat) : Int) := by
  have hx : a ||| b < 2 ^ 8 := Nat.or_lt_two_pow (by omega) (by omega)
  have h1 : (BitVec.ofInt 8 (a : Int)).toNat = a := by
    rw [BitVec.ofInt_natCast, BitVec.toNat_ofNat]; exact Nat.mod_eq_of_lt (by omega)
  have h2 : (BitVec.ofInt 8 (b : Int)).toNat = b := by
    rw [BitVec.ofInt_natCast, BitVec.toNat_ofNat]; exact Nat.mod_eq_of_lt (by omega)
  show IntKind.u8.wrap ((BitVec.ofInt 8 (a : Int) ||| BitVec.ofInt 8 (b : Int)).toNat : Int) = _
  rw [BitVec.toNat_or, h1, h2, IntKind.wrap_u8]
  omega
theorem byteN_lt (v k : Nat) : byteN v k < 256 := Nat.mod_lt _ (by omega)
theorem mid_low (X : Nat → Nat) (hX : ∀ i, X i < 2251799813685248) (m k : Nat) (hm : m < 5) (h : 8 * k < 51 * m) (h2 : 51 * m / 8 ≤ k) :
    bits .or .u8 ((midN X m k k : Nat) : Int) (IntKind.u64.wrap (((X m : Nat) : Int) * 2 ^ (-(8 * (k : Int) - 51 * (m : Int))).toNat) % 256) = ((byteN (valN X (m + 1)) k : Nat) : Int) := by
  have e1 : midN X m k k = byteN (valN X m) k := by unfold midN; rw [if_neg (by omega)]
  have e2 : (-(8 * (k : Int) - 51 * (m : Int))).toNat = 51 * m - 8 * k := by omega
  have e3 : IntKind.u64.wrap (((X m : Nat) : Int) * 2 ^ (51 * m - 8 * k)) % 256 = ((X m * 2 ^ (51 * m - 8 * k) % 256 : Nat) : Int) := by
    rw [show ((X m : Nat) : Int) * 2 ^ (51 * m - 8 * k) = ((X m * 2 ^ (51 * m - 8 * k) : Nat) : Int) from by rw [Int.natCast_mul, Int.natCast_pow]; rfl]
    generalize X m * 2 ^ (51 * m - 8 * k) = y
    rw [IntKind.wrap_u64]
    omega
  rw [e1, e2, e3, bits_or_u8_nat _ _ (byteN_lt _ _) (Nat.mod_lt _ (by omega)), byte_low _ _ _ _ (valN_lt X 5 (fun i _ => hX i) m (by omega)) h (by omega), valN_succ]
theorem mid_high (X : Nat → Nat) (hX : ∀ i, X i < 2251799813685248) (m k : Nat) (hm : m < 5) (h : 51 * m ≤ 8 * k) :
    bits .or .u8 ((midN X m k k : Nat) : Int) (((X m : Nat) : Int) / 2 ^ (8 * k - 51 * m) % 256) = ((byteN (valN X (m + 1)) k : Nat) : Int) := by
  have e1 : midN X m k k = byteN (valN X m) k := by unfold midN; rw [if_neg (by omega)]
  obtain ⟨b1, b2⟩ := byte_high (valN X m) (X m) m k (valN_lt X 5 (fun i _ => hX i) m (by omega)) h
  have e3 : (((X m : Nat) : Int) / 2 ^ (8 * k - 51 * m) % 256) = ((X m / 2 ^ (8 * k - 51 * m) % 256 : Nat) : Int) := by
    rw [Int.natCast_emod, Int.natCast_ediv, Int.natCast_pow]; rfl
  rw [e1, b1, e3, bits_or_u8_nat _ _ (by omega) (Nat.mod_lt _ (by omega)), Nat.zero_or, b2, valN_succ]
theorem mid_step (X : Nat → Nat) (m k q : Nat) (v : Int) (hv : v = ((byteN (valN X (m + 1)) k : Nat) : Int)) : upd (fun q => ((midN X m k q : Nat) : Int)) k v q = ((midN X m (k + 1) q : Nat) : Int) := by
  unfold upd midN
  by_cases h : q = k
  · rw [if_pos h, hv, h, if_pos (by omega)]
  · rw [if_neg h]
    dsimp only
    by_cases h2 : q < k
    · rw [if_pos h2, if_pos (by omega)]
    · rw [if_neg h2, if_neg (by omega)]
attribute [local irreducible] leastN valN byteN
set_option maxRecDepth 100000 in
set_option maxHeartbeats 1000000 in
theorem bytes_any (F : Nat → Nat) (hF : ∀ i, i < 5 → F i < 9223372036854775808) (w : World) :
    Calls Tryd.prog 45 #[.agg (arr .u64 5 fun i => ((F i : Nat) : Int))] w fun e w' => e = .returned (.agg (arr .u8 32 fun k => ((byteN (valN (leastN F) 5) k : Nat) : Int))) ∧ Below w.heap.size w w' := by
  go_enter Tryd.func45, Tryd.ntmps45
  obtain ⟨h0, h1, hsz, hb⟩ := alloc2 w (.cells (arr .u64 5 fun i => ((F i : Nat) : Int)) 51) (.cells (arr .u8 32 fun _ => 0) 23)
  go_wp2_with (first | (refine wpList_alloc_arr rfl rfl ZTKey ?_) | (refine wpList_load_arr rfl rfl rfl RTFe h0 ?_) | (go_at_call 62; fail))
  refine (least_any F hF _).mono ?_
  rintro e w1 ⟨rfl, b1⟩
  have hX := leastN_lt F
  generalize hXe : leastN F = X at hX ⊢
  have hXe' := Lib.hid hXe
  have hX' := Lib.hid hX
  clear hXe hF
  have g0 := keep_below b1 (by omega) h0
  have g1 := keep_below b1 (by omega) h1
  have hB := hb.trans (b1.mono (by omega))
  clear h0 h1 b1 hb hsz
  go_upto_region 2 with (refine wpList_store_arr rfl rfl rfl rfl RTFe g0 ?_)
  have q0 := row_self (w := w1) (c' := arr .u64 5 fun i => ((X i : Nat) : Int)) g0
  have q1 := row_keep (w := w1) (c' := arr .u64 5 fun i => ((X i : Nat) : Int)) (g := w.heap.size) g1 (by omega)
  have hBq := row_below hB (g := w.heap.size) (by omega) (arr .u64 5 fun i => ((X i : Nat) : Int))
  clear g0 g1 hB hX
  generalize w1.setRow w.heap.size (arr .u64 5 fun i => ((X i : Nat) : Int)) = w3 at *
  (try simp only [Act.put, List.setIfInBounds_toArray, List.set_cons_zero, List.set_cons_succ])
  go_wp2_with (refine wpList_load_arr rfl rfl rfl RTFe q0 ?_)
  go_loopg [11] 5 (fun n i wr => ∃ m : Nat, m + n = 5 ∧ i = .int .i64 m ∧ wr.heap[w.heap.size + 1]? = some (.cells (arr .u8 32 fun k => ((byteN (valN X m) k : Nat) : Int)) 23 (0, 0)) ∧ Below w.heap.size w wr)
  case atStart => exact ⟨0, rfl, rfl, blk_congr q1 (fun k _ => by rw [byte_above _ _ (by unfold valN; exact Nat.two_pow_pos _)]; rfl), hBq⟩
  case round =>
    clear q0 q1 hBq
    obtain ⟨m, hm, rfl, g1, hB⟩ := hrel
    obtain ⟨go1, rfl⟩ : ∃ x, x = gk := ⟨_, rfl⟩
    have hm' := Lib.hid hm
    clear hm
    by_cases hlt : m < 5
    · have xb := hX'.out m
      have g2 := blk_congr g1 (f' := fun q => ((midN X m (51 * m / 8) q : Nat) : Int)) (fun q _ => by rw [midN_start X m q])
      clear g1
      obtain ⟨K, hK1, hK2, hK3⟩ : ∃ K, K ≤ 51 * m / 8 + 8 ∧ K ≤ 32 ∧ (51 * m / 8 + 8 ≤ K ∨ 32 ≤ K) := ⟨min (51 * m / 8 + 8) 32, by omega, by omega, by omega⟩
      go_upto_region 5 with (refine wpList_index_cell rfl rfl Tryd.underlying51 Tryd.underlying49 rfl SZU64 rfl rfl (by omega) (by omega) (by omega) ?_)
      (try simp only [Act.put, List.setIfInBounds_toArray, List.set_cons_zero, List.set_cons_succ])
      try rw [show decide ((m : Int) < 5) = true from decide_eq_true (by omega)]
      go_wp2
      go_loopg [6] (K - 51 * m / 8) (fun n i wr => ∃ k : Nat, k + n = K ∧ 51 * m / 8 ≤ k ∧ i = .int .i64 k ∧ wr.heap[w.heap.size + 1]? = some (.cells (arr .u8 32 fun q => ((midN X m k q : Nat) : Int)) 23 (0, 0)) ∧ Below w.heap.size w wr)
      case atStart => exact ⟨51 * m / 8, by omega, by omega, by go_num, g2, hB⟩
      case round =>
        clear g2 hB
        obtain ⟨k, hk, hkm, rfl, g2, hB⟩ := hrel
        have hk' := Lib.hid hk
        clear hk
        by_cases hlk : k < K
        · have c0 := cell_arr g2 k (by omega)
          have fz := free_arr g2 k
          by_cases hs : 8 * k < 51 * m
          · go_wp2
            all_goals
              refine wp_region_tail 10 (by kernel_rfl) (by kernel_rfl) ?_
              (simp only [List.take_succ_cons, List.take_zero, List.drop_succ_cons, List.drop_zero])
              repeat (refine wpStill_step (fun K hK => ?_); go_simp; (try (simp only [↓IntWalk.iteOmega]; go_simp)); (try go_bits); refine hK _ ?_; clear hK K)
              refine wpStill_nil ?_
              go_wp2
              go_roundg (gk - 1)
              case measure => have := hk'.out; omega
              case rel =>
                have hk'' := hk'.out
                exact ⟨k + 1, by omega, by omega, by go_num, blk_congr (set_arr g2 _ _) (fun q _ => mid_step X m k q _ (mid_low X hX'.out m k hlt hs hkm)), (hB.setCell (by show w.heap.size ≤ w.heap.size + 1; omega) _).drew⟩
          · go_wp2
            all_goals
              refine wp_region_tail 9 (by kernel_rfl) (by kernel_rfl) ?_
              (simp only [List.take_succ_cons, List.take_zero, List.drop_succ_cons, List.drop_zero])
              repeat (refine wpStill_step (fun K hK => ?_); go_simp; (try (simp only [↓IntWalk.iteOmega]; go_simp)); (try go_bits); refine hK _ ?_; clear hK K)
              refine wpStill_nil ?_
              go_wp2
              go_roundg (gk - 1)
              case measure => have := hk'.out; omega
              case rel =>
                have hk'' := hk'.out
                exact ⟨k + 1, by omega, by omega, by go_num, blk_congr (set_arr g2 _ _) (fun q _ => mid_step X m k q _ (mid_high X hX'.out m k hlt (by omega))), (hB.setCell (by show w.heap.size ≤ w.heap.size + 1; omega) _).drew⟩
        · obtain rfl : k = K := by have := hk'.out; omega
          have g3 := blk_congr g2 (f' := fun q => ((byteN (valN X (m + 1)) q : Nat) : Int)) (fun q hq => by rw [midN_done X (fun i _ => hX'.out i) m k q hlt hq hK3])
          go_wp2
          all_goals
            go_roundg (go1 - 1)
            case measure => have := hm'.out; omega
            case rel =>
              have hm'' := hm'.out
              exact ⟨m + 1, by omega, by go_num, g3, hB⟩
    · obtain rfl : m = 5 := by have := hm'.out; omega
      go_wp2_with (first | (refine wpList_load_arr rfl rfl rfl RTKey g1 ?_) | (refine wpList_store_arr rfl rfl rfl rfl RTKey g1 ?_))
      exact bodyPost_ret (results_arr rfl rfl RTKey (row_self g1)) rfl ⟨by rw [hXe'.out], row_below hB (by omega) _⟩
end Go.Proofs.YtfolbgiekbimpaaDoor
namespace Go.Proofs.YtfolbgiekbimpaaDoor
set_option linter.unusedSimpArgs false
set_option linter.unusedVariables false
open Go.RowKit

/-- What the first k bytes stand for. -/
def kvN (b : Nat → Nat) : Nat → Nat
  | 0 => 0
  | k + 1 => kvN b k + b k * 2 ^ (8 * k)
theorem kvN_succ (b : Nat → Nat) (k : Nat) : kvN b (k + 1) = kvN b k + b k * 2 ^ (8 * k) := rfl
theorem kvN_lt (b : Nat → Nat) (n : Nat) (hb : ∀ i, i < n → b i < 256) : ∀ k, k ≤ n → kvN b k < 2 ^ (8 * k)
  | 0, _ => by unfold kvN; decide
  | k + 1, h => by
    have h1 := kvN_lt b n hb k (by omega)
    have h2 : b k + 1 ≤ 256 := hb k (by omega)
    have h3 := Nat.mul_le_mul_right (2 ^ (8 * k)) h2
    rw [kvN_succ, show 8 * (k + 1) = 8 + 8 * k from by omega, Nat.pow_add]
    rw [Nat.add_mul] at h3
    have : (2 : Nat) ^ 8 = 256 := by decide
    rw [this]
    omega
theorem kv_zero (b : Nat → Nat) (i k : Nat) (hk : kvN b k < 2 ^ (8 * k)) (h : 8 * k ≤ 51 * i) : kvN b k / 2 ^ (51 * i) = 0 :=
  Nat.div_eq_of_lt (Nat.lt_of_lt_of_le hk (Nat.pow_le_pow_right (by omega) h))
theorem of_low (b : Nat → Nat) (i k : Nat) (hk : kvN b k < 2 ^ (8 * k)) (h : 8 * k < 51 * i) : b k / 2 ^ (51 * i - 8 * k) = kvN b (k + 1) / 2 ^ (51 * i) := by
  obtain ⟨t, ht⟩ : ∃ t, 51 * i = 8 * k + t := ⟨51 * i - 8 * k, by omega⟩
  rw [show 51 * i - 8 * k = t from by omega, ht, Nat.pow_add, ← Nat.div_div_eq_div_mul, kvN_succ, Nat.mul_comm (b k), Nat.add_mul_div_left _ _ (Nat.two_pow_pos _), Nat.div_eq_of_lt hk, Nat.zero_add]
theorem of_high (b : Nat → Nat) (i k : Nat) (hk : kvN b k < 2 ^ (8 * k)) (h : 51 * i ≤ 8 * k) : (kvN b k / 2 ^ (51 * i)) ||| (b k * 2 ^ (8 * k - 51 * i)) = kvN b (k + 1) / 2 ^ (51 * i) := by
  obtain ⟨t, ht⟩ : ∃ t, 8 * k = 51 * i + t := ⟨8 * k - 51 * i, by omega⟩
  have ha : kvN b k / 2 ^ (51 * i) < 2 ^ t := by
    rw [Nat.div_lt_iff_lt_mul (Nat.two_pow_pos _), ← Nat.pow_add, show t + 51 * i = 8 * k from by omega]; exact hk
  rw [show 8 * k - 51 * i = t from by omega, or_low _ _ _ ha, kvN_succ, ht, Nat.pow_add, show b k * (2 ^ (51 * i) * 2 ^ t) = 2 ^ (51 * i) * (b k * 2 ^ t) from by rw [Nat.mul_left_comm], Nat.add_mul_div_left _ _ (Nat.two_pow_pos _)]
theorem of_done (b : Nat → Nat) (i k : Nat) (h : 51 * i + 51 ≤ 8 * k) : ∀ d, kvN b (k + d) / 2 ^ (51 * i) % 2251799813685248 = kvN b k / 2 ^ (51 * i) % 2251799813685248
  | 0 => rfl
  | d + 1 => by
    rw [show k + (d + 1) = k + d + 1 from by omega, kvN_succ, ← of_done b i k h d]
    obtain ⟨t, ht⟩ : ∃ t, 8 * (k + d) = 51 * i + (51 + t) := ⟨8 * (k + d) - 51 * i - 51, by omega⟩
    rw [ht, Nat.pow_add, show b (k + d) * (2 ^ (51 * i) * 2 ^ (51 + t)) = 2 ^ (51 * i) * (b (k + d) * 2 ^ (51 + t)) from by rw [Nat.mul_left_comm], Nat.add_mul_div_left _ _ (Nat.two_pow_pos _)]
    rw [Nat.pow_add, show b (k + d) * (2 ^ 51 * 2 ^ t) = 2251799813685248 * (b (k + d) * 2 ^ t) from by rw [show (2 : Nat) ^ 51 = 2251799813685248 from by decide, Nat.mul_left_comm], Nat.add_mul_mod_self_left]
def ofN (b : Nat → Nat) (i : Nat) : Nat := kvN b 32 / 2 ^ (51 * i) % 2251799813685248
def midO (b : Nat → Nat) (m k q : Nat) : Nat := if q = m then kvN b k / 2 ^ (51 * m) else if q < m then ofN b q else 0
theorem and_mask1 (a : Nat) (h : a < 18446744073709551616) : bits .and .u64 (a : Int) 2251799813685247 = ((a % 2251799813685248 : Nat) : Int) := and_mask a 0 (by omega)
theorem kv_small (b : Nat → Nat) (i k : Nat) (hk : kvN b k < 2 ^ (8 * k)) (h : 8 * k ≤ 51 * i + 64) : kvN b k / 2 ^ (51 * i) < 18446744073709551616 := by
  rw [Nat.div_lt_iff_lt_mul (Nat.two_pow_pos _)]
  refine Nat.lt_of_lt_of_le hk ?_
  rw [show (18446744073709551616 : Nat) = 2 ^ 64 from by decide, ← Nat.pow_add]
  exact Nat.pow_le_pow_right (by omega) (by omega)
theorem midO_low (b : Nat → Nat) (hb : ∀ i, i < 32 → b i < 256) (m k : Nat) (hk : k < 32) (h : 8 * k < 51 * m) :
    bits .or .u64 ((midO b m k m : Nat) : Int) (((b k : Nat) : Int) / 2 ^ (-(8 * (k : Int) - 51 * (m : Int))).toNat) = ((kvN b (k + 1) / 2 ^ (51 * m) : Nat) : Int) := by
  have hl := kvN_lt b 32 hb k (by omega)
  have e1 : midO b m k m = 0 := by unfold midO; rw [if_pos rfl, kv_zero b m k hl (by omega)]
  have e2 : (-(8 * (k : Int) - 51 * (m : Int))).toNat = 51 * m - 8 * k := by omega
  have e3 : ((b k : Nat) : Int) / 2 ^ (51 * m - 8 * k) = ((b k / 2 ^ (51 * m - 8 * k) : Nat) : Int) := by rw [Int.natCast_ediv, Int.natCast_pow]; rfl
  have hb' := hb k hk
  have hd : b k / 2 ^ (51 * m - 8 * k) ≤ b k := Nat.div_le_self _ _
  rw [e1, e2, e3, bits_or_u64_nat _ _ (by omega) (by omega), Nat.zero_or, of_low b m k hl h]
theorem midO_high (b : Nat → Nat) (hb : ∀ i, i < 32 → b i < 256) (m k : Nat) (hk : k < 32) (h : 51 * m ≤ 8 * k) (h2 : 8 * k ≤ 51 * m + 56) :
    bits .or .u64 ((midO b m k m : Nat) : Int) (IntKind.u64.wrap (((b k : Nat) : Int) * 2 ^ (8 * k - 51 * m))) = ((kvN b (k + 1) / 2 ^ (51 * m) : Nat) : Int) := by
  have hl := kvN_lt b 32 hb k (by omega)
  have e1 : midO b m k m = kvN b k / 2 ^ (51 * m) := by unfold midO; rw [if_pos rfl]
  have hb' := hb k hk
  have hp : b k * 2 ^ (8 * k - 51 * m) < 18446744073709551616 := by
    have h3 : 2 ^ (8 * k - 51 * m) ≤ 2 ^ 56 := Nat.pow_le_pow_right (by omega) (by omega)
    have h4 : b k * 2 ^ (8 * k - 51 * m) ≤ 255 * 2 ^ 56 := Nat.mul_le_mul (by omega) h3
    omega
  have e3 : IntKind.u64.wrap (((b k : Nat) : Int) * 2 ^ (8 * k - 51 * m)) = ((b k * 2 ^ (8 * k - 51 * m) : Nat) : Int) := by
    rw [show ((b k : Nat) : Int) * 2 ^ (8 * k - 51 * m) = ((b k * 2 ^ (8 * k - 51 * m) : Nat) : Int) from by rw [Int.natCast_mul, Int.natCast_pow]; rfl, IntKind.wrap_u64]
    omega
  rw [e1, e3, bits_or_u64_nat _ _ (kv_small b m k hl (by omega)) hp, of_high b m k hl h]
theorem midO_step (b : Nat → Nat) (m k q : Nat) (v : Int) (hv : v = ((kvN b (k + 1) / 2 ^ (51 * m) : Nat) : Int)) : upd (fun q => ((midO b m k q : Nat) : Int)) m v q = ((midO b m (k + 1) q : Nat) : Int) := by
  unfold upd midO
  by_cases h : q = m
  · rw [if_pos h, hv, if_pos h]
  · rw [if_neg h, if_neg h]; dsimp only; rw [if_neg h]
theorem midO_start (b : Nat → Nat) (hb : ∀ i, i < 32 → b i < 256) (m q : Nat) (hm : m < 5) : (if q < m then ofN b q else 0) = midO b m (51 * m / 8) q := by
  unfold midO
  by_cases h : q = m
  · rw [if_pos h, if_neg (by omega), kv_zero b m _ (kvN_lt b 32 hb _ (by omega)) (by omega)]
  · rw [if_neg h]
theorem midO_done (b : Nat → Nat) (m k : Nat) (hm : m < 5) (hk : 51 * m / 8 + 8 ≤ k ∨ 32 ≤ k) (hk2 : k ≤ 32) : kvN b k / 2 ^ (51 * m) % 2251799813685248 = ofN b m := by
  unfold ofN
  have := of_done b m k (by omega) (32 - k)
  rw [show k + (32 - k) = 32 from by omega] at this
  exact this.symm
theorem midO_end (b : Nat → Nat) (_hb : ∀ i, i < 32 → b i < 256) (m k q : Nat) (hm : m < 5) (hk : 51 * m / 8 + 8 ≤ k ∨ 32 ≤ k) (hk2 : k ≤ 32) (sm : kvN b k / 2 ^ (51 * m) < 18446744073709551616) :
    upd (fun q => ((midO b m k q : Nat) : Int)) m (bits .and .u64 (((kvN b k : Nat) : Int) / 2 ^ (51 * m)) 2251799813685247) q = ((if q < m + 1 then ofN b q else 0 : Nat) : Int) := by
  have e3 : ((kvN b k : Nat) : Int) / 2 ^ (51 * m) = ((kvN b k / 2 ^ (51 * m) : Nat) : Int) := by rw [Int.natCast_ediv, Int.natCast_pow]; rfl
  rw [e3, and_mask1 _ sm, midO_done b m k hm hk hk2]
  unfold upd midO
  by_cases h : q = m
  · rw [if_pos h, h, if_pos (by omega)]
  · rw [if_neg h]; dsimp only; rw [if_neg h]
    by_cases h2 : q < m
    · rw [if_pos h2, if_pos (by omega)]
    · rw [if_neg h2, if_neg (by omega)]
attribute [local irreducible] kvN ofN
set_option maxRecDepth 100000 in
set_option maxHeartbeats 1000000 in
theorem Of_any (b : Nat → Nat) (hb : ∀ i, i < 32 → b i < 256) (w : World) :
    Calls Tryd.prog 22 #[.agg (arr .u8 32 fun i => ((b i : Nat) : Int))] w fun e w' => e = .returned (.agg (arr .u64 5 fun i => ((ofN b i : Nat) : Int))) ∧ Below w.heap.size w w' := by
  go_enter Tryd.func22, Tryd.ntmps22
  obtain ⟨h0, h1, hsz, hbl⟩ := alloc2 w (.cells (arr .u8 32 fun i => ((b i : Nat) : Int)) 23) (.cells (arr .u64 5 fun _ => 0) 51)
  have hb' := Lib.hid hb
  clear hb
  go_wp2_with (refine wpList_alloc_arr rfl rfl ZTFe ?_)
  go_loopg [8] 5 (fun n i wr => ∃ m : Nat, m + n = 5 ∧ i = .int .i64 m ∧ wr.heap[w.heap.size]? = some (.cells (arr .u8 32 fun i => ((b i : Nat) : Int)) 23 (0, 0)) ∧ wr.heap[w.heap.size + 1]? = some (.cells (arr .u64 5 fun q => ((if q < m then ofN b q else 0 : Nat) : Int)) 51 (0, 0)) ∧ Below w.heap.size w wr)
  case atStart => exact ⟨0, rfl, rfl, h0, blk_congr h1 (fun k _ => by rw [if_neg (Nat.not_lt_zero k)]; rfl), hbl⟩
  case round =>
    clear h0 h1 hbl hsz
    obtain ⟨m, hm, rfl, g0, g1, hB⟩ := hrel
    obtain ⟨go1, rfl⟩ : ∃ x, x = gk := ⟨_, rfl⟩
    have hm' := Lib.hid hm
    clear hm
    by_cases hlt : m < 5
    · have g2 := blk_congr g1 (f' := fun q => ((midO b m (51 * m / 8) q : Nat) : Int)) (fun q _ => by rw [← midO_start b hb'.out m q hlt])
      clear g1
      obtain ⟨K, hK1, hK2, hK3⟩ : ∃ K, K ≤ 51 * m / 8 + 8 ∧ K ≤ 32 ∧ (51 * m / 8 + 8 ≤ K ∨ 32 ≤ K) := ⟨min (51 * m / 8 + 8) 32, by omega, by omega, by omega⟩
      go_upto_region 4 with (fail)
      (try simp only [Act.put, List.setIfInBounds_toArray, List.set_cons_zero, List.set_cons_succ])
      try rw [show decide ((m : Int) < 5) = true from decide_eq_true (by omega)]
      go_wp2
      go_loopg [5] (K - 51 * m / 8) (fun n i wr => ∃ k : Nat, k + n = K ∧ 51 * m / 8 ≤ k ∧ i = .int .i64 k ∧ wr.heap[w.heap.size]? = some (.cells (arr .u8 32 fun i => ((b i : Nat) : Int)) 23 (0, 0)) ∧ wr.heap[w.heap.size + 1]? = some (.cells (arr .u64 5 fun q => ((midO b m k q : Nat) : Int)) 51 (0, 0)) ∧ Below w.heap.size w wr)
      case atStart => exact ⟨51 * m / 8, by omega, by omega, by go_num, g0, g2, hB⟩
      case round =>
        clear g0 g2 hB
        obtain ⟨k, hk, hkm, rfl, g0, g2, hB⟩ := hrel
        have hk' := Lib.hid hk
        clear hk
        by_cases hlk : k < K
        · have c0 := cell_arr g2 m (by omega)
          have c1 := cell_arr g0 k (by omega)
          have bk := hb'.out k (by omega)
          have fz := free_arr g2 m
          by_cases hs : 8 * k < 51 * m
          · go_wp2
            all_goals
              refine wp_region_tail 9 (by kernel_rfl) (by kernel_rfl) ?_
              (simp only [List.take_succ_cons, List.take_zero, List.drop_succ_cons, List.drop_zero])
              repeat (refine wpStill_step (fun K hK => ?_); go_simp; (try (simp only [↓IntWalk.iteOmega]; go_simp)); (try go_bits); refine hK _ ?_; clear hK K)
              refine wpStill_nil ?_
              go_wp2
              go_roundg (gk - 1)
              case measure => have := hk'.out; omega
              case rel =>
                have hk'' := hk'.out
                exact ⟨k + 1, by omega, by omega, by go_num, keep_arr g0 _ _ (by omega), blk_congr (set_arr g2 _ _) (fun q _ => midO_step b m k q _ (midO_low b hb'.out m k (by omega) hs)), (hB.setCell (by show w.heap.size ≤ w.heap.size + 1; omega) _).drew⟩
          · go_wp2
            all_goals
              refine wp_region_tail 8 (by kernel_rfl) (by kernel_rfl) ?_
              (simp only [List.take_succ_cons, List.take_zero, List.drop_succ_cons, List.drop_zero])
              repeat (refine wpStill_step (fun K hK => ?_); go_simp; (try (simp only [↓IntWalk.iteOmega]; go_simp)); (try go_bits); refine hK _ ?_; clear hK K)
              refine wpStill_nil ?_
              go_wp2
              go_roundg (gk - 1)
              case measure => have := hk'.out; omega
              case rel =>
                have hk'' := hk'.out
                exact ⟨k + 1, by omega, by omega, by go_num, keep_arr g0 _ _ (by omega), blk_congr (set_arr g2 _ _) (fun q _ => midO_step b m k q _ (midO_high b hb'.out m k (by omega) (by omega) (by omega))), (hB.setCell (by show w.heap.size ≤ w.heap.size + 1; omega) _).drew⟩
        · obtain rfl : k = K := by have := hk'.out; omega
          have c0 := cell_arr g2 m (by omega)
          have fz := free_arr g2 m
          have sm := kv_small b m k (kvN_lt b 32 hb'.out k hK2) (by omega)
          have e1 : midO b m k m = kvN b k / 2 ^ (51 * m) := by unfold midO; rw [if_pos rfl]
          rw [e1] at c0
          go_wp2
          all_goals
            go_roundg (go1 - 1)
            case measure => have := hm'.out; omega
            case rel =>
              have hm'' := hm'.out
              refine ⟨m + 1, by omega, by go_num, keep_arr g0 _ _ (by omega), blk_congr (set_arr g2 _ _) (fun q _ => ?_), hB.setCell (by show w.heap.size ≤ w.heap.size + 1; omega) _⟩
              exact midO_end b hb'.out m k q hlt hK3 hK2 sm
    · obtain rfl : m = 5 := by have := hm'.out; omega
      have g2 := blk_congr g1 (f' := fun q => ((ofN b q : Nat) : Int)) (fun q hq => by rw [if_pos hq])
      clear g1
      go_wp2_with (first | (refine wpList_load_arr rfl rfl rfl RTFe g2 ?_) | (refine wpList_store_arr rfl rfl rfl rfl RTFe g2 ?_))
      exact bodyPost_ret (results_arr rfl rfl RTFe (row_self g2)) rfl ⟨rfl, row_below hB (by omega) _⟩
end Go.Proofs.YtfolbgiekbimpaaDoor
namespace Go.Proofs.YtfolbgiekbimpaaDoor
set_option linter.unusedSimpArgs false
set_option linter.unusedVariables false
open Go.RowKit

/-- Operations in an order; at a fork either of two may come up. -/
inductive CPlan where
  | done (p : List (Nat × Bool))
  | fork (p : List (Nat × Bool)) (i : Nat) (pi : CPlan) (j : Nat) (pj : CPlan)

def CPlan.size : CPlan → Nat
  | .done p => p.length
  | .fork p _ pi _ _ => p.length + (pi.size + 1)

def wpTree (P : Program) (l : List Oper) (Q : Exit → Act → World → Prop) (N : Nat) (T : Act → World → Prop) : CPlan → Act → World → Prop
  | .done p => wpCan P l.toArray Q N T (canOps l p)
  | .fork p i pi j pj => wpCan P l.toArray Q N (fun a w => wpCan P l.toArray Q N (wpTree P l Q N T pi) (canOps l [(i, true)]) a w ∧ wpCan P l.toArray Q N (wpTree P l Q N T pj) (canOps l [(j, true)]) a w) (canOps l p)

def segB (md : Region.Mode) (ops : Array Oper) (n : Nat) : List (Nat × Bool) → Array Bool → Bool
  | [], _ => true
  | (i, false) :: p, listed => decide (i < n) && (Region.ready md ops listed).contains i && Region.free md ops listed i && segB md ops n p (listed.setIfInBounds i true)
  | (i, true) :: p, listed => decide (i < n) && decide (Region.ready md ops listed = [i]) && segB md ops n p (listed.setIfInBounds i true)
def aft : List (Nat × Bool) → Array Bool → Array Bool
  | [], listed => listed
  | (i, _) :: p, listed => aft p (listed.setIfInBounds i true)
def treeB (md : Region.Mode) (ops : Array Oper) (n : Nat) : CPlan → Array Bool → Bool
  | .done p, listed => segB md ops n p listed && Region.seqB md ops (ops.size - n) n (aft p listed)
  | .fork p i pi j pj, listed => segB md ops n p listed && decide (Region.ready md ops (aft p listed) = [i, j]) && decide (i < n) && decide (j < n) && decide (pi.size = pj.size) &&
      treeB md ops n pi ((aft p listed).setIfInBounds i true) && treeB md ops n pj ((aft p listed).setIfInBounds j true)

section
variable {P : Program} {md : Region.Mode} {Q : Exit → Act → World → Prop} {N n : Nat} {w0 : World} {l : List Oper}
theorem wpAnyC_seg {T' : Act → World → Prop} {L : Array Bool → Act → World → Prop} (hsel : Region.noSelect l.toArray = true) (hs : Region.sinkB md l.toArray n = true) (hc : Region.chainB md l.toArray n = true) (hn : n < l.length)
    (hdone : ∀ listed a w, L listed a w → ∀ j ∈ Region.ready md l.toArray listed, n ≤ j) (f : Nat) :
    ∀ (p : List (Nat × Bool)) (listed : Array Bool) (a : Act) (w : World), HeadInv md l.toArray n listed → segB md l.toArray n p listed = true → Keep N w0 w → wpCan P l.toArray Q N T' (canOps l p) a w →
      (∀ a' w', HeadInv md l.toArray n (aft p listed) → Keep N w0 w' → T' a' w' → wpAnyC P md l.toArray Q (Keep N w0) n L f (aft p listed) a' w') →
      wpAnyC P md l.toArray Q (Keep N w0) n L (f + p.length) listed a w
  | [], listed, a, w, inv, _, hk, h, hL => hL a w inv hk h
  | (i, false) :: p, listed, a, w, inv, hB, hk, h, hL => by
    simp only [segB, Bool.and_eq_true, decide_eq_true_eq] at hB
    obtain ⟨⟨⟨hin, hr⟩, hf⟩, hB'⟩ := hB
    have hil : i < l.length := by omega
    have ho : l.toArray[i]? = some l[i] := by simp [hil]
    simp only [canOps, List.getElem?_eq_getElem hil] at h
    obtain ⟨v, hv, hQ, hK⟩ := h
    have hr' : i ∈ Region.ready md l.toArray listed := by simpa using hr
    have hy : YieldsIf P l.toArray (Keep N w0) l[i] v a := by
      rcases hv with ⟨hw, hrun, hfr⟩ | ⟨hw, hv⟩
      · exact .inl ⟨hw, fun w' hw' => hfr v hrun w' (hk.symm.trans hw')⟩
      · exact .inr ⟨hw, hv⟩
    exact wpAnyC_first ho (Region.noSelect_spec hsel) hQ hs hc (by simpa using hn) hin hdone (f + p.length) listed a w inv (Region.free_spec ho hf) hr' hy hk
      (wpAnyC_seg hsel hs hc hn hdone f p _ _ _ (inv.set hr' hin) hB' hk hK hL)
  | (i, true) :: p, listed, a, w, inv, hB, hk, h, hL => by
    simp only [segB, Bool.and_eq_true, decide_eq_true_eq] at hB
    obtain ⟨⟨hin, hr⟩, hB'⟩ := hB
    have hil : i < l.length := by omega
    have ho : l.toArray[i]? = some l[i] := by simp [hil]
    simp only [canOps, List.getElem?_eq_getElem hil] at h
    have hw : if Region.wanted l[i] (yielded l.toArray a.tmps) then l[i].wp P a w (fun a' w' => Keep N w w' ∧ wpCan P l.toArray Q N T' (canOps l p) a' w') Q else wpCan P l.toArray Q N T' (canOps l p) (a.put l[i].dst undef) w := h
    have hr' : i ∈ Region.ready md l.toArray listed := by rw [hr]; simp
    refine ⟨fun h0 => (by rw [h0] at hr; cases hr), fun j hj => ?_⟩
    rw [hr] at hj
    obtain rfl : j = i := by simpa using hj
    refine ⟨hin, ?_⟩
    unfold wpOp
    simp only [ho]
    split
    · rename_i hwt
      rw [if_pos hwt] at hw
      exact .inl (Oper.wp_mono (fun a' w' h' => ⟨hk.trans h'.1, wpAnyC_seg hsel hs hc hn hdone f p _ _ _ (inv.set hr' hin) hB' (hk.trans h'.1) h'.2 hL⟩) hw)
    · rename_i hwt
      rw [if_neg hwt] at hw
      exact ⟨hk, wpAnyC_seg hsel hs hc hn hdone f p _ _ _ (inv.set hr' hin) hB' hk hw hL⟩
theorem wpAnyC_tree {T : Act → World → Prop} (hsel : Region.noSelect l.toArray = true) (hs : Region.sinkB md l.toArray n = true) (hc : Region.chainB md l.toArray n = true) (hn : n < l.length) :
    ∀ (p : CPlan) (listed : Array Bool) (a : Act) (w : World), HeadInv md l.toArray n listed → treeB md l.toArray n p listed = true → Keep N w0 w → wpTree P l Q N T p a w →
      wpAnyC P md l.toArray Q (Keep N w0) n (fun listed' a' w' => Region.seqB md l.toArray (l.toArray.size - n) n listed' = true ∧ T a' w') p.size listed a w
  | .done p, listed, a, w, inv, hB, hk, h => by
    simp only [treeB, Bool.and_eq_true] at hB
    have := wpAnyC_seg hsel hs hc hn (L := fun listed' a' w' => Region.seqB md l.toArray (l.toArray.size - n) n listed' = true ∧ T a' w') (fun listed' a' w' hL => seqB_ready hL.1) 0 p listed a w inv hB.1 hk h (fun a' w' _ _ hT => ⟨hB.2, hT⟩)
    rwa [Nat.zero_add] at this
  | .fork p i pi j pj, listed, a, w, inv, hB, hk, h => by
    simp only [treeB, Bool.and_eq_true, decide_eq_true_eq] at hB
    obtain ⟨⟨⟨⟨⟨⟨h1, h2⟩, h3⟩, h4⟩, h5⟩, h6⟩, h7⟩ := hB
    unfold CPlan.size
    rw [Nat.add_comm]
    refine wpAnyC_seg hsel hs hc hn (fun listed' a' w' hL => seqB_ready hL.1) (pi.size + 1) p listed a w inv h1 hk h (fun a' w' inv' hk' hT => ?_)
    have step : ∀ (x : Nat) (px : CPlan), x < n → x ∈ Region.ready md l.toArray (aft p listed) → px.size = pi.size →
        (∀ a w, HeadInv md l.toArray n ((aft p listed).setIfInBounds x true) → Keep N w0 w → wpTree P l Q N T px a w → wpAnyC P md l.toArray Q (Keep N w0) n (fun listed' a' w' => Region.seqB md l.toArray (l.toArray.size - n) n listed' = true ∧ T a' w') px.size ((aft p listed).setIfInBounds x true) a w) →
        wpCan P l.toArray Q N (wpTree P l Q N T px) (canOps l [(x, true)]) a' w' →
        wpOp P l.toArray Q x (fun a'' w'' => Keep N w0 w'' ∧ wpAnyC P md l.toArray Q (Keep N w0) n (fun listed' a' w' => Region.seqB md l.toArray (l.toArray.size - n) n listed' = true ∧ T a' w') pi.size ((aft p listed).setIfInBounds x true) a'' w'') a' w' := by
      intro x px hx hr hsz ih hw
      have hil : x < l.length := by omega
      have ho : l.toArray[x]? = some l[x] := by simp [hil]
      simp only [canOps, List.getElem?_eq_getElem hil] at hw
      have hw' : if Region.wanted l[x] (yielded l.toArray a'.tmps) then l[x].wp P a' w' (fun a'' w'' => Keep N w' w'' ∧ wpTree P l Q N T px a'' w'') Q else wpTree P l Q N T px (a'.put l[x].dst undef) w' := hw
      rw [← hsz]
      unfold wpOp
      simp only [ho]
      split
      · rename_i hwt
        rw [if_pos hwt] at hw'
        exact .inl (Oper.wp_mono (fun a'' w'' h' => ⟨hk'.trans h'.1, ih _ _ (inv'.set hr hx) (hk'.trans h'.1) h'.2⟩) hw')
      · rename_i hwt
        rw [if_neg hwt] at hw'
        exact ⟨hk', ih _ _ (inv'.set hr hx) hk' hw'⟩
    have hri : i ∈ Region.ready md l.toArray (aft p listed) := by rw [h2]; simp
    have hrj : j ∈ Region.ready md l.toArray (aft p listed) := by rw [h2]; simp
    refine ⟨fun h0 => (by rw [h0] at h2; cases h2), fun x hx => ?_⟩
    rw [h2] at hx
    simp only [List.mem_cons, List.not_mem_nil, or_false] at hx
    rcases hx with rfl | rfl
    · exact ⟨h3, step x pi h3 hri rfl (fun a w iv k t => wpAnyC_tree hsel hs hc hn pi _ a w iv h6 k t) hT.1⟩
    · exact ⟨h4, step x pj h4 hrj h5.symm (fun a w iv k t => wpAnyC_tree hsel hs hc hn pj _ a w iv h7 k t) hT.2⟩

def forkB (md : Region.Mode) (ops : Array Oper) (n : Nat) (p : CPlan) : Bool :=
  Region.noSelect ops && decide (n < ops.size) && decide (p.size = n) && Region.sinkB md ops n && Region.chainB md ops n && treeB md ops n p (Array.replicate ops.size false)
/-- **A region that draws its order, in orders of the prover's: at a fork both ways.** -/
theorem wp_region_fork {id : Nat} {a : Act} {w : World} {l : List Oper} (N n : Nat) (p : CPlan) (hm : P.follows .mixedOrders = true) (hB : forkB .any l.toArray n p = true)
    (h : wpTree P l Q N (fun a' w' => wpList P l.toArray Q (l.drop n) a' w') p a w.drew) : (Code.region id l.toArray true).wp P Q a w := by
  simp only [forkB, Bool.and_eq_true, decide_eq_true_eq] at hB
  obtain ⟨⟨⟨⟨⟨hsel, hn⟩, hp⟩, hs⟩, hc⟩, hcan⟩ := hB
  have inv0 : HeadInv .any l.toArray n (Array.replicate l.toArray.size false) :=
    ⟨by simp, fun j oj _ hl => (by rw [getD_replicate_false] at hl; cases hl), fun t _ ht => getD_in (by simpa using ht) (getD_replicate_false _ _)⟩
  have H := wpAnyC_tree (md := .any) (w0 := w.drew) hsel hs hc (by simpa using hn) p _ a _ inv0 hcan (Keep.refl _ _) h
  refine wp_region_any hm ?_
  have hdl : (l.drop n).length = l.toArray.size - n := by simp
  have := wpAny_of_anyC (g := l.toArray.size - n) (fun listed a' w' hL => by
    have := wpAny_of_seq (md := .any) (Q' := Q) (l.drop n) n listed a' w' (fun j => by simp [List.getElem?_drop]) (by rw [hdl]; exact hL.1) hL.2
    rwa [hdl] at this) _ _ _ _ H
  rw [hp, show n + (l.toArray.size - n) = l.toArray.size by omega] at this
  exact this
end
end Go.Proofs.YtfolbgiekbimpaaDoor
namespace Go.Proofs.YtfolbgiekbimpaaDoor
set_option linter.unusedSimpArgs false
set_option linter.unusedVariables false
open Go.RowKit

/-- A row, and a value, that are handed back. -/
theorem results_arr_tmp {P : Program} {w : World} {fn : Func} {p q : Tmp} {ty : TypeId} {n t g : Nat} {k : IntKind} {f : Nat → Int} {fr : Nat × Nat} {v : Value} (h : fn.results = #[.cell p ty, .tmp q]) {tmps : Array Value} (hp : tmps.getD p undef = .pointer (some ⟨g, 0, none⟩)) (hq : tmps.getD q undef = v)
    (hT : RowT P ty n) (hg : w.heap[g]? = some (.cells (arr k n f) t fr)) : (results fn tmps).run P w = .ok (.tuple #[.agg (arr k n f), v]) w := by
  have hp' : tmps[p]?.getD undef = .pointer (some ⟨g, 0, none⟩) := by simpa using hp
  have hq' : tmps[q]?.getD undef = v := by simpa using hq
  simp [results, h, hp', hq', asAddr, run_loadVar_arr0 hT hg]
theorem built_key : Tryd.prog.built 23 [] = some (arr .u8 32 fun _ => 0) := by kernel_rfl
theorem built_fe : Tryd.prog.built 51 [] = some (arr .u64 5 fun _ => 0) := by kernel_rfl
attribute [local irreducible] leastN valN byteN
/-- What a number's bytes are told to be. -/
def bytesN (F : Nat → Nat) (k : Nat) : Nat := if okF F 5 then byteN (valN (leastN F) 5) k else 0
theorem okF_wide {F : Nat → Nat} (h : okF F 5) (i : Nat) (hi : i < 5) : F i < 9223372036854775808 := by have := h i hi; omega

set_option maxRecDepth 100000 in
set_option maxHeartbeats 1000000 in
theorem FeBytes_any (F : Nat → Nat) (hF : ∀ i, i < 5 → F i < 18446744073709551616) (w : World) :
    Calls Tryd.prog 29 #[.agg (arr .u64 5 fun i => ((F i : Nat) : Int))] w fun e w' => e = .returned (.tuple #[.agg (arr .u8 32 fun k => ((bytesN F k : Nat) : Int)), .int .i64 (if okF F 5 then 0 else 1)]) ∧ Below w.heap.size w w' := by
  go_enter Tryd.func29, Tryd.ntmps29
  obtain ⟨h0, h1, hsz, hb⟩ := alloc2 w (.cells (arr .u64 5 fun i => ((F i : Nat) : Int)) 51) (.cells (arr .u8 32 fun _ => 0) 23)
  go_upto_region 1 with (refine wpList_alloc_arr rfl rfl ZTKey ?_)
  generalize (w.alloc (.cells (arr .u64 5 fun i => ((F i : Nat) : Int)) 51)).alloc (.cells (arr .u8 32 fun _ => 0) 23) = wa at *
  (try simp only [Act.put, List.setIfInBounds_toArray, List.set_cons_zero, List.set_cons_succ])
  obtain ⟨g2, hz2, bl⟩ := alloc1 wa (.cells (arr .u64 5 fun i => ((F i : Nat) : Int)) 51)
  rw [hsz] at g2
  go_wp2_with (first | (refine wpList_load_arr rfl rfl rfl RTFe h0 ?_) | (refine wpList_bslice rfl rfl Tryd.underlying101 (by simp [Act.eval, Act.put]) (built_one fun i => ((F i : Nat) : Int)) ?_) | (go_at_call 44; fail))
  refine (may_any 1 5 rfl (by omega) F hF _ _ _ g2).mono ?_
  rintro e w2 ⟨rfl, b2⟩
  have b3 := bl.trans (b2.mono (by omega))
  have q0 := keep_below b3 (by omega) h0
  have q1 := keep_below b3 (by omega) h1
  have hB := hb.trans (b3.mono (by omega))
  clear b2 b3 bl g2 h0 h1 hb hz2 hsz
  by_cases hq : okF F 5
  · rw [show decide (okF F 5) = true from decide_eq_true hq]
    go_wp2_with (first | (refine wpList_load_arr rfl rfl rfl RTFe q0 ?_) | (go_at_call 45; fail))
    refine (bytes_any F (fun i hi => okF_wide hq i hi) _).mono ?_
    rintro e w4 ⟨rfl, b4⟩
    have e1 := keep_below b4 (lt_of_block q1) q1
    have hBe := hB.trans (b4.mono hB.size)
    go_wp2_with (refine wpList_store_arr rfl rfl rfl rfl RTKey e1 ?_)
    refine bodyPost_ret (results_arr_tmp rfl rfl rfl RTKey (row_self e1)) rfl ⟨?_, row_below hBe (by omega) _⟩
    rw [show (arr .u8 32 fun k => ((bytesN F k : Nat) : Int)) = arr .u8 32 fun k => ((byteN (valN (leastN F) 5) k : Nat) : Int) from arr_ext fun k _ => by unfold bytesN; rw [if_pos hq]]
    first | rfl | (rw [if_pos hq]; rfl)
  · rw [show decide (okF F 5) = false from decide_eq_false hq]
    go_wp2_with (first | (refine wpList_val' rfl (run_op_build rfl (by simp [Act.eval, Act.put]) built_key) ?_) | (refine wpList_store_arr rfl rfl rfl rfl RTKey q1 ?_))
    refine bodyPost_ret (results_arr_tmp rfl rfl rfl RTKey (row_self q1)) rfl ⟨?_, row_below hB (by omega) _⟩
    rw [show (arr .u8 32 fun k => ((bytesN F k : Nat) : Int)) = arr .u8 32 fun _ => 0 from arr_ext fun k _ => by unfold bytesN; rw [if_neg hq]; rfl]
    first | rfl | (rw [if_neg hq]; rfl)

/-- What two numbers' sum is told to be. -/
def addN (F G : Nat → Nat) (i : Nat) : Nat := if okF F 5 ∧ okF G 5 then carN (fun i => F i + G i) i else 0
set_option maxRecDepth 100000 in
set_option maxHeartbeats 1000000 in
theorem Add_any (F G : Nat → Nat) (hF : ∀ i, i < 5 → F i < 18446744073709551616) (hG : ∀ i, i < 5 → G i < 18446744073709551616) (w : World) :
    Calls Tryd.prog 40 #[.agg (arr .u64 5 fun i => ((F i : Nat) : Int)), .agg (arr .u64 5 fun i => ((G i : Nat) : Int))] w fun e w' => e = .returned (.tuple #[.agg (arr .u64 5 fun k => ((addN F G k : Nat) : Int)), .int .i64 (if okF F 5 ∧ okF G 5 then 0 else 1)]) ∧ Below w.heap.size w w' := by
  go_enter Tryd.func40, Tryd.ntmps40
  obtain ⟨h0, h1, h2, hsz, hb⟩ := alloc3 w (.cells (arr .u64 5 fun i => ((F i : Nat) : Int)) 51) (.cells (arr .u64 5 fun i => ((G i : Nat) : Int)) 51) (.cells (arr .u64 5 fun _ => 0) 51)
  go_upto_region 1 with (refine wpList_alloc_arr rfl rfl ZTFe ?_)
  generalize ((w.alloc (.cells (arr .u64 5 fun i => ((F i : Nat) : Int)) 51)).alloc (.cells (arr .u64 5 fun i => ((G i : Nat) : Int)) 51)).alloc (.cells (arr .u64 5 fun _ => 0) 51) = wa at *
  (try simp only [Act.put, List.setIfInBounds_toArray, List.set_cons_zero, List.set_cons_succ])
  obtain ⟨g3, hz2, bl⟩ := alloc1 wa (.cells (arr .u64 10 fun i => ((two5 F G i : Nat) : Int)) 51)
  rw [hsz] at g3
  go_wp2_with (first | (refine wpList_load_arr rfl rfl rfl RTFe h0 ?_) | (refine wpList_load_arr rfl rfl rfl RTFe h1 ?_) | (refine wpList_bslice rfl rfl Tryd.underlying101 (by simp [Act.eval, Act.put]) (built_two F G) ?_) | (go_at_call 44; fail))
  refine (may_any 2 10 rfl (by omega) (two5 F G) (fun i hi => two5_lt F G _ hF hG i hi) _ _ _ g3).mono ?_
  rintro e w2 ⟨rfl, b2⟩
  have b3 := bl.trans (b2.mono (by omega))
  have q0 := keep_below b3 (by omega) h0
  have q1 := keep_below b3 (by omega) h1
  have q2 := keep_below b3 (by omega) h2
  have hB := hb.trans (b3.mono (by omega))
  clear b2 b3 bl g3 h0 h1 h2 hb hz2 hsz
  by_cases hq : okF F 5 ∧ okF G 5
  · rw [show decide (okF (two5 F G) 10) = true from decide_eq_true ((two5_ok F G).2 hq)]
    have hq' := Lib.hid hq
    go_wp2
    go_loopg [13] 5 (fun n i wr => ∃ m : Nat, m + n = 5 ∧ i = .int .i64 m ∧ wr.heap[w.heap.size]? = some (.cells (arr .u64 5 fun i => ((if i < m then F i + G i else F i : Nat) : Int)) 51 (0, 0)) ∧
      wr.heap[w.heap.size + 1]? = some (.cells (arr .u64 5 fun i => ((G i : Nat) : Int)) 51 (0, 0)) ∧ wr.heap[w.heap.size + 1 + 1]? = some (.cells (arr .u64 5 fun _ => 0) 51 (0, 0)) ∧ Below w.heap.size w wr)
    case atStart => exact ⟨0, rfl, rfl, blk_congr q0 (fun i _ => by rw [if_neg (Nat.not_lt_zero i)]), q1, q2, hB⟩
    case round =>
      clear q0 q1 q2 hB
      obtain ⟨m, hm, rfl, q0, q1, q2, hB⟩ := hrel
      have hm' := Lib.hid hm
      clear hm
      by_cases hlt : m < 5
      · have f1 := hq'.out.1 m hlt
        have f2 := hq'.out.2 m hlt
        have c0 := cell_arr q0 m hlt
        have c1 := cell_arr q1 m hlt
        have fz := free_arr q0 m
        simp only [Nat.lt_irrefl, if_false] at c0
        go_wp2
        refine wp_region_tail 8 (by kernel_rfl) (by kernel_rfl) ?_
        (simp only [List.take_succ_cons, List.take_zero, List.drop_succ_cons, List.drop_zero])
        repeat (refine wpStill_step (fun K hK => ?_); go_simp; (try (simp only [↓IntWalk.iteOmega]; go_simp)); (try go_bits); refine hK _ ?_; clear hK K)
        refine wpStill_nil ?_
        go_wp2
        go_roundg (gk - 1)
        case measure => have := hm'.out; omega
        case rel =>
          have hm'' := hm'.out
          refine ⟨m + 1, by omega, by go_num, blk_congr (set_arr q0 m _) (fun i _ => ?_), keep_arr q1 _ _ (by omega), keep_arr q2 _ _ (by omega), (hB.setCell (Nat.le_refl _) _).drew⟩
          unfold upd
          by_cases h : i = m
          · rw [if_pos h, h, if_pos (by omega)]; rfl
          · rw [if_neg h]
            dsimp only
            by_cases h2 : i < m
            · rw [if_pos h2, if_pos (by omega)]
            · rw [if_neg h2, if_neg (by omega)]
      · obtain rfl : m = 5 := by have := hm'.out; omega
        have p0 := blk_congr (f' := fun i => ((F i + G i : Nat) : Int)) q0 (fun i hi => by rw [if_pos hi])
        clear q0
        go_wp2_with (first | (refine wpList_load_arr rfl rfl rfl RTFe p0 ?_) | (go_at_call 58; fail))
        refine (carry_any (fun i => F i + G i) (fun i hi => by have := hq'.out.1 i hi; have := hq'.out.2 i hi; show F i + G i < _; omega) _).mono ?_
        rintro e w4 ⟨rfl, b4⟩
        have e2 := keep_below b4 (lt_of_block q2) q2
        have hBe := hB.trans (b4.mono hB.size)
        go_wp2_with (refine wpList_store_arr rfl rfl rfl rfl RTFe e2 ?_)
        refine bodyPost_ret (results_arr_tmp rfl rfl rfl RTFe (row_self e2)) rfl ⟨?_, row_below hBe (by omega) _⟩
        rw [show (arr .u64 5 fun k => ((addN F G k : Nat) : Int)) = arr .u64 5 fun k => ((carN (fun i => F i + G i) k : Nat) : Int) from arr_ext fun k _ => by unfold addN; rw [if_pos hq'.out]]
        first | rfl | (rw [if_pos hq'.out]; rfl)
  · rw [show decide (okF (two5 F G) 10) = false from decide_eq_false fun h => hq ((two5_ok F G).1 h)]
    go_wp2_with (first | (refine wpList_val' rfl (run_op_build rfl (by simp [Act.eval, Act.put]) built_fe) ?_) | (refine wpList_store_arr rfl rfl rfl rfl RTFe q2 ?_))
    refine bodyPost_ret (results_arr_tmp rfl rfl rfl RTFe (row_self q2)) rfl ⟨?_, row_below hB (by omega) _⟩
    rw [show (arr .u64 5 fun k => ((addN F G k : Nat) : Int)) = arr .u64 5 fun _ => 0 from arr_ext fun k _ => by unfold addN; rw [if_neg hq]; rfl]
    first | rfl | (rw [if_neg hq]; rfl)
end Go.Proofs.YtfolbgiekbimpaaDoor
namespace Go.Proofs.YtfolbgiekbimpaaDoor
set_option linter.unusedSimpArgs false
set_option linter.unusedVariables false
open Go.RowKit

namespace M64
theorem maskN (a : Nat) (ha : a < 18446744073709551616) : bits .and .u64 (a : Int) 4294967295 = ((a % 4294967296 : Nat) : Int) := by
  have h := bits_and_u64_nat a 4294967295 ha (by omega)
  have e : a &&& 4294967295 = a % 4294967296 := Nat.and_two_pow_sub_one_eq_mod a 32
  rw [e] at h
  exact h
theorem divN (a : Nat) : (a : Int) / 4294967296 = ((a / 4294967296 : Nat) : Int) := by omega
theorem mulN (a b : Nat) : (a : Int) * (b : Int) = ((a * b : Nat) : Int) := (Int.natCast_mul a b).symm
theorem addN (a b : Nat) : (a : Int) + (b : Int) = ((a + b : Nat) : Int) := (Int.natCast_add a b).symm
theorem wrapN (a : Nat) (ha : a < 18446744073709551616) : IntKind.u64.wrap (a : Int) = (a : Int) := by rw [IntKind.wrap_u64]; omega
theorem wrapM (a : Nat) : IntKind.u64.wrap (a : Int) = ((a % 18446744073709551616 : Nat) : Int) := by rw [IntKind.wrap_u64]; omega
end M64

set_option maxHeartbeats 1000000 in
theorem Mul64_any (x y : Nat) (hx : x < 18446744073709551616) (hy : y < 18446744073709551616) (w : World) :
    Calls Tryd.prog 64 #[.int .u64 x, .int .u64 y] w fun e w' => e = .returned (.tuple #[.int .u64 ((x * y / 18446744073709551616 : Nat) : Int), .int .u64 ((x * y % 18446744073709551616 : Nat) : Int)]) ∧ w = w' := by
  obtain ⟨bd, bt, bw, hhi⟩ := Lib.mul64_hi x y hx hy
  have ba := Lib.half_mul_le (a := x / 4294967296) (b := y / 4294967296) (by omega) (by omega)
  have bb := Lib.half_mul_le (a := x / 4294967296) (b := y % 4294967296) (by omega) (by omega)
  have bc := Lib.half_mul_le (a := x % 4294967296) (b := y / 4294967296) (by omega) (by omega)
  have ba' : x / 4294967296 * (y / 4294967296) < 18446744073709551616 := by omega
  have bb' : x / 4294967296 * (y % 4294967296) < 18446744073709551616 := by omega
  have bc' : x % 4294967296 * (y / 4294967296) < 18446744073709551616 := by omega
  have bh1 : x / 4294967296 * (y / 4294967296) + (x / 4294967296 * (y % 4294967296) + x % 4294967296 * (y % 4294967296) / 4294967296) / 4294967296 < 18446744073709551616 := by omega
  have bh : x / 4294967296 * (y / 4294967296) + (x / 4294967296 * (y % 4294967296) + x % 4294967296 * (y % 4294967296) / 4294967296) / 4294967296 + ((x / 4294967296 * (y % 4294967296) + x % 4294967296 * (y % 4294967296) / 4294967296) % 4294967296 + x % 4294967296 * (y / 4294967296)) / 4294967296 < 18446744073709551616 := by omega
  go_enter Tryd.func64, Tryd.ntmps64
  go_wp2
  simp only [M64.maskN x hx, M64.maskN y hy, M64.divN, M64.mulN, M64.addN, M64.wrapN _ bd, M64.wrapN _ bb', M64.wrapN _ bt, M64.maskN _ bt, M64.wrapN _ bc', M64.wrapN _ bw, M64.wrapN _ ba', M64.wrapN _ bh1, M64.wrapN _ bh, M64.wrapM (x * y)]
  rw [hhi]
  go_ret2
  exact ⟨rfl, rfl⟩

theorem run_Add64 (x y : Nat) (w : World) :
    (callFunc 65 #[.int .u64 (x : Int), .int .u64 (y : Int), .int .u64 0]).run Tryd.prog w =
      .ok (.value (.tuple #[.int .u64 (((x + y) % 18446744073709551616 : Nat) : Int), .int .u64 (((x + y) / 18446744073709551616 : Nat) : Int)])) w := by
  rw [run_callFunc_extern Tryd.func65 (by kernel_rfl) (by kernel_rfl) (by kernel_rfl) (e := add64Entry) (by kernel_rfl), run_add64 x y 0 (by omega) (by omega) (by omega) (by omega)]
  simp only [Result.andThen]
  congr 5 <;> omega

theorem RTWide : RowT Tryd.prog 107 2 := ⟨_, Tryd.underlying107, rfl, by kernel_rfl⟩
theorem ZTWide : ZeroT Tryd.prog 107 .u64 2 := by unfold ZeroT; kernel_rfl
/-- A number of 128 bits, in two parts. -/
def hlN (v : Nat) (i : Nat) : Nat := if i = 0 then v / 18446744073709551616 else v % 18446744073709551616
theorem built_wide (x y : Int) : Tryd.prog.built 107 [(0, .int .u64 x), (1, .int .u64 y)] = some (arr .u64 2 fun i => if i = 0 then x else y) := by kernel_rfl

set_option maxHeartbeats 1000000 in
theorem plus_any (v a b : Nat) (ha : a < 18446744073709551616) (hb : b < 18446744073709551616) (hv : v + a * b < 340282366920938463463374607431768211456) (w : World) :
    Calls Tryd.prog 63 #[.agg (arr .u64 2 fun i => ((hlN v i : Nat) : Int)), .int .u64 a, .int .u64 b] w fun e w' => e = .returned (.agg (arr .u64 2 fun i => ((hlN (v + a * b) i : Nat) : Int))) ∧ Below w.heap.size w w' := by
  obtain ⟨p, hp⟩ : ∃ p, p = a * b := ⟨_, rfl⟩
  rw [← hp] at hv ⊢
  have Hp := Lib.hid hp
  clear hp
  go_enter Tryd.func63, Tryd.ntmps63
  obtain ⟨g0, g1, hz, hb0⟩ := alloc2 w (.cells (arr .u64 2 fun i => ((hlN v i : Nat) : Int)) 107) (.cells (arr .u64 2 fun _ => 0) 107)
  go_upto_region 1 with (refine wpList_alloc_arr rfl rfl ZTWide ?_)
  generalize (w.alloc (.cells (arr .u64 2 fun i => ((hlN v i : Nat) : Int)) 107)).alloc (.cells (arr .u64 2 fun _ => 0) 107) = wa at *
  (try simp only [Act.put, List.setIfInBounds_toArray, List.set_cons_zero, List.set_cons_succ])
  go_wp2_with (go_at_call 64; fail)
  refine (Mul64_any a b ha hb _).mono ?_
  rintro e w1 ⟨rfl, rfl⟩
  rw [← Hp.out]
  obtain ⟨ph, hph⟩ : ∃ x, x = p / 18446744073709551616 := ⟨_, rfl⟩
  obtain ⟨pl, hpl⟩ : ∃ x, x = p % 18446744073709551616 := ⟨_, rfl⟩
  obtain ⟨vh, hvh⟩ : ∃ x, x = v / 18446744073709551616 := ⟨_, rfl⟩
  obtain ⟨vl, hvl⟩ : ∃ x, x = v % 18446744073709551616 := ⟨_, rfl⟩
  obtain ⟨so, hso⟩ : ∃ x, x = (pl + vl) / 18446744073709551616 := ⟨_, rfl⟩
  obtain ⟨sl, hsl⟩ : ∃ x, x = (pl + vl) % 18446744073709551616 := ⟨_, rfl⟩
  have c0 : wa.cell? ⟨w.heap.size, 0, none⟩ = some (.int .u64 (vh : Int)) := by rw [hvh]; exact cell_arr g0 0 (by omega)
  have c1 : wa.cell? ⟨w.heap.size, 1, none⟩ = some (.int .u64 (vl : Int)) := by rw [hvl]; exact cell_arr g0 1 (by omega)
  have ra := run_Add64 pl vl
  rw [← hso, ← hsl] at ra
  rw [← hph, ← hpl]
  have e0 : sl = (v + p) % 18446744073709551616 := by omega
  have e1 : vh + ph + so = (v + p) / 18446744073709551616 := by omega
  have b1 : vh + ph + so < 18446744073709551616 := by omega
  have E0 := Lib.hid e0
  have E1 := Lib.hid e1
  clear e0 e1 hph hpl hvh hvl hso hsl
  go_wp2_with (first | (refine wpList_built rfl rfl (by simp [Act.eval, Act.put]) (built_wide _ _) ?_) | (refine wpList_store_arr (f' := fun i => if i = 0 then ((vh : Int) + ph + so) else (sl : Int)) rfl rfl rfl rfl RTWide g1 ?_))
  refine bodyPost_ret (results_arr rfl rfl RTWide (row_self g1)) rfl ⟨?_, row_below hb0 (by omega) _⟩
  rw [arr_ext (f := fun i => ((hlN (v + p) i : Nat) : Int)) (g := fun i => if i = 0 then ((vh : Int) + ph + so) else (sl : Int)) (fun i _ => by
    unfold hlN
    split
    · rw [← E1.out]; omega
    · rw [← E0.out])]
end Go.Proofs.YtfolbgiekbimpaaDoor
namespace Go.Proofs.YtfolbgiekbimpaaDoor
set_option linter.unusedSimpArgs false
set_option linter.unusedVariables false

/-- The prime. -/
def pN : Nat := 57896044618658097711785492504343953926634992332820282019728792003956564819949
theorem valN_five (X : Nat → Nat) : valN X 5 = X 0 + X 1 * 2251799813685248 + X 2 * 5070602400912917605986812821504 + X 3 * 11417981541647679048466287755595961091061972992 + X 4 * 25711008708143844408671393477458601640355247900524685364822016 := by
  simp [valN]
theorem ov_steps (F : Nat → Nat) : ovN F 1 = F 0 / 2251799813685248 ∧ ovN F 2 = (F 1 + ovN F 1) / 2251799813685248 ∧ ovN F 3 = (F 2 + ovN F 2) / 2251799813685248 ∧ ovN F 4 = (F 3 + ovN F 3) / 2251799813685248 ∧ ovN F 5 = (F 4 + ovN F 4) / 2251799813685248 := by
  refine ⟨?_, rfl, rfl, rfl, rfl⟩
  show (F 0 + 0) / 2251799813685248 = _
  rw [Nat.add_zero]
theorem lo_steps (F : Nat → Nat) : loN F 0 = F 0 % 2251799813685248 ∧ loN F 1 = (F 1 + ovN F 1) % 2251799813685248 ∧ loN F 2 = (F 2 + ovN F 2) % 2251799813685248 ∧ loN F 3 = (F 3 + ovN F 3) % 2251799813685248 ∧ loN F 4 = (F 4 + ovN F 4) % 2251799813685248 := by
  refine ⟨?_, rfl, rfl, rfl, rfl⟩
  show (F 0 + 0) % 2251799813685248 = _
  rw [Nat.add_zero]
/-- What is left below, and what goes over. -/
theorem lo_val (F : Nat → Nat) : valN (loN F) 5 + ovN F 5 * 57896044618658097711785492504343953926634992332820282019728792003956564819968 = valN F 5 := by
  obtain ⟨o1, o2, o3, o4, o5⟩ := ov_steps F
  obtain ⟨l0, l1, l2, l3, l4⟩ := lo_steps F
  rw [valN_five, valN_five, l0, l1, l2, l3, l4]
  generalize ovN F 5 = u5 at *
  generalize ovN F 4 = u4 at *
  generalize ovN F 3 = u3 at *
  generalize ovN F 2 = u2 at *
  generalize ovN F 1 = u1 at *
  generalize F 0 = a0 at *
  generalize F 1 = a1 at *
  generalize F 2 = a2 at *
  generalize F 3 = a3 at *
  generalize F 4 = a4 at *
  omega
theorem car_val (F : Nat → Nat) : valN (carN F) 5 + ovN F 5 * pN = valN F 5 := by
  have h := lo_val F
  rw [valN_five] at h
  rw [valN_five]
  have c0 : carN F 0 = loN F 0 + 19 * ovN F 5 := rfl
  have c1 : carN F 1 = loN F 1 := rfl
  have c2 : carN F 2 = loN F 2 := rfl
  have c3 : carN F 3 = loN F 3 := rfl
  have c4 : carN F 4 = loN F 4 := rfl
  rw [c0, c1, c2, c3, c4]
  unfold pN
  omega
theorem qu_steps (F : Nat → Nat) : quN F 1 = (F 0 + 19) / 2251799813685248 ∧ quN F 2 = (F 1 + quN F 1) / 2251799813685248 ∧ quN F 3 = (F 2 + quN F 2) / 2251799813685248 ∧ quN F 4 = (F 3 + quN F 3) / 2251799813685248 ∧ quN F 5 = (F 4 + quN F 4) / 2251799813685248 := ⟨rfl, rfl, rfl, rfl, rfl⟩
theorem qu_val (G : Nat → Nat) : quN G 5 = (valN G 5 + 19) / 57896044618658097711785492504343953926634992332820282019728792003956564819968 := by
  obtain ⟨o1, o2, o3, o4, o5⟩ := qu_steps G
  rw [valN_five]
  generalize quN G 5 = u5 at *
  generalize quN G 4 = u4 at *
  generalize quN G 3 = u3 at *
  generalize quN G 2 = u2 at *
  generalize quN G 1 = u1 at *
  generalize G 0 = a0 at *
  generalize G 1 = a1 at *
  generalize G 2 = a2 at *
  generalize G 3 = a3 at *
  generalize G 4 = a4 at *
  omega
/-- Of a number below twice the prime: its own. -/
theorem up_val (G : Nat → Nat) (h : valN G 5 < 2 * pN) : valN (loN (upN G)) 5 = valN G 5 % pN := by
  have h1 := lo_val (upN G)
  have h2 := qu_val G
  have h3 : valN (upN G) 5 = valN G 5 + 19 * quN G 5 := by
    rw [valN_five, valN_five]
    have c0 : upN G 0 = G 0 + 19 * quN G 5 := rfl
    have c1 : upN G 1 = G 1 := rfl
    have c2 : upN G 2 = G 2 := rfl
    have c3 : upN G 3 = G 3 := rfl
    have c4 : upN G 4 = G 4 := rfl
    rw [c0, c1, c2, c3, c4]
    omega
  have h4 : valN (loN (upN G)) 5 < 2 ^ (51 * 5) := valN_lt _ 5 (fun i _ => Nat.mod_lt _ (by omega)) 5 (Nat.le_refl _)
  have h5 : (2 : Nat) ^ (51 * 5) = 57896044618658097711785492504343953926634992332820282019728792003956564819968 := by decide
  rw [h5] at h4
  generalize valN (loN (upN G)) 5 = r at *
  generalize ovN (upN G) 5 = o at *
  generalize valN (upN G) 5 = s at *
  generalize quN G 5 = q at *
  generalize valN G 5 = v at *
  unfold pN at *
  by_cases hv : v < 57896044618658097711785492504343953926634992332820282019728792003956564819949
  · rw [Nat.mod_eq_of_lt hv]
    have hq : q = 0 := by omega
    subst hq
    omega
  · have hm : v % 57896044618658097711785492504343953926634992332820282019728792003956564819949 = v - 57896044618658097711785492504343953926634992332820282019728792003956564819949 := by
      rw [Nat.mod_eq_sub_mod (by omega), Nat.mod_eq_of_lt (by omega)]
    have hq : q = 1 := by omega
    subst hq
    rw [hm]
    have ho : o = 1 := by omega
    subst ho
    omega
theorem car_le (F : Nat → Nat) (hF : ∀ i, i < 5 → F i < 9223372036854775808) : valN (carN (carN F)) 5 < 2 * pN := by
  have a0 := carN_lt (carN F) (fun i hi => by have := carN_lt F hF i hi; omega) 0 (by omega)
  have a1 := carN_lt (carN F) (fun i hi => by have := carN_lt F hF i hi; omega) 1 (by omega)
  have a2 := carN_lt (carN F) (fun i hi => by have := carN_lt F hF i hi; omega) 2 (by omega)
  have a3 := carN_lt (carN F) (fun i hi => by have := carN_lt F hF i hi; omega) 3 (by omega)
  have a4 := carN_lt (carN F) (fun i hi => by have := carN_lt F hF i hi; omega) 4 (by omega)
  rw [valN_five]
  unfold pN
  omega
/-- **A number's own stands for it modulo the prime.** -/
theorem least_val (F : Nat → Nat) (hF : ∀ i, i < 5 → F i < 9223372036854775808) : valN (leastN F) 5 = valN F 5 % pN := by
  show valN (loN (upN (carN (carN F)))) 5 = _
  rw [up_val _ (car_le F hF)]
  have h1 := car_val F
  have h2 := car_val (carN F)
  rw [← h1, ← h2, Nat.add_mul_mod_self_right, Nat.add_mul_mod_self_right]
end Go.Proofs.YtfolbgiekbimpaaDoor
namespace Go.Proofs.YtfolbgiekbimpaaDoor
set_option linter.unusedSimpArgs false
set_option linter.unusedVariables false

theorem kvN_congr (b c : Nat → Nat) : ∀ k, (∀ i, i < k → b i = c i) → kvN b k = kvN c k
  | 0, _ => rfl
  | k + 1, h => by rw [kvN_succ, kvN_succ, kvN_congr b c k (fun i hi => h i (by omega)), h k (by omega)]
theorem kv_bytes (v : Nat) : ∀ k, kvN (byteN v) k = v % 2 ^ (8 * k)
  | 0 => by unfold kvN; rw [Nat.mul_zero, Nat.pow_zero, Nat.mod_one]
  | k + 1 => by
    rw [kvN_succ, kv_bytes v k, show 8 * (k + 1) = 8 * k + 8 from by omega, Nat.pow_add, Nat.mod_mul]
    unfold byteN
    rw [Nat.mul_comm (v / 2 ^ (8 * k) % 256)]
/-- The parts of a value. -/
def digN (v i : Nat) : Nat := v / 2 ^ (51 * i) % 2251799813685248
theorem val_dig (v : Nat) : valN (digN v) 5 = v % 57896044618658097711785492504343953926634992332820282019728792003956564819968 := by
  rw [valN_five]
  unfold digN
  rw [show (2 : Nat) ^ (51 * 0) = 1 from by decide, show (2 : Nat) ^ (51 * 1) = 2251799813685248 from by decide, show (2 : Nat) ^ (51 * 2) = 5070602400912917605986812821504 from by decide, show (2 : Nat) ^ (51 * 3) = 11417981541647679048466287755595961091061972992 from by decide, show (2 : Nat) ^ (51 * 4) = 25711008708143844408671393477458601640355247900524685364822016 from by decide]
  omega
theorem ofN_dig (b : Nat → Nat) (i : Nat) : ofN b i = digN (kvN b 32) i := rfl
end Go.Proofs.YtfolbgiekbimpaaDoor
namespace Go.Proofs.YtfolbgiekbimpaaDoor
set_option linter.unusedSimpArgs false
set_option linter.unusedVariables false
/-- What the n-th product adds to part c. -/
def termN (F G : Nat → Nat) (n c : Nat) : Nat := if (n / 5 + n % 5) % 5 = c then F (n / 5) * (if 5 ≤ n / 5 + n % 5 then 19 * G (n % 5) else G (n % 5)) else 0
def accN (F G : Nat → Nat) : Nat → Nat → Nat
  | 0, _ => 0
  | n + 1, c => accN F G n c + termN F G n c
theorem accN_succ (F G : Nat → Nat) (n c : Nat) : accN F G (n + 1) c = accN F G n c + termN F G n c := rfl
theorem term_le (F G : Nat → Nat) (hF : ∀ i, i < 5 → F i < 4503599627370496) (hG : ∀ i, i < 5 → G i < 4503599627370496) (n c : Nat) (hn : n < 25) :
    termN F G n c ≤ 385365782469381738054997774434304 := by
  unfold termN
  have f := hF (n / 5) (by omega)
  have g := hG (n % 5) (by omega)
  split
  · have : F (n / 5) * (if 5 ≤ n / 5 + n % 5 then 19 * G (n % 5) else G (n % 5)) ≤ 4503599627370496 * (19 * 4503599627370496) := Nat.mul_le_mul (by omega) (by split <;> omega)
    omega
  · omega
theorem accN_le (F G : Nat → Nat) (hF : ∀ i, i < 5 → F i < 4503599627370496) (hG : ∀ i, i < 5 → G i < 4503599627370496) (c : Nat) : ∀ n, n ≤ 25 → accN F G n c ≤ n * 385365782469381738054997774434304
  | 0, _ => by unfold accN; omega
  | n + 1, h => by
    have := accN_le F G hF hG c n (by omega)
    have := term_le F G hF hG n c (by omega)
    rw [accN_succ]; omega
theorem row_zero (a b0 b1 b2 b3 b4 c1 c2 c3 c4 : Nat) : a * (b0 + b1 * c1 + b2 * c2 + b3 * c3 + b4 * c4) = a * b0 + a * b1 * c1 + a * b2 * c2 + a * b3 * c3 + a * b4 * c4 := by
  simp only [Nat.mul_add, Nat.mul_assoc]
theorem row_some (a c b0 b1 b2 b3 b4 c1 c2 c3 c4 : Nat) : a * c * (b0 + b1 * c1 + b2 * c2 + b3 * c3 + b4 * c4) = a * b0 * c + a * b1 * (c * c1) + a * b2 * (c * c2) + a * b3 * (c * c3) + a * b4 * (c * c4) := by
  rw [Nat.mul_add, Nat.mul_add, Nat.mul_add, Nat.mul_add, Nat.mul_mul_mul_comm a c b1, Nat.mul_mul_mul_comm a c b2, Nat.mul_mul_mul_comm a c b3, Nat.mul_mul_mul_comm a c b4, Nat.mul_right_comm a c b0]
theorem acc_val (F G : Nat → Nat) : ∃ q, valN F 5 * valN G 5 = valN (accN F G 25) 5 + q * pN := by
  refine ⟨?_, ?_⟩
  · exact (F 1 * G 4 + F 2 * G 3 + F 3 * G 2 + F 4 * G 1) + (F 2 * G 4 + F 3 * G 3 + F 4 * G 2) * 2251799813685248 + (F 3 * G 4 + F 4 * G 3) * 5070602400912917605986812821504 + (F 4 * G 4) * 11417981541647679048466287755595961091061972992
  · rw [valN_five, valN_five, valN_five]
    have e : ∀ c, accN F G 25 c = termN F G 0 c + termN F G 1 c + termN F G 2 c + termN F G 3 c + termN F G 4 c + termN F G 5 c + termN F G 6 c + termN F G 7 c + termN F G 8 c + termN F G 9 c + termN F G 10 c + termN F G 11 c + termN F G 12 c + termN F G 13 c + termN F G 14 c + termN F G 15 c + termN F G 16 c + termN F G 17 c + termN F G 18 c + termN F G 19 c + termN F G 20 c + termN F G 21 c + termN F G 22 c + termN F G 23 c + termN F G 24 c := by
      intro c; simp only [accN]; omega
    have e0 : accN F G 25 0 = F 0 * G 0 + 19 * (F 1 * G 4 + F 2 * G 3 + F 3 * G 2 + F 4 * G 1) := by rw [e]; simp [termN]; simp only [Nat.mul_left_comm _ 19 _]; omega
    have e1 : accN F G 25 1 = F 0 * G 1 + F 1 * G 0 + 19 * (F 2 * G 4 + F 3 * G 3 + F 4 * G 2) := by rw [e]; simp [termN]; simp only [Nat.mul_left_comm _ 19 _]; omega
    have e2 : accN F G 25 2 = F 0 * G 2 + F 1 * G 1 + F 2 * G 0 + 19 * (F 3 * G 4 + F 4 * G 3) := by rw [e]; simp [termN]; simp only [Nat.mul_left_comm _ 19 _]; omega
    have e3 : accN F G 25 3 = F 0 * G 3 + F 1 * G 2 + F 2 * G 1 + F 3 * G 0 + 19 * (F 4 * G 4) := by rw [e]; simp [termN, Nat.mul_left_comm _ 19 _]
    have e4 : accN F G 25 4 = F 0 * G 4 + F 1 * G 3 + F 2 * G 2 + F 3 * G 1 + F 4 * G 0 := by rw [e]; simp [termN]
    rw [e0, e1, e2, e3, e4]
    unfold pN
    rw [Nat.add_mul, Nat.add_mul, Nat.add_mul, Nat.add_mul, row_zero, row_some, row_some, row_some, row_some]
    omega

attribute [local irreducible] accN
/-- A product, in five parts: what goes over the last one comes in again, 19 times. -/
def foldN (V : Nat → Nat) (i : Nat) : Nat := if i = 0 then (19 * ovN V 5 + loN V 0) % 2251799813685248 else if i = 1 then loN V 1 + (19 * ovN V 5 + loN V 0) / 2251799813685248 else loN V i
theorem fold_val (V : Nat → Nat) : valN (foldN V) 5 + ovN V 5 * pN = valN V 5 := by
  have h := lo_val V
  rw [valN_five] at h
  rw [valN_five, ← h]
  unfold foldN pN
  simp only [if_true, show (1 : Nat) ≠ 0 from by omega, show (2 : Nat) ≠ 0 from by omega, show (2 : Nat) ≠ 1 from by omega, show (3 : Nat) ≠ 0 from by omega, show (3 : Nat) ≠ 1 from by omega, show (4 : Nat) ≠ 0 from by omega, show (4 : Nat) ≠ 1 from by omega, if_false]
  omega
theorem ov_big (V : Nat → Nat) (hV : ∀ i, i < 5 → V i < 10384593717069655257060992658440192) : ∀ m, m ≤ 5 → ovN V m < 9223372036854775808
  | 0, _ => by unfold ovN; omega
  | m + 1, h => by
    have := ov_big V hV m (by omega)
    have := hV m (by omega)
    rw [ovN_succ]
    omega
theorem fold_lt (V : Nat → Nat) (hV : ∀ i, i < 5 → V i < 10384593717069655257060992658440192) (i : Nat) (_hi : i < 5) : foldN V i < 9223372036854775808 := by
  have := ov_big V hV 5 (by omega)
  have l : ∀ m, loN V m < 2251799813685248 := fun m => Nat.mod_lt _ (by omega)
  have := l 0
  have := l 1
  have := l i
  unfold foldN
  split
  · omega
  · split <;> omega
theorem acc_lt (F G : Nat → Nat) (hF : ∀ i, i < 5 → F i < 4503599627370496) (hG : ∀ i, i < 5 → G i < 4503599627370496) (n c : Nat) (hn : n ≤ 25) : accN F G n c < 10384593717069655257060992658440192 := by
  have := accN_le F G hF hG c n hn
  omega
/-- What a product is. -/
def prodN (F G : Nat → Nat) (i : Nat) : Nat := carN (foldN (accN F G 25)) i
theorem prod_val (F G : Nat → Nat) : valN (prodN F G) 5 % pN = valN F 5 * valN G 5 % pN := by
  obtain ⟨q, hq⟩ := acc_val F G
  have h1 := car_val (foldN (accN F G 25))
  have h2 := fold_val (accN F G 25)
  have e : valN (prodN F G) 5 = valN (carN (foldN (accN F G 25))) 5 := rfl
  rw [e, hq, ← h2, ← h1]
  rw [Nat.add_mul_mod_self_right, Nat.add_mul_mod_self_right, Nat.add_mul_mod_self_right]
theorem prod_ok (F G : Nat → Nat) (hF : okF F 5) (hG : okF G 5) : okF (prodN F G) 5 := fun i hi => by
  have := carN_lt (foldN (accN F G 25)) (fun i hi => fold_lt _ (fun c hc => acc_lt F G hF hG 25 c (by omega)) i hi) i hi
  show carN _ i < _
  omega
/-- Four times the prime, part by part, less a number. -/
def mostF (i : Nat) : Nat := if i = 0 then 2251799813685229 else 2251799813685247
def diffN (F G : Nat → Nat) (i : Nat) : Nat := F i + (4 * mostF i - G i)
theorem diff_lt (F G : Nat → Nat) (hF : okF F 5) (i : Nat) (hi : i < 5) : diffN F G i < 9223372036854775808 := by
  have := hF i hi
  unfold diffN mostF
  split <;> omega
theorem diff_val (F G : Nat → Nat) (hG : okF G 5) : valN (diffN F G) 5 + valN G 5 = valN F 5 + 4 * pN := by
  rw [valN_five, valN_five, valN_five]
  have := hG 0 (by omega); have := hG 1 (by omega); have := hG 2 (by omega); have := hG 3 (by omega); have := hG 4 (by omega)
  unfold diffN mostF pN
  simp only [if_true, show (1 : Nat) ≠ 0 from by omega, show (2 : Nat) ≠ 0 from by omega, show (3 : Nat) ≠ 0 from by omega, show (4 : Nat) ≠ 0 from by omega, if_false]
  omega
theorem sub_val (F G : Nat → Nat) (hG : okF G 5) : (valN (carN (diffN F G)) 5 + valN G 5) % pN = valN F 5 % pN := by
  have h1 := car_val (diffN F G)
  have h2 := diff_val F G hG
  have e : valN (carN (diffN F G)) 5 + valN G 5 + ovN (diffN F G) 5 * pN = valN F 5 + 4 * pN := by omega
  rw [← Nat.add_mul_mod_self_right _ (ovN (diffN F G) 5), e, Nat.add_mul_mod_self_right]
theorem sum_val (F G : Nat → Nat) : valN (carN fun i => F i + G i) 5 % pN = (valN F 5 + valN G 5) % pN := by
  have h1 := car_val (fun i => F i + G i)
  have e : valN (fun i => F i + G i) 5 = valN F 5 + valN G 5 := by rw [valN_five, valN_five, valN_five]; omega
  rw [← e, ← h1, Nat.add_mul_mod_self_right]
theorem car_ok (F : Nat → Nat) (hF : ∀ i, i < 5 → F i < 9223372036854775808) : okF (carN F) 5 := fun i hi => by
  have := carN_lt F hF i hi
  omega
end Go.Proofs.YtfolbgiekbimpaaDoor
namespace Go.Proofs.YtfolbgiekbimpaaDoor
set_option linter.unusedSimpArgs false
set_option linter.unusedVariables false
open Go.RowKit
attribute [local irreducible] accN leastN byteN
theorem ZTWides : ZeroT Tryd.prog 108 .u64 10 := by unfold ZeroT; kernel_rfl
theorem RTWides : RowT Tryd.prog 108 10 := ⟨_, Tryd.underlying108, rfl, by kernel_rfl⟩
/-- Five numbers of 128 bits, in ten parts. -/
def wideN (V : Nat → Nat) (i : Nat) : Nat := hlN (V (i / 2)) (i % 2)
theorem wide_at (V : Nat → Nat) (c off j : Nat) (ho : off = c * 2) (hj : j < 2) : wideN V (off + j) = hlN (V c) j := by
  unfold wideN
  rw [show (off + j) / 2 = c from by omega, show (off + j) % 2 = j from by omega]
theorem wide_put (F G : Nat → Nat) (n c off v : Nat) (ho : off = c * 2) (hc : (n / 5 + n % 5) % 5 = c) (hv : v = accN F G n c + F (n / 5) * (if 5 ≤ n / 5 + n % 5 then 19 * G (n % 5) else G (n % 5))) (i : Nat) :
    patch (fun i => ((wideN (accN F G n) i : Nat) : Int)) off 2 (fun j => ((hlN v j : Nat) : Int)) i = ((wideN (accN F G (n + 1)) i : Nat) : Int) := by
  unfold patch
  by_cases h : off ≤ i ∧ i < off + 2
  · rw [if_pos h]
    unfold wideN
    rw [show i / 2 = c from by omega, show i % 2 = i - off from by omega, accN_succ, hv]
    unfold termN
    rw [if_pos hc]
  · rw [if_neg h]
    unfold wideN
    rw [accN_succ]
    unfold termN
    rw [if_neg (by omega), Nat.add_zero]

theorem or_hilo (hi lo : Nat) (h : hi < 1125899906842624) (hl : lo < 18446744073709551616) : bits .or .u64 ((hi : Int) * 8192) ((lo : Int) / 2251799813685248) = ((hi * 8192 + lo / 2251799813685248 : Nat) : Int) := by
  have h1 := bits_or_u64_nat (hi * 8192) (lo / 2251799813685248) (by omega) (by omega)
  have e : hi * 8192 ||| lo / 2251799813685248 = hi * 8192 + lo / 2251799813685248 := by
    have := or_low (lo / 2251799813685248) hi 13 (by omega)
    rw [Nat.or_comm, show (8192 : Nat) = 2 ^ 13 from rfl, this, Nat.add_comm]
  rw [e] at h1
  rw [← h1]
  congr 1
set_option maxRecDepth 100000 in
set_option maxHeartbeats 2000000 in
theorem mul_any (F G : Nat → Nat) (hF : okF F 5) (hG : okF G 5) (w : World) :
    Calls Tryd.prog 47 #[.agg (arr .u64 5 fun i => ((F i : Nat) : Int)), .agg (arr .u64 5 fun i => ((G i : Nat) : Int))] w fun e w' => e = .returned (.agg (arr .u64 5 fun k => ((prodN F G k : Nat) : Int))) ∧ Below w.heap.size w w' := by
  go_enter Tryd.func47, Tryd.ntmps47
  obtain ⟨h0, h1, h2, hsz, hb⟩ := alloc3 w (.cells (arr .u64 5 fun i => ((F i : Nat) : Int)) 51) (.cells (arr .u64 5 fun i => ((G i : Nat) : Int)) 51) (.cells (arr .u64 5 fun _ => 0) 51)
  go_upto_region 1 with (refine wpList_alloc_arr rfl rfl ZTFe ?_)
  generalize ((w.alloc (.cells (arr .u64 5 fun i => ((F i : Nat) : Int)) 51)).alloc (.cells (arr .u64 5 fun i => ((G i : Nat) : Int)) 51)).alloc (.cells (arr .u64 5 fun _ => 0) 51) = wa at *
  (try simp only [Act.put, List.setIfInBounds_toArray, List.set_cons_zero, List.set_cons_succ])
  obtain ⟨h3, hz3, bl⟩ := alloc1 wa (.cells (arr .u64 10 fun _ => 0) 108)
  go_upto_region 2 with (refine wpList_alloc_arr rfl rfl ZTWides ?_)
  replace h0 := keep_below bl (by omega) h0
  replace h1 := keep_below bl (by omega) h1
  replace h2 := keep_below bl (by omega) h2
  replace hb := hb.trans (bl.mono (by omega))
  rw [hsz] at h3 ⊢
  generalize wa.alloc (.cells (arr .u64 10 fun _ => 0) 108) = wb at *
  clear hz3 bl hsz
  (try simp only [Act.put, List.setIfInBounds_toArray, List.set_cons_zero, List.set_cons_succ])
  go_wp2_with (refine wpList_load_arr rfl rfl rfl RTFe h0 ?_)
  have hF' := Lib.hid hF
  have hG' := Lib.hid hG
  have al := Lib.hid (acc_lt F G hF hG)
  clear hF hG
  go_loopg [18] 5 (fun n i wr => ∃ m : Nat, m + n = 5 ∧ i = .int .i64 m ∧ wr.heap[w.heap.size + 1]? = some (.cells (arr .u64 5 fun i => ((G i : Nat) : Int)) 51 (0, 0)) ∧ wr.heap[w.heap.size + 1 + 1]? = some (.cells (arr .u64 5 fun _ => 0) 51 (0, 0)) ∧
    wr.heap[w.heap.size + 3]? = some (.cells (arr .u64 10 fun i => ((wideN (accN F G (5 * m)) i : Nat) : Int)) 108 (0, 0)) ∧ Below w.heap.size w wr)
  case atStart => exact ⟨0, rfl, rfl, h1, h2, blk_congr h3 (fun i _ => by unfold wideN hlN accN; split <;> rfl), hb⟩
  case round =>
    clear h0 h1 h2 h3 hb
    obtain ⟨m, hm, rfl, h1, h2, h3, hB⟩ := hrel
    obtain ⟨go1, rfl⟩ : ∃ x, x = gk := ⟨_, rfl⟩
    have hm' := Lib.hid hm
    clear hm
    by_cases hlt : m < 5
    · go_wp2_with (first | (refine wpList_index_cell rfl rfl Tryd.underlying51 Tryd.underlying49 rfl SZU64 rfl rfl (by omega) (by omega) (by omega) ?_) | (refine wpList_load_arr rfl rfl rfl RTFe h1 ?_))
      go_loopg [23] 5 (fun n i wr => ∃ j : Nat, j + n = 5 ∧ i = .int .i64 j ∧ wr.heap[w.heap.size + 1]? = some (.cells (arr .u64 5 fun i => ((G i : Nat) : Int)) 51 (0, 0)) ∧ wr.heap[w.heap.size + 1 + 1]? = some (.cells (arr .u64 5 fun _ => 0) 51 (0, 0)) ∧
        wr.heap[w.heap.size + 3]? = some (.cells (arr .u64 10 fun i => ((wideN (accN F G (5 * m + j)) i : Nat) : Int)) 108 (0, 0)) ∧ Below w.heap.size w wr)
      case atStart => exact ⟨0, rfl, rfl, h1, h2, h3, hB⟩
      case round =>
        clear h1 h2 h3 hB
        obtain ⟨j, hj, rfl, h1, h2, h3, hB⟩ := hrel
        have hj' := Lib.hid hj
        clear hj
        by_cases hlj : j < 5
        · have fb := hF'.out m hlt
          have gb := hG'.out j hlj
          by_cases hge : 5 ≤ m + j
          · have vb := al.out (5 * m + j) (m + j - 5) (by omega)
            have pb : F m * (19 * G j) ≤ 4503599627370496 * (19 * 4503599627370496) := Nat.mul_le_mul (by omega) (by omega)
            go_wp2_with (first | (refine wpList_index_cell rfl rfl Tryd.underlying51 Tryd.underlying49 rfl SZU64 rfl rfl (by omega) (by omega) (by omega) ?_) | (refine wpList_load_as (off := (m + j - 5) * 2) (fun i => ((hlN (accN F G (5 * m + j) (m + j - 5)) i : Nat) : Int)) rfl rfl rfl RTWide h3 (by omega) (fun i hi => by rw [wide_at _ (m + j - 5) _ i rfl hi]) ?_) | (go_at_call 63; fail))
            rw [show (19 * ((G j : Nat) : Int)) = ((19 * G j : Nat) : Int) from by omega]
            refine (plus_any (accN F G (5 * m + j) (m + j - 5)) (F m) (19 * G j) (by omega) (by omega) (by omega) _).mono ?_
            rintro e w4 ⟨rfl, b4⟩
            replace h1 := keep_below b4 (lt_of_block h1) h1
            replace h2 := keep_below b4 (lt_of_block h2) h2
            replace h3 := keep_below b4 (lt_of_block h3) h3
            replace hB := hB.trans (b4.mono hB.size)
            clear b4
            go_wp2_with (refine wpList_store_sub rfl rfl rfl rfl RTWide h3 (by omega) ?_)
            go_roundg (gk - 1)
            case measure => have := hj'.out; omega
            case rel =>
              have hj'' := hj'.out
              have d1 : (5 * m + j) / 5 = m := by omega
              have d2 : (5 * m + j) % 5 = j := by omega
              exact ⟨j + 1, by omega, by go_num, row_keep h1 (by omega), row_keep h2 (by omega), blk_congr (row_self h3) (fun i _ => wide_put F G (5 * m + j) (m + j - 5) _ _ rfl (by rw [d1, d2]; omega) (by rw [d1, d2, if_pos hge]) i), row_below hB (by omega) _⟩
          · have vb := al.out (5 * m + j) (m + j) (by omega)
            have pb : F m * (G j) ≤ 4503599627370496 * (19 * 4503599627370496) := Nat.mul_le_mul (by omega) (by omega)
            go_wp2_with (first | (refine wpList_index_cell rfl rfl Tryd.underlying51 Tryd.underlying49 rfl SZU64 rfl rfl (by omega) (by omega) (by omega) ?_) | (refine wpList_load_as (off := (m + j) * 2) (fun i => ((hlN (accN F G (5 * m + j) (m + j)) i : Nat) : Int)) rfl rfl rfl RTWide h3 (by omega) (fun i hi => by rw [wide_at _ (m + j) _ i rfl hi]) ?_) | (go_at_call 63; fail))
            refine (plus_any (accN F G (5 * m + j) (m + j)) (F m) (G j) (by omega) (by omega) (by omega) _).mono ?_
            rintro e w4 ⟨rfl, b4⟩
            replace h1 := keep_below b4 (lt_of_block h1) h1
            replace h2 := keep_below b4 (lt_of_block h2) h2
            replace h3 := keep_below b4 (lt_of_block h3) h3
            replace hB := hB.trans (b4.mono hB.size)
            clear b4
            go_wp2_with (refine wpList_store_sub rfl rfl rfl rfl RTWide h3 (by omega) ?_)
            go_roundg (gk - 1)
            case measure => have := hj'.out; omega
            case rel =>
              have hj'' := hj'.out
              have d1 : (5 * m + j) / 5 = m := by omega
              have d2 : (5 * m + j) % 5 = j := by omega
              exact ⟨j + 1, by omega, by go_num, row_keep h1 (by omega), row_keep h2 (by omega), blk_congr (row_self h3) (fun i _ => wide_put F G (5 * m + j) (m + j) _ _ rfl (by rw [d1, d2]; omega) (by rw [d1, d2, if_neg hge]) i), row_below hB (by omega) _⟩
        · obtain rfl : j = 5 := by have := hj'.out; omega
          go_wp2
          go_roundg (go1 - 1)
          case measure => have := hm'.out; omega
          case rel =>
            have hm'' := hm'.out
            exact ⟨m + 1, by omega, by go_num, h1, h2, h3, hB⟩
    · obtain rfl : m = 5 := by have := hm'.out; omega
      have vl : ∀ c, c < 5 → accN F G 25 c < 10384593717069655257060992658440192 := fun c _ => al.out 25 c (by omega)
      have h3' : wr.heap[w.heap.size + 3]? = some (.cells (arr .u64 10 fun i => ((wideN (accN F G 25) i : Nat) : Int)) 108 (0, 0)) := h3
      have ob := ov_big (accN F G 25) vl
      obtain ⟨V, hV⟩ : ∃ V, V = accN F G 25 := ⟨_, rfl⟩
      rw [← hV] at vl h3' ob
      have hV' := Lib.hid hV
      clear h3 al hm' hV
      go_wp2_with (refine wpList_load_arr rfl rfl rfl RTWides h3' ?_)
      have vl' := Lib.hid vl
      have ob' := Lib.hid ob
      clear h3' vl ob h1
      go_loopg [11, 47] 5 (fun n o i wr => ∃ m : Nat, m + n = 5 ∧ i = .int .i64 m ∧ o = .int .u64 ((ovN V m : Nat) : Int) ∧ wr.heap[w.heap.size + 1 + 1]? = some (.cells (arr .u64 5 fun i => ((if i < m then loN V i else 0 : Nat) : Int)) 51 (0, 0)) ∧ Below w.heap.size w wr)
      case atStart => exact ⟨0, rfl, rfl, (by unfold ovN; rfl), blk_congr h2 (fun i _ => by rw [if_neg (Nat.not_lt_zero i)]; rfl), hB⟩
      case round =>
        clear h2 hB
        obtain ⟨m, hm, rfl, rfl, h2, hB⟩ := hrel
        have hm' := Lib.hid hm
        clear hm
        by_cases hlt : m < 5
        · have vb := vl'.out m hlt
          have ob := ob'.out m (by omega)
          obtain ⟨ga, hza, bla⟩ := alloc1 wr (.cells (arr .u64 2 fun _ => 0) 107)
          go_upto_region 18 with (first | (refine wpList_index_row rfl rfl Tryd.underlying108 RTWide rfl rfl (by omega) (by omega) (by omega) (fun i => ((hlN (V m) i : Nat) : Int)) (fun i hi => by rw [wide_at V m _ i (by omega) hi]) ?_) | (refine wpList_alloc_arr rfl rfl ZTWide ?_) | (refine wpList_store_arr rfl rfl rfl rfl RTWide ga ?_))
          have q13 := row_self (c' := arr .u64 2 fun i => ((hlN (V m) i : Nat) : Int)) ga
          have l2 := lt_of_block h2
          replace h2 := row_keep (g := wr.heap.size) (c' := arr .u64 2 fun i => ((hlN (V m) i : Nat) : Int)) (keep_below bla l2 h2) (Nat.ne_of_lt l2)
          have lB := hB.size
          replace hB := row_below (hB.trans (bla.mono hB.size)) hB.size (arr .u64 2 fun i => ((hlN (V m) i : Nat) : Int))
          clear ga hza bla
          generalize (wr.alloc (.cells (arr .u64 2 fun _ => 0) 107)).setRow wr.heap.size (arr .u64 2 fun i => ((hlN (V m) i : Nat) : Int)) = wq at *
          generalize wr.heap.size = BW at *
          (try simp only [Act.put, List.setIfInBounds_toArray, List.set_cons_zero, List.set_cons_succ])
          go_wp2_with (first | (refine wpList_load_arr rfl rfl rfl RTWide q13 ?_) | (go_at_call 63; fail))
          refine (plus_any (V m) (ovN V m) 1 (by omega) (by omega) (by omega) _).mono ?_
          rintro e w4 ⟨rfl, b4⟩
          rw [Nat.mul_one]
          replace h2 := keep_below b4 (lt_of_block h2) h2
          replace q13 := keep_below b4 (lt_of_block q13) q13
          replace hB := hB.trans (b4.mono hB.size)
          clear b4
          go_upto_region 19 with (refine wpList_store_arr rfl rfl rfl rfl RTWide q13 ?_)
          replace h2 := row_keep (g := BW) (c' := arr .u64 2 fun i => ((hlN (V m + ovN V m) i : Nat) : Int)) h2 (Nat.ne_of_lt l2)
          replace hB := row_below hB lB (arr .u64 2 fun i => ((hlN (V m + ovN V m) i : Nat) : Int))
          replace q13 := row_self (c' := arr .u64 2 fun i => ((hlN (V m + ovN V m) i : Nat) : Int)) q13
          generalize w4.setRow BW (arr .u64 2 fun i => ((hlN (V m + ovN V m) i : Nat) : Int)) = w5 at *
          (try simp only [Act.put, List.setIfInBounds_toArray, List.set_cons_zero, List.set_cons_succ])
          obtain ⟨hi, hhi⟩ : ∃ x, x = (V m + ovN V m) / 18446744073709551616 := ⟨_, rfl⟩
          obtain ⟨lo, hlo⟩ : ∃ x, x = (V m + ovN V m) % 18446744073709551616 := ⟨_, rfl⟩
          have c0 : w5.cell? ⟨BW, 0, none⟩ = some (.int .u64 (hi : Int)) := by rw [hhi]; exact cell_arr q13 0 (by omega)
          have c1 : w5.cell? ⟨BW, 1, none⟩ = some (.int .u64 (lo : Int)) := by rw [hlo]; exact cell_arr q13 1 (by omega)
          have am := and_mask1 lo (by omega)
          have hib : hi < 1125899906842624 := by omega
          have lob : lo < 18446744073709551616 := by omega
          have hhi' := Lib.hid hhi
          have hlo' := Lib.hid hlo
          clear hhi hlo vb
          have l13 := lt_of_block q13
          have c2 := cell_arr h2 m hlt
          have fz := free_arr h2 m
          have orf := or_hilo hi lo hib lob
          obtain ⟨ov1, ho1⟩ : ∃ x, x = hi * 8192 + lo / 2251799813685248 := ⟨_, rfl⟩
          rw [← ho1] at orf
          have ho1' := Lib.hid ho1
          clear ho1
          go_region
          go_wp2
          go_roundg (gk - 1)
          case measure => have := hm'.out; omega
          case rel =>
            have hm'' := hm'.out
            have e1 := hhi'.out
            have e2 := hlo'.out
            have e3 := ho1'.out
            refine ⟨m + 1, by omega, by go_num, ?_, blk_congr (set_arr h2 m _) (fun i _ => ?_), (hB.setCell (by show w.heap.size ≤ w.heap.size + 1 + 1; omega) _).drew⟩
            · rw [ovN_succ, e3, e1, e2]; congr 2; omega
            · unfold upd
              by_cases h : i = m
              · rw [if_pos h, h, if_pos (by omega)]
                unfold loN
                omega
              · rw [if_neg h]
                dsimp only
                by_cases h2 : i < m
                · rw [if_pos h2, if_pos (by omega)]
                · rw [if_neg h2, if_neg (by omega)]
        · obtain rfl : m = 5 := by have := hm'.out; omega
          have ob := ob'.out 5 (by omega)
          have fl := Lib.hid (fold_lt V vl'.out)
          replace h2 := blk_congr (f' := fun i => ((loN V i : Nat) : Int)) h2 (fun i hi => by rw [if_pos hi])
          have lb0 : loN V 0 < 2251799813685248 := Nat.mod_lt _ (by omega)
          have lb1 : loN V 1 < 2251799813685248 := Nat.mod_lt _ (by omega)
          obtain ⟨ov, hov⟩ : ∃ x, x = ovN V 5 := ⟨_, rfl⟩
          rw [← hov] at ob ⊢
          have hov' := Lib.hid hov
          clear hov
          go_wp2_with (go_at_call 64; fail)
          refine (Mul64_any ov 19 (by omega) (by omega) _).mono ?_
          rintro e w4 ⟨rfl, rfl⟩
          obtain ⟨mh, hmh⟩ : ∃ x, x = ov * 19 / 18446744073709551616 := ⟨_, rfl⟩
          obtain ⟨ml, hml⟩ : ∃ x, x = ov * 19 % 18446744073709551616 := ⟨_, rfl⟩
          obtain ⟨lz, hlz⟩ : ∃ x, x = loN V 0 := ⟨_, rfl⟩
          have c0 : wr.cell? ⟨w.heap.size + 1 + 1, 0, none⟩ = some (.int .u64 (lz : Int)) := by rw [hlz]; exact cell_arr h2 0 (by omega)
          have c1 := cell_arr h2 1 (by omega)
          have fz0 := free_arr h2 0
          have fz1 := free_arr h2 1
          rw [← hlz] at lb0
          rw [← hmh, ← hml]
          have ra := run_Add64 ml lz
          obtain ⟨al, hal⟩ : ∃ x, x = (ml + lz) % 18446744073709551616 := ⟨_, rfl⟩
          obtain ⟨ac, hac⟩ : ∃ x, x = (ml + lz) / 18446744073709551616 := ⟨_, rfl⟩
          rw [← hal, ← hac] at ra
          have am := and_mask1 al (by omega)
          have hs : mh + ac < 1125899906842624 := by omega
          have orf := or_hilo (mh + ac) al hs (by omega)
          rw [Int.natCast_add] at orf
          obtain ⟨rr, hrr⟩ : ∃ x, x = (mh + ac) * 8192 + al / 2251799813685248 := ⟨_, rfl⟩
          rw [← hrr] at orf
          have rb : rr < 1125899906842624 := by omega
          have alb : al < 18446744073709551616 := by omega
          have t0 : al % 2251799813685248 = (19 * ov + lz) % 2251799813685248 := by omega
          have t1 : rr = (19 * ov + lz) / 2251799813685248 := by omega
          have T0 := Lib.hid t0
          have T1 := Lib.hid t1
          have HLZ := Lib.hid hlz
          clear hlz hmh hml hal hac hrr t0 t1
          go_upto_region 25 with (fail)
          have k2 := blk_congr (f' := fun i => ((foldN V i : Nat) : Int)) (set_arr (set_arr h2 0 (((al : Nat) : Int) % 2251799813685248)) 1 (((loN V 1 : Nat) : Int) + ((rr : Nat) : Int))) (fun i _ => by
            have e0 := T0.out
            have e1 := T1.out
            rw [HLZ.out, hov'.out] at e0 e1
            unfold upd foldN
            by_cases h1 : i = 1
            · rw [if_pos h1, if_neg (by omega), if_pos h1, e1]; omega
            · rw [if_neg h1, if_neg h1]
              by_cases h0 : i = 0
              · rw [if_pos h0, if_pos h0, ← e0]; omega
              · rw [if_neg h0, if_neg h0])
          have lB : w.heap.size ≤ w.heap.size + 1 + 1 := by omega
          have hBk := (hB.setCell (p := ⟨w.heap.size + 1 + 1, 0, none⟩) lB (.int .u64 (((al : Nat) : Int) % 2251799813685248))).setCell (p := ⟨w.heap.size + 1 + 1, 1, none⟩) lB (.int .u64 (((loN V 1 : Nat) : Int) + ((rr : Nat) : Int)))
          clear c0 c1 fz0 fz1 h2 hB
          go_wp2_with (first | (refine wpList_load_arr rfl rfl rfl RTFe k2 ?_) | (go_at_call 58; fail))
          refine (carry_any (foldN V) fl.out _).mono ?_
          rintro e w4 ⟨rfl, b4⟩
          have e2 := keep_below b4 (lt_of_block k2) k2
          have hBe := hBk.trans (b4.mono hBk.size)
          go_wp2_with (refine wpList_store_arr rfl rfl rfl rfl RTFe e2 ?_)
          refine bodyPost_ret (results_arr rfl rfl RTFe (row_self e2)) rfl ⟨?_, row_below hBe (by omega) _⟩
          rw [hV'.out]
          rfl
end Go.Proofs.YtfolbgiekbimpaaDoor
namespace Go.Proofs.YtfolbgiekbimpaaDoor
set_option linter.unusedSimpArgs false
set_option linter.unusedVariables false
open Go.RowKit
attribute [local irreducible] accN leastN byteN prodN carN diffN
/-- What is told of two numbers: a number, where both may be. -/
def told2 (F G H : Nat → Nat) (i : Nat) : Nat := if okF F 5 ∧ okF G 5 then H i else 0
/-- What two numbers' product is told to be. -/
def mulN (F G : Nat → Nat) : Nat → Nat := told2 F G (prodN F G)
def subN (F G : Nat → Nat) : Nat → Nat := told2 F G (carN (diffN F G))
theorem told2_yes {F G : Nat → Nat} (h : okF F 5 ∧ okF G 5) (H : Nat → Nat) : told2 F G H = H := by funext i; unfold told2; rw [if_pos h]
theorem told2_no {F G : Nat → Nat} (h : ¬ (okF F 5 ∧ okF G 5)) (H : Nat → Nat) : told2 F G H = fun _ => 0 := by funext i; unfold told2; rw [if_neg h]

set_option maxRecDepth 100000 in
set_option maxHeartbeats 1000000 in
theorem Mul_any (F G : Nat → Nat) (hF : ∀ i, i < 5 → F i < 18446744073709551616) (hG : ∀ i, i < 5 → G i < 18446744073709551616) (w : World) :
    Calls Tryd.prog 42 #[.agg (arr .u64 5 fun i => ((F i : Nat) : Int)), .agg (arr .u64 5 fun i => ((G i : Nat) : Int))] w fun e w' => e = .returned (.tuple #[.agg (arr .u64 5 fun k => ((mulN F G k : Nat) : Int)), .int .i64 (if okF F 5 ∧ okF G 5 then 0 else 1)]) ∧ Below w.heap.size w w' := by
  go_enter Tryd.func42, Tryd.ntmps42
  obtain ⟨h0, h1, h2, hsz, hb⟩ := alloc3 w (.cells (arr .u64 5 fun i => ((F i : Nat) : Int)) 51) (.cells (arr .u64 5 fun i => ((G i : Nat) : Int)) 51) (.cells (arr .u64 5 fun _ => 0) 51)
  go_upto_region 1 with (refine wpList_alloc_arr rfl rfl ZTFe ?_)
  generalize ((w.alloc (.cells (arr .u64 5 fun i => ((F i : Nat) : Int)) 51)).alloc (.cells (arr .u64 5 fun i => ((G i : Nat) : Int)) 51)).alloc (.cells (arr .u64 5 fun _ => 0) 51) = wa at *
  (try simp only [Act.put, List.setIfInBounds_toArray, List.set_cons_zero, List.set_cons_succ])
  obtain ⟨g3, hz2, bl⟩ := alloc1 wa (.cells (arr .u64 10 fun i => ((two5 F G i : Nat) : Int)) 51)
  rw [hsz] at g3
  go_wp2_with (first | (refine wpList_load_arr rfl rfl rfl RTFe h0 ?_) | (refine wpList_load_arr rfl rfl rfl RTFe h1 ?_) | (refine wpList_bslice rfl rfl Tryd.underlying101 (by simp [Act.eval, Act.put]) (built_two F G) ?_) | (go_at_call 44; fail))
  refine (may_any 2 10 rfl (by omega) (two5 F G) (fun i hi => two5_lt F G _ hF hG i hi) _ _ _ g3).mono ?_
  rintro e w2 ⟨rfl, b2⟩
  have b3 := bl.trans (b2.mono (by omega))
  have q0 := keep_below b3 (by omega) h0
  have q1 := keep_below b3 (by omega) h1
  have q2 := keep_below b3 (by omega) h2
  have hB := hb.trans (b3.mono (by omega))
  clear b2 b3 bl g3 h0 h1 h2 hb hz2 hsz
  by_cases hq : okF F 5 ∧ okF G 5
  · rw [show decide (okF (two5 F G) 10) = true from decide_eq_true ((two5_ok F G).2 hq)]
    have hq' := Lib.hid hq
    go_wp2_with (first | (refine wpList_load_arr rfl rfl rfl RTFe q0 ?_) | (refine wpList_load_arr rfl rfl rfl RTFe q1 ?_) | (go_at_call 47; fail))
    refine (mul_any F G hq'.out.1 hq'.out.2 _).mono ?_
    rintro e w4 ⟨rfl, b4⟩
    have e2 := keep_below b4 (lt_of_block q2) q2
    have hBe := hB.trans (b4.mono hB.size)
    go_wp2_with (refine wpList_store_arr rfl rfl rfl rfl RTFe e2 ?_)
    refine bodyPost_ret (results_arr_tmp rfl rfl rfl RTFe (row_self e2)) rfl ⟨?_, row_below hBe (by omega) _⟩
    unfold mulN
    rw [told2_yes hq'.out]
    first | rfl | (rw [if_pos hq'.out]; rfl)
  · rw [show decide (okF (two5 F G) 10) = false from decide_eq_false fun h => hq ((two5_ok F G).1 h)]
    go_wp2_with (first | (refine wpList_val' rfl (run_op_build rfl (by simp [Act.eval, Act.put]) built_fe) ?_) | (refine wpList_store_arr rfl rfl rfl rfl RTFe q2 ?_))
    refine bodyPost_ret (results_arr_tmp rfl rfl rfl RTFe (row_self q2)) rfl ⟨?_, row_below hB (by omega) _⟩
    unfold mulN
    rw [told2_no hq]
    first | rfl | (rw [if_neg hq]; rfl)

theorem diff_cell (F G : Nat → Nat) (m : Nat) (h : G m < 4503599627370496) : ((F m : Nat) : Int) + (4 * ((mostF m : Nat) : Int) - ((G m : Nat) : Int)) = ((diffN F G m : Nat) : Int) := by
  unfold diffN mostF
  split <;> omega
set_option maxRecDepth 100000 in
set_option maxHeartbeats 1000000 in
theorem Sub_any (F G : Nat → Nat) (hF : ∀ i, i < 5 → F i < 18446744073709551616) (hG : ∀ i, i < 5 → G i < 18446744073709551616) (w : World) :
    Calls Tryd.prog 41 #[.agg (arr .u64 5 fun i => ((F i : Nat) : Int)), .agg (arr .u64 5 fun i => ((G i : Nat) : Int))] w fun e w' => e = .returned (.tuple #[.agg (arr .u64 5 fun k => ((subN F G k : Nat) : Int)), .int .i64 (if okF F 5 ∧ okF G 5 then 0 else 1)]) ∧ Below w.heap.size w w' := by
  go_enter Tryd.func41, Tryd.ntmps41
  obtain ⟨h0, h1, h2, hsz, hb⟩ := alloc3 w (.cells (arr .u64 5 fun i => ((F i : Nat) : Int)) 51) (.cells (arr .u64 5 fun i => ((G i : Nat) : Int)) 51) (.cells (arr .u64 5 fun _ => 0) 51)
  go_upto_region 1 with (refine wpList_alloc_arr rfl rfl ZTFe ?_)
  generalize ((w.alloc (.cells (arr .u64 5 fun i => ((F i : Nat) : Int)) 51)).alloc (.cells (arr .u64 5 fun i => ((G i : Nat) : Int)) 51)).alloc (.cells (arr .u64 5 fun _ => 0) 51) = wa at *
  (try simp only [Act.put, List.setIfInBounds_toArray, List.set_cons_zero, List.set_cons_succ])
  obtain ⟨g3, hz2, bl⟩ := alloc1 wa (.cells (arr .u64 10 fun i => ((two5 F G i : Nat) : Int)) 51)
  rw [hsz] at g3
  go_wp2_with (first | (refine wpList_load_arr rfl rfl rfl RTFe h0 ?_) | (refine wpList_load_arr rfl rfl rfl RTFe h1 ?_) | (refine wpList_bslice rfl rfl Tryd.underlying101 (by simp [Act.eval, Act.put]) (built_two F G) ?_) | (go_at_call 44; fail))
  refine (may_any 2 10 rfl (by omega) (two5 F G) (fun i hi => two5_lt F G _ hF hG i hi) _ _ _ g3).mono ?_
  rintro e w2 ⟨rfl, b2⟩
  have b3 := bl.trans (b2.mono (by omega))
  have q0 := keep_below b3 (by omega) h0
  have q1 := keep_below b3 (by omega) h1
  have q2 := keep_below b3 (by omega) h2
  have hB := hb.trans (b3.mono (by omega))
  clear b2 b3 bl g3 h0 h1 h2 hb hz2 hsz
  by_cases hq : okF F 5 ∧ okF G 5
  · rw [show decide (okF (two5 F G) 10) = true from decide_eq_true ((two5_ok F G).2 hq)]
    have hq' := Lib.hid hq
    go_wp2
    go_loopg [14] 5 (fun n i wr => ∃ m : Nat, m + n = 5 ∧ i = .int .i64 m ∧ wr.heap[w.heap.size]? = some (.cells (arr .u64 5 fun i => ((if i < m then diffN F G i else F i : Nat) : Int)) 51 (0, 0)) ∧
      wr.heap[w.heap.size + 1]? = some (.cells (arr .u64 5 fun i => ((G i : Nat) : Int)) 51 (0, 0)) ∧ wr.heap[w.heap.size + 1 + 1]? = some (.cells (arr .u64 5 fun _ => 0) 51 (0, 0)) ∧ Below w.heap.size w wr)
    case atStart => exact ⟨0, rfl, rfl, blk_congr q0 (fun i _ => by rw [if_neg (Nat.not_lt_zero i)]), q1, q2, hB⟩
    case round =>
      clear q0 q1 q2 hB
      obtain ⟨m, hm, rfl, q0, q1, q2, hB⟩ := hrel
      have hm' := Lib.hid hm
      clear hm
      by_cases hlt : m < 5
      · have f1 := hq'.out.1 m hlt
        have f2 := hq'.out.2 m hlt
        have c0 := cell_arr q0 m hlt
        have c1 := cell_arr q1 m hlt
        have fz := free_arr q0 m
        simp only [Nat.lt_irrefl, if_false] at c0
        have dc := diff_cell F G m f2
        by_cases h0 : m = 0
        all_goals
          first | (have hm0 : ((m : Int) == 0) = true := by simp [h0]) | (have hm0 : ((m : Int) == 0) = false := by simp [h0])
          have H0 := Lib.hid h0
          clear h0 dc
          go_wp2
          refine wp_region_tail 11 (by kernel_rfl) (by kernel_rfl) ?_
          (simp only [List.take_succ_cons, List.take_zero, List.drop_succ_cons, List.drop_zero])
          repeat (refine wpStill_step (fun K hK => ?_); go_simp; (try (simp only [↓IntWalk.iteOmega]; go_simp)); (try go_bits); refine hK _ ?_; clear hK K)
          refine wpStill_nil ?_
          go_wp2
          go_roundg (gk - 1)
          case measure => have := hm'.out; omega
          case rel =>
            have hm'' := hm'.out
            have h0 := H0.out
            have dc := diff_cell F G m f2
            unfold mostF at dc
            first | rw [if_pos h0] at dc | rw [if_neg h0] at dc
            refine ⟨m + 1, by omega, by go_num, blk_congr (set_arr q0 m _) (fun i _ => ?_), keep_arr q1 _ _ (by omega), keep_arr q2 _ _ (by omega), (hB.setCell (Nat.le_refl _) _).drew⟩
            unfold upd
            by_cases h : i = m
            · rw [if_pos h, h, if_pos (by omega), ← dc]; omega
            · rw [if_neg h]
              dsimp only
              by_cases h2 : i < m
              · rw [if_pos h2, if_pos (by omega)]
              · rw [if_neg h2, if_neg (by omega)]
      · obtain rfl : m = 5 := by have := hm'.out; omega
        have p0 := blk_congr (f' := fun i => ((diffN F G i : Nat) : Int)) q0 (fun i hi => by rw [if_pos hi])
        clear q0
        go_wp2_with (first | (refine wpList_load_arr rfl rfl rfl RTFe p0 ?_) | (go_at_call 58; fail))
        refine (carry_any (diffN F G) (fun i hi => diff_lt F G hq'.out.1 i hi) _).mono ?_
        rintro e w4 ⟨rfl, b4⟩
        have e2 := keep_below b4 (lt_of_block q2) q2
        have hBe := hB.trans (b4.mono hB.size)
        go_wp2_with (refine wpList_store_arr rfl rfl rfl rfl RTFe e2 ?_)
        refine bodyPost_ret (results_arr_tmp rfl rfl rfl RTFe (row_self e2)) rfl ⟨?_, row_below hBe (by omega) _⟩
        unfold subN
        rw [told2_yes hq'.out]
        first | rfl | (rw [if_pos hq'.out]; rfl)
  · rw [show decide (okF (two5 F G) 10) = false from decide_eq_false fun h => hq ((two5_ok F G).1 h)]
    go_wp2_with (first | (refine wpList_val' rfl (run_op_build rfl (by simp [Act.eval, Act.put]) built_fe) ?_) | (refine wpList_store_arr rfl rfl rfl rfl RTFe q2 ?_))
    refine bodyPost_ret (results_arr_tmp rfl rfl rfl RTFe (row_self q2)) rfl ⟨?_, row_below hB (by omega) _⟩
    unfold subN
    rw [told2_no hq]
    first | rfl | (rw [if_neg hq]; rfl)
end Go.Proofs.YtfolbgiekbimpaaDoor
namespace Go.Proofs.YtfolbgiekbimpaaDoor
set_option linter.unusedSimpArgs false
set_option linter.unusedVariables false
open Go.RowKit
attribute [local irreducible] accN leastN byteN prodN carN diffN
/-- A number, so often squared. -/
def sqN (F : Nat → Nat) : Nat → Nat → Nat
  | 0 => F
  | n + 1 => prodN (sqN F n) (sqN F n)
theorem sq_ok (F : Nat → Nat) (hF : okF F 5) : ∀ n, okF (sqN F n) 5
  | 0 => hF
  | n + 1 => prod_ok _ _ (sq_ok F hF n) (sq_ok F hF n)
theorem sqN_succ (F : Nat → Nat) (n : Nat) : sqN F (n + 1) = prodN (sqN F n) (sqN F n) := rfl
attribute [local irreducible] sqN
set_option maxRecDepth 100000 in
set_option maxHeartbeats 1000000 in
theorem square_any (F : Nat → Nat) (hF : okF F 5) (N : Nat) (hN : N < 1000) (w : World) :
    Calls Tryd.prog 48 #[.agg (arr .u64 5 fun i => ((F i : Nat) : Int)), .int .i64 N] w fun e w' => e = .returned (.agg (arr .u64 5 fun k => ((sqN F N k : Nat) : Int))) ∧ Below w.heap.size w w' := by
  go_enter Tryd.func48, Tryd.ntmps48
  obtain ⟨h0, h1, hsz, hb⟩ := alloc2 w (.cells (arr .u64 5 fun i => ((F i : Nat) : Int)) 51) (.cells (arr .u64 5 fun _ => 0) 51)
  go_upto_region 1 with (refine wpList_alloc_arr rfl rfl ZTFe ?_)
  generalize (w.alloc (.cells (arr .u64 5 fun i => ((F i : Nat) : Int)) 51)).alloc (.cells (arr .u64 5 fun _ => 0) 51) = wa at *
  (try simp only [Act.put, List.setIfInBounds_toArray, List.set_cons_zero, List.set_cons_succ])
  simp only [World.size_alloc]
  have hF' := Lib.hid hF
  clear hF hsz
  go_wp2
  go_loopg [6] N (fun n i wr => ∃ m : Nat, m + n = N ∧ i = .int .i64 m ∧ wr.heap[w.heap.size]? = some (.cells (arr .u64 5 fun i => ((sqN F m i : Nat) : Int)) 51 (0, 0)) ∧
    wr.heap[w.heap.size + 1]? = some (.cells (arr .u64 5 fun _ => 0) 51 (0, 0)) ∧ Below w.heap.size w wr)
  case atStart => exact ⟨0, by omega, rfl, (by unfold sqN; exact h0), h1, hb⟩
  case round =>
    clear h0 h1 hb
    obtain ⟨m, hm, rfl, h0, h1, hB⟩ := hrel
    have hm' := Lib.hid hm
    clear hm
    by_cases hlt : m < N
    · have ok := Lib.hid (sq_ok F hF'.out m)
      go_wp2_with (first | (refine wpList_load_arr rfl rfl rfl RTFe h0 ?_) | (go_at_call 47; fail))
      refine (mul_any (sqN F m) (sqN F m) ok.out ok.out _).mono ?_
      rintro e w4 ⟨rfl, b4⟩
      replace h0 := keep_below b4 (lt_of_block h0) h0
      replace h1 := keep_below b4 (lt_of_block h1) h1
      replace hB := hB.trans (b4.mono hB.size)
      clear b4
      go_wp2_with (refine wpList_store_arr rfl rfl rfl rfl RTFe h0 ?_)
      go_roundg (gk - 1)
      case measure => have := hm'.out; omega
      case rel =>
        have hm'' := hm'.out
        exact ⟨m + 1, by omega, by go_num, (by rw [sqN_succ]; exact row_self h0), row_keep h1 (by omega), row_below hB (Nat.le_refl _) _⟩
    · obtain rfl : m = N := by have := hm'.out; omega
      go_wp2_with (first | (refine wpList_load_arr rfl rfl rfl RTFe h0 ?_) | (refine wpList_store_arr rfl rfl rfl rfl RTFe h1 ?_))
      exact bodyPost_ret (results_arr rfl rfl RTFe (row_self h1)) rfl ⟨rfl, row_below hB (by omega) _⟩

/-- A number, so often squared, and a product. -/
def onesN (X : Nat → Nat) (n : Nat) (Y : Nat → Nat) : Nat → Nat := prodN (sqN X n) Y
theorem ones_ok (X Y : Nat → Nat) (n : Nat) (hX : okF X 5) (hY : okF Y 5) : okF (onesN X n Y) 5 := prod_ok _ _ (sq_ok X hX n) hY
set_option maxRecDepth 100000 in
set_option maxHeartbeats 1000000 in
theorem ones_any (X Y : Nat → Nat) (hX : okF X 5) (hY : okF Y 5) (N : Nat) (hN : N < 1000) (w : World) :
    Calls Tryd.prog 46 #[.agg (arr .u64 5 fun i => ((X i : Nat) : Int)), .int .i64 N, .agg (arr .u64 5 fun i => ((Y i : Nat) : Int))] w fun e w' => e = .returned (.agg (arr .u64 5 fun k => ((onesN X N Y k : Nat) : Int))) ∧ Below w.heap.size w w' := by
  go_enter Tryd.func46, Tryd.ntmps46
  obtain ⟨h0, h1, h2, hsz, hb⟩ := alloc3 w (.cells (arr .u64 5 fun i => ((X i : Nat) : Int)) 51) (.cells (arr .u64 5 fun i => ((Y i : Nat) : Int)) 51) (.cells (arr .u64 5 fun _ => 0) 51)
  go_upto_region 1 with (refine wpList_alloc_arr rfl rfl ZTFe ?_)
  generalize ((w.alloc (.cells (arr .u64 5 fun i => ((X i : Nat) : Int)) 51)).alloc (.cells (arr .u64 5 fun i => ((Y i : Nat) : Int)) 51)).alloc (.cells (arr .u64 5 fun _ => 0) 51) = wa at *
  (try simp only [Act.put, List.setIfInBounds_toArray, List.set_cons_zero, List.set_cons_succ])
  simp only [World.size_alloc]
  refine wp_region_free 5 [Is (.agg (arr .u64 5 fun i => ((X i : Nat) : Int))), Is (.int .i64 N), Is (.agg (arr .u64 5 fun k => ((sqN X N k : Nat) : Int))), Is (.agg (arr .u64 5 fun i => ((Y i : Nat) : Int))), Is (.agg (arr .u64 5 fun k => ((onesN X N Y k : Nat) : Int)))]
    [[], [], [0, 1], [], [2, 3]] (by kernel_rfl) (by kernel_rfl) rfl (st_cons (is_stays _) (st_cons (is_stays _) (st_cons (is_stays _) (st_cons (is_stays _) (st_cons (is_stays _) st_nil))))) ?_ ?_
  · (simp only [List.take_succ_cons, List.take_zero, List.drop_succ_cons, List.drop_zero, List.zip_cons_cons, List.zip_nil_left, List.zip_nil_right, freeOps, allV, under, factAt, fillA, List.getElem?_cons_zero, List.getElem?_cons_succ, List.range_succ, List.range_zero, List.nil_append, List.cons_append, Act.put, List.setIfInBounds_toArray, List.set_cons_zero, List.set_cons_succ])
    refine ⟨?_, ?_, ?_, ?_, ?_, trivial⟩
    · intro x0 x1 x2 x3 x4 w' hb'
      exact free_load_arr rfl rfl rfl RTFe (keep_below hb' (lt_of_block (w := wa) h0) h0) rfl
    · intro x0 x1 x2 x3 x4 w' hb'
      exact free_move rfl rfl rfl
    · intro x0 x1 x2 x3 x4 w' hb' e0 e1
      unfold Is at e0 e1
      subst e0 e1
      refine free_e rfl (fun K hK => ?_)
      go_simp
      refine (square_any X hX N hN _).mono ?_
      rintro e w4 ⟨rfl, b4⟩
      exact hK _ _ b4 rfl
    · intro x0 x1 x2 x3 x4 w' hb'
      exact free_load_arr rfl rfl rfl RTFe (keep_below hb' (lt_of_block (w := wa) h1) h1) rfl
    · intro x0 x1 x2 x3 x4 w' hb' e0 e1
      unfold Is at e0 e1
      subst e0 e1
      refine free_e rfl (fun K hK => ?_)
      go_simp
      refine (mul_any _ Y (sq_ok X hX N) hY _).mono ?_
      rintro e w4 ⟨rfl, b4⟩
      exact hK _ _ b4 rfl
  · (simp only [List.take_succ_cons, List.take_zero, List.drop_succ_cons, List.drop_zero, List.zip_cons_cons, List.zip_nil_left, List.zip_nil_right, freeOps, allV, under, factAt, fillA, List.getElem?_cons_zero, List.getElem?_cons_succ, List.range_succ, List.range_zero, List.nil_append, List.cons_append, Act.put, List.setIfInBounds_toArray, List.set_cons_zero, List.set_cons_succ])
    intro x0 x1 x2 x3 x4 w' hb' e0 e1 e2 e3 e4
    unfold Is at e0 e1 e2 e3 e4
    subst e0 e1 e2 e3 e4
    replace h2 := keep_below hb' (lt_of_block (w := wa) h2) h2
    have hB := (hb.drew).trans (hb'.mono hb.size)
    go_wp2_with (refine wpList_store_arr rfl rfl rfl rfl RTFe h2 ?_)
    exact bodyPost_ret (results_arr rfl rfl RTFe (row_self h2)) rfl ⟨rfl, row_below hB (by omega) _⟩
end Go.Proofs.YtfolbgiekbimpaaDoor
namespace Go.Proofs.YtfolbgiekbimpaaDoor
set_option linter.unusedSimpArgs false
set_option linter.unusedVariables false
open Go.RowKit
attribute [local irreducible] accN leastN byteN prodN carN diffN sqN
/-- What is told of a number: a number, where it may be. -/
def told1 (F H : Nat → Nat) (i : Nat) : Nat := if okF F 5 then H i else 0
theorem told1_yes {F : Nat → Nat} (h : okF F 5) (H : Nat → Nat) : told1 F H = H := by funext i; unfold told1; rw [if_pos h]
theorem told1_no {F : Nat → Nat} (h : ¬ okF F 5) (H : Nat → Nat) : told1 F H = fun _ => 0 := by funext i; unfold told1; rw [if_neg h]
def i_two (F : Nat → Nat) : Nat → Nat := sqN F 1
def i_nine (F : Nat → Nat) : Nat → Nat := onesN (i_two F) 2 F
def i_eleven (F : Nat → Nat) : Nat → Nat := prodN (i_nine F) (i_two F)
def i_five (F : Nat → Nat) : Nat → Nat := prodN (sqN (i_eleven F) 1) (i_nine F)
def i_ten (F : Nat → Nat) : Nat → Nat := onesN (i_five F) 5 (i_five F)
def i_twenty (F : Nat → Nat) : Nat → Nat := onesN (i_ten F) 10 (i_ten F)
def i_forty (F : Nat → Nat) : Nat → Nat := onesN (i_twenty F) 20 (i_twenty F)
def i_fifty (F : Nat → Nat) : Nat → Nat := onesN (i_forty F) 10 (i_ten F)
def i_hundred (F : Nat → Nat) : Nat → Nat := onesN (i_fifty F) 50 (i_fifty F)
def i_double (F : Nat → Nat) : Nat → Nat := onesN (i_hundred F) 100 (i_hundred F)
def i_most (F : Nat → Nat) : Nat → Nat := onesN (i_double F) 50 (i_fifty F)
/-- What a number is divided by. -/
def invN (F : Nat → Nat) : Nat → Nat := onesN (i_most F) 5 (i_eleven F)
theorem ok_two {F : Nat → Nat} (h : okF F 5) : okF (i_two F) 5 := sq_ok F h 1
theorem ok_nine {F : Nat → Nat} (h : okF F 5) : okF (i_nine F) 5 := ones_ok _ _ _ (ok_two h) h
theorem ok_eleven {F : Nat → Nat} (h : okF F 5) : okF (i_eleven F) 5 := prod_ok _ _ (ok_nine h) (ok_two h)
theorem ok_five {F : Nat → Nat} (h : okF F 5) : okF (i_five F) 5 := prod_ok _ _ (sq_ok _ (ok_eleven h) 1) (ok_nine h)
theorem ok_ten {F : Nat → Nat} (h : okF F 5) : okF (i_ten F) 5 := ones_ok _ _ _ (ok_five h) (ok_five h)
theorem ok_twenty {F : Nat → Nat} (h : okF F 5) : okF (i_twenty F) 5 := ones_ok _ _ _ (ok_ten h) (ok_ten h)
theorem ok_forty {F : Nat → Nat} (h : okF F 5) : okF (i_forty F) 5 := ones_ok _ _ _ (ok_twenty h) (ok_twenty h)
theorem ok_fifty {F : Nat → Nat} (h : okF F 5) : okF (i_fifty F) 5 := ones_ok _ _ _ (ok_forty h) (ok_ten h)
theorem ok_hundred {F : Nat → Nat} (h : okF F 5) : okF (i_hundred F) 5 := ones_ok _ _ _ (ok_fifty h) (ok_fifty h)
theorem ok_double {F : Nat → Nat} (h : okF F 5) : okF (i_double F) 5 := ones_ok _ _ _ (ok_hundred h) (ok_hundred h)
theorem ok_most {F : Nat → Nat} (h : okF F 5) : okF (i_most F) 5 := ones_ok _ _ _ (ok_double h) (ok_fifty h)
theorem ok_inv {F : Nat → Nat} (h : okF F 5) : okF (invN F) 5 := ones_ok _ _ _ (ok_most h) (ok_eleven h)
attribute [local irreducible] i_two i_nine i_eleven i_five i_ten i_twenty i_forty i_fifty i_hundred i_double i_most onesN
def SqPost (F : Nat → Nat) (n : Int) (w : World) (e : Ending) (w' : World) : Prop :=
  (if okF F 5 ∧ 0 ≤ n ∧ n ≤ 300 then e = .returned (.tuple #[.agg (arr .u64 5 fun k => ((sqN F n.toNat k : Nat) : Int)), .int .i64 0]) else e = .returned (.tuple #[.agg (arr .u64 5 fun _ => 0), .int .i64 1])) ∧ Below w.heap.size w w'
set_option maxRecDepth 100000 in
set_option maxHeartbeats 1000000 in
theorem Square_any (F : Nat → Nat) (hF : ∀ i, i < 5 → F i < 18446744073709551616) (n : Int) (hn : -9223372036854775808 ≤ n ∧ n < 9223372036854775808) (w : World) :
    Calls Tryd.prog 43 #[.agg (arr .u64 5 fun i => ((F i : Nat) : Int)), .int .i64 n] w (SqPost F n w) := by
  go_enter Tryd.func43, Tryd.ntmps43
  obtain ⟨h0, h1, hsz, hb⟩ := alloc2 w (.cells (arr .u64 5 fun i => ((F i : Nat) : Int)) 51) (.cells (arr .u64 5 fun _ => 0) 51)
  go_upto_region 1 with (refine wpList_alloc_arr rfl rfl ZTFe ?_)
  generalize (w.alloc (.cells (arr .u64 5 fun i => ((F i : Nat) : Int)) 51)).alloc (.cells (arr .u64 5 fun _ => 0) 51) = wa at *
  (try simp only [Act.put, List.setIfInBounds_toArray, List.set_cons_zero, List.set_cons_succ])
  try simp only [World.size_alloc]
  obtain ⟨g3, hz2, bl⟩ := alloc1 wa (.cells (arr .u64 5 fun i => ((F i : Nat) : Int)) 51)
  rw [hsz] at g3
  go_wp2_with (first | (refine wpList_load_arr rfl rfl rfl RTFe h0 ?_) | (refine wpList_bslice rfl rfl Tryd.underlying101 (by simp [Act.eval, Act.put]) (built_one fun i => ((F i : Nat) : Int)) ?_) | (go_at_call 44; fail))
  refine (may_any 1 5 rfl (by omega) F hF _ _ _ g3).mono ?_
  rintro e w2 ⟨rfl, b2⟩
  have b3 := bl.trans (b2.mono (by omega))
  replace h0 := keep_below b3 (by omega) h0
  replace h1 := keep_below b3 (by omega) h1
  replace hb := hb.trans (b3.mono (by omega))
  clear b2 b3 bl g3 hz2 hsz
  by_cases hq : okF F 5
  · rw [show decide (okF F 5) = true from decide_eq_true hq]
    have hq' := Lib.hid hq
    by_cases h2 : n < 0
    · go_wp2_with (first | (refine wpList_val' rfl (run_op_build rfl (by simp [Act.eval, Act.put]) built_fe) ?_) | (refine wpList_store_arr rfl rfl rfl rfl RTFe h1 ?_))
      refine bodyPost_ret (results_arr_tmp rfl rfl rfl RTFe (row_self h1)) rfl ⟨?_, row_below hb (by omega) _⟩
      rw [if_neg (by omega)]; rfl
    · by_cases h3 : 300 < n
      · go_wp2_with (first | (refine wpList_val' rfl (run_op_build rfl (by simp [Act.eval, Act.put]) built_fe) ?_) | (refine wpList_store_arr rfl rfl rfl rfl RTFe h1 ?_))
        refine bodyPost_ret (results_arr_tmp rfl rfl rfl RTFe (row_self h1)) rfl ⟨?_, row_below hb (by omega) _⟩
        rw [if_neg (by omega)]; rfl
      · obtain ⟨m, rfl⟩ := Int.eq_ofNat_of_zero_le (show 0 ≤ n by omega)
        go_wp2_with (first | (refine wpList_load_arr rfl rfl rfl RTFe h0 ?_) | (go_at_call 48; fail))
        refine (square_any F hq'.out m (by omega) _).mono ?_
        rintro e w4 ⟨rfl, b4⟩
        replace h1 := keep_below b4 (lt_of_block h1) h1
        replace hb := hb.trans (b4.mono hb.size)
        go_wp2_with (refine wpList_store_arr rfl rfl rfl rfl RTFe h1 ?_)
        refine bodyPost_ret (results_arr_tmp rfl rfl rfl RTFe (row_self h1)) rfl ⟨?_, row_below hb (by omega) _⟩
        rw [if_pos ⟨hq'.out, by omega, by omega⟩]; rfl
  · rw [show decide (okF F 5) = false from decide_eq_false hq]
    go_wp2_with (first | (refine wpList_val' rfl (run_op_build rfl (by simp [Act.eval, Act.put]) built_fe) ?_) | (refine wpList_store_arr rfl rfl rfl rfl RTFe h1 ?_))
    refine bodyPost_ret (results_arr_tmp rfl rfl rfl RTFe (row_self h1)) rfl ⟨?_, row_below hb (by omega) _⟩
    rw [if_neg (fun h => hq h.1)]; rfl
theorem Square_yes (F : Nat → Nat) (hF : okF F 5) (n : Nat) (hn : n ≤ 300) (w : World) :
    Calls Tryd.prog 43 #[.agg (arr .u64 5 fun i => ((F i : Nat) : Int)), .int .i64 n] w fun e w' => e = .returned (.tuple #[.agg (arr .u64 5 fun k => ((sqN F n k : Nat) : Int)), .int .i64 0]) ∧ Below w.heap.size w w' :=
  (Square_any F (fun i hi => by have := hF i hi; omega) n (by omega) w).mono fun e w' h => by
    unfold SqPost at h
    rw [if_pos ⟨hF, by omega, by omega⟩] at h
    exact h
set_option maxRecDepth 100000 in
set_option maxHeartbeats 4000000 in
theorem Invert_any (F : Nat → Nat) (hF : ∀ i, i < 5 → F i < 18446744073709551616) (w : World) :
    Calls Tryd.prog 31 #[.agg (arr .u64 5 fun i => ((F i : Nat) : Int))] w fun e w' => e = .returned (.tuple #[.agg (arr .u64 5 fun k => ((told1 F (invN F) k : Nat) : Int)), .int .i64 (if okF F 5 then 0 else 1)]) ∧ Below w.heap.size w w' := by
  go_enter Tryd.func31, Tryd.ntmps31
  obtain ⟨h0, h1, hsz, hb⟩ := alloc2 w (.cells (arr .u64 5 fun i => ((F i : Nat) : Int)) 51) (.cells (arr .u64 5 fun _ => 0) 51)
  go_upto_region 1 with (refine wpList_alloc_arr rfl rfl ZTFe ?_)
  generalize (w.alloc (.cells (arr .u64 5 fun i => ((F i : Nat) : Int)) 51)).alloc (.cells (arr .u64 5 fun _ => 0) 51) = wa at *
  (try simp only [Act.put, List.setIfInBounds_toArray, List.set_cons_zero, List.set_cons_succ])
  try simp only [World.size_alloc]
  obtain ⟨g3, hz2, bl⟩ := alloc1 wa (.cells (arr .u64 5 fun i => ((F i : Nat) : Int)) 51)
  rw [hsz] at g3
  go_wp2_with (first | (refine wpList_load_arr rfl rfl rfl RTFe h0 ?_) | (refine wpList_bslice rfl rfl Tryd.underlying101 (by simp [Act.eval, Act.put]) (built_one fun i => ((F i : Nat) : Int)) ?_) | (go_at_call 44; fail))
  refine (may_any 1 5 rfl (by omega) F hF _ _ _ g3).mono ?_
  rintro e w2 ⟨rfl, b2⟩
  have b3 := bl.trans (b2.mono (by omega))
  replace h0 := keep_below b3 (by omega) h0
  replace h1 := keep_below b3 (by omega) h1
  replace hb := hb.trans (b3.mono (by omega))
  clear b2 b3 bl g3 hz2 hsz
  by_cases hq : okF F 5
  · rw [show decide (okF F 5) = true from decide_eq_true hq]
    have hq' := Lib.hid hq
    clear hq
    go_wp2_with (first | (refine wpList_load_arr rfl rfl rfl RTFe h0 ?_) | (go_at_call 48; fail))
    refine (square_any F hq'.out 1 (by omega) _).mono ?_
    rintro e w4 ⟨rfl, b4⟩
    replace h0 := keep_below b4 (lt_of_block h0) h0
    replace h1 := keep_below b4 (lt_of_block h1) h1
    replace hb := hb.trans (b4.mono hb.size)
    clear b4
    rw [show (fun k => ((sqN F 1 k : Nat) : Int)) = fun k => ((i_two F k : Nat) : Int) from by unfold i_two; rfl]
    go_upto_region 5 with (refine wpList_new_arr rfl rfl rfl rfl ZTFe RTFe rfl rfl ?_; intro w8 g2 b8 hs8)
    have l0 := lt_of_block h1
    replace h0 := keep_below b8 (lt_of_block h0) h0
    replace h1 := keep_below b8 (lt_of_block h1) h1
    replace hb := hb.trans (b8.mono hb.size)
    clear b8 hs8
    obtain ⟨Bg2, hBg2⟩ : ∃ B, B = w4.heap.size := ⟨_, rfl⟩
    rw [← hBg2] at l0 g2 ⊢
    clear hBg2
    (try simp only [Act.put, List.setIfInBounds_toArray, List.set_cons_zero, List.set_cons_succ])
    go_wp2_with (first | (refine wpList_load_arr rfl rfl rfl RTFe g2 ?_) | (refine wpList_load_arr rfl rfl rfl RTFe h0 ?_) | (go_at_call 46; fail))
    refine (ones_any (i_two F) F (ok_two hq'.out) hq'.out 2 (by omega) _).mono ?_
    rintro e w4 ⟨rfl, b4⟩
    replace h0 := keep_below b4 (lt_of_block h0) h0
    replace h1 := keep_below b4 (lt_of_block h1) h1
    replace g2 := keep_below b4 (lt_of_block g2) g2
    replace hb := hb.trans (b4.mono hb.size)
    clear b4
    rw [show (fun k => ((onesN (i_two F) 2 F k : Nat) : Int)) = fun k => ((i_nine F k : Nat) : Int) from by unfold i_nine; rfl]
    go_upto_region 6 with (refine wpList_new_arr rfl rfl rfl rfl ZTFe RTFe rfl rfl ?_; intro w8 g9 b8 hs8)
    have l0 := lt_of_block h1
    replace h0 := keep_below b8 (lt_of_block h0) h0
    replace h1 := keep_below b8 (lt_of_block h1) h1
    replace g2 := keep_below b8 (lt_of_block g2) g2
    replace hb := hb.trans (b8.mono hb.size)
    clear b8 hs8
    obtain ⟨Bg9, hBg9⟩ : ∃ B, B = w4.heap.size := ⟨_, rfl⟩
    rw [← hBg9] at l0 g9 ⊢
    clear hBg9
    (try simp only [Act.put, List.setIfInBounds_toArray, List.set_cons_zero, List.set_cons_succ])
    go_wp2_with (first | (refine wpList_load_arr rfl rfl rfl RTFe g9 ?_) | (refine wpList_load_arr rfl rfl rfl RTFe g2 ?_) | (go_at_call 47; fail))
    refine (mul_any (i_nine F) (i_two F) (ok_nine hq'.out) (ok_two hq'.out) _).mono ?_
    rintro e w4 ⟨rfl, b4⟩
    replace h0 := keep_below b4 (lt_of_block h0) h0
    replace h1 := keep_below b4 (lt_of_block h1) h1
    replace g2 := keep_below b4 (lt_of_block g2) g2
    replace g9 := keep_below b4 (lt_of_block g9) g9
    replace hb := hb.trans (b4.mono hb.size)
    clear b4
    rw [show (fun k => ((prodN (i_nine F) (i_two F) k : Nat) : Int)) = fun k => ((i_eleven F k : Nat) : Int) from by unfold i_eleven; rfl]
    go_upto_region 7 with (refine wpList_new_arr rfl rfl rfl rfl ZTFe RTFe rfl rfl ?_; intro w8 g11 b8 hs8)
    have l0 := lt_of_block h1
    replace h0 := keep_below b8 (lt_of_block h0) h0
    replace h1 := keep_below b8 (lt_of_block h1) h1
    replace g2 := keep_below b8 (lt_of_block g2) g2
    replace g9 := keep_below b8 (lt_of_block g9) g9
    replace hb := hb.trans (b8.mono hb.size)
    clear b8 hs8
    obtain ⟨Bg11, hBg11⟩ : ∃ B, B = w4.heap.size := ⟨_, rfl⟩
    rw [← hBg11] at l0 g11 ⊢
    clear hBg11
    (try simp only [Act.put, List.setIfInBounds_toArray, List.set_cons_zero, List.set_cons_succ])
    clear h0 g2
    have ho := hb.size
    obtain ⟨wq, rfl⟩ : ∃ x, x = w8 := ⟨_, rfl⟩
    refine wp_region_free 5 [Is (.agg (arr .u64 5 fun k => ((i_eleven F k : Nat) : Int))), Is (.agg (arr .u64 5 fun k => ((sqN (i_eleven F) 1 k : Nat) : Int))), Is (.agg (arr .u64 5 fun k => ((i_nine F k : Nat) : Int))), Is (.agg (arr .u64 5 fun k => ((i_five F k : Nat) : Int))), NewAt wq.heap.size (.cells (arr .u64 5 fun _ => 0) 51)] [[], [0], [], [1, 2], []] (by kernel_rfl) (by kernel_rfl) rfl (st_cons (is_stays _) (st_cons (is_stays _) (st_cons (is_stays _) (st_cons (is_stays _) (st_cons (new_stays _ _) st_nil))))) ?_ ?_
    · (simp only [List.take_succ_cons, List.take_zero, List.drop_succ_cons, List.drop_zero, List.zip_cons_cons, List.zip_nil_left, List.zip_nil_right, freeOps, allV, under, factAt, fillA, List.getElem?_cons_zero, List.getElem?_cons_succ, List.range_succ, List.range_zero, List.nil_append, List.cons_append, Act.put, List.setIfInBounds_toArray, List.set_cons_zero, List.set_cons_succ])
      refine ⟨?_, ?_, ?_, ?_, ?_, trivial⟩
      · intro x0 x1 x2 x3 x4 w' hb' 
        exact free_load_arr rfl rfl rfl RTFe (keep_below hb' (lt_of_block (w := wq) g11) g11) rfl
      · intro x0 x1 x2 x3 x4 w' hb' e0
        unfold Is at e0
        subst e0
        refine free_e rfl (fun K hK => ?_)
        go_simp
        refine (square_any (i_eleven F) (ok_eleven hq'.out) 1 (by omega) _).mono ?_
        rintro e w4 ⟨rfl, b4⟩
        exact hK _ _ b4 (by unfold Is; rfl)
      · intro x0 x1 x2 x3 x4 w' hb' 
        exact free_load_arr rfl rfl rfl RTFe (keep_below hb' (lt_of_block (w := wq) g9) g9) rfl
      · intro x0 x1 x2 x3 x4 w' hb' e0 e1
        unfold Is at e0 e1
        subst e0 e1
        refine free_e rfl (fun K hK => ?_)
        go_simp
        refine (mul_any (sqN (i_eleven F) 1) (i_nine F) (sq_ok _ (ok_eleven hq'.out) 1) (ok_nine hq'.out) _).mono ?_
        rintro e w4 ⟨rfl, b4⟩
        exact hK _ _ b4 (by unfold Is i_five; rfl)
      · intro x0 x1 x2 x3 x4 w' hb' 
        exact free_alloc_arr rfl rfl ZTFe ⟨_, rfl, hb'.size, heap_alloc_new _ _⟩
    · (simp only [List.take_succ_cons, List.take_zero, List.drop_succ_cons, List.drop_zero, List.zip_cons_cons, List.zip_nil_left, List.zip_nil_right, freeOps, allV, under, factAt, fillA, List.getElem?_cons_zero, List.getElem?_cons_succ, List.range_succ, List.range_zero, List.nil_append, List.cons_append, Act.put, List.setIfInBounds_toArray, List.set_cons_zero, List.set_cons_succ])
      rintro x0 x1 x2 x3 x4 w5 hb' e0 e1 e2 e3 e4
      unfold Is at e0 e1 e2 e3
      subst e0 e1 e2 e3
      obtain ⟨Bg5, rfl, lB, g5⟩ := e4
      replace lB : wq.heap.size ≤ Bg5 := lB
      replace hb := (hb.drew).trans (hb'.mono hb.size)
      have l_h1 := Nat.lt_of_lt_of_le (lt_of_block (w := wq) h1) lB
      replace h1 := keep_below hb' (lt_of_block (w := wq) h1) h1
      have l_g9 := Nat.lt_of_lt_of_le (lt_of_block (w := wq) g9) lB
      replace g9 := keep_below hb' (lt_of_block (w := wq) g9) g9
      have l_g11 := Nat.lt_of_lt_of_le (lt_of_block (w := wq) g11) lB
      replace g11 := keep_below hb' (lt_of_block (w := wq) g11) g11
      go_upto_region 8 with (refine wpList_store_arr rfl rfl rfl rfl RTFe g5 ?_)
      replace h1 := row_keep (g := Bg5) (c' := arr .u64 5 fun k => ((i_five F k : Nat) : Int)) h1 (Nat.ne_of_lt l_h1)
      replace g9 := row_keep (g := Bg5) (c' := arr .u64 5 fun k => ((i_five F k : Nat) : Int)) g9 (Nat.ne_of_lt l_g9)
      replace g11 := row_keep (g := Bg5) (c' := arr .u64 5 fun k => ((i_five F k : Nat) : Int)) g11 (Nat.ne_of_lt l_g11)
      replace g5 := row_self (c' := arr .u64 5 fun k => ((i_five F k : Nat) : Int)) g5
      replace hb := row_below (g := Bg5) hb (Nat.le_trans ho lB) (arr .u64 5 fun k => ((i_five F k : Nat) : Int))
      generalize w5.setRow Bg5 (arr .u64 5 fun k => ((i_five F k : Nat) : Int)) = w6 at *
      clear l_h1 l_g9 l_g11 lB ho hb'
      (try simp only [Act.put, List.setIfInBounds_toArray, List.set_cons_zero, List.set_cons_succ])
      clear g9
      go_wp2_with (first | (refine wpList_load_arr rfl rfl rfl RTFe g5 ?_) | (go_at_call 46; fail))
      refine (ones_any (i_five F) (i_five F) (ok_five hq'.out) (ok_five hq'.out) 5 (by omega) _).mono ?_
      rintro e w4 ⟨rfl, b4⟩
      replace h1 := keep_below b4 (lt_of_block h1) h1
      replace g11 := keep_below b4 (lt_of_block g11) g11
      replace g5 := keep_below b4 (lt_of_block g5) g5
      replace hb := hb.trans (b4.mono hb.size)
      clear b4
      rw [show (fun k => ((onesN (i_five F) 5 (i_five F) k : Nat) : Int)) = fun k => ((i_ten F k : Nat) : Int) from by unfold i_ten; rfl]
      go_upto_region 9 with (refine wpList_new_arr rfl rfl rfl rfl ZTFe RTFe rfl rfl ?_; intro w8 g10 b8 hs8)
      have l0 := lt_of_block h1
      replace h1 := keep_below b8 (lt_of_block h1) h1
      replace g11 := keep_below b8 (lt_of_block g11) g11
      replace g5 := keep_below b8 (lt_of_block g5) g5
      replace hb := hb.trans (b8.mono hb.size)
      clear b8 hs8
      obtain ⟨Bg10, hBg10⟩ : ∃ B, B = w4.heap.size := ⟨_, rfl⟩
      rw [← hBg10] at l0 g10 ⊢
      clear hBg10
      (try simp only [Act.put, List.setIfInBounds_toArray, List.set_cons_zero, List.set_cons_succ])
      clear g5
      go_wp2_with (first | (refine wpList_load_arr rfl rfl rfl RTFe g10 ?_) | (go_at_call 46; fail))
      refine (ones_any (i_ten F) (i_ten F) (ok_ten hq'.out) (ok_ten hq'.out) 10 (by omega) _).mono ?_
      rintro e w4 ⟨rfl, b4⟩
      replace h1 := keep_below b4 (lt_of_block h1) h1
      replace g11 := keep_below b4 (lt_of_block g11) g11
      replace g10 := keep_below b4 (lt_of_block g10) g10
      replace hb := hb.trans (b4.mono hb.size)
      clear b4
      rw [show (fun k => ((onesN (i_ten F) 10 (i_ten F) k : Nat) : Int)) = fun k => ((i_twenty F k : Nat) : Int) from by unfold i_twenty; rfl]
      go_upto_region 10 with (refine wpList_new_arr rfl rfl rfl rfl ZTFe RTFe rfl rfl ?_; intro w8 g20 b8 hs8)
      have l0 := lt_of_block h1
      replace h1 := keep_below b8 (lt_of_block h1) h1
      replace g11 := keep_below b8 (lt_of_block g11) g11
      replace g10 := keep_below b8 (lt_of_block g10) g10
      replace hb := hb.trans (b8.mono hb.size)
      clear b8 hs8
      obtain ⟨Bg20, hBg20⟩ : ∃ B, B = w4.heap.size := ⟨_, rfl⟩
      rw [← hBg20] at l0 g20 ⊢
      clear hBg20
      (try simp only [Act.put, List.setIfInBounds_toArray, List.set_cons_zero, List.set_cons_succ])
      go_wp2_with (first | (refine wpList_load_arr rfl rfl rfl RTFe g20 ?_) | (go_at_call 46; fail))
      refine (ones_any (i_twenty F) (i_twenty F) (ok_twenty hq'.out) (ok_twenty hq'.out) 20 (by omega) _).mono ?_
      rintro e w4 ⟨rfl, b4⟩
      replace h1 := keep_below b4 (lt_of_block h1) h1
      replace g11 := keep_below b4 (lt_of_block g11) g11
      replace g10 := keep_below b4 (lt_of_block g10) g10
      replace g20 := keep_below b4 (lt_of_block g20) g20
      replace hb := hb.trans (b4.mono hb.size)
      clear b4
      rw [show (fun k => ((onesN (i_twenty F) 20 (i_twenty F) k : Nat) : Int)) = fun k => ((i_forty F k : Nat) : Int) from by unfold i_forty; rfl]
      go_upto_region 11 with (refine wpList_new_arr rfl rfl rfl rfl ZTFe RTFe rfl rfl ?_; intro w8 g40 b8 hs8)
      have l0 := lt_of_block h1
      replace h1 := keep_below b8 (lt_of_block h1) h1
      replace g11 := keep_below b8 (lt_of_block g11) g11
      replace g10 := keep_below b8 (lt_of_block g10) g10
      replace g20 := keep_below b8 (lt_of_block g20) g20
      replace hb := hb.trans (b8.mono hb.size)
      clear b8 hs8
      obtain ⟨Bg40, hBg40⟩ : ∃ B, B = w4.heap.size := ⟨_, rfl⟩
      rw [← hBg40] at l0 g40 ⊢
      clear hBg40
      (try simp only [Act.put, List.setIfInBounds_toArray, List.set_cons_zero, List.set_cons_succ])
      clear g20
      go_wp2_with (first | (refine wpList_load_arr rfl rfl rfl RTFe g10 ?_) | (refine wpList_load_arr rfl rfl rfl RTFe g40 ?_) | (go_at_call 46; fail))
      refine (ones_any (i_forty F) (i_ten F) (ok_forty hq'.out) (ok_ten hq'.out) 10 (by omega) _).mono ?_
      rintro e w4 ⟨rfl, b4⟩
      replace h1 := keep_below b4 (lt_of_block h1) h1
      replace g11 := keep_below b4 (lt_of_block g11) g11
      replace g10 := keep_below b4 (lt_of_block g10) g10
      replace g40 := keep_below b4 (lt_of_block g40) g40
      replace hb := hb.trans (b4.mono hb.size)
      clear b4
      rw [show (fun k => ((onesN (i_forty F) 10 (i_ten F) k : Nat) : Int)) = fun k => ((i_fifty F k : Nat) : Int) from by unfold i_fifty; rfl]
      go_upto_region 12 with (refine wpList_new_arr rfl rfl rfl rfl ZTFe RTFe rfl rfl ?_; intro w8 g50 b8 hs8)
      have l0 := lt_of_block h1
      replace h1 := keep_below b8 (lt_of_block h1) h1
      replace g11 := keep_below b8 (lt_of_block g11) g11
      replace g10 := keep_below b8 (lt_of_block g10) g10
      replace g40 := keep_below b8 (lt_of_block g40) g40
      replace hb := hb.trans (b8.mono hb.size)
      clear b8 hs8
      obtain ⟨Bg50, hBg50⟩ : ∃ B, B = w4.heap.size := ⟨_, rfl⟩
      rw [← hBg50] at l0 g50 ⊢
      clear hBg50
      (try simp only [Act.put, List.setIfInBounds_toArray, List.set_cons_zero, List.set_cons_succ])
      clear g40 g10
      go_wp2_with (first | (refine wpList_load_arr rfl rfl rfl RTFe g50 ?_) | (go_at_call 46; fail))
      refine (ones_any (i_fifty F) (i_fifty F) (ok_fifty hq'.out) (ok_fifty hq'.out) 50 (by omega) _).mono ?_
      rintro e w4 ⟨rfl, b4⟩
      replace h1 := keep_below b4 (lt_of_block h1) h1
      replace g11 := keep_below b4 (lt_of_block g11) g11
      replace g50 := keep_below b4 (lt_of_block g50) g50
      replace hb := hb.trans (b4.mono hb.size)
      clear b4
      rw [show (fun k => ((onesN (i_fifty F) 50 (i_fifty F) k : Nat) : Int)) = fun k => ((i_hundred F k : Nat) : Int) from by unfold i_hundred; rfl]
      go_upto_region 13 with (refine wpList_new_arr rfl rfl rfl rfl ZTFe RTFe rfl rfl ?_; intro w8 g100 b8 hs8)
      have l0 := lt_of_block h1
      replace h1 := keep_below b8 (lt_of_block h1) h1
      replace g11 := keep_below b8 (lt_of_block g11) g11
      replace g50 := keep_below b8 (lt_of_block g50) g50
      replace hb := hb.trans (b8.mono hb.size)
      clear b8 hs8
      obtain ⟨Bg100, hBg100⟩ : ∃ B, B = w4.heap.size := ⟨_, rfl⟩
      rw [← hBg100] at l0 g100 ⊢
      clear hBg100
      (try simp only [Act.put, List.setIfInBounds_toArray, List.set_cons_zero, List.set_cons_succ])
      have ho := hb.size
      obtain ⟨wq, rfl⟩ : ∃ x, x = w8 := ⟨_, rfl⟩
      refine wp_region_free 8 [Is (.func (.func 46) #[] #[]), Is (.func (.func 46) #[] #[]), Is (.agg (arr .u64 5 fun k => ((i_hundred F k : Nat) : Int))), Is (.agg (arr .u64 5 fun k => ((i_hundred F k : Nat) : Int))), Is (.agg (arr .u64 5 fun k => ((i_double F k : Nat) : Int))), Is (.agg (arr .u64 5 fun k => ((i_fifty F k : Nat) : Int))), Is (.agg (arr .u64 5 fun k => ((i_most F k : Nat) : Int))), NewAt wq.heap.size (.cells (arr .u64 5 fun _ => 0) 51)] [[], [], [], [], [1, 2, 3], [], [0, 4, 5], []] (by kernel_rfl) (by kernel_rfl) rfl (st_cons (is_stays _) (st_cons (is_stays _) (st_cons (is_stays _) (st_cons (is_stays _) (st_cons (is_stays _) (st_cons (is_stays _) (st_cons (is_stays _) (st_cons (new_stays _ _) st_nil)))))))) ?_ ?_
      · (simp only [List.take_succ_cons, List.take_zero, List.drop_succ_cons, List.drop_zero, List.zip_cons_cons, List.zip_nil_left, List.zip_nil_right, freeOps, allV, under, factAt, fillA, List.getElem?_cons_zero, List.getElem?_cons_succ, List.range_succ, List.range_zero, List.nil_append, List.cons_append, Act.put, List.setIfInBounds_toArray, List.set_cons_zero, List.set_cons_succ])
        refine ⟨?_, ?_, ?_, ?_, ?_, ?_, ?_, ?_, trivial⟩
        · intro x0 x1 x2 x3 x4 x5 x6 x7 w' hb' 
          exact free_move rfl rfl rfl
        · intro x0 x1 x2 x3 x4 x5 x6 x7 w' hb' 
          exact free_move rfl rfl rfl
        · intro x0 x1 x2 x3 x4 x5 x6 x7 w' hb' 
          exact free_load_arr rfl rfl rfl RTFe (keep_below hb' (lt_of_block (w := wq) g100) g100) rfl
        · intro x0 x1 x2 x3 x4 x5 x6 x7 w' hb' 
          exact free_load_arr rfl rfl rfl RTFe (keep_below hb' (lt_of_block (w := wq) g100) g100) rfl
        · intro x0 x1 x2 x3 x4 x5 x6 x7 w' hb' e0 e1 e2
          unfold Is at e0 e1 e2
          subst e0 e1 e2
          refine free_e rfl (fun K hK => ?_)
          go_simp
          refine (ones_any (i_hundred F) (i_hundred F) (ok_hundred hq'.out) (ok_hundred hq'.out) 100 (by omega) _).mono ?_
          rintro e w4 ⟨rfl, b4⟩
          exact hK _ _ b4 (by unfold Is i_double; rfl)
        · intro x0 x1 x2 x3 x4 x5 x6 x7 w' hb' 
          exact free_load_arr rfl rfl rfl RTFe (keep_below hb' (lt_of_block (w := wq) g50) g50) rfl
        · intro x0 x1 x2 x3 x4 x5 x6 x7 w' hb' e0 e1 e2
          unfold Is at e0 e1 e2
          subst e0 e1 e2
          refine free_e rfl (fun K hK => ?_)
          go_simp
          refine (ones_any (i_double F) (i_fifty F) (ok_double hq'.out) (ok_fifty hq'.out) 50 (by omega) _).mono ?_
          rintro e w4 ⟨rfl, b4⟩
          exact hK _ _ b4 (by unfold Is i_most; rfl)
        · intro x0 x1 x2 x3 x4 x5 x6 x7 w' hb' 
          exact free_alloc_arr rfl rfl ZTFe ⟨_, rfl, hb'.size, heap_alloc_new _ _⟩
      · (simp only [List.take_succ_cons, List.take_zero, List.drop_succ_cons, List.drop_zero, List.zip_cons_cons, List.zip_nil_left, List.zip_nil_right, freeOps, allV, under, factAt, fillA, List.getElem?_cons_zero, List.getElem?_cons_succ, List.range_succ, List.range_zero, List.nil_append, List.cons_append, Act.put, List.setIfInBounds_toArray, List.set_cons_zero, List.set_cons_succ])
        rintro x0 x1 x2 x3 x4 x5 x6 x7 w5 hb' e0 e1 e2 e3 e4 e5 e6 e7
        unfold Is at e0 e1 e2 e3 e4 e5 e6
        subst e0 e1 e2 e3 e4 e5 e6
        obtain ⟨Bgm, rfl, lB, gm⟩ := e7
        replace lB : wq.heap.size ≤ Bgm := lB
        replace hb := (hb.drew).trans (hb'.mono hb.size)
        have l_h1 := Nat.lt_of_lt_of_le (lt_of_block (w := wq) h1) lB
        replace h1 := keep_below hb' (lt_of_block (w := wq) h1) h1
        have l_g11 := Nat.lt_of_lt_of_le (lt_of_block (w := wq) g11) lB
        replace g11 := keep_below hb' (lt_of_block (w := wq) g11) g11
        have l_g50 := Nat.lt_of_lt_of_le (lt_of_block (w := wq) g50) lB
        replace g50 := keep_below hb' (lt_of_block (w := wq) g50) g50
        have l_g100 := Nat.lt_of_lt_of_le (lt_of_block (w := wq) g100) lB
        replace g100 := keep_below hb' (lt_of_block (w := wq) g100) g100
        go_upto_region 14 with (refine wpList_store_arr rfl rfl rfl rfl RTFe gm ?_)
        replace h1 := row_keep (g := Bgm) (c' := arr .u64 5 fun k => ((i_most F k : Nat) : Int)) h1 (Nat.ne_of_lt l_h1)
        replace g11 := row_keep (g := Bgm) (c' := arr .u64 5 fun k => ((i_most F k : Nat) : Int)) g11 (Nat.ne_of_lt l_g11)
        replace g50 := row_keep (g := Bgm) (c' := arr .u64 5 fun k => ((i_most F k : Nat) : Int)) g50 (Nat.ne_of_lt l_g50)
        replace g100 := row_keep (g := Bgm) (c' := arr .u64 5 fun k => ((i_most F k : Nat) : Int)) g100 (Nat.ne_of_lt l_g100)
        replace gm := row_self (c' := arr .u64 5 fun k => ((i_most F k : Nat) : Int)) gm
        replace hb := row_below (g := Bgm) hb (Nat.le_trans ho lB) (arr .u64 5 fun k => ((i_most F k : Nat) : Int))
        generalize w5.setRow Bgm (arr .u64 5 fun k => ((i_most F k : Nat) : Int)) = w6 at *
        clear l_h1 l_g11 l_g50 l_g100 lB ho hb'
        (try simp only [Act.put, List.setIfInBounds_toArray, List.set_cons_zero, List.set_cons_succ])
        clear g50 g100
        go_wp2_with (first | (refine wpList_load_arr rfl rfl rfl RTFe g11 ?_) | (refine wpList_load_arr rfl rfl rfl RTFe gm ?_) | (go_at_call 46; fail))
        refine (ones_any (i_most F) (i_eleven F) (ok_most hq'.out) (ok_eleven hq'.out) 5 (by omega) _).mono ?_
        rintro e w4 ⟨rfl, b4⟩
        replace h1 := keep_below b4 (lt_of_block h1) h1
        replace g11 := keep_below b4 (lt_of_block g11) g11
        replace gm := keep_below b4 (lt_of_block gm) gm
        replace hb := hb.trans (b4.mono hb.size)
        clear b4
        rw [show (fun k => ((onesN (i_most F) 5 (i_eleven F) k : Nat) : Int)) = fun k => ((invN F k : Nat) : Int) from by unfold invN; rfl]
        go_wp2_with (refine wpList_store_arr rfl rfl rfl rfl RTFe h1 ?_)
        refine bodyPost_ret (results_arr_tmp rfl rfl rfl RTFe (row_self h1)) rfl ⟨?_, row_below hb (by omega) _⟩
        rw [told1_yes hq'.out]
        first | rfl | (rw [if_pos hq'.out]; rfl)
  · rw [show decide (okF F 5) = false from decide_eq_false hq]
    go_wp2_with (first | (refine wpList_val' rfl (run_op_build rfl (by simp [Act.eval, Act.put]) built_fe) ?_) | (refine wpList_store_arr rfl rfl rfl rfl RTFe h1 ?_))
    refine bodyPost_ret (results_arr_tmp rfl rfl rfl RTFe (row_self h1)) rfl ⟨?_, row_below hb (by omega) _⟩
    rw [told1_no hq]
    first | rfl | (rw [if_neg hq]; rfl)
end Go.Proofs.YtfolbgiekbimpaaDoor
namespace Go.Proofs.YtfolbgiekbimpaaDoor
set_option linter.unusedSimpArgs false
set_option linter.unusedVariables false
open Go.RowKit

def k0 (i : Nat) : Nat := if i = 0 then 236 else if i = 31 then 127 else 255
def k1 (i : Nat) : Nat := if i = 0 then 235 else if i = 31 then 127 else 255
def f0 (i : Nat) : Nat := if i = 0 then 2251799813685228 else 2251799813685247
def f1 (i : Nat) : Nat := if i = 0 then 2251799813685227 else 2251799813685247
attribute [local irreducible] leastN valN byteN bytesN addN carN ofN kvN k0 k1 f0 f1
end Go.Proofs.YtfolbgiekbimpaaDoor
namespace Go.Proofs.YtfolbgiekbimpaaDoor
set_option linter.unusedSimpArgs false
set_option linter.unusedVariables false
open Go.RowKit

theorem bytesN_ok (F : Nat → Nat) (hF : okF F 5) (k : Nat) : bytesN F k = byteN (valN (leastN F) 5) k := by unfold bytesN; rw [if_pos hF]
/-- Bytes without their highest bit. -/
def cutB (k : Nat → Nat) (i : Nat) : Nat := if i = 31 then k 31 % 128 else k i
theorem ofN_ok (k : Nat → Nat) : okF (ofN k) 5 := fun i _ => by have : ofN k i < 2251799813685248 := Nat.mod_lt _ (by omega); omega
end Go.Proofs.YtfolbgiekbimpaaDoor
namespace Go.Proofs.YtfolbgiekbimpaaDoor
set_option linter.unusedSimpArgs false
set_option linter.unusedVariables false
open Go.RowKit
attribute [local irreducible] accN byteN prodN carN diffN sqN
/-- A number's parts stand for a number. -/
def Fits (X : Nat → Nat) (v : Nat) : Prop := okF X 5 ∧ valN X 5 % pN = v % pN
/-- What numbers are, summed; taken away. -/
def sumN (F G : Nat → Nat) : Nat → Nat := carN fun i => F i + G i
def difN (F G : Nat → Nat) : Nat → Nat := carN (diffN F G)
theorem sum_ok {F G : Nat → Nat} (hF : okF F 5) (hG : okF G 5) : okF (sumN F G) 5 := car_ok _ fun i hi => by have := hF i hi; have := hG i hi; show F i + G i < _; omega
theorem dif_ok {F G : Nat → Nat} (hF : okF F 5) : okF (difN F G) 5 := car_ok _ fun i hi => diff_lt F G hF i hi
theorem sum_fits {F G : Nat → Nat} {a b : Nat} (hF : Fits F a) (hG : Fits G b) : Fits (sumN F G) (a + b) :=
  ⟨sum_ok hF.1 hG.1, by unfold sumN; rw [sum_val, Nat.add_mod, hF.2, hG.2, ← Nat.add_mod]⟩
theorem prod_fits {F G : Nat → Nat} {a b : Nat} (hF : Fits F a) (hG : Fits G b) : Fits (prodN F G) (a * b) :=
  ⟨prod_ok F G hF.1 hG.1, by rw [prod_val, Nat.mul_mod, hF.2, hG.2, ← Nat.mul_mod]⟩
/-- What is taken away, and added again. -/
theorem dif_fits {F G : Nat → Nat} {a b c : Nat} (hF : Fits F a) (hG : Fits G b) (h : (c + b) % pN = a % pN) : Fits (difN F G) c := by
  refine ⟨dif_ok hF.1, ?_⟩
  have h1 := sub_val F G hG.1
  have e : valN (difN F G) 5 = valN (carN (diffN F G)) 5 := rfl
  rw [e]
  generalize valN (carN (diffN F G)) 5 = x at *
  have h2 : (x + b) % pN = (c + b) % pN := by
    rw [h, ← hF.2, ← h1, Nat.add_mod, ← hG.2, ← Nat.add_mod]
  generalize hp : pN = p at h2 ⊢
  have hp0 : 0 < p := by rw [← hp]; unfold pN; omega
  clear h1 e h hF hG
  have h3 : (x + b + (p - b % p)) % p = (c + b + (p - b % p)) % p := by rw [Nat.add_mod, h2, ← Nat.add_mod]
  have e1 : ∀ y, (y + b + (p - b % p)) % p = y % p := by
    intro y
    have hb := Nat.div_add_mod b p
    have hl := Nat.mod_lt b hp0
    have : y + b + (p - b % p) = y + p * (b / p + 1) := by rw [Nat.mul_add]; omega
    rw [this, Nat.add_mul_mod_self_left]
  rwa [e1, e1] at h3
theorem sq_fits {F : Nat → Nat} {a : Nat} (hF : Fits F a) : ∀ n, Fits (sqN F n) (a ^ 2 ^ n)
  | 0 => by unfold sqN; simpa using hF
  | n + 1 => by
    rw [sqN_succ, Nat.pow_succ, Nat.mul_two, Nat.pow_add]
    exact prod_fits (sq_fits hF n) (sq_fits hF n)
def oneF (x : Nat) (i : Nat) : Nat := if i = 0 then x else 0
theorem one_ok {x : Nat} (h : x < 4503599627370496) : okF (oneF x) 5 := fun i _ => by unfold oneF; split <;> omega
theorem one_val (x : Nat) : valN (oneF x) 5 = x := by rw [valN_five]; unfold oneF; simp
theorem one_fits {x : Nat} (h : x < 4503599627370496) : Fits (oneF x) x := ⟨one_ok h, by rw [one_val]⟩
theorem built_fe1 (x : Nat) : Tryd.prog.built 51 [(0, .int .u64 (x : Int))] = some (arr .u64 5 fun i => ((oneF x i : Nat) : Int)) := by kernel_rfl
theorem built_fe0 : Tryd.prog.built 51 [] = some (arr .u64 5 fun i => ((oneF 0 i : Nat) : Int)) := by kernel_rfl
attribute [local irreducible] sumN difN oneF valN
theorem ok_big {F : Nat → Nat} (hF : okF F 5) (i : Nat) (hi : i < 5) : F i < 18446744073709551616 := by have := hF i hi; omega
theorem Add_yes (F G : Nat → Nat) (hF : okF F 5) (hG : okF G 5) (w : World) : Calls Tryd.prog 40 #[.agg (arr .u64 5 fun i => ((F i : Nat) : Int)), .agg (arr .u64 5 fun i => ((G i : Nat) : Int))] w fun e w' => e = .returned (.tuple #[.agg (arr .u64 5 fun k => ((sumN F G k : Nat) : Int)), .int .i64 0]) ∧ Below w.heap.size w w' :=
  (Add_any F G (ok_big hF) (ok_big hG) w).mono fun e w' h => by
    rw [if_pos ⟨hF, hG⟩] at h
    rw [show (arr .u64 5 fun k => ((sumN F G k : Nat) : Int)) = arr .u64 5 fun k => ((addN F G k : Nat) : Int) from arr_ext fun k _ => by unfold addN sumN; rw [if_pos ⟨hF, hG⟩]]
    exact h
theorem Mul_yes (F G : Nat → Nat) (hF : okF F 5) (hG : okF G 5) (w : World) : Calls Tryd.prog 42 #[.agg (arr .u64 5 fun i => ((F i : Nat) : Int)), .agg (arr .u64 5 fun i => ((G i : Nat) : Int))] w fun e w' => e = .returned (.tuple #[.agg (arr .u64 5 fun k => ((prodN F G k : Nat) : Int)), .int .i64 0]) ∧ Below w.heap.size w w' :=
  (Mul_any F G (ok_big hF) (ok_big hG) w).mono fun e w' h => by
    rw [if_pos ⟨hF, hG⟩] at h
    unfold mulN at h
    rw [told2_yes ⟨hF, hG⟩] at h
    exact h
theorem Sub_yes (F G : Nat → Nat) (hF : okF F 5) (hG : okF G 5) (w : World) : Calls Tryd.prog 41 #[.agg (arr .u64 5 fun i => ((F i : Nat) : Int)), .agg (arr .u64 5 fun i => ((G i : Nat) : Int))] w fun e w' => e = .returned (.tuple #[.agg (arr .u64 5 fun k => ((difN F G k : Nat) : Int)), .int .i64 0]) ∧ Below w.heap.size w w' :=
  (Sub_any F G (ok_big hF) (ok_big hG) w).mono fun e w' h => by
    rw [if_pos ⟨hF, hG⟩] at h
    unfold subN at h
    rw [told2_yes ⟨hF, hG⟩] at h
    rw [show (fun k => ((difN F G k : Nat) : Int)) = fun k => ((carN (diffN F G) k : Nat) : Int) from by unfold difN; rfl]
    exact h
theorem Invert_yes (F : Nat → Nat) (hF : okF F 5) (w : World) : Calls Tryd.prog 31 #[.agg (arr .u64 5 fun i => ((F i : Nat) : Int))] w fun e w' => e = .returned (.tuple #[.agg (arr .u64 5 fun k => ((invN F k : Nat) : Int)), .int .i64 0]) ∧ Below w.heap.size w w' :=
  (Invert_any F (ok_big hF) w).mono fun e w' h => by
    rw [if_pos hF, told1_yes hF] at h
    exact h

end Go.Proofs.YtfolbgiekbimpaaDoor
