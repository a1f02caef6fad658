/- A region that draws its order, walked once, in an order of the prover's, where what is read lies in blocks of a set. No program is in sight. -/
import Derived.Test.YtfbfkfdkigpkgaaCan
import Derived.OrdersHeld
import Derived.Laws.StructEq
namespace Go.Proofs.Ytfbfkfdkigpkgaa.CanB
set_option linter.unusedSimpArgs false
set_option linter.unusedVariables false
open Go.RowKit

/-- Below block number N the two worlds' memories are one. -/
def Keep (N : Nat → Prop) (w w' : World) : Prop := ∀ b, N b → w'.heap[b]? = w.heap[b]?
theorem Keep.refl (N : Nat → Prop) (w : World) : Keep N w w := fun _ _ => rfl
theorem Keep.trans {N : Nat → Prop} {a b c : World} (h : Keep N a b) (k : Keep N b c) : Keep N a c := fun i hi => (k i hi).trans (h i hi)
theorem Keep.symm {N : Nat → Prop} {a b : World} (h : Keep N a b) : Keep N b a := fun i hi => (h i hi).symm
theorem Keep.of_below {N : Nat → Prop} {B : Nat} {a b : World} (h : Below B a b) (hN : ∀ i, N i → i < B) : Keep N a b := fun i hi => h.block i (hN i hi)
theorem Keep.alloc {N : Nat → Prop} (w : World) (x : Obj) (hN : ∀ i, N i → i < w.heap.size) : Keep N w (w.alloc x) := fun i hi => Below.heap_alloc _ _ _ (hN i hi)
theorem Keep.drew {N : Nat → Prop} (w : World) : Keep N w w.drew := fun _ _ => rfl
theorem Keep.drewN {N : Nat → Prop} {n : Nat} (w : World) : Keep N w (w.drewN n) := fun _ _ => rfl

/-! ### What never looks at memory -/
def blind {α : Type} (P : Program) : Sem α → Prop
  | .pure _ => True
  | .halt _ => True
  | .program k => blind P (k P)
  | .mark _ k => blind P k
  | .choose _ k => ∀ n, blind P (k n)
  | _ => False

theorem blind_drawn {α : Type} {P : Program} : ∀ (e : Sem α) (w w1 : World) (v : α), blind P e → e.run P w = .ok v w1 → w.drawn ≤ w1.drawn := by
  intro e
  induction e with
  | pure a => intro w w1 v _ h; simp only [Sem.run, Result.ok.injEq] at h; rw [h.2]; exact Nat.le_refl _
  | halt x => intro w w1 v _ h; simp [Sem.run] at h
  | program k ih => intro w w1 v hb h; exact ih P w w1 v hb h
  | mark m k ih => intro w w1 v hb h; exact ih w w1 v hb h
  | choose q k ih =>
    intro w w1 v hb h
    simp only [Sem.run] at h
    split at h
    · exact ih _ w w1 v (hb _) h
    · have := ih _ _ w1 v (hb _) h
      simp only at this
      omega
  | _ => intro w w1 v hb; exact hb.elim

theorem blind_run {α : Type} {P : Program} : ∀ (e : Sem α) (w : World) (v : α), blind P e → e.run P w = .ok v w → ∀ w', e.run P w' = .ok v w' := by
  intro e
  induction e with
  | pure a => intro w v _ h w'; simp only [Sem.run, Result.ok.injEq] at h ⊢; exact ⟨h.1, trivial⟩
  | halt x => intro w v _ h; simp [Sem.run] at h
  | program k ih => intro w v hb h w'; exact ih P w v hb h w'
  | mark m k ih => intro w v hb h w'; exact ih w v hb h w'
  | choose q k ih =>
    intro w v hb h w'
    simp only [Sem.run] at h ⊢
    split at h
    · rename_i hf; rw [if_pos hf]; exact ih _ w v (hb _) h w'
    · have := blind_drawn _ _ w v (hb _) h
      simp only at this
      omega
  | _ => intro w v hb; exact hb.elim

theorem blind_bind {α β : Type} {P : Program} : ∀ (e : Sem α) (f : α → Sem β), blind P e → (∀ a, blind P (f a)) → blind P (e.bind f) := by
  intro e
  induction e with
  | pure a => intro f _ hf; exact hf a
  | halt x => intro f _ _; trivial
  | program k ih => intro f hb hf; exact ih P f hb hf
  | mark m k ih => intro f hb hf; exact ih f hb hf
  | choose q k ih => intro f hb hf n; exact ih n f (hb n) hf
  | _ => intro f hb; exact hb.elim
theorem blind_bind' {α β : Type} {P : Program} (e : Sem α) (f : α → Sem β) (he : blind P e) (hf : ∀ a, blind P (f a)) : blind P (e >>= f) := blind_bind e f he hf
theorem blind_under {β : Type} {P : Program} {t : TypeId} {f : TypeDesc → Sem β} (h : ∀ d, P.underlying t = some d → blind P (f d)) : blind P (underlying t >>= f) := by
  show blind P ((match P.underlying t with | some d => pure d | none => stuck "no such type" : Sem TypeDesc).bind f)
  cases hd : P.underlying t with
  | none => trivial
  | some d => exact h d hd
theorem blind_typeInfo {P : Program} (t : TypeId) : blind P (typeInfo t) := by
  show blind P (match P.info? t with | some i => pure i | none => stuck "no such type" : Sem TypeInfo)
  cases P.info? t <;> trivial
theorem blind_sizeOf {P : Program} (t : TypeId) : blind P (sizeOf t) := blind_bind' _ _ (blind_typeInfo t) fun _ => trivial
theorem blind_zeroValue {P : Program} (t : TypeId) : blind P (zeroValue t) := by
  unfold zeroValue
  refine blind_bind' _ _ (blind_typeInfo t) fun i => ?_
  cases i.zero <;> trivial
theorem blind_bounds {α : Type} {P : Program} (k : IntKind) (x y : Int) (c : BoundsCode) : blind P (boundsPanic (α := α) k x y c) := by
  unfold boundsPanic
  split
  · exact fun n => trivial
  · trivial
theorem blind_asIntOf {P : Program} (v : Value) : blind P (asIntOf v) := by
  unfold asIntOf; split <;> trivial
theorem blind_isAgg {P : Program} (t : TypeId) : blind P (isAgg t) := by
  unfold isAgg
  refine blind_under fun d _ => ?_
  split <;> trivial
theorem blind_asAgg {P : Program} (v : Value) : blind P (asAgg v) := by
  unfold asAgg; split <;> trivial
theorem blind_part {P : Program} (t : TypeId) (cs : Array Value) (off : Nat) : blind P (part t cs off) := by
  unfold part
  refine blind_bind' _ _ (blind_isAgg t) fun b => ?_
  split
  · exact blind_bind' _ _ (blind_sizeOf t) fun _ => trivial
  · split <;> trivial
theorem blind_sureAddr {P : Program} (v : Value) : blind P (Instr.sureAddr v) := by
  unfold Instr.sureAddr; split <;> trivial

/-! ### An operation that only reads, carried out in another world -/
/-- Whatever this operation yields here without a change it yields in every world whose memory below N is the same. -/
def Framed (P : Program) (N : Nat → Prop) (o : Oper) (a : Act) (w : World) : Prop :=
  ∀ v, (execOp a.eval o).run P w = .ok (.value v) w → ∀ w', Keep N w w' → (execOp a.eval o).run P w' = .ok (.value v) w'

section
variable {P : Program} {N : Nat → Prop} {o : Oper} {a : Act} {w : World}
theorem Framed.of_blind (h : blind P (execOp a.eval o)) : Framed P N o a w := fun v hv w' _ => blind_run _ w _ h hv w'
theorem Framed.move {x : Operand} (ho : o.op = .move x) : Framed P N o a w := .of_blind (by unfold execOp; rw [ho]; trivial)
theorem Framed.assign {x : Operand} (ho : o.op = .assign x) : Framed P N o a w := .of_blind (by unfold execOp; rw [ho]; trivial)
theorem blind_int {op : BinOp} {x y : Int} {k k' : IntKind} {t : TypeId} : blind P (binOp op t (.int k x) (.int k' y)) := by
  unfold binOp
  split <;> first
    | trivial
    | (unfold Op.shift; split <;> (try split) <;> trivial)
    | (split <;> first
        | trivial
        | (split <;> first
            | trivial
            | (unfold Op.intArith; split <;> trivial)
            | (unfold Op.intDiv; split <;> (try split) <;> trivial)
            | (unfold Op.intBits; dsimp only; split <;> trivial)
            | (unfold Op.intCmp; split <;> trivial)))
    | simp_all
theorem Framed.bin {op : BinOp} {t u : TypeId} {x y : Operand} {k k' : IntKind} {m n : Int} (ho : o.op = .binOp op t x y u) (hx : a.eval x = .int k m) (hy : a.eval y = .int k' n) : Framed P N o a w := .of_blind (by
  unfold execOp
  rw [ho]
  simp only [hx, hy]
  refine blind_bind' _ _ (blind_bind' _ _ ?_ fun _ => blind_int) fun _ => trivial
  cases op <;> exact True.intro)
theorem Framed.un {op : UnOp} {t : TypeId} {x : Operand} (ho : o.op = .unOp op t x) : Framed P N o a w := .of_blind (by
  unfold execOp
  rw [ho]
  refine blind_bind' _ _ ?_ fun _ => trivial
  unfold Op.unary
  split <;> first | trivial | (unfold Op.intArith; trivial) | (unfold Op.intBits; trivial))
theorem Framed.conv {s d : TypeId} {x : Operand} {k k' : IntKind} {n : Int} (ho : o.op = .convert s d x) (hx : a.eval x = .int k n) (hd : P.underlying d = some (.int k')) : Framed P N o a w := .of_blind (by
  unfold execOp
  rw [ho]
  simp only [hx]
  refine blind_bind' _ _ ?_ fun _ => trivial
  unfold convert
  refine blind_under fun u _ => blind_under fun e he => ?_
  rw [hd] at he
  obtain rfl := Option.some.inj he
  cases u <;> trivial)
theorem Framed.fieldAddr {s : TypeId} {x : Operand} {f : Nat} {fs : Array Field} {fd : Field} {i : TypeInfo} (ho : o.op = .fieldAddr s x f) (hs : P.underlying s = some (.struct fs)) (hf : fs[f]? = some fd) (hi : P.info? fd.type = some i) (h0 : i.size ≠ 0) : Framed P N o a w := .of_blind (by
  unfold execOp
  rw [ho]
  refine blind_bind' _ _ ?_ fun _ => trivial
  unfold Instr.fieldAt
  refine blind_under fun d hd => ?_
  rw [hs] at hd
  obtain rfl := Option.some.inj hd
  simp only [hf]
  refine blind_bind' _ _ (blind_sureAddr _) fun ad => blind_bind' _ _ ?_ fun _ => trivial
  unfold fieldPlace
  show blind P ((sizeOf fd.type) >>= _)
  show blind P (((match P.info? fd.type with | some i => pure i | none => stuck "no such type" : Sem TypeInfo).bind fun i => pure i.size).bind _)
  rw [hi]
  show blind P (if i.size = 0 then _ else _)
  rw [if_neg h0]
  trivial)
theorem Framed.indexAddr {t : TypeId} {x y : Operand} (ho : o.op = .indexAddr t x y) : Framed P N o a w := .of_blind (by
  unfold execOp
  rw [ho]
  refine blind_bind' _ _ ?_ fun _ => trivial
  unfold Instr.indexAt
  refine blind_bind' _ _ (blind_asIntOf _) fun ki => blind_under fun d _ => ?_
  have tail : ∀ (r : Option Addr × Nat × TypeId), blind P (do
      let (base, len, elem) := r
      let tiny := len ≤ 1 && (match ← underlying t with | .array .. => true | _ => false)
      match base with
      | some a =>
        if 0 ≤ ki.2 ∧ ki.2 < len then pure (.pointer (some (a.add (ki.2.toNat * (← sizeOf elem)))))
        else if tiny then unsupported (.noEntry "op/indexAddr.an index out of range at an array of length 0 or 1 (ledger 616)")
        else boundsPanic ki.1 ki.2 len .index
      | none => boundsPanic ki.1 ki.2 0 .index : Sem Value) := by
    rintro ⟨base, len, elem⟩
    refine blind_under fun d2 _ => ?_
    cases base with
    | none => exact blind_bounds _ _ _ _
    | some ad => repeat' (first | exact blind_bounds _ _ _ _ | exact blind_bind' _ _ (blind_sizeOf _) (fun _ => trivial) | trivial | split | (dsimp only; split))
  split
  · dsimp only; exact blind_bind' _ _ (blind_sureAddr _) (fun _ => blind_bind' _ _ trivial tail)
  · dsimp only; exact blind_bind' _ _ trivial tail
  · trivial)
theorem Framed.nilCheck {x : Operand} {p : Addr} (ho : o.op = .nilCheck x) (hx : a.eval x = .pointer (some p)) : Framed P N o a w := .of_blind (by
  unfold execOp
  rw [ho]
  simp only [hx]
  trivial)
theorem Framed.extract {x : Operand} {i : Nat} (ho : o.op = .extract x i) : Framed P N o a w := .of_blind (by
  unfold execOp
  rw [ho]
  refine blind_bind' _ _ ?_ fun _ => trivial
  unfold Instr.extract
  split <;> (try split) <;> trivial)
theorem Framed.index {t : TypeId} {x y : Operand} (ho : o.op = .index t x y) : Framed P N o a w := .of_blind (by
  unfold execOp
  rw [ho]
  refine blind_bind' _ _ ?_ fun _ => trivial
  unfold Instr.index
  refine blind_bind' _ _ (blind_asIntOf _) fun ki => blind_under fun d _ => ?_
  split
  · split
    · exact blind_bind' _ _ (blind_sizeOf _) fun _ => blind_part _ _ _
    · exact blind_bounds _ _ _ _
  · split
    · trivial
    · exact blind_bounds _ _ _ _
  · trivial)
theorem Framed.field {t : TypeId} {x : Operand} {f : Nat} (ho : o.op = .field t x f) : Framed P N o a w := .of_blind (by
  unfold execOp
  rw [ho]
  refine blind_bind' _ _ ?_ fun _ => trivial
  unfold Instr.field
  refine blind_under fun d _ => ?_
  split
  · split
    · exact blind_bind' _ _ (blind_asAgg _) fun _ => blind_part _ _ _
    · trivial
  · trivial)
theorem blind_sliceBound (x : Value) (y : Nat) (c : BoundsCode) : blind P (Instr.sliceBound x y c) := by
  unfold Instr.sliceBound
  refine blind_bind' _ _ (blind_asIntOf _) ?_
  rintro ⟨k, i⟩
  dsimp only
  split
  · trivial
  · exact blind_bounds _ _ _ _
theorem blind_sliceBounds (b : Bool) (l c : Nat) (lo hi mx : Option Value) : blind P (Instr.sliceBounds b l c lo hi mx) := by
  unfold Instr.sliceBounds
  have h3 : ∀ m h : Nat, blind P ((do
      let l ← match lo with
        | some v => Instr.sliceBound v h (if mx.isSome then .slice3C else .sliceB)
        | none => pure 0
      pure (l, h, m) : Sem (Nat × Nat × Nat))) := by
    intro m h
    cases lo with
    | none => trivial
    | some v => exact blind_bind' _ _ (blind_sliceBound _ _ _) fun _ => trivial
  have h2 : ∀ m : Nat, blind P ((do
      let h ← match hi, mx with
        | some v, some _ => Instr.sliceBound v m .slice3B
        | some v, none => Instr.sliceBound v m (if b then .sliceAcap else .sliceAlen)
        | none, none => pure l
        | none, some _ => stuck "Slice: max without high"
      let l ← match lo with
        | some v => Instr.sliceBound v h (if mx.isSome then .slice3C else .sliceB)
        | none => pure 0
      pure (l, h, m) : Sem (Nat × Nat × Nat))) := by
    intro m
    cases hi with
    | none => cases mx with
      | none => exact h3 _ _
      | some v => trivial
    | some u => cases mx with
      | none => exact blind_bind' _ _ (blind_sliceBound _ _ _) fun _ => h3 _ _
      | some v => exact blind_bind' _ _ (blind_sliceBound _ _ _) fun _ => h3 _ _
  cases mx with
  | none => exact h2 _
  | some v => exact blind_bind' _ _ (blind_sliceBound _ _ _) fun _ => h2 _
theorem Framed.slice {t : TypeId} {x : Operand} {lo hi mx : Option Operand} (ho : o.op = .slice t x lo hi mx) : Framed P N o a w := .of_blind (by
  unfold execOp
  rw [ho]
  refine blind_bind' _ _ ?_ fun _ => trivial
  unfold Instr.sliceAt
  refine blind_under fun d _ => ?_
  split
  · exact blind_bind' _ _ (blind_sureAddr _) fun _ => blind_bind' _ _ (blind_sliceBounds _ _ _ _ _ _) fun _ => blind_bind' _ _ (blind_sizeOf _) fun _ => trivial
  · unfold Instr.slice
    refine blind_under fun d2 _ => ?_
    split
    · split
      · trivial
      · exact blind_bind' _ _ (blind_sliceBounds _ _ _ _ _ _) fun _ => trivial
    · exact blind_bind' _ _ (blind_sliceBounds _ _ _ _ _ _) fun _ => blind_bind' _ _ (blind_sizeOf _) fun _ => trivial
    · refine blind_bind' _ _ ?_ fun ad => blind_under fun d3 _ => ?_
      · unfold asAddr; split <;> trivial
      · split
        · exact blind_bind' _ _ (blind_sliceBounds _ _ _ _ _ _) fun _ => blind_bind' _ _ (blind_sizeOf _) fun _ => trivial
        · trivial
    · trivial)

/-! ### A load below N -/
/-- What reads no memory but block b's cells. -/
def looksAt {α : Type} (P : Program) (b : Nat) : Sem α → Prop
  | .pure _ => True
  | .halt _ => True
  | .program k => looksAt P b (k P)
  | .mark _ k => looksAt P b k
  | .load _ ad k => ad.block = b ∧ ∀ v, looksAt P b (k v)
  | _ => False
theorem looksAt_run {α : Type} {b : Nat} {w w' : World} {c : Array Value} {t : TypeId} {fr : Nat × Nat} (hb : w.heap[b]? = some (.cells c t fr)) (hb' : w'.heap[b]? = some (.cells c t fr)) : ∀ (e : Sem α) (v : α), looksAt P b e → e.run P w = .ok v w → e.run P w' = .ok v w' := by
  intro e
  induction e with
  | pure a => intro v _ h; simp only [Sem.run, Result.ok.injEq] at h ⊢; exact ⟨h.1, trivial⟩
  | halt x => intro v _ h; simp [Sem.run] at h
  | program k ih => intro v hl h; exact ih P v hl h
  | mark m k ih => intro v hl h; exact ih v hl h
  | load m ad k ih =>
    intro v hl h
    obtain ⟨rfl, hk⟩ := hl
    have e1 : w'.cell? ad = w.cell? ad := by unfold World.cell?; rw [hb, hb']
    simp only [Sem.run] at h ⊢
    rw [e1]
    cases hc : w.cell? ad with
    | some u => rw [hc] at h; exact ih u v (hk u) h
    | none =>
      rw [hc] at h
      have : w.farLoad P ad (m == .atomic) = .error (w.noCell ad "load: no such cell") := by unfold World.farLoad; rw [hb]
      rw [this] at h
      simp at h
  | _ => intro v hl; exact hl.elim
theorem looksAt_bind {α β : Type} {b : Nat} : ∀ (e : Sem α) (f : α → Sem β), looksAt P b e → (∀ a, looksAt P b (f a)) → looksAt P b (e.bind f) := by
  intro e
  induction e with
  | pure a => intro f _ hf; exact hf a
  | halt x => intro f _ _; trivial
  | program k ih => intro f hb hf; exact ih P f hb hf
  | mark m k ih => intro f hb hf; exact ih f hb hf
  | load m ad k ih => intro f hb hf; exact ⟨hb.1, fun v => ih v f (hb.2 v) hf⟩
  | _ => intro f hb; exact hb.elim
theorem looksAt_loadCellsFrom {b off : Nat} : ∀ (n i : Nat) (acc : Array Value), looksAt P b (loadCellsFrom ⟨b, off, none⟩ i n acc)
  | 0, _, _ => trivial
  | n + 1, i, acc => by
    unfold loadCellsFrom
    refine looksAt_bind _ _ ⟨?_, fun _ => trivial⟩ fun v => looksAt_loadCellsFrom n (i + 1) _
    rw [addr_add]
theorem looksAt_loadVar {b off : Nat} {t : TypeId} : looksAt P b (loadVar t ⟨b, off, none⟩) := by
  unfold loadVar
  refine looksAt_bind _ _ ?_ fun g => ?_
  · unfold isAgg
    refine looksAt_bind _ _ ?_ fun d => ?_
    · show looksAt P b (match P.underlying t with | some d => pure d | none => stuck "no such type" : Sem TypeDesc)
      cases P.underlying t <;> trivial
    · split <;> trivial
  · split
    · refine looksAt_bind _ _ ?_ fun n => looksAt_bind _ _ (looksAt_loadCellsFrom _ _ _) ?_
      · unfold sizeOf
        refine looksAt_bind _ _ ?_ ?_
        · show looksAt P b (match P.info? t with | some i => pure i | none => stuck "no such type" : Sem TypeInfo)
          cases P.info? t <;> trivial
        · intro _; trivial
      · intro _; trivial
    · exact ⟨rfl, fun _ => trivial⟩
/-- A load out of a block of cells below N. -/
theorem Framed.load {t : TypeId} {x : Operand} {b off : Nat} {c : Array Value} {u : TypeId} {fr : Nat × Nat} (ho : o.op = .load t x) (hx : a.eval x = .pointer (some ⟨b, off, none⟩)) (hb : N b) (hc : w.heap[b]? = some (.cells c u fr)) : Framed P N o a w := by
  intro v hv w' hk
  have hc' : w'.heap[b]? = some (.cells c u fr) := by rw [hk b hb]; exact hc
  unfold execOp at hv ⊢
  rw [ho] at hv ⊢
  simp only [hx] at hv ⊢
  refine looksAt_run hc hc' _ _ ?_ hv
  show looksAt P b ((loadVar t ⟨b, off, none⟩).bind _)
  refine looksAt_bind _ _ looksAt_loadVar ?_
  intro _
  trivial
end

/-! ### The order of the prover's -/
section
variable {P : Program} {ops : Array Oper} {Q : Exit → Act → World → Prop} {md : Region.Mode} {S : World → Prop}

/-- The head's operations in whatever order, behind each of them S; then L. -/
def wpAnyC (P : Program) (md : Region.Mode) (ops : Array Oper) (Q : Exit → Act → World → Prop) (S : World → Prop) (n : Nat) (L : Array Bool → Act → World → Prop) : Nat → Array Bool → Act → World → Prop
  | 0, listed, a, w => L listed a w
  | f + 1, listed, a, w =>
    Region.ready md ops listed ≠ [] ∧ ∀ i ∈ Region.ready md ops listed, i < n ∧ wpOp P ops Q i (fun a' w' => S w' ∧ wpAnyC P md ops Q S n L f (listed.setIfInBounds i true) a' w') a w

theorem wpAny_of_anyC {n g : Nat} {L : Array Bool → Act → World → Prop} (hL : ∀ listed a w, L listed a w → wpAny P md ops Q g listed a w) :
    ∀ (f : Nat) (listed : Array Bool) (a : Act) (w : World), wpAnyC P md ops Q S n L f listed a w → wpAny P md ops Q (f + g) listed a w
  | 0, listed, a, w, h => by rw [Nat.zero_add]; exact hL _ _ _ h
  | f + 1, listed, a, w, h => by
    rw [show f + 1 + g = (f + g) + 1 by omega]
    exact ⟨fun h0 => absurd h0 h.1, fun i hi => wpOp_mono (fun a' w' h' => wpAny_of_anyC hL f _ a' w' h'.2) (h.2 i hi).2⟩

theorem wpAnyC_first {n i : Nat} {oi : Oper} {v : Value} {L : Array Bool → Act → World → Prop} (hi : ops[i]? = some oi) (hsel : ∀ (j : Nat) (o : Oper) cs b, ops[j]? = some o → o.op ≠ .select cs b)
    (hQ : ∀ c a w, Q (.panic c) (a.put oi.dst v) w → Q (.panic c) a w)
    (hs : Region.sinkB md ops n = true) (hc : Region.chainB md ops n = true) (hn : n < ops.size) (hin : i < n)
    (hdone : ∀ listed a w, L listed a w → ∀ j ∈ Region.ready md ops listed, n ≤ j) :
    ∀ (f : Nat) (listed : Array Bool) (a : Act) (w : World), HeadInv md ops n listed →
      (∀ j oj, ops[j]? = some oj → j ≠ i → listed.getD j true = false → (∀ e ∈ oj.after, Region.binds md e = true → e.on ≠ i) → oi.apart ops oj = true) →
      i ∈ Region.ready md ops listed → YieldsIf P ops S oi v a → S w →
      wpAnyC P md ops Q S n L f (listed.setIfInBounds i true) (a.put oi.dst v) w → wpAnyC P md ops Q S n L (f + 1) listed a w := by
  intro f
  induction f with
  | zero =>
    intro listed a w inv _ hr hy hS H
    have hun := (mem_ready.1 hr).1
    refine ⟨fun h => (by rw [h] at hr; cases hr), fun j hj => ?_⟩
    have hjn : j < n := by
      rcases Nat.lt_or_ge j n with h | h
      · exact h
      · exact absurd hj (tail_waits hs hc hn inv _ i rfl hin hun j h)
    refine ⟨hjn, ?_⟩
    by_cases hji : j = i
    · subst hji; exact hy.wpOp hi hS ⟨hS, H⟩
    · have := hdone _ _ _ H j (ready_mono hj hji)
      omega
  | succ f ih =>
    intro listed a w inv hfree hr hy hS H
    have hun := (mem_ready.1 hr).1
    refine ⟨fun h => (by rw [h] at hr; cases hr), fun j hj => ?_⟩
    have hjn : j < n := by
      rcases Nat.lt_or_ge j n with h | h
      · exact h
      · exact absurd hj (tail_waits hs hc hn inv _ i rfl hin hun j h)
    refine ⟨hjn, ?_⟩
    by_cases hji : j = i
    · subst hji; exact hy.wpOp hi hS ⟨hS, H⟩
    · have h1 := (H.2 j (ready_mono hj hji)).2
      obtain ⟨hjun, oj, hoj, hall⟩ := mem_ready.1 hj
      have hnot : ∀ e ∈ oj.after, Region.binds md e = true → e.on ≠ i := fun e he hb heq => by
        have h1 := hall e he hb
        rw [heq, getD_both hun] at h1
        cases h1
      have h2 := wpOp_putIf hoj (hfree j oj hoj hji hjun hnot) (fun cs b => hsel i oi cs b hi) (fun cs b => hsel j oj cs b hoj) hQ hy h1
      have hfree' : ∀ k ok, ops[k]? = some ok → k ≠ i → (listed.setIfInBounds j true).getD k true = false →
          (∀ e ∈ ok.after, Region.binds md e = true → e.on ≠ i) → oi.apart ops ok = true := fun k ok hk hki hun hno => by
        refine hfree k ok hk hki ?_ hno
        by_cases hjk : j = k
        · subst hjk; exact hjun
        · rw [getD_set_ne true hjk] at hun; exact hun
      refine wpOp_mono (fun a' w' h3 => ⟨h3.2.1, ih (listed.setIfInBounds j true) a' w' (inv.set hj hjn) hfree' (ready_mono hr (Ne.symm hji)) h3.1 h3.2.1 ?_⟩) h2
      rw [Array.setIfInBounds_comm _ _ hji]
      exact h3.2.2

/-- The walk over these operations: (o, false) only reads and may be taken as soon as it may come up; (o, true) is the one that may come up. -/
def wpCan (P : Program) (ops : Array Oper) (Q : Exit → Act → World → Prop) (N : Nat → Prop) (T : Act → World → Prop) : List (Oper × Bool) → Act → World → Prop
  | [], a, w => T a w
  | (o, false) :: p, a, w => ∃ v, ((Region.wanted o (yielded ops a.tmps) = true ∧ (execOp a.eval o).run P w = .ok (.value v) w ∧ Framed P N o a w) ∨ (Region.wanted o (yielded ops a.tmps) = false ∧ v = undef)) ∧
      (∀ c a w, Q (.panic c) (a.put o.dst v) w → Q (.panic c) a w) ∧ wpCan P ops Q N T p (a.put o.dst v) w
  | (o, true) :: p, a, w => if Region.wanted o (yielded ops a.tmps) then o.wp P a w (fun a' w' => Keep N w w' ∧ wpCan P ops Q N T p a' w') Q else wpCan P ops Q N T p (a.put o.dst undef) w
/-- The operations in an order. -/
def canOps (l : List Oper) : List (Nat × Bool) → List (Oper × Bool)
  | [] => []
  | (i, b) :: p => match l[i]? with | some o => (o, b) :: canOps l p | none => []

/-- Does the order serve? -/
def canFrom (md : Region.Mode) (ops : Array Oper) (n : Nat) : List (Nat × Bool) → Array Bool → Bool
  | [], listed => Region.seqB md ops (ops.size - n) n listed
  | (i, false) :: p, listed => decide (i < n) && (Region.ready md ops listed).contains i && Region.free md ops listed i && canFrom md ops n p (listed.setIfInBounds i true)
  | (i, true) :: p, listed => decide (i < n) && decide (Region.ready md ops listed = [i]) && canFrom md ops n p (listed.setIfInBounds i true)
def canB (md : Region.Mode) (ops : Array Oper) (n : Nat) (p : List (Nat × Bool)) : Bool :=
  Region.noSelect ops && decide (n < ops.size) && decide (p.length = n) && Region.sinkB md ops n && Region.chainB md ops n && canFrom md ops n p (Array.replicate ops.size false)

theorem wpAnyC_can {N : Nat → Prop} {n : Nat} {w0 : World} {T : Act → World → Prop} {l : List Oper} (hsel : Region.noSelect l.toArray = true) (hs : Region.sinkB md l.toArray n = true) (hc : Region.chainB md l.toArray n = true) (hn : n < l.length) :
    ∀ (p : List (Nat × Bool)) (listed : Array Bool) (a : Act) (w : World), HeadInv md l.toArray n listed → canFrom md l.toArray n p listed = true → Keep N w0 w → wpCan P l.toArray Q N T (canOps l p) a w →
      wpAnyC P md l.toArray Q (Keep N w0) n (fun listed' a' w' => Region.seqB md l.toArray (l.toArray.size - n) n listed' = true ∧ T a' w') p.length listed a w
  | [], listed, a, w, _, hB, _, h => ⟨hB, h⟩
  | (i, false) :: p, listed, a, w, inv, hB, hk, h => by
    simp only [canFrom, Bool.and_eq_true, decide_eq_true_eq] at hB
    obtain ⟨⟨⟨hin, hr⟩, hf⟩, hB'⟩ := hB
    have hil : i < l.length := by omega
    have ho : l.toArray[i]? = some l[i] := by simp [hil]
    simp only [canOps, List.getElem?_eq_getElem hil] at h
    obtain ⟨v, hv, hQ, hK⟩ := h
    have hr' : i ∈ Region.ready md l.toArray listed := by simpa using hr
    have hy : YieldsIf P l.toArray (Keep N w0) l[i] v a := by
      rcases hv with ⟨hw, hrun, hfr⟩ | ⟨hw, hv⟩
      · exact .inl ⟨hw, fun w' hw' => hfr v hrun w' (hk.symm.trans hw')⟩
      · exact .inr ⟨hw, hv⟩
    exact wpAnyC_first ho (Region.noSelect_spec hsel) hQ hs hc (by simpa using hn) hin (fun listed' a' w' hL => seqB_ready hL.1) p.length listed a w inv (Region.free_spec ho hf) hr' hy hk
      (wpAnyC_can hsel hs hc hn p _ _ _ (inv.set hr' hin) hB' hk hK)
  | (i, true) :: p, listed, a, w, inv, hB, hk, h => by
    simp only [canFrom, Bool.and_eq_true, decide_eq_true_eq] at hB
    obtain ⟨⟨hin, hr⟩, hB'⟩ := hB
    have hil : i < l.length := by omega
    have ho : l.toArray[i]? = some l[i] := by simp [hil]
    simp only [canOps, List.getElem?_eq_getElem hil] at h
    have hw : if Region.wanted l[i] (yielded l.toArray a.tmps) then l[i].wp P a w (fun a' w' => Keep N w w' ∧ wpCan P l.toArray Q N T (canOps l p) a' w') Q else wpCan P l.toArray Q N T (canOps l p) (a.put l[i].dst undef) w := h
    have hr' : i ∈ Region.ready md l.toArray listed := by rw [hr]; simp
    refine ⟨fun h0 => (by rw [h0] at hr; cases hr), fun j hj => ?_⟩
    rw [hr] at hj
    obtain rfl : j = i := by simpa using hj
    refine ⟨hin, ?_⟩
    unfold wpOp
    simp only [ho]
    split
    · rename_i hwt
      rw [if_pos hwt] at hw
      exact .inl (Oper.wp_mono (fun a' w' h' => ⟨hk.trans h'.1, wpAnyC_can hsel hs hc hn p _ _ _ (inv.set hr' hin) hB' (hk.trans h'.1) h'.2⟩) hw)
    · rename_i hwt
      rw [if_neg hwt] at hw
      exact ⟨hk, wpAnyC_can hsel hs hc hn p _ _ _ (inv.set hr' hin) hB' hk hw⟩

/-- **A region that draws its order, in the order of the prover's.** N: what is read lies below it, and the head's operations leave it alone; n: how many the head has; p: the head's order. -/
theorem wp_region_can {id : Nat} {a : Act} {w : World} {l : List Oper} (N : Nat → Prop) (n : Nat) (p : List (Nat × Bool)) (hm : P.follows .mixedOrders = true) (hB : canB .any l.toArray n p = true)
    (h : wpCan P l.toArray Q N (fun a' w' => wpList P l.toArray Q (l.drop n) a' w') (canOps l p) a w.drew) : (Code.region id l.toArray true).wp P Q a w := by
  simp only [canB, Bool.and_eq_true, decide_eq_true_eq] at hB
  obtain ⟨⟨⟨⟨⟨hsel, hn⟩, hp⟩, hs⟩, hc⟩, hcan⟩ := hB
  have inv0 : HeadInv .any l.toArray n (Array.replicate l.toArray.size false) :=
    ⟨by simp, fun j oj _ hl => (by rw [getD_replicate_false] at hl; cases hl), fun t _ ht => getD_in (by simpa using ht) (getD_replicate_false _ _)⟩
  have H := wpAnyC_can (md := .any) (w0 := w.drew) hsel hs hc (by simpa using hn) p _ a _ inv0 hcan (Keep.refl _ _) h
  refine wp_region_any hm ?_
  have hdl : (l.drop n).length = l.toArray.size - n := by simp
  have := wpAny_of_anyC (g := l.toArray.size - n) (fun listed a' w' hL => by
    have := wpAny_of_seq (md := .any) (Q' := Q) (l.drop n) n listed a' w' (fun j => by simp [List.getElem?_drop]) (by rw [hdl]; exact hL.1) hL.2
    rwa [hdl] at this) _ _ _ _ H
  rw [hp, show n + (l.toArray.size - n) = l.toArray.size by omega] at this
  exact this

/-! ### The steps -/
variable {N : Nat → Prop} {T : Act → World → Prop} {p : List (Oper × Bool)} {o : Oper} {a : Act} {w : World}
theorem wpCan_nil (h : T a w) : wpCan P ops Q N T [] a w := h
/-- Operations that yield a value, if anything. -/
def quietTag : Op → Bool
  | .binOp .. | .unOp .. | .convert .. | .fieldAddr .. | .indexAddr .. | .index .. | .field .. | .extract .. | .slice .. | .load .. => true
  | _ => false
theorem value_of_bind {α : Type} {e : Sem α} {f : α → Value} {w w' : World} {n : Next} (h : (e >>= fun x => pure (Next.value (f x))).run P w = .ok n w') : ∃ v, n = .value v := by
  rw [Sem.run_bind] at h
  cases hr : e.run P w with
  | ok x w1 => rw [hr] at h; simp only [Result.andThen_ok, Sem.run_pure, Result.ok.injEq] at h; exact ⟨_, h.1.symm⟩
  | halt x w1 => rw [hr] at h; simp at h
theorem value_of_tag {o : Oper} {ρ : Operand → Value} {w w' : World} {n : Next} (hq : quietTag o.op = true) (h : (execOp ρ o).run P w = .ok n w') : ∃ v, n = .value v := by
  unfold execOp at h
  cases ho : o.op <;> rw [ho] at hq <;> first | (exact absurd hq Bool.false_ne_true) | (rw [ho] at h; exact value_of_bind (f := id) h)
/-- One that only reads: it is run here; what it reads lies below N. -/
theorem wpCan_q (hg : Region.wanted o (yielded ops a.tmps) = true) (ht : quietTag o.op = true) (hQ : ∀ c a v w, Q (.panic c) (a.put o.dst v) w → Q (.panic c) a w) (hf : Framed P N o a w) (h : ∀ K : Act → Prop, (∀ a, wpCan P ops Q N T p a w → K a) → o.still P a w K) :
    wpCan P ops Q N T ((o, false) :: p) a w := by
  have h1 := h _ (fun _ h => h)
  unfold Oper.still at h1
  generalize hr : (execOp a.eval o).run P w = r at h1
  cases r with
  | ok x w' =>
    obtain ⟨v, rfl⟩ := value_of_tag ht hr
    simp only [Oper.stillUpon] at h1
    obtain ⟨rfl, h2⟩ := h1
    exact ⟨v, .inl ⟨hg, hr, hf⟩, fun c a w => hQ c a _ w, h2⟩
  | halt x w' => simp only [Oper.stillUpon] at h1
/-- The same, its value told. -/
theorem wpCan_v {v : Value} (hg : Region.wanted o (yielded ops a.tmps) = true) (hQ : ∀ c a v w, Q (.panic c) (a.put o.dst v) w → Q (.panic c) a w) (hf : Framed P N o a w) (hr : (execOp a.eval o).run P w = .ok (.value v) w) (h : wpCan P ops Q N T p (a.put o.dst v) w) :
    wpCan P ops Q N T ((o, false) :: p) a w := ⟨v, .inl ⟨hg, hr, hf⟩, fun c a w => hQ c a _ w, h⟩
/-- A call, a new block. -/
theorem wpCan_e (hg : Region.wanted o (yielded ops a.tmps) = true) (h : ∀ K : Act → World → Prop, (∀ a' w', Keep N w w' → wpCan P ops Q N T p a' w' → K a' w') → o.wp P a w K Q) :
    wpCan P ops Q N T ((o, true) :: p) a w := by
  unfold wpCan
  rw [if_pos hg]
  exact h _ (fun _ _ hk h => ⟨hk, h⟩)
theorem wpCan_move {x : Operand} (hg : Region.wanted o (yielded ops a.tmps) = true) (hop : o.op = .move x) (hQ : ∀ c a v w, Q (.panic c) (a.put o.dst v) w → Q (.panic c) a w) (h : wpCan P ops Q N T p (a.put o.dst (a.eval x)) w) :
    wpCan P ops Q N T ((o, false) :: p) a w := wpCan_v hg hQ (.move hop) (by unfold execOp; rw [hop]; rfl) h
theorem wpCan_assign {x : Operand} (hg : Region.wanted o (yielded ops a.tmps) = true) (hop : o.op = .assign x) (hQ : ∀ c a v w, Q (.panic c) (a.put o.dst v) w → Q (.panic c) a w) (h : wpCan P ops Q N T p (a.put o.dst (a.eval x)) w) :
    wpCan P ops Q N T ((o, false) :: p) a w := wpCan_v hg hQ (.assign hop) (by unfold execOp; rw [hop]; rfl) h
theorem wpCan_nilCheck {x : Operand} {q : Addr} (hg : Region.wanted o (yielded ops a.tmps) = true) (hop : o.op = .nilCheck x) (hx : a.eval x = .pointer (some q)) (hQ : ∀ c a v w, Q (.panic c) (a.put o.dst v) w → Q (.panic c) a w) (h : wpCan P ops Q N T p (a.put o.dst (.pointer (some q))) w) :
    wpCan P ops Q N T ((o, false) :: p) a w := wpCan_v hg hQ (.nilCheck hop hx) (by unfold execOp; rw [hop]; simp only [hx]; rfl) h
/-- A row out of a block of integers below N. -/
theorem wpCan_load_arr {ty : TypeId} {x : Operand} {n t g : Nat} {k : IntKind} {f : Nat → Int} {fr : Nat × Nat} (hgd : Region.wanted o (yielded ops a.tmps) = true) (hop : o.op = .load ty x) (hx : a.eval x = .pointer (some ⟨g, 0, none⟩)) (hQ : ∀ c a v w, Q (.panic c) (a.put o.dst v) w → Q (.panic c) a w) (hT : RowT P ty n)
    (hN : N g) (hg : w.heap[g]? = some (.cells (arr k n f) t fr)) (h : wpCan P ops Q N T p (a.put o.dst (.agg (arr k n f))) w) : wpCan P ops Q N T ((o, false) :: p) a w :=
  wpCan_v hgd hQ (.load hop hx hN hg) (run_op_load hop hx (run_loadVar_arr0 hT hg)) h
theorem wpCan_load_sub {ty : TypeId} {x : Operand} {n M t g off : Nat} {k : IntKind} {f : Nat → Int} {fr : Nat × Nat} (hgd : Region.wanted o (yielded ops a.tmps) = true) (hop : o.op = .load ty x) (hx : a.eval x = .pointer (some ⟨g, off, none⟩)) (hQ : ∀ c a v w, Q (.panic c) (a.put o.dst v) w → Q (.panic c) a w) (hT : RowT P ty n)
    (hN : N g) (hg : w.heap[g]? = some (.cells (arr k M f) t fr)) (hle : off + n ≤ M) (h : wpCan P ops Q N T p (a.put o.dst (.agg (arr k n fun i => f (off + i)))) w) : wpCan P ops Q N T ((o, false) :: p) a w :=
  wpCan_v hgd hQ (.load hop hx hN hg) (run_op_load hop hx (run_loadVar_arrV hT hg hle)) h
/-- A new block of zeros. -/
theorem wpCan_alloc_arr {ty n : Nat} {k : IntKind} (hgd : Region.wanted o (yielded ops a.tmps) = true) (hop : o.op = .alloc ty) (hz : ZeroT P ty k n) (hN : ∀ i, N i → i < w.heap.size)
    (h : wpCan P ops Q N T p (a.put o.dst (.pointer (some ⟨w.heap.size, 0, none⟩))) (w.alloc (.cells (arr k n fun _ => 0) ty))) : wpCan P ops Q N T ((o, true) :: p) a w :=
  wpCan_e hgd fun K hK => by unfold Oper.wp; rw [run_op_alloc hop hz]; exact hK _ _ (Keep.alloc _ _ hN) h
/-- A row into a whole block from N on. -/
theorem wpCan_store_arr {ty : TypeId} {x y : Operand} {n t g : Nat} {k : IntKind} {f f' : Nat → Int} (hgd : Region.wanted o (yielded ops a.tmps) = true) (hop : o.op = .store ty x y) (hx : a.eval x = .pointer (some ⟨g, 0, none⟩)) (hy : a.eval y = .agg (arr k n f'))
    (hT : RowT P ty n) (hN : ¬ N g) (hg : w.heap[g]? = some (.cells (arr k n f) t (0, 0))) (h : wpCan P ops Q N T p (a.put o.dst undef) (w.setRow g (arr k n f'))) : wpCan P ops Q N T ((o, true) :: p) a w :=
  wpCan_e hgd fun K hK => by
    have hr := run_op_store hop hx hy (run_storeVar_arr (off := 0) hT hg (by omega))
    rw [show arr k n (patch f 0 n f') = arr k n f' from arr_ext fun i hi => patch_whole _ _ _ _ hi] at hr
    unfold Oper.wp
    rw [hr]
    exact hK _ _ (fun b hb => setRow_other _ _ _ _ (fun e => hN (e ▸ hb))) h
/-- What yields the same in whatever world. -/
theorem wpCan_all {v : Value} (hg : Region.wanted o (yielded ops a.tmps) = true) (hQ : ∀ c a v w, Q (.panic c) (a.put o.dst v) w → Q (.panic c) a w) (hr : ∀ w', (execOp a.eval o).run P w' = .ok (.value v) w') (h : wpCan P ops Q N T p (a.put o.dst v) w) :
    wpCan P ops Q N T ((o, false) :: p) a w := wpCan_v hg hQ (fun u hu w' _ => by
      have h1 := hr w
      rw [hu] at h1
      simp only [Result.ok.injEq, Next.value.injEq] at h1
      rw [h1.1]; exact hr w') (hr w) h
theorem wpCan_skip (hg : Region.wanted o (yielded ops a.tmps) = false) (hQ : ∀ c a v w, Q (.panic c) (a.put o.dst v) w → Q (.panic c) a w) (h : wpCan P ops Q N T p (a.put o.dst undef) w) : wpCan P ops Q N T ((o, false) :: p) a w :=
  ⟨undef, .inr ⟨hg, rfl⟩, fun c a w => hQ c a _ w, h⟩
theorem wpCan_skip_e (hg : Region.wanted o (yielded ops a.tmps) = false) (h : wpCan P ops Q N T p (a.put o.dst undef) w) : wpCan P ops Q N T ((o, true) :: p) a w := by
  unfold wpCan
  rw [if_neg (by rw [hg]; exact Bool.false_ne_true)]
  exact h
/-- Two truth values, or one of two, held against each other. -/
theorem wpCan_eqb {op : BinOp} {t u : TypeId} {x y : Operand} {b c : Bool} (hg : Region.wanted o (yielded ops a.tmps) = true) (ho : o.op = .binOp .eql t x y u) (hx : a.eval x = .bool b) (hy : a.eval y = .bool c) (ht : P.underlying t = some .bool) (hQ : ∀ c a v w, Q (.panic c) (a.put o.dst v) w → Q (.panic c) a w) (h : wpCan P ops Q N T p (a.put o.dst (.bool (b == c))) w) :
    wpCan P ops Q N T ((o, false) :: p) a w := wpCan_all hg hQ (fun w' => by
      have h1 : (eqGuard .eql t x y (.bool b) (.bool c)).run P w' = .ok () w' := rfl
      have h2 : (binOp .eql t (.bool b) (.bool c)).run P w' = .ok (.bool (b == c)) w' := by
        show ((Op.equal t (.bool b) (.bool c) >>= fun r => pure (.bool r) : Sem Value)).run P w' = _
        have h3 : (Op.equal t (.bool b) (.bool c)).run P w' = .ok (b == c) w' := run_equalIn_bool' w' 9999 t b c ht
        rw [Sem.run_bind, h3]
        rfl
      unfold execOp
      simp only [ho, hx, hy, Sem.run_bind, h1, h2, Result.andThen_ok, Sem.run_pure]) h
theorem wpCan_pick {c x y : Operand} {b : Bool} (hg : Region.wanted o (yielded ops a.tmps) = true) (ho : o.op = .pick c x y) (hc : a.eval c = .bool b) (hQ : ∀ c a v w, Q (.panic c) (a.put o.dst v) w → Q (.panic c) a w) (h : wpCan P ops Q N T p (a.put o.dst (if b then a.eval x else a.eval y)) w) :
    wpCan P ops Q N T ((o, false) :: p) a w := wpCan_all hg hQ (fun w' => by
      unfold execOp
      simp only [ho, hc]
      cases b <;> rfl) h
/-- A field's place, as a closed fact. -/
def FieldT (P : Program) (s : TypeId) (f : Nat) : Prop := ∃ fs fd n, P.underlying s = some (.struct fs) ∧ fs[f]? = some fd ∧ (P.info? fd.type).map (·.size) = some (n + 1)
theorem Framed.fieldT {s : TypeId} {x : Operand} {f : Nat} (ho : o.op = .fieldAddr s x f) (h : FieldT P s f) : Framed P N o a w := by
  obtain ⟨fs, fd, n, hs, hf, hi⟩ := h
  cases hq : P.info? fd.type with
  | none => simp [hq] at hi
  | some i =>
    have h1 : i.size = n + 1 := by simpa [hq] using hi
    exact .fieldAddr ho hs hf hq (by omega)
theorem wpCan_load_as {ty : TypeId} {x : Operand} {n M t g off : Nat} {k : IntKind} {f : Nat → Int} {fr : Nat × Nat} (f' : Nat → Int) (hgd : Region.wanted o (yielded ops a.tmps) = true) (hop : o.op = .load ty x) (hx : a.eval x = .pointer (some ⟨g, off, none⟩)) (hQ : ∀ c a v w, Q (.panic c) (a.put o.dst v) w → Q (.panic c) a w) (hT : RowT P ty n)
    (hN : N g) (hg : w.heap[g]? = some (.cells (arr k M f) t fr)) (hle : off + n ≤ M) (hf : ∀ i, i < n → f (off + i) = f' i) (h : wpCan P ops Q N T p (a.put o.dst (.agg (arr k n f'))) w) : wpCan P ops Q N T ((o, false) :: p) a w :=
  wpCan_load_sub hgd hop hx hQ hT hN hg hle (by rw [arr_ext hf]; exact h)
end
end Go.Proofs.Ytfbfkfdkigpkgaa.CanB
