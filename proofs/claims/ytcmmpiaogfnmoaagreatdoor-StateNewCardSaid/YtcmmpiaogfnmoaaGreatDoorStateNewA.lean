/- Arrays as functions from their indexes, as blocks of memory; no program is in sight. A region that draws its order, walked once, in an order of the prover's: what only reads may be taken as soon as it may come up, if what it reads lies below a block number and whatever is carried out leaves that part of memory alone; calls and new blocks come in their one order; a forced tail stores. No program is in sight. A region that draws its order: what each operation gives is told in whatever order; no program is in sight. A region that draws its order, walked once, in an order of the prover's, where wh -/
import Derived.WalkKit
import Derived.WalkSpells
import Derived.WalkLawsBesides
import Derived.Deep.QuietTactic
import Derived.BigQuiet
import Derived.StillTailTactics
import Derived.Lib.Hide
import Derived.Deep.LoopGhost
import Derived.Outline
import Derived.Deep.DeepFit
import Derived.Deep.RegionHeld3
import Derived.Deep.RegionLaw
import Derived.OrdersHeld
import Derived.Laws.StructEq
import Derived.Maps.AppendAt
import Derived.Deep.AppendLies
import Derived.Deep.Draws
import Derived.Laws.OwnMore
import Derived.Laws.AppendOwnNone
import Derived.OwnWalk
import Derived.Below
import Derived.Deep.Cut
import Derived.Deep.CutBlock
import Derived.Deep.CutRange
import Derived.DataElems
import Derived.Great.BuildSlice
import Derived.Laws.Entries
import Derived.Laws.Tables
import Derived.Lib.SliceRun
import Derived.Laws.Small
import Derived.ChangeSlices
import Derived.Great.Walk
import Derived.Laws.Externs
import Derived.Lib.Mul64
import Derived.Lib.SmallJoins
import Derived.SizedLaws
set_option linter.unusedSimpArgs false
set_option linter.unusedVariables false
set_option maxRecDepth 200000
set_option maxHeartbeats 6000000
namespace Go.Proofs.YtcmmpiaogfnmoaaGreatDoor
theorem jA {α : Type} {l : List α} {i : Nat} {a : α} : l.toArray.setIfInBounds i a = (l.set i a).toArray := List.setIfInBounds_toArray ..
theorem jB {α : Type} {a b : α} {l : List α} : (a :: l).set 0 b = b :: l := rfl
theorem jC {α : Type} {a b : α} {l : List α} {n : Nat} : (a :: l).set (n + 1) b = a :: l.set n b := rfl
theorem jD {α : Type} {a : α} {l : List α} : (a :: l)[0]? = some a := rfl
theorem jE {α : Type} {a : α} {l : List α} {n : Nat} : (a :: l)[n + 1]? = l[n]? := rfl
theorem jF {α : Type} {a : α} {l : List α} {n : Nat} : (a :: l).drop (n + 1) = l.drop n := rfl
theorem jG {α : Type} {l : List α} : l.drop 0 = l := rfl
theorem jH {α : Type} {a : α} {l : List α} {n : Nat} : (a :: l).take (n + 1) = a :: l.take n := rfl
theorem jI {α : Type} {l : List α} : l.take 0 = [] := rfl
theorem jJ {α : Type} {p : α → Prop} {a : α} {l : List α} : (∀ x ∈ a :: l, p x) ↔ p a ∧ ∀ x ∈ l, p x := List.forall_mem_cons
theorem jK {α : Type} (p : α → Prop) : ∀ x ∈ ([] : List α), p x := fun _ h => by cases h
theorem jL {α : Type} {l : List α} {i : Nat} : l.toArray[i]? = l[i]? := List.getElem?_toArray
theorem jM {w : World} {b : Nat} {o : Obj} (h : w.heap[b]? = some o) : b < w.heap.size := Go.lt_of_block h
theorem jN {α : Type} {xs : Array α} {i : Nat} {d : α} : xs.getD i d = xs[i]?.getD d := Array.getD_eq_getD_getElem?
theorem jO {α : Type} {a d : α} : (some a).getD d = a := rfl
theorem jP {α : Type} {l : List α} {i : Nat} (h : i < l.length) : l[i]? = some l[i] := List.getElem?_eq_getElem h
theorem jQ {α : Type} {b c : List α} : (b ++ c).length = b.length + c.length := List.length_append
theorem jR {α : Type} {l : List α} {i : Nat} {a : α} : l.getD i a = l[i]?.getD a := List.getD_eq_getElem?_getD
theorem jS {p : Prop} [Decidable p] : (decide p = true) = p := decide_eq_true_eq
theorem jT {n m k : Nat} : n < m → m ≤ k → n < k := Nat.lt_of_lt_of_le
theorem jU {n m k : Nat} : n ≤ m → m ≤ k → n ≤ k := Nat.le_trans
theorem jV (n : Nat) : n ≤ n := Nat.le_refl n
section
open Go.RowKit
def zv4 (n : Nat) (g : Nat → Value) : Array Value := ((List.range n).map g).toArray
def arr (k : IntKind) (n : Nat) (f : Nat → Int) : Array Value := zv4 n (fun i => .int k (f i))
def upd {α : Type} (f : Nat → α) (i : Nat) (v : α) : Nat → α := fun j => if j = i then v else f j
theorem zwh (n : Nat) (g : Nat → Value) (i : Nat) (h : i < n) : (zv4 n g)[i]? = some (g i) := by
 simp [zv4, h]
theorem zzB (k : IntKind) (n : Nat) (f : Nat → Int) (i : Nat) (h : i < n) : (arr k n f)[i]? = some (.int k (f i)) := zwh _ _ _ h
theorem zwi {n : Nat} {f g : Nat → Value} (h : ∀ i, i < n → f i = g i) : zv4 n f = zv4 n g := by
 unfold zv4
 congr 1
 apply List.map_congr_left
 intro i hi
 exact h i (List.mem_range.1 hi)
theorem zzC {k : IntKind} {n : Nat} {f g : Nat → Int} (h : ∀ i, i < n → f i = g i) : arr k n f = arr k n g :=
 zwi fun i hi => by rw [h i hi]
section
variable {w : World} {B n t : Nat} {k : IntKind} {f : Nat → Int} {fr : Nat × Nat}
end
def zFC (P : Program) (ty : TypeId) (n : Nat) : Prop := ∃ d, P.underlying ty = some d ∧ (match d with | .struct _ | .array _ _ => true | _ => false) = true ∧ (P.info? ty).map (·.size) = some n
section
variable {P : Program} {ops : Array Oper} {rest : List Oper} {o : Oper} {a : Act} {w : World} {Q : Exit → Act → World → Prop}
theorem zck (g o j : Nat) : (⟨g, o, none⟩ : Addr).add j = ⟨g, o + j, none⟩ := by
 unfold Addr.add; split <;> simp_all
theorem zcb {ty : TypeId} {x y : Operand} (ho : o.op = .store ty x y) {g off : Nat} (hx : a.eval x = .pointer (some ⟨g, off, none⟩)) {v : Value} (hy : a.eval y = v) {w' : World}
  (hl : (storeVar ty ⟨g, off, none⟩ v).run P w = .ok () w') : (execOp a.eval o).run P w = .ok .skip w' := by
 unfold execOp
 simp only [ho, hx, hy, Instr.storeAt, Instr.sureAddr, Sem.run_bind, Sem.run_pure, Result.andThen_ok, hl]
theorem zeQ {c c' : Array Value} {g t : Nat} {fr : Nat × Nat} (hg : w.heap[g]? = some (.cells c t fr)) : (w.setRow g c').heap[g]? = some (.cells c' t fr) := setRow_heap w g c c' t fr hg
end
end
section
open Go.RowKit
def Keep (N : Nat) (w w' : World) : Prop := ∀ b, b < N → w'.heap[b]? = w.heap[b]?
theorem Keep.refl (N : Nat) (w : World) : Keep N w w := fun _ _ => rfl
theorem Keep.trans {N : Nat} {a b c : World} (h : Keep N a b) (k : Keep N b c) : Keep N a c := fun i hi => (k i hi).trans (h i hi)
theorem Keep.symm {N : Nat} {a b : World} (h : Keep N a b) : Keep N b a := fun i hi => (h i hi).symm
theorem Keep.of_below {N B : Nat} {a b : World} (h : Below B a b) (hN : N ≤ B) : Keep N a b := fun i hi => h.block i (jT hi hN)
theorem Keep.alloc {N : Nat} (w : World) (x : Obj) (hN : N ≤ w.heap.size) : Keep N w (w.alloc x) := fun i hi => Below.heap_alloc _ _ _ (by omega)
theorem Keep.drew {N : Nat} (w : World) : Keep N w w.drew := fun _ _ => rfl
theorem Keep.drewN {N n : Nat} (w : World) : Keep N w (w.drewN n) := fun _ _ => rfl
def blind {α : Type} (P : Program) : Sem α → Prop
 | .pure _ => True
 | .halt _ => True
 | .program k => blind P (k P)
 | .mark _ k => blind P k
 | .choose _ k => ∀ n, blind P (k n)
 | _ => False
theorem blind_drawn {α : Type} {P : Program} : ∀ (e : Sem α) (w w1 : World) (v : α), blind P e → e.run P w = .ok v w1 → w.drawn ≤ w1.drawn := by
 intro e
 induction e with
 | pure a => intro w w1 v _ h; simp only [Sem.run, Result.ok.injEq] at h; rw [h.2]; exact jV _
 | halt x => intro w w1 v _ h; simp [Sem.run] at h
 | program k ih => intro w w1 v hb h; exact ih P w w1 v hb h
 | mark m k ih => intro w w1 v hb h; exact ih w w1 v hb h
 | choose q k ih =>
  intro w w1 v hb h
  simp only [Sem.run] at h
  split at h
  ·exact ih _ w w1 v (hb _) h
  ·have := ih _ _ w1 v (hb _) h
   simp only at this
   omega
 | _ => intro w w1 v hb; exact hb.elim
theorem blind_run {α : Type} {P : Program} : ∀ (e : Sem α) (w : World) (v : α), blind P e → e.run P w = .ok v w → ∀ w', e.run P w' = .ok v w' := by
 intro e
 induction e with
 | pure a => intro w v _ h w'; simp only [Sem.run, Result.ok.injEq] at h ⊢; exact ⟨h.1, trivial⟩
 | halt x => intro w v _ h; simp [Sem.run] at h
 | program k ih => intro w v hb h w'; exact ih P w v hb h w'
 | mark m k ih => intro w v hb h w'; exact ih w v hb h w'
 | choose q k ih =>
  intro w v hb h w'
  simp only [Sem.run] at h ⊢
  split at h
  ·rename_i hf; rw [if_pos hf]; exact ih _ w v (hb _) h w'
  ·have := blind_drawn _ _ w v (hb _) h
   simp only at this
   omega
 | _ => intro w v hb; exact hb.elim
theorem blind_bind {α β : Type} {P : Program} : ∀ (e : Sem α) (f : α → Sem β), blind P e → (∀ a, blind P (f a)) → blind P (e.bind f) := by
 intro e
 induction e with
 | pure a => intro f _ hf; exact hf a
 | halt x => intro f _ _; trivial
 | program k ih => intro f hb hf; exact ih P f hb hf
 | mark m k ih => intro f hb hf; exact ih f hb hf
 | choose q k ih => intro f hb hf n; exact ih n f (hb n) hf
 | _ => intro f hb; exact hb.elim
theorem blind_bind' {α β : Type} {P : Program} (e : Sem α) (f : α → Sem β) (he : blind P e) (hf : ∀ a, blind P (f a)) : blind P (e >>= f) := blind_bind e f he hf
theorem blind_under {β : Type} {P : Program} {t : TypeId} {f : TypeDesc → Sem β} (h : ∀ d, P.underlying t = some d → blind P (f d)) : blind P (underlying t >>= f) := by
 show blind P ((match P.underlying t with | some d => pure d | none => stuck "no such type" : Sem TypeDesc).bind f)
 cases hd : P.underlying t with
 | none => trivial
 | some d => exact h d hd
theorem blind_typeInfo {P : Program} (t : TypeId) : blind P (typeInfo t) := by
 show blind P (match P.info? t with | some i => pure i | none => stuck "no such type" : Sem TypeInfo)
 cases P.info? t <;> trivial
theorem blind_sizeOf {P : Program} (t : TypeId) : blind P (sizeOf t) := blind_bind' _ _ (blind_typeInfo t) fun _ => trivial
theorem blind_bounds {α : Type} {P : Program} (k : IntKind) (x y : Int) (c : BoundsCode) : blind P (boundsPanic (α := α) k x y c) := by
 unfold boundsPanic
 split
 ·exact fun n => trivial
 ·trivial
theorem blind_asIntOf {P : Program} (v : Value) : blind P (asIntOf v) := by
 unfold asIntOf; split <;> trivial
theorem blind_isAgg {P : Program} (t : TypeId) : blind P (isAgg t) := by
 unfold isAgg
 refine blind_under fun d _ => ?_
 split <;> trivial
theorem blind_part {P : Program} (t : TypeId) (cs : Array Value) (off : Nat) : blind P (part t cs off) := by
 unfold part
 refine blind_bind' _ _ (blind_isAgg t) fun b => ?_
 split
 ·exact blind_bind' _ _ (blind_sizeOf t) fun _ => trivial
 ·split <;> trivial
theorem blind_sureAddr {P : Program} (v : Value) : blind P (Instr.sureAddr v) := by
 unfold Instr.sureAddr; split <;> trivial
def Framed (P : Program) (N : Nat) (o : Oper) (a : Act) (w : World) : Prop :=
 ∀ v, (execOp a.eval o).run P w = .ok (.value v) w → ∀ w', Keep N w w' → (execOp a.eval o).run P w' = .ok (.value v) w'
section
variable {P : Program} {N : Nat} {o : Oper} {a : Act} {w : World}
theorem Framed.of_blind (h : blind P (execOp a.eval o)) : Framed P N o a w := fun v hv w' _ => blind_run _ w _ h hv w'
theorem Framed.move {x : Operand} (ho : o.op = .move x) : Framed P N o a w := .of_blind (by unfold execOp; rw [ho]; trivial)
theorem Framed.assign {x : Operand} (ho : o.op = .assign x) : Framed P N o a w := .of_blind (by unfold execOp; rw [ho]; trivial)
theorem Framed.conv {s d : TypeId} {x : Operand} {k k' : IntKind} {n : Int} (ho : o.op = .convert s d x) (hx : a.eval x = .int k n) (hd : P.underlying d = some (.int k')) : Framed P N o a w := .of_blind (by
 unfold execOp
 rw [ho]
 simp only [hx]
 refine blind_bind' _ _ ?_ fun _ => trivial
 unfold convert
 refine blind_under fun u _ => blind_under fun e he => ?_
 rw [hd] at he
 obtain rfl := Option.some.inj he
 cases u <;> trivial)
theorem Framed.fieldAddr {s : TypeId} {x : Operand} {f : Nat} {fs : Array Field} {fd : Field} {i : TypeInfo} (ho : o.op = .fieldAddr s x f) (hs : P.underlying s = some (.struct fs)) (hf : fs[f]? = some fd) (hi : P.info? fd.type = some i) (h0 : i.size ≠ 0) : Framed P N o a w := .of_blind (by
 unfold execOp
 rw [ho]
 refine blind_bind' _ _ ?_ fun _ => trivial
 unfold Instr.fieldAt
 refine blind_under fun d hd => ?_
 rw [hs] at hd
 obtain rfl := Option.some.inj hd
 simp only [hf]
 refine blind_bind' _ _ (blind_sureAddr _) fun ad => blind_bind' _ _ ?_ fun _ => trivial
 unfold fieldPlace
 show blind P ((sizeOf fd.type) >>= _)
 show blind P (((match P.info? fd.type with | some i => pure i | none => stuck "no such type" : Sem TypeInfo).bind fun i => pure i.size).bind _)
 rw [hi]
 show blind P (if i.size = 0 then _ else _)
 rw [if_neg h0]
 trivial)
theorem Framed.indexAddr {t : TypeId} {x y : Operand} (ho : o.op = .indexAddr t x y) : Framed P N o a w := .of_blind (by
 unfold execOp
 rw [ho]
 refine blind_bind' _ _ ?_ fun _ => trivial
 unfold Instr.indexAt
 refine blind_bind' _ _ (blind_asIntOf _) fun ki => blind_under fun d _ => ?_
 have tail : ∀ (r : Option Addr × Nat × TypeId), blind P (do
   let (base, len, elem) := r
   let tiny := len ≤ 1 && (match ← underlying t with | .array .. => true | _ => false)
   match base with
   | some a =>
    if 0 ≤ ki.2 ∧ ki.2 < len then pure (.pointer (some (a.add (ki.2.toNat * (← sizeOf elem)))))
    else if tiny then unsupported (.noEntry "op/indexAddr.an index out of range at an array of length 0 or 1 (ledger 616)")
    else boundsPanic ki.1 ki.2 len .index
   | none => boundsPanic ki.1 ki.2 0 .index : Sem Value) := by
  rintro ⟨base, len, elem⟩
  refine blind_under fun d2 _ => ?_
  cases base with
  | none => exact blind_bounds _ _ _ _
  | some ad => repeat' (first | exact blind_bounds _ _ _ _ | exact blind_bind' _ _ (blind_sizeOf _) (fun _ => trivial) | trivial | split | (dsimp only; split))
 split
 ·dsimp only; exact blind_bind' _ _ (blind_sureAddr _) (fun _ => blind_bind' _ _ trivial tail)
 ·dsimp only; exact blind_bind' _ _ trivial tail
 ·trivial)
theorem Framed.nilCheck {x : Operand} {p : Addr} (ho : o.op = .nilCheck x) (hx : a.eval x = .pointer (some p)) : Framed P N o a w := .of_blind (by
 unfold execOp
 rw [ho]
 simp only [hx]
 trivial)
theorem Framed.extract {x : Operand} {i : Nat} (ho : o.op = .extract x i) : Framed P N o a w := .of_blind (by
 unfold execOp
 rw [ho]
 refine blind_bind' _ _ ?_ fun _ => trivial
 unfold Instr.extract
 split <;> (try split) <;> trivial)
theorem Framed.index {t : TypeId} {x y : Operand} (ho : o.op = .index t x y) : Framed P N o a w := .of_blind (by
 unfold execOp
 rw [ho]
 refine blind_bind' _ _ ?_ fun _ => trivial
 unfold Instr.index
 refine blind_bind' _ _ (blind_asIntOf _) fun ki => blind_under fun d _ => ?_
 split
 ·split
  ·exact blind_bind' _ _ (blind_sizeOf _) fun _ => blind_part _ _ _
  ·exact blind_bounds _ _ _ _
 ·split
  ·trivial
  ·exact blind_bounds _ _ _ _
 ·trivial)
theorem blind_sliceBound (x : Value) (y : Nat) (c : BoundsCode) : blind P (Instr.sliceBound x y c) := by
 unfold Instr.sliceBound
 refine blind_bind' _ _ (blind_asIntOf _) ?_
 rintro ⟨k, i⟩
 dsimp only
 split
 ·trivial
 ·exact blind_bounds _ _ _ _
theorem blind_sliceBounds (b : Bool) (l c : Nat) (lo hi mx : Option Value) : blind P (Instr.sliceBounds b l c lo hi mx) := by
 unfold Instr.sliceBounds
 have h3 : ∀ m h : Nat, blind P ((do
   let l ← match lo with
    | some v => Instr.sliceBound v h (if mx.isSome then .slice3C else .sliceB)
    | none => pure 0
   pure (l, h, m) : Sem (Nat × Nat × Nat))) := by
  intro m h
  cases lo with
  | none => trivial
  | some v => exact blind_bind' _ _ (blind_sliceBound _ _ _) fun _ => trivial
 have h2 : ∀ m : Nat, blind P ((do
   let h ← match hi, mx with
    | some v, some _ => Instr.sliceBound v m .slice3B
    | some v, none => Instr.sliceBound v m (if b then .sliceAcap else .sliceAlen)
    | none, none => pure l
    | none, some _ => stuck "Slice: max without high"
   let l ← match lo with
    | some v => Instr.sliceBound v h (if mx.isSome then .slice3C else .sliceB)
    | none => pure 0
   pure (l, h, m) : Sem (Nat × Nat × Nat))) := by
  intro m
  cases hi with
  | none => cases mx with
   | none => exact h3 _ _
   | some v => trivial
  | some u => cases mx with
   | none => exact blind_bind' _ _ (blind_sliceBound _ _ _) fun _ => h3 _ _
   | some v => exact blind_bind' _ _ (blind_sliceBound _ _ _) fun _ => h3 _ _
 cases mx with
 | none => exact h2 _
 | some v => exact blind_bind' _ _ (blind_sliceBound _ _ _) fun _ => h2 _
theorem Framed.slice {t : TypeId} {x : Operand} {lo hi mx : Option Operand} (ho : o.op = .slice t x lo hi mx) : Framed P N o a w := .of_blind (by
 unfold execOp
 rw [ho]
 refine blind_bind' _ _ ?_ fun _ => trivial
 unfold Instr.sliceAt
 refine blind_under fun d _ => ?_
 split
 ·exact blind_bind' _ _ (blind_sureAddr _) fun _ => blind_bind' _ _ (blind_sliceBounds _ _ _ _ _ _) fun _ => blind_bind' _ _ (blind_sizeOf _) fun _ => trivial
 ·unfold Instr.slice
  refine blind_under fun d2 _ => ?_
  split
  ·split
   ·trivial
   ·exact blind_bind' _ _ (blind_sliceBounds _ _ _ _ _ _) fun _ => trivial
  ·exact blind_bind' _ _ (blind_sliceBounds _ _ _ _ _ _) fun _ => blind_bind' _ _ (blind_sizeOf _) fun _ => trivial
  ·refine blind_bind' _ _ ?_ fun ad => blind_under fun d3 _ => ?_
   ·unfold asAddr; split <;> trivial
   ·split
    ·exact blind_bind' _ _ (blind_sliceBounds _ _ _ _ _ _) fun _ => blind_bind' _ _ (blind_sizeOf _) fun _ => trivial
    ·trivial
  ·trivial)
def looksAt {α : Type} (P : Program) (b : Nat) : Sem α → Prop
 | .pure _ => True
 | .halt _ => True
 | .program k => looksAt P b (k P)
 | .mark _ k => looksAt P b k
 | .load _ ad k => ad.block = b ∧ ∀ v, looksAt P b (k v)
 | _ => False
theorem looksAt_run {α : Type} {b : Nat} {w w' : World} {c : Array Value} {t : TypeId} {fr : Nat × Nat} (hb : w.heap[b]? = some (.cells c t fr)) (hb' : w'.heap[b]? = some (.cells c t fr)) : ∀ (e : Sem α) (v : α), looksAt P b e → e.run P w = .ok v w → e.run P w' = .ok v w' := by
 intro e
 induction e with
 | pure a => intro v _ h; simp only [Sem.run, Result.ok.injEq] at h ⊢; exact ⟨h.1, trivial⟩
 | halt x => intro v _ h; simp [Sem.run] at h
 | program k ih => intro v hl h; exact ih P v hl h
 | mark m k ih => intro v hl h; exact ih v hl h
 | load m ad k ih =>
  intro v hl h
  obtain ⟨rfl, hk⟩ := hl
  have e1 : w'.cell? ad = w.cell? ad := by unfold World.cell?; rw [hb, hb']
  simp only [Sem.run] at h ⊢
  rw [e1]
  cases hc : w.cell? ad with
  | some u => rw [hc] at h; exact ih u v (hk u) h
  | none =>
   rw [hc] at h
   have : w.farLoad P ad (m == .atomic) = .error (w.noCell ad "load: no such cell") := by unfold World.farLoad; rw [hb]
   rw [this] at h
   simp at h
 | _ => intro v hl; exact hl.elim
theorem looksAt_bind {α β : Type} {b : Nat} : ∀ (e : Sem α) (f : α → Sem β), looksAt P b e → (∀ a, looksAt P b (f a)) → looksAt P b (e.bind f) := by
 intro e
 induction e with
 | pure a => intro f _ hf; exact hf a
 | halt x => intro f _ _; trivial
 | program k ih => intro f hb hf; exact ih P f hb hf
 | mark m k ih => intro f hb hf; exact ih f hb hf
 | load m ad k ih => intro f hb hf; exact ⟨hb.1, fun v => ih v f (hb.2 v) hf⟩
 | _ => intro f hb; exact hb.elim
theorem looksAt_loadCellsFrom {b off : Nat} : ∀ (n i : Nat) (acc : Array Value), looksAt P b (loadCellsFrom ⟨b, off, none⟩ i n acc)
 | 0, _, _ => trivial
 | n + 1, i, acc => by
  unfold loadCellsFrom
  refine looksAt_bind _ _ ⟨?_, fun _ => trivial⟩ fun v => looksAt_loadCellsFrom n (i + 1) _
  rw [zck]
theorem looksAt_loadVar {b off : Nat} {t : TypeId} : looksAt P b (loadVar t ⟨b, off, none⟩) := by
 unfold loadVar
 refine looksAt_bind _ _ ?_ fun g => ?_
 ·unfold isAgg
  refine looksAt_bind _ _ ?_ fun d => ?_
  ·show looksAt P b (match P.underlying t with | some d => pure d | none => stuck "no such type" : Sem TypeDesc)
   cases P.underlying t <;> trivial
  ·split <;> trivial
 ·split
  ·refine looksAt_bind _ _ ?_ fun n => looksAt_bind _ _ (looksAt_loadCellsFrom _ _ _) ?_
   ·unfold sizeOf
    refine looksAt_bind _ _ ?_ ?_
    ·show looksAt P b (match P.info? t with | some i => pure i | none => stuck "no such type" : Sem TypeInfo)
     cases P.info? t <;> trivial
    ·intro _; trivial
   ·intro _; trivial
  ·exact ⟨rfl, fun _ => trivial⟩
theorem Framed.load {t : TypeId} {x : Operand} {b off : Nat} {c : Array Value} {u : TypeId} {fr : Nat × Nat} (ho : o.op = .load t x) (hx : a.eval x = .pointer (some ⟨b, off, none⟩)) (hb : b < N) (hc : w.heap[b]? = some (.cells c u fr)) : Framed P N o a w := by
 intro v hv w' hk
 have hc' : w'.heap[b]? = some (.cells c u fr) := by rw [hk b hb]; exact hc
 unfold execOp at hv ⊢
 rw [ho] at hv ⊢
 simp only [hx] at hv ⊢
 refine looksAt_run hc hc' _ _ ?_ hv
 show looksAt P b ((loadVar t ⟨b, off, none⟩).bind _)
 refine looksAt_bind _ _ looksAt_loadVar ?_
 intro _
 trivial
end
section
variable {P : Program} {ops : Array Oper} {Q : Exit → Act → World → Prop} {md : Region.Mode} {S : World → Prop}
def wpAnyC (P : Program) (md : Region.Mode) (ops : Array Oper) (Q : Exit → Act → World → Prop) (S : World → Prop) (n : Nat) (L : Array Bool → Act → World → Prop) : Nat → Array Bool → Act → World → Prop
 | 0, listed, a, w => L listed a w
 | f + 1, listed, a, w =>
  Region.ready md ops listed ≠ [] ∧ ∀ i ∈ Region.ready md ops listed, i < n ∧ wpOp P ops Q i (fun a' w' => S w' ∧ wpAnyC P md ops Q S n L f (listed.setIfInBounds i true) a' w') a w
theorem wpAny_of_anyC {n g : Nat} {L : Array Bool → Act → World → Prop} (hL : ∀ listed a w, L listed a w → wpAny P md ops Q g listed a w) :
  ∀ (f : Nat) (listed : Array Bool) (a : Act) (w : World), wpAnyC P md ops Q S n L f listed a w → wpAny P md ops Q (f + g) listed a w
 | 0, listed, a, w, h => by rw [Nat.zero_add]; exact hL _ _ _ h
 | f + 1, listed, a, w, h => by
  rw [show f + 1 + g = (f + g) + 1 by omega]
  exact ⟨fun h0 => absurd h0 h.1, fun i hi => wpOp_mono (fun a' w' h' => wpAny_of_anyC hL f _ a' w' h'.2) (h.2 i hi).2⟩
variable {N : Nat} {T : Act → World → Prop} {p : List (Oper × Bool)} {o : Oper} {a : Act} {w : World}
end
end
section
open Go.RowKit
abbrev zzD := Value → World → Prop
def zCE (R : List zzD) (xs : List Value) (w : World) (j : Nat) : Prop :=
 match R[j]?, xs[j]? with
 | some r, some x => r x w
 | _, _ => True
def under (R : List zzD) (xs : List Value) (w : World) : List Nat → Prop → Prop
 | [], p => p
 | j :: js, p => zCE R xs w j → under R xs w js p
def zjF : List Oper → Bool
 | [] => true
 | o :: l => (o.dst.isNone || l.all fun o' => o'.dst != o.dst) && zjF l
def zhH (ops : List Oper) : Nat → List (List Nat) → Bool
 | _, [] => true
 | i, js :: l => (match ops[i]? with | some o => (o.after.all fun e => !Region.binds .any e || decide (e.on < i)) && js.all (fun j => o.after.any fun e => Region.binds .any e && e.on == j) | none => false) && zhH ops (i + 1) l
def zr7 (l : List Oper) (n : Nat) (ps : List (List Nat)) : Bool :=
 Region.noSelect l.toArray && decide (n < l.length) && decide (ps.length = n) && Region.sinkB .any l.toArray n && Region.chainB .any l.toArray n && zjF (l.take n) && zhH l 0 ps &&
  Region.seqB .any l.toArray (l.length - n) n (List.replicate n true ++ List.replicate (l.length - n) false).toArray
def zjG (n : Nat) (listed : Array Bool) : Nat := ((List.range n).filter fun i => !listed.getD i true).length
theorem zwj (n : Nat) (listed : Array Bool) (i : Nat) (hi : i < n) (hl : listed.getD i true = false) : zjG n listed = zjG n (listed.setIfInBounds i true) + 1 := by
 have key : ∀ m, ((List.range m).filter fun k => !listed.getD k true).length = ((List.range m).filter fun k => !(listed.setIfInBounds i true).getD k true).length + if i < m then 1 else 0 := by
  intro m
  induction m with
  | zero => rfl
  | succ m ih =>
   rw [List.range_succ, List.filter_append, List.filter_append, jQ, jQ, ih]
   by_cases h : i = m
   ·subst h
    have hs : (listed.setIfInBounds i true).getD i true = true := getD_set_true' listed i
    simp only [List.filter_cons, List.filter_nil, hl, hs]
    simp
   ·have hs : (listed.setIfInBounds i true).getD m true = listed.getD m true := getD_set_ne true h
    simp only [List.filter_cons, List.filter_nil, hs]
    by_cases h2 : i < m
    ·simp only [if_pos h2, if_pos (show i < m + 1 by omega)]; omega
    ·simp only [if_neg h2, if_neg (show ¬ i < m + 1 by omega)]; omega
 have := key n
 rw [if_pos hi] at this
 exact this
where
 getD_set_true' (listed : Array Bool) (i : Nat) : (listed.setIfInBounds i true).getD i true = true := by
  simp [Array.getElem?_setIfInBounds]
  split <;> simp
theorem zk2 (n : Nat) (listed : Array Bool) (h : zjG n listed = 0) (i : Nat) (hi : i < n) : listed.getD i true = true := by
 unfold zjG at h
 rw [List.length_eq_zero_iff, List.filter_eq_nil_iff] at h
 have := h i (List.mem_range.2 hi)
 simpa using this
theorem zwk (n : Nat) (listed : Array Bool) {f : Nat} (h : zjG n listed = f + 1) : ∃ i, i < n ∧ listed.getD i true = false ∧ ∀ j, j < i → listed.getD j true = true := by
 have hex : ∃ i, i < n ∧ listed.getD i true = false := by
  refine Classical.byContradiction fun hno => ?_
  have : zjG n listed = 0 := by
   unfold zjG
   rw [List.length_eq_zero_iff, List.filter_eq_nil_iff]
   intro i hi
   have hi' := List.mem_range.1 hi
   cases hb : listed.getD i true
   ·exact absurd ⟨i, hi', hb⟩ hno
   ·simp
  omega
 obtain ⟨i, hi, hl⟩ := hex
 induction i using Nat.strongRecOn with
 | _ i ih =>
  by_cases hm : ∃ j, j < i ∧ listed.getD j true = false
  ·obtain ⟨j, hj, hjl⟩ := hm
   exact ih j hj (by omega) hjl
  ·refine ⟨i, hi, hl, fun j hj => ?_⟩
   cases hb : listed.getD j true
   ·exact absurd ⟨j, hj, hb⟩ hm
   ·rfl
section
variable {P : Program} {Q : Exit → Act → World → Prop} {l : List Oper} {n : Nat} {a : Act} {w0 : World}
theorem zgE (ops : List Oper) : ∀ (ps : List (List Nat)) (k : Nat), zhH ops k ps = true → ∀ i js, ps[i]? = some js → ∃ o, ops[k + i]? = some o ∧ (∀ e ∈ o.after, Region.binds .any e = true → e.on < k + i) ∧ ∀ j ∈ js, ∃ e ∈ o.after, Region.binds .any e = true ∧ e.on = j
 | [], _, _, _, _, h => by simp at h
 | js :: ps, k, hB, 0, js', h => by
  simp only [zhH, Bool.and_eq_true] at hB
  obtain ⟨h1, _⟩ := hB
  simp only [jD, Option.some.injEq] at h
  subst h
  cases ho : ops[k]? with
  | none => rw [ho] at h1; cases h1
  | some o =>
   rw [ho] at h1
   simp only [Bool.and_eq_true, Array.all_eq_true', List.all_eq_true, Bool.or_eq_true, Bool.not_eq_true', jS, Array.any_eq_true', beq_iff_eq] at h1
   refine ⟨o, rfl, fun e he hb => ?_, fun j hj => ?_⟩
   ·rcases h1.1 e he with h | h
    ·rw [hb] at h; cases h
    ·simpa using h
   ·obtain ⟨e, he, hb, h⟩ := h1.2 j hj
    exact ⟨e, he, hb, h⟩
 | js :: ps, k, hB, i + 1, js', h => by
  simp only [zhH, Bool.and_eq_true] at hB
  have := zgE ops ps (k + 1) hB.2 i js' (by simpa using h)
  rwa [show k + 1 + i = k + (i + 1) from by omega] at this
variable {ops : Array Oper} {o : Oper} {r : zzD} {w : World}
def Is (v : Value) : zzD := fun x _ => x = v
def zEO (N : Nat) (b : Obj) : zzD := fun x w => ∃ B, x = .pointer (some ⟨B, 0, none⟩) ∧ N ≤ B ∧ w.heap[B]? = some b
end
end
namespace CanB
open Go.RowKit
def Keep (N : Nat → Prop) (w w' : World) : Prop := ∀ b, N b → w'.heap[b]? = w.heap[b]?
theorem Keep.refl (N : Nat → Prop) (w : World) : Keep N w w := fun _ _ => rfl
theorem Keep.trans {N : Nat → Prop} {a b c : World} (h : Keep N a b) (k : Keep N b c) : Keep N a c := fun i hi => (k i hi).trans (h i hi)
theorem Keep.symm {N : Nat → Prop} {a b : World} (h : Keep N a b) : Keep N b a := fun i hi => (h i hi).symm
theorem Keep.of_below {N : Nat → Prop} {B : Nat} {a b : World} (h : Below B a b) (hN : ∀ i, N i → i < B) : Keep N a b := fun i hi => h.block i (hN i hi)
theorem Keep.alloc {N : Nat → Prop} (w : World) (x : Obj) (hN : ∀ i, N i → i < w.heap.size) : Keep N w (w.alloc x) := fun i hi => Below.heap_alloc _ _ _ (hN i hi)
theorem Keep.drew {N : Nat → Prop} (w : World) : Keep N w w.drew := fun _ _ => rfl
theorem Keep.drewN {N : Nat → Prop} {n : Nat} (w : World) : Keep N w (w.drewN n) := fun _ _ => rfl
def blind {α : Type} (P : Program) : Sem α → Prop
 | .pure _ => True
 | .halt _ => True
 | .program k => blind P (k P)
 | .mark _ k => blind P k
 | .choose _ k => ∀ n, blind P (k n)
 | _ => False
theorem blind_drawn {α : Type} {P : Program} : ∀ (e : Sem α) (w w1 : World) (v : α), blind P e → e.run P w = .ok v w1 → w.drawn ≤ w1.drawn := by
 intro e
 induction e with
 | pure a => intro w w1 v _ h; simp only [Sem.run, Result.ok.injEq] at h; rw [h.2]; exact jV _
 | halt x => intro w w1 v _ h; simp [Sem.run] at h
 | program k ih => intro w w1 v hb h; exact ih P w w1 v hb h
 | mark m k ih => intro w w1 v hb h; exact ih w w1 v hb h
 | choose q k ih =>
  intro w w1 v hb h
  simp only [Sem.run] at h
  split at h
  ·exact ih _ w w1 v (hb _) h
  ·have := ih _ _ w1 v (hb _) h
   simp only at this
   omega
 | _ => intro w w1 v hb; exact hb.elim
theorem blind_run {α : Type} {P : Program} : ∀ (e : Sem α) (w : World) (v : α), blind P e → e.run P w = .ok v w → ∀ w', e.run P w' = .ok v w' := by
 intro e
 induction e with
 | pure a => intro w v _ h w'; simp only [Sem.run, Result.ok.injEq] at h ⊢; exact ⟨h.1, trivial⟩
 | halt x => intro w v _ h; simp [Sem.run] at h
 | program k ih => intro w v hb h w'; exact ih P w v hb h w'
 | mark m k ih => intro w v hb h w'; exact ih w v hb h w'
 | choose q k ih =>
  intro w v hb h w'
  simp only [Sem.run] at h ⊢
  split at h
  ·rename_i hf; rw [if_pos hf]; exact ih _ w v (hb _) h w'
  ·have := blind_drawn _ _ w v (hb _) h
   simp only at this
   omega
 | _ => intro w v hb; exact hb.elim
theorem blind_bind {α β : Type} {P : Program} : ∀ (e : Sem α) (f : α → Sem β), blind P e → (∀ a, blind P (f a)) → blind P (e.bind f) := by
 intro e
 induction e with
 | pure a => intro f _ hf; exact hf a
 | halt x => intro f _ _; trivial
 | program k ih => intro f hb hf; exact ih P f hb hf
 | mark m k ih => intro f hb hf; exact ih f hb hf
 | choose q k ih => intro f hb hf n; exact ih n f (hb n) hf
 | _ => intro f hb; exact hb.elim
theorem blind_bind' {α β : Type} {P : Program} (e : Sem α) (f : α → Sem β) (he : blind P e) (hf : ∀ a, blind P (f a)) : blind P (e >>= f) := blind_bind e f he hf
theorem blind_under {β : Type} {P : Program} {t : TypeId} {f : TypeDesc → Sem β} (h : ∀ d, P.underlying t = some d → blind P (f d)) : blind P (underlying t >>= f) := by
 show blind P ((match P.underlying t with | some d => pure d | none => stuck "no such type" : Sem TypeDesc).bind f)
 cases hd : P.underlying t with
 | none => trivial
 | some d => exact h d hd
theorem blind_typeInfo {P : Program} (t : TypeId) : blind P (typeInfo t) := by
 show blind P (match P.info? t with | some i => pure i | none => stuck "no such type" : Sem TypeInfo)
 cases P.info? t <;> trivial
theorem blind_sizeOf {P : Program} (t : TypeId) : blind P (sizeOf t) := blind_bind' _ _ (blind_typeInfo t) fun _ => trivial
theorem blind_bounds {α : Type} {P : Program} (k : IntKind) (x y : Int) (c : BoundsCode) : blind P (boundsPanic (α := α) k x y c) := by
 unfold boundsPanic
 split
 ·exact fun n => trivial
 ·trivial
theorem blind_asIntOf {P : Program} (v : Value) : blind P (asIntOf v) := by
 unfold asIntOf; split <;> trivial
theorem blind_isAgg {P : Program} (t : TypeId) : blind P (isAgg t) := by
 unfold isAgg
 refine blind_under fun d _ => ?_
 split <;> trivial
theorem blind_part {P : Program} (t : TypeId) (cs : Array Value) (off : Nat) : blind P (part t cs off) := by
 unfold part
 refine blind_bind' _ _ (blind_isAgg t) fun b => ?_
 split
 ·exact blind_bind' _ _ (blind_sizeOf t) fun _ => trivial
 ·split <;> trivial
theorem blind_sureAddr {P : Program} (v : Value) : blind P (Instr.sureAddr v) := by
 unfold Instr.sureAddr; split <;> trivial
def Framed (P : Program) (N : Nat → Prop) (o : Oper) (a : Act) (w : World) : Prop :=
 ∀ v, (execOp a.eval o).run P w = .ok (.value v) w → ∀ w', Keep N w w' → (execOp a.eval o).run P w' = .ok (.value v) w'
section
variable {P : Program} {N : Nat → Prop} {o : Oper} {a : Act} {w : World}
theorem Framed.of_blind (h : blind P (execOp a.eval o)) : Framed P N o a w := fun v hv w' _ => blind_run _ w _ h hv w'
theorem Framed.move {x : Operand} (ho : o.op = .move x) : Framed P N o a w := .of_blind (by unfold execOp; rw [ho]; trivial)
theorem Framed.assign {x : Operand} (ho : o.op = .assign x) : Framed P N o a w := .of_blind (by unfold execOp; rw [ho]; trivial)
theorem Framed.conv {s d : TypeId} {x : Operand} {k k' : IntKind} {n : Int} (ho : o.op = .convert s d x) (hx : a.eval x = .int k n) (hd : P.underlying d = some (.int k')) : Framed P N o a w := .of_blind (by
 unfold execOp
 rw [ho]
 simp only [hx]
 refine blind_bind' _ _ ?_ fun _ => trivial
 unfold convert
 refine blind_under fun u _ => blind_under fun e he => ?_
 rw [hd] at he
 obtain rfl := Option.some.inj he
 cases u <;> trivial)
theorem Framed.fieldAddr {s : TypeId} {x : Operand} {f : Nat} {fs : Array Field} {fd : Field} {i : TypeInfo} (ho : o.op = .fieldAddr s x f) (hs : P.underlying s = some (.struct fs)) (hf : fs[f]? = some fd) (hi : P.info? fd.type = some i) (h0 : i.size ≠ 0) : Framed P N o a w := .of_blind (by
 unfold execOp
 rw [ho]
 refine blind_bind' _ _ ?_ fun _ => trivial
 unfold Instr.fieldAt
 refine blind_under fun d hd => ?_
 rw [hs] at hd
 obtain rfl := Option.some.inj hd
 simp only [hf]
 refine blind_bind' _ _ (blind_sureAddr _) fun ad => blind_bind' _ _ ?_ fun _ => trivial
 unfold fieldPlace
 show blind P ((sizeOf fd.type) >>= _)
 show blind P (((match P.info? fd.type with | some i => pure i | none => stuck "no such type" : Sem TypeInfo).bind fun i => pure i.size).bind _)
 rw [hi]
 show blind P (if i.size = 0 then _ else _)
 rw [if_neg h0]
 trivial)
theorem Framed.indexAddr {t : TypeId} {x y : Operand} (ho : o.op = .indexAddr t x y) : Framed P N o a w := .of_blind (by
 unfold execOp
 rw [ho]
 refine blind_bind' _ _ ?_ fun _ => trivial
 unfold Instr.indexAt
 refine blind_bind' _ _ (blind_asIntOf _) fun ki => blind_under fun d _ => ?_
 have tail : ∀ (r : Option Addr × Nat × TypeId), blind P (do
   let (base, len, elem) := r
   let tiny := len ≤ 1 && (match ← underlying t with | .array .. => true | _ => false)
   match base with
   | some a =>
    if 0 ≤ ki.2 ∧ ki.2 < len then pure (.pointer (some (a.add (ki.2.toNat * (← sizeOf elem)))))
    else if tiny then unsupported (.noEntry "op/indexAddr.an index out of range at an array of length 0 or 1 (ledger 616)")
    else boundsPanic ki.1 ki.2 len .index
   | none => boundsPanic ki.1 ki.2 0 .index : Sem Value) := by
  rintro ⟨base, len, elem⟩
  refine blind_under fun d2 _ => ?_
  cases base with
  | none => exact blind_bounds _ _ _ _
  | some ad => repeat' (first | exact blind_bounds _ _ _ _ | exact blind_bind' _ _ (blind_sizeOf _) (fun _ => trivial) | trivial | split | (dsimp only; split))
 split
 ·dsimp only; exact blind_bind' _ _ (blind_sureAddr _) (fun _ => blind_bind' _ _ trivial tail)
 ·dsimp only; exact blind_bind' _ _ trivial tail
 ·trivial)
theorem Framed.nilCheck {x : Operand} {p : Addr} (ho : o.op = .nilCheck x) (hx : a.eval x = .pointer (some p)) : Framed P N o a w := .of_blind (by
 unfold execOp
 rw [ho]
 simp only [hx]
 trivial)
theorem Framed.extract {x : Operand} {i : Nat} (ho : o.op = .extract x i) : Framed P N o a w := .of_blind (by
 unfold execOp
 rw [ho]
 refine blind_bind' _ _ ?_ fun _ => trivial
 unfold Instr.extract
 split <;> (try split) <;> trivial)
theorem Framed.index {t : TypeId} {x y : Operand} (ho : o.op = .index t x y) : Framed P N o a w := .of_blind (by
 unfold execOp
 rw [ho]
 refine blind_bind' _ _ ?_ fun _ => trivial
 unfold Instr.index
 refine blind_bind' _ _ (blind_asIntOf _) fun ki => blind_under fun d _ => ?_
 split
 ·split
  ·exact blind_bind' _ _ (blind_sizeOf _) fun _ => blind_part _ _ _
  ·exact blind_bounds _ _ _ _
 ·split
  ·trivial
  ·exact blind_bounds _ _ _ _
 ·trivial)
theorem blind_sliceBound (x : Value) (y : Nat) (c : BoundsCode) : blind P (Instr.sliceBound x y c) := by
 unfold Instr.sliceBound
 refine blind_bind' _ _ (blind_asIntOf _) ?_
 rintro ⟨k, i⟩
 dsimp only
 split
 ·trivial
 ·exact blind_bounds _ _ _ _
theorem blind_sliceBounds (b : Bool) (l c : Nat) (lo hi mx : Option Value) : blind P (Instr.sliceBounds b l c lo hi mx) := by
 unfold Instr.sliceBounds
 have h3 : ∀ m h : Nat, blind P ((do
   let l ← match lo with
    | some v => Instr.sliceBound v h (if mx.isSome then .slice3C else .sliceB)
    | none => pure 0
   pure (l, h, m) : Sem (Nat × Nat × Nat))) := by
  intro m h
  cases lo with
  | none => trivial
  | some v => exact blind_bind' _ _ (blind_sliceBound _ _ _) fun _ => trivial
 have h2 : ∀ m : Nat, blind P ((do
   let h ← match hi, mx with
    | some v, some _ => Instr.sliceBound v m .slice3B
    | some v, none => Instr.sliceBound v m (if b then .sliceAcap else .sliceAlen)
    | none, none => pure l
    | none, some _ => stuck "Slice: max without high"
   let l ← match lo with
    | some v => Instr.sliceBound v h (if mx.isSome then .slice3C else .sliceB)
    | none => pure 0
   pure (l, h, m) : Sem (Nat × Nat × Nat))) := by
  intro m
  cases hi with
  | none => cases mx with
   | none => exact h3 _ _
   | some v => trivial
  | some u => cases mx with
   | none => exact blind_bind' _ _ (blind_sliceBound _ _ _) fun _ => h3 _ _
   | some v => exact blind_bind' _ _ (blind_sliceBound _ _ _) fun _ => h3 _ _
 cases mx with
 | none => exact h2 _
 | some v => exact blind_bind' _ _ (blind_sliceBound _ _ _) fun _ => h2 _
theorem Framed.slice {t : TypeId} {x : Operand} {lo hi mx : Option Operand} (ho : o.op = .slice t x lo hi mx) : Framed P N o a w := .of_blind (by
 unfold execOp
 rw [ho]
 refine blind_bind' _ _ ?_ fun _ => trivial
 unfold Instr.sliceAt
 refine blind_under fun d _ => ?_
 split
 ·exact blind_bind' _ _ (blind_sureAddr _) fun _ => blind_bind' _ _ (blind_sliceBounds _ _ _ _ _ _) fun _ => blind_bind' _ _ (blind_sizeOf _) fun _ => trivial
 ·unfold Instr.slice
  refine blind_under fun d2 _ => ?_
  split
  ·split
   ·trivial
   ·exact blind_bind' _ _ (blind_sliceBounds _ _ _ _ _ _) fun _ => trivial
  ·exact blind_bind' _ _ (blind_sliceBounds _ _ _ _ _ _) fun _ => blind_bind' _ _ (blind_sizeOf _) fun _ => trivial
  ·refine blind_bind' _ _ ?_ fun ad => blind_under fun d3 _ => ?_
   ·unfold asAddr; split <;> trivial
   ·split
    ·exact blind_bind' _ _ (blind_sliceBounds _ _ _ _ _ _) fun _ => blind_bind' _ _ (blind_sizeOf _) fun _ => trivial
    ·trivial
  ·trivial)
def looksAt {α : Type} (P : Program) (b : Nat) : Sem α → Prop
 | .pure _ => True
 | .halt _ => True
 | .program k => looksAt P b (k P)
 | .mark _ k => looksAt P b k
 | .load _ ad k => ad.block = b ∧ ∀ v, looksAt P b (k v)
 | _ => False
theorem looksAt_run {α : Type} {b : Nat} {w w' : World} {c : Array Value} {t : TypeId} {fr : Nat × Nat} (hb : w.heap[b]? = some (.cells c t fr)) (hb' : w'.heap[b]? = some (.cells c t fr)) : ∀ (e : Sem α) (v : α), looksAt P b e → e.run P w = .ok v w → e.run P w' = .ok v w' := by
 intro e
 induction e with
 | pure a => intro v _ h; simp only [Sem.run, Result.ok.injEq] at h ⊢; exact ⟨h.1, trivial⟩
 | halt x => intro v _ h; simp [Sem.run] at h
 | program k ih => intro v hl h; exact ih P v hl h
 | mark m k ih => intro v hl h; exact ih v hl h
 | load m ad k ih =>
  intro v hl h
  obtain ⟨rfl, hk⟩ := hl
  have e1 : w'.cell? ad = w.cell? ad := by unfold World.cell?; rw [hb, hb']
  simp only [Sem.run] at h ⊢
  rw [e1]
  cases hc : w.cell? ad with
  | some u => rw [hc] at h; exact ih u v (hk u) h
  | none =>
   rw [hc] at h
   have : w.farLoad P ad (m == .atomic) = .error (w.noCell ad "load: no such cell") := by unfold World.farLoad; rw [hb]
   rw [this] at h
   simp at h
 | _ => intro v hl; exact hl.elim
theorem looksAt_bind {α β : Type} {b : Nat} : ∀ (e : Sem α) (f : α → Sem β), looksAt P b e → (∀ a, looksAt P b (f a)) → looksAt P b (e.bind f) := by
 intro e
 induction e with
 | pure a => intro f _ hf; exact hf a
 | halt x => intro f _ _; trivial
 | program k ih => intro f hb hf; exact ih P f hb hf
 | mark m k ih => intro f hb hf; exact ih f hb hf
 | load m ad k ih => intro f hb hf; exact ⟨hb.1, fun v => ih v f (hb.2 v) hf⟩
 | _ => intro f hb; exact hb.elim
theorem looksAt_loadCellsFrom {b off : Nat} : ∀ (n i : Nat) (acc : Array Value), looksAt P b (loadCellsFrom ⟨b, off, none⟩ i n acc)
 | 0, _, _ => trivial
 | n + 1, i, acc => by
  unfold loadCellsFrom
  refine looksAt_bind _ _ ⟨?_, fun _ => trivial⟩ fun v => looksAt_loadCellsFrom n (i + 1) _
  rw [zck]
theorem looksAt_loadVar {b off : Nat} {t : TypeId} : looksAt P b (loadVar t ⟨b, off, none⟩) := by
 unfold loadVar
 refine looksAt_bind _ _ ?_ fun g => ?_
 ·unfold isAgg
  refine looksAt_bind _ _ ?_ fun d => ?_
  ·show looksAt P b (match P.underlying t with | some d => pure d | none => stuck "no such type" : Sem TypeDesc)
   cases P.underlying t <;> trivial
  ·split <;> trivial
 ·split
  ·refine looksAt_bind _ _ ?_ fun n => looksAt_bind _ _ (looksAt_loadCellsFrom _ _ _) ?_
   ·unfold sizeOf
    refine looksAt_bind _ _ ?_ ?_
    ·show looksAt P b (match P.info? t with | some i => pure i | none => stuck "no such type" : Sem TypeInfo)
     cases P.info? t <;> trivial
    ·intro _; trivial
   ·intro _; trivial
  ·exact ⟨rfl, fun _ => trivial⟩
theorem Framed.load {t : TypeId} {x : Operand} {b off : Nat} {c : Array Value} {u : TypeId} {fr : Nat × Nat} (ho : o.op = .load t x) (hx : a.eval x = .pointer (some ⟨b, off, none⟩)) (hb : N b) (hc : w.heap[b]? = some (.cells c u fr)) : Framed P N o a w := by
 intro v hv w' hk
 have hc' : w'.heap[b]? = some (.cells c u fr) := by rw [hk b hb]; exact hc
 unfold execOp at hv ⊢
 rw [ho] at hv ⊢
 simp only [hx] at hv ⊢
 refine looksAt_run hc hc' _ _ ?_ hv
 show looksAt P b ((loadVar t ⟨b, off, none⟩).bind _)
 refine looksAt_bind _ _ looksAt_loadVar ?_
 intro _
 trivial
end
section
variable {P : Program} {ops : Array Oper} {Q : Exit → Act → World → Prop} {md : Region.Mode} {S : World → Prop}
def wpAnyC (P : Program) (md : Region.Mode) (ops : Array Oper) (Q : Exit → Act → World → Prop) (S : World → Prop) (n : Nat) (L : Array Bool → Act → World → Prop) : Nat → Array Bool → Act → World → Prop
 | 0, listed, a, w => L listed a w
 | f + 1, listed, a, w =>
  Region.ready md ops listed ≠ [] ∧ ∀ i ∈ Region.ready md ops listed, i < n ∧ wpOp P ops Q i (fun a' w' => S w' ∧ wpAnyC P md ops Q S n L f (listed.setIfInBounds i true) a' w') a w
theorem wpAny_of_anyC {n g : Nat} {L : Array Bool → Act → World → Prop} (hL : ∀ listed a w, L listed a w → wpAny P md ops Q g listed a w) :
  ∀ (f : Nat) (listed : Array Bool) (a : Act) (w : World), wpAnyC P md ops Q S n L f listed a w → wpAny P md ops Q (f + g) listed a w
 | 0, listed, a, w, h => by rw [Nat.zero_add]; exact hL _ _ _ h
 | f + 1, listed, a, w, h => by
  rw [show f + 1 + g = (f + g) + 1 by omega]
  exact ⟨fun h0 => absurd h0 h.1, fun i hi => wpOp_mono (fun a' w' h' => wpAny_of_anyC hL f _ a' w' h'.2) (h.2 i hi).2⟩
variable {N : Nat → Prop} {T : Act → World → Prop} {p : List (Oper × Bool)} {o : Oper} {a : Act} {w : World}
end
end CanB
section
open Go.RowKit
def bv (x : Nat) : Value := .int .u8 (x : Int)
structure ByteT (P : Program) (t e : TypeId) : Prop where
 sl : P.underlying t = some (.slice e)
 el : P.underlying e = some (.int .u8)
 info : (P.info? e).map (fun i => (i.zero, i.size, i.bytes)) = some (some (.int .u8 0), 1, 1)
structure Txt (w : World) (B : Nat) (A : Option Addr) (n c : Nat) (l : List Nat) : Prop where
 len : l.length = n
 nil : A = none → n = 0 ∧ c = 0
 at_ : 0 < n → ∃ ad, A = some ad ∧ ad.block < B ∧ ∀ i x, l[i]? = some x → w.cell? (ad.add i) = some (bv x)
def Own (w : World) (base : Nat) (e : TypeId) (v : Value) (l : List Nat) : Prop := w.ownsRow base e 1 v l.length (l.map bv)
theorem zdQ (a : Addr) (n : Nat) : (a.add n).block = a.block := by unfold Addr.add; split <;> rfl
section
variable {w w' : World} {B B' n c base : Nat} {e : TypeId} {A : Option Addr} {l m : List Nat} {v : Value}
theorem Txt.keep (h : Txt w B A n c l) (hk : ∀ p : Addr, p.block < B → w'.cell? p = w.cell? p) : Txt w' B A n c l :=
 ⟨h.len, h.nil, fun hn => by
  obtain ⟨ad, e, hb, hc⟩ := h.at_ hn
  exact ⟨ad, e, hb, fun i x hx => (hk _ (by rw [zdQ]; exact hb)).trans (hc i x hx)⟩⟩
theorem Txt.more (h : Txt w B A n c l) (hB : B ≤ B') : Txt w B' A n c l :=
 ⟨h.len, h.nil, fun hn => by
  obtain ⟨ad, e, hb, hc⟩ := h.at_ hn
  exact ⟨ad, e, by omega, hc⟩⟩
theorem Txt.below (h : Txt w B A n c l) (hb : Below B w w') : Txt w' B A n c l := h.keep fun _ hp => hb.cell hp
theorem Txt.drew (h : Txt w B A n c l) : Txt w.drew B A n c l := h.keep fun _ _ => rfl
theorem Txt.nil_ : Txt w B none 0 0 [] := ⟨rfl, fun _ => ⟨rfl, rfl⟩, fun h => absurd h (by omega)⟩
theorem Txt.cell (h : Txt w B A n c l) {k : Nat} (hk : k < n) : ∃ ad, A = some ad ∧ ad.block < B ∧ w.cell? (ad.add k) = some (bv (l.getD k 0)) := by
 obtain ⟨ad, e, hb, hc⟩ := h.at_ (by omega)
 have hl : k < l.length := by rw [h.len]; exact hk
 exact ⟨ad, e, hb, hc k _ (by rw [jP hl, jR, jP hl]; rfl)⟩
theorem Own.nil_ : Own w base e (.slice none 0 0) [] := ⟨rfl, .inl ⟨rfl, rfl⟩⟩
theorem Own.txt (h : Own w base e v l) : ∃ A c, v = .slice A l.length c ∧ Txt w w.heap.size A l.length c l := by
 have hl := h
 rcases h.2 with ⟨rfl, h0⟩ | ⟨g, cap, cur, rfl, hb, hh, hn, hm, hs, ht⟩
 ·exact ⟨none, 0, by rw [h0], ⟨rfl, fun _ => ⟨h0, rfl⟩, fun hn => absurd hn (by omega)⟩⟩
 ·refine ⟨some ⟨g, 0, none⟩, cap, rfl, rfl, (fun e => by cases e), fun hn => ⟨_, rfl, ?_, fun i x hx => ?_⟩⟩
  ·rcases Nat.lt_or_ge g w.heap.size with h' | h'
   ·exact h'
   ·rw [Array.getElem?_eq_none h'] at hh; cases hh
  ·exact hl.cells (g := g) rfl i (bv x) (by simp [hx])
theorem Own.lt (h : Own w base e v l) : ∀ k, v.ownBlock = some k → base ≤ k ∧ k < w.heap.size := World.ownsRow.lt h
theorem Own.drew (h : Own w base e v l) : Own w.drew base e v l := h
theorem Own.alloc (h : Own w base e v l) (o : Obj) : Own (w.alloc o) base e v l := World.ownsRow.alloc h o
theorem Own.mono {base' : Nat} (h : Own w base e v l) (hb : base' ≤ base) : Own w base' e v l := by
 refine ⟨h.1, ?_⟩
 rcases h.2 with h2 | ⟨g, cap, cur, rfl, h3, h4⟩
 ·exact .inl h2
 ·exact .inr ⟨g, cap, cur, rfl, jU hb h3, h4⟩
theorem Own.below (h : Own w base e v l) (hb : Below B w w') (hB : ∀ k, v.ownBlock = some k → k < B) : Own w' base e v l := by
 refine ⟨h.1, ?_⟩
 rcases h.2 with h2 | ⟨g, cap, cur, rfl, h3, hh, h4⟩
 ·exact .inl h2
 ·exact .inr ⟨g, cap, cur, rfl, h3, by rw [hb.block g (hB g rfl)]; exact hh, h4⟩
end
section
variable {P : Program} {w : World}
theorem ziU {t e ty : TypeId} (hT : ByteT P t e) {base B : Nat} {v : Value} {l m : List Nat} {A : Option Addr} {n c : Nat} (hown : Own w base e v l) (hr : Txt w B A n c m) (hlen : l.length + n ≤ 140737488355328) (hbase : base ≤ w.heap.size) :
  ∃ v' w', (Builtin.append_ #[t, t] ty #[v, .slice A n c]).run P w = .ok v' w' ∧ Own w' base e v' (l ++ m) ∧ w.grownBy w' v.ownBlock ∧ (v'.ownBlock = v.ownBlock ∨ v'.ownBlock = some w.heap.size) := by
 have hinfo := hT.info
 cases hi : P.info? e with
 | none => rw [hi] at hinfo; cases hinfo
 | some i =>
  rw [hi] at hinfo
  simp only [Option.map_some, Option.some.injEq, Prod.mk.injEq] at hinfo
  obtain ⟨h1, h2, h3⟩ := hinfo
  have hlm : (m.map bv).length = n * 1 := by simp [hr.len]
  have hml : m.length = n := hr.len
  cases A with
  | none =>
   obtain ⟨rfl, rfl⟩ := hr.nil rfl
   obtain rfl : m = [] := List.eq_nil_of_length_eq_zero hml
   have hrun := run_append_owned_none (P := P) (w := w) base t ty e i 1 hT.sl hi v l.length (l.map bv) hown
   exact ⟨v, w, hrun, by simpa using hown, World.grownBy.refl w _, .inl rfl⟩
  | some ad =>
   obtain ⟨v', w', hrun, h5, h6, _, h7⟩ := run_append_own_at (P := P) w base t ty e i (.int .u8 0) 1 1 hT.sl hi h1 h2 h3 rfl (by omega) v l.length (l.map bv) hown ad n c (m.map bv) hlm
    (fun j u hu => by
     have hj : j < m.length := by
      have := (List.getElem?_eq_some_iff.1 hu).1
      simpa using this
     obtain ⟨ad', he, _, hc⟩ := hr.at_ (by omega)
     injection he with he
     subst he
     rw [List.getElem?_map] at hu
     cases hx : m[j]? with
     | none => rw [hx] at hu; cases hu
     | some x =>
      rw [hx] at hu
      simp only [Option.map_some, Option.some.injEq] at hu
      rw [← hu]
      exact hc j x hx)
    (fun u hu => by
     obtain ⟨x, _, rfl⟩ := List.mem_map.1 hu
     rfl) (by unfold maxLen; omega) (by omega) hbase
   refine ⟨v', w', hrun, ?_, h6, h7⟩
   unfold Own
   rw [List.map_append, jQ, hml]
   exact h5
theorem zdR {ops : Array Oper} {rest : List Oper} {o : Oper} {a : Act} {Q : Exit → Act → World → Prop} {t e : TypeId} {s x : Operand} (hgd : o.guard = none) (ho : o.op = .call { callee := .builtin .append, args := #[s, x], argTypes := #[t, t] })
  (hT : ByteT P t e) {base B : Nat} {v : Value} {l m : List Nat} {A : Option Addr} {n c : Nat} (hs : a.eval s = v) (hx : a.eval x = .slice A n c) (hown : Own w base e v l) (hr : Txt w B A n c m) (hlen : l.length + n ≤ 140737488355328) (hbase : base ≤ w.heap.size)
  (h : ∀ v' w', Own w' base e v' (l ++ m) → w.grownBy w' v.ownBlock → (v'.ownBlock = v.ownBlock ∨ v'.ownBlock = some w.heap.size) → wpList P ops Q rest (a.put o.dst v') w') : wpList P ops Q (o :: rest) a w := by
 obtain ⟨v', w', hrun, h2, h3, h4⟩ := ziU (P := P) (ty := o.type) hT hown hr hlen hbase
 refine wpList_plain hgd fun K hK => ?_
 unfold Oper.wp execOp
 simp only [ho, resolve, invoke, builtin, Sem.run_bind, Sem.run_pure, Result.andThen_ok, List.map_toArray, List.map_cons, List.map_nil, hs, hx, hrun]
 exact hK _ _ (h v' w' h2 h3 h4)
theorem zk3 {B : Nat} {w0 w1 w2 : World} {base : Nat} {e : TypeId} {v : Value} {l : List Nat} (hb : Below B w0 w1) (hown : Own w1 base e v l) (hg : w1.grownBy w2 v.ownBlock) (hB : B ≤ base) (hs : B ≤ w1.heap.size) : Below B w0 w2 :=
 hb.grown hg hs fun k hk => jU hB (hown.lt k hk).1
end
end
section
open Go.RowKit
section
variable {P : Program} {ops : Array Oper} {rest : List Oper} {o o' : Oper} {a : Act} {w : World} {Q : Exit → Act → World → Prop}
theorem zbw {e sz : Nat} (hs : (P.info? e).map (·.size) = some sz) : (sizeOf e).run P w = .ok sz w := by
 cases hq : P.info? e with
 | none => simp [hq] at hs
 | some i =>
  have : i.size = sz := by simpa [hq] using hs
  simp [sizeOf, typeInfo, hq, this]
end
end
section
open Go.RowKit
theorem zav (a : Addr) : a.add 0 = a := by
 obtain ⟨b, o, f⟩ := a
 unfold Addr.add
 split <;> simp_all
structure Els (w : World) (B : Nat) (A : Option Addr) (n sz : Nat) (f : Nat → Nat → Value) : Prop where
 at_ : 0 < n → ∃ ad, A = some ad ∧ ad.block < B ∧ ∀ i j, i < n → j < sz → w.cell? (ad.add (i * sz + j)) = some (f i j)
section
variable {w w' : World} {B B' n sz : Nat} {A : Option Addr} {f : Nat → Nat → Value}
theorem Els.keep (h : Els w B A n sz f) (hk : ∀ p : Addr, p.block < B → w'.cell? p = w.cell? p) : Els w' B A n sz f :=
 ⟨fun hn => by
  obtain ⟨ad, e, hb, hc⟩ := h.at_ hn
  exact ⟨ad, e, hb, fun i j hi hj => (hk _ (by rw [zdQ]; exact hb)).trans (hc i j hi hj)⟩⟩
theorem Els.below (h : Els w B A n sz f) (hb : Below B w w') : Els w' B A n sz f := h.keep fun _ hp => hb.cell hp
theorem Els.cell (h : Els w B A n sz f) {i : Nat} (hi : i < n) : ∃ ad, A = some ad ∧ ad.block < B ∧ ∀ j, j < sz → w.cell? ((ad.add (i * sz)).add j) = some (f i j) := by
 obtain ⟨ad, e, hb, hc⟩ := h.at_ (by omega)
 exact ⟨ad, e, hb, fun j hj => by rw [Addr.add_add]; exact hc i j hi hj⟩
end
section
variable {P : Program} {ops : Array Oper} {rest : List Oper} {o o' : Oper} {a : Act} {w : World} {Q : Exit → Act → World → Prop}
theorem znU {v : Value} (hgd : Region.wanted o (yielded ops a.tmps) = true) (hr : (execOp a.eval o).run P w = .ok (.value v) w) (h : wpList P ops Q rest (a.put o.dst v) w) : wpList P ops Q (o :: rest) a w := by
 refine wpList_step fun K hK => ?_
 rw [if_pos hgd]
 unfold Oper.wp
 rw [hr]
 exact hK _ _ h
end
section
variable {P : Program} {w : World} {o : Oper} {a : Act}
end
section
variable {P : Program} {ops : Array Oper} {rest : List Oper} {o o' : Oper} {a : Act} {w : World} {Q : Exit → Act → World → Prop}
theorem zr8 {t e sz n c : Nat} {x y : Operand} {ad : Addr} {i : Nat} (ho : o.op = .indexAddr t x y) (ht : P.underlying t = some (.slice e)) (hs : (P.info? e).map (·.size) = some sz) (hx : a.eval x = .slice (some ad) n c) (hy : a.eval y = .int .i64 i) (hi : i < n) :
  (execOp a.eval o).run P w = .ok (.value (.pointer (some (ad.add (i * sz))))) w := by
 unfold execOp
 simp only [ho, hx, hy]
 unfold Instr.indexAt
 have h1 : 0 ≤ (i : Int) ∧ (i : Int) < (n : Int) := by omega
 simp [Sem.run_bind, run_underlying ht, asIntOf, h1, hi, zbw hs]
theorem ziV {ty n : Nat} {x : Operand} {ad : Addr} {f : Nat → Value} (ho : o.op = .load ty x) (hT : zFC P ty n) (hx : a.eval x = .pointer (some ad)) (hc : ∀ j, j < n → w.cell? (ad.add j) = some (f j)) :
  (execOp a.eval o).run P w = .ok (.value (.agg (zv4 n f))) w := by
 obtain ⟨d, hu, hd, hi⟩ := hT
 have hl : (loadCells ad n).run P w = .ok (zv4 n f) w := run_loadCells w ad n _ hc
 cases hq : P.info? ty with
 | none => simp [hq] at hi
 | some i =>
  have hs : i.size = n := by simpa [hq] using hi
  have hagg : (isAgg ty).run P w = .ok true w := by
   unfold isAgg
   rw [Sem.run_bind, run_underlying hu w]
   cases d <;> simp_all
  unfold execOp
  simp only [ho, hx]
  simp [Instr.loadAt, Instr.sureAddr, loadVar, Sem.run_bind, hagg, sizeOf, typeInfo, hq, hs, hl]
theorem zk4 {ty : Nat} {d : TypeDesc} {x : Operand} {ad : Addr} {v : Value} (ho : o.op = .load ty x) (hu : P.underlying ty = some d) (hd : (match d with | .struct _ | .array _ _ => true | _ => false) = false) (hx : a.eval x = .pointer (some ad)) (hc : w.cell? ad = some v) :
  (execOp a.eval o).run P w = .ok (.value v) w := by
 have hagg : (isAgg ty).run P w = .ok false w := by
  unfold isAgg
  rw [Sem.run_bind, run_underlying hu w]
  cases d <;> simp_all
 unfold execOp
 simp only [ho, hx]
 simp [Instr.loadAt, Instr.sureAddr, loadVar, Sem.run_bind, hagg, hc]
end
end
section
open Go.RowKit
def zfQ : List (Nat × Value) → Nat → Option Value
 | [], _ => none
 | (d, v) :: l, i => bif Nat.beq d i then some v else zfQ l i
def ev (l : List (Nat × Value)) : Operand → Option Value
 | .tmp t => zfQ l t
 | .const v => some v
 | .global g => some (.pointer (some ⟨g, 0, none⟩))
 | .func f => some (.func (.func f) #[] #[])
def evs (l : List (Nat × Value)) : List Operand → Option (List Value)
 | [] => some []
 | x :: xs => match ev l x, evs l xs with
  | some v, some vs => some (v :: vs)
  | _, _ => none
structure Env (a : Act) (N : Nat) (l : List (Nat × Value)) : Prop where
 defers : a.defers = []
 size : a.tmps.size = N
 val : ∀ i v, zfQ l i = some v → a.tmps.getD i undef = v
section
variable {a : Act} {N : Nat} {l l' : List (Nat × Value)}
theorem Env.ev (h : Env a N l) {x : Operand} {v : Value} (hx : Proofs.YtcmmpiaogfnmoaaGreatDoor.ev l x = some v) : a.eval x = v := by
 cases x with
 | tmp t => exact h.val t v hx
 | const u => exact Option.some.inj hx
 | global g => exact Option.some.inj hx
 | func f => exact Option.some.inj hx
theorem Env.evs (h : Env a N l) : ∀ {xs : List Operand} {vs : List Value}, Proofs.YtcmmpiaogfnmoaaGreatDoor.evs l xs = some vs → xs.map a.eval = vs
 | [], vs, hx => by
  simp only [Proofs.YtcmmpiaogfnmoaaGreatDoor.evs, Option.some.injEq] at hx
  rw [← hx]
  rfl
 | x :: xs, vs, hx => by
  unfold Proofs.YtcmmpiaogfnmoaaGreatDoor.evs at hx
  cases h1 : Proofs.YtcmmpiaogfnmoaaGreatDoor.ev l x with
  | none => rw [h1] at hx; cases hx
  | some v =>
   cases h2 : Proofs.YtcmmpiaogfnmoaaGreatDoor.evs l xs with
   | none => rw [h1, h2] at hx; cases hx
   | some vs' =>
    rw [h1, h2] at hx
    simp only [Option.some.injEq] at hx
    rw [← hx, List.map_cons, h.ev h1, h.evs h2]
theorem Env.put (h : Env a N l) {d : Nat} {v : Value} (hd : Nat.blt d N = true) : Env (a.put (some d) v) N ((d, v) :: l) := by
 have hd' : d < a.tmps.size := by
  rw [h.size]
  have : d + 1 ≤ N := by simpa [Nat.blt] using hd
  omega
 refine ⟨h.defers, by simp [Act.put, h.size], fun i u hi => ?_⟩
 simp only [zfQ] at hi
 by_cases e : d = i
 ·subst e
  simp only [Nat.beq_refl, cond_true, Option.some.injEq] at hi
  rw [← hi]
  simp [Act.put, hd']
 ·have hb : Nat.beq d i = false := by
   cases hq : Nat.beq d i
   ·rfl
   ·exact absurd (Nat.eq_of_beq_eq_true hq) e
  rw [hb] at hi
  simp only [cond_false] at hi
  have := h.val i u hi
  simp only [Act.put, jN] at this ⊢
  rw [Array.getElem?_setIfInBounds_ne e]
  exact this
theorem Env.none_ (h : Env a N l) {v : Value} : Env (a.put none v) N l := h
theorem Env.sub (h : Env a N l) (hs : ∀ i v, zfQ l' i = some v → zfQ l i = some v) : Env a N l' := ⟨h.defers, h.size, fun i v hv => h.val i v (hs i v hv)⟩
def Sub (l : List (Nat × Value)) : List (Nat × Value) → Prop
 | [] => True
 | p :: l' => zfQ l p.1 = some p.2 ∧ Sub l l'
theorem Sub.of : ∀ {l' : List (Nat × Value)}, Sub l l' → ∀ i v, zfQ l' i = some v → zfQ l i = some v
 | [], _, i, v, h => by cases h
 | (d, u) :: l', hs, i, v, h => by
  simp only [zfQ] at h
  cases hq : Nat.beq d i
  ·rw [hq] at h
   exact Sub.of hs.2 i v h
  ·rw [hq] at h
   simp only [cond_true, Option.some.injEq] at h
   have := Nat.eq_of_beq_eq_true hq
   subst this
   rw [← h]
   exact hs.1
theorem Env.to (h : Env a N l) (hs : Sub l l') : Env a N l' := h.sub hs.of
def zjH : Nat → List Value → List (Nat × Value)
 | _, [] => []
 | k, v :: vs => (k, v) :: zjH (k + 1) vs
theorem zi6 : ∀ (vs : List Value) (k i : Nat) (v : Value), zfQ (zjH k vs) i = some v → k ≤ i ∧ vs[i - k]? = some v
 | [], k, i, v, h => by cases h
 | u :: vs, k, i, v, h => by
  simp only [zjH, zfQ] at h
  cases hq : Nat.beq k i
  ·rw [hq] at h
   obtain ⟨h1, h2⟩ := zi6 vs (k + 1) i v h
   refine ⟨by omega, ?_⟩
   rw [show i - k = (i - (k + 1)) + 1 by omega, jE]
   exact h2
  ·rw [hq] at h
   have := Nat.eq_of_beq_eq_true hq
   subst this
   simp only [cond_true, Option.some.injEq] at h
   simp [h]
theorem Env.start {args : Array Value} {n : Nat} (l : List (Nat × Value)) (hs : Nat.ble args.size n = true) (hl : zjH 0 args.toList = l) : Env { tmps := args ++ Array.replicate (n - args.size) undef, defers := [] } n l := by
 subst hl
 have hs' : args.size ≤ n := Nat.le_of_ble_eq_true hs
 refine ⟨rfl, by simp; omega, fun i v h => ?_⟩
 obtain ⟨_, h2⟩ := zi6 _ 0 i v h
 simp only [Nat.sub_zero, Array.getElem?_toList] at h2
 have hi : i < args.size := (Array.getElem?_eq_some_iff.1 h2).1
 simp only [jN]
 rw [Array.getElem?_append_left hi, h2]
 rfl
end
theorem zfR {P : Program} {f : FuncId} {fn : Func} {c : Code} {args : Array Value} {w : World} {R : Ending → World → Prop} {n : Nat} (hn : fn.ntmps = n) (hf : P.funcs[f]? = some fn) (hb : fn.body = some c) (hs : Nat.ble args.size n = true)
  (h : ∀ a, Env a n (zjH 0 args.toList) → c.wp P (bodyPost P fn R) a w) : Calls P f args w R :=
 calls_of_wp hf hb (by subst hn; exact h _ (Env.start _ hs rfl))
def gd (ops : Array Oper) (l : List (Nat × Value)) (o : Oper) : Option Bool :=
 match o.guard with
 | none => some true
 | some (j, want) => match (ops[j]?).bind (·.dst) with
  | some d => match zfQ l d with
   | some (.bool b) => some (b == want)
   | _ => none
  | none => none
theorem zfS {ops : Array Oper} {l : List (Nat × Value)} {o : Oper} {a : Act} {N : Nat} {b : Bool} (E : Env a N l) (h : gd ops l o = some b) : Region.wanted o (yielded ops a.tmps) = b := by
 unfold gd at h
 unfold Region.wanted
 split at h
 ·rename_i hg
  rw [hg]
  simpa using h
 ·rename_i j want hg
  rw [hg]
  dsimp only
  unfold yielded
  split at h
  ·rename_i d hd
   rw [hd]
   split at h
   ·rename_i c hl
    have hv := E.val d _ hl
    simp only [Option.some.injEq] at h
    have : a.tmps[d]? = some (.bool c) := by
     simp only [jN] at hv
     cases hq : a.tmps[d]? with
     | none => rw [hq] at hv; cases hv
     | some u => rw [hq] at hv; exact congrArg some hv
    simp only [Option.bind_some, this]
    rw [← h]
    cases c <;> cases want <;> rfl
   ·cases h
  ·cases h
inductive Chunk where
 | one (v : Value)
 | key (l : List Nat)
 | row (n : Nat) (f : Nat → Value)
def Chunk.len : Chunk → Nat
 | .one _ => 1
 | .key _ => 32
 | .row n _ => n
def zgC (l : List Nat) : List Value := (List.range 32).map fun i => bv (l.getD i 0)
def Chunk.cells : Chunk → List Value
 | .one v => [v]
 | .key l => zgC l
 | .row n f => (List.range n).map f
theorem Chunk.cells_len (c : Chunk) : c.cells.length = c.len := by cases c <;> simp [Chunk.cells, Chunk.len, zgC]
def cl : List Chunk → List Value
 | [] => []
 | c :: cs => c.cells ++ cl cs
def zdq : List Chunk → Nat
 | [] => 0
 | c :: cs => c.len + zdq cs
theorem za6 : ∀ cs, (cl cs).length = zdq cs
 | [] => rfl
 | c :: cs => by rw [cl, zdq, jQ, za6 cs, c.cells_len]
def ca (cs : List Chunk) : Array Value := (cl cs).toArray
theorem zcT (cs : List Chunk) : (ca cs).size = zdq cs := by simp [ca, za6]
theorem zr9 (a b : List Chunk) : cl (a ++ b) = cl a ++ cl b := by
 induction a with
 | nil => rfl
 | cons c a ih => rw [List.cons_append, cl, cl, ih, List.append_assoc]
theorem zwm (a b : List Chunk) : zdq (a ++ b) = zdq a + zdq b := by rw [← za6, zr9, jQ, za6, za6]
def zfT : List Chunk → Nat → Option (List Chunk)
 | _, 0 => some []
 | [], _ + 1 => none
 | c :: cs, n + 1 => bif Nat.ble c.len (n + 1) then (match zfT cs (n + 1 - c.len) with | some r => some (c :: r) | none => none) else none
def zfg : List Chunk → Nat → Option (List Chunk)
 | cs, 0 => some cs
 | [], _ + 1 => none
 | c :: cs, n + 1 => bif Nat.ble c.len (n + 1) then zfg cs (n + 1 - c.len) else none
def ziW (cs : List Chunk) (off n : Nat) : Option (List Chunk) := match zfg cs off with | some r => zfT r n | none => none
def zEv : List Chunk → List Chunk → Option (List Chunk)
 | [], r => some r
 | [c], r => some (c :: r)
 | [c, d], r => some (c :: d :: r)
 | new, [] => some new
 | new, r => some (new ++ r)
theorem zsa (new r : List Chunk) : zEv new r = some (new ++ r) := by
 unfold zEv
 split <;> simp
def ziX : List Chunk → Nat → List Chunk → Option (List Chunk)
 | cs, 0, new => match zfg cs (zdq new) with | some r => zEv new r | none => none
 | [], _ + 1, _ => none
 | c :: cs, off + 1, new => bif Nat.ble c.len (off + 1) then (match ziX cs (off + 1 - c.len) new with | some r => some (c :: r) | none => none) else none
theorem zo2 : ∀ (cs : List Chunk) (n : Nat) (r : List Chunk), zfT cs n = some r → cl r = (cl cs).take n ∧ zdq r = n
 | cs, 0, r, h => by
  rw [zfT] at h
  obtain rfl := Option.some.inj h
  simp [cl, zdq]
 | [], n + 1, r, h => by cases h
 | c :: cs, n + 1, r, h => by
  rw [zfT] at h
  cases hb : Nat.ble c.len (n + 1)
  ·rw [hb] at h; cases h
  ·rw [hb] at h
   have hle := Nat.le_of_ble_eq_true hb
   simp only [cond_true] at h
   obtain ⟨r', h1, rfl⟩ : ∃ r', zfT cs (n + 1 - c.len) = some r' ∧ c :: r' = r := by
    cases hq : zfT cs (n + 1 - c.len) with
    | none => rw [hq] at h; cases h
    | some d => rw [hq] at h; exact ⟨d, rfl, Option.some.inj h⟩
   obtain ⟨h2, h3⟩ := zo2 cs _ r' h1
   refine ⟨?_, by rw [zdq, h3]; omega⟩
   rw [cl, cl, h2, List.take_append, List.take_of_length_le (l := c.cells) (by rw [c.cells_len]; exact hle), c.cells_len]
theorem zfU : ∀ (cs : List Chunk) (n : Nat) (r : List Chunk), zfg cs n = some r → cl r = (cl cs).drop n ∧ n ≤ zdq cs
 | cs, 0, r, h => by
  rw [zfg] at h
  obtain rfl := Option.some.inj h
  simp
 | [], n + 1, r, h => by cases h
 | c :: cs, n + 1, r, h => by
  rw [zfg] at h
  cases hb : Nat.ble c.len (n + 1)
  ·rw [hb] at h; cases h
  ·rw [hb] at h
   have hle := Nat.le_of_ble_eq_true hb
   simp only [cond_true] at h
   obtain ⟨h2, h3⟩ := zfU cs _ r h
   refine ⟨?_, by rw [zdq]; omega⟩
   rw [h2, cl, List.drop_append, List.drop_of_length_le (l := c.cells) (by rw [c.cells_len]; exact hle), c.cells_len, List.nil_append]
theorem zeR {cs r : List Chunk} {off n : Nat} (h : ziW cs off n = some r) : cl r = ((cl cs).drop off).take n ∧ zdq r = n ∧ off + n ≤ zdq cs := by
 unfold ziW at h
 obtain ⟨d, h1, h2⟩ : ∃ d, zfg cs off = some d ∧ zfT d n = some r := by
  cases hq : zfg cs off with
  | none => rw [hq] at h; cases h
  | some d => rw [hq] at h; exact ⟨d, rfl, h⟩
 obtain ⟨h3, h4⟩ := zfU _ _ _ h1
 obtain ⟨h5, h6⟩ := zo2 _ _ _ h2
 rw [h3] at h5
 refine ⟨h5, h6, ?_⟩
 have := congrArg List.length h5
 rw [za6, h6, List.length_take, List.length_drop, za6] at this
 omega
theorem zhI : ∀ (cs : List Chunk) (off : Nat) (new r : List Chunk), ziX cs off new = some r → cl r = (cl cs).take off ++ cl new ++ (cl cs).drop (off + zdq new) ∧ off + zdq new ≤ zdq cs
 | cs, 0, new, r, h => by
  rw [ziX] at h
  obtain ⟨d, h1, rfl⟩ : ∃ d, zfg cs (zdq new) = some d ∧ new ++ d = r := by
   cases hq : zfg cs (zdq new) with
   | none => rw [hq] at h; cases h
   | some d => rw [hq] at h; exact ⟨d, rfl, by dsimp only at h; rw [zsa] at h; exact Option.some.inj h⟩
  obtain ⟨h2, h3⟩ := zfU _ _ _ h1
  refine ⟨by rw [zr9, h2, jI, List.nil_append, Nat.zero_add], by omega⟩
 | [], off + 1, new, r, h => by cases h
 | c :: cs, off + 1, new, r, h => by
  rw [ziX] at h
  cases hb : Nat.ble c.len (off + 1)
  ·rw [hb] at h; cases h
  ·rw [hb] at h
   have hle := Nat.le_of_ble_eq_true hb
   simp only [cond_true] at h
   obtain ⟨r', h1, rfl⟩ : ∃ r', ziX cs (off + 1 - c.len) new = some r' ∧ c :: r' = r := by
    cases hq : ziX cs (off + 1 - c.len) new with
    | none => rw [hq] at h; cases h
    | some d => rw [hq] at h; exact ⟨d, rfl, Option.some.inj h⟩
   obtain ⟨h2, h3⟩ := zhI cs _ new r' h1
   refine ⟨?_, by rw [zdq]; omega⟩
   rw [cl, cl, h2, List.take_append, List.take_of_length_le (l := c.cells) (by rw [c.cells_len]; exact hle), c.cells_len]
   rw [List.drop_append, List.drop_of_length_le (l := c.cells) (by rw [c.cells_len]; omega), c.cells_len, List.nil_append]
   rw [show off + 1 + zdq new - c.len = off + 1 - c.len + zdq new by omega]
   simp only [List.append_assoc]
inductive Res where
 | blk (b : Nat) (c : Array Value) (t : TypeId)
 | row (v : Value) (e sz n : Nat) (xs : List Value)
 | obj (b : Nat) (o : Obj)
def Res.keys : Res → List Nat
 | .blk b _ _ => [b]
 | .row v _ _ _ _ => v.ownBlock.toList
 | .obj b _ => [b]
def Res.holds (w : World) : Res → Prop
 | .blk b c t => w.heap[b]? = some (.cells c t (0, 0))
 | .row v e sz n xs => w.ownsRow 0 e sz v n xs
 | .obj b o => w.heap[b]? = some o
def zad : List Res → List Nat
 | [] => []
 | r :: L => r.keys ++ zad L
def St (r : World → Prop) (w : World) (Y : List Nat) : Prop := ∀ w' : World, (∀ k, k < w.heap.size → k ∉ Y → w'.heap[k]? = w.heap[k]?) → r w'
structure Frm (G : List Nat) (w w' : World) : Prop where
 os : w'.os = w.os
 tape : w'.tape = w.tape
 output : w'.output = w.output
 size : w.heap.size ≤ w'.heap.size
 block : ∀ k, k < w.heap.size → k ∉ G → w'.heap[k]? = w.heap[k]?
structure Sep (X G : List Nat) (w0 w : World) (L : List Res) (R : List (World → Prop)) : Prop where
 frm : Frm G w0 w
 xlt : ∀ k ∈ X, k < w0.heap.size
 holds : ∀ r ∈ L, r.holds w
 apart : (zad L).Nodup
 mine : ∀ k ∈ zad L, k ∈ G ∨ w0.heap.size ≤ k
 facts : ∀ r ∈ R, St r w (X ++ zad L)
section
variable {r r' : World → Prop} {w w' w0 w1 : World} {Y Y' X G : List Nat} {L L' L1 : List Res} {R R' R1 : List (World → Prop)} {q q' : Res}
theorem St.now (h : St r w Y) : r w := h w fun _ _ _ => rfl
theorem St.mono (h : St r w Y) (hY : ∀ k ∈ Y', k ∈ Y) : St r w Y' := fun w' hk => h w' fun k hl hn => hk k hl fun hm => hn (hY k hm)
theorem St.imp (h : St r w Y) (hr : ∀ w, r w → r' w) : St r' w Y := fun w' hk => hr _ (h w' hk)
theorem St.and (h : St r w Y) (h' : St r' w Y) : St (fun w => r w ∧ r' w) w Y := fun w' hk => ⟨h w' hk, h' w' hk⟩
theorem St.step (h : St r w Y) (hs : w.heap.size ≤ w'.heap.size) (hk : ∀ k, k < w.heap.size → k ∉ Y → w'.heap[k]? = w.heap[k]?) (hY : ∀ k ∈ Y', k ∈ Y ∨ w.heap.size ≤ k) : St r w' Y' := fun w2 hk2 =>
 h w2 fun k hl hn => (hk2 k (jT hl hs) fun hm => by
  rcases hY k hm with h1 | h1
  ·exact hn h1
  ·omega).trans (hk k hl hn)
theorem Frm.refl (G : List Nat) (w : World) : Frm G w w := ⟨rfl, rfl, rfl, jV _, fun _ _ _ => rfl⟩
theorem Frm.trans (h : Frm G w w1) (h' : Frm Y w1 w') (hY : ∀ k ∈ Y, k ∈ G ∨ w.heap.size ≤ k) : Frm G w w' :=
 ⟨h'.os.trans h.os, h'.tape.trans h.tape, h'.output.trans h.output, jU h.size h'.size, fun k hk hn => (h'.block k (jT hk h.size) fun hm => by
  rcases hY k hm with h1 | h1
  ·exact hn h1
  ·omega).trans (h.block k hk hn)⟩
theorem Frm.below (h : Frm [] w w') : Below w.heap.size w w' := ⟨h.os, h.tape, h.output, h.size, fun k hk => h.block k hk (by simp)⟩
theorem Frm.of_below (h : Below w.heap.size w w') : Frm G w w' := ⟨h.os, h.tape, h.output, h.size, fun k hk _ => h.block k hk⟩
theorem Frm.of_grown {row : Option Nat} (h : w.grownBy w' row) : Frm row.toList w w' :=
 ⟨h.os, h.tape, h.output, h.size, fun k hk hn => h.block k hk fun e => hn (by rw [← e]; simp)⟩
theorem Frm.drew (h : Frm G w w') : Frm G w w'.drew := ⟨h.os, h.tape, h.output, h.size, h.block⟩
theorem zbx (h : q.holds w) (hk : ∀ k ∈ q.keys, w'.heap[k]? = w.heap[k]?) : q.holds w' := by
 cases q with
 | blk b c t => exact (hk b (by simp [Res.keys])).trans h
 | obj b o => exact (hk b (by simp [Res.keys])).trans h
 | row v e sz n xs =>
  refine ⟨h.1, ?_⟩
  rcases h.2 with h2 | ⟨g, cap, cur, rfl, h3, hh, h4⟩
  ·exact .inl h2
  ·exact .inr ⟨g, cap, cur, rfl, h3, (hk g (by simp [Res.keys, Value.ownBlock])).trans hh, h4⟩
theorem zfV (h : q.holds w) : ∀ k ∈ q.keys, k < w.heap.size := by
 intro k hk
 cases q with
 | blk b c t =>
  simp only [Res.keys, List.mem_singleton] at hk
  subst hk
  exact jM h
 | obj b o =>
  simp only [Res.keys, List.mem_singleton] at hk
  subst hk
  exact jM h
 | row v e sz n xs =>
  simp only [Res.keys, Option.mem_toList] at hk
  exact (World.ownsRow.lt h k hk).2
theorem zbL : ∀ {L : List Res} {k : Nat}, k ∈ zad L ↔ ∃ q ∈ L, k ∈ q.keys
 | [], k => by simp [zad]
 | q :: L, k => by simp [zad, zbL (L := L)]
theorem Sep.lt (h : Sep X G w0 w L R) : ∀ k ∈ zad L, k < w.heap.size := fun k hk => by
 obtain ⟨q, hq, hk⟩ := zbL.1 hk
 exact zfV (h.holds q hq) k hk
theorem Sep.start (hX : ∀ k ∈ X, k < w.heap.size) (hf : ∀ r ∈ R, St r w X) : Sep X G w w [] R :=
 ⟨Frm.refl _ _, hX, fun _ h => (by cases h), List.nodup_nil, fun _ h => (by cases h), fun r hr => (hf r hr).mono (by simp [zad])⟩
theorem Sep.xk (h : Sep X G w0 w L R) : ∀ k ∈ X ++ zad L, k < w.heap.size := fun k hk => by
 rcases List.mem_append.1 hk with h1 | h1
 ·exact jT (h.xlt k h1) h.frm.size
 ·exact h.lt k h1
theorem Sep.grow (h : Sep X G w0 w L R) (hb : Frm [] w w') : Sep X G w0 w' L R :=
 ⟨h.frm.trans hb (by simp), h.xlt, fun q hq => zbx (h.holds q hq) fun k hk => hb.block k (zfV (h.holds q hq) k hk) (by simp), h.apart, h.mine,
  fun r hr => (h.facts r hr).step hb.size (fun k hk _ => hb.block k hk (by simp)) fun k hk => .inl hk⟩
theorem Sep.drew (h : Sep X G w0 w L R) : Sep X G w0 w.drew L R := h.grow ⟨rfl, rfl, rfl, jV _, fun _ _ _ => rfl⟩
theorem Sep.own (h : Sep X G w0 w L R) (hb : Frm [] w w') (hq : q.holds w') (hk : ∀ k ∈ q.keys, w.heap.size ≤ k) (hnd : q.keys.Nodup) : Sep X G w0 w' (q :: L) R := by
 have h' := h.grow hb
 have hs := h.frm.size
 refine ⟨h'.frm, h.xlt, fun r hr => ?_, ?_, fun k hk' => ?_, fun r hr => (h.facts r hr).step hb.size (fun k hk _ => hb.block k hk (by simp)) fun k hk' => ?_⟩
 ·rcases List.mem_cons.1 hr with rfl | hr
  ·exact hq
  ·exact h'.holds r hr
 ·exact List.nodup_append.2 ⟨hnd, h.apart, fun a ha b hb' e => by
   subst e
   have := h.lt a hb'
   have := hk a ha
   omega⟩
 ·rcases List.mem_append.1 hk' with h1 | h1
  ·exact .inr (jU hs (hk k h1))
  ·exact h.mine k h1
 ·rcases List.mem_append.1 hk' with h1 | h1
  ·exact .inl (List.mem_append_left _ h1)
  ·rcases List.mem_append.1 h1 with h2 | h2
   ·exact .inr (hk k h2)
   ·exact .inl (List.mem_append_right _ h2)
theorem Sep.turn (h : Sep X G w0 w (q :: L) R) (hb : Frm q.keys w w') (hq : q'.holds w') (hk : ∀ k ∈ q'.keys, k ∈ q.keys ∨ w.heap.size ≤ k) (hnd : q'.keys.Nodup) : Sep X G w0 w' (q' :: L) R := by
 have hap := List.nodup_append.1 h.apart
 have hs := h.frm.size
 have key : ∀ r ∈ L, r.holds w' := fun r hr => zbx (h.holds r (List.mem_cons_of_mem _ hr)) fun k hk' => hb.block k (zfV (h.holds r (List.mem_cons_of_mem _ hr)) k hk') fun hm => hap.2.2 k hm k (zbL.2 ⟨r, hr, hk'⟩) rfl
 refine ⟨h.frm.trans hb fun k hk' => h.mine k (List.mem_append_left _ hk'), h.xlt, fun r hr => ?_, ?_, fun k hk' => ?_, fun r hr => (h.facts r hr).step hb.size (fun k hk' hn => hb.block k hk' fun hm => hn (List.mem_append_right _ (List.mem_append_left _ hm))) fun k hk' => ?_⟩
 ·rcases List.mem_cons.1 hr with rfl | hr
  ·exact hq
  ·exact key r hr
 ·refine List.nodup_append.2 ⟨hnd, hap.2.1, fun a ha b hb' e => ?_⟩
  subst e
  rcases hk a ha with h1 | h1
  ·exact hap.2.2 a h1 a hb' rfl
  ·have := h.lt a (List.mem_append_right _ hb')
   omega
 ·rcases List.mem_append.1 hk' with h1 | h1
  ·rcases hk k h1 with h2 | h2
   ·exact h.mine k (List.mem_append_left _ h2)
   ·exact .inr (jU hs h2)
  ·exact h.mine k (List.mem_append_right _ h1)
 ·rcases List.mem_append.1 hk' with h1 | h1
  ·exact .inl (List.mem_append_left _ h1)
  ·rcases List.mem_append.1 h1 with h2 | h2
   ·rcases hk k h2 with h3 | h3
    ·exact .inl (List.mem_append_right _ (List.mem_append_left _ h3))
    ·exact .inr h3
   ·exact .inl (List.mem_append_right _ (List.mem_append_right _ h2))
theorem zak : ∀ (a b : List Res), zad (a ++ b) = zad a ++ zad b
 | [], b => rfl
 | q :: a, b => by rw [List.cons_append, zad, zad, zak a b, List.append_assoc]
theorem zaw {a b : List Res} (h : a.Perm b) : (zad a).Perm (zad b) := by
 induction h with
 | nil => exact List.Perm.refl _
 | cons x _ ih => exact List.Perm.append_left _ ih
 | swap x y l =>
  simp only [zad]
  rw [← List.append_assoc, ← List.append_assoc]
  exact List.Perm.append_right _ List.perm_append_comm
 | trans _ _ ih1 ih2 => exact ih1.trans ih2
theorem Sep.perm (h : Sep X G w0 w L R) (hp : L.Perm L') : Sep X G w0 w L' R := by
 have hk := zaw hp
 exact ⟨h.frm, h.xlt, fun r hr => h.holds r (hp.mem_iff.2 hr), hk.nodup_iff.1 h.apart, fun k hm => h.mine k (hk.mem_iff.2 hm), fun r hr => (h.facts r hr).mono fun k hm => by
  rcases List.mem_append.1 hm with h1 | h1
  ·exact List.mem_append_left _ h1
  ·exact List.mem_append_right _ (hk.mem_iff.2 h1)⟩
theorem Sep.at_ (h : Sep X G w0 w L R) (i : Nat) (q : Res) (hq : L[i]? = some q) : Sep X G w0 w (q :: L.eraseIdx i) R := by
 refine h.perm ?_
 have hi := (List.getElem?_eq_some_iff.1 hq).1
 have e : q = L[i] := ((List.getElem?_eq_some_iff.1 hq).2).symm
 rw [e]
 clear e hq h
 induction L generalizing i with
 | nil => simp at hi
 | cons x L ih =>
  cases i with
  | zero => exact List.Perm.refl _
  | succ i =>
   simp only [List.eraseIdx_cons_succ, List.getElem_cons_succ]
   exact (List.Perm.cons x (ih i (by simpa using hi))).trans (List.Perm.swap _ _ _)
theorem Sep.back (i : Nat) (hq : i < L.length) (h : Sep X G w0 w (q' :: L.eraseIdx i) R) : Sep X G w0 w (L.set i q') R := by
 refine h.perm ?_
 clear h
 induction L generalizing i with
 | nil => simp at hq
 | cons x L ih =>
  cases i with
  | zero => exact List.Perm.refl _
  | succ i =>
   simp only [List.eraseIdx_cons_succ, jC]
   exact (List.Perm.swap _ _ _).trans (List.Perm.cons x (ih i (by simpa using hq)))
theorem Sep.turnAt (h : Sep X G w0 w L R) (i : Nat) (hi : L[i]? = some q) (hb : Frm q.keys w w') (hq : q'.holds w') (hk : ∀ k ∈ q'.keys, k ∈ q.keys ∨ w.heap.size ≤ k) (hnd : q'.keys.Nodup) (hL : L.set i q' = L') : Sep X G w0 w' L' R := by
 subst hL
 exact ((h.at_ i q hi).turn hb hq hk hnd).back i (List.getElem?_eq_some_iff.1 hi).1
theorem Sep.pop (h : Sep X G w0 w L (r :: R)) : Sep X G w0 w L R := ⟨h.frm, h.xlt, h.holds, h.apart, h.mine, fun r hr => h.facts r (List.mem_cons_of_mem _ hr)⟩
theorem Sep.sub (h : Sep X G w0 w L R) (hR : ∀ r ∈ R', r ∈ R) : Sep X G w0 w L R' := ⟨h.frm, h.xlt, h.holds, h.apart, h.mine, fun r hr => h.facts r (hR r hr)⟩
theorem Sep.popL (h : Sep X G w0 w (q :: L) R) : Sep X G w0 w L R :=
 ⟨h.frm, h.xlt, fun r hr => h.holds r (List.mem_cons_of_mem _ hr), (List.nodup_append.1 h.apart).2.1, fun k hk => h.mine k (List.mem_append_right _ hk), fun r hr => (h.facts r hr).mono fun k hk => by
  rcases List.mem_append.1 hk with h1 | h1
  ·exact List.mem_append_left _ h1
  ·exact List.mem_append_right _ (List.mem_append_right _ h1)⟩
theorem Sep.know (h : Sep X G w0 w L R) (hr : St r w (X ++ zad L)) : Sep X G w0 w L (r :: R) := ⟨h.frm, h.xlt, h.holds, h.apart, h.mine, fun r' hr' => by
 rcases List.mem_cons.1 hr' with rfl | hr'
 ·exact hr
 ·exact h.facts r' hr'⟩
theorem Sep.fact (h : Sep X G w0 w L R) (i : Nat) (hi : R[i]? = some r) : St r w (X ++ zad L) := h.facts r (List.mem_of_getElem? hi)
theorem Sep.freeze (h : Sep X G w0 w (q :: L) R) (hG : ∀ k ∈ q.keys, w0.heap.size ≤ k) : Sep X G w0 w L ((fun w => q.holds w) :: R) := by
 refine h.popL.know fun w' hk => zbx (h.holds q (List.mem_cons_self ..)) fun k hq => hk k (zfV (h.holds q (List.mem_cons_self ..)) k hq) fun hm => ?_
 rcases List.mem_append.1 hm with h1 | h1
 ·have := h.xlt k h1
  have := hG k hq
  omega
 ·exact (List.nodup_append.1 h.apart).2.2 k hq k h1 rfl
theorem Sep.call (h : Sep X G w0 w L R) (h1 : Sep (X ++ zad L) [] w w1 L1 R1) : Sep X G w0 w1 (L1 ++ L) (R1 ++ R) := by
 have hg := h.grow h1.frm
 have hnew : ∀ k ∈ zad L1, w.heap.size ≤ k := fun k hk => by
  rcases h1.mine k hk with h2 | h2
  ·cases h2
  ·exact h2
 refine ⟨hg.frm, h.xlt, fun r hr => ?_, ?_, fun k hk => ?_, fun r hr => ?_⟩
 ·rcases List.mem_append.1 hr with h2 | h2
  ·exact h1.holds r h2
  ·exact hg.holds r h2
 ·rw [zak]
  exact List.nodup_append.2 ⟨h1.apart, h.apart, fun a ha b hb e => by
   subst e
   have := hnew a ha
   have := h.lt a hb
   omega⟩
 ·rw [zak] at hk
  rcases List.mem_append.1 hk with h2 | h2
  ·exact .inr (jU h.frm.size (hnew k h2))
  ·exact h.mine k h2
 ·rw [zak]
  rcases List.mem_append.1 hr with h2 | h2
  ·refine (h1.facts r h2).mono fun k hk => ?_
   simp only [List.mem_append] at hk ⊢
   rcases hk with h3 | h3 | h3
   ·exact .inl (.inl h3)
   ·exact .inr h3
   ·exact .inl (.inr h3)
  ·refine (h.facts r h2).step h1.frm.size (fun k hk _ => h1.frm.block k hk (by simp)) fun k hk => ?_
   simp only [List.mem_append] at hk ⊢
   rcases hk with h3 | h3 | h3
   ·exact .inl (.inl h3)
   ·exact .inr (hnew k h3)
   ·exact .inl (.inr h3)
end
end
section
open Go.RowKit
def PK (P : Program) (S : Nat → Prop) (ws : World) (l : List (Nat × Value)) (o : Oper) (v : Value) : Prop :=
 ∀ w', CanB.Keep S ws w' → ∀ a N, Env a N l → (execOp a.eval o).run P w' = .ok (.value v) w'
def zgD (_ : Nat) : Prop := True
def zv5 : List Value → Nat → Option Value
 | [], _ => none
 | v :: _, 0 => some v
 | _ :: vs, i + 1 => zv5 vs i
section
variable {P : Program} {ops : Array Oper} {rest : List Oper} {o : Oper} {a : Act} {w ws : World} {Q : Exit → Act → World → Prop} {N d : Nat} {l : List (Nat × Value)} {v : Value} {S : Nat → Prop} {T : Act → World → Prop} {p : List (Oper × Bool)}
theorem zEP (E : Env a N l) (hv : PK P zgD w l o v) (hg : gd ops l o = some true) (hd : o.dst = some d) (hN : Nat.blt d N = true) (h : ∀ a', Env a' N ((d, v) :: l) → wpList P ops Q rest a' w) : wpList P ops Q (o :: rest) a w :=
 znU (zfS E hg) (hv w (CanB.Keep.refl _ _) a N E) (h _ (by rw [hd]; exact E.put hN))
theorem zEQ (E : Env a N l) (hg : gd ops l o = some true) (h : ∀ K : Act → World → Prop, (∀ a' w', wpList P ops Q rest a' w' → K a' w') → o.wp P a w K Q) : wpList P ops Q (o :: rest) a w :=
 wpList_step fun K hK => by rw [if_pos (zfS E hg)]; exact h K hK
theorem zsb {x : Operand} (ho : o.op = .move x) (hx : ev l x = some v) : PK P S ws l o v := fun w' _ a N E => by
 unfold execOp; rw [ho]; simp only [E.ev hx]; rfl
theorem zk5 {x : Operand} (ho : o.op = .assign x) (hx : ev l x = some v) : PK P S ws l o v := fun w' _ a N E => by
 unfold execOp; rw [ho]; simp only [E.ev hx]; rfl
theorem zsc {c x y : Operand} {b : Bool} (ho : o.op = .pick c x y) (hc : ev l c = some (.bool b)) (hv : (bif b then ev l x else ev l y) = some v) : PK P S ws l o v := fun w' _ a N E => by
 unfold execOp; rw [ho]; simp only [E.ev hc]
 cases b
 ·have hv' : ev l y = some v := hv
  simp [asBool, E.ev hv']
 ·have hv' : ev l x = some v := hv
  simp [asBool, E.ev hv']
theorem zyO : ∀ (vs : List Value) (i : Nat), zv5 vs i = vs[i]?
 | [], i => by simp [zv5]
 | v :: vs, 0 => by simp [zv5]
 | v :: vs, i + 1 => by rw [zv5, zyO vs i]; simp
theorem zi7 {x : Operand} {i : Nat} {vs : Array Value} (ho : o.op = .extract x i) (hx : ev l x = some (.tuple vs)) (hn : zv5 vs.toList i = some v) : PK P S ws l o v := fun w' _ a N E => by
 have hv : vs[i]? = some v := by rw [zyO] at hn; simpa using hn
 unfold execOp; rw [ho]; simp [E.ev hx, Instr.extract, hv]
theorem znV {f : Fn} {fs cs : Array Operand} {vs us : List Value} (ho : o.op = .makeFunc f fs cs) (h1 : evs l fs.toList = some vs) (h2 : evs l cs.toList = some us) : PK P S ws l o (.func f vs.toArray us.toArray) := fun w' _ a N E => by
 have e1 : fs.map a.eval = vs.toArray := Array.toList_inj.1 (by rw [Array.toList_map]; exact E.evs h1)
 have e2 : cs.map a.eval = us.toArray := Array.toList_inj.1 (by rw [Array.toList_map]; exact E.evs h2)
 unfold execOp; rw [ho]
 simp [Instr.makeFunc, e1, e2]
def zen (op : BinOp) (k : IntKind) (m n : Int) : Option Value :=
 match op with
 | .add => some (.int k (k.wrap (m + n)))
 | .sub => some (.int k (k.wrap (m - n)))
 | .mul => some (.int k (k.wrap (m * n)))
 | .eql => some (.bool (m == n))
 | .neq => some (.bool (m != n))
 | .lss => some (.bool (decide (m < n)))
 | .leq => some (.bool (decide (m ≤ n)))
 | .gtr => some (.bool (decide (m > n)))
 | .geq => some (.bool (decide (m ≥ n)))
 | .and => some (.int k (k.wrap (BitVec.ofInt k.bits m &&& BitVec.ofInt k.bits n).toNat))
 | .or => some (.int k (k.wrap (BitVec.ofInt k.bits m ||| BitVec.ofInt k.bits n).toNat))
 | .xor => some (.int k (k.wrap (BitVec.ofInt k.bits m ^^^ BitVec.ofInt k.bits n).toNat))
 | _ => none
theorem zbT (op : BinOp) (t : TypeId) (x y : Operand) (k k' : IntKind) (m n : Int) (w : World) : (eqGuard op t x y (.int k m) (.int k' n)).run P w = .ok () w := by
 unfold eqGuard
 cases op <;> rfl
theorem zo3 {op : BinOp} {t u : TypeId} {x y : Operand} {k : IntKind} {m n : Int} (ho : o.op = .binOp op t x y u) (hx : ev l x = some (.int k m)) (hy : ev l y = some (.int k n)) (hr : zen op k m n = some v) : PK P S ws l o v := fun w' _ a N E => by
 unfold execOp; rw [ho]
 simp only [E.ev hx, E.ev hy, Sem.run_bind, zbT, Result.andThen_ok]
 cases op <;> simp only [zen, reduceCtorEq, Option.some.injEq] at hr <;> (subst hr; simp [binOp, Op.intArith, Op.intCmp, Op.intBits])
theorem znX {op : BinOp} {t u : TypeId} {x y : Operand} {k : IntKind} {m n z : Int} (ho : o.op = .binOp op t x y u) (hx : ev l x = some (.int k m)) (hy : ev l y = some (.int k n)) (hr : zen op k m n = some (.int k (k.wrap z))) (hw : k.wrap z = z) : PK P S ws l o (.int k z) :=
 zo3 ho hx hy (by rw [hr, hw])
theorem zCF {t u : TypeId} {x y : Operand} {k : IntKind} {m n : Int} (ho : o.op = .binOp .rem t x y u) (hx : ev l x = some (.int k m)) (hy : ev l y = some (.int k n)) (hn : n ≠ 0) : PK P S ws l o (.int k (m.tmod n)) := fun w' _ a N E => by
 unfold execOp; rw [ho]
 simp only [E.ev hx, E.ev hy, Sem.run_bind, zbT, Result.andThen_ok]
 simp [binOp, Op.intDiv, hn]
theorem zCG {t u : TypeId} {x y : Operand} {k : IntKind} {m n : Int} (ho : o.op = .binOp .quo t x y u) (hx : ev l x = some (.int k m)) (hy : ev l y = some (.int k n)) (hn : n ≠ 0) : PK P S ws l o (.int k (k.wrap (m.tdiv n))) := fun w' _ a N E => by
 unfold execOp; rw [ho]
 simp only [E.ev hx, E.ev hy, Sem.run_bind, zbT, Result.andThen_ok]
 simp [binOp, Op.intDiv, hn]
theorem zCH {t u : TypeId} {x y : Operand} {k k' : IntKind} {m n : Int} (ho : o.op = .binOp .shl t x y u) (hx : ev l x = some (.int k m)) (hy : ev l y = some (.int k' n)) (hn : 0 ≤ n) : PK P S ws l o (.int k (k.wrap (m * 2 ^ (min n.toNat k.bits)))) := fun w' _ a N E => by
 unfold execOp; rw [ho]
 simp only [E.ev hx, E.ev hy, Sem.run_bind, zbT, Result.andThen_ok]
 simp [binOp, Op.shift, show ¬ n < 0 by omega]
theorem zCI {t u : TypeId} {x y : Operand} {k k' : IntKind} {m n : Int} (ho : o.op = .binOp .shr t x y u) (hx : ev l x = some (.int k m)) (hy : ev l y = some (.int k' n)) (hn : 0 ≤ n) : PK P S ws l o (.int k (m.fdiv (2 ^ (min n.toNat k.bits)))) := fun w' _ a N E => by
 unfold execOp; rw [ho]
 simp only [E.ev hx, E.ev hy, Sem.run_bind, zbT, Result.andThen_ok]
 simp [binOp, Op.shift, show ¬ n < 0 by omega]
theorem zyP {t : TypeId} {x : Operand} {b : Bool} (ho : o.op = .unOp .not t x) (hx : ev l x = some (.bool b)) : PK P S ws l o (.bool !b) := fun w' _ a N E => by
 unfold execOp; rw [ho]; simp [E.ev hx, Op.unary]
theorem zCJ {t : TypeId} {x : Operand} {k : IntKind} {m : Int} (ho : o.op = .unOp .neg t x) (hx : ev l x = some (.int k m)) : PK P S ws l o (.int k (k.wrap (0 - m))) := fun w' _ a N E => by
 unfold execOp; rw [ho]; simp [E.ev hx, Op.unary, Op.intArith]
def zCK (P : Program) (t : TypeId) : Option IntKind := match P.underlying t with | some (.int k) => some k | _ => none
theorem zsd {s t : TypeId} {x : Operand} {k k' : IntKind} {m : Int} (ho : o.op = .convert s t x) (hx : ev l x = some (.int k' m)) (hs : (P.underlying s).isSome = true) (ht : zCK P t = some k) : PK P S ws l o (.int k (k.wrap m)) := fun w' _ a N E => by
 have hu : P.underlying t = some (.int k) := by
  unfold zCK at ht
  split at ht
  ·rename_i h
   rw [h]
   rw [Option.some.inj ht]
  ·cases ht
 obtain ⟨ds, hds⟩ := Option.isSome_iff_exists.1 hs
 unfold execOp; rw [ho]
 simp only [E.ev hx]
 unfold convert
 simp only [Sem.run_bind, run_underlying hds, run_underlying hu, Result.andThen_ok]
 cases ds <;> simp [Conv.intToInt]
theorem zwn {s t : TypeId} {x : Operand} {k k' : IntKind} {m : Int} (ho : o.op = .convert s t x) (hx : ev l x = some (.int k' m)) (hs : (P.underlying s).isSome = true) (ht : zCK P t = some k) (hw : k.wrap m = m) : PK P S ws l o (.int k m) := by
 have := zsd (S := S) (ws := ws) ho hx hs ht
 rwa [hw] at this
def zv6 (P : Program) (t : TypeId) : Bool := match P.underlying t with | some (.slice _) => true | _ => false
theorem zyQ {t : TypeId} {x : Operand} {A : Option Addr} {n c : Nat} (ho : o.op = .call { callee := .builtin .len, args := #[x], argTypes := #[t] }) (hx : ev l x = some (.slice A n c)) (ht : zv6 P t = true) : PK P S ws l o (.int .i64 n) := fun w' _ a N E => by
 have hu : P.underlying t = some (.slice (P.elem t)) := by
  unfold zv6 at ht
  split at ht
  ·rename_i e h
   rw [h]
   simp [Program.elem, h]
  ·cases ht
 unfold execOp; rw [ho]
 simp only [resolve, Sem.run_bind, Sem.run_pure, Result.andThen_ok, List.map_toArray, List.map_cons, List.map_nil, E.ev hx, invoke, builtin, run_len_slice w' t o.type A n c hu, goInt]
def zo4 (P : Program) (s : TypeId) (f : Nat) : Option Nat :=
 match P.underlying s with
 | some (.struct fs) => match fs[f]? with
  | some fd => match P.info? fd.type with
   | some i => if i.size = 0 then none else some fd.offset
   | none => none
  | none => none
 | _ => none
theorem zbj {s : TypeId} {x : Operand} {f off : Nat} {ad : Addr} (ho : o.op = .fieldAddr s x f) (hx : ev l x = some (.pointer (some ad))) (hf : zo4 P s f = some off) : PK P S ws l o (.pointer (some (ad.add off))) := fun w' _ a N E => by
 unfold zo4 at hf
 split at hf
 ·rename_i fs hs
  split at hf
  ·rename_i fd hfd
   split at hf
   ·rename_i i hi
    split at hf
    ·cases hf
    ·rename_i h0
     obtain rfl := Option.some.inj hf
     unfold execOp; rw [ho]
     simp [E.ev hx, Instr.fieldAt, run_underlying hs, hfd, Instr.sureAddr, fieldPlace, sizeOf, typeInfo, hi, h0]
   ·cases hf
  ·cases hf
 ·cases hf
def elK (P : Program) (t : TypeId) : Option Nat :=
 match P.underlying t with
 | some (.slice e) => (P.info? e).map (·.size)
 | _ => none
theorem zo5 {t sz : Nat} (h : elK P t = some sz) : ∃ e, P.underlying t = some (.slice e) ∧ (P.info? e).map (·.size) = some sz := by
 unfold elK at h
 split at h
 ·rename_i e he
  exact ⟨e, he, h⟩
 ·cases h
theorem zwo {t sz n c i : Nat} {x y : Operand} {ad : Addr} {j : Int} (ho : o.op = .indexAddr t x y) (ht : elK P t = some sz) (hx : ev l x = some (.slice (some ad) n c)) (hy : ev l y = some (.int .i64 j)) (hj : j = (i : Int)) (hi : i < n) : PK P S ws l o (.pointer (some (ad.add (i * sz)))) := fun w' _ a N E => by
 obtain ⟨e, h1, h2⟩ := zo5 ht
 exact zr8 ho h1 h2 (E.ev hx) (by rw [E.ev hy, hj]) hi
theorem zCL {t sz n c i : Nat} {x y : Operand} {A : Option Addr} {ad : Addr} {j : Int} (hA : A = some ad) (ho : o.op = .indexAddr t x y) (ht : elK P t = some sz) (hx : ev l x = some (.slice A n c)) (hy : ev l y = some (.int .i64 j)) (hj : j = (i : Int)) (hi : i < n) : PK P S ws l o (.pointer (some (ad.add (i * sz)))) := zwo ho ht (by rw [hx, hA]) hy hj hi
def tyK (P : Program) (t : TypeId) : Option (Nat × Bool) :=
 match P.underlying t, P.info? t with
 | some d, some i => some (i.size, match d with | .struct _ | .array _ _ => true | _ => false)
 | _, _ => none
theorem zk6 {t n : Nat} {b : Bool} (h : tyK P t = some (n, b)) : ∃ d, P.underlying t = some d ∧ (match d with | .struct _ | .array _ _ => true | _ => false) = b ∧ (P.info? t).map (·.size) = some n := by
 unfold tyK at h
 split at h
 ·rename_i d i h1 h2
  simp only [Option.some.injEq, Prod.mk.injEq] at h
  exact ⟨d, h1, h.2, by rw [h2]; simp [h.1]⟩
 ·cases h
def AtC (ad : Addr) (cs : List Chunk) (w : World) : Prop := ∀ j u, (cl cs)[j]? = some u → w.cell? (ad.add j) = some u
theorem zeo {b t : Nat} {cs : List Chunk} {fr : Nat × Nat} (h : w.heap[b]? = some (.cells (ca cs) t fr)) : AtC ⟨b, 0, none⟩ cs w := fun j u hu => by
 rw [zck]
 unfold World.cell?
 simp only [h, Nat.zero_add, Option.isSome_none, Bool.false_eq_true, if_false]
 simpa [ca] using hu
theorem zgF {ad : Addr} {cs sub : List Chunk} {off n : Nat} (h : AtC ad cs w) (hp : ziW cs off n = some sub) : AtC (ad.add off) sub w := fun j u hu => by
 obtain ⟨h1, h2, h3⟩ := zeR hp
 rw [Addr.add_add]
 refine h _ u ?_
 have hj : j < n := by
  have := (List.getElem?_eq_some_iff.1 hu).1
  rw [za6, h2] at this
  exact this
 rw [h1, List.getElem?_take_of_lt hj, List.getElem?_drop] at hu
 exact hu
theorem zbM {ty n : Nat} {x : Operand} {ad : Addr} {sub : List Chunk} (E : Env a N l) (ho : o.op = .load ty x) (hx : ev l x = some (.pointer (some ad))) (ht : tyK P ty = some (n, true)) (hn : zdq sub = n) (h : AtC ad sub w) : (execOp a.eval o).run P w = .ok (.value (.agg (ca sub))) w := by
 obtain ⟨d, h1, h2, h3⟩ := zk6 ht
 have hc : ∀ j, j < n → w.cell? (ad.add j) = some ((fun j => (cl sub).getD j undef) j) := fun j hj => by
  have hl : j < (cl sub).length := by rw [za6, hn]; exact hj
  refine h j _ ?_
  simp [jP hl]
 rw [ziV ho ⟨d, h1, h2, h3⟩ (E.ev hx) hc]
 congr 2
 unfold ca
 congr 1
 unfold zv4
 apply Array.ext'
 simp only []
 apply List.ext_getElem?
 intro i
 by_cases hi : i < n
 ·have hl : i < (cl sub).length := by rw [za6, hn]; exact hi
  simp [hi, jP hl]
 ·rw [List.getElem?_eq_none (by simp; omega), List.getElem?_eq_none (by rw [za6, hn]; omega)]
theorem za0 {ty : Nat} {x : Operand} {ad : Addr} {v : Value} (E : Env a N l) (ho : o.op = .load ty x) (hx : ev l x = some (.pointer (some ad))) (ht : tyK P ty = some (1, false)) (h : AtC ad [.one v] w) : (execOp a.eval o).run P w = .ok (.value v) w := by
 obtain ⟨d, h1, h2, h3⟩ := zk6 ht
 refine zk4 ho h1 (by cases d <;> first | rfl | exact h2) (E.ev hx) ?_
 have := h 0 v rfl
 rwa [zav] at this
section own
variable {X G : List Nat} {w0 : World} {L : List Res} {R : List (World → Prop)}
theorem zCM {b t : Nat} {cs : List Chunk} {w' : World} (H : Sep X G w0 ws L R) (i : Nat) (hi : L[i]? = some (.blk b (ca cs) t)) (hS : S b) (hk : CanB.Keep S ws w') : AtC ⟨b, 0, none⟩ cs w' :=
 zeo (t := t) (fr := (0, 0)) ((hk b hS).trans (H.holds _ (List.mem_of_getElem? hi)))
theorem zjI (b off : Nat) : (⟨b, off, none⟩ : Addr) = (⟨b, 0, none⟩ : Addr).add off := by rw [zck, Nat.zero_add]
theorem zwp {b t off ty : Nat} {cs : List Chunk} {x : Operand} (H : Sep X G w0 ws L R) (i : Nat) (ho : o.op = .load ty x) (hx : ev l x = some (.pointer (some ⟨b, off, none⟩))) (hi : L[i]? = some (.blk b (ca cs) t)) (hS : S b) (hp : ziW cs off 1 = some [.one v]) (ht : tyK P ty = some (1, false)) : PK P S ws l o v := fun w' hk a N E =>
 za0 E ho hx ht (by rw [zjI]; exact zgF (zCM H i hi hS hk) hp)
theorem zo6 {r : World → Prop} {w' : World} {Y : List Nat} (h : St r ws Y) (hk : CanB.Keep S ws w') (hS : ∀ k, k < ws.heap.size → k ∉ Y → S k) : r w' := h w' fun k hl hn => hk k (hS k hl hn)
end own
end
end
section
open Go.RowKit
def zep (P : Program) (t : TypeId) : Option (Array Value) := (P.info? t).bind fun i => i.zero.map Value.cells
theorem zeS {P : Program} {t : TypeId} {c : Array Value} (h : zep P t = some c) : ∃ i z, P.info? t = some i ∧ i.zero = some z ∧ z.cells = c := by
 unfold zep at h
 rw [Option.bind_eq_some_iff] at h
 obtain ⟨i, h1, h2⟩ := h
 rw [Option.map_eq_some_iff] at h2
 obtain ⟨z, h3, h4⟩ := h2
 exact ⟨i, z, h1, h3, h4⟩
theorem zo7 : ∀ (vs : List Value) (k off : Nat) (A : Array Value), off + k + vs.length ≤ A.size →
  (vs.zipIdx k).foldl (fun cs (p : Value × Nat) => cs.setIfInBounds (off + p.2) p.1) A = (A.toList.take (off + k) ++ vs ++ A.toList.drop (off + k + vs.length)).toArray
 | [], k, off, A, h => by simp
 | v :: vs, k, off, A, h => by
  rw [List.length_cons] at h
  rw [List.zipIdx_cons, List.foldl_cons, zo7 vs (k + 1) off (A.setIfInBounds (off + k) v) (by rw [Array.size_setIfInBounds]; omega)]
  congr 1
  rw [Array.toList_setIfInBounds]
  have hl : off + k < A.toList.length := by simp; omega
  rw [show off + (k + 1) = off + k + 1 by omega, List.take_succ_eq_append_getElem (by simpa using hl), List.take_set_of_le (jV _), List.drop_set_of_lt (by omega)]
  simp
  omega
theorem zse {place : Nat → Option (Nat × Nat)} {z z' cs : List Chunk} {i off : Nat} {v : Value} {ps : List (Nat × Value)} (hp : place i = some (off, zdq cs)) (hv : v.cells = ca cs) (hz : ziX z off cs = some z') :
  Instr.fill place (ca z) ((i, v) :: ps) = Instr.fill place (ca z') ps := by
 obtain ⟨h1, h2⟩ := zhI _ _ _ _ hz
 rw [Instr.fill]
 simp only [hp, hv, zcT]
 rw [if_neg (by simp; omega)]
 congr 1
 rw [← Array.foldl_toList, Array.toList_zipIdx]
 have := zo7 (cl cs) 0 off (ca z) (by rw [zcT, za6]; omega)
 rw [show (ca cs).toList = cl cs from rfl]
 rw [this]
 unfold ca
 rw [h1, za6, Nat.add_zero]
def zg1 (P : Program) (s : TypeId) (f : Nat) : Option (Nat × Nat) :=
 match P.underlying s with
 | some (.struct fs) => match fs[f]? with
  | some fd => (P.info? fd.type).map fun i => (fd.offset, i.size)
  | none => none
 | _ => none
def zjJ (P : Program) (s : TypeId) : Bool :=
 match P.underlying s with
 | some (.struct fs) => fs.toList.all fun f => (P.info? f.type).isSome
 | _ => false
theorem zo8 {α β : Type} (f : α → Option β) : ∀ (l : List α), (l.all fun x => (f x).isSome) = true → ∃ r : List β, l.mapM f = some r ∧ ∀ i : Nat, r[i]? = (l[i]?).bind f
 | [], _ => ⟨[], rfl, fun i => by simp⟩
 | x :: l, h => by
  simp only [List.all_cons, Bool.and_eq_true] at h
  obtain ⟨r, h1, h2⟩ := zo8 f l h.2
  obtain ⟨y, hy⟩ := Option.isSome_iff_exists.1 h.1
  refine ⟨y :: r, by simp [List.mapM_cons, hy, h1], fun i => ?_⟩
  cases i with
  | zero => simp [hy]
  | succ i => simp [h2]
def znY (place : Nat → Option (Nat × Nat)) (l : List (Nat × Value)) : List (Nat × Operand) → List Chunk → List Chunk → Prop
 | [], z, r => z = r
 | (i, x) :: ps, z, r => ∃ v cs off z', ev l x = some v ∧ v.cells = ca cs ∧ place i = some (off, zdq cs) ∧ ziX z off cs = some z' ∧ znY place l ps z' r
theorem zeT {place : Nat → Option (Nat × Nat)} {l : List (Nat × Value)} {a : Act} {N : Nat} (E : Env a N l) : ∀ (ps : List (Nat × Operand)) (z r : List Chunk), znY place l ps z r →
  Instr.fill place (ca z) (ps.map fun (i, x) => (i, a.eval x)) = some (ca r)
 | [], z, r, h => by
  have h : z = r := h
  rw [h, List.map_nil, Instr.fill]
 | (i, x) :: ps, z, r, h => by
  obtain ⟨v, cs, off, z', h1, h2, h3, h4, h5⟩ := h
  rw [List.map_cons]
  show Instr.fill place (ca z) ((i, a.eval x) :: _) = _
  rw [E.ev h1, zse h3 h2 h4]
  exact zeT E ps z' r h5
section
variable {P : Program} {ops : Array Oper} {rest : List Oper} {o : Oper} {a : Act} {w ws : World} {Q : Exit → Act → World → Prop} {N d : Nat} {l : List (Nat × Value)} {v : Value} {S : Nat → Prop} {K : Act → World → Prop}
 {X G : List Nat} {w0 : World} {L L' : List Res} {R : List (World → Prop)}
theorem zwq {ty : TypeId} {parts : Array (Nat × Operand)} {z r : List Chunk} (ho : o.op = .build ty parts) (hs : zjJ P ty = true) (hz : zep P ty = some (ca z)) (hp : znY (zg1 P ty) l parts.toList z r) : PK P S ws l o (.agg (ca r)) := fun w' _ a N E => by
 obtain ⟨i, zv, h1, h2, h3⟩ := zeS hz
 unfold zjJ at hs
 split at hs
 ·rename_i fs hu
  have hpl : ∃ r : List (Nat × Nat), fs.toList.mapM (fun f => (P.info? f.type).map fun i => (f.offset, i.size)) = some r ∧ ∀ i : Nat, r[i]? = (fs.toList[i]?).bind fun f => (P.info? f.type).map fun i => (f.offset, i.size) :=
   zo8 _ _ (by
    rw [List.all_eq_true] at hs ⊢
    intro f hf
    have := hs f hf
    rw [Option.isSome_map]
    exact this)
  obtain ⟨places, h4, h5⟩ := hpl
  have hb : P.built ty (parts.toList.map fun (i, x) => (i, a.eval x)) = some (ca r) := by
   unfold Program.built
   simp only [h1, hu, h2, h4, h3]
   rw [← zeT E _ _ _ hp]
   congr 1
   funext j
   unfold zg1
   simp only [hu, jL, h5]
   rw [Array.getElem?_toList]
   cases fs[j]? <;> rfl
  unfold execOp
  rw [ho]
  simp only [Sem.run_bind]
  rw [run_build w' ty (parts.map fun (i, x) => (i, a.eval x)) (ca r) (by rw [Array.toList_map]; exact hb)]
  rfl
 ·cases hs
theorem zsf {ty : TypeId} {z : List Chunk} (H : Sep X G w0 w L R) (ho : o.op = .alloc ty) (hz : zep P ty = some (ca z))
  (h : ∀ b w', Sep X G w0 w' (.blk b (ca z) ty :: L) R → Frm [] w w' → K (a.put o.dst (.pointer (some ⟨b, 0, none⟩))) w') : o.wp P a w K Q := by
 obtain ⟨i, zv, h1, h2, h3⟩ := zeS hz
 have hr : (execOp a.eval o).run P w = .ok (.value (.pointer (some ⟨w.heap.size, 0, none⟩))) (w.alloc (.cells (ca z) ty)) := by
  unfold execOp
  simp [ho, Instr.alloc, zeroValue, typeInfo, h1, h2, newVar, newRow, newObj, h3, Sem.run_bind]
  rfl
 unfold Oper.wp
 rw [hr]
 have hf : Frm [] w (w.alloc (.cells (ca z) ty)) := Frm.of_below ((Below.refl _ _).alloc (jV _) _)
 exact h w.heap.size _ (H.own hf (heap_alloc_new w _) (by simp [Res.keys]) (by simp [Res.keys])) hf
def zo9 : List Chunk → Prop
 | [] => True
 | .one v :: cs => v.oneCell' = true ∧ zo9 cs
 | .key _ :: cs => zo9 cs
 | .row n f :: cs => (∀ i, i < n → (f i).oneCell' = true) ∧ zo9 cs
theorem zft : ∀ {cs : List Chunk}, zo9 cs → ∀ u ∈ cl cs, u.oneCell' = true
 | [], _, u, h => by cases h
 | .one v :: cs, h, u, hu => by
  rcases List.mem_append.1 hu with h1 | h1
  ·simp only [Chunk.cells, List.mem_singleton] at h1
   rw [h1]; exact h.1
  ·exact zft h.2 u h1
 | .key k :: cs, h, u, hu => by
  rcases List.mem_append.1 hu with h1 | h1
  ·simp only [Chunk.cells, zgC, List.mem_map] at h1
   obtain ⟨i, _, rfl⟩ := h1
   rfl
  ·exact zft (cs := cs) h u h1
 | .row n f :: cs, h, u, hu => by
  rcases List.mem_append.1 hu with h1 | h1
  ·simp only [Chunk.cells, List.mem_map, List.mem_range] at h1
   obtain ⟨i, hi, rfl⟩ := h1
   exact h.1 i hi
  ·exact zft h.2 u h1
def zdr (P : Program) (t : TypeId) : Option Nat := (P.info? t).map (·.size)
theorem zcU {ty b t off : Nat} {cs new cs' : List Chunk} (hg : w.heap[b]? = some (.cells (ca cs) t (0, 0))) (hv : v.cells = ca new) (h1 : zo9 new) (hp : ziX cs off new = some cs') (hs : zdr P ty = some (zdq new)) :
  (storeVar ty ⟨b, off, none⟩ v).run P w = .ok () (w.setRow b (ca cs')) := by
 obtain ⟨h2, h3⟩ := zhI _ _ _ _ hp
 have h4 := run_storeCells_at P b off t (cl new) 0 (ca cs) w hg (by rw [za6, zcT]; omega) (zft h1)
 unfold zdr at hs
 rw [Option.map_eq_some_iff] at hs
 obtain ⟨i, hi, hsz⟩ := hs
 have e : ((ca cs).toList.take (off + 0) ++ cl new ++ (ca cs).toList.drop (off + 0 + (cl new).length)).toArray = ca cs' := by
  unfold ca
  rw [h2, Nat.add_zero, za6]
 rw [e] at h4
 unfold storeVar
 simp only [sizeOf, typeInfo, Sem.run_bind, hv, zcT]
 simp [hi, hsz]
 exact h4
theorem zcc (b : Nat) (c : Array Value) (w : World) : Frm [b] w (w.setRow b c) :=
 ⟨rfl, rfl, rfl, by simp [World.setRow], fun k _ hn => setRow_other w b k c (by simpa using hn)⟩
theorem zsg {ty b t off : Nat} {cs new cs' : List Chunk} {x y : Operand} (i : Nat) (E : Env a N l) (H : Sep X G w0 w L R) (ho : o.op = .store ty x y) (hx : ev l x = some (.pointer (some ⟨b, off, none⟩))) (hy : ev l y = some v) (hv : v.cells = ca new) (hi : L[i]? = some (.blk b (ca cs) t)) (h1 : zo9 new) (hp : ziX cs off new = some cs') (hs : zdr P ty = some (zdq new))
  (hL : L.set i (.blk b (ca cs') t) = L') (h : ∀ w', Sep X G w0 w' L' R → Frm [b] w w' → K (a.put o.dst undef) w') : o.wp P a w K Q := by
 have hb : w.heap[b]? = some (.cells (ca cs) t (0, 0)) := H.holds _ (List.mem_of_getElem? hi)
 have hr := zcb ho (E.ev hx) (E.ev hy) (zcU (P := P) (ty := ty) hb hv h1 hp hs)
 unfold Oper.wp
 rw [hr]
 exact h _ (H.turnAt (q' := .blk b (ca cs') t) i hi (zcc b _ w) (zeQ hb) (by simp [Res.keys]) (by simp [Res.keys]) hL) (zcc b _ w)
def fnB (P : Program) (f : FuncId) : Bool := match P.funcs[f]? with | some fn => !(fn.name == "runtime.NumGoroutine") && fn.body.isSome | none => false
theorem zi8 {f : FuncId} {args : Array Value} (h : fnB P f = true) : (callFunc f args).run P w = .ok (.enter f args) w := by
 unfold fnB at h
 split at h
 ·rename_i fn hf
  simp only [Bool.and_eq_true, Bool.not_eq_true', Option.isSome_iff_exists] at h
  obtain ⟨h1, c, h2⟩ := h
  unfold callFunc
  have h1' : ¬ fn.name = "runtime.NumGoroutine" := beq_eq_false_iff_ne.1 h1
  simp [hf, h1', h2, Sem.run_bind]
 ·cases h
theorem zjK {f : FuncId} {x : Operand} {xs : Array Operand} {ts : Array TypeId} {fs cs : Array Value} {vs : List Value} (E : Env a N l) (ho : o.op = .call { callee := .value x, args := xs, argTypes := ts }) (hx : ev l x = some (.func (.func f) fs cs)) (hargs : evs l xs.toList = some vs) (hf : fnB P f = true)
  (h : Calls P f (fs ++ vs.toArray ++ cs) w fun
   | .returned v, w'' => K (a.put o.dst v) w''
   | .panicked chain, w'' => Q (.panic chain) a w''
   | .outgrown, _ => LetsOut Q) : o.wp P a w K Q := by
 have ea : xs.map a.eval = vs.toArray := Array.toList_inj.1 (by rw [Array.toList_map]; exact E.evs hargs)
 have hr : (execOp a.eval o).run P w = .ok (.enter f (fs ++ vs.toArray ++ cs)) w := by
  unfold execOp
  rw [ho]
  simp only [resolve, Sem.run_bind, E.ev hx, ea, Deferred.ofValue, Sem.run_pure, Result.andThen_ok, invoke]
  exact zi8 hf
 unfold Oper.wp
 rw [hr]
 exact h
theorem znZ {t e sz : Nat} (H : Sep X G w0 w L R) (ho : o.op = .buildSlice t 0 #[]) (hu : P.underlying t = some (.slice e)) (hs : zdr P e = some sz)
  (h : ∀ b w', Sep X G w0 w' (.row (.slice (some ⟨b, 0, none⟩) 0 0) e sz 0 [] :: L) R → Frm [] w w' → K (a.put o.dst (.slice (some ⟨b, 0, none⟩) 0 0)) w') : o.wp P a w K Q := by
 unfold zdr at hs
 rw [Option.map_eq_some_iff] at hs
 obtain ⟨i, hi, hsz⟩ := hs
 have hr : (execOp a.eval o).run P w = .ok (.value (.slice (some ⟨w.heap.size, 0, none⟩) 0 0)) (w.alloc (.cells #[] e)) := by
  unfold execOp
  rw [ho]
  simp [Instr.buildSlice, run_underlying hu, sizeOf, typeInfo, hi, newRow, Instr.fill, Sem.run_bind]
  rw [Array.eq_empty_of_size_eq_zero (xs := Array.map _ (Array.range 0)) (by simp)]
 unfold Oper.wp
 rw [hr]
 have hf : Frm [] w (w.alloc (.cells #[] e)) := Frm.of_below ((Below.refl _ _).alloc (jV _) _)
 exact h w.heap.size _ (H.own hf (show (w.alloc (.cells #[] e)).ownsRow 0 e sz _ 0 [] from ⟨by simp, .inr ⟨w.heap.size, 0, #[], rfl, Nat.zero_le _, heap_alloc_new w _, jV _, Nat.zero_le _, by simp, by simp⟩⟩) (by simp [Res.keys, Value.ownBlock]) (by simp [Res.keys, Value.ownBlock])) hf
variable {x y : Code}
theorem zjL {id : Nat} {lo : List Oper} (h : wpList P lo.toArray Q lo a w) : (Code.region id lo.toArray false).wp P Q a w := wp_region_lit h
theorem zsh {c : Operand} (E : Env a N l) (hc : ev l c = some (.bool true)) (h : x.wp P Q a w) : (Code.cond c x y).wp P Q a w := wp_cond_true (E.ev hc) h
theorem zsi {c : Operand} (E : Env a N l) (hc : ev l c = some (.bool false)) (h : y.wp P Q a w) : (Code.cond c x y).wp P Q a w := wp_cond_false (E.ev hc) h
theorem zsj {γ : Type} {c : Code} (I : γ → Act → World → Prop) (μ : γ → Nat) (g0 : γ) (h0 : I g0 a w) (round : ∀ g a w, I g a w → c.wp P (Exit.then (fun a' w' => ∃ g', I g' a' w' ∧ μ g' < μ g) Q) a w) : (Code.loop c).wp P Q a w := by
 intro b k cs
 have key : ∀ n g a w, μ g = n → I g a w →
   ∃ e a' w', Q e a' w' ∧ Arrives P (lone (b.at a (.code c :: .inLoop c :: k)) cs w) b k cs e a' w' := by
  intro n
  induction n using Nat.strongRecOn with
  | _ n ih =>
   intro g a w hn hI
   obtain ⟨e, a₁, w₁, hq, harr⟩ := round g a w hI b (.inLoop c :: k) cs
   cases e with
   | normal =>
    obtain ⟨g', hI₁, hlt⟩ := hq
    obtain ⟨e₂, a₂, w₂, hq₂, harr₂⟩ := ih (μ g') (hn ▸ hlt) g' a₁ w₁ rfl hI₁
    exact ⟨e₂, a₂, w₂, hq₂, .of_steps (Steps.trans harr (.one step_inLoop)) harr₂⟩
   | exit id => exact ⟨_, a₁, w₁, hq, .pass (x := .inLoop c) rfl (fun _ _ => .inl (by simp)) harr⟩
   | goto l => exact ⟨_, a₁, w₁, hq, .pass (x := .inLoop c) rfl (fun _ _ => .inl (by simp)) harr⟩
   | ret => exact ⟨_, a₁, w₁, hq, .pass (x := .inLoop c) rfl (fun _ _ => .inl (by simp)) harr⟩
   | panic ch => exact ⟨_, a₁, w₁, hq, .pass (x := .inLoop c) rfl (fun _ _ => .inl (by simp)) harr⟩
   | outgrown => exact ⟨_, a₁, w₁, hq, .pass (x := .inLoop c) rfl (fun _ _ => .inl (by simp)) harr⟩
 obtain ⟨e, a', w', hq, harr⟩ := key _ g0 a w rfl h0
 exact ⟨e, a', w', hq, .of_steps (.one step_loop) harr⟩
def zq5 (P : Program) (l : List (Nat × Value)) (w : World) : ResultVar → Value → Prop
 | .tmp t, v => zfQ l t = some v
 | .cell p ty, v => ∃ b cs n, zfQ l p = some (.pointer (some ⟨b, 0, none⟩)) ∧ AtC ⟨b, 0, none⟩ cs w ∧ zdq cs = n ∧ ((tyK P ty = some (n, true) ∧ v = .agg (ca cs)) ∨ (tyK P ty = some (1, false) ∧ cs = [.one v]))
theorem ziY {ty b : Nat} (h : (execOp a.eval ⟨none, .load ty (.const (.pointer (some ⟨b, 0, none⟩))), 0, "", #[], none⟩).run P w = .ok (.value v) w) : (loadVar ty ⟨b, 0, none⟩).run P w = .ok v w := by
 unfold execOp at h
 simp only [Act.eval, Instr.loadAt, Instr.sureAddr, Sem.run_bind, Sem.run_pure, Result.andThen_ok] at h
 cases hq : (loadVar ty ⟨b, 0, none⟩).run P w with
 | ok v' w' =>
  rw [hq] at h
  simp only [Result.andThen_ok, Result.ok.injEq, Next.value.injEq] at h
  rw [h.1, h.2]
 | halt h' w' => rw [hq] at h; cases h
theorem zcF {r : ResultVar} (E : Env a N l) (h : zq5 P l w r v) : match r with
  | .tmp t => a.tmps[t]?.getD undef = v
  | .cell p ty => ∃ b, a.tmps[p]?.getD undef = .pointer (some ⟨b, 0, none⟩) ∧ (loadVar ty ⟨b, 0, none⟩).run P w = .ok v w := by
 cases r with
 | tmp t => simpa using E.val t v h
 | cell p ty =>
  obtain ⟨b, cs, n, h1, h2, h3, h4⟩ := h
  refine ⟨b, by simpa using E.val p _ h1, ziY (a := a) ?_⟩
  rcases h4 with ⟨h5, rfl⟩ | ⟨h5, rfl⟩
  ·exact zbM E rfl rfl h5 h3 h2
  ·exact za0 E rfl rfl h5 h2
theorem zFV {fn : Func} {Rr : Ending → World → Prop} {r1 : ResultVar} (hr : fn.results = #[r1]) (E : Env a N l) (h1 : zq5 P l w r1 v) (h : Rr (.returned v) w) : bodyPost P fn Rr .ret a w :=
 bodyPost_ret (by
  have := zcF E h1
  cases r1 with
  | tmp t => simp only at this; simp [results, hr, this]
  | cell p ty => obtain ⟨b, e1, e2⟩ := this; simp [results, hr, e1, e2, asAddr]) E.defers h
theorem zCN {fn : Func} {Rr : Ending → World → Prop} {r1 r2 : ResultVar} {v1 v2 : Value} (hr : fn.results = #[r1, r2]) (E : Env a N l) (h1 : zq5 P l w r1 v1) (h2 : zq5 P l w r2 v2) (h : Rr (.returned (.tuple #[v1, v2])) w) : bodyPost P fn Rr .ret a w :=
 bodyPost_ret (by
  have e1 := zcF E h1
  have e2 := zcF E h2
  cases r1 <;> cases r2 <;> simp only at e1 e2
  ·simp [results, hr, e1, e2]
  ·obtain ⟨_, e3, e4⟩ := e2; simp [results, hr, e1, e3, e4, asAddr]
  ·obtain ⟨_, e3, e4⟩ := e1; simp [results, hr, e2, e3, e4, asAddr]
  ·obtain ⟨_, e3, e4⟩ := e1; obtain ⟨_, e5, e6⟩ := e2; simp [results, hr, e3, e4, e5, e6, asAddr]) E.defers h
theorem zFW {fn : Func} {Rr : Ending → World → Prop} {r1 r2 r3 : ResultVar} {v1 v2 v3 : Value} (hr : fn.results = #[r1, r2, r3]) (E : Env a N l) (h1 : zq5 P l w r1 v1) (h2 : zq5 P l w r2 v2) (h3 : zq5 P l w r3 v3) (h : Rr (.returned (.tuple #[v1, v2, v3])) w) : bodyPost P fn Rr .ret a w :=
 bodyPost_ret (by
  have e1 := zcF E h1
  have e2 := zcF E h2
  have e3 := zcF E h3
  cases r1 <;> cases r2 <;> cases r3 <;> simp only at e1 e2 e3 <;> (try obtain ⟨_, f1, g1⟩ := e1) <;> (try obtain ⟨_, f2, g2⟩ := e2) <;> (try obtain ⟨_, f3, g3⟩ := e3) <;> simp [results, hr, *, asAddr]) E.defers h
theorem zyR {t : Tmp} (h : zfQ l t = some v) : zq5 P l w (.tmp t) v := h
end
end
section
open Go.RowKit
structure Ty (α : Type) where
 μ : Type
 dft : μ
 sz : Nat
 pos : 0 < sz
 ch : α → μ → List Chunk
 nest : α → μ → World → Prop
 len : ∀ x m, zdq (ch x m) = sz
 one : ∀ x m, zo9 (ch x m)
structure LiF {α : Type} (T : Ty α) (A : Option Addr) (c : Nat) (xs : List α) (m : Nat → T.μ) (w : World) : Prop where
 cap : xs.length ≤ c
 big : xs.length ≤ 9223372036854775807
 nil : A = none → xs.length = 0 ∧ c = 0
 at_ : ∀ ad, A = some ad → ∀ i x, xs[i]? = some x → AtC (ad.add (i * T.sz)) (T.ch x (m i)) w ∧ T.nest x (m i) w
def zaF : Ty Int where
 μ := Unit
 dft := ()
 sz := 1
 pos := by decide
 ch x _ := [.one (.int .i64 x)]
 nest _ _ _ := True
 len _ _ := rfl
 one _ _ := ⟨rfl, trivial⟩
def zb5 : Ty (List Nat) where
 μ := Unit
 dft := ()
 sz := 32
 pos := by decide
 ch l _ := [.key l]
 nest _ _ _ := True
 len _ _ := rfl
 one _ _ := trivial
structure TxF (A : Option Addr) (c : Nat) (l : List Nat) (w : World) : Prop where
 cap : l.length ≤ c
 len : l.length ≤ 140737488355328
 byt : ∀ x ∈ l, x < 256
 nil : A = none → l.length = 0 ∧ c = 0
 at_ : ∀ ad, A = some ad → ∀ i x, l[i]? = some x → w.cell? (ad.add i) = some (bv x)
def zat : Ty (List Nat) where
 μ := Option Addr × Nat
 dft := (none, 0)
 sz := 1
 pos := by decide
 ch l m := [.one (.slice m.1 l.length m.2)]
 nest l m := TxF m.1 m.2 l
 len _ _ := rfl
 one _ _ := ⟨rfl, trivial⟩
section
variable {A : Option Addr} {c : Nat} {l : List Nat} {w : World} {Y : List Nat}
theorem TxF.txt (h : TxF A c l w) : Txt w w.heap.size A l.length c l := ⟨rfl, h.nil, fun hn => by
 cases A with
 | none => have := (h.nil rfl).1; omega
 | some ad =>
  refine ⟨ad, rfl, ?_, h.at_ ad rfl⟩
  have := h.at_ ad rfl 0 l[0] (by simp [hn])
  have h2 := World.block_lt_of_cell? _ _ this
  rwa [zdQ] at h2⟩
theorem TxF.nil_ : TxF none 0 [] w := ⟨jV _, Nat.zero_le _, by simp, fun _ => ⟨rfl, rfl⟩, fun _ h => by cases h⟩
theorem zjM : St (TxF none 0 []) w Y := fun _ _ => TxF.nil_
theorem zzE {v : Value} {e : TypeId} (h : St (fun w => (Res.row v e 1 l.length (l.map bv)).holds w) w Y) (hl : l.length ≤ 140737488355328) (hb : ∀ x ∈ l, x < 256) : ∃ A c, v = .slice A l.length c ∧ St (TxF A c l) w Y := by
 have h0 : w.ownsRow 0 e 1 v l.length (l.map bv) := h.now
 rcases h0.2 with ⟨rfl, h1⟩ | ⟨g, cap, cur, rfl, _, hh, hn, _⟩
 ·refine ⟨none, 0, by rw [h1], fun w' hk => ⟨by omega, hl, hb, fun _ => ⟨h1, rfl⟩, fun _ h => by cases h⟩⟩
 ·refine ⟨some ⟨g, 0, none⟩, cap, rfl, fun w' hk => ⟨hn, hl, hb, (fun h => by cases h), fun ad e i x hx => ?_⟩⟩
  obtain rfl := Option.some.inj e
  have h2 : w'.ownsRow 0 _ 1 _ l.length (l.map bv) := h w' hk
  exact h2.cells rfl i (bv x) (by simp [hx])
end
section
variable {α : Type} {T : Ty α} {A : Option Addr} {c : Nat} {xs : List α} {m : Nat → T.μ} {w w' : World} {Y : List Nat}
theorem LiF.get (h : St (LiF T A c xs m) w Y) {i : Nat} {x : α} (hx : xs[i]? = some x) : ∃ ad, A = some ad ∧ St (AtC (ad.add (i * T.sz)) (T.ch x (m i))) w Y ∧ St (T.nest x (m i)) w Y := by
 cases A with
 | none =>
  have := (h.now.nil rfl).1
  have h2 := (List.getElem?_eq_some_iff.1 hx).1
  omega
 | some ad => exact ⟨ad, rfl, fun w' hk => ((h w' hk).at_ ad rfl i x hx).1, fun w' hk => ((h w' hk).at_ ad rfl i x hx).2⟩
theorem zsk : St (LiF T none 0 [] m) w Y := fun _ _ => ⟨jV _, Nat.zero_le _, fun _ => ⟨rfl, rfl⟩, fun _ h => by cases h⟩
def zaH (T : Ty α) (xs : List α) (m : Nat → T.μ) : List (α × T.μ) := xs.mapIdx fun i x => (x, m i)
theorem zbk : (zaH T xs m).length = xs.length := by simp [zaH]
theorem zsm : (zaH T xs m).map Prod.fst = xs := by
 unfold zaH
 apply List.ext_getElem?
 intro i
 simp
 cases xs[i]? <;> rfl
theorem zcm (i : Nat) : (zaH T xs m)[i]? = (xs[i]?).map fun x => (x, m i) := by simp [zaH]
def zbV (T : Ty α) (its : List (α × T.μ)) : List Value := its.flatMap fun p => cl (T.ch p.1 p.2)
def zgG (T : Ty α) (its : List (α × T.μ)) (w : World) : Prop := ∀ p ∈ its, T.nest p.1 p.2 w
theorem zdv (its : List (α × T.μ)) : (zbV T its).length = its.length * T.sz := by
 unfold zbV
 induction its with
 | nil => simp
 | cons p its ih => rw [List.flatMap_cons, jQ, ih, za6, T.len, List.length_cons, Nat.succ_mul]; omega
theorem zpa (a b : List (α × T.μ)) : zbV T (a ++ b) = zbV T a ++ zbV T b := by unfold zbV; rw [List.flatMap_append]
theorem zwr (p : α × T.μ) : zbV T [p] = cl (T.ch p.1 p.2) := by simp [zbV]
theorem zhJ : ∀ (its : List (α × T.μ)) (i j : Nat) (p : α × T.μ) (u : Value), its[i]? = some p → (cl (T.ch p.1 p.2))[j]? = some u → (zbV T its)[i * T.sz + j]? = some u
 | [], i, j, p, u, h, _ => by simp at h
 | q :: its, 0, j, p, u, h, hj => by
  obtain rfl : q = p := by simpa using h
  have hl := (List.getElem?_eq_some_iff.1 hj).1
  unfold zbV
  rw [List.flatMap_cons, Nat.zero_mul, Nat.zero_add, List.getElem?_append_left hl]
  exact hj
 | q :: its, i + 1, j, p, u, h, hj => by
  have ih := zhJ its i j p u (by simpa using h) hj
  unfold zbV at *
  have hlq : (cl (T.ch q.1 q.2)).length = T.sz := by rw [za6, T.len]
  rw [List.flatMap_cons, List.getElem?_append_right (by rw [hlq, Nat.succ_mul]; omega), hlq, show (i + 1) * T.sz + j - T.sz = i * T.sz + j by rw [Nat.succ_mul]; omega]
  exact ih
theorem zsn (its : List (α × T.μ)) : ∀ u ∈ zbV T its, u.oneCell' = true := fun u hu => by
 unfold zbV at hu
 obtain ⟨p, _, hp⟩ := List.mem_flatMap.1 hu
 exact zft (T.one p.1 p.2) u hp
theorem zpb : ∀ (its : List (α × T.μ)) (i : Nat) (p q : α × T.μ) (off : Nat) (new : List Chunk), its[i]? = some p → ziX (T.ch p.1 p.2) off new = some (T.ch q.1 q.2) →
  zbV T (its.set i q) = (zbV T its).take (i * T.sz + off) ++ cl new ++ (zbV T its).drop (i * T.sz + off + zdq new)
 | [], i, p, q, off, new, h, _ => by simp at h
 | r :: its, 0, p, q, off, new, h, hp => by
  obtain rfl : r = p := by simpa using h
  obtain ⟨h1, h2⟩ := zhI _ _ _ _ hp
  rw [T.len] at h2
  have hl : (cl (T.ch r.1 r.2)).length = T.sz := by rw [za6, T.len]
  have e1 : zbV T (r :: its) = cl (T.ch r.1 r.2) ++ zbV T its := by simp [zbV]
  have e2 : zbV T ((r :: its).set 0 q) = cl (T.ch q.1 q.2) ++ zbV T its := by simp [zbV]
  rw [e1, e2, h1, Nat.zero_mul, Nat.zero_add, List.take_append, List.drop_append, hl, show off - T.sz = 0 by omega, show off + zdq new - T.sz = 0 by omega]
  simp
 | r :: its, i + 1, p, q, off, new, h, hp => by
  have ih := zpb its i p q off new (by simpa using h) hp
  have hl : (cl (T.ch r.1 r.2)).length = T.sz := by rw [za6, T.len]
  have e1 : zbV T (r :: its) = cl (T.ch r.1 r.2) ++ zbV T its := by simp [zbV]
  have e2 : zbV T ((r :: its).set (i + 1) q) = cl (T.ch r.1 r.2) ++ zbV T (its.set i q) := by simp [zbV]
  rw [e1, e2, ih, List.take_append, List.drop_append, hl, List.take_of_length_le (l := cl (T.ch r.1 r.2)) (by rw [hl, Nat.succ_mul]; omega), List.drop_of_length_le (l := cl (T.ch r.1 r.2)) (by rw [hl, Nat.succ_mul]; omega)]
  rw [show (i + 1) * T.sz + off - T.sz = i * T.sz + off by rw [Nat.succ_mul]; omega, show (i + 1) * T.sz + off + zdq new - T.sz = i * T.sz + off + zdq new by rw [Nat.succ_mul]; omega]
  simp only [List.append_assoc, List.nil_append]
theorem zi9 (h : St (LiF T A c xs m) w Y) : St (zgG T (zaH T xs m)) w Y := fun w' hk p hp => by
 obtain ⟨i, hi⟩ := List.mem_iff_getElem?.1 hp
 rw [zcm, Option.map_eq_some_iff] at hi
 obtain ⟨x, hx, rfl⟩ := hi
 have h' := h w' hk
 cases A with
 | none =>
  have := (h'.nil rfl).1
  have h2 := (List.getElem?_eq_some_iff.1 hx).1
  omega
 | some ad => exact (h'.at_ ad rfl i x hx).2
theorem zzF {e : TypeId} {its : List (α × T.μ)} {n : Nat} (h : St (fun w => (Res.row (.slice A n c) e T.sz n (zbV T its)).holds w) w Y) (hn : n = its.length) (hnest : St (zgG T its) w Y) :
  St (LiF T A c (its.map Prod.fst) (fun i => ((its[i]?).map Prod.snd).getD T.dft)) w Y := fun w' hk => by
 have h' : w'.ownsRow 0 e T.sz (.slice A n c) n (zbV T its) := h w' hk
 have hcells := fun {g} hg => h'.cells (g := g) hg
 refine ⟨?_, ?_, fun hA => ?_, fun ad hA i x hx => ?_⟩
 ·rcases h'.2 with ⟨h1, h2⟩ | ⟨g, cap, cur, h1, _, _, h2, _⟩
  ·injection h1 with _ _ h3; rw [List.length_map]; omega
  ·injection h1 with _ _ h3; subst h3; rw [List.length_map]; omega
 ·rcases h'.2 with ⟨h1, h2⟩ | ⟨g, cap, cur, h1, _, _, h2, h3, _⟩
  ·rw [List.length_map]; omega
  ·unfold maxLen at h3; rw [List.length_map]; omega
 ·rcases h'.2 with ⟨h1, h2⟩ | ⟨g, cap, cur, h1, _⟩
  ·injection h1 with _ _ h3; exact ⟨by rw [List.length_map]; omega, h3⟩
  ·injection h1 with h3; rw [hA] at h3; cases h3
 ·rw [List.getElem?_map, Option.map_eq_some_iff] at hx
  obtain ⟨p, hp, rfl⟩ := hx
  have had : ad.off = 0 ∧ ad.spot = none := by
   rcases h'.2 with ⟨h1, h2⟩ | ⟨g, cap, cur, h1, _⟩
   ·injection h1 with h3; rw [hA] at h3; cases h3
   ·injection h1 with h3; rw [hA] at h3; obtain rfl := Option.some.inj h3; exact ⟨rfl, rfl⟩
  obtain ⟨b, off, sp⟩ := ad
  obtain ⟨rfl, rfl⟩ := had
  refine ⟨fun j u hu => ?_, ?_⟩
  ·rw [Addr.add_add]
   simp only [hp, Option.map_some, jO] at hu
   exact hcells (g := b) (by rw [hA]; rfl) _ u (zhJ its i j p u hp hu)
  ·simp only [hp, Option.map_some, jO]
   exact hnest w' hk p (List.mem_of_getElem? hp)
end
section
variable {P : Program} {o : Oper} {a : Act} {w ws : World} {Q : Exit → Act → World → Prop} {N d : Nat} {l : List (Nat × Value)} {v : Value} {S : Nat → Prop} {K : Act → World → Prop}
 {X G : List Nat} {w0 : World} {L L' : List Res} {R : List (World → Prop)}
theorem zso {Y : List Nat} {ad : Addr} {ty : Nat} {cs : List Chunk} {x : Operand} (h : St (AtC ad cs) ws Y) (hS : ∀ k, k < ws.heap.size → k ∉ Y → S k) (ho : o.op = .load ty x) (hx : ev l x = some (.pointer (some ad))) (hp : cs = [.one v]) (ht : tyK P ty = some (1, false)) : PK P S ws l o v := fun w' hk a N E =>
 za0 E ho hx ht (by rw [← hp]; exact zo6 h hk hS)
theorem zzG {Y : List Nat} {A : Option Addr} {c i ty : Nat} {m : List Nat} {ad : Addr} {b : Nat} {x : Operand} (h : St (TxF A c m) ws Y) (hS : ∀ k, k < ws.heap.size → k ∉ Y → S k) (hA : A = some ad) (ho : o.op = .load ty x) (hx : ev l x = some (.pointer (some (ad.add (i * 1))))) (hb : m[i]? = some b) (ht : tyK P ty = some (1, false)) : PK P S ws l o (bv b) := fun w' hk a N E =>
 za0 E ho hx ht (fun j u hu => by
  cases j with
  | zero =>
   obtain rfl : bv b = u := by simpa [cl, Chunk.cells] using hu
   rw [zav, Nat.mul_one]
   exact (zo6 h hk hS).at_ ad hA i b hb
  | succ j => simp [cl, Chunk.cells] at hu)
structure AppK (P : Program) (t e sz by_ : Nat) : Prop where
 sl : P.underlying t = some (.slice e)
 info : (P.info? e).map (fun i => (i.zero.map (·.cells.size), i.size, i.bytes)) = some (some sz, sz, by_)
theorem zzH {t e ty : TypeId} {sz by_ n m c : Nat} {xs news : List Value} {A : Option Addr} (hT : AppK P t e sz by_) (h0 : 0 < sz) (hown : w.ownsRow 0 e sz v n xs) (hl : news.length = m * sz) (hnil : A = none → m = 0 ∧ c = 0) (hsrc : ∀ ad, A = some ad → ∀ j u, news[j]? = some u → w.cell? (ad.add j) = some u) (h1 : ∀ u ∈ news, u.oneCell' = true)
  (hn : n + m ≤ 9223372036854775807) (hby : (n + m) * by_ ≤ 140737488355328) :
  ∃ v' w', (Builtin.append_ #[t, t] ty #[v, .slice A m c]).run P w = .ok v' w' ∧ w'.ownsRow 0 e sz v' (n + m) (xs ++ news) ∧ w.grownBy w' v.ownBlock ∧ (v'.ownBlock = v.ownBlock ∨ v'.ownBlock = some w.heap.size) := by
 have hinfo := hT.info
 cases hi : P.info? e with
 | none => rw [hi] at hinfo; cases hinfo
 | some i =>
  rw [hi] at hinfo
  simp only [Option.map_some, Option.some.injEq, Prod.mk.injEq] at hinfo
  obtain ⟨hz, hs, hbt⟩ := hinfo
  cases hzz : i.zero with
  | none => rw [hzz] at hz; cases hz
  | some z =>
   rw [hzz] at hz
   simp only [Option.map_some, Option.some.injEq] at hz
   cases A with
   | none =>
    obtain ⟨rfl, rfl⟩ := hnil rfl
    obtain rfl : news = [] := List.eq_nil_of_length_eq_zero (by simpa using hl)
    exact ⟨v, w, run_append_owned_none (P := P) (w := w) 0 t ty e i sz hT.sl hi v n xs hown, by simpa using hown, World.grownBy.refl w _, .inl rfl⟩
   | some ad =>
    obtain ⟨v', w', hrun, h5, h6, _, h7⟩ := run_append_own_at (P := P) w 0 t ty e i z sz by_ hT.sl hi hzz hs hbt hz h0 v n xs hown ad m c news hl (hsrc ad rfl) h1 (by unfold maxLen; omega) hby (Nat.zero_le _)
    exact ⟨v', w', hrun, h5, h6, h7⟩
theorem zhK {t e sz by_ n m c : Nat} {xs news : List Value} {A : Option Addr} {s x : Operand} (i : Nat) (E : Env a N l) (H : Sep X G w0 w L R) (ho : o.op = .call { callee := .builtin .append, args := #[s, x], argTypes := #[t, t] }) (hs : ev l s = some v) (hx : ev l x = some (.slice A m c)) (hi : L[i]? = some (.row v e sz n xs))
  (hT : AppK P t e sz by_) (h0 : 0 < sz) (hl : news.length = m * sz) (hnil : A = none → m = 0 ∧ c = 0) (hsrc : ∀ ad, A = some ad → ∀ j u, news[j]? = some u → w.cell? (ad.add j) = some u) (h1 : ∀ u ∈ news, u.oneCell' = true) (hn : n + m ≤ 9223372036854775807) (hby : (n + m) * by_ ≤ 140737488355328)
  (h : ∀ A' c' w', n + m ≤ c' → Sep X G w0 w' (L.set i (.row (.slice A' (n + m) c') e sz (n + m) (xs ++ news))) R → Frm v.ownBlock.toList w w' → K (a.put o.dst (.slice A' (n + m) c')) w') : o.wp P a w K Q := by
 have hown : w.ownsRow 0 e sz v n xs := H.holds _ (List.mem_of_getElem? hi)
 obtain ⟨v', w', hrun, h2, h3, h4⟩ := zzH (P := P) (ty := o.type) hT h0 hown hl hnil hsrc h1 hn hby
 obtain ⟨A', c', rfl, hc'⟩ : ∃ A' c', v' = .slice A' (n + m) c' ∧ n + m ≤ c' := by
  rcases h2.2 with ⟨e1, e2⟩ | ⟨g, cap, cur, e1, _, _, e2, _⟩
  ·exact ⟨none, 0, by rw [e1, e2], by omega⟩
  ·exact ⟨_, _, e1, e2⟩
 unfold Oper.wp execOp
 simp only [ho, resolve, invoke, builtin, Sem.run_bind, Sem.run_pure, Result.andThen_ok, List.map_toArray, List.map_cons, List.map_nil, E.ev hs, E.ev hx, hrun]
 refine h A' c' w' hc' (H.turnAt (q' := .row (.slice A' (n + m) c') e sz (n + m) (xs ++ news)) i hi (Frm.of_grown h3) h2 (fun k hk => ?_) ?_ rfl) (Frm.of_grown h3)
 ·simp only [Res.keys, Option.mem_toList] at hk ⊢
  rcases h4 with h4 | h4
  ·rw [← h4]; exact .inl hk
  ·rw [h4] at hk
   obtain rfl := Option.some.inj hk
   exact .inr (jV _)
 ·simp only [Res.keys]
  cases (Value.slice A' (n + m) c').ownBlock <;> simp
theorem zws {α : Type} {T : Ty α} {t e by_ b : Nat} {its : List (α × T.μ)} {q : α × T.μ} {cs : List Chunk} {s x : Operand} (i j : Nat) (E : Env a N l) (H : Sep X G w0 w L R) (ho : o.op = .call { callee := .builtin .append, args := #[s, x], argTypes := #[t, t] }) (hs : ev l s = some v) (hx : ev l x = some (.slice (some ⟨b, 0, none⟩) 1 1)) (hi : L[i]? = some (.row v e T.sz its.length (zbV T its))) (hj : L[j]? = some (.blk b (ca cs) e)) (hq : cs = T.ch q.1 q.2)
  (hT : AppK P t e T.sz by_) (hn : its.length + 1 ≤ 9223372036854775807) (hby : (its.length + 1) * by_ ≤ 140737488355328)
  (h : ∀ A' c' w', its.length + 1 ≤ c' → Sep X G w0 w' (L.set i (.row (.slice A' (its ++ [q]).length c') e T.sz (its ++ [q]).length (zbV T (its ++ [q])))) R → Frm v.ownBlock.toList w w' → K (a.put o.dst (.slice A' (its ++ [q]).length c')) w') : o.wp P a w K Q := by
 have hb : w.heap[b]? = some (.cells (ca cs) e (0, 0)) := H.holds _ (List.mem_of_getElem? hj)
 refine zhK (news := cl cs) i E H ho hs hx hi hT T.pos (by rw [za6, hq, T.len]; omega) (fun h => by cases h) (fun ad he k u hu => ?_) (by rw [hq]; exact zft (T.one _ _)) hn hby fun A' c' w' h1 h2 h3 => ?_
 ·obtain rfl := Option.some.inj he
  exact zeo hb k u hu
 ·have e1 : its.length + 1 = (its ++ [q]).length := by simp
  have e2 : zbV T its ++ cl cs = zbV T (its ++ [q]) := by rw [zpa, zwr, hq]
  rw [e1, e2] at h2
  rw [e1]
  exact h A' c' w' h1 h2 h3
theorem zpc {α : Type} {T : Ty α} {t e by_ c : Nat} {A : Option Addr} {xs : List α} {m : Nat → T.μ} {its : List (α × T.μ)} {Y : List Nat} {s x : Operand} (i : Nat) (E : Env a N l) (H : Sep X G w0 w L R) (hr : St (LiF T A c xs m) w Y) (ho : o.op = .call { callee := .builtin .append, args := #[s, x], argTypes := #[t, t] }) (hs : ev l s = some v) (hx : ev l x = some (.slice A xs.length c)) (hi : L[i]? = some (.row v e T.sz its.length (zbV T its)))
  (hT : AppK P t e T.sz by_) (hn : its.length + xs.length ≤ 9223372036854775807) (hby : (its.length + xs.length) * by_ ≤ 140737488355328)
  (h : ∀ A' c' w', its.length + xs.length ≤ c' → Sep X G w0 w' (L.set i (.row (.slice A' (its ++ zaH T xs m).length c') e T.sz (its ++ zaH T xs m).length (zbV T (its ++ zaH T xs m)))) R → Frm v.ownBlock.toList w w' → K (a.put o.dst (.slice A' (its ++ zaH T xs m).length c')) w') : o.wp P a w K Q := by
 have hnow := hr.now
 refine zhK (news := zbV T (zaH T xs m)) i E H ho hs hx hi hT T.pos (by rw [zdv, zbk]) (fun h => hnow.nil h) (fun ad he k u hu => ?_) (zsn _) hn hby fun A' c' w' h1 h2 h3 => ?_
 ·-- a cell of an element
  have hk : k < xs.length * T.sz := by
   have := (List.getElem?_eq_some_iff.1 hu).1
   rw [zdv, zbk] at this
   exact this
  have hlt : k / T.sz < xs.length := (Nat.div_lt_iff_lt_mul T.pos).2 hk
  have hx' : xs[k / T.sz]? = some xs[k / T.sz] := jP hlt
  have hat := (hnow.at_ ad he _ _ hx').1
  have hmod := Nat.mod_lt k T.pos
  have hcl : k % T.sz < (cl (T.ch xs[k / T.sz] (m (k / T.sz)))).length := by rw [za6, T.len]; exact hmod
  have hu' := zhJ (T := T) (zaH T xs m) (k / T.sz) (k % T.sz) _ _ (by rw [zcm, hx']; rfl) (jP hcl)
  rw [show k / T.sz * T.sz + k % T.sz = k by rw [Nat.mul_comm]; exact Nat.div_add_mod k T.sz] at hu'
  rw [hu] at hu'
  obtain rfl := Option.some.inj hu'
  have := hat _ _ (jP hcl)
  rwa [Addr.add_add, show k / T.sz * T.sz + k % T.sz = k by rw [Nat.mul_comm]; exact Nat.div_add_mod k T.sz] at this
 ·have e1 : its.length + xs.length = (its ++ zaH T xs m).length := by rw [jQ, zbk]
  rw [e1, ← zpa] at h2
  rw [e1]
  exact h A' c' w' h1 h2 h3
theorem zwt {e sz n c : Nat} {A : Option Addr} {xs : List Value} (h : w.ownsRow 0 e sz (.slice A n c) n xs) (h0 : 0 < n) : ∃ g, A = some ⟨g, 0, none⟩ := by
 rcases h.2 with ⟨e1, e2⟩ | ⟨g, cap, cur, e1, _⟩
 ·omega
 ·injection e1 with e1; exact ⟨g, e1⟩
theorem zq6 {α : Type} {T : Ty α} {e c i off n ty g : Nat} {A : Option Addr} {its : List (α × T.μ)} {p : α × T.μ} (q : α × T.μ) {new : List Chunk} {x y : Operand} {pa : Addr} (j : Nat) (E : Env a N l) (H : Sep X G w0 w L R) (hj0 : L[j]? = some (.row (.slice A n c) e T.sz n (zbV T its))) (hA : A = some ⟨g, 0, none⟩) (hn : n = its.length) (hi : its[i]? = some p) (ho : o.op = .store ty x y) (hx0 : ev l x = some (.pointer (some pa))) (hpa : pa = ((⟨g, 0, none⟩ : Addr).add (i * T.sz)).add off) (hy : ev l y = some v) (hv : v.cells = ca new) (h1 : zo9 new) (hp : ziX (T.ch p.1 p.2) off new = some (T.ch q.1 q.2)) (hs : zdr P ty = some (zdq new))
  (h0 : ∀ w', Sep X G w0 w' (L.set j (.row (.slice A n c) e T.sz n (zbV T (its.set i q)))) R → Frm [g] w w' → K (a.put o.dst undef) w') : o.wp P a w K Q := by
 subst hA hn hpa
 have hj := hj0
 have hx := hx0
 have h : ∀ w', Sep X G w0 w' (L.set j (.row (.slice (some ⟨g, 0, none⟩) (its.set i q).length c) e T.sz (its.set i q).length (zbV T (its.set i q)))) R → Frm [g] w w' → K (a.put o.dst undef) w' := fun w' h2 h3 => h0 w' (by rwa [List.length_set] at h2) h3
 have hown : w.ownsRow 0 e T.sz (.slice (some ⟨g, 0, none⟩) its.length c) its.length (zbV T its) := H.holds _ (List.mem_of_getElem? hj)
 obtain ⟨hlen, hcase⟩ := hown
 rcases hcase with ⟨e1, _⟩ | ⟨g', cap, cur, e1, _, hh, hle, hmax, hsz, htk⟩
 ·cases e1
 injection e1 with e1 _ e3
 injection e1 with e1
 injection e1 with e1
 subst e1 e3
 have hil : i < its.length := (List.getElem?_eq_some_iff.1 hi).1
 obtain ⟨h2, h3⟩ := zhI _ _ _ _ hp
 rw [T.len] at h3
 have hb1 : i * T.sz + T.sz ≤ its.length * T.sz := by rw [← Nat.succ_mul]; exact Nat.mul_le_mul_right _ hil
 have hb2 : its.length * T.sz ≤ c * T.sz := Nat.mul_le_mul_right _ hle
 have hx' : ev l x = some (.pointer (some ⟨g, i * T.sz + off, none⟩)) := by rw [hx, zck, zck, Nat.zero_add]
 have h4 := run_storeCells_at P g (i * T.sz + off) e (cl new) 0 cur w hh (by rw [za6, hsz]; omega) (zft h1)
 unfold zdr at hs
 rw [Option.map_eq_some_iff] at hs
 obtain ⟨ti, hti, hsz2⟩ := hs
 rw [Nat.add_zero] at h4
 have hrun : (storeVar ty ⟨g, i * T.sz + off, none⟩ v).run P w = .ok () (w.setRow g (cur.toList.take (i * T.sz + off) ++ cl new ++ cur.toList.drop (i * T.sz + off + (cl new).length)).toArray) := by
  unfold storeVar
  simp only [sizeOf, typeInfo, Sem.run_bind, hv, zcT]
  simp [hti, hsz2]
  simpa [ca] using h4
 have hr := zcb ho (E.ev hx') (E.ev hy) hrun
 unfold Oper.wp
 rw [hr]
 have hset := zpb its i p q off new hi hp
 refine h _ (H.turnAt (q' := .row (.slice (some ⟨g, 0, none⟩) (its.set i q).length c) e T.sz (its.set i q).length (zbV T (its.set i q))) j hj (zcc g _ w) ⟨by rw [zdv], .inr ⟨g, c, _, rfl, Nat.zero_le _, zeQ hh, by simp; omega, hmax, ?_, ?_⟩⟩ (by simp [Res.keys, Value.ownBlock]) (by simp [Res.keys, Value.ownBlock]) rfl) (zcc g _ w)
 ·simp [za6, hsz]
  omega
 ·rw [hset]
  simp only [List.length_set]
  have hcl : (cl new).length = zdq new := za6 new
  rw [hcl]
  have hcurl : cur.toList.length = c * T.sz := by simp [hsz]
  rw [← htk, List.take_take, List.drop_take]
  rw [List.take_append, List.take_append, List.take_of_length_le (l := cur.toList.take (i * T.sz + off)) (by simp; omega), List.length_take, hcurl]
  rw [show min (i * T.sz + off) (c * T.sz) = i * T.sz + off by omega, List.take_of_length_le (l := cl new) (by rw [hcl]; omega), jQ, List.length_take, hcurl, hcl]
  rw [show min (i * T.sz + off) (c * T.sz) = i * T.sz + off by omega, show min (i * T.sz + off) (its.length * T.sz) = i * T.sz + off by omega]
end
end
section
open Go.RowKit
section
variable {P : Program} {ops : Array Oper} {rest : List Oper} {o : Oper} {a : Act} {w ws : World} {Q : Exit → Act → World → Prop} {N d : Nat} {l : List (Nat × Value)} {v : Value} {S : Nat → Prop} {T : Act → World → Prop} {p : List (Oper × Bool)}
 {X G D : List Nat} {w0 : World} {L : List Res} {R : List (World → Prop)}
theorem zCO (E : Env a N l) (hd : o.dst = some d) (hN : Nat.blt d N = true) (h : ∀ a', Env a' N ((d, v) :: l) → wpList P ops Q rest a' w) : wpList P ops Q rest (a.put o.dst v) w := h _ (by rw [hd]; exact E.put hN)
theorem zCP (hd : o.dst = none) (h : wpList P ops Q rest a w) : wpList P ops Q rest (a.put o.dst v) w := by rw [hd]; exact h
theorem zk7 {g : Prop} {β : Bool} (E : Env a N l) (hv : zfQ l d = some (.bool β)) (ht : β = true → Env a N ((d, .bool true) :: l) → g) (hf : β = false → Env a N ((d, .bool false) :: l) → g) : g := by
 have key : ∀ b, β = b → Env a N ((d, .bool b) :: l) := fun b hb => E.sub fun i u hu => by
  simp only [zfQ] at hu
  cases hq : Nat.beq d i
  ·rw [hq] at hu; exact hu
  ·rw [hq] at hu
   have := Nat.eq_of_beq_eq_true hq
   subst this
   rw [hv, hb]
   exact hu
 cases hβ : β
 ·exact hf hβ (key _ hβ)
 ·exact ht hβ (key _ hβ)
end
theorem zv7 {z : Int} (h1 : -9223372036854775808 ≤ z) (h2 : z ≤ 9223372036854775807) : IntKind.i64.wrap z = z := IntWalk.i64_in z ⟨h1, h2⟩
theorem zq7 {z : Int} (h1 : 0 ≤ z) (h2 : z ≤ 18446744073709551615) : IntKind.u64.wrap z = z := by
 simp [IntKind.wrap, IntKind.bits, IntKind.signed]
 omega
theorem wU8 {z : Int} (h1 : 0 ≤ z) (h2 : z ≤ 255) : IntKind.u8.wrap z = z := by
 simp [IntKind.wrap, IntKind.bits, IntKind.signed]
 omega
end
section
open Go.RowKit
theorem zwu {K : Act → World → Prop} {Q : Exit → Act → World → Prop} {a : Act} {w : World} (h : K a w) : Exit.then K Q .normal a w := h
section
variable {K : Act → World → Prop} {Q : Exit → Act → World → Prop} {a : Act} {w : World} {i j : Nat}
theorem zhq (h : Q .ret a w) : Exit.then K Q .ret a w := h
theorem zfW (h : Q .ret a w) : Exit.inBlock i Q .ret a w := h
theorem zsp (h : Q (.exit i) a w) : Exit.then K Q (.exit i) a w := h
theorem zsq (h : Q .normal a w) : Exit.inBlock i Q (.exit i) a w := by
 show (if i = i then _ else _)
 rw [if_pos rfl]
 exact h
theorem zq8 (hne : j ≠ i) (h : Q (.exit j) a w) : Exit.inBlock i Q (.exit j) a w := by
 show (if j = i then _ else _)
 rw [if_neg hne]
 exact h
end
def zn0 : List Nat → List (Nat × Value) → List (Nat × Value)
 | [], _ => []
 | i :: is, l => match zfQ l i with
  | some v => (i, v) :: zn0 is l
  | none => zn0 is l
theorem zhL (l : List (Nat × Value)) : ∀ is, Sub l (zn0 is l)
 | [] => trivial
 | i :: is => by
  unfold zn0
  cases h : zfQ l i with
  | none => exact zhL l is
  | some v => exact ⟨h, zhL l is⟩
theorem Sub.app {l a b : List (Nat × Value)} (h1 : Sub l a) (h2 : Sub l b) : Sub l (a ++ b) := by
 induction a with
 | nil => exact h2
 | cons p a ih => exact ⟨h1.1, ih h1.2⟩
section
variable {P : Program} {a : Act} {w : World} {Q : Exit → Act → World → Prop} {N : Nat} {l : List (Nat × Value)} {X G : List Nat} {w0 : World} {L : List Res} {R : List (World → Prop)} {c : Code} {γ : Type}
theorem zzI (live : List Nat) (var : γ → List (Nat × Value)) (Lf : γ → List Res) (Rf : γ → List (World → Prop)) (φ : γ → Prop) (μ : γ → Nat) (g0 : γ) (E : Env a N l) (H : Sep X G w0 w (Lf g0) (Rf g0)) (h0 : Sub l (var g0)) (hφ : φ g0)
  (round : ∀ g a w, Env a N (var g ++ zn0 live l) → Sep X G w0 w (Lf g) (Rf g) → φ g → c.wp P (Exit.then (fun a' w' => ∃ g', (Env a' N (var g' ++ zn0 live l) ∧ Sep X G w0 w' (Lf g') (Rf g') ∧ φ g') ∧ μ g' < μ g) Q) a w) : (Code.loop c).wp P Q a w :=
 zsj (fun g a w => Env a N (var g ++ zn0 live l) ∧ Sep X G w0 w (Lf g) (Rf g) ∧ φ g) μ g0 ⟨E.to (h0.app (zhL l live)), H, hφ⟩ fun g a w h => round g a w h.1 h.2.1 h.2.2
end
end
section
open Go.RowKit
section
variable {P : Program} {o : Oper} {a : Act} {w ws : World} {N : Nat} {l : List (Nat × Value)} {v : Value} {S : Nat → Prop} {X G : List Nat} {w0 : World} {L : List Res} {R : List (World → Prop)}
theorem zsr {t : Nat} (h : zv6 P t = true) : ∃ e, P.underlying t = some (.slice e) := by
 unfold zv6 at h
 split at h
 ·rename_i e he; exact ⟨e, he⟩
 ·cases h
theorem zwv {t u : TypeId} {x y : Operand} {A : Option Addr} {n c n' c' : Nat} (ho : o.op = .binOp .eql t x y u) (hx : ev l x = some (.slice A n c)) (hy : ev l y = some (.slice none n' c')) (ht : zv6 P t = true) : PK P S ws l o (.bool A.isNone) := fun w' _ a N E => by
 obtain ⟨e, he⟩ := zsr ht
 unfold execOp; rw [ho]
 simp only [E.ev hx, E.ev hy, Sem.run_bind]
 have h1 : (eqGuard .eql t x y (.slice A n c) (.slice none n' c')).run P w' = .ok () w' := rfl
 simp only [h1, Result.andThen_ok, Lib.run_eql_slice_nil w' t e A n c n' c' he, Sem.run_pure]
theorem zss : ∀ {L : List Res}, (zad L).Nodup → ∀ (i j : Nat) (q q' : Res), L[i]? = some q → L[j]? = some q' → i ≠ j → ∀ k ∈ q.keys, k ∉ q'.keys
 | [], _, i, j, q, q', hi, _, _, _, _ => by simp at hi
 | x :: L, h, i, j, q, q', hi, hj, hne, k, hk => by
  have hap := List.nodup_append.1 h
  cases i with
  | zero =>
   obtain rfl : x = q := by simpa using hi
   cases j with
   | zero => exact absurd rfl hne
   | succ j => exact fun hm => hap.2.2 k hk k (zbL.2 ⟨q', List.mem_of_getElem? (by simpa using hj), hm⟩) rfl
  | succ i =>
   cases j with
   | zero =>
    obtain rfl : x = q' := by simpa using hj
    exact fun hm => hap.2.2 k hm k (zbL.2 ⟨q, List.mem_of_getElem? (by simpa using hi), hk⟩) rfl
   | succ j => exact zss hap.2.1 i j q q' (by simpa using hi) (by simpa using hj) (by omega) k hk
theorem Sep.neq (H : Sep X G w0 ws L R) (i j : Nat) {b b' t t' : Nat} {c c' : Array Value} (hi : L[i]? = some (.blk b c t)) (hj : L[j]? = some (.blk b' c' t')) (hij : i ≠ j) : b ≠ b' := fun e => by
 have := zss H.apart i j _ _ hi hj hij b (by simp [Res.keys])
 exact this (by simp [Res.keys, e])
theorem zst {α : Type} {T : Ty α} {its : List (α × T.μ)} {q : α × T.μ} {Y : List Nat} (h : St (zgG T its) w Y) (hq : St (T.nest q.1 q.2) w Y) : St (zgG T (its ++ [q])) w Y := fun w' hk p hp => by
 rcases List.mem_append.1 hp with h1 | h1
 ·exact h w' hk p h1
 ·rw [List.mem_singleton.1 h1]; exact hq w' hk
theorem zpd {α : Type} {T : Ty α} {a b : List (α × T.μ)} {Y : List Nat} (h : St (zgG T a) w Y) (h' : St (zgG T b) w Y) : St (zgG T (a ++ b)) w Y := fun w' hk p hp => by
 rcases List.mem_append.1 hp with h1 | h1
 ·exact h w' hk p h1
 ·exact h' w' hk p h1
theorem zdw {α : Type} {T : Ty α} {Y : List Nat} : St (zgG T []) w Y := fun _ _ _ h => by cases h
end
end
section
end
section
section
variable {X G D : List Nat} {w0 w ws : World} {L : List Res} {R : List (World → Prop)}
end
end
section
theorem Sep.keepLR {X G : List Nat} {w0 w : World} {L L' : List Res} {R R' : List (World → Prop)} (H : Sep X G w0 w (L ++ L') (R ++ R')) : Sep X G w0 w L R := by
 have h1 : Sep X G w0 w (L ++ L') R := H.sub fun r hr => List.mem_append_left _ hr
 have h2 : Sep X G w0 w (L' ++ L) R := h1.perm List.perm_append_comm
 clear H h1
 induction L' with
 | nil => exact h2
 | cons q L' ih => exact ih h2.popL
end
section
theorem Sep.refacts {X G : List Nat} {w0 w : World} {L : List Res} {R R' : List (World → Prop)} (H : Sep X G w0 w L R) (hf : ∀ r ∈ R', St r w (X ++ zad L)) : Sep X G w0 w L R' := ⟨H.frm, H.xlt, H.holds, H.apart, H.mine, hf⟩
end
section
section
variable {X G : List Nat} {w0 w w1 : World} {L L1 : List Res} {R R1 : List (World → Prop)} {q : Res}
theorem Sep.callG (H : Sep X G w0 w (q :: L) R) (H1 : Sep (X ++ zad L) q.keys w w1 L1 R1) : Sep X G w0 w1 (L1 ++ L) (R1 ++ R) := by
 have hap := List.nodup_append.1 H.apart
 have hs := H.frm.size
 have keep : ∀ k ∈ zad L, w1.heap[k]? = w.heap[k]? := fun k hk => H1.frm.block k (H.lt k (List.mem_append_right _ hk)) fun hm => hap.2.2 k hm k hk rfl
 refine ⟨H.frm.trans H1.frm fun k hk => H.mine k (List.mem_append_left _ hk), H.xlt, fun r hr => ?_, ?_, fun k hk => ?_, fun r hr => ?_⟩
 ·rcases List.mem_append.1 hr with h | h
  ·exact H1.holds r h
  ·exact zbx (H.holds r (List.mem_cons_of_mem _ h)) fun k hk => keep k (zbL.2 ⟨r, h, hk⟩)
 ·rw [zak]
  refine List.nodup_append.2 ⟨H1.apart, hap.2.1, fun a ha b hb e => ?_⟩
  subst e
  rcases H1.mine a ha with h | h
  ·exact hap.2.2 a h a hb rfl
  ·have := H.lt a (List.mem_append_right _ hb)
   omega
 ·rw [zak] at hk
  rcases List.mem_append.1 hk with h | h
  ·rcases H1.mine k h with h2 | h2
   ·exact H.mine k (List.mem_append_left _ h2)
   ·exact .inr (jU hs h2)
  ·exact H.mine k (List.mem_append_right _ h)
 ·rw [zak]
  rcases List.mem_append.1 hr with h | h
  ·refine (H1.facts r h).mono fun k hk => ?_
   simp only [List.mem_append] at hk ⊢
   rcases hk with h3 | h3 | h3
   ·exact .inl (.inl h3)
   ·exact .inr h3
   ·exact .inl (.inr h3)
  ·refine (H.facts r h).step H1.frm.size (fun k hk hn => H1.frm.block k hk fun hm => hn (List.mem_append_right _ (List.mem_append_left _ hm))) fun k hk => ?_
   simp only [List.mem_append] at hk
   rcases hk with h3 | h3 | h3
   ·exact .inl (List.mem_append_left _ h3)
   ·rcases H1.mine k h3 with h4 | h4
    ·exact .inl (List.mem_append_right _ (List.mem_append_left _ h4))
    ·exact .inr h4
   ·exact .inl (List.mem_append_right _ (List.mem_append_right _ h3))
end
end
section
theorem zsu {w : World} {b e sz n c : Nat} {A : Option Addr} {xs : List Value} (h : w.ownsRow b e sz (.slice A n c) n xs) : n ≤ c := by
 rcases h.2 with ⟨e1, e2⟩ | ⟨g, cap, cur, e1, _, _, h2, _⟩
 ·omega
 ·injection e1 with _ _ e3; omega
end
section
section
variable {P : Program} {o : Oper} {ws : World} {l : List (Nat × Value)} {S : Nat → Prop}
theorem zyS {ts : Array TypeId} {x y : Operand} {k : IntKind} {m n : Int} (ho : o.op = .call { callee := .builtin .min, args := #[x, y], argTypes := ts }) (hx : ev l x = some (.int k m)) (hy : ev l y = some (.int k n)) : PK P S ws l o (.int k (min m n)) := fun w' _ a N E => by
 unfold execOp; rw [ho]
 simp only [resolve, Sem.run_bind, Sem.run_pure, Result.andThen_ok, List.map_toArray, List.map_cons, List.map_nil, E.ev hx, E.ev hy, invoke, builtin, run_min_int2]
 rw [show (if n < m then n else m) = min m n from by rw [Int.min_def]; split <;> split <;> omega]
theorem zCQ {ts : Array TypeId} {x y : Operand} {k : IntKind} {m n : Int} (ho : o.op = .call { callee := .builtin .max, args := #[x, y], argTypes := ts }) (hx : ev l x = some (.int k m)) (hy : ev l y = some (.int k n)) : PK P S ws l o (.int k (max m n)) := fun w' _ a N E => by
 unfold execOp; rw [ho]
 simp only [resolve, Sem.run_bind, Sem.run_pure, Result.andThen_ok, List.map_toArray, List.map_cons, List.map_nil, E.ev hx, E.ev hy, invoke, builtin, run_max_int2]
 rw [show (if n > m then n else m) = max m n from by rw [Int.max_def]; split <;> split <;> omega]
end
section
variable {P : Program} {ops : Array Oper} {Q : Exit → Act → World → Prop} {rest : List Oper} {o : Oper} {a : Act} {w : World} {N d : Nat} {l : List (Nat × Value)} {v : Value} {K : Act → World → Prop} {X G : List Nat} {w0 : World} {L L' : List Res} {R : List (World → Prop)}
theorem Vv (E : Env a N l) (hv : PK P zgD w l o v) (h : ∀ a', Env a' N ((d, v) :: l) → wpList P ops Q rest a' w) (hg : gd ops l o = some true := by rfl) (hd : o.dst = some d := by rfl) (hN : Nat.blt d N = true := by rfl) : wpList P ops Q (o :: rest) a w := zEP E hv hg hd hN h
theorem Ve (E : Env a N l) (h : o.wp P a w (fun a' w' => wpList P ops Q rest a' w') Q) (hg : gd ops l o = some true := by rfl) : wpList P ops Q (o :: rest) a w := zEQ E hg fun K hK => Oper.wp_mono hK h
theorem Vp (E : Env a N l) (h : ∀ a', Env a' N ((d, v) :: l) → wpList P ops Q rest a' w) (hd : o.dst = some d := by rfl) (hN : Nat.blt d N = true := by rfl) : wpList P ops Q rest (a.put o.dst v) w := zCO E hd hN h
theorem Vc {f : FuncId} {x : Operand} {xs : Array Operand} {ts : Array TypeId} {fs cs : Array Value} {vs : List Value} (E : Env a N l)
  (h : Calls P f (fs ++ vs.toArray ++ cs) w fun
   | .returned v, w'' => K (a.put o.dst v) w''
   | .panicked chain, w'' => Q (.panic chain) a w''
   | .outgrown, _ => LetsOut Q) (ho : o.op = .call { callee := .value x, args := xs, argTypes := ts } := by rfl) (hx : ev l x = some (.func (.func f) fs cs) := by rfl) (hargs : evs l xs.toList = some vs := by rfl) (hf : fnB P f = true := by kernel_rfl) : o.wp P a w K Q := zjK E ho hx hargs hf h
theorem Wa {ty : TypeId} {z : List Chunk} (E : Env a N l) (H : Sep X G w0 w L R) (h : ∀ b w' a', Sep X G w0 w' (.blk b (ca z) ty :: L) R → Env a' N ((d, .pointer (some ⟨b, 0, none⟩)) :: l) → wpList P ops Q rest a' w') (ho : o.op = .alloc ty := by rfl) (hz : zep P ty = some (ca z) := by kernel_rfl) (hd : o.dst = some d := by rfl) (hN : Nat.blt d N = true := by rfl) (hg : gd ops l o = some true := by rfl) : wpList P ops Q (o :: rest) a w :=
 Ve E (zsf H ho hz fun b w' H' _ => zCO E hd hN fun a' E' => h b w' a' H' E') hg
theorem Ws {ty b t off : Nat} {cs new cs' : List Chunk} {x y : Operand} (i : Nat) (E : Env a N l) (H : Sep X G w0 w L R) (h : ∀ w', Sep X G w0 w' L' R → wpList P ops Q rest a w') (ho : o.op = .store ty x y := by rfl) (hx : ev l x = some (.pointer (some ⟨b, off, none⟩)) := by rfl) (hy : ev l y = some v := by rfl) (hv : v.cells = ca new := by rfl) (hi : L[i]? = some (.blk b (ca cs) t) := by rfl) (h1 : zo9 new := by repeat (first | exact trivial | refine ⟨rfl, ?_⟩ | refine ⟨fun _ _ => rfl, ?_⟩)) (hp : ziX cs off new = some cs' := by rfl) (hs : zdr P ty = some (zdq new) := by kernel_rfl)
  (hL : L.set i (.blk b (ca cs') t) = L' := by rfl) (hd : o.dst = none := by rfl) (hg : gd ops l o = some true := by rfl) : wpList P ops Q (o :: rest) a w := Ve E (zsg i E H ho hx hy hv hi h1 hp hs hL fun w' H' _ => zCP hd (h w' H')) hg
theorem Vr {id : Nat} {lo : List Oper} {y : Code} (h : wpList P lo.toArray (Exit.then (y.wp P Q) Q) lo a w) : (Code.seq (Code.region id lo.toArray false) y).wp P Q a w := wp_seq (zjL h)
theorem Vn {T : Act → World → Prop} (h : T a w) : wpList P ops (Exit.then T Q) [] a w := h
end
section
variable {P : Program} {o : Oper} {w : World} {l : List (Nat × Value)} {v : Value} {S : Nat → Prop} {X G : List Nat} {w0 : World} {L : List Res} {R : List (World → Prop)}
theorem pko {b t off ty : Nat} {cs : List Chunk} {x : Operand} (H : Sep X G w0 w L R) (i : Nat) (ho : o.op = .load ty x := by rfl) (hx : ev l x = some (.pointer (some ⟨b, off, none⟩)) := by rfl) (hi : L[i]? = some (.blk b (ca cs) t) := by rfl) (hp : ziW cs off 1 = some [.one v] := by rfl) (ht : tyK P ty = some (1, false) := by kernel_rfl) : PK P zgD w l o v := zwp H i ho hx hi trivial hp ht
theorem pkn {t : TypeId} {x : Operand} {A : Option Addr} {n c : Nat} (ho : o.op = .call { callee := .builtin .len, args := #[x], argTypes := #[t] } := by rfl) (hx : ev l x = some (.slice A n c) := by rfl) (ht : zv6 P t = true := by kernel_rfl) : PK P S w l o (.int .i64 n) := zyQ ho hx ht
theorem pki {op : BinOp} {t u : TypeId} {x y : Operand} {k : IntKind} {m n : Int} (ho : o.op = .binOp op t x y u := by rfl) (hx : ev l x = some (.int k m) := by rfl) (hy : ev l y = some (.int k n) := by rfl) (hr : zen op k m n = some v := by rfl) : PK P S w l o v := zo3 ho hx hy hr
theorem pkm {x : Operand} (ho : o.op = .move x := by rfl) (hx : ev l x = some v := by rfl) : PK P S w l o v := zsb ho hx
theorem pka {x : Operand} (ho : o.op = .assign x := by rfl) (hx : ev l x = some v := by rfl) : PK P S w l o v := zk5 ho hx
theorem pkx {x : Operand} {i : Nat} {vs : Array Value} (ho : o.op = .extract x i := by rfl) (hx : ev l x = some (.tuple vs) := by rfl) (hn : zv5 vs.toList i = some v := by rfl) : PK P S w l o v := zi7 ho hx hn
end
end
section
open Go.RowKit
inductive SP where
 | v (x : Value)
 | at_ (i off : Nat)
 | sl (i off n c : Nat)
 | hd (i n : Nat)
 | hp (i j sz off : Nat)
 | ap (i off j sz : Nat)
inductive SS where
 | p (x : SP)
 | fn (f : Fn) (fs cs : List SP)
inductive SC where
 | one (x : SS)
 | key (l : List Nat)
 | row (n : Nat) (f : Nat → Value)
inductive SA where
 | s (x : SS)
 | agg (cs : List SC)
inductive SV where
 | a (x : SA)
 | tup (xs : List SA)
structure Hn where
 b : Nat → Nat
 r : Nat → Option Addr × Nat
 q : Nat → Nat → List (Option Addr × Nat)
def SP.den (h : Hn) : SP → Value
 | .v x => x
 | .at_ i off => .pointer (some ⟨h.b i, off, none⟩)
 | .sl i off n c => .slice (some ⟨h.b i, off, none⟩) n c
 | .hd i n => .slice (h.r i).1 n (h.r i).2
 | .hp i j sz off => .pointer (some ((((h.r i).1.getD ⟨0, 0, none⟩).add (j * sz)).add off))
 | .ap i off j sz => .pointer (some ⟨h.b i, off + j * sz, none⟩)
def zhh (h : Hn) : List SP → List Value
 | [] => []
 | x :: xs => x.den h :: zhh h xs
def SS.den (h : Hn) : SS → Value
 | .p x => x.den h
 | .fn f fs cs => .func f (zhh h fs).toArray (zhh h cs).toArray
def SC.den (h : Hn) : SC → Chunk
 | .one x => .one (x.den h)
 | .key l => .key l
 | .row n f => .row n f
def zaD (h : Hn) : List SC → List Chunk
 | [] => []
 | x :: xs => x.den h :: zaD h xs
def SA.den (h : Hn) : SA → Value
 | .s x => x.den h
 | .agg cs => .agg (ca (zaD h cs))
def zjN (h : Hn) : List SA → List Value
 | [] => []
 | x :: xs => x.den h :: zjN h xs
def SV.den (h : Hn) : SV → Value
 | .a x => x.den h
 | .tup xs => .tuple (zjN h xs).toArray
def zcd (h : Hn) : List (Nat × SV) → List (Nat × Value)
 | [] => []
 | (d, x) :: l => (d, x.den h) :: zcd h l
inductive RB where
 | gone
 | blk (cs : List SC) (t : TypeId)
 | row (e sz n : Nat) (xs : (Nat → List (Option Addr × Nat)) → List Value)
abbrev MB := List (Nat × RB)
def zaX (i : Nat) : List Nat → Bool
 | [] => false
 | j :: s => bif Nat.beq i j then true else zaX i s
def RB.den (h : Hn) (i : Nat) : RB → List Res
 | .gone => []
 | .blk cs t => [.blk (h.b i) (ca (zaD h cs)) t]
 | .row e sz n xs => [.row (.slice (h.r i).1 n (h.r i).2) e sz n (xs (h.q i))]
def zae (h : Hn) : List Nat → MB → List Res
 | _, [] => []
 | s, (i, .gone) :: m => bif zaX i s then zae h s m else zae h (i :: s) m
 | s, (i, .blk cs t) :: m => bif zaX i s then zae h s m else .blk (h.b i) (ca (zaD h cs)) t :: zae h (i :: s) m
 | s, (i, .row e sz n xs) :: m => bif zaX i s then zae h s m else .row (.slice (h.r i).1 n (h.r i).2) e sz n (xs (h.q i)) :: zae h (i :: s) m
def zdN (h : Hn) : Nat → List RB → List Res
 | _, [] => []
 | i, q :: rs => q.den h i ++ zdN h (i + 1) rs
def zhi : Nat → List RB → MB → MB
 | _, [], m => m
 | k, q :: rs, m => zhi (k + 1) rs ((k, q) :: m)
def zaA : MB → Nat → Option RB
 | [], _ => none
 | (j, q) :: m, i => bif Nat.beq j i then some q else zaA m i
inductive SF where
 | c (r : World → Prop)
 | h (i : Nat) (f : Option Addr × Nat → World → Prop)
 | sl (i n : Nat) (f : Option Addr × Nat → World → Prop)
 | b (i : Nat) (f : Nat → World → Prop)
 | q (i : Nat) (f : (Nat → List (Option Addr × Nat)) → World → Prop)
 | blk (i : Nat) (cs : List SC)
 | nm (i : Nat) (f : Nat → Option Addr × Nat → (Nat → List (Option Addr × Nat)) → World → Prop)
def SF.den (h : Hn) : SF → World → Prop
 | .c r => r
 | .h i f => f (h.r i)
 | .sl i n f => fun w => ((h.r i).1 = none → n = 0) ∧ f (h.r i) w
 | .b i f => f (h.b i)
 | .q i f => f (h.q i)
 | .nm i f => f (h.b i) (h.r i) (h.q i)
 | .blk i cs => AtC ⟨h.b i, 0, none⟩ (zaD h cs)
def zaT (h : Hn) : List SF → List (World → Prop)
 | [] => []
 | x :: xs => x.den h :: zaT h xs
def SP.wf (S : Nat → Bool) : SP → Bool
 | .v _ => true
 | .at_ i _ => S i
 | .sl i _ _ _ => S i
 | .hd i _ => S i
 | .hp i _ _ _ => S i
 | .ap i _ _ _ => S i
def wfP (S : Nat → Bool) : List SP → Bool
 | [] => true
 | x :: xs => bif x.wf S then wfP S xs else false
def SS.wf (S : Nat → Bool) : SS → Bool
 | .p x => x.wf S
 | .fn _ fs cs => bif wfP S fs then wfP S cs else false
def SC.wf (S : Nat → Bool) : SC → Bool
 | .one x => x.wf S
 | .key _ => true
 | .row _ _ => true
def wfC (S : Nat → Bool) : List SC → Bool
 | [] => true
 | x :: xs => bif x.wf S then wfC S xs else false
def SA.wf (S : Nat → Bool) : SA → Bool
 | .s x => x.wf S
 | .agg cs => wfC S cs
def wfT (S : Nat → Bool) : List SA → Bool
 | [] => true
 | x :: xs => bif x.wf S then wfT S xs else false
def SV.wf (S : Nat → Bool) : SV → Bool
 | .a x => x.wf S
 | .tup xs => wfT S xs
def wfE (S : Nat → Bool) : List (Nat × SV) → Bool
 | [] => true
 | (_, x) :: l => bif x.wf S then wfE S l else false
def RB.wf (S : Nat → Bool) : RB → Bool
 | .gone => true
 | .blk cs _ => wfC S cs
 | .row _ _ _ _ => true
def wfM (S : Nat → Bool) : MB → Bool
 | [] => true
 | (i, q) :: m => bif S i then (bif q.wf S then wfM S m else false) else false
def wfN (S : Nat → Bool) : Nat → List RB → Bool
 | _, [] => true
 | k, q :: rs => bif S k then (bif q.wf S then wfN S (k + 1) rs else false) else false
def SF.wf (S : Nat → Bool) : SF → Bool
 | .c _ => true
 | .h i _ => S i
 | .sl i _ _ => S i
 | .b i _ => S i
 | .q i _ => S i
 | .nm i _ => S i
 | .blk i cs => bif S i then wfC S cs else false
def wfR (S : Nat → Bool) : List SF → Bool
 | [] => true
 | x :: xs => bif x.wf S then wfR S xs else false
def AgS (S : Nat → Bool) (h h' : Hn) : Prop := ∀ i, S i = true → h'.b i = h.b i ∧ h'.r i = h.r i ∧ h'.q i = h.q i
section
variable {S : Nat → Bool} {h h' : Hn}
theorem zab {b c : Bool} (hh : (bif b then c else false) = true) : b = true ∧ c = true := by cases b <;> simp_all
theorem SP.same (ha : AgS S h h') {x : SP} (hw : x.wf S = true) : x.den h' = x.den h := by
 cases x with
 | v x => rfl
 | at_ i off => simp only [SP.den, (ha i hw).1]
 | sl i off n c => simp only [SP.den, (ha i hw).1]
 | hd i n => simp only [SP.den, (ha i hw).2.1]
 | hp i j sz off => simp only [SP.den, (ha i hw).2.1]
 | ap i off j sz => simp only [SP.den, (ha i hw).1]
theorem zhM (ha : AgS S h h') : ∀ {xs : List SP}, wfP S xs = true → zhh h' xs = zhh h xs
 | [], _ => rfl
 | x :: xs, hw => by unfold zhh; rw [SP.same ha (zab hw).1, zhM ha (zab hw).2]
theorem SS.same (ha : AgS S h h') {x : SS} (hw : x.wf S = true) : x.den h' = x.den h := by
 cases x with
 | p x => exact SP.same ha hw
 | fn f fs cs => simp only [SS.den, zhM ha (zab hw).1, zhM ha (zab hw).2]
theorem SC.same (ha : AgS S h h') {x : SC} (hw : x.wf S = true) : x.den h' = x.den h := by
 cases x with
 | one x => simp only [SC.den, SS.same ha hw]
 | key l => rfl
 | row n f => rfl
theorem zdb (ha : AgS S h h') : ∀ {xs : List SC}, wfC S xs = true → zaD h' xs = zaD h xs
 | [], _ => rfl
 | x :: xs, hw => by unfold zaD; rw [SC.same ha (zab hw).1, zdb ha (zab hw).2]
theorem SA.same (ha : AgS S h h') {x : SA} (hw : x.wf S = true) : x.den h' = x.den h := by
 cases x with
 | s x => exact SS.same ha hw
 | agg cs => simp only [SA.den, zdb ha hw]
theorem zk8 (ha : AgS S h h') : ∀ {xs : List SA}, wfT S xs = true → zjN h' xs = zjN h xs
 | [], _ => rfl
 | x :: xs, hw => by unfold zjN; rw [SA.same ha (zab hw).1, zk8 ha (zab hw).2]
theorem SV.same (ha : AgS S h h') {x : SV} (hw : x.wf S = true) : x.den h' = x.den h := by
 cases x with
 | a x => exact SA.same ha hw
 | tup xs => simp only [SV.den, zk8 ha hw]
theorem zk9 (ha : AgS S h h') : ∀ {l : List (Nat × SV)}, wfE S l = true → zcd h' l = zcd h l
 | [], _ => rfl
 | (d, x) :: l, hw => by unfold zcd; rw [SV.same ha (zab hw).1, zk9 ha (zab hw).2]
theorem RB.same (ha : AgS S h h') {i : Nat} (hi : S i = true) {q : RB} (hw : q.wf S = true) : q.den h' i = q.den h i := by
 cases q with
 | gone => rfl
 | blk cs t => simp only [RB.den, (ha i hi).1, zdb ha hw]
 | row e sz n xs => simp only [RB.den, (ha i hi).2.1, (ha i hi).2.2]
theorem zap (h : Hn) (s : List Nat) (i : Nat) (q : RB) (m : MB) : zae h s ((i, q) :: m) = bif zaX i s then zae h s m else q.den h i ++ zae h (i :: s) m := by
 cases q <;> simp only [zae, RB.den] <;> cases zaX i s <;> rfl
theorem zaL (ha : AgS S h h') : ∀ {m : MB} {s : List Nat}, wfM S m = true → zae h' s m = zae h s m
 | [], _, _ => rfl
 | (i, q) :: m, s, hw => by
  have h1 := zab hw
  have h2 := zab h1.2
  rw [zap, zap, RB.same ha h1.1 h2.1, zaL ha h2.2, zaL ha h2.2]
theorem zfX (ha : AgS S h h') : ∀ {rs : List RB} {k : Nat}, wfN S k rs = true → zdN h' k rs = zdN h k rs
 | [], _, _ => rfl
 | q :: rs, k, hw => by
  have h1 := zab hw
  have h2 := zab h1.2
  rw [zdN, zdN, RB.same ha h1.1 h2.1, zfX ha h2.2]
theorem za3 (ha : AgS S h h') : ∀ {R : List SF}, wfR S R = true → zaT h' R = zaT h R
 | [], _ => rfl
 | .c r :: R, hw => by unfold zaT; rw [za3 ha (zab hw).2]; rfl
 | .h i f :: R, hw => by simp only [zaT, SF.den, (ha i (zab hw).1).2.1, za3 ha (zab hw).2]
 | .sl i n f :: R, hw => by simp only [zaT, SF.den, (ha i (zab hw).1).2.1, za3 ha (zab hw).2]
 | .b i f :: R, hw => by simp only [zaT, SF.den, (ha i (zab hw).1).1, za3 ha (zab hw).2]
 | .q i f :: R, hw => by simp only [zaT, SF.den, (ha i (zab hw).1).2.2, za3 ha (zab hw).2]
 | .blk i cs :: R, hw => by
  have h1 := zab (zab hw).1
  simp only [zaT, SF.den, (ha i h1.1).1, zdb ha h1.2, za3 ha (zab hw).2]
 | .nm i f :: R, hw => by simp only [zaT, SF.den, (ha i (zab hw).1).1, (ha i (zab hw).1).2.1, (ha i (zab hw).1).2.2, za3 ha (zab hw).2]
end
theorem zax {i : Nat} : ∀ {s : List Nat}, zaX i s = true ↔ i ∈ s
 | [] => by simp [zaX]
 | j :: s => by
  unfold zaX
  cases hb : Nat.beq i j with
  | true => have := Nat.eq_of_beq_eq_true hb; simp [this]
  | false =>
   have : i ≠ j := fun e => by rw [e, Nat.beq_refl] at hb; cases hb
   simp [this, zax (s := s)]
theorem zq9 {i : Nat} {s s' : List Nat} (hs : ∀ j, j ∈ s ↔ j ∈ s') : zaX i s = zaX i s' := by
 rw [Bool.eq_iff_iff, zax, zax]; exact hs i
theorem zcK (h : Hn) : ∀ (m : MB) (s s' : List Nat), (∀ j, j ∈ s ↔ j ∈ s') → zae h s m = zae h s' m
 | [], s, s', _ => rfl
 | (i, q) :: m, s, s', hs => by
  rw [zap, zap, zq9 hs, zcK h m s s' hs, zcK h m (i :: s) (i :: s') fun j => by simp [hs j]]
theorem zce (h : Hn) : ∀ (m : MB) (s : List Nat) (k : Nat), (∀ p ∈ m, p.1 ≠ k) → zae h (k :: s) m = zae h s m
 | [], s, k, _ => rfl
 | (i, q) :: m, s, k, hk => by
  have hik : i ≠ k := hk _ (List.mem_cons_self ..)
  have e1 : zaX i (k :: s) = zaX i s := by rw [Bool.eq_iff_iff, zax, zax]; simp [hik]
  rw [zap, zap, e1, zce h m s k fun p hp => hk p (List.mem_cons_of_mem _ hp), zcK h m (i :: k :: s) (k :: i :: s) (fun j => by simp only [List.mem_cons]; exact or_left_comm), zce h m (i :: s) k fun p hp => hk p (List.mem_cons_of_mem _ hp)]
theorem zaM (h : Hn) : ∀ (m : MB) (s : List Nat) (i : Nat) (q : RB), zaA m i = some q → i ∉ s → (zae h s m).Perm (q.den h i ++ zae h (i :: s) m)
 | [], s, i, q, e, _ => by cases e
 | (j, p) :: m, s, i, q, e, hi => by
  unfold zaA at e
  rw [zap, zap]
  cases hb : Nat.beq j i with
  | true =>
   rw [hb] at e
   obtain rfl : p = q := Option.some.inj e
   obtain rfl : j = i := Nat.eq_of_beq_eq_true hb
   have h1 : zaX j s = false := by cases hq : zaX j s with | false => rfl | true => exact absurd (zax.1 hq) hi
   have h2 : zaX j (j :: s) = true := zax.2 (List.mem_cons_self ..)
   rw [h1, h2]
   exact List.Perm.refl _
  | false =>
   rw [hb] at e
   simp only [cond_false] at e
   have hji : j ≠ i := fun ee => by rw [ee, Nat.beq_refl] at hb; cases hb
   have e1 : zaX j (i :: s) = zaX j s := by rw [Bool.eq_iff_iff, zax, zax]; simp [hji]
   rw [e1]
   cases hq : zaX j s with
   | true => exact zaM h m s i q e hi
   | false =>
    have := zaM h m (j :: s) i q e (by simp [hi, Ne.symm hji])
    rw [zcK h m (i :: j :: s) (j :: i :: s) (fun k => by simp only [List.mem_cons]; exact or_left_comm)] at this
    simp only [cond_false]
    refine (List.Perm.append_left _ this).trans ?_
    rw [← List.append_assoc, ← List.append_assoc]
    exact List.Perm.append_right _ List.perm_append_comm
theorem zfm {S : Nat → Bool} : ∀ {m : MB}, wfM S m = true → ∀ p ∈ m, S p.1 = true
 | [], _, p, hp => by cases hp
 | q :: m, hw, p, hp => by
  rcases List.mem_cons.1 hp with rfl | hp
  ·exact (zab hw).1
  ·exact zfm (zab (zab hw).2).2 p hp
theorem zhN (h : Hn) : ∀ (rs : List RB) (k : Nat) (m : MB), (∀ p ∈ m, p.1 < k) → (zae h [] (zhi k rs m)).Perm (zae h [] m ++ zdN h k rs)
 | [], k, m, _ => by rw [zhi, zdN, List.append_nil]
 | q :: rs, k, m, hk => by
  rw [zhi, zdN]
  refine (zhN h rs (k + 1) ((k, q) :: m) fun p hp => ?_).trans ?_
  ·rcases List.mem_cons.1 hp with rfl | hp
   ·exact Nat.lt_succ_self _
   ·exact Nat.lt_succ_of_lt (hk p hp)
  ·rw [zap, show zaX k [] = false from rfl, cond_false, zce h m [] k fun p hp => Nat.ne_of_lt (hk p hp), ← List.append_assoc]
   exact List.Perm.append_right _ List.perm_append_comm
theorem zjO (h : Hn) : ∀ (R R' : List SF), zaT h (R ++ R') = zaT h R ++ zaT h R'
 | [], R' => rfl
 | r :: R, R' => by rw [List.cons_append, zaT, zaT, zjO h R R', List.cons_append]
def zbJ : List (Nat × SV) → Nat → Option SV
 | [], _ => none
 | (d, v) :: l, i => bif Nat.beq d i then some v else zbJ l i
def zeq (x : Value) : SV := .a (.s (.p (.v x)))
def evS (l : List (Nat × SV)) : Operand → Option SV
 | .tmp t => zbJ l t
 | .const v => some (.a (.s (.p (.v v))))
 | .global g => some (.a (.s (.p (.v (.pointer (some ⟨g, 0, none⟩))))))
 | .func f => some (.a (.s (.p (.v (.func (.func f) #[] #[])))))
def zww (l : List (Nat × SV)) : List Operand → Option (List SV)
 | [] => some []
 | x :: xs => match evS l x, zww l xs with
  | some v, some vs => some (v :: vs)
  | _, _ => none
def zkZ (h : Hn) : List SV → List Value
 | [] => []
 | x :: xs => x.den h :: zkZ h xs
theorem zaZ (h : Hn) : ∀ (l : List (Nat × SV)) (i : Nat) (x : SV), zbJ l i = some x → zfQ (zcd h l) i = some (x.den h)
 | [], i, x, hx => by cases hx
 | (d, v) :: l, i, x, hx => by
  unfold zbJ at hx
  unfold zcd zfQ
  cases hb : Nat.beq d i with
  | true => rw [hb] at hx; rw [← Option.some.inj hx]; rfl
  | false => rw [hb] at hx; exact zaZ h l i x hx
theorem zaf {h : Hn} {l : List (Nat × SV)} {x : Operand} {v : SV} (hx : evS l x = some v) : ev (zcd h l) x = some (v.den h) := by
 cases x with
 | tmp t => exact zaZ h l t v hx
 | const u => rw [← Option.some.inj hx]; rfl
 | global g => rw [← Option.some.inj hx]; rfl
 | func f => rw [← Option.some.inj hx]; rfl
theorem zn1 {h : Hn} {l : List (Nat × SV)} : ∀ {xs : List Operand} {vs : List SV}, zww l xs = some vs → evs (zcd h l) xs = some (zkZ h vs)
 | [], vs, hx => by rw [← Option.some.inj hx]; rfl
 | x :: xs, vs, hx => by
  unfold zww at hx
  cases h1 : evS l x with
  | none => rw [h1] at hx; cases hx
  | some v =>
   cases h2 : zww l xs with
   | none => rw [h1, h2] at hx; cases hx
   | some us =>
    rw [h1, h2] at hx
    rw [← Option.some.inj hx]
    unfold evs
    rw [zaf h1, zn1 h2]
    rfl
def SC.len : SC → Nat
 | .one _ => 1
 | .key _ => 32
 | .row n _ => n
def zfh : List SC → Nat
 | [] => 0
 | c :: cs => c.len + zfh cs
theorem SC.len_den (h : Hn) (c : SC) : (c.den h).len = c.len := by cases c <;> rfl
theorem zbf (h : Hn) : ∀ (cs : List SC), zdq (zaD h cs) = zfh cs
 | [] => rfl
 | c :: cs => by unfold zaD zdq zfh; rw [SC.len_den, zbf h cs]
def zjP : List SC → Nat → Option (List SC)
 | _, 0 => some []
 | [], _ + 1 => none
 | .one x :: cs, n + 1 => match zjP cs n with | some r => some (.one x :: r) | none => none
 | .key k :: cs, n + 1 => bif Nat.ble 31 n then (match zjP cs (n - 31) with | some r => some (.key k :: r) | none => none) else none
 | .row m f :: cs, n + 1 => bif Nat.ble m (n + 1) then (match zjP cs (n + 1 - m) with | some r => some (.row m f :: r) | none => none) else none
def zgH : List SC → Nat → Option (List SC)
 | cs, 0 => some cs
 | [], _ + 1 => none
 | .one _ :: cs, n + 1 => zgH cs n
 | .key _ :: cs, n + 1 => bif Nat.ble 31 n then zgH cs (n - 31) else none
 | .row m _ :: cs, n + 1 => bif Nat.ble m (n + 1) then zgH cs (n + 1 - m) else none
def zra (cs : List SC) (off n : Nat) : Option (List SC) := match zgH cs off with | some r => zjP r n | none => none
def zEw : List SC → List SC → Option (List SC)
 | [], r => some r
 | c :: a, r => match zEw a r with | some b => some (c :: b) | none => none
theorem zsv : ∀ (a b : List SC), zEw a b = some (a ++ b)
 | [], b => rfl
 | c :: a, b => by rw [zEw, zsv a b]; rfl
def zr3 : List SC → Nat → Nat → List SC → Option (List SC)
 | cs, 0, n, new => match zgH cs n with | some r => zEw new r | none => none
 | [], _ + 1, _, _ => none
 | .one x :: cs, off + 1, n, new => match zr3 cs off n new with | some r => some (.one x :: r) | none => none
 | .key k :: cs, off + 1, n, new => bif Nat.ble 31 off then (match zr3 cs (off - 31) n new with | some r => some (.key k :: r) | none => none) else none
 | .row m f :: cs, off + 1, n, new => bif Nat.ble m (off + 1) then (match zr3 cs (off + 1 - m) n new with | some r => some (.row m f :: r) | none => none) else none
def zfi : List SC → Nat → Bool
 | [], n => Nat.beq n 0
 | .one _ :: cs, n => match n with | 0 => false | j + 1 => zfi cs j
 | .key _ :: cs, n => bif Nat.ble 32 n then zfi cs (n - 32) else false
 | .row m _ :: cs, n => bif Nat.ble m n then zfi cs (n - m) else false
theorem zcG : ∀ {cs : List SC} {n : Nat}, zfi cs n = true → zfh cs = n
 | [], n, h => (Nat.eq_of_beq_eq_true h).symm
 | .one x :: cs, 0, h => by cases h
 | .one x :: cs, n + 1, h => by
  have := zcG (cs := cs) (n := n) h
  unfold zfh SC.len
  simp only [this]; omega
 | .key k :: cs, n, h => by
  unfold zfi at h
  have h1 := zab h
  have := zcG h1.2
  have := Nat.le_of_ble_eq_true h1.1
  show 32 + zfh cs = n
  omega
 | .row m f :: cs, n, h => by
  unfold zfi at h
  have h1 := zab h
  have := zcG h1.2
  have := Nat.le_of_ble_eq_true h1.1
  show m + zfh cs = n
  omega
theorem zhr (h : Hn) : ∀ (a b : List SC), zaD h (a ++ b) = zaD h a ++ zaD h b
 | [], b => rfl
 | c :: a, b => by rw [List.cons_append, zaD, zaD, zhr h a b, List.cons_append]
theorem zeU {o : Option (List SC)} {c : SC} {r : List SC} (h : (match o with | some r => some (c :: r) | none => none) = some r) : ∃ d, o = some d ∧ c :: d = r := by
 cases o with
 | none => cases h
 | some d => exact ⟨d, rfl, Option.some.inj h⟩
theorem zeV {b : Bool} {o : Option (List SC)} {r : List SC} (h : (bif b then o else none) = some r) : b = true ∧ o = some r := by
 cases b
 ·cases h
 ·exact ⟨rfl, h⟩
theorem zjQ {c : Chunk} {cs r : List Chunk} {n : Nat} (hn : c.len ≤ n + 1) (h : zfT cs (n + 1 - c.len) = some r) : zfT (c :: cs) (n + 1) = some (c :: r) := by
 rw [zfT, Nat.ble_eq_true_of_le hn, h]; rfl
theorem zjR {c : Chunk} {cs r : List Chunk} {n : Nat} (hn : c.len ≤ n + 1) (h : zfg cs (n + 1 - c.len) = some r) : zfg (c :: cs) (n + 1) = some r := by
 rw [zfg, Nat.ble_eq_true_of_le hn, h]; rfl
theorem zn2 {c : Chunk} {cs r new : List Chunk} {n : Nat} (hn : c.len ≤ n + 1) (h : ziX cs (n + 1 - c.len) new = some r) : ziX (c :: cs) (n + 1) new = some (c :: r) := by
 rw [ziX, Nat.ble_eq_true_of_le hn, h]; rfl
theorem zfY (h : Hn) : ∀ (cs : List SC) (n : Nat) (r : List SC), zjP cs n = some r → zfT (zaD h cs) n = some (zaD h r)
 | cs, 0, r, hr => by rw [zjP] at hr; rw [← Option.some.inj hr, zfT]; rfl
 | [], n + 1, r, hr => by cases hr
 | .one x :: cs, n + 1, r, hr => by
  rw [zjP] at hr
  obtain ⟨d, h1, rfl⟩ := zeU hr
  exact zjQ (c := .one (x.den h)) (by show 1 ≤ n + 1; omega) (zfY h cs n d h1)
 | .key k :: cs, n + 1, r, hr => by
  rw [zjP] at hr
  obtain ⟨h0, hr⟩ := zeV hr
  have h0 := Nat.le_of_ble_eq_true h0
  obtain ⟨d, h1, rfl⟩ := zeU hr
  exact zjQ (c := .key k) (by show 32 ≤ n + 1; omega) (by show zfT _ (n + 1 - 32) = _; rw [show n + 1 - 32 = n - 31 by omega]; exact zfY h cs _ d h1)
 | .row m f :: cs, n + 1, r, hr => by
  rw [zjP] at hr
  obtain ⟨h0, hr⟩ := zeV hr
  obtain ⟨d, h1, rfl⟩ := zeU hr
  exact zjQ (c := .row m f) (Nat.le_of_ble_eq_true h0) (zfY h cs _ d h1)
theorem zdc (h : Hn) : ∀ (cs : List SC) (n : Nat) (r : List SC), zgH cs n = some r → zfg (zaD h cs) n = some (zaD h r)
 | cs, 0, r, hr => by rw [zgH] at hr; rw [← Option.some.inj hr, zfg]
 | [], n + 1, r, hr => by cases hr
 | .one x :: cs, n + 1, r, hr => by
  rw [zgH] at hr
  exact zjR (c := .one (x.den h)) (by show 1 ≤ n + 1; omega) (zdc h cs n r hr)
 | .key k :: cs, n + 1, r, hr => by
  rw [zgH] at hr
  obtain ⟨h0, hr⟩ := zeV hr
  have h0 := Nat.le_of_ble_eq_true h0
  exact zjR (c := .key k) (by show 32 ≤ n + 1; omega) (by show zfg _ (n + 1 - 32) = _; rw [show n + 1 - 32 = n - 31 by omega]; exact zdc h cs _ r hr)
 | .row m f :: cs, n + 1, r, hr => by
  rw [zgH] at hr
  obtain ⟨h0, hr⟩ := zeV hr
  exact zjR (c := .row m f) (Nat.le_of_ble_eq_true h0) (zdc h cs _ r hr)
theorem zfZ (h : Hn) {cs r : List SC} {off n : Nat} (hr : zra cs off n = some r) : ziW (zaD h cs) off n = some (zaD h r) := by
 unfold zra at hr
 unfold ziW
 cases hq : zgH cs off with
 | none => rw [hq] at hr; cases hr
 | some d => rw [hq] at hr; rw [zdc h cs off d hq]; exact zfY h d n r hr
theorem zeW (h : Hn) : ∀ (cs : List SC) (off n : Nat) (new r : List SC), zfh new = n → zr3 cs off n new = some r → ziX (zaD h cs) off (zaD h new) = some (zaD h r)
 | cs, 0, n, new, r, hn, hr => by
  rw [zr3] at hr
  rw [ziX, zbf, hn]
  cases hq : zgH cs n with
  | none => rw [hq] at hr; cases hr
  | some d =>
   rw [hq] at hr
   simp only [zsv] at hr
   rw [zdc h cs _ d hq]
   show zEv _ _ = _
   rw [zsa, ← Option.some.inj hr, zhr]
 | [], off + 1, n, new, r, hn, hr => by cases hr
 | .one x :: cs, off + 1, n, new, r, hn, hr => by
  rw [zr3] at hr
  obtain ⟨d, h1, rfl⟩ := zeU hr
  exact zn2 (c := .one (x.den h)) (by show 1 ≤ off + 1; omega) (zeW h cs off n new d hn h1)
 | .key k :: cs, off + 1, n, new, r, hn, hr => by
  rw [zr3] at hr
  obtain ⟨h0, hr⟩ := zeV hr
  have h0 := Nat.le_of_ble_eq_true h0
  obtain ⟨d, h1, rfl⟩ := zeU hr
  exact zn2 (c := .key k) (by show 32 ≤ off + 1; omega) (by show ziX _ (off + 1 - 32) _ = _; rw [show off + 1 - 32 = off - 31 by omega]; exact zeW h cs _ n new d hn h1)
 | .row m f :: cs, off + 1, n, new, r, hn, hr => by
  rw [zr3] at hr
  obtain ⟨h0, hr⟩ := zeV hr
  obtain ⟨d, h1, rfl⟩ := zeU hr
  exact zn2 (c := .row m f) (Nat.le_of_ble_eq_true h0) (zeW h cs _ n new d hn h1)
structure Sp (X : List Nat) (w : World) (L : List Res) (R : List (World → Prop)) : Prop where
 xlt : ∀ k ∈ X, k < w.heap.size
 holds : ∀ q ∈ L, q.holds w
 apart : (zad L).Nodup
 xap : ∀ k ∈ zad L, k ∉ X
 facts : ∀ r ∈ R, St r w (X ++ zad L)
section
variable {X : List Nat} {w w' : World} {L L' L1 : List Res} {R R' R1 : List (World → Prop)} {q q' : Res} {r : World → Prop}
theorem Sp.lt (h : Sp X w L R) : ∀ k ∈ zad L, k < w.heap.size := fun k hk => by
 obtain ⟨q, hq, hk⟩ := zbL.1 hk
 exact zfV (h.holds q hq) k hk
theorem Sp.xk (h : Sp X w L R) : ∀ k ∈ X ++ zad L, k < w.heap.size := fun k hk => by
 rcases List.mem_append.1 hk with h1 | h1
 ·exact h.xlt k h1
 ·exact h.lt k h1
theorem Sp.fact (h : Sp X w L R) (i : Nat) (hi : R[i]? = some r) : St r w (X ++ zad L) := h.facts r (List.mem_of_getElem? hi)
theorem Sp.sep (h : Sp X w L R) : Sep X (zad L) w w L R := ⟨Frm.refl _ _, h.xlt, h.holds, h.apart, fun k hk => .inl hk, h.facts⟩
theorem Sp.of_sep {G : List Nat} {w0 : World} (h : Sep X G w0 w L R) (hG : ∀ k ∈ zad L, k ∉ X) : Sp X w L R := ⟨fun k hk => jT (h.xlt k hk) h.frm.size, h.holds, h.apart, hG, h.facts⟩
theorem Sp.call (h : Sp X w L R) (h1 : Sep (X ++ zad L) [] w w' L1 R1) : Sp X w' (L ++ L1) (R1 ++ R) := by
 have h2 := h.sep.call h1
 have h3 : Sep X (zad L) w w' (L ++ L1) (R1 ++ R) := h2.perm List.perm_append_comm
 refine Sp.of_sep h3 fun k hk => ?_
 rw [zak] at hk
 rcases List.mem_append.1 hk with h4 | h4
 ·exact h.xap k h4
 ·rcases h1.mine k h4 with h5 | h5
  ·cases h5
  ·intro hx
   have := h.xlt k hx
   omega
theorem Sp.drew (h : Sp X w L R) : Sp X w.drew L R := Sp.of_sep h.sep.drew h.xap
theorem Sp.popL (h : Sp X w (q :: L) R) : Sp X w L R := Sp.of_sep h.sep.popL fun k hk => h.xap k (List.mem_append_right _ hk)
theorem Sp.refacts (h : Sp X w L R) (hf : ∀ r ∈ R', St r w (X ++ zad L)) : Sp X w L R' := ⟨h.xlt, h.holds, h.apart, h.xap, hf⟩
theorem Sp.sub (h : Sp X w L R) (hf : ∀ r ∈ R', r ∈ R) : Sp X w L R' := h.refacts fun r hr => h.facts r (hf r hr)
theorem Sp.perm (h : Sp X w L R) (hp : L.Perm L') : Sp X w L' R := Sp.of_sep (h.sep.perm hp) fun k hk => h.xap k ((zaw hp).mem_iff.2 hk)
theorem Sp.turnAt (h : Sp X w L R) (i : Nat) (hi : L[i]? = some q) (hb : Frm q.keys w w') (hq : q'.holds w') (hk : ∀ k ∈ q'.keys, k ∈ q.keys ∨ w.heap.size ≤ k) (hnd : q'.keys.Nodup) (hL : L.set i q' = L') : Sp X w' L' R ∧ ∀ k ∈ zad L', k ∈ zad L ∨ w.heap.size ≤ k := by
 have h1 := h.sep.turnAt i hi hb hq hk hnd hL
 refine ⟨Sp.of_sep h1 fun k hk' => ?_, fun k hk' => h1.mine k hk'⟩
 rcases h1.mine k hk' with h2 | h2
 ·exact h.xap k h2
 ·intro hx
  have := h.xlt k hx
  omega
theorem Sp.know (h : Sp X w L R) (hr : St r w (X ++ zad L)) : Sp X w L (r :: R) := h.refacts fun r' hr' => by
 rcases List.mem_cons.1 hr' with rfl | hr'
 ·exact hr
 ·exact h.facts r' hr'
theorem Sp.freeze (h : Sp X w (q :: L) R) : Sp X w L ((fun w => q.holds w) :: R) := by
 refine h.popL.know fun w' hk => zbx (h.holds q (List.mem_cons_self ..)) fun k hq => hk k (zfV (h.holds q (List.mem_cons_self ..)) k hq) fun hm => ?_
 rcases List.mem_append.1 hm with h1 | h1
 ·exact h.xap k (List.mem_append_left _ hq) h1
 ·exact (List.nodup_append.1 h.apart).2.2 k hq k h1 rfl
theorem Sp.at_ (h : Sp X w L R) (i : Nat) (q : Res) (hq : L[i]? = some q) : Sp X w (q :: L.eraseIdx i) R := by
 have h1 := h.sep.at_ i q hq
 refine Sp.of_sep h1 fun k hk => ?_
 rcases h1.mine k hk with h2 | h2
 ·exact h.xap k h2
 ·intro hx; have := h.xlt k hx; omega
end
end
section
open Go.RowKit
section
variable {P : Program} {o : Oper} {a : Act} {w ws : World} {Q : Exit → Act → World → Prop} {N d : Nat} {l : List (Nat × Value)} {v : Value} {S : Nat → Prop} {K : Act → World → Prop}
 {X G : List Nat} {w0 : World} {L L' : List Res} {R : List (World → Prop)}
theorem zdd {j : Int} {b y : Nat} {code : BoundsCode} (hj : j = (b : Int)) (hb : b ≤ y) : (Instr.sliceBound (.int .i64 j) y code).run P w = .ok b w := by
 subst hj
 unfold Instr.sliceBound
 simp [asIntOf, hb]
def zhO (A : Option Addr) (sz lo hi mx : Nat) : Value := .slice (if mx = lo then A else A.map (·.add (lo * sz))) (hi - lo) (mx - lo)
theorem zzJ {t e sz : Nat} {A : Option Addr} {n c lo hi mx : Nat} {vl vh vm : Option Value} (ht : P.underlying t = some (.slice e)) (hs : (P.info? e).map (·.size) = some sz) (hb : (Instr.sliceBounds true n c vl vh vm).run P w = .ok (lo, hi, mx) w) :
  (Instr.sliceAt t (.slice A n c) vl vh vm).run P w = .ok (zhO A sz lo hi mx) w := by
 unfold Instr.sliceAt
 rw [Sem.run_bind, run_underlying ht]
 simp only [Result.andThen_ok]
 unfold Instr.slice
 rw [Sem.run_bind, run_underlying ht]
 simp only [Result.andThen_ok, Sem.run_bind, hb, zbw hs]
 rfl
theorem zpe {t sz : Nat} {A : Option Addr} {n c lo hi mx : Nat} {x : Operand} {ol oh om : Option Operand} (ho : o.op = .slice t x ol oh om) (ht : elK P t = some sz) (hx : ev l x = some (.slice A n c))
  (hb : ∀ a N w, Env a N l → (Instr.sliceBounds true n c (ol.map a.eval) (oh.map a.eval) (om.map a.eval)).run P w = .ok (lo, hi, mx) w) : PK P S ws l o (zhO A sz lo hi mx) := fun w' _ a N E => by
 obtain ⟨e, h1, h2⟩ := zo5 ht
 unfold execOp
 rw [ho]
 simp only [E.ev hx, Sem.run_bind, zzJ h1 h2 (hb a N w' E), Result.andThen_ok, Sem.run_pure]
theorem zhP {t sz : Nat} {A : Option Addr} {n c hi : Nat} {x xh : Operand} {j : Int} (ho : o.op = .slice t x none (some xh) none) (ht : elK P t = some sz) (hx : ev l x = some (.slice A n c)) (hh : ev l xh = some (.int .i64 j)) (hj : j = (hi : Int)) (hc : hi ≤ c) : PK P S ws l o (zhO A sz 0 hi c) :=
 zpe ho ht hx fun a N w E => by
  unfold Instr.sliceBounds
  simp [E.ev hh, zdd hj hc, Sem.run_bind]
theorem zhQ {t sz : Nat} {A : Option Addr} {n c lo : Nat} {x xl : Operand} {j : Int} (ho : o.op = .slice t x (some xl) none none) (ht : elK P t = some sz) (hx : ev l x = some (.slice A n c)) (hl : ev l xl = some (.int .i64 j)) (hj : j = (lo : Int)) (hc : lo ≤ n) : PK P S ws l o (zhO A sz lo n c) :=
 zpe ho ht hx fun a N w E => by
  unfold Instr.sliceBounds
  simp [E.ev hl, zdd hj hc, Sem.run_bind]
theorem zsw {t sz : Nat} {A : Option Addr} {n c lo hi : Nat} {x xl xh : Operand} {j k : Int} (ho : o.op = .slice t x (some xl) (some xh) none) (ht : elK P t = some sz) (hx : ev l x = some (.slice A n c)) (hl : ev l xl = some (.int .i64 j)) (hh : ev l xh = some (.int .i64 k)) (hj : j = (lo : Int)) (hk : k = (hi : Int)) (hlh : lo ≤ hi) (hc : hi ≤ c) : PK P S ws l o (zhO A sz lo hi c) :=
 zpe ho ht hx fun a N w E => by
  unfold Instr.sliceBounds
  simp [E.ev hl, E.ev hh, zdd hj hlh, zdd hk hc, Sem.run_bind]
theorem sub_zero (A : Option Addr) (sz hi c : Nat) : zhO A sz 0 hi c = .slice A hi c := by
 unfold zhO
 have : (A.map fun x => x.add (0 * sz)) = A := by cases A <;> simp [zav]
 rw [this]
 simp
end
end
end Go.Proofs.YtcmmpiaogfnmoaaGreatDoor
