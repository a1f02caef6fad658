/- Arrays as functions from their indexes, as blocks of memory; no program is in sight. A region that draws its order, walked once, in an order of the prover's: what only reads may be taken as soon as it may come up, if what it reads lies below a block number and whatever is carried out leaves that part of memory alone; calls and new blocks come in their one order; a forced tail stores. No program is in sight. A region that draws its order, walked once, in an order of the prover's, where what is read lies in blocks of a set. No program is in sight. Texts: slices of bytes that read as a list; rows -/
import Derived.WalkKit
import Derived.WalkSpells
import Derived.WalkLawsBesides
import Derived.Deep.QuietTactic
import Derived.BigQuiet
import Derived.StillTailTactics
import Derived.Lib.Hide
import Derived.Deep.LoopGhost
import Derived.Outline
import Derived.Deep.DeepFit
import Derived.Deep.RegionHeld3
import Derived.Deep.RegionLaw
import Derived.OrdersHeld
import Derived.Laws.StructEq
import Derived.Maps.AppendAt
import Derived.Deep.AppendLies
import Derived.Deep.Draws
import Derived.Laws.OwnMore
import Derived.Laws.AppendOwnNone
import Derived.OwnWalk
import Derived.Below
import Derived.Deep.Cut
import Derived.Deep.CutBlock
import Derived.Deep.CutRange
import Derived.DataElems
import Derived.Great.BuildSlice
import Derived.Laws.Entries
import Derived.Laws.Tables
import Derived.Deep.AppendSrc
import Derived.SizedLaws
set_option linter.unusedSimpArgs false
set_option linter.unusedVariables false
set_option maxRecDepth 200000
set_option maxHeartbeats 6000000
namespace Go.Proofs.YtfolbgiekbimpaaGreatDoor
theorem jA {α : Type} {l : List α} {i : Nat} {a : α} : l.toArray.setIfInBounds i a = (l.set i a).toArray := List.setIfInBounds_toArray ..
theorem jB {α : Type} {a b : α} {l : List α} : (a :: l).set 0 b = b :: l := rfl
theorem jC {α : Type} {a b : α} {l : List α} {n : Nat} : (a :: l).set (n + 1) b = a :: l.set n b := rfl
theorem jD {α : Type} {a : α} {l : List α} : (a :: l)[0]? = some a := rfl
theorem jE {α : Type} {a : α} {l : List α} {n : Nat} : (a :: l)[n + 1]? = l[n]? := rfl
theorem jF {α : Type} {a : α} {l : List α} {n : Nat} : (a :: l).drop (n + 1) = l.drop n := rfl
theorem jG {α : Type} {l : List α} : l.drop 0 = l := rfl
theorem jH {α : Type} {a : α} {l : List α} {n : Nat} : (a :: l).take (n + 1) = a :: l.take n := rfl
theorem jI {α : Type} {l : List α} : l.take 0 = [] := rfl
theorem jJ {α : Type} {p : α → Prop} {a : α} {l : List α} : (∀ x ∈ a :: l, p x) ↔ p a ∧ ∀ x ∈ l, p x := List.forall_mem_cons
theorem jK {α : Type} (p : α → Prop) : ∀ x ∈ ([] : List α), p x := fun _ h => by cases h
theorem jL {α : Type} {l : List α} {i : Nat} : l.toArray[i]? = l[i]? := List.getElem?_toArray
theorem jM {w : World} {b : Nat} {o : Obj} (h : w.heap[b]? = some o) : b < w.heap.size := Go.lt_of_block h
theorem jN {α : Type} {xs : Array α} {i : Nat} {d : α} : xs.getD i d = xs[i]?.getD d := Array.getD_eq_getD_getElem?
theorem jO {α : Type} {a d : α} : (some a).getD d = a := rfl
theorem jP {α : Type} {l : List α} {i : Nat} (h : i < l.length) : l[i]? = some l[i] := List.getElem?_eq_getElem h
theorem jQ {α : Type} {b c : List α} : (b ++ c).length = b.length + c.length := List.length_append
theorem jR {α : Type} {l : List α} {i : Nat} {a : α} : l.getD i a = l[i]?.getD a := List.getD_eq_getElem?_getD
theorem jS {p : Prop} [Decidable p] : (decide p = true) = p := decide_eq_true_eq
theorem jT {n m k : Nat} : n < m → m ≤ k → n < k := Nat.lt_of_lt_of_le
theorem jU {n m k : Nat} : n ≤ m → m ≤ k → n ≤ k := Nat.le_trans
theorem jV (n : Nat) : n ≤ n := Nat.le_refl n
section
open Go.RowKit
def zh7 (n : Nat) (g : Nat → Value) : Array Value := ((List.range n).map g).toArray
def arr (k : IntKind) (n : Nat) (f : Nat → Int) : Array Value := zh7 n (fun i => .int k (f i))
def upd {α : Type} (f : Nat → α) (i : Nat) (v : α) : Nat → α := fun j => if j = i then v else f j
theorem zgR (n : Nat) (g : Nat → Value) : (zh7 n g).size = n := by simp [zh7]
theorem zct (k : IntKind) (n : Nat) (f : Nat → Int) : (arr k n f).size = n := zgR _ _
theorem zin (n : Nat) (g : Nat → Value) (i : Nat) (h : i < n) : (zh7 n g)[i]? = some (g i) := by
 simp [zh7, h]
theorem ze9 (k : IntKind) (n : Nat) (f : Nat → Int) (i : Nat) (h : i < n) : (arr k n f)[i]? = some (.int k (f i)) := zin _ _ _ h
theorem zkK {n : Nat} {f g : Nat → Value} (h : ∀ i, i < n → f i = g i) : zh7 n f = zh7 n g := by
 unfold zh7
 congr 1
 apply List.map_congr_left
 intro i hi
 exact h i (List.mem_range.1 hi)
theorem zcd {k : IntKind} {n : Nat} {f g : Nat → Int} (h : ∀ i, i < n → f i = g i) : arr k n f = arr k n g :=
 zkK fun i hi => by rw [h i hi]
theorem zuK (n : Nat) (g : Nat → Value) (i : Nat) (v : Value) : (zh7 n g).setIfInBounds i v = zh7 n (upd g i v) := by
 apply Array.ext_getElem?
 intro j
 by_cases hj : j < n
 ·rw [zin n _ j hj, Array.getElem?_setIfInBounds]
  by_cases hij : i = j
  ·subst hij; simp [upd, zgR, hj]
  ·rw [if_neg hij, zin n _ j hj]; simp [upd, Ne.symm hij]
 ·rw [Array.getElem?_eq_none (by simp [zgR]; omega), Array.getElem?_eq_none (by simp [zgR]; omega)]
theorem zrH (k : IntKind) (n : Nat) (f : Nat → Int) (i : Nat) (v : Int) : (arr k n f).setIfInBounds i (.int k v) = arr k n (upd f i v) := by
 unfold arr
 rw [zuK]
 exact zkK fun j _ => by unfold upd; split <;> rfl
section
variable {w : World} {B n t : Nat} {k : IntKind} {f : Nat → Int} {fr : Nat × Nat}
theorem zaj (h : w.heap[B]? = some (.cells (arr k n f) t fr)) (i : Nat) (hi : i < n) : w.cell? ⟨B, i, none⟩ = some (.int k (f i)) := by
 rw [cell_of_row w B i _ t fr h, ze9 _ _ _ _ hi]
theorem zaH (h : w.heap[B]? = some (.cells (arr k n f) t (0, 0))) (i : Nat) : w.frozen? ⟨B, i, none⟩ = false := frozen_of_row w B i _ t h
theorem zaL (h : w.heap[B]? = some (.cells (arr k n f) t (0, 0))) (i : Nat) (v : Int) :
  (w.setCell ⟨B, i, none⟩ (.int k v)).heap[B]? = some (.cells (arr k n (upd f i v)) t (0, 0)) := by
 rw [heap_setCell_same w B i _ t _ h, zrH]
theorem zar {o : Obj} {C : Nat} (h : w.heap[B]? = some o) (i : Nat) (v : Value) (hne : B ≠ C) : (w.setCell ⟨C, i, none⟩ v).heap[B]? = some o := by
 rw [heap_setCell_other _ _ _ _ hne]; exact h
end
theorem zaf {w : World} {B n t : Nat} {k : IntKind} {f f' : Nat → Int} {fr : Nat × Nat} (hg : w.heap[B]? = some (.cells (arr k n f) t fr)) (h : ∀ i, i < n → f i = f' i) : w.heap[B]? = some (.cells (arr k n f') t fr) := by
 rw [← zcd h]; exact hg
theorem ziK {α : Type} (f g : Nat → α) (k i : Nat) : upd (fun i => if i < k then g i else f i) k (g k) i = if i < k + 1 then g i else f i := by
 unfold upd
 by_cases h : i = k
 ·simp [h]
 ·simp [h, show (i < k + 1) = (i < k) from by apply propext; omega]
theorem zb6 (w : World) (a : Obj) : (w.alloc a).heap[w.heap.size]? = some a ∧ (w.alloc a).heap.size = w.heap.size + 1 ∧ Below w.heap.size w (w.alloc a) :=
 ⟨heap_alloc_new w a, by simp, (Below.refl _ _).alloc (jV _) _⟩
theorem zcb (w : World) (a b : Obj) : ((w.alloc a).alloc b).heap[w.heap.size]? = some a ∧ ((w.alloc a).alloc b).heap[w.heap.size + 1]? = some b ∧
  ((w.alloc a).alloc b).heap.size = w.heap.size + 2 ∧ Below w.heap.size w ((w.alloc a).alloc b) :=
 ⟨heap_alloc2_old w a b, heap_alloc2_new w a b, by simp, ((Below.refl _ _).alloc (jV _) _).alloc (by simp) _⟩
theorem zdb (w : World) (a b c : Obj) : (((w.alloc a).alloc b).alloc c).heap[w.heap.size]? = some a ∧ (((w.alloc a).alloc b).alloc c).heap[w.heap.size + 1]? = some b ∧
  (((w.alloc a).alloc b).alloc c).heap[w.heap.size + 1 + 1]? = some c ∧ (((w.alloc a).alloc b).alloc c).heap.size = w.heap.size + 3 ∧ Below w.heap.size w (((w.alloc a).alloc b).alloc c) := by
 have hs : ((w.alloc a).alloc b).heap.size = w.heap.size + 1 + 1 := by simp
 refine ⟨?_, ?_, ?_, by simp, (((Below.refl _ _).alloc (jV _) _).alloc (by simp) _).alloc (by simp; omega) _⟩
 ·rw [Below.heap_alloc _ _ _ (by omega)]; exact heap_alloc2_old w a b
 ·rw [Below.heap_alloc _ _ _ (by omega)]; exact heap_alloc2_new w a b
 ·rw [← hs]; exact heap_alloc_new _ c
def zeT (P : Program) (ty : TypeId) (n : Nat) : Prop := ∃ d, P.underlying ty = some d ∧ (match d with | .struct _ | .array _ _ => true | _ => false) = true ∧ (P.info? ty).map (·.size) = some n
section
variable {P : Program} {ops : Array Oper} {rest : List Oper} {o : Oper} {a : Act} {w : World} {Q : Exit → Act → World → Prop}
theorem zcu (g o j : Nat) : (⟨g, o, none⟩ : Addr).add j = ⟨g, o + j, none⟩ := by
 unfold Addr.add; split <;> simp_all
theorem zck {ty n N t g off : Nat} {f : Nat → Value} {fr : Nat × Nat} (hT : zeT P ty n) (hg : w.heap[g]? = some (.cells (zh7 N f) t fr)) (hle : off + n ≤ N) :
  (loadVar ty ⟨g, off, none⟩).run P w = .ok (.agg (zh7 n fun i => f (off + i))) w := by
 obtain ⟨d, hu, hd, hi⟩ := hT
 have hl : (loadCells ⟨g, off, none⟩ n).run P w = .ok (zh7 n fun i => f (off + i)) w :=
  run_loadCells w ⟨g, off, none⟩ n _ (fun j hj => by rw [zcu, cell_of_row w g _ _ t fr hg, zin _ _ _ (by omega)])
 cases hq : P.info? ty with
 | none => simp [hq] at hi
 | some i =>
  have hs : i.size = n := by simpa [hq] using hi
  have hagg : (isAgg ty).run P w = .ok true w := by
   unfold isAgg
   rw [Sem.run_bind, run_underlying hu w]
   cases d <;> simp_all
  simp [loadVar, Sem.run_bind, hagg, sizeOf, typeInfo, hq, hs, hl]
theorem zbM {ty n t g : Nat} {k : IntKind} {f : Nat → Int} {fr : Nat × Nat} (hT : zeT P ty n) (hg : w.heap[g]? = some (.cells (arr k n f) t fr)) :
  (loadVar ty ⟨g, 0, none⟩).run P w = .ok (.agg (arr k n f)) w := by
 have := zck hT hg (show 0 + n ≤ n by omega)
 simp only [Nat.zero_add] at this
 exact this
theorem zce {ty : TypeId} {x : Operand} (ho : o.op = .load ty x) {g off : Nat} (hx : a.eval x = .pointer (some ⟨g, off, none⟩)) {v : Value}
  (hl : (loadVar ty ⟨g, off, none⟩).run P w = .ok v w) : (execOp a.eval o).run P w = .ok (.value v) w := by
 unfold execOp
 simp only [ho, hx, Instr.loadAt, Instr.sureAddr, Sem.run_bind, Sem.run_pure, Result.andThen_ok, hl]
theorem zf7 {v : Value} (hgd : o.guard = none) (hr : (execOp a.eval o).run P w = .ok (.value v) w) (h : wpList P ops Q rest (a.put o.dst v) w) : wpList P ops Q (o :: rest) a w :=
 wpList_plain hgd fun _ hK => by unfold Oper.wp; rw [hr]; exact hK _ _ h
theorem zdE {v : Value} {Q : Act → Prop} (hgd : o.guard = none) (hr : (execOp a.eval o).run P w = .ok (.value v) w) (h : wpStill P ops w Q rest (a.put o.dst v)) : wpStill P ops w Q (o :: rest) a := by
 refine wpStill_step fun K hK => ?_
 simp only [Region.wanted, hgd, if_true]
 unfold Oper.still
 rw [hr, Oper.stillUpon_value]
 exact hK _ h
theorem zab {ty : TypeId} {x : Operand} {n t g : Nat} {k : IntKind} {f : Nat → Int} {fr : Nat × Nat} (hgd : o.guard = none) (ho : o.op = .load ty x) (hx : a.eval x = .pointer (some ⟨g, 0, none⟩)) (hT : zeT P ty n)
  (hg : w.heap[g]? = some (.cells (arr k n f) t fr)) (h : wpList P ops Q rest (a.put o.dst (.agg (arr k n f))) w) : wpList P ops Q (o :: rest) a w :=
 zf7 hgd (zce ho hx (zbM hT hg)) h
theorem ziL {ty : TypeId} {x : Operand} {n N t g off : Nat} {k : IntKind} {f : Nat → Int} {fr : Nat × Nat} (hgd : o.guard = none) (ho : o.op = .load ty x) (hx : a.eval x = .pointer (some ⟨g, off, none⟩)) (hT : zeT P ty n)
  (hg : w.heap[g]? = some (.cells (arr k N f) t fr)) (hle : off + n ≤ N) (h : wpList P ops Q rest (a.put o.dst (.agg (arr k n fun i => f (off + i)))) w) : wpList P ops Q (o :: rest) a w :=
 zf7 hgd (zce ho hx (zck hT hg hle)) h
theorem zh8 {ty : TypeId} {x : Operand} {n t g : Nat} {k : IntKind} {f : Nat → Int} {fr : Nat × Nat} {Q : Act → Prop} (hgd : o.guard = none) (ho : o.op = .load ty x) (hx : a.eval x = .pointer (some ⟨g, 0, none⟩)) (hT : zeT P ty n)
  (hg : w.heap[g]? = some (.cells (arr k n f) t fr)) (h : wpStill P ops w Q rest (a.put o.dst (.agg (arr k n f)))) : wpStill P ops w Q (o :: rest) a :=
 zdE hgd (zce ho hx (zbM hT hg)) h
def zcU {α : Type} (f : Nat → α) (off n : Nat) (g : Nat → α) : Nat → α := fun j => if off ≤ j ∧ j < off + n then g (j - off) else f j
theorem ziM (N off n : Nat) (f g : Nat → Value) (hle : off + n ≤ N) :
  ((zh7 N f).toList.take off ++ (zh7 n g).toList ++ (zh7 N f).toList.drop (off + n)).toArray = zh7 N (zcU f off n g) := by
 apply Array.ext_getElem?
 intro j
 simp only [zh7, jL, List.toList_toArray]
 simp only [List.getElem?_append, List.length_take, jQ, List.length_map, List.length_range, List.getElem?_take, List.getElem?_drop, List.getElem?_map]
 unfold zcU
 rw [Nat.min_eq_left (by omega)]
 by_cases h1 : j < off
 ·simp [h1, show j < off + n by omega, show ¬ off ≤ j by omega, show j < N by omega]
 ·by_cases h2 : j < off + n
  ·simp [h1, h2, show off ≤ j by omega, show j - off < n by omega, show j < N by omega]
  ·by_cases h3 : j < N
   ·simp [h1, h2, h3, show off + n + (j - (off + n)) = j by omega]
   ·simp [h2, h3, show off + n + (j - (off + n)) = j by omega]
theorem zpa (n : Nat) (k : IntKind) (f : Nat → Int) : ∀ v ∈ (arr k n f).toList, v.oneCell' = true := by
 intro v hv
 simp only [arr, zh7, List.toList_toArray, List.mem_map] at hv
 obtain ⟨i, _, rfl⟩ := hv
 rfl
theorem zmJ (k : IntKind) (N off n : Nat) (f g : Nat → Int) : zh7 N (zcU (fun i => Value.int k (f i)) off n (fun i => Value.int k (g i))) = arr k N (zcU f off n g) :=
 zkK fun j _ => by unfold zcU; split <;> rfl
theorem zc4 {ty n N t g off : Nat} {k : IntKind} {f f' : Nat → Int} (hT : zeT P ty n) (hg : w.heap[g]? = some (.cells (arr k N f) t (0, 0))) (hle : off + n ≤ N) :
  (storeVar ty ⟨g, off, none⟩ (.agg (arr k n f'))).run P w = .ok () (w.setRow g (arr k N (zcU f off n f'))) := by
 obtain ⟨d, hu, hd, hi⟩ := hT
 have h1 := run_storeCells_at P g off t (arr k n f').toList 0 (arr k N f) w hg (by simp [zct]; omega) (zpa n k f')
 cases hq : P.info? ty with
 | none => simp [hq] at hi
 | some i =>
  have hs : i.size = n := by simpa [hq] using hi
  have hsz : ((arr k n f').toList).length = n := by simp [zct]
  rw [hsz, Nat.add_zero] at h1
  have e : ((arr k N f).toList.take off ++ (arr k n f').toList ++ (arr k N f).toList.drop (off + n)).toArray = arr k N (zcU f off n f') := by
   rw [← zmJ]; exact ziM N off n _ _ hle
  rw [e] at h1
  have h2 : (storeCells ⟨g, off, none⟩ (arr k n f').toList).run P w = .ok () (w.setRow g (arr k N (zcU f off n f'))) := h1
  simp [storeVar, sizeOf, typeInfo, hq, Value.cells, hs, zct, h2]
theorem zdc {ty : TypeId} {x y : Operand} (ho : o.op = .store ty x y) {g off : Nat} (hx : a.eval x = .pointer (some ⟨g, off, none⟩)) {v : Value} (hy : a.eval y = v) {w' : World}
  (hl : (storeVar ty ⟨g, off, none⟩ v).run P w = .ok () w') : (execOp a.eval o).run P w = .ok .skip w' := by
 unfold execOp
 simp only [ho, hx, hy, Instr.storeAt, Instr.sureAddr, Sem.run_bind, Sem.run_pure, Result.andThen_ok, hl]
theorem zoc {w' : World} (hgd : o.guard = none) (hr : (execOp a.eval o).run P w = .ok .skip w') (h : wpList P ops Q rest (a.put o.dst undef) w') : wpList P ops Q (o :: rest) a w :=
 wpList_plain hgd fun _ hK => by unfold Oper.wp; rw [hr]; exact hK _ _ h
theorem zcm {ty : TypeId} {x y : Operand} {n N t g off : Nat} {k : IntKind} {f f' : Nat → Int} (hgd : o.guard = none) (ho : o.op = .store ty x y) (hx : a.eval x = .pointer (some ⟨g, off, none⟩)) (hy : a.eval y = .agg (arr k n f'))
  (hT : zeT P ty n) (hg : w.heap[g]? = some (.cells (arr k N f) t (0, 0))) (hle : off + n ≤ N) (h : wpList P ops Q rest (a.put o.dst undef) (w.setRow g (arr k N (zcU f off n f')))) : wpList P ops Q (o :: rest) a w :=
 zoc hgd (zdc ho hx hy (zc4 hT hg hle)) h
theorem zfa {α : Type} (f g : Nat → α) (n j : Nat) (h : j < n) : zcU f 0 n g j = g j := by unfold zcU; simp [h]
theorem zac {ty : TypeId} {x y : Operand} {n t g : Nat} {k : IntKind} {f f' : Nat → Int} (hgd : o.guard = none) (ho : o.op = .store ty x y) (hx : a.eval x = .pointer (some ⟨g, 0, none⟩)) (hy : a.eval y = .agg (arr k n f'))
  (hT : zeT P ty n) (hg : w.heap[g]? = some (.cells (arr k n f) t (0, 0))) (h : wpList P ops Q rest (a.put o.dst undef) (w.setRow g (arr k n f'))) : wpList P ops Q (o :: rest) a w :=
 zcm hgd ho hx hy hT hg (by omega) (by rw [show arr k n (zcU f 0 n f') = arr k n f' from zcd fun i hi => zfa _ _ _ _ hi]; exact h)
theorem zan {c c' : Array Value} {g t : Nat} {fr : Nat × Nat} (hg : w.heap[g]? = some (.cells c t fr)) : (w.setRow g c').heap[g]? = some (.cells c' t fr) := setRow_heap w g c c' t fr hg
theorem zad {c' : Array Value} {g b : Nat} {x : Obj} (hg : w.heap[b]? = some x) (hne : b ≠ g) : (w.setRow g c').heap[b]? = some x := by rw [setRow_other _ _ _ _ hne]; exact hg
theorem zam {B g : Nat} {w0 w : World} (hb : Below B w0 w) (hBg : B ≤ g) (cs : Array Value) : Below B w0 (w.setRow g cs) :=
 hb.trans ⟨rfl, rfl, rfl, by simp [World.setRow], fun k hk => setRow_other w g k cs (by omega)⟩
def zcy (P : Program) (ty : TypeId) (k : IntKind) (n : Nat) : Prop := (P.info? ty).map (·.zero) = some (some (.agg (arr k n fun _ => 0)))
theorem zdd {ty n : Nat} {k : IntKind} (ho : o.op = .alloc ty) (hz : zcy P ty k n) :
  (execOp a.eval o).run P w = .ok (.value (.pointer (some ⟨w.heap.size, 0, none⟩))) (w.alloc (.cells (arr k n fun _ => 0) ty)) := by
 unfold zcy at hz
 cases hq : P.info? ty with
 | none => simp [hq] at hz
 | some i =>
  have hs : i.zero = some (.agg (arr k n fun _ => 0)) := by simpa [hq] using hz
  unfold execOp
  simp [ho, Instr.alloc, zeroValue, typeInfo, hq, hs, newVar, newRow, newObj, Value.cells, Sem.run_bind]
  rfl
theorem zae {ty n : Nat} {k : IntKind} (hgd : o.guard = none) (ho : o.op = .alloc ty) (hz : zcy P ty k n)
  (h : wpList P ops Q rest (a.put o.dst (.pointer (some ⟨w.heap.size, 0, none⟩))) (w.alloc (.cells (arr k n fun _ => 0) ty))) : wpList P ops Q (o :: rest) a w :=
 wpList_plain hgd fun _ hK => by unfold Oper.wp; rw [zdd ho hz]; exact hK _ _ h
theorem zhQ {ty : TypeId} {parts : Array (Nat × Operand)} {c : Array Value} {l : List (Nat × Value)} (hgd : o.guard = none) (ho : o.op = .build ty parts) (hl : (parts.map fun (i, x) => (i, a.eval x)).toList = l) (hb : P.built ty l = some c)
  (h : wpList P ops Q rest (a.put o.dst (.agg c)) w) : wpList P ops Q (o :: rest) a w := by
 subst hl
 exact wpList_build hgd ty parts ho (by rw [hb]; rfl) (by rw [hb]; exact h)
theorem zaw {fn : Func} {p : Tmp} {ty : TypeId} {n t g : Nat} {k : IntKind} {f : Nat → Int} {fr : Nat × Nat} (h : fn.results = #[.cell p ty]) {tmps : Array Value} (hp : tmps.getD p undef = .pointer (some ⟨g, 0, none⟩))
  (hT : zeT P ty n) (hg : w.heap[g]? = some (.cells (arr k n f) t fr)) : (results fn tmps).run P w = .ok (.agg (arr k n f)) w := by
 have hp' : tmps[p]?.getD undef = .pointer (some ⟨g, 0, none⟩) := by simpa using hp
 simp [results, h, hp', asAddr, zbM hT hg]
theorem zpb {c : Code} (S : World → Prop) (hS : S w) (h : ∀ w', S w' → c.wp P Q a w') : c.wp P Q a w := h w hS
theorem zax {id : Nat} {l : List Oper} (n : Nat) (hm : P.follows .mixedOrders = true) (hB : Region.lexTailB .any l.toArray n = true)
  (h : wpStill P l.toArray w.drew (fun a' => wpList P l.toArray Q (l.drop n) a' w.drew) (l.take n) a) : (Code.region id l.toArray true).wp P Q a w := wp_region_still_tail n hm hB h
end
end
section
open Go.RowKit
def Keep (N : Nat) (w w' : World) : Prop := ∀ b, b < N → w'.heap[b]? = w.heap[b]?
theorem Keep.refl (N : Nat) (w : World) : Keep N w w := fun _ _ => rfl
theorem Keep.trans {N : Nat} {a b c : World} (h : Keep N a b) (k : Keep N b c) : Keep N a c := fun i hi => (k i hi).trans (h i hi)
theorem Keep.symm {N : Nat} {a b : World} (h : Keep N a b) : Keep N b a := fun i hi => (h i hi).symm
theorem Keep.of_below {N B : Nat} {a b : World} (h : Below B a b) (hN : N ≤ B) : Keep N a b := fun i hi => h.block i (jT hi hN)
theorem Keep.alloc {N : Nat} (w : World) (x : Obj) (hN : N ≤ w.heap.size) : Keep N w (w.alloc x) := fun i hi => Below.heap_alloc _ _ _ (by omega)
theorem Keep.drew {N : Nat} (w : World) : Keep N w w.drew := fun _ _ => rfl
theorem Keep.drewN {N n : Nat} (w : World) : Keep N w (w.drewN n) := fun _ _ => rfl
def zbn {α : Type} (P : Program) : Sem α → Prop
 | .pure _ => True
 | .halt _ => True
 | .program k => zbn P (k P)
 | .mark _ k => zbn P k
 | .choose _ k => ∀ n, zbn P (k n)
 | _ => False
theorem zgu {α : Type} {P : Program} : ∀ (e : Sem α) (w w1 : World) (v : α), zbn P e → e.run P w = .ok v w1 → w.drawn ≤ w1.drawn := by
 intro e
 induction e with
 | pure a => intro w w1 v _ h; simp only [Sem.run, Result.ok.injEq] at h; rw [h.2]; exact jV _
 | halt x => intro w w1 v _ h; simp [Sem.run] at h
 | program k ih => intro w w1 v hb h; exact ih P w w1 v hb h
 | mark m k ih => intro w w1 v hb h; exact ih w w1 v hb h
 | choose q k ih =>
  intro w w1 v hb h
  simp only [Sem.run] at h
  split at h
  ·exact ih _ w w1 v (hb _) h
  ·have := ih _ _ w1 v (hb _) h
   simp only at this
   omega
 | _ => intro w w1 v hb; exact hb.elim
theorem ziN {α : Type} {P : Program} : ∀ (e : Sem α) (w : World) (v : α), zbn P e → e.run P w = .ok v w → ∀ w', e.run P w' = .ok v w' := by
 intro e
 induction e with
 | pure a => intro w v _ h w'; simp only [Sem.run, Result.ok.injEq] at h ⊢; exact ⟨h.1, trivial⟩
 | halt x => intro w v _ h; simp [Sem.run] at h
 | program k ih => intro w v hb h w'; exact ih P w v hb h w'
 | mark m k ih => intro w v hb h w'; exact ih w v hb h w'
 | choose q k ih =>
  intro w v hb h w'
  simp only [Sem.run] at h ⊢
  split at h
  ·rename_i hf; rw [if_pos hf]; exact ih _ w v (hb _) h w'
  ·have := zgu _ _ w v (hb _) h
   simp only at this
   omega
 | _ => intro w v hb; exact hb.elim
theorem zhv {α β : Type} {P : Program} : ∀ (e : Sem α) (f : α → Sem β), zbn P e → (∀ a, zbn P (f a)) → zbn P (e.bind f) := by
 intro e
 induction e with
 | pure a => intro f _ hf; exact hf a
 | halt x => intro f _ _; trivial
 | program k ih => intro f hb hf; exact ih P f hb hf
 | mark m k ih => intro f hb hf; exact ih f hb hf
 | choose q k ih => intro f hb hf n; exact ih n f (hb n) hf
 | _ => intro f hb; exact hb.elim
theorem zah {α β : Type} {P : Program} (e : Sem α) (f : α → Sem β) (he : zbn P e) (hf : ∀ a, zbn P (f a)) : zbn P (e >>= f) := zhv e f he hf
theorem zaZ {β : Type} {P : Program} {t : TypeId} {f : TypeDesc → Sem β} (h : ∀ d, P.underlying t = some d → zbn P (f d)) : zbn P (underlying t >>= f) := by
 show zbn P ((match P.underlying t with | some d => pure d | none => stuck "no such type" : Sem TypeDesc).bind f)
 cases hd : P.underlying t with
 | none => trivial
 | some d => exact h d hd
theorem zeN {P : Program} (t : TypeId) : zbn P (typeInfo t) := by
 show zbn P (match P.info? t with | some i => pure i | none => stuck "no such type" : Sem TypeInfo)
 cases P.info? t <;> trivial
theorem zbv {P : Program} (t : TypeId) : zbn P (sizeOf t) := zah _ _ (zeN t) fun _ => trivial
theorem zbH {α : Type} {P : Program} (k : IntKind) (x y : Int) (c : BoundsCode) : zbn P (boundsPanic (α := α) k x y c) := by
 unfold boundsPanic
 split
 ·exact fun n => trivial
 ·trivial
theorem zcf {P : Program} (v : Value) : zbn P (asIntOf v) := by
 unfold asIntOf; split <;> trivial
theorem zgv {P : Program} (t : TypeId) : zbn P (isAgg t) := by
 unfold isAgg
 refine zaZ fun d _ => ?_
 split <;> trivial
theorem zgw {P : Program} (v : Value) : zbn P (asAgg v) := by
 unfold asAgg; split <;> trivial
theorem zeU {P : Program} (t : TypeId) (cs : Array Value) (off : Nat) : zbn P (part t cs off) := by
 unfold part
 refine zah _ _ (zgv t) fun b => ?_
 split
 ·exact zah _ _ (zbv t) fun _ => trivial
 ·split <;> trivial
theorem zb4 {P : Program} (v : Value) : zbn P (Instr.sureAddr v) := by
 unfold Instr.sureAddr; split <;> trivial
def zaT (P : Program) (N : Nat) (o : Oper) (a : Act) (w : World) : Prop :=
 ∀ v, (execOp a.eval o).run P w = .ok (.value v) w → ∀ w', Keep N w w' → (execOp a.eval o).run P w' = .ok (.value v) w'
section
variable {P : Program} {N : Nat} {o : Oper} {a : Act} {w : World}
theorem zaT.of_blind (h : zbn P (execOp a.eval o)) : zaT P N o a w := fun v hv w' _ => ziN _ w _ h hv w'
theorem zaT.move {x : Operand} (ho : o.op = .move x) : zaT P N o a w := .of_blind (by unfold execOp; rw [ho]; trivial)
theorem zaT.assign {x : Operand} (ho : o.op = .assign x) : zaT P N o a w := .of_blind (by unfold execOp; rw [ho]; trivial)
theorem ziO {op : BinOp} {x y : Int} {k k' : IntKind} {t : TypeId} : zbn P (binOp op t (.int k x) (.int k' y)) := by
 unfold binOp
 split <;> first
  | trivial
  | (unfold Op.shift; split <;> (try split) <;> trivial)
  | (split <;> first
    | trivial
    | (split <;> first
      | trivial
      | (unfold Op.intArith; split <;> trivial)
      | (unfold Op.intDiv; split <;> (try split) <;> trivial)
      | (unfold Op.intBits; dsimp only; split <;> trivial)
      | (unfold Op.intCmp; split <;> trivial)))
  | simp_all
theorem zaT.bin {op : BinOp} {t u : TypeId} {x y : Operand} {k k' : IntKind} {m n : Int} (ho : o.op = .binOp op t x y u) (hx : a.eval x = .int k m) (hy : a.eval y = .int k' n) : zaT P N o a w := .of_blind (by
 unfold execOp
 rw [ho]
 simp only [hx, hy]
 refine zah _ _ (zah _ _ ?_ fun _ => ziO) fun _ => trivial
 cases op <;> exact True.intro)
theorem zaT.un {op : UnOp} {t : TypeId} {x : Operand} (ho : o.op = .unOp op t x) : zaT P N o a w := .of_blind (by
 unfold execOp
 rw [ho]
 refine zah _ _ ?_ fun _ => trivial
 unfold Op.unary
 split <;> first | trivial | (unfold Op.intArith; trivial) | (unfold Op.intBits; trivial))
theorem zaT.conv {s d : TypeId} {x : Operand} {k k' : IntKind} {n : Int} (ho : o.op = .convert s d x) (hx : a.eval x = .int k n) (hd : P.underlying d = some (.int k')) : zaT P N o a w := .of_blind (by
 unfold execOp
 rw [ho]
 simp only [hx]
 refine zah _ _ ?_ fun _ => trivial
 unfold convert
 refine zaZ fun u _ => zaZ fun e he => ?_
 rw [hd] at he
 obtain rfl := Option.some.inj he
 cases u <;> trivial)
theorem zaT.fieldAddr {s : TypeId} {x : Operand} {f : Nat} {fs : Array Field} {fd : Field} {i : TypeInfo} (ho : o.op = .fieldAddr s x f) (hs : P.underlying s = some (.struct fs)) (hf : fs[f]? = some fd) (hi : P.info? fd.type = some i) (h0 : i.size ≠ 0) : zaT P N o a w := .of_blind (by
 unfold execOp
 rw [ho]
 refine zah _ _ ?_ fun _ => trivial
 unfold Instr.fieldAt
 refine zaZ fun d hd => ?_
 rw [hs] at hd
 obtain rfl := Option.some.inj hd
 simp only [hf]
 refine zah _ _ (zb4 _) fun ad => zah _ _ ?_ fun _ => trivial
 unfold fieldPlace
 show zbn P ((sizeOf fd.type) >>= _)
 show zbn P (((match P.info? fd.type with | some i => pure i | none => stuck "no such type" : Sem TypeInfo).bind fun i => pure i.size).bind _)
 rw [hi]
 show zbn P (if i.size = 0 then _ else _)
 rw [if_neg h0]
 trivial)
theorem zaT.indexAddr {t : TypeId} {x y : Operand} (ho : o.op = .indexAddr t x y) : zaT P N o a w := .of_blind (by
 unfold execOp
 rw [ho]
 refine zah _ _ ?_ fun _ => trivial
 unfold Instr.indexAt
 refine zah _ _ (zcf _) fun ki => zaZ fun d _ => ?_
 have tail : ∀ (r : Option Addr × Nat × TypeId), zbn P (do
   let (base, len, elem) := r
   let tiny := len ≤ 1 && (match ← underlying t with | .array .. => true | _ => false)
   match base with
   | some a =>
    if 0 ≤ ki.2 ∧ ki.2 < len then pure (.pointer (some (a.add (ki.2.toNat * (← sizeOf elem)))))
    else if tiny then unsupported (.noEntry "op/indexAddr.an index out of range at an array of length 0 or 1 (ledger 616)")
    else boundsPanic ki.1 ki.2 len .index
   | none => boundsPanic ki.1 ki.2 0 .index : Sem Value) := by
  rintro ⟨base, len, elem⟩
  refine zaZ fun d2 _ => ?_
  cases base with
  | none => exact zbH _ _ _ _
  | some ad => repeat' (first | exact zbH _ _ _ _ | exact zah _ _ (zbv _) (fun _ => trivial) | trivial | split | (dsimp only; split))
 split
 ·dsimp only; exact zah _ _ (zb4 _) (fun _ => zah _ _ trivial tail)
 ·dsimp only; exact zah _ _ trivial tail
 ·trivial)
theorem zaT.nilCheck {x : Operand} {p : Addr} (ho : o.op = .nilCheck x) (hx : a.eval x = .pointer (some p)) : zaT P N o a w := .of_blind (by
 unfold execOp
 rw [ho]
 simp only [hx]
 trivial)
theorem zaT.extract {x : Operand} {i : Nat} (ho : o.op = .extract x i) : zaT P N o a w := .of_blind (by
 unfold execOp
 rw [ho]
 refine zah _ _ ?_ fun _ => trivial
 unfold Instr.extract
 split <;> (try split) <;> trivial)
theorem zaT.index {t : TypeId} {x y : Operand} (ho : o.op = .index t x y) : zaT P N o a w := .of_blind (by
 unfold execOp
 rw [ho]
 refine zah _ _ ?_ fun _ => trivial
 unfold Instr.index
 refine zah _ _ (zcf _) fun ki => zaZ fun d _ => ?_
 split
 ·split
  ·exact zah _ _ (zbv _) fun _ => zeU _ _ _
  ·exact zbH _ _ _ _
 ·split
  ·trivial
  ·exact zbH _ _ _ _
 ·trivial)
theorem zaT.field {t : TypeId} {x : Operand} {f : Nat} (ho : o.op = .field t x f) : zaT P N o a w := .of_blind (by
 unfold execOp
 rw [ho]
 refine zah _ _ ?_ fun _ => trivial
 unfold Instr.field
 refine zaZ fun d _ => ?_
 split
 ·split
  ·exact zah _ _ (zgw _) fun _ => zeU _ _ _
  ·trivial
 ·trivial)
theorem zbq (x : Value) (y : Nat) (c : BoundsCode) : zbn P (Instr.sliceBound x y c) := by
 unfold Instr.sliceBound
 refine zah _ _ (zcf _) ?_
 rintro ⟨k, i⟩
 dsimp only
 split
 ·trivial
 ·exact zbH _ _ _ _
theorem zbi (b : Bool) (l c : Nat) (lo hi mx : Option Value) : zbn P (Instr.sliceBounds b l c lo hi mx) := by
 unfold Instr.sliceBounds
 have h3 : ∀ m h : Nat, zbn P ((do
   let l ← match lo with
    | some v => Instr.sliceBound v h (if mx.isSome then .slice3C else .sliceB)
    | none => pure 0
   pure (l, h, m) : Sem (Nat × Nat × Nat))) := by
  intro m h
  cases lo with
  | none => trivial
  | some v => exact zah _ _ (zbq _ _ _) fun _ => trivial
 have h2 : ∀ m : Nat, zbn P ((do
   let h ← match hi, mx with
    | some v, some _ => Instr.sliceBound v m .slice3B
    | some v, none => Instr.sliceBound v m (if b then .sliceAcap else .sliceAlen)
    | none, none => pure l
    | none, some _ => stuck "Slice: max without high"
   let l ← match lo with
    | some v => Instr.sliceBound v h (if mx.isSome then .slice3C else .sliceB)
    | none => pure 0
   pure (l, h, m) : Sem (Nat × Nat × Nat))) := by
  intro m
  cases hi with
  | none => cases mx with
   | none => exact h3 _ _
   | some v => trivial
  | some u => cases mx with
   | none => exact zah _ _ (zbq _ _ _) fun _ => h3 _ _
   | some v => exact zah _ _ (zbq _ _ _) fun _ => h3 _ _
 cases mx with
 | none => exact h2 _
 | some v => exact zah _ _ (zbq _ _ _) fun _ => h2 _
theorem zaT.slice {t : TypeId} {x : Operand} {lo hi mx : Option Operand} (ho : o.op = .slice t x lo hi mx) : zaT P N o a w := .of_blind (by
 unfold execOp
 rw [ho]
 refine zah _ _ ?_ fun _ => trivial
 unfold Instr.sliceAt
 refine zaZ fun d _ => ?_
 split
 ·exact zah _ _ (zb4 _) fun _ => zah _ _ (zbi _ _ _ _ _ _) fun _ => zah _ _ (zbv _) fun _ => trivial
 ·unfold Instr.slice
  refine zaZ fun d2 _ => ?_
  split
  ·split
   ·trivial
   ·exact zah _ _ (zbi _ _ _ _ _ _) fun _ => trivial
  ·exact zah _ _ (zbi _ _ _ _ _ _) fun _ => zah _ _ (zbv _) fun _ => trivial
  ·refine zah _ _ ?_ fun ad => zaZ fun d3 _ => ?_
   ·unfold asAddr; split <;> trivial
   ·split
    ·exact zah _ _ (zbi _ _ _ _ _ _) fun _ => zah _ _ (zbv _) fun _ => trivial
    ·trivial
  ·trivial)
def zbN {α : Type} (P : Program) (b : Nat) : Sem α → Prop
 | .pure _ => True
 | .halt _ => True
 | .program k => zbN P b (k P)
 | .mark _ k => zbN P b k
 | .load _ ad k => ad.block = b ∧ ∀ v, zbN P b (k v)
 | _ => False
theorem zgx {α : Type} {b : Nat} {w w' : World} {c : Array Value} {t : TypeId} {fr : Nat × Nat} (hb : w.heap[b]? = some (.cells c t fr)) (hb' : w'.heap[b]? = some (.cells c t fr)) : ∀ (e : Sem α) (v : α), zbN P b e → e.run P w = .ok v w → e.run P w' = .ok v w' := by
 intro e
 induction e with
 | pure a => intro v _ h; simp only [Sem.run, Result.ok.injEq] at h ⊢; exact ⟨h.1, trivial⟩
 | halt x => intro v _ h; simp [Sem.run] at h
 | program k ih => intro v hl h; exact ih P v hl h
 | mark m k ih => intro v hl h; exact ih v hl h
 | load m ad k ih =>
  intro v hl h
  obtain ⟨rfl, hk⟩ := hl
  have e1 : w'.cell? ad = w.cell? ad := by unfold World.cell?; rw [hb, hb']
  simp only [Sem.run] at h ⊢
  rw [e1]
  cases hc : w.cell? ad with
  | some u => rw [hc] at h; exact ih u v (hk u) h
  | none =>
   rw [hc] at h
   have : w.farLoad P ad (m == .atomic) = .error (w.noCell ad "load: no such cell") := by unfold World.farLoad; rw [hb]
   rw [this] at h
   simp at h
 | _ => intro v hl; exact hl.elim
theorem zbg {α β : Type} {b : Nat} : ∀ (e : Sem α) (f : α → Sem β), zbN P b e → (∀ a, zbN P b (f a)) → zbN P b (e.bind f) := by
 intro e
 induction e with
 | pure a => intro f _ hf; exact hf a
 | halt x => intro f _ _; trivial
 | program k ih => intro f hb hf; exact ih P f hb hf
 | mark m k ih => intro f hb hf; exact ih f hb hf
 | load m ad k ih => intro f hb hf; exact ⟨hb.1, fun v => ih v f (hb.2 v) hf⟩
 | _ => intro f hb; exact hb.elim
theorem zbI {b off : Nat} : ∀ (n i : Nat) (acc : Array Value), zbN P b (loadCellsFrom ⟨b, off, none⟩ i n acc)
 | 0, _, _ => trivial
 | n + 1, i, acc => by
  unfold loadCellsFrom
  refine zbg _ _ ⟨?_, fun _ => trivial⟩ fun v => zbI n (i + 1) _
  rw [zcu]
theorem zen {b off : Nat} {t : TypeId} : zbN P b (loadVar t ⟨b, off, none⟩) := by
 unfold loadVar
 refine zbg _ _ ?_ fun g => ?_
 ·unfold isAgg
  refine zbg _ _ ?_ fun d => ?_
  ·show zbN P b (match P.underlying t with | some d => pure d | none => stuck "no such type" : Sem TypeDesc)
   cases P.underlying t <;> trivial
  ·split <;> trivial
 ·split
  ·refine zbg _ _ ?_ fun n => zbg _ _ (zbI _ _ _) ?_
   ·unfold sizeOf
    refine zbg _ _ ?_ ?_
    ·show zbN P b (match P.info? t with | some i => pure i | none => stuck "no such type" : Sem TypeInfo)
     cases P.info? t <;> trivial
    ·intro _; trivial
   ·intro _; trivial
  ·exact ⟨rfl, fun _ => trivial⟩
theorem zaT.load {t : TypeId} {x : Operand} {b off : Nat} {c : Array Value} {u : TypeId} {fr : Nat × Nat} (ho : o.op = .load t x) (hx : a.eval x = .pointer (some ⟨b, off, none⟩)) (hb : b < N) (hc : w.heap[b]? = some (.cells c u fr)) : zaT P N o a w := by
 intro v hv w' hk
 have hc' : w'.heap[b]? = some (.cells c u fr) := by rw [hk b hb]; exact hc
 unfold execOp at hv ⊢
 rw [ho] at hv ⊢
 simp only [hx] at hv ⊢
 refine zgx hc hc' _ _ ?_ hv
 show zbN P b ((loadVar t ⟨b, off, none⟩).bind _)
 refine zbg _ _ zen ?_
 intro _
 trivial
end
section
variable {P : Program} {ops : Array Oper} {Q : Exit → Act → World → Prop} {md : Region.Mode} {S : World → Prop}
def zcc (P : Program) (md : Region.Mode) (ops : Array Oper) (Q : Exit → Act → World → Prop) (S : World → Prop) (n : Nat) (L : Array Bool → Act → World → Prop) : Nat → Array Bool → Act → World → Prop
 | 0, listed, a, w => L listed a w
 | f + 1, listed, a, w =>
  Region.ready md ops listed ≠ [] ∧ ∀ i ∈ Region.ready md ops listed, i < n ∧ wpOp P ops Q i (fun a' w' => S w' ∧ zcc P md ops Q S n L f (listed.setIfInBounds i true) a' w') a w
theorem zbE {n g : Nat} {L : Array Bool → Act → World → Prop} (hL : ∀ listed a w, L listed a w → wpAny P md ops Q g listed a w) :
  ∀ (f : Nat) (listed : Array Bool) (a : Act) (w : World), zcc P md ops Q S n L f listed a w → wpAny P md ops Q (f + g) listed a w
 | 0, listed, a, w, h => by rw [Nat.zero_add]; exact hL _ _ _ h
 | f + 1, listed, a, w, h => by
  rw [show f + 1 + g = (f + g) + 1 by omega]
  exact ⟨fun h0 => absurd h0 h.1, fun i hi => wpOp_mono (fun a' w' h' => zbE hL f _ a' w' h'.2) (h.2 i hi).2⟩
theorem zdP {n i : Nat} {oi : Oper} {v : Value} {L : Array Bool → Act → World → Prop} (hi : ops[i]? = some oi) (hsel : ∀ (j : Nat) (o : Oper) cs b, ops[j]? = some o → o.op ≠ .select cs b)
  (hQ : ∀ c a w, Q (.panic c) (a.put oi.dst v) w → Q (.panic c) a w)
  (hs : Region.sinkB md ops n = true) (hc : Region.chainB md ops n = true) (hn : n < ops.size) (hin : i < n)
  (hdone : ∀ listed a w, L listed a w → ∀ j ∈ Region.ready md ops listed, n ≤ j) :
  ∀ (f : Nat) (listed : Array Bool) (a : Act) (w : World), HeadInv md ops n listed →
   (∀ j oj, ops[j]? = some oj → j ≠ i → listed.getD j true = false → (∀ e ∈ oj.after, Region.binds md e = true → e.on ≠ i) → oi.apart ops oj = true) →
   i ∈ Region.ready md ops listed → YieldsIf P ops S oi v a → S w →
   zcc P md ops Q S n L f (listed.setIfInBounds i true) (a.put oi.dst v) w → zcc P md ops Q S n L (f + 1) listed a w := by
 intro f
 induction f with
 | zero =>
  intro listed a w inv _ hr hy hS H
  have hun := (mem_ready.1 hr).1
  refine ⟨fun h => (by rw [h] at hr; cases hr), fun j hj => ?_⟩
  have hjn : j < n := by
   rcases Nat.lt_or_ge j n with h | h
   ·exact h
   ·exact absurd hj (tail_waits hs hc hn inv _ i rfl hin hun j h)
  refine ⟨hjn, ?_⟩
  by_cases hji : j = i
  ·subst hji; exact hy.wpOp hi hS ⟨hS, H⟩
  ·have := hdone _ _ _ H j (ready_mono hj hji)
   omega
 | succ f ih =>
  intro listed a w inv hfree hr hy hS H
  have hun := (mem_ready.1 hr).1
  refine ⟨fun h => (by rw [h] at hr; cases hr), fun j hj => ?_⟩
  have hjn : j < n := by
   rcases Nat.lt_or_ge j n with h | h
   ·exact h
   ·exact absurd hj (tail_waits hs hc hn inv _ i rfl hin hun j h)
  refine ⟨hjn, ?_⟩
  by_cases hji : j = i
  ·subst hji; exact hy.wpOp hi hS ⟨hS, H⟩
  ·have h1 := (H.2 j (ready_mono hj hji)).2
   obtain ⟨hjun, oj, hoj, hall⟩ := mem_ready.1 hj
   have hnot : ∀ e ∈ oj.after, Region.binds md e = true → e.on ≠ i := fun e he hb heq => by
    have h1 := hall e he hb
    rw [heq, getD_both hun] at h1
    cases h1
   have h2 := wpOp_putIf hoj (hfree j oj hoj hji hjun hnot) (fun cs b => hsel i oi cs b hi) (fun cs b => hsel j oj cs b hoj) hQ hy h1
   have hfree' : ∀ k ok, ops[k]? = some ok → k ≠ i → (listed.setIfInBounds j true).getD k true = false →
     (∀ e ∈ ok.after, Region.binds md e = true → e.on ≠ i) → oi.apart ops ok = true := fun k ok hk hki hun hno => by
    refine hfree k ok hk hki ?_ hno
    by_cases hjk : j = k
    ·subst hjk; exact hjun
    ·rw [getD_set_ne true hjk] at hun; exact hun
   refine wpOp_mono (fun a' w' h3 => ⟨h3.2.1, ih (listed.setIfInBounds j true) a' w' (inv.set hj hjn) hfree' (ready_mono hr (Ne.symm hji)) h3.1 h3.2.1 ?_⟩) h2
   rw [Array.setIfInBounds_comm _ _ hji]
   exact h3.2.2
def wpCan (P : Program) (ops : Array Oper) (Q : Exit → Act → World → Prop) (N : Nat) (T : Act → World → Prop) : List (Oper × Bool) → Act → World → Prop
 | [], a, w => T a w
 | (o, false) :: p, a, w => ∃ v, ((Region.wanted o (yielded ops a.tmps) = true ∧ (execOp a.eval o).run P w = .ok (.value v) w ∧ zaT P N o a w) ∨ (Region.wanted o (yielded ops a.tmps) = false ∧ v = undef)) ∧
   (∀ c a w, Q (.panic c) (a.put o.dst v) w → Q (.panic c) a w) ∧ wpCan P ops Q N T p (a.put o.dst v) w
 | (o, true) :: p, a, w => if Region.wanted o (yielded ops a.tmps) then o.wp P a w (fun a' w' => Keep N w w' ∧ wpCan P ops Q N T p a' w') Q else wpCan P ops Q N T p (a.put o.dst undef) w
def canOps (l : List Oper) : List (Nat × Bool) → List (Oper × Bool)
 | [] => []
 | (i, b) :: p => match l[i]? with | some o => (o, b) :: canOps l p | none => []
def zdF (md : Region.Mode) (ops : Array Oper) (n : Nat) : List (Nat × Bool) → Array Bool → Bool
 | [], listed => Region.seqB md ops (ops.size - n) n listed
 | (i, false) :: p, listed => decide (i < n) && (Region.ready md ops listed).contains i && Region.free md ops listed i && zdF md ops n p (listed.setIfInBounds i true)
 | (i, true) :: p, listed => decide (i < n) && decide (Region.ready md ops listed = [i]) && zdF md ops n p (listed.setIfInBounds i true)
def canB (md : Region.Mode) (ops : Array Oper) (n : Nat) (p : List (Nat × Bool)) : Bool :=
 Region.noSelect ops && decide (n < ops.size) && decide (p.length = n) && Region.sinkB md ops n && Region.chainB md ops n && zdF md ops n p (Array.replicate ops.size false)
theorem zcH {N n : Nat} {w0 : World} {T : Act → World → Prop} {l : List Oper} (hsel : Region.noSelect l.toArray = true) (hs : Region.sinkB md l.toArray n = true) (hc : Region.chainB md l.toArray n = true) (hn : n < l.length) :
  ∀ (p : List (Nat × Bool)) (listed : Array Bool) (a : Act) (w : World), HeadInv md l.toArray n listed → zdF md l.toArray n p listed = true → Keep N w0 w → wpCan P l.toArray Q N T (canOps l p) a w →
   zcc P md l.toArray Q (Keep N w0) n (fun listed' a' w' => Region.seqB md l.toArray (l.toArray.size - n) n listed' = true ∧ T a' w') p.length listed a w
 | [], listed, a, w, _, hB, _, h => ⟨hB, h⟩
 | (i, false) :: p, listed, a, w, inv, hB, hk, h => by
  simp only [zdF, Bool.and_eq_true, jS] at hB
  obtain ⟨⟨⟨hin, hr⟩, hf⟩, hB'⟩ := hB
  have hil : i < l.length := by omega
  have ho : l.toArray[i]? = some l[i] := by simp [hil]
  simp only [canOps, jP hil] at h
  obtain ⟨v, hv, hQ, hK⟩ := h
  have hr' : i ∈ Region.ready md l.toArray listed := by simpa using hr
  have hy : YieldsIf P l.toArray (Keep N w0) l[i] v a := by
   rcases hv with ⟨hw, hrun, hfr⟩ | ⟨hw, hv⟩
   ·exact .inl ⟨hw, fun w' hw' => hfr v hrun w' (hk.symm.trans hw')⟩
   ·exact .inr ⟨hw, hv⟩
  exact zdP ho (Region.noSelect_spec hsel) hQ hs hc (by simpa using hn) hin (fun listed' a' w' hL => seqB_ready hL.1) p.length listed a w inv (Region.free_spec ho hf) hr' hy hk
   (zcH hsel hs hc hn p _ _ _ (inv.set hr' hin) hB' hk hK)
 | (i, true) :: p, listed, a, w, inv, hB, hk, h => by
  simp only [zdF, Bool.and_eq_true, jS] at hB
  obtain ⟨⟨hin, hr⟩, hB'⟩ := hB
  have hil : i < l.length := by omega
  have ho : l.toArray[i]? = some l[i] := by simp [hil]
  simp only [canOps, jP hil] at h
  have hw : if Region.wanted l[i] (yielded l.toArray a.tmps) then l[i].wp P a w (fun a' w' => Keep N w w' ∧ wpCan P l.toArray Q N T (canOps l p) a' w') Q else wpCan P l.toArray Q N T (canOps l p) (a.put l[i].dst undef) w := h
  have hr' : i ∈ Region.ready md l.toArray listed := by rw [hr]; simp
  refine ⟨fun h0 => (by rw [h0] at hr; cases hr), fun j hj => ?_⟩
  rw [hr] at hj
  obtain rfl : j = i := by simpa using hj
  refine ⟨hin, ?_⟩
  unfold wpOp
  simp only [ho]
  split
  ·rename_i hwt
   rw [if_pos hwt] at hw
   exact .inl (Oper.wp_mono (fun a' w' h' => ⟨hk.trans h'.1, zcH hsel hs hc hn p _ _ _ (inv.set hr' hin) hB' (hk.trans h'.1) h'.2⟩) hw)
  ·rename_i hwt
   rw [if_neg hwt] at hw
   exact ⟨hk, zcH hsel hs hc hn p _ _ _ (inv.set hr' hin) hB' hk hw⟩
theorem wp_region_can {id : Nat} {a : Act} {w : World} {l : List Oper} (N n : Nat) (p : List (Nat × Bool)) (hm : P.follows .mixedOrders = true) (hB : canB .any l.toArray n p = true)
  (h : wpCan P l.toArray Q N (fun a' w' => wpList P l.toArray Q (l.drop n) a' w') (canOps l p) a w.drew) : (Code.region id l.toArray true).wp P Q a w := by
 simp only [canB, Bool.and_eq_true, jS] at hB
 obtain ⟨⟨⟨⟨⟨hsel, hn⟩, hp⟩, hs⟩, hc⟩, hcan⟩ := hB
 have inv0 : HeadInv .any l.toArray n (Array.replicate l.toArray.size false) :=
  ⟨by simp, fun j oj _ hl => (by rw [getD_replicate_false] at hl; cases hl), fun t _ ht => getD_in (by simpa using ht) (getD_replicate_false _ _)⟩
 have H := zcH (md := .any) (w0 := w.drew) hsel hs hc (by simpa using hn) p _ a _ inv0 hcan (Keep.refl _ _) h
 refine wp_region_any hm ?_
 have hdl : (l.drop n).length = l.toArray.size - n := by simp
 have := zbE (g := l.toArray.size - n) (fun listed a' w' hL => by
  have := wpAny_of_seq (md := .any) (Q' := Q) (l.drop n) n listed a' w' (fun j => by simp [List.getElem?_drop]) (by rw [hdl]; exact hL.1) hL.2
  rwa [hdl] at this) _ _ _ _ H
 rw [hp, show n + (l.toArray.size - n) = l.toArray.size by omega] at this
 exact this
variable {N : Nat} {T : Act → World → Prop} {p : List (Oper × Bool)} {o : Oper} {a : Act} {w : World}
theorem wpCan_nil (h : T a w) : wpCan P ops Q N T [] a w := h
def zgS : Op → Bool
 | .binOp .. | .unOp .. | .convert .. | .fieldAddr .. | .indexAddr .. | .index .. | .field .. | .extract .. | .slice .. | .load .. => true
 | _ => false
theorem zfb {α : Type} {e : Sem α} {f : α → Value} {w w' : World} {n : Next} (h : (e >>= fun x => pure (Next.value (f x))).run P w = .ok n w') : ∃ v, n = .value v := by
 rw [Sem.run_bind] at h
 cases hr : e.run P w with
 | ok x w1 => rw [hr] at h; simp only [Result.andThen_ok, Sem.run_pure, Result.ok.injEq] at h; exact ⟨_, h.1.symm⟩
 | halt x w1 => rw [hr] at h; simp at h
theorem zfH {o : Oper} {ρ : Operand → Value} {w w' : World} {n : Next} (hq : zgS o.op = true) (h : (execOp ρ o).run P w = .ok n w') : ∃ v, n = .value v := by
 unfold execOp at h
 cases ho : o.op <;> rw [ho] at hq <;> first | (exact absurd hq Bool.false_ne_true) | (rw [ho] at h; exact zfb (f := id) h)
theorem za3 (hg : Region.wanted o (yielded ops a.tmps) = true) (ht : zgS o.op = true) (hQ : ∀ c a v w, Q (.panic c) (a.put o.dst v) w → Q (.panic c) a w) (hf : zaT P N o a w) (h : ∀ K : Act → Prop, (∀ a, wpCan P ops Q N T p a w → K a) → o.still P a w K) :
  wpCan P ops Q N T ((o, false) :: p) a w := by
 have h1 := h _ (fun _ h => h)
 unfold Oper.still at h1
 generalize hr : (execOp a.eval o).run P w = r at h1
 cases r with
 | ok x w' =>
  obtain ⟨v, rfl⟩ := zfH ht hr
  simp only [Oper.stillUpon] at h1
  obtain ⟨rfl, h2⟩ := h1
  exact ⟨v, .inl ⟨hg, hr, hf⟩, fun c a w => hQ c a _ w, h2⟩
 | halt x w' => simp only [Oper.stillUpon] at h1
theorem wpCan_v {v : Value} (hg : Region.wanted o (yielded ops a.tmps) = true) (hQ : ∀ c a v w, Q (.panic c) (a.put o.dst v) w → Q (.panic c) a w) (hf : zaT P N o a w) (hr : (execOp a.eval o).run P w = .ok (.value v) w) (h : wpCan P ops Q N T p (a.put o.dst v) w) :
  wpCan P ops Q N T ((o, false) :: p) a w := ⟨v, .inl ⟨hg, hr, hf⟩, fun c a w => hQ c a _ w, h⟩
theorem wpCan_e (hg : Region.wanted o (yielded ops a.tmps) = true) (h : ∀ K : Act → World → Prop, (∀ a' w', Keep N w w' → wpCan P ops Q N T p a' w' → K a' w') → o.wp P a w K Q) :
  wpCan P ops Q N T ((o, true) :: p) a w := by
 unfold wpCan
 rw [if_pos hg]
 exact h _ (fun _ _ hk h => ⟨hk, h⟩)
theorem zaA {x : Operand} (hg : Region.wanted o (yielded ops a.tmps) = true) (hop : o.op = .move x) (hQ : ∀ c a v w, Q (.panic c) (a.put o.dst v) w → Q (.panic c) a w) (h : wpCan P ops Q N T p (a.put o.dst (a.eval x)) w) :
  wpCan P ops Q N T ((o, false) :: p) a w := wpCan_v hg hQ (.move hop) (by unfold execOp; rw [hop]; rfl) h
theorem zas {x : Operand} (hg : Region.wanted o (yielded ops a.tmps) = true) (hop : o.op = .assign x) (hQ : ∀ c a v w, Q (.panic c) (a.put o.dst v) w → Q (.panic c) a w) (h : wpCan P ops Q N T p (a.put o.dst (a.eval x)) w) :
  wpCan P ops Q N T ((o, false) :: p) a w := wpCan_v hg hQ (.assign hop) (by unfold execOp; rw [hop]; rfl) h
theorem zao {x : Operand} {q : Addr} (hg : Region.wanted o (yielded ops a.tmps) = true) (hop : o.op = .nilCheck x) (hx : a.eval x = .pointer (some q)) (hQ : ∀ c a v w, Q (.panic c) (a.put o.dst v) w → Q (.panic c) a w) (h : wpCan P ops Q N T p (a.put o.dst (.pointer (some q))) w) :
  wpCan P ops Q N T ((o, false) :: p) a w := wpCan_v hg hQ (.nilCheck hop hx) (by unfold execOp; rw [hop]; simp only [hx]; rfl) h
theorem zaq {ty : TypeId} {x : Operand} {n t g : Nat} {k : IntKind} {f : Nat → Int} {fr : Nat × Nat} (hgd : Region.wanted o (yielded ops a.tmps) = true) (hop : o.op = .load ty x) (hx : a.eval x = .pointer (some ⟨g, 0, none⟩)) (hQ : ∀ c a v w, Q (.panic c) (a.put o.dst v) w → Q (.panic c) a w) (hT : zeT P ty n)
  (hN : g < N) (hg : w.heap[g]? = some (.cells (arr k n f) t fr)) (h : wpCan P ops Q N T p (a.put o.dst (.agg (arr k n f))) w) : wpCan P ops Q N T ((o, false) :: p) a w :=
 wpCan_v hgd hQ (.load hop hx hN hg) (zce hop hx (zbM hT hg)) h
theorem zdL {ty : TypeId} {x : Operand} {n M t g off : Nat} {k : IntKind} {f : Nat → Int} {fr : Nat × Nat} (hgd : Region.wanted o (yielded ops a.tmps) = true) (hop : o.op = .load ty x) (hx : a.eval x = .pointer (some ⟨g, off, none⟩)) (hQ : ∀ c a v w, Q (.panic c) (a.put o.dst v) w → Q (.panic c) a w) (hT : zeT P ty n)
  (hN : g < N) (hg : w.heap[g]? = some (.cells (arr k M f) t fr)) (hle : off + n ≤ M) (h : wpCan P ops Q N T p (a.put o.dst (.agg (arr k n fun i => f (off + i)))) w) : wpCan P ops Q N T ((o, false) :: p) a w :=
 wpCan_v hgd hQ (.load hop hx hN hg) (zce hop hx (zck hT hg hle)) h
theorem zb8 {ty n : Nat} {k : IntKind} (hgd : Region.wanted o (yielded ops a.tmps) = true) (hop : o.op = .alloc ty) (hz : zcy P ty k n) (hN : N ≤ w.heap.size)
  (h : wpCan P ops Q N T p (a.put o.dst (.pointer (some ⟨w.heap.size, 0, none⟩))) (w.alloc (.cells (arr k n fun _ => 0) ty))) : wpCan P ops Q N T ((o, true) :: p) a w :=
 wpCan_e hgd fun K hK => by unfold Oper.wp; rw [zdd hop hz]; exact hK _ _ (Keep.alloc _ _ hN) h
theorem zdm {ty : TypeId} {x y : Operand} {n t g : Nat} {k : IntKind} {f f' : Nat → Int} (hgd : Region.wanted o (yielded ops a.tmps) = true) (hop : o.op = .store ty x y) (hx : a.eval x = .pointer (some ⟨g, 0, none⟩)) (hy : a.eval y = .agg (arr k n f'))
  (hT : zeT P ty n) (hN : N ≤ g) (hg : w.heap[g]? = some (.cells (arr k n f) t (0, 0))) (h : wpCan P ops Q N T p (a.put o.dst undef) (w.setRow g (arr k n f'))) : wpCan P ops Q N T ((o, true) :: p) a w :=
 wpCan_e hgd fun K hK => by
  have hr := zdc hop hx hy (zc4 (off := 0) hT hg (by omega))
  rw [show arr k n (zcU f 0 n f') = arr k n f' from zcd fun i hi => zfa _ _ _ _ hi] at hr
  unfold Oper.wp
  rw [hr]
  exact hK _ _ (fun b hb => setRow_other _ _ _ _ (by omega)) h
theorem zcz {v : Value} (hg : Region.wanted o (yielded ops a.tmps) = true) (hQ : ∀ c a v w, Q (.panic c) (a.put o.dst v) w → Q (.panic c) a w) (hr : ∀ w', (execOp a.eval o).run P w' = .ok (.value v) w') (h : wpCan P ops Q N T p (a.put o.dst v) w) :
  wpCan P ops Q N T ((o, false) :: p) a w := wpCan_v hg hQ (fun u hu w' _ => by
   have h1 := hr w
   rw [hu] at h1
   simp only [Result.ok.injEq, Next.value.injEq] at h1
   rw [h1.1]; exact hr w') (hr w) h
def zhR (P : Program) (s : TypeId) (f : Nat) : Prop := ∃ fs fd n, P.underlying s = some (.struct fs) ∧ fs[f]? = some fd ∧ (P.info? fd.type).map (·.size) = some (n + 1)
theorem zaT.fieldT {s : TypeId} {x : Operand} {f : Nat} (ho : o.op = .fieldAddr s x f) (h : zhR P s f) : zaT P N o a w := by
 obtain ⟨fs, fd, n, hs, hf, hi⟩ := h
 cases hq : P.info? fd.type with
 | none => simp [hq] at hi
 | some i =>
  have h1 : i.size = n + 1 := by simpa [hq] using hi
  exact .fieldAddr ho hs hf hq (by omega)
theorem zcg {ty : TypeId} {x : Operand} {n M t g off : Nat} {k : IntKind} {f : Nat → Int} {fr : Nat × Nat} (f' : Nat → Int) (hgd : Region.wanted o (yielded ops a.tmps) = true) (hop : o.op = .load ty x) (hx : a.eval x = .pointer (some ⟨g, off, none⟩)) (hQ : ∀ c a v w, Q (.panic c) (a.put o.dst v) w → Q (.panic c) a w) (hT : zeT P ty n)
  (hN : g < N) (hg : w.heap[g]? = some (.cells (arr k M f) t fr)) (hle : off + n ≤ M) (hf : ∀ i, i < n → f (off + i) = f' i) (h : wpCan P ops Q N T p (a.put o.dst (.agg (arr k n f'))) w) : wpCan P ops Q N T ((o, false) :: p) a w :=
 zdL hgd hop hx hQ hT hN hg hle (by rw [zcd hf]; exact h)
end
end
namespace CanB
open Go.RowKit
def Keep (N : Nat → Prop) (w w' : World) : Prop := ∀ b, N b → w'.heap[b]? = w.heap[b]?
theorem Keep.refl (N : Nat → Prop) (w : World) : Keep N w w := fun _ _ => rfl
theorem Keep.trans {N : Nat → Prop} {a b c : World} (h : Keep N a b) (k : Keep N b c) : Keep N a c := fun i hi => (k i hi).trans (h i hi)
theorem Keep.symm {N : Nat → Prop} {a b : World} (h : Keep N a b) : Keep N b a := fun i hi => (h i hi).symm
theorem Keep.of_below {N : Nat → Prop} {B : Nat} {a b : World} (h : Below B a b) (hN : ∀ i, N i → i < B) : Keep N a b := fun i hi => h.block i (hN i hi)
theorem Keep.alloc {N : Nat → Prop} (w : World) (x : Obj) (hN : ∀ i, N i → i < w.heap.size) : Keep N w (w.alloc x) := fun i hi => Below.heap_alloc _ _ _ (hN i hi)
theorem Keep.drew {N : Nat → Prop} (w : World) : Keep N w w.drew := fun _ _ => rfl
theorem Keep.drewN {N : Nat → Prop} {n : Nat} (w : World) : Keep N w (w.drewN n) := fun _ _ => rfl
def zbn {α : Type} (P : Program) : Sem α → Prop
 | .pure _ => True
 | .halt _ => True
 | .program k => zbn P (k P)
 | .mark _ k => zbn P k
 | .choose _ k => ∀ n, zbn P (k n)
 | _ => False
theorem zgu {α : Type} {P : Program} : ∀ (e : Sem α) (w w1 : World) (v : α), zbn P e → e.run P w = .ok v w1 → w.drawn ≤ w1.drawn := by
 intro e
 induction e with
 | pure a => intro w w1 v _ h; simp only [Sem.run, Result.ok.injEq] at h; rw [h.2]; exact jV _
 | halt x => intro w w1 v _ h; simp [Sem.run] at h
 | program k ih => intro w w1 v hb h; exact ih P w w1 v hb h
 | mark m k ih => intro w w1 v hb h; exact ih w w1 v hb h
 | choose q k ih =>
  intro w w1 v hb h
  simp only [Sem.run] at h
  split at h
  ·exact ih _ w w1 v (hb _) h
  ·have := ih _ _ w1 v (hb _) h
   simp only at this
   omega
 | _ => intro w w1 v hb; exact hb.elim
theorem ziN {α : Type} {P : Program} : ∀ (e : Sem α) (w : World) (v : α), zbn P e → e.run P w = .ok v w → ∀ w', e.run P w' = .ok v w' := by
 intro e
 induction e with
 | pure a => intro w v _ h w'; simp only [Sem.run, Result.ok.injEq] at h ⊢; exact ⟨h.1, trivial⟩
 | halt x => intro w v _ h; simp [Sem.run] at h
 | program k ih => intro w v hb h w'; exact ih P w v hb h w'
 | mark m k ih => intro w v hb h w'; exact ih w v hb h w'
 | choose q k ih =>
  intro w v hb h w'
  simp only [Sem.run] at h ⊢
  split at h
  ·rename_i hf; rw [if_pos hf]; exact ih _ w v (hb _) h w'
  ·have := zgu _ _ w v (hb _) h
   simp only at this
   omega
 | _ => intro w v hb; exact hb.elim
theorem zhv {α β : Type} {P : Program} : ∀ (e : Sem α) (f : α → Sem β), zbn P e → (∀ a, zbn P (f a)) → zbn P (e.bind f) := by
 intro e
 induction e with
 | pure a => intro f _ hf; exact hf a
 | halt x => intro f _ _; trivial
 | program k ih => intro f hb hf; exact ih P f hb hf
 | mark m k ih => intro f hb hf; exact ih f hb hf
 | choose q k ih => intro f hb hf n; exact ih n f (hb n) hf
 | _ => intro f hb; exact hb.elim
theorem zah {α β : Type} {P : Program} (e : Sem α) (f : α → Sem β) (he : zbn P e) (hf : ∀ a, zbn P (f a)) : zbn P (e >>= f) := zhv e f he hf
theorem zaZ {β : Type} {P : Program} {t : TypeId} {f : TypeDesc → Sem β} (h : ∀ d, P.underlying t = some d → zbn P (f d)) : zbn P (underlying t >>= f) := by
 show zbn P ((match P.underlying t with | some d => pure d | none => stuck "no such type" : Sem TypeDesc).bind f)
 cases hd : P.underlying t with
 | none => trivial
 | some d => exact h d hd
theorem zeN {P : Program} (t : TypeId) : zbn P (typeInfo t) := by
 show zbn P (match P.info? t with | some i => pure i | none => stuck "no such type" : Sem TypeInfo)
 cases P.info? t <;> trivial
theorem zbv {P : Program} (t : TypeId) : zbn P (sizeOf t) := zah _ _ (zeN t) fun _ => trivial
theorem zbH {α : Type} {P : Program} (k : IntKind) (x y : Int) (c : BoundsCode) : zbn P (boundsPanic (α := α) k x y c) := by
 unfold boundsPanic
 split
 ·exact fun n => trivial
 ·trivial
theorem zcf {P : Program} (v : Value) : zbn P (asIntOf v) := by
 unfold asIntOf; split <;> trivial
theorem zgv {P : Program} (t : TypeId) : zbn P (isAgg t) := by
 unfold isAgg
 refine zaZ fun d _ => ?_
 split <;> trivial
theorem zgw {P : Program} (v : Value) : zbn P (asAgg v) := by
 unfold asAgg; split <;> trivial
theorem zeU {P : Program} (t : TypeId) (cs : Array Value) (off : Nat) : zbn P (part t cs off) := by
 unfold part
 refine zah _ _ (zgv t) fun b => ?_
 split
 ·exact zah _ _ (zbv t) fun _ => trivial
 ·split <;> trivial
theorem zb4 {P : Program} (v : Value) : zbn P (Instr.sureAddr v) := by
 unfold Instr.sureAddr; split <;> trivial
def zaT (P : Program) (N : Nat → Prop) (o : Oper) (a : Act) (w : World) : Prop :=
 ∀ v, (execOp a.eval o).run P w = .ok (.value v) w → ∀ w', Keep N w w' → (execOp a.eval o).run P w' = .ok (.value v) w'
section
variable {P : Program} {N : Nat → Prop} {o : Oper} {a : Act} {w : World}
theorem zaT.of_blind (h : zbn P (execOp a.eval o)) : zaT P N o a w := fun v hv w' _ => ziN _ w _ h hv w'
theorem zaT.move {x : Operand} (ho : o.op = .move x) : zaT P N o a w := .of_blind (by unfold execOp; rw [ho]; trivial)
theorem zaT.assign {x : Operand} (ho : o.op = .assign x) : zaT P N o a w := .of_blind (by unfold execOp; rw [ho]; trivial)
theorem ziO {op : BinOp} {x y : Int} {k k' : IntKind} {t : TypeId} : zbn P (binOp op t (.int k x) (.int k' y)) := by
 unfold binOp
 split <;> first
  | trivial
  | (unfold Op.shift; split <;> (try split) <;> trivial)
  | (split <;> first
    | trivial
    | (split <;> first
      | trivial
      | (unfold Op.intArith; split <;> trivial)
      | (unfold Op.intDiv; split <;> (try split) <;> trivial)
      | (unfold Op.intBits; dsimp only; split <;> trivial)
      | (unfold Op.intCmp; split <;> trivial)))
  | simp_all
theorem zaT.bin {op : BinOp} {t u : TypeId} {x y : Operand} {k k' : IntKind} {m n : Int} (ho : o.op = .binOp op t x y u) (hx : a.eval x = .int k m) (hy : a.eval y = .int k' n) : zaT P N o a w := .of_blind (by
 unfold execOp
 rw [ho]
 simp only [hx, hy]
 refine zah _ _ (zah _ _ ?_ fun _ => ziO) fun _ => trivial
 cases op <;> exact True.intro)
theorem zaT.un {op : UnOp} {t : TypeId} {x : Operand} (ho : o.op = .unOp op t x) : zaT P N o a w := .of_blind (by
 unfold execOp
 rw [ho]
 refine zah _ _ ?_ fun _ => trivial
 unfold Op.unary
 split <;> first | trivial | (unfold Op.intArith; trivial) | (unfold Op.intBits; trivial))
theorem zaT.conv {s d : TypeId} {x : Operand} {k k' : IntKind} {n : Int} (ho : o.op = .convert s d x) (hx : a.eval x = .int k n) (hd : P.underlying d = some (.int k')) : zaT P N o a w := .of_blind (by
 unfold execOp
 rw [ho]
 simp only [hx]
 refine zah _ _ ?_ fun _ => trivial
 unfold convert
 refine zaZ fun u _ => zaZ fun e he => ?_
 rw [hd] at he
 obtain rfl := Option.some.inj he
 cases u <;> trivial)
theorem zaT.fieldAddr {s : TypeId} {x : Operand} {f : Nat} {fs : Array Field} {fd : Field} {i : TypeInfo} (ho : o.op = .fieldAddr s x f) (hs : P.underlying s = some (.struct fs)) (hf : fs[f]? = some fd) (hi : P.info? fd.type = some i) (h0 : i.size ≠ 0) : zaT P N o a w := .of_blind (by
 unfold execOp
 rw [ho]
 refine zah _ _ ?_ fun _ => trivial
 unfold Instr.fieldAt
 refine zaZ fun d hd => ?_
 rw [hs] at hd
 obtain rfl := Option.some.inj hd
 simp only [hf]
 refine zah _ _ (zb4 _) fun ad => zah _ _ ?_ fun _ => trivial
 unfold fieldPlace
 show zbn P ((sizeOf fd.type) >>= _)
 show zbn P (((match P.info? fd.type with | some i => pure i | none => stuck "no such type" : Sem TypeInfo).bind fun i => pure i.size).bind _)
 rw [hi]
 show zbn P (if i.size = 0 then _ else _)
 rw [if_neg h0]
 trivial)
theorem zaT.indexAddr {t : TypeId} {x y : Operand} (ho : o.op = .indexAddr t x y) : zaT P N o a w := .of_blind (by
 unfold execOp
 rw [ho]
 refine zah _ _ ?_ fun _ => trivial
 unfold Instr.indexAt
 refine zah _ _ (zcf _) fun ki => zaZ fun d _ => ?_
 have tail : ∀ (r : Option Addr × Nat × TypeId), zbn P (do
   let (base, len, elem) := r
   let tiny := len ≤ 1 && (match ← underlying t with | .array .. => true | _ => false)
   match base with
   | some a =>
    if 0 ≤ ki.2 ∧ ki.2 < len then pure (.pointer (some (a.add (ki.2.toNat * (← sizeOf elem)))))
    else if tiny then unsupported (.noEntry "op/indexAddr.an index out of range at an array of length 0 or 1 (ledger 616)")
    else boundsPanic ki.1 ki.2 len .index
   | none => boundsPanic ki.1 ki.2 0 .index : Sem Value) := by
  rintro ⟨base, len, elem⟩
  refine zaZ fun d2 _ => ?_
  cases base with
  | none => exact zbH _ _ _ _
  | some ad => repeat' (first | exact zbH _ _ _ _ | exact zah _ _ (zbv _) (fun _ => trivial) | trivial | split | (dsimp only; split))
 split
 ·dsimp only; exact zah _ _ (zb4 _) (fun _ => zah _ _ trivial tail)
 ·dsimp only; exact zah _ _ trivial tail
 ·trivial)
theorem zaT.nilCheck {x : Operand} {p : Addr} (ho : o.op = .nilCheck x) (hx : a.eval x = .pointer (some p)) : zaT P N o a w := .of_blind (by
 unfold execOp
 rw [ho]
 simp only [hx]
 trivial)
theorem zaT.extract {x : Operand} {i : Nat} (ho : o.op = .extract x i) : zaT P N o a w := .of_blind (by
 unfold execOp
 rw [ho]
 refine zah _ _ ?_ fun _ => trivial
 unfold Instr.extract
 split <;> (try split) <;> trivial)
theorem zaT.index {t : TypeId} {x y : Operand} (ho : o.op = .index t x y) : zaT P N o a w := .of_blind (by
 unfold execOp
 rw [ho]
 refine zah _ _ ?_ fun _ => trivial
 unfold Instr.index
 refine zah _ _ (zcf _) fun ki => zaZ fun d _ => ?_
 split
 ·split
  ·exact zah _ _ (zbv _) fun _ => zeU _ _ _
  ·exact zbH _ _ _ _
 ·split
  ·trivial
  ·exact zbH _ _ _ _
 ·trivial)
theorem zaT.field {t : TypeId} {x : Operand} {f : Nat} (ho : o.op = .field t x f) : zaT P N o a w := .of_blind (by
 unfold execOp
 rw [ho]
 refine zah _ _ ?_ fun _ => trivial
 unfold Instr.field
 refine zaZ fun d _ => ?_
 split
 ·split
  ·exact zah _ _ (zgw _) fun _ => zeU _ _ _
  ·trivial
 ·trivial)
theorem zbq (x : Value) (y : Nat) (c : BoundsCode) : zbn P (Instr.sliceBound x y c) := by
 unfold Instr.sliceBound
 refine zah _ _ (zcf _) ?_
 rintro ⟨k, i⟩
 dsimp only
 split
 ·trivial
 ·exact zbH _ _ _ _
theorem zbi (b : Bool) (l c : Nat) (lo hi mx : Option Value) : zbn P (Instr.sliceBounds b l c lo hi mx) := by
 unfold Instr.sliceBounds
 have h3 : ∀ m h : Nat, zbn P ((do
   let l ← match lo with
    | some v => Instr.sliceBound v h (if mx.isSome then .slice3C else .sliceB)
    | none => pure 0
   pure (l, h, m) : Sem (Nat × Nat × Nat))) := by
  intro m h
  cases lo with
  | none => trivial
  | some v => exact zah _ _ (zbq _ _ _) fun _ => trivial
 have h2 : ∀ m : Nat, zbn P ((do
   let h ← match hi, mx with
    | some v, some _ => Instr.sliceBound v m .slice3B
    | some v, none => Instr.sliceBound v m (if b then .sliceAcap else .sliceAlen)
    | none, none => pure l
    | none, some _ => stuck "Slice: max without high"
   let l ← match lo with
    | some v => Instr.sliceBound v h (if mx.isSome then .slice3C else .sliceB)
    | none => pure 0
   pure (l, h, m) : Sem (Nat × Nat × Nat))) := by
  intro m
  cases hi with
  | none => cases mx with
   | none => exact h3 _ _
   | some v => trivial
  | some u => cases mx with
   | none => exact zah _ _ (zbq _ _ _) fun _ => h3 _ _
   | some v => exact zah _ _ (zbq _ _ _) fun _ => h3 _ _
 cases mx with
 | none => exact h2 _
 | some v => exact zah _ _ (zbq _ _ _) fun _ => h2 _
theorem zaT.slice {t : TypeId} {x : Operand} {lo hi mx : Option Operand} (ho : o.op = .slice t x lo hi mx) : zaT P N o a w := .of_blind (by
 unfold execOp
 rw [ho]
 refine zah _ _ ?_ fun _ => trivial
 unfold Instr.sliceAt
 refine zaZ fun d _ => ?_
 split
 ·exact zah _ _ (zb4 _) fun _ => zah _ _ (zbi _ _ _ _ _ _) fun _ => zah _ _ (zbv _) fun _ => trivial
 ·unfold Instr.slice
  refine zaZ fun d2 _ => ?_
  split
  ·split
   ·trivial
   ·exact zah _ _ (zbi _ _ _ _ _ _) fun _ => trivial
  ·exact zah _ _ (zbi _ _ _ _ _ _) fun _ => zah _ _ (zbv _) fun _ => trivial
  ·refine zah _ _ ?_ fun ad => zaZ fun d3 _ => ?_
   ·unfold asAddr; split <;> trivial
   ·split
    ·exact zah _ _ (zbi _ _ _ _ _ _) fun _ => zah _ _ (zbv _) fun _ => trivial
    ·trivial
  ·trivial)
def zbN {α : Type} (P : Program) (b : Nat) : Sem α → Prop
 | .pure _ => True
 | .halt _ => True
 | .program k => zbN P b (k P)
 | .mark _ k => zbN P b k
 | .load _ ad k => ad.block = b ∧ ∀ v, zbN P b (k v)
 | _ => False
theorem zgx {α : Type} {b : Nat} {w w' : World} {c : Array Value} {t : TypeId} {fr : Nat × Nat} (hb : w.heap[b]? = some (.cells c t fr)) (hb' : w'.heap[b]? = some (.cells c t fr)) : ∀ (e : Sem α) (v : α), zbN P b e → e.run P w = .ok v w → e.run P w' = .ok v w' := by
 intro e
 induction e with
 | pure a => intro v _ h; simp only [Sem.run, Result.ok.injEq] at h ⊢; exact ⟨h.1, trivial⟩
 | halt x => intro v _ h; simp [Sem.run] at h
 | program k ih => intro v hl h; exact ih P v hl h
 | mark m k ih => intro v hl h; exact ih v hl h
 | load m ad k ih =>
  intro v hl h
  obtain ⟨rfl, hk⟩ := hl
  have e1 : w'.cell? ad = w.cell? ad := by unfold World.cell?; rw [hb, hb']
  simp only [Sem.run] at h ⊢
  rw [e1]
  cases hc : w.cell? ad with
  | some u => rw [hc] at h; exact ih u v (hk u) h
  | none =>
   rw [hc] at h
   have : w.farLoad P ad (m == .atomic) = .error (w.noCell ad "load: no such cell") := by unfold World.farLoad; rw [hb]
   rw [this] at h
   simp at h
 | _ => intro v hl; exact hl.elim
theorem zbg {α β : Type} {b : Nat} : ∀ (e : Sem α) (f : α → Sem β), zbN P b e → (∀ a, zbN P b (f a)) → zbN P b (e.bind f) := by
 intro e
 induction e with
 | pure a => intro f _ hf; exact hf a
 | halt x => intro f _ _; trivial
 | program k ih => intro f hb hf; exact ih P f hb hf
 | mark m k ih => intro f hb hf; exact ih f hb hf
 | load m ad k ih => intro f hb hf; exact ⟨hb.1, fun v => ih v f (hb.2 v) hf⟩
 | _ => intro f hb; exact hb.elim
theorem zbI {b off : Nat} : ∀ (n i : Nat) (acc : Array Value), zbN P b (loadCellsFrom ⟨b, off, none⟩ i n acc)
 | 0, _, _ => trivial
 | n + 1, i, acc => by
  unfold loadCellsFrom
  refine zbg _ _ ⟨?_, fun _ => trivial⟩ fun v => zbI n (i + 1) _
  rw [zcu]
theorem zen {b off : Nat} {t : TypeId} : zbN P b (loadVar t ⟨b, off, none⟩) := by
 unfold loadVar
 refine zbg _ _ ?_ fun g => ?_
 ·unfold isAgg
  refine zbg _ _ ?_ fun d => ?_
  ·show zbN P b (match P.underlying t with | some d => pure d | none => stuck "no such type" : Sem TypeDesc)
   cases P.underlying t <;> trivial
  ·split <;> trivial
 ·split
  ·refine zbg _ _ ?_ fun n => zbg _ _ (zbI _ _ _) ?_
   ·unfold sizeOf
    refine zbg _ _ ?_ ?_
    ·show zbN P b (match P.info? t with | some i => pure i | none => stuck "no such type" : Sem TypeInfo)
     cases P.info? t <;> trivial
    ·intro _; trivial
   ·intro _; trivial
  ·exact ⟨rfl, fun _ => trivial⟩
theorem zaT.load {t : TypeId} {x : Operand} {b off : Nat} {c : Array Value} {u : TypeId} {fr : Nat × Nat} (ho : o.op = .load t x) (hx : a.eval x = .pointer (some ⟨b, off, none⟩)) (hb : N b) (hc : w.heap[b]? = some (.cells c u fr)) : zaT P N o a w := by
 intro v hv w' hk
 have hc' : w'.heap[b]? = some (.cells c u fr) := by rw [hk b hb]; exact hc
 unfold execOp at hv ⊢
 rw [ho] at hv ⊢
 simp only [hx] at hv ⊢
 refine zgx hc hc' _ _ ?_ hv
 show zbN P b ((loadVar t ⟨b, off, none⟩).bind _)
 refine zbg _ _ zen ?_
 intro _
 trivial
end
section
variable {P : Program} {ops : Array Oper} {Q : Exit → Act → World → Prop} {md : Region.Mode} {S : World → Prop}
def zcc (P : Program) (md : Region.Mode) (ops : Array Oper) (Q : Exit → Act → World → Prop) (S : World → Prop) (n : Nat) (L : Array Bool → Act → World → Prop) : Nat → Array Bool → Act → World → Prop
 | 0, listed, a, w => L listed a w
 | f + 1, listed, a, w =>
  Region.ready md ops listed ≠ [] ∧ ∀ i ∈ Region.ready md ops listed, i < n ∧ wpOp P ops Q i (fun a' w' => S w' ∧ zcc P md ops Q S n L f (listed.setIfInBounds i true) a' w') a w
theorem zbE {n g : Nat} {L : Array Bool → Act → World → Prop} (hL : ∀ listed a w, L listed a w → wpAny P md ops Q g listed a w) :
  ∀ (f : Nat) (listed : Array Bool) (a : Act) (w : World), zcc P md ops Q S n L f listed a w → wpAny P md ops Q (f + g) listed a w
 | 0, listed, a, w, h => by rw [Nat.zero_add]; exact hL _ _ _ h
 | f + 1, listed, a, w, h => by
  rw [show f + 1 + g = (f + g) + 1 by omega]
  exact ⟨fun h0 => absurd h0 h.1, fun i hi => wpOp_mono (fun a' w' h' => zbE hL f _ a' w' h'.2) (h.2 i hi).2⟩
theorem zdP {n i : Nat} {oi : Oper} {v : Value} {L : Array Bool → Act → World → Prop} (hi : ops[i]? = some oi) (hsel : ∀ (j : Nat) (o : Oper) cs b, ops[j]? = some o → o.op ≠ .select cs b)
  (hQ : ∀ c a w, Q (.panic c) (a.put oi.dst v) w → Q (.panic c) a w)
  (hs : Region.sinkB md ops n = true) (hc : Region.chainB md ops n = true) (hn : n < ops.size) (hin : i < n)
  (hdone : ∀ listed a w, L listed a w → ∀ j ∈ Region.ready md ops listed, n ≤ j) :
  ∀ (f : Nat) (listed : Array Bool) (a : Act) (w : World), HeadInv md ops n listed →
   (∀ j oj, ops[j]? = some oj → j ≠ i → listed.getD j true = false → (∀ e ∈ oj.after, Region.binds md e = true → e.on ≠ i) → oi.apart ops oj = true) →
   i ∈ Region.ready md ops listed → YieldsIf P ops S oi v a → S w →
   zcc P md ops Q S n L f (listed.setIfInBounds i true) (a.put oi.dst v) w → zcc P md ops Q S n L (f + 1) listed a w := by
 intro f
 induction f with
 | zero =>
  intro listed a w inv _ hr hy hS H
  have hun := (mem_ready.1 hr).1
  refine ⟨fun h => (by rw [h] at hr; cases hr), fun j hj => ?_⟩
  have hjn : j < n := by
   rcases Nat.lt_or_ge j n with h | h
   ·exact h
   ·exact absurd hj (tail_waits hs hc hn inv _ i rfl hin hun j h)
  refine ⟨hjn, ?_⟩
  by_cases hji : j = i
  ·subst hji; exact hy.wpOp hi hS ⟨hS, H⟩
  ·have := hdone _ _ _ H j (ready_mono hj hji)
   omega
 | succ f ih =>
  intro listed a w inv hfree hr hy hS H
  have hun := (mem_ready.1 hr).1
  refine ⟨fun h => (by rw [h] at hr; cases hr), fun j hj => ?_⟩
  have hjn : j < n := by
   rcases Nat.lt_or_ge j n with h | h
   ·exact h
   ·exact absurd hj (tail_waits hs hc hn inv _ i rfl hin hun j h)
  refine ⟨hjn, ?_⟩
  by_cases hji : j = i
  ·subst hji; exact hy.wpOp hi hS ⟨hS, H⟩
  ·have h1 := (H.2 j (ready_mono hj hji)).2
   obtain ⟨hjun, oj, hoj, hall⟩ := mem_ready.1 hj
   have hnot : ∀ e ∈ oj.after, Region.binds md e = true → e.on ≠ i := fun e he hb heq => by
    have h1 := hall e he hb
    rw [heq, getD_both hun] at h1
    cases h1
   have h2 := wpOp_putIf hoj (hfree j oj hoj hji hjun hnot) (fun cs b => hsel i oi cs b hi) (fun cs b => hsel j oj cs b hoj) hQ hy h1
   have hfree' : ∀ k ok, ops[k]? = some ok → k ≠ i → (listed.setIfInBounds j true).getD k true = false →
     (∀ e ∈ ok.after, Region.binds md e = true → e.on ≠ i) → oi.apart ops ok = true := fun k ok hk hki hun hno => by
    refine hfree k ok hk hki ?_ hno
    by_cases hjk : j = k
    ·subst hjk; exact hjun
    ·rw [getD_set_ne true hjk] at hun; exact hun
   refine wpOp_mono (fun a' w' h3 => ⟨h3.2.1, ih (listed.setIfInBounds j true) a' w' (inv.set hj hjn) hfree' (ready_mono hr (Ne.symm hji)) h3.1 h3.2.1 ?_⟩) h2
   rw [Array.setIfInBounds_comm _ _ hji]
   exact h3.2.2
def wpCan (P : Program) (ops : Array Oper) (Q : Exit → Act → World → Prop) (N : Nat → Prop) (T : Act → World → Prop) : List (Oper × Bool) → Act → World → Prop
 | [], a, w => T a w
 | (o, false) :: p, a, w => ∃ v, ((Region.wanted o (yielded ops a.tmps) = true ∧ (execOp a.eval o).run P w = .ok (.value v) w ∧ zaT P N o a w) ∨ (Region.wanted o (yielded ops a.tmps) = false ∧ v = undef)) ∧
   (∀ c a w, Q (.panic c) (a.put o.dst v) w → Q (.panic c) a w) ∧ wpCan P ops Q N T p (a.put o.dst v) w
 | (o, true) :: p, a, w => if Region.wanted o (yielded ops a.tmps) then o.wp P a w (fun a' w' => Keep N w w' ∧ wpCan P ops Q N T p a' w') Q else wpCan P ops Q N T p (a.put o.dst undef) w
def canOps (l : List Oper) : List (Nat × Bool) → List (Oper × Bool)
 | [] => []
 | (i, b) :: p => match l[i]? with | some o => (o, b) :: canOps l p | none => []
def zdF (md : Region.Mode) (ops : Array Oper) (n : Nat) : List (Nat × Bool) → Array Bool → Bool
 | [], listed => Region.seqB md ops (ops.size - n) n listed
 | (i, false) :: p, listed => decide (i < n) && (Region.ready md ops listed).contains i && Region.free md ops listed i && zdF md ops n p (listed.setIfInBounds i true)
 | (i, true) :: p, listed => decide (i < n) && decide (Region.ready md ops listed = [i]) && zdF md ops n p (listed.setIfInBounds i true)
def canB (md : Region.Mode) (ops : Array Oper) (n : Nat) (p : List (Nat × Bool)) : Bool :=
 Region.noSelect ops && decide (n < ops.size) && decide (p.length = n) && Region.sinkB md ops n && Region.chainB md ops n && zdF md ops n p (Array.replicate ops.size false)
theorem zcH {N : Nat → Prop} {n : Nat} {w0 : World} {T : Act → World → Prop} {l : List Oper} (hsel : Region.noSelect l.toArray = true) (hs : Region.sinkB md l.toArray n = true) (hc : Region.chainB md l.toArray n = true) (hn : n < l.length) :
  ∀ (p : List (Nat × Bool)) (listed : Array Bool) (a : Act) (w : World), HeadInv md l.toArray n listed → zdF md l.toArray n p listed = true → Keep N w0 w → wpCan P l.toArray Q N T (canOps l p) a w →
   zcc P md l.toArray Q (Keep N w0) n (fun listed' a' w' => Region.seqB md l.toArray (l.toArray.size - n) n listed' = true ∧ T a' w') p.length listed a w
 | [], listed, a, w, _, hB, _, h => ⟨hB, h⟩
 | (i, false) :: p, listed, a, w, inv, hB, hk, h => by
  simp only [zdF, Bool.and_eq_true, jS] at hB
  obtain ⟨⟨⟨hin, hr⟩, hf⟩, hB'⟩ := hB
  have hil : i < l.length := by omega
  have ho : l.toArray[i]? = some l[i] := by simp [hil]
  simp only [canOps, jP hil] at h
  obtain ⟨v, hv, hQ, hK⟩ := h
  have hr' : i ∈ Region.ready md l.toArray listed := by simpa using hr
  have hy : YieldsIf P l.toArray (Keep N w0) l[i] v a := by
   rcases hv with ⟨hw, hrun, hfr⟩ | ⟨hw, hv⟩
   ·exact .inl ⟨hw, fun w' hw' => hfr v hrun w' (hk.symm.trans hw')⟩
   ·exact .inr ⟨hw, hv⟩
  exact zdP ho (Region.noSelect_spec hsel) hQ hs hc (by simpa using hn) hin (fun listed' a' w' hL => seqB_ready hL.1) p.length listed a w inv (Region.free_spec ho hf) hr' hy hk
   (zcH hsel hs hc hn p _ _ _ (inv.set hr' hin) hB' hk hK)
 | (i, true) :: p, listed, a, w, inv, hB, hk, h => by
  simp only [zdF, Bool.and_eq_true, jS] at hB
  obtain ⟨⟨hin, hr⟩, hB'⟩ := hB
  have hil : i < l.length := by omega
  have ho : l.toArray[i]? = some l[i] := by simp [hil]
  simp only [canOps, jP hil] at h
  have hw : if Region.wanted l[i] (yielded l.toArray a.tmps) then l[i].wp P a w (fun a' w' => Keep N w w' ∧ wpCan P l.toArray Q N T (canOps l p) a' w') Q else wpCan P l.toArray Q N T (canOps l p) (a.put l[i].dst undef) w := h
  have hr' : i ∈ Region.ready md l.toArray listed := by rw [hr]; simp
  refine ⟨fun h0 => (by rw [h0] at hr; cases hr), fun j hj => ?_⟩
  rw [hr] at hj
  obtain rfl : j = i := by simpa using hj
  refine ⟨hin, ?_⟩
  unfold wpOp
  simp only [ho]
  split
  ·rename_i hwt
   rw [if_pos hwt] at hw
   exact .inl (Oper.wp_mono (fun a' w' h' => ⟨hk.trans h'.1, zcH hsel hs hc hn p _ _ _ (inv.set hr' hin) hB' (hk.trans h'.1) h'.2⟩) hw)
  ·rename_i hwt
   rw [if_neg hwt] at hw
   exact ⟨hk, zcH hsel hs hc hn p _ _ _ (inv.set hr' hin) hB' hk hw⟩
theorem wp_region_can {id : Nat} {a : Act} {w : World} {l : List Oper} (N : Nat → Prop) (n : Nat) (p : List (Nat × Bool)) (hm : P.follows .mixedOrders = true) (hB : canB .any l.toArray n p = true)
  (h : wpCan P l.toArray Q N (fun a' w' => wpList P l.toArray Q (l.drop n) a' w') (canOps l p) a w.drew) : (Code.region id l.toArray true).wp P Q a w := by
 simp only [canB, Bool.and_eq_true, jS] at hB
 obtain ⟨⟨⟨⟨⟨hsel, hn⟩, hp⟩, hs⟩, hc⟩, hcan⟩ := hB
 have inv0 : HeadInv .any l.toArray n (Array.replicate l.toArray.size false) :=
  ⟨by simp, fun j oj _ hl => (by rw [getD_replicate_false] at hl; cases hl), fun t _ ht => getD_in (by simpa using ht) (getD_replicate_false _ _)⟩
 have H := zcH (md := .any) (w0 := w.drew) hsel hs hc (by simpa using hn) p _ a _ inv0 hcan (Keep.refl _ _) h
 refine wp_region_any hm ?_
 have hdl : (l.drop n).length = l.toArray.size - n := by simp
 have := zbE (g := l.toArray.size - n) (fun listed a' w' hL => by
  have := wpAny_of_seq (md := .any) (Q' := Q) (l.drop n) n listed a' w' (fun j => by simp [List.getElem?_drop]) (by rw [hdl]; exact hL.1) hL.2
  rwa [hdl] at this) _ _ _ _ H
 rw [hp, show n + (l.toArray.size - n) = l.toArray.size by omega] at this
 exact this
variable {N : Nat → Prop} {T : Act → World → Prop} {p : List (Oper × Bool)} {o : Oper} {a : Act} {w : World}
theorem wpCan_nil (h : T a w) : wpCan P ops Q N T [] a w := h
def zgS : Op → Bool
 | .binOp .. | .unOp .. | .convert .. | .fieldAddr .. | .indexAddr .. | .index .. | .field .. | .extract .. | .slice .. | .load .. => true
 | _ => false
theorem zfb {α : Type} {e : Sem α} {f : α → Value} {w w' : World} {n : Next} (h : (e >>= fun x => pure (Next.value (f x))).run P w = .ok n w') : ∃ v, n = .value v := by
 rw [Sem.run_bind] at h
 cases hr : e.run P w with
 | ok x w1 => rw [hr] at h; simp only [Result.andThen_ok, Sem.run_pure, Result.ok.injEq] at h; exact ⟨_, h.1.symm⟩
 | halt x w1 => rw [hr] at h; simp at h
theorem zfH {o : Oper} {ρ : Operand → Value} {w w' : World} {n : Next} (hq : zgS o.op = true) (h : (execOp ρ o).run P w = .ok n w') : ∃ v, n = .value v := by
 unfold execOp at h
 cases ho : o.op <;> rw [ho] at hq <;> first | (exact absurd hq Bool.false_ne_true) | (rw [ho] at h; exact zfb (f := id) h)
theorem za3 (hg : Region.wanted o (yielded ops a.tmps) = true) (ht : zgS o.op = true) (hQ : ∀ c a v w, Q (.panic c) (a.put o.dst v) w → Q (.panic c) a w) (hf : zaT P N o a w) (h : ∀ K : Act → Prop, (∀ a, wpCan P ops Q N T p a w → K a) → o.still P a w K) :
  wpCan P ops Q N T ((o, false) :: p) a w := by
 have h1 := h _ (fun _ h => h)
 unfold Oper.still at h1
 generalize hr : (execOp a.eval o).run P w = r at h1
 cases r with
 | ok x w' =>
  obtain ⟨v, rfl⟩ := zfH ht hr
  simp only [Oper.stillUpon] at h1
  obtain ⟨rfl, h2⟩ := h1
  exact ⟨v, .inl ⟨hg, hr, hf⟩, fun c a w => hQ c a _ w, h2⟩
 | halt x w' => simp only [Oper.stillUpon] at h1
theorem wpCan_v {v : Value} (hg : Region.wanted o (yielded ops a.tmps) = true) (hQ : ∀ c a v w, Q (.panic c) (a.put o.dst v) w → Q (.panic c) a w) (hf : zaT P N o a w) (hr : (execOp a.eval o).run P w = .ok (.value v) w) (h : wpCan P ops Q N T p (a.put o.dst v) w) :
  wpCan P ops Q N T ((o, false) :: p) a w := ⟨v, .inl ⟨hg, hr, hf⟩, fun c a w => hQ c a _ w, h⟩
theorem wpCan_e (hg : Region.wanted o (yielded ops a.tmps) = true) (h : ∀ K : Act → World → Prop, (∀ a' w', Keep N w w' → wpCan P ops Q N T p a' w' → K a' w') → o.wp P a w K Q) :
  wpCan P ops Q N T ((o, true) :: p) a w := by
 unfold wpCan
 rw [if_pos hg]
 exact h _ (fun _ _ hk h => ⟨hk, h⟩)
theorem zaA {x : Operand} (hg : Region.wanted o (yielded ops a.tmps) = true) (hop : o.op = .move x) (hQ : ∀ c a v w, Q (.panic c) (a.put o.dst v) w → Q (.panic c) a w) (h : wpCan P ops Q N T p (a.put o.dst (a.eval x)) w) :
  wpCan P ops Q N T ((o, false) :: p) a w := wpCan_v hg hQ (.move hop) (by unfold execOp; rw [hop]; rfl) h
theorem zas {x : Operand} (hg : Region.wanted o (yielded ops a.tmps) = true) (hop : o.op = .assign x) (hQ : ∀ c a v w, Q (.panic c) (a.put o.dst v) w → Q (.panic c) a w) (h : wpCan P ops Q N T p (a.put o.dst (a.eval x)) w) :
  wpCan P ops Q N T ((o, false) :: p) a w := wpCan_v hg hQ (.assign hop) (by unfold execOp; rw [hop]; rfl) h
theorem zao {x : Operand} {q : Addr} (hg : Region.wanted o (yielded ops a.tmps) = true) (hop : o.op = .nilCheck x) (hx : a.eval x = .pointer (some q)) (hQ : ∀ c a v w, Q (.panic c) (a.put o.dst v) w → Q (.panic c) a w) (h : wpCan P ops Q N T p (a.put o.dst (.pointer (some q))) w) :
  wpCan P ops Q N T ((o, false) :: p) a w := wpCan_v hg hQ (.nilCheck hop hx) (by unfold execOp; rw [hop]; simp only [hx]; rfl) h
theorem zaq {ty : TypeId} {x : Operand} {n t g : Nat} {k : IntKind} {f : Nat → Int} {fr : Nat × Nat} (hgd : Region.wanted o (yielded ops a.tmps) = true) (hop : o.op = .load ty x) (hx : a.eval x = .pointer (some ⟨g, 0, none⟩)) (hQ : ∀ c a v w, Q (.panic c) (a.put o.dst v) w → Q (.panic c) a w) (hT : zeT P ty n)
  (hN : N g) (hg : w.heap[g]? = some (.cells (arr k n f) t fr)) (h : wpCan P ops Q N T p (a.put o.dst (.agg (arr k n f))) w) : wpCan P ops Q N T ((o, false) :: p) a w :=
 wpCan_v hgd hQ (.load hop hx hN hg) (zce hop hx (zbM hT hg)) h
theorem zdL {ty : TypeId} {x : Operand} {n M t g off : Nat} {k : IntKind} {f : Nat → Int} {fr : Nat × Nat} (hgd : Region.wanted o (yielded ops a.tmps) = true) (hop : o.op = .load ty x) (hx : a.eval x = .pointer (some ⟨g, off, none⟩)) (hQ : ∀ c a v w, Q (.panic c) (a.put o.dst v) w → Q (.panic c) a w) (hT : zeT P ty n)
  (hN : N g) (hg : w.heap[g]? = some (.cells (arr k M f) t fr)) (hle : off + n ≤ M) (h : wpCan P ops Q N T p (a.put o.dst (.agg (arr k n fun i => f (off + i)))) w) : wpCan P ops Q N T ((o, false) :: p) a w :=
 wpCan_v hgd hQ (.load hop hx hN hg) (zce hop hx (zck hT hg hle)) h
theorem zb8 {ty n : Nat} {k : IntKind} (hgd : Region.wanted o (yielded ops a.tmps) = true) (hop : o.op = .alloc ty) (hz : zcy P ty k n) (hN : ∀ i, N i → i < w.heap.size)
  (h : wpCan P ops Q N T p (a.put o.dst (.pointer (some ⟨w.heap.size, 0, none⟩))) (w.alloc (.cells (arr k n fun _ => 0) ty))) : wpCan P ops Q N T ((o, true) :: p) a w :=
 wpCan_e hgd fun K hK => by unfold Oper.wp; rw [zdd hop hz]; exact hK _ _ (Keep.alloc _ _ hN) h
theorem zdm {ty : TypeId} {x y : Operand} {n t g : Nat} {k : IntKind} {f f' : Nat → Int} (hgd : Region.wanted o (yielded ops a.tmps) = true) (hop : o.op = .store ty x y) (hx : a.eval x = .pointer (some ⟨g, 0, none⟩)) (hy : a.eval y = .agg (arr k n f'))
  (hT : zeT P ty n) (hN : ¬ N g) (hg : w.heap[g]? = some (.cells (arr k n f) t (0, 0))) (h : wpCan P ops Q N T p (a.put o.dst undef) (w.setRow g (arr k n f'))) : wpCan P ops Q N T ((o, true) :: p) a w :=
 wpCan_e hgd fun K hK => by
  have hr := zdc hop hx hy (zc4 (off := 0) hT hg (by omega))
  rw [show arr k n (zcU f 0 n f') = arr k n f' from zcd fun i hi => zfa _ _ _ _ hi] at hr
  unfold Oper.wp
  rw [hr]
  exact hK _ _ (fun b hb => setRow_other _ _ _ _ (fun e => hN (e ▸ hb))) h
theorem zcz {v : Value} (hg : Region.wanted o (yielded ops a.tmps) = true) (hQ : ∀ c a v w, Q (.panic c) (a.put o.dst v) w → Q (.panic c) a w) (hr : ∀ w', (execOp a.eval o).run P w' = .ok (.value v) w') (h : wpCan P ops Q N T p (a.put o.dst v) w) :
  wpCan P ops Q N T ((o, false) :: p) a w := wpCan_v hg hQ (fun u hu w' _ => by
   have h1 := hr w
   rw [hu] at h1
   simp only [Result.ok.injEq, Next.value.injEq] at h1
   rw [h1.1]; exact hr w') (hr w) h
def zhR (P : Program) (s : TypeId) (f : Nat) : Prop := ∃ fs fd n, P.underlying s = some (.struct fs) ∧ fs[f]? = some fd ∧ (P.info? fd.type).map (·.size) = some (n + 1)
theorem zaT.fieldT {s : TypeId} {x : Operand} {f : Nat} (ho : o.op = .fieldAddr s x f) (h : zhR P s f) : zaT P N o a w := by
 obtain ⟨fs, fd, n, hs, hf, hi⟩ := h
 cases hq : P.info? fd.type with
 | none => simp [hq] at hi
 | some i =>
  have h1 : i.size = n + 1 := by simpa [hq] using hi
  exact .fieldAddr ho hs hf hq (by omega)
theorem zcg {ty : TypeId} {x : Operand} {n M t g off : Nat} {k : IntKind} {f : Nat → Int} {fr : Nat × Nat} (f' : Nat → Int) (hgd : Region.wanted o (yielded ops a.tmps) = true) (hop : o.op = .load ty x) (hx : a.eval x = .pointer (some ⟨g, off, none⟩)) (hQ : ∀ c a v w, Q (.panic c) (a.put o.dst v) w → Q (.panic c) a w) (hT : zeT P ty n)
  (hN : N g) (hg : w.heap[g]? = some (.cells (arr k M f) t fr)) (hle : off + n ≤ M) (hf : ∀ i, i < n → f (off + i) = f' i) (h : wpCan P ops Q N T p (a.put o.dst (.agg (arr k n f'))) w) : wpCan P ops Q N T ((o, false) :: p) a w :=
 zdL hgd hop hx hQ hT hN hg hle (by rw [zcd hf]; exact h)
end
end CanB
section
open Go.RowKit
def bv (x : Nat) : Value := .int .u8 (x : Int)
structure ByteT (P : Program) (t e : TypeId) : Prop where
 sl : P.underlying t = some (.slice e)
 el : P.underlying e = some (.int .u8)
 info : (P.info? e).map (fun i => (i.zero, i.size, i.bytes)) = some (some (.int .u8 0), 1, 1)
structure Txt (w : World) (B : Nat) (A : Option Addr) (n c : Nat) (l : List Nat) : Prop where
 len : l.length = n
 nil : A = none → n = 0 ∧ c = 0
 at_ : 0 < n → ∃ ad, A = some ad ∧ ad.block < B ∧ ∀ i x, l[i]? = some x → w.cell? (ad.add i) = some (bv x)
def Own (w : World) (base : Nat) (e : TypeId) (v : Value) (l : List Nat) : Prop := w.ownsRow base e 1 v l.length (l.map bv)
theorem zdQ (a : Addr) (n : Nat) : (a.add n).block = a.block := by unfold Addr.add; split <;> rfl
section
variable {w w' : World} {B B' n c base : Nat} {e : TypeId} {A : Option Addr} {l m : List Nat} {v : Value}
theorem Txt.keep (h : Txt w B A n c l) (hk : ∀ p : Addr, p.block < B → w'.cell? p = w.cell? p) : Txt w' B A n c l :=
 ⟨h.len, h.nil, fun hn => by
  obtain ⟨ad, e, hb, hc⟩ := h.at_ hn
  exact ⟨ad, e, hb, fun i x hx => (hk _ (by rw [zdQ]; exact hb)).trans (hc i x hx)⟩⟩
theorem Txt.more (h : Txt w B A n c l) (hB : B ≤ B') : Txt w B' A n c l :=
 ⟨h.len, h.nil, fun hn => by
  obtain ⟨ad, e, hb, hc⟩ := h.at_ hn
  exact ⟨ad, e, by omega, hc⟩⟩
theorem Txt.below (h : Txt w B A n c l) (hb : Below B w w') : Txt w' B A n c l := h.keep fun _ hp => hb.cell hp
theorem Txt.below' (h : Txt w B A n c l) (hb : Below B' w w') (hB : B ≤ B') : Txt w' B A n c l := h.keep fun _ hp => hb.cell (jT hp hB)
theorem Txt.drew (h : Txt w B A n c l) : Txt w.drew B A n c l := h.keep fun _ _ => rfl
theorem Txt.nil_ : Txt w B none 0 0 [] := ⟨rfl, fun _ => ⟨rfl, rfl⟩, fun h => absurd h (by omega)⟩
theorem Txt.cell (h : Txt w B A n c l) {k : Nat} (hk : k < n) : ∃ ad, A = some ad ∧ ad.block < B ∧ w.cell? (ad.add k) = some (bv (l.getD k 0)) := by
 obtain ⟨ad, e, hb, hc⟩ := h.at_ (by omega)
 have hl : k < l.length := by rw [h.len]; exact hk
 exact ⟨ad, e, hb, hc k _ (by rw [jP hl, jR, jP hl]; rfl)⟩
theorem Own.nil_ : Own w base e (.slice none 0 0) [] := ⟨rfl, .inl ⟨rfl, rfl⟩⟩
theorem Own.txt (h : Own w base e v l) : ∃ A c, v = .slice A l.length c ∧ Txt w w.heap.size A l.length c l := by
 have hl := h
 rcases h.2 with ⟨rfl, h0⟩ | ⟨g, cap, cur, rfl, hb, hh, hn, hm, hs, ht⟩
 ·exact ⟨none, 0, by rw [h0], ⟨rfl, fun _ => ⟨h0, rfl⟩, fun hn => absurd hn (by omega)⟩⟩
 ·refine ⟨some ⟨g, 0, none⟩, cap, rfl, rfl, (fun e => by cases e), fun hn => ⟨_, rfl, ?_, fun i x hx => ?_⟩⟩
  ·rcases Nat.lt_or_ge g w.heap.size with h' | h'
   ·exact h'
   ·rw [Array.getElem?_eq_none h'] at hh; cases hh
  ·exact hl.cells (g := g) rfl i (bv x) (by simp [hx])
theorem Own.lt (h : Own w base e v l) : ∀ k, v.ownBlock = some k → base ≤ k ∧ k < w.heap.size := World.ownsRow.lt h
theorem Own.drew (h : Own w base e v l) : Own w.drew base e v l := h
theorem Own.alloc (h : Own w base e v l) (o : Obj) : Own (w.alloc o) base e v l := World.ownsRow.alloc h o
theorem Own.mono {base' : Nat} (h : Own w base e v l) (hb : base' ≤ base) : Own w base' e v l := by
 refine ⟨h.1, ?_⟩
 rcases h.2 with h2 | ⟨g, cap, cur, rfl, h3, h4⟩
 ·exact .inl h2
 ·exact .inr ⟨g, cap, cur, rfl, jU hb h3, h4⟩
theorem Own.below (h : Own w base e v l) (hb : Below B w w') (hB : ∀ k, v.ownBlock = some k → k < B) : Own w' base e v l := by
 refine ⟨h.1, ?_⟩
 rcases h.2 with h2 | ⟨g, cap, cur, rfl, h3, hh, h4⟩
 ·exact .inl h2
 ·exact .inr ⟨g, cap, cur, rfl, h3, by rw [hb.block g (hB g rfl)]; exact hh, h4⟩
theorem Own.setCell {p : Addr} (h : Own w base e v l) (hne : ∀ k, v.ownBlock = some k → k ≠ p.block) (u : Value) : Own (w.setCell p u) base e v l := by
 refine ⟨h.1, ?_⟩
 rcases h.2 with h2 | ⟨g, cap, cur, rfl, h3, hh, h4⟩
 ·exact .inl h2
 ·exact .inr ⟨g, cap, cur, rfl, h3, by rw [heap_setCell_other _ _ _ _ (hne g rfl)]; exact hh, h4⟩
end
section
variable {P : Program} {w : World}
theorem zgo {t e ty : TypeId} (hT : ByteT P t e) {base B : Nat} {v : Value} {l m : List Nat} {A : Option Addr} {n c : Nat} (hown : Own w base e v l) (hr : Txt w B A n c m) (hlen : l.length + n ≤ 140737488355328) (hbase : base ≤ w.heap.size) :
  ∃ v' w', (Builtin.append_ #[t, t] ty #[v, .slice A n c]).run P w = .ok v' w' ∧ Own w' base e v' (l ++ m) ∧ w.grownBy w' v.ownBlock ∧ (v'.ownBlock = v.ownBlock ∨ v'.ownBlock = some w.heap.size) := by
 have hinfo := hT.info
 cases hi : P.info? e with
 | none => rw [hi] at hinfo; cases hinfo
 | some i =>
  rw [hi] at hinfo
  simp only [Option.map_some, Option.some.injEq, Prod.mk.injEq] at hinfo
  obtain ⟨h1, h2, h3⟩ := hinfo
  have hlm : (m.map bv).length = n * 1 := by simp [hr.len]
  have hml : m.length = n := hr.len
  cases A with
  | none =>
   obtain ⟨rfl, rfl⟩ := hr.nil rfl
   obtain rfl : m = [] := List.eq_nil_of_length_eq_zero hml
   have hrun := run_append_owned_none (P := P) (w := w) base t ty e i 1 hT.sl hi v l.length (l.map bv) hown
   exact ⟨v, w, hrun, by simpa using hown, World.grownBy.refl w _, .inl rfl⟩
  | some ad =>
   obtain ⟨v', w', hrun, h5, h6, _, h7⟩ := run_append_own_at (P := P) w base t ty e i (.int .u8 0) 1 1 hT.sl hi h1 h2 h3 rfl (by omega) v l.length (l.map bv) hown ad n c (m.map bv) hlm
    (fun j u hu => by
     have hj : j < m.length := by
      have := (List.getElem?_eq_some_iff.1 hu).1
      simpa using this
     obtain ⟨ad', he, _, hc⟩ := hr.at_ (by omega)
     injection he with he
     subst he
     rw [List.getElem?_map] at hu
     cases hx : m[j]? with
     | none => rw [hx] at hu; cases hu
     | some x =>
      rw [hx] at hu
      simp only [Option.map_some, Option.some.injEq] at hu
      rw [← hu]
      exact hc j x hx)
    (fun u hu => by
     obtain ⟨x, _, rfl⟩ := List.mem_map.1 hu
     rfl) (by unfold maxLen; omega) (by omega) hbase
   refine ⟨v', w', hrun, ?_, h6, h7⟩
   unfold Own
   rw [List.map_append, jQ, hml]
   exact h5
theorem zcI {ops : Array Oper} {rest : List Oper} {o : Oper} {a : Act} {Q : Exit → Act → World → Prop} {t e : TypeId} {s x : Operand} (hgd : o.guard = none) (ho : o.op = .call { callee := .builtin .append, args := #[s, x], argTypes := #[t, t] })
  (hT : ByteT P t e) {base B : Nat} {v : Value} {l m : List Nat} {A : Option Addr} {n c : Nat} (hs : a.eval s = v) (hx : a.eval x = .slice A n c) (hown : Own w base e v l) (hr : Txt w B A n c m) (hlen : l.length + n ≤ 140737488355328) (hbase : base ≤ w.heap.size)
  (h : ∀ v' w', Own w' base e v' (l ++ m) → w.grownBy w' v.ownBlock → (v'.ownBlock = v.ownBlock ∨ v'.ownBlock = some w.heap.size) → wpList P ops Q rest (a.put o.dst v') w') : wpList P ops Q (o :: rest) a w := by
 obtain ⟨v', w', hrun, h2, h3, h4⟩ := zgo (P := P) (ty := o.type) hT hown hr hlen hbase
 refine wpList_plain hgd fun K hK => ?_
 unfold Oper.wp execOp
 simp only [ho, resolve, invoke, builtin, Sem.run_bind, Sem.run_pure, Result.andThen_ok, List.map_toArray, List.map_cons, List.map_nil, hs, hx, hrun]
 exact hK _ _ (h v' w' h2 h3 h4)
theorem zfI {B : Nat} {w0 w1 w2 : World} {base : Nat} {e : TypeId} {v : Value} {l : List Nat} (hb : Below B w0 w1) (hown : Own w1 base e v l) (hg : w1.grownBy w2 v.ownBlock) (hB : B ≤ base) (hs : B ≤ w1.heap.size) : Below B w0 w2 :=
 hb.grown hg hs fun k hk => jU hB (hown.lt k hk).1
theorem zfz {t e dst : TypeId} (hT : ByteT P t e) (hd : P.underlying dst = some .string) {B : Nat} {A : Option Addr} {n c : Nat} {l : List Nat} (hr : Txt w B A n c l) (hl : ∀ x ∈ l, x < 256) :
  (convert t dst (.slice A n c)).run P w = .ok (.string ⟨(l.map UInt8.ofNat).toArray⟩) w := by
 have hln := hr.len
 cases A with
 | none =>
  obtain ⟨rfl, rfl⟩ := hr.nil rfl
  obtain rfl : l = [] := List.eq_nil_of_length_eq_zero hln
  rw [run_convert_bytes_string w t dst e none 0 0 hT.sl hT.el hd]
  rfl
 | some ad =>
  have h := run_convert_bytes_back (P := P) w t dst e ad c (l.map UInt8.ofNat) hT.sl hT.el hd (fun j hj => by
   have hj' : j < l.length := by simpa using hj
   obtain ⟨ad', he, _, hc⟩ := hr.at_ (by omega)
   injection he with he
   subst he
   rw [hc j l[j] (jP hj')]
   have := hl _ (List.getElem_mem hj')
   simp only [List.getElem_map, UInt8.toNat_ofNat', bv]
   congr 2
   omega)
  simpa [hln] using h
end
theorem zrI {l m : List Nat} (hl : ∀ x ∈ l, x < 256) (hm : ∀ x ∈ m, x < 256) : l.map UInt8.ofNat = m.map UInt8.ofNat ↔ l = m := by
 constructor
 ·intro h
  have e : ∀ (k : List Nat), (∀ x ∈ k, x < 256) → (k.map UInt8.ofNat).map UInt8.toNat = k := by
   intro k hk
   rw [List.map_map]
   have : ∀ x ∈ k, (UInt8.toNat ∘ UInt8.ofNat) x = id x := fun x hx => by
    simp only [Function.comp, UInt8.toNat_ofNat', id]
    have := hk x hx
    omega
   rw [List.map_congr_left this, List.map_id]
  rw [← e l hl, h, e m hm]
 ·intro h; rw [h]
end
section
open Go.RowKit
section
variable {P : Program} {ops : Array Oper} {rest : List Oper} {o o' : Oper} {a : Act} {w : World} {Q : Exit → Act → World → Prop}
theorem zd5 (w : World) (ty n : Nat) (k : IntKind) (f : Nat → Int) :
  let w' := (w.alloc (.cells (arr k n fun _ => 0) ty)).setRow w.heap.size (arr k n f)
  w'.heap[w.heap.size]? = some (.cells (arr k n f) ty (0, 0)) ∧ Below w.heap.size w w' ∧ w'.heap.size = w.heap.size + 1 :=
 ⟨zan (heap_alloc_new _ _), zam ((Below.refl _ _).alloc (jV _) _) (jV _) _, by simp⟩
theorem zay {ty n : Nat} {k : IntKind} {f : Nat → Int} {x y : Operand} (h1 : o.guard = none) (h2 : o'.guard = none) (ho : o.op = .alloc ty) (ho' : o'.op = .store ty x y) (hz : zcy P ty k n) (hT : zeT P ty n)
  (hx : (a.put o.dst (.pointer (some ⟨w.heap.size, 0, none⟩))).eval x = .pointer (some ⟨w.heap.size, 0, none⟩)) (hy : (a.put o.dst (.pointer (some ⟨w.heap.size, 0, none⟩))).eval y = .agg (arr k n f))
  (h : ∀ w', w'.heap[w.heap.size]? = some (.cells (arr k n f) ty (0, 0)) → Below w.heap.size w w' → w'.heap.size = w.heap.size + 1 → wpList P ops Q rest ((a.put o.dst (.pointer (some ⟨w.heap.size, 0, none⟩))).put o'.dst undef) w') : wpList P ops Q (o :: o' :: rest) a w :=
 zae h1 ho hz (zac h2 ho' hx hy hT (heap_alloc_new _ _) (h _ (zd5 w ty n k f).1 (zd5 w ty n k f).2.1 (zd5 w ty n k f).2.2))
theorem zaa {B b : Nat} {w w' : World} {x : Obj} (h : Below B w w') (hb : b < B) (hg : w.heap[b]? = some x) : w'.heap[b]? = some x := (h.block b hb).trans hg
theorem zbx {ty : TypeId} {x : Operand} {m N t g off : Nat} {k : IntKind} {f : Nat → Int} {fr : Nat × Nat} (f' : Nat → Int) (hgd : o.guard = none) (ho : o.op = .load ty x) (hx : a.eval x = .pointer (some ⟨g, off, none⟩)) (hT : zeT P ty m)
  (hg : w.heap[g]? = some (.cells (arr k N f) t fr)) (hle : off + m ≤ N) (hf : ∀ i, i < m → f (off + i) = f' i) (h : wpList P ops Q rest (a.put o.dst (.agg (arr k m f'))) w) : wpList P ops Q (o :: rest) a w :=
 ziL hgd ho hx hT hg hle (by rw [zcd hf]; exact h)
theorem za8 {v : Value} {w' : World} (hgd : o.guard = none) (hr : (execOp a.eval o).run P w = .ok (.value v) w') (h : wpList P ops Q rest (a.put o.dst v) w') : wpList P ops Q (o :: rest) a w :=
 wpList_plain hgd fun _ hK => by unfold Oper.wp; rw [hr]; exact hK _ _ h
theorem zeo {x y : Operand} {dT sT e : TypeId} {k : IntKind} {N M t t' g s off off' dl dc sl sc m : Nat} {f f' : Nat → Int} {fr : Nat × Nat} (hgd : o.guard = none) (ho : o.op = .call { callee := .builtin .copy, args := #[x, y], argTypes := #[dT, sT] })
  (hx : a.eval x = .slice (some ⟨g, off, none⟩) dl dc) (hy : a.eval y = .slice (some ⟨s, off', none⟩) sl sc) (hu : P.underlying dT = some (.slice e)) (hs : (P.info? e).map (·.size) = some 1)
  (hg : w.heap[g]? = some (.cells (arr k N f) t (0, 0))) (hsrc : w.heap[s]? = some (.cells (arr k M f') t' fr)) (hm : m = Nat.min sl dl) (h1 : off + m ≤ N) (h2 : off' + m ≤ M)
  (h : wpList P ops Q rest (a.put o.dst (.int .i64 m)) (w.setRow g (arr k N (zcU f off m fun i => f' (off' + i))))) : wpList P ops Q (o :: rest) a w := by
 refine za8 hgd ?_ h
 have hr := run_copy_row P w dT sT o.type e g off dl dc ⟨s, off', none⟩ sl sc (arr k N f) t (arr k m fun i => f' (off' + i)).toList hu hs hg (by simp [zct, hm])
  (fun j v hv => by
   rw [zcu, cell_of_row w s _ _ t' fr hsrc]
   have hj : j < m := by
    rcases Nat.lt_or_ge j m with h | h
    ·exact h
    ·rw [List.getElem?_eq_none (by simp [zct, h])] at hv; cases hv
   rw [ze9 _ _ _ _ (by omega)]
   have h3 := ze9 k m (fun i => f' (off' + i)) j hj
   rw [← Array.getElem?_toList, hv] at h3
   exact h3.symm)
  (by simp [zct]; exact h1) (zpa m k _)
 have e1 : ((arr k N f).toList.take off ++ (arr k m fun i => f' (off' + i)).toList ++ (arr k N f).toList.drop (off + (arr k m fun i => f' (off' + i)).toList.length)).toArray = arr k N (zcU f off m fun i => f' (off' + i)) := by
  rw [← zmJ, show (arr k m fun i => f' (off' + i)).toList.length = m from by simp [zct]]
  exact ziM N off m _ _ h1
 rw [e1] at hr
 have e2 : (arr k m fun i => f' (off' + i)).toList.length = m := by simp [zct]
 rw [e2] at hr
 unfold execOp
 simp only [ho]
 have e3 : (resolve a.eval { callee := .builtin .copy, args := #[x, y], argTypes := #[dT, sT] } o.type) = pure { target := .builtin .copy #[dT, sT] o.type (#[x, y].map fun | .const _ => true | _ => false), args := #[a.eval x, a.eval y] } := by
  simp [resolve]; rfl
 rw [e3, hx, hy]
 simp only [Sem.run_bind, Sem.run_pure, Result.andThen_ok, invoke, builtin, hr]
 rfl
theorem zby {e sz : Nat} (hs : (P.info? e).map (·.size) = some sz) : (sizeOf e).run P w = .ok sz w := by
 cases hq : P.info? e with
 | none => simp [hq] at hs
 | some i =>
  have : i.size = sz := by simpa [hq] using hs
  simp [sizeOf, typeInfo, hq, this]
theorem zfJ {t e n sz g off : Nat} {x lo : Operand} {j : Int} (ho : o.op = .slice t x (some lo) none none) (ht : P.underlying t = some (.array n e)) (hs : (P.info? e).map (·.size) = some sz) (hx : a.eval x = .pointer (some ⟨g, off, none⟩)) (hl : a.eval lo = .int .i64 j) (h0 : 0 ≤ j) (hj : j < n) :
  (execOp a.eval o).run P w = .ok (.value (.slice (some ⟨g, off + j.toNat * sz, none⟩) (n - j.toNat) (n - j.toNat))) w := by
 unfold execOp
 simp only [ho, hx, hl, Option.map_some, Option.map_none]
 unfold Instr.sliceAt
 simp only [Sem.run_bind, run_underlying ht, Result.andThen_ok, Instr.sureAddr, Sem.run_pure]
 have hb : (Instr.sliceBounds false n n (some (.int .i64 j)) none none).run P w = .ok (j.toNat, n, n) w := by
  have h1 : 0 ≤ j ∧ j ≤ (n : Int) := ⟨h0, by omega⟩
  simp [Instr.sliceBounds, Instr.sliceBound, asIntOf, h1]
 simp only [hb, Result.andThen_ok, zby hs, Sem.run_pure]
 rw [if_neg (by omega), zcu]
theorem zdY {t e n sz g off : Nat} {x : Operand} (ho : o.op = .slice t x none none none) (ht : P.underlying t = some (.array n e)) (hs : (P.info? e).map (·.size) = some sz) (hx : a.eval x = .pointer (some ⟨g, off, none⟩)) :
  (execOp a.eval o).run P w = .ok (.value (.slice (some ⟨g, off, none⟩) n n)) w := by
 unfold execOp
 simp only [ho, hx, Option.map_none]
 unfold Instr.sliceAt
 simp only [Sem.run_bind, run_underlying ht, Result.andThen_ok, Instr.sureAddr, Sem.run_pure]
 have hb : (Instr.sliceBounds false n n none none none).run P w = .ok (0, n, n) w := by simp [Instr.sliceBounds]
 simp only [hb, Result.andThen_ok, zby hs, Sem.run_pure]
 by_cases h : n = 0
 ·rw [if_pos h]; simp
 ·rw [if_neg h, zcu]; simp
end
end
section
open Go.RowKit
theorem Own.lt' {w : World} {base : Nat} {e : TypeId} {v : Value} {l : List Nat} (h : Own w base e v l) : ∀ k, v.ownBlock = some k → k < w.heap.size := fun k hk => (h.lt k hk).2
theorem zb2 (a : Addr) : a.add 0 = a := by
 obtain ⟨b, o, f⟩ := a
 unfold Addr.add
 split <;> simp_all
structure Els (w : World) (B : Nat) (A : Option Addr) (n sz : Nat) (f : Nat → Nat → Value) : Prop where
 at_ : 0 < n → ∃ ad, A = some ad ∧ ad.block < B ∧ ∀ i j, i < n → j < sz → w.cell? (ad.add (i * sz + j)) = some (f i j)
section
variable {w w' : World} {B B' n sz : Nat} {A : Option Addr} {f : Nat → Nat → Value}
theorem Els.keep (h : Els w B A n sz f) (hk : ∀ p : Addr, p.block < B → w'.cell? p = w.cell? p) : Els w' B A n sz f :=
 ⟨fun hn => by
  obtain ⟨ad, e, hb, hc⟩ := h.at_ hn
  exact ⟨ad, e, hb, fun i j hi hj => (hk _ (by rw [zdQ]; exact hb)).trans (hc i j hi hj)⟩⟩
theorem Els.below (h : Els w B A n sz f) (hb : Below B w w') : Els w' B A n sz f := h.keep fun _ hp => hb.cell hp
theorem Els.below' (h : Els w B A n sz f) (hb : Below B' w w') (hB : B ≤ B') : Els w' B A n sz f := h.keep fun _ hp => hb.cell (jT hp hB)
theorem Els.cell (h : Els w B A n sz f) {i : Nat} (hi : i < n) : ∃ ad, A = some ad ∧ ad.block < B ∧ ∀ j, j < sz → w.cell? ((ad.add (i * sz)).add j) = some (f i j) := by
 obtain ⟨ad, e, hb, hc⟩ := h.at_ (by omega)
 exact ⟨ad, e, hb, fun j hj => by rw [Addr.add_add]; exact hc i j hi hj⟩
end
section
variable {P : Program} {ops : Array Oper} {rest : List Oper} {o o' : Oper} {a : Act} {w : World} {Q : Exit → Act → World → Prop}
theorem zod {v : Value} (hgd : Region.wanted o (yielded ops a.tmps) = true) (hr : (execOp a.eval o).run P w = .ok (.value v) w) (h : wpList P ops Q rest (a.put o.dst v) w) : wpList P ops Q (o :: rest) a w := by
 refine wpList_step fun K hK => ?_
 rw [if_pos hgd]
 unfold Oper.wp
 rw [hr]
 exact hK _ _ h
end
section
variable {P : Program} {w : World} {o : Oper} {a : Act}
theorem ziP {Q : Exit → Act → World → Prop} {K : Act → World → Prop} {t e : TypeId} {s x : Operand} (ho : o.op = .call { callee := .builtin .append, args := #[s, x], argTypes := #[t, t] })
  (hT : ByteT P t e) {base B : Nat} {v : Value} {l m : List Nat} {A : Option Addr} {n c : Nat} (hs : a.eval s = v) (hx : a.eval x = .slice A n c) (hown : Own w base e v l) (hr : Txt w B A n c m) (hlen : l.length + n ≤ 140737488355328) (hbase : base ≤ w.heap.size)
  (h : ∀ v' w', Own w' base e v' (l ++ m) → w.grownBy w' v.ownBlock → (v'.ownBlock = v.ownBlock ∨ v'.ownBlock = some w.heap.size) → K (a.put o.dst v') w') : o.wp P a w K Q := by
 obtain ⟨v', w', hrun, h2, h3, h4⟩ := zgo (P := P) (ty := o.type) hT hown hr hlen hbase
 unfold Oper.wp execOp
 simp only [ho, resolve, invoke, builtin, Sem.run_bind, Sem.run_pure, Result.andThen_ok, List.map_toArray, List.map_cons, List.map_nil, hs, hx, hrun]
 exact h v' w' h2 h3 h4
end
section
variable {P : Program} {ops : Array Oper} {rest : List Oper} {o o' : Oper} {a : Act} {w : World} {Q : Exit → Act → World → Prop}
theorem zrJ {t e sz n c : Nat} {x y : Operand} {ad : Addr} {i : Nat} (ho : o.op = .indexAddr t x y) (ht : P.underlying t = some (.slice e)) (hs : (P.info? e).map (·.size) = some sz) (hx : a.eval x = .slice (some ad) n c) (hy : a.eval y = .int .i64 i) (hi : i < n) :
  (execOp a.eval o).run P w = .ok (.value (.pointer (some (ad.add (i * sz))))) w := by
 unfold execOp
 simp only [ho, hx, hy]
 unfold Instr.indexAt
 have h1 : 0 ≤ (i : Int) ∧ (i : Int) < (n : Int) := by omega
 simp [Sem.run_bind, run_underlying ht, asIntOf, h1, hi, zby hs]
theorem zjV {ty n : Nat} {x : Operand} {ad : Addr} {f : Nat → Value} (ho : o.op = .load ty x) (hT : zeT P ty n) (hx : a.eval x = .pointer (some ad)) (hc : ∀ j, j < n → w.cell? (ad.add j) = some (f j)) :
  (execOp a.eval o).run P w = .ok (.value (.agg (zh7 n f))) w := by
 obtain ⟨d, hu, hd, hi⟩ := hT
 have hl : (loadCells ad n).run P w = .ok (zh7 n f) w := run_loadCells w ad n _ hc
 cases hq : P.info? ty with
 | none => simp [hq] at hi
 | some i =>
  have hs : i.size = n := by simpa [hq] using hi
  have hagg : (isAgg ty).run P w = .ok true w := by
   unfold isAgg
   rw [Sem.run_bind, run_underlying hu w]
   cases d <;> simp_all
  unfold execOp
  simp only [ho, hx]
  simp [Instr.loadAt, Instr.sureAddr, loadVar, Sem.run_bind, hagg, sizeOf, typeInfo, hq, hs, hl]
theorem zmK {ty : Nat} {d : TypeDesc} {x : Operand} {ad : Addr} {v : Value} (ho : o.op = .load ty x) (hu : P.underlying ty = some d) (hd : (match d with | .struct _ | .array _ _ => true | _ => false) = false) (hx : a.eval x = .pointer (some ad)) (hc : w.cell? ad = some v) :
  (execOp a.eval o).run P w = .ok (.value v) w := by
 have hagg : (isAgg ty).run P w = .ok false w := by
  unfold isAgg
  rw [Sem.run_bind, run_underlying hu w]
  cases d <;> simp_all
 unfold execOp
 simp only [ho, hx]
 simp [Instr.loadAt, Instr.sureAddr, loadVar, Sem.run_bind, hagg, hc]
end
end
section
open Go.RowKit
def zjW : List (Nat × Value) → Nat → Option Value
 | [], _ => none
 | (d, v) :: l, i => bif Nat.beq d i then some v else zjW l i
def ev (l : List (Nat × Value)) : Operand → Option Value
 | .tmp t => zjW l t
 | .const v => some v
 | .global g => some (.pointer (some ⟨g, 0, none⟩))
 | .func f => some (.func (.func f) #[] #[])
def evs (l : List (Nat × Value)) : List Operand → Option (List Value)
 | [] => some []
 | x :: xs => match ev l x, evs l xs with
  | some v, some vs => some (v :: vs)
  | _, _ => none
structure Env (a : Act) (N : Nat) (l : List (Nat × Value)) : Prop where
 defers : a.defers = []
 size : a.tmps.size = N
 val : ∀ i v, zjW l i = some v → a.tmps.getD i undef = v
section
variable {a : Act} {N : Nat} {l l' : List (Nat × Value)}
theorem Env.ev (h : Env a N l) {x : Operand} {v : Value} (hx : Proofs.YtfolbgiekbimpaaGreatDoor.ev l x = some v) : a.eval x = v := by
 cases x with
 | tmp t => exact h.val t v hx
 | const u => exact Option.some.inj hx
 | global g => exact Option.some.inj hx
 | func f => exact Option.some.inj hx
theorem Env.evs (h : Env a N l) : ∀ {xs : List Operand} {vs : List Value}, Proofs.YtfolbgiekbimpaaGreatDoor.evs l xs = some vs → xs.map a.eval = vs
 | [], vs, hx => by
  simp only [Proofs.YtfolbgiekbimpaaGreatDoor.evs, Option.some.injEq] at hx
  rw [← hx]
  rfl
 | x :: xs, vs, hx => by
  unfold Proofs.YtfolbgiekbimpaaGreatDoor.evs at hx
  cases h1 : Proofs.YtfolbgiekbimpaaGreatDoor.ev l x with
  | none => rw [h1] at hx; cases hx
  | some v =>
   cases h2 : Proofs.YtfolbgiekbimpaaGreatDoor.evs l xs with
   | none => rw [h1, h2] at hx; cases hx
   | some vs' =>
    rw [h1, h2] at hx
    simp only [Option.some.injEq] at hx
    rw [← hx, List.map_cons, h.ev h1, h.evs h2]
theorem Env.put (h : Env a N l) {d : Nat} {v : Value} (hd : Nat.blt d N = true) : Env (a.put (some d) v) N ((d, v) :: l) := by
 have hd' : d < a.tmps.size := by
  rw [h.size]
  have : d + 1 ≤ N := by simpa [Nat.blt] using hd
  omega
 refine ⟨h.defers, by simp [Act.put, h.size], fun i u hi => ?_⟩
 simp only [zjW] at hi
 by_cases e : d = i
 ·subst e
  simp only [Nat.beq_refl, cond_true, Option.some.injEq] at hi
  rw [← hi]
  simp [Act.put, hd']
 ·have hb : Nat.beq d i = false := by
   cases hq : Nat.beq d i
   ·rfl
   ·exact absurd (Nat.eq_of_beq_eq_true hq) e
  rw [hb] at hi
  simp only [cond_false] at hi
  have := h.val i u hi
  simp only [Act.put, jN] at this ⊢
  rw [Array.getElem?_setIfInBounds_ne e]
  exact this
theorem Env.sub (h : Env a N l) (hs : ∀ i v, zjW l' i = some v → zjW l i = some v) : Env a N l' := ⟨h.defers, h.size, fun i v hv => h.val i v (hs i v hv)⟩
def Sub (l : List (Nat × Value)) : List (Nat × Value) → Prop
 | [] => True
 | p :: l' => zjW l p.1 = some p.2 ∧ Sub l l'
theorem Sub.of : ∀ {l' : List (Nat × Value)}, Sub l l' → ∀ i v, zjW l' i = some v → zjW l i = some v
 | [], _, i, v, h => by cases h
 | (d, u) :: l', hs, i, v, h => by
  simp only [zjW] at h
  cases hq : Nat.beq d i
  ·rw [hq] at h
   exact Sub.of hs.2 i v h
  ·rw [hq] at h
   simp only [cond_true, Option.some.injEq] at h
   have := Nat.eq_of_beq_eq_true hq
   subst this
   rw [← h]
   exact hs.1
theorem Env.to (h : Env a N l) (hs : Sub l l') : Env a N l' := h.sub hs.of
def zrK : Nat → List Value → List (Nat × Value)
 | _, [] => []
 | k, v :: vs => (k, v) :: zrK (k + 1) vs
theorem zkc : ∀ (vs : List Value) (k i : Nat) (v : Value), zjW (zrK k vs) i = some v → k ≤ i ∧ vs[i - k]? = some v
 | [], k, i, v, h => by cases h
 | u :: vs, k, i, v, h => by
  simp only [zrK, zjW] at h
  cases hq : Nat.beq k i
  ·rw [hq] at h
   obtain ⟨h1, h2⟩ := zkc vs (k + 1) i v h
   refine ⟨by omega, ?_⟩
   rw [show i - k = (i - (k + 1)) + 1 by omega, jE]
   exact h2
  ·rw [hq] at h
   have := Nat.eq_of_beq_eq_true hq
   subst this
   simp only [cond_true, Option.some.injEq] at h
   simp [h]
theorem Env.start {args : Array Value} {n : Nat} (l : List (Nat × Value)) (hs : Nat.ble args.size n = true) (hl : zrK 0 args.toList = l) : Env { tmps := args ++ Array.replicate (n - args.size) undef, defers := [] } n l := by
 subst hl
 have hs' : args.size ≤ n := Nat.le_of_ble_eq_true hs
 refine ⟨rfl, by simp; omega, fun i v h => ?_⟩
 obtain ⟨_, h2⟩ := zkc _ 0 i v h
 simp only [Nat.sub_zero, Array.getElem?_toList] at h2
 have hi : i < args.size := (Array.getElem?_eq_some_iff.1 h2).1
 simp only [jN]
 rw [Array.getElem?_append_left hi, h2]
 rfl
end
theorem zaz {P : Program} {f : FuncId} {fn : Func} {c : Code} {args : Array Value} {w : World} {R : Ending → World → Prop} {n : Nat} (hn : fn.ntmps = n) (hf : P.funcs[f]? = some fn) (hb : fn.body = some c) (hs : Nat.ble args.size n = true)
  (h : ∀ a, Env a n (zrK 0 args.toList) → c.wp P (bodyPost P fn R) a w) : Calls P f args w R :=
 calls_of_wp hf hb (by subst hn; exact h _ (Env.start _ hs rfl))
def gd (ops : Array Oper) (l : List (Nat × Value)) (o : Oper) : Option Bool :=
 match o.guard with
 | none => some true
 | some (j, want) => match (ops[j]?).bind (·.dst) with
  | some d => match zjW l d with
   | some (.bool b) => some (b == want)
   | _ => none
  | none => none
theorem zcV {ops : Array Oper} {l : List (Nat × Value)} {o : Oper} {a : Act} {N : Nat} {b : Bool} (E : Env a N l) (h : gd ops l o = some b) : Region.wanted o (yielded ops a.tmps) = b := by
 unfold gd at h
 unfold Region.wanted
 split at h
 ·rename_i hg
  rw [hg]
  simpa using h
 ·rename_i j want hg
  rw [hg]
  dsimp only
  unfold yielded
  split at h
  ·rename_i d hd
   rw [hd]
   split at h
   ·rename_i c hl
    have hv := E.val d _ hl
    simp only [Option.some.injEq] at h
    have : a.tmps[d]? = some (.bool c) := by
     simp only [jN] at hv
     cases hq : a.tmps[d]? with
     | none => rw [hq] at hv; cases hv
     | some u => rw [hq] at hv; exact congrArg some hv
    simp only [Option.bind_some, this]
    rw [← h]
    cases c <;> cases want <;> rfl
   ·cases h
  ·cases h
inductive Chunk where
 | one (v : Value)
 | key (l : List Nat)
 | row (n : Nat) (f : Nat → Value)
def Chunk.len : Chunk → Nat
 | .one _ => 1
 | .key _ => 32
 | .row n _ => n
def zoe (l : List Nat) : List Value := (List.range 32).map fun i => bv (l.getD i 0)
def Chunk.cells : Chunk → List Value
 | .one v => [v]
 | .key l => zoe l
 | .row n f => (List.range n).map f
theorem Chunk.cells_len (c : Chunk) : c.cells.length = c.len := by cases c <;> simp [Chunk.cells, Chunk.len, zoe]
def cl : List Chunk → List Value
 | [] => []
 | c :: cs => c.cells ++ cl cs
def zej : List Chunk → Nat
 | [] => 0
 | c :: cs => c.len + zej cs
theorem zcn : ∀ cs, (cl cs).length = zej cs
 | [] => rfl
 | c :: cs => by rw [cl, zej, jQ, zcn cs, c.cells_len]
def ca (cs : List Chunk) : Array Value := (cl cs).toArray
theorem zfc (cs : List Chunk) : (ca cs).size = zej cs := by simp [ca, zcn]
theorem zmL (a b : List Chunk) : cl (a ++ b) = cl a ++ cl b := by
 induction a with
 | nil => rfl
 | cons c a ih => rw [List.cons_append, cl, cl, ih, List.append_assoc]
theorem zpc (a b : List Chunk) : zej (a ++ b) = zej a + zej b := by rw [← zcn, zmL, jQ, zcn, zcn]
def zh9 : List Chunk → Nat → Option (List Chunk)
 | _, 0 => some []
 | [], _ + 1 => none
 | c :: cs, n + 1 => bif Nat.ble c.len (n + 1) then (match zh9 cs (n + 1 - c.len) with | some r => some (c :: r) | none => none) else none
def zgm : List Chunk → Nat → Option (List Chunk)
 | cs, 0 => some cs
 | [], _ + 1 => none
 | c :: cs, n + 1 => bif Nat.ble c.len (n + 1) then zgm cs (n + 1 - c.len) else none
def zkL (cs : List Chunk) (off n : Nat) : Option (List Chunk) := match zgm cs off with | some r => zh9 r n | none => none
def zBi : List Chunk → List Chunk → Option (List Chunk)
 | [], r => some r
 | [c], r => some (c :: r)
 | [c, d], r => some (c :: d :: r)
 | new, [] => some new
 | new, r => some (new ++ r)
theorem zxe (new r : List Chunk) : zBi new r = some (new ++ r) := by
 unfold zBi
 split <;> simp
def zqG : List Chunk → Nat → List Chunk → Option (List Chunk)
 | cs, 0, new => match zgm cs (zej new) with | some r => zBi new r | none => none
 | [], _ + 1, _ => none
 | c :: cs, off + 1, new => bif Nat.ble c.len (off + 1) then (match zqG cs (off + 1 - c.len) new with | some r => some (c :: r) | none => none) else none
theorem zpd : ∀ (cs : List Chunk) (n : Nat) (r : List Chunk), zh9 cs n = some r → cl r = (cl cs).take n ∧ zej r = n
 | cs, 0, r, h => by
  rw [zh9] at h
  obtain rfl := Option.some.inj h
  simp [cl, zej]
 | [], n + 1, r, h => by cases h
 | c :: cs, n + 1, r, h => by
  rw [zh9] at h
  cases hb : Nat.ble c.len (n + 1)
  ·rw [hb] at h; cases h
  ·rw [hb] at h
   have hle := Nat.le_of_ble_eq_true hb
   simp only [cond_true] at h
   obtain ⟨r', h1, rfl⟩ : ∃ r', zh9 cs (n + 1 - c.len) = some r' ∧ c :: r' = r := by
    cases hq : zh9 cs (n + 1 - c.len) with
    | none => rw [hq] at h; cases h
    | some d => rw [hq] at h; exact ⟨d, rfl, Option.some.inj h⟩
   obtain ⟨h2, h3⟩ := zpd cs _ r' h1
   refine ⟨?_, by rw [zej, h3]; omega⟩
   rw [cl, cl, h2, List.take_append, List.take_of_length_le (l := c.cells) (by rw [c.cells_len]; exact hle), c.cells_len]
theorem zkM : ∀ (cs : List Chunk) (n : Nat) (r : List Chunk), zgm cs n = some r → cl r = (cl cs).drop n ∧ n ≤ zej cs
 | cs, 0, r, h => by
  rw [zgm] at h
  obtain rfl := Option.some.inj h
  simp
 | [], n + 1, r, h => by cases h
 | c :: cs, n + 1, r, h => by
  rw [zgm] at h
  cases hb : Nat.ble c.len (n + 1)
  ·rw [hb] at h; cases h
  ·rw [hb] at h
   have hle := Nat.le_of_ble_eq_true hb
   simp only [cond_true] at h
   obtain ⟨h2, h3⟩ := zkM cs _ r h
   refine ⟨?_, by rw [zej]; omega⟩
   rw [h2, cl, List.drop_append, List.drop_of_length_le (l := c.cells) (by rw [c.cells_len]; exact hle), c.cells_len, List.nil_append]
theorem zkN {cs r : List Chunk} {off n : Nat} (h : zkL cs off n = some r) : cl r = ((cl cs).drop off).take n ∧ zej r = n ∧ off + n ≤ zej cs := by
 unfold zkL at h
 obtain ⟨d, h1, h2⟩ : ∃ d, zgm cs off = some d ∧ zh9 d n = some r := by
  cases hq : zgm cs off with
  | none => rw [hq] at h; cases h
  | some d => rw [hq] at h; exact ⟨d, rfl, h⟩
 obtain ⟨h3, h4⟩ := zkM _ _ _ h1
 obtain ⟨h5, h6⟩ := zpd _ _ _ h2
 rw [h3] at h5
 refine ⟨h5, h6, ?_⟩
 have := congrArg List.length h5
 rw [zcn, h6, List.length_take, List.length_drop, zcn] at this
 omega
theorem zkO : ∀ (cs : List Chunk) (off : Nat) (new r : List Chunk), zqG cs off new = some r → cl r = (cl cs).take off ++ cl new ++ (cl cs).drop (off + zej new) ∧ off + zej new ≤ zej cs
 | cs, 0, new, r, h => by
  rw [zqG] at h
  obtain ⟨d, h1, rfl⟩ : ∃ d, zgm cs (zej new) = some d ∧ new ++ d = r := by
   cases hq : zgm cs (zej new) with
   | none => rw [hq] at h; cases h
   | some d => rw [hq] at h; exact ⟨d, rfl, by dsimp only at h; rw [zxe] at h; exact Option.some.inj h⟩
  obtain ⟨h2, h3⟩ := zkM _ _ _ h1
  refine ⟨by rw [zmL, h2, jI, List.nil_append, Nat.zero_add], by omega⟩
 | [], off + 1, new, r, h => by cases h
 | c :: cs, off + 1, new, r, h => by
  rw [zqG] at h
  cases hb : Nat.ble c.len (off + 1)
  ·rw [hb] at h; cases h
  ·rw [hb] at h
   have hle := Nat.le_of_ble_eq_true hb
   simp only [cond_true] at h
   obtain ⟨r', h1, rfl⟩ : ∃ r', zqG cs (off + 1 - c.len) new = some r' ∧ c :: r' = r := by
    cases hq : zqG cs (off + 1 - c.len) new with
    | none => rw [hq] at h; cases h
    | some d => rw [hq] at h; exact ⟨d, rfl, Option.some.inj h⟩
   obtain ⟨h2, h3⟩ := zkO cs _ new r' h1
   refine ⟨?_, by rw [zej]; omega⟩
   rw [cl, cl, h2, List.take_append, List.take_of_length_le (l := c.cells) (by rw [c.cells_len]; exact hle), c.cells_len]
   rw [List.drop_append, List.drop_of_length_le (l := c.cells) (by rw [c.cells_len]; omega), c.cells_len, List.nil_append]
   rw [show off + 1 + zej new - c.len = off + 1 - c.len + zej new by omega]
   simp only [List.append_assoc]
inductive Res where
 | blk (b : Nat) (c : Array Value) (t : TypeId)
 | row (v : Value) (e sz n : Nat) (xs : List Value)
 | obj (b : Nat) (o : Obj)
def Res.keys : Res → List Nat
 | .blk b _ _ => [b]
 | .row v _ _ _ _ => v.ownBlock.toList
 | .obj b _ => [b]
def Res.holds (w : World) : Res → Prop
 | .blk b c t => w.heap[b]? = some (.cells c t (0, 0))
 | .row v e sz n xs => w.ownsRow 0 e sz v n xs
 | .obj b o => w.heap[b]? = some o
def zbz : List Res → List Nat
 | [] => []
 | r :: L => r.keys ++ zbz L
def St (r : World → Prop) (w : World) (Y : List Nat) : Prop := ∀ w' : World, (∀ k, k < w.heap.size → k ∉ Y → w'.heap[k]? = w.heap[k]?) → r w'
structure Frm (G : List Nat) (w w' : World) : Prop where
 os : w'.os = w.os
 tape : w'.tape = w.tape
 output : w'.output = w.output
 size : w.heap.size ≤ w'.heap.size
 block : ∀ k, k < w.heap.size → k ∉ G → w'.heap[k]? = w.heap[k]?
structure Sep (X G : List Nat) (w0 w : World) (L : List Res) (R : List (World → Prop)) : Prop where
 frm : Frm G w0 w
 xlt : ∀ k ∈ X, k < w0.heap.size
 holds : ∀ r ∈ L, r.holds w
 apart : (zbz L).Nodup
 mine : ∀ k ∈ zbz L, k ∈ G ∨ w0.heap.size ≤ k
 facts : ∀ r ∈ R, St r w (X ++ zbz L)
section
variable {r r' : World → Prop} {w w' w0 w1 : World} {Y Y' X G : List Nat} {L L' L1 : List Res} {R R' R1 : List (World → Prop)} {q q' : Res}
theorem St.now (h : St r w Y) : r w := h w fun _ _ _ => rfl
theorem St.mono (h : St r w Y) (hY : ∀ k ∈ Y', k ∈ Y) : St r w Y' := fun w' hk => h w' fun k hl hn => hk k hl fun hm => hn (hY k hm)
theorem St.imp (h : St r w Y) (hr : ∀ w, r w → r' w) : St r' w Y := fun w' hk => hr _ (h w' hk)
theorem St.and (h : St r w Y) (h' : St r' w Y) : St (fun w => r w ∧ r' w) w Y := fun w' hk => ⟨h w' hk, h' w' hk⟩
theorem St.step (h : St r w Y) (hs : w.heap.size ≤ w'.heap.size) (hk : ∀ k, k < w.heap.size → k ∉ Y → w'.heap[k]? = w.heap[k]?) (hY : ∀ k ∈ Y', k ∈ Y ∨ w.heap.size ≤ k) : St r w' Y' := fun w2 hk2 =>
 h w2 fun k hl hn => (hk2 k (jT hl hs) fun hm => by
  rcases hY k hm with h1 | h1
  ·exact hn h1
  ·omega).trans (hk k hl hn)
theorem Frm.refl (G : List Nat) (w : World) : Frm G w w := ⟨rfl, rfl, rfl, jV _, fun _ _ _ => rfl⟩
theorem Frm.trans (h : Frm G w w1) (h' : Frm Y w1 w') (hY : ∀ k ∈ Y, k ∈ G ∨ w.heap.size ≤ k) : Frm G w w' :=
 ⟨h'.os.trans h.os, h'.tape.trans h.tape, h'.output.trans h.output, jU h.size h'.size, fun k hk hn => (h'.block k (jT hk h.size) fun hm => by
  rcases hY k hm with h1 | h1
  ·exact hn h1
  ·omega).trans (h.block k hk hn)⟩
theorem Frm.below (h : Frm [] w w') : Below w.heap.size w w' := ⟨h.os, h.tape, h.output, h.size, fun k hk => h.block k hk (by simp)⟩
theorem Frm.of_below (h : Below w.heap.size w w') : Frm G w w' := ⟨h.os, h.tape, h.output, h.size, fun k hk _ => h.block k hk⟩
theorem Frm.of_grown {row : Option Nat} (h : w.grownBy w' row) : Frm row.toList w w' :=
 ⟨h.os, h.tape, h.output, h.size, fun k hk hn => h.block k hk fun e => hn (by rw [← e]; simp)⟩
theorem Frm.drew (h : Frm G w w') : Frm G w w'.drew := ⟨h.os, h.tape, h.output, h.size, h.block⟩
theorem zgT (h : q.holds w) (hk : ∀ k ∈ q.keys, w'.heap[k]? = w.heap[k]?) : q.holds w' := by
 cases q with
 | blk b c t => exact (hk b (by simp [Res.keys])).trans h
 | obj b o => exact (hk b (by simp [Res.keys])).trans h
 | row v e sz n xs =>
  refine ⟨h.1, ?_⟩
  rcases h.2 with h2 | ⟨g, cap, cur, rfl, h3, hh, h4⟩
  ·exact .inl h2
  ·exact .inr ⟨g, cap, cur, rfl, h3, (hk g (by simp [Res.keys, Value.ownBlock])).trans hh, h4⟩
theorem zkd (h : q.holds w) : ∀ k ∈ q.keys, k < w.heap.size := by
 intro k hk
 cases q with
 | blk b c t =>
  simp only [Res.keys, List.mem_singleton] at hk
  subst hk
  exact jM h
 | obj b o =>
  simp only [Res.keys, List.mem_singleton] at hk
  subst hk
  exact jM h
 | row v e sz n xs =>
  simp only [Res.keys, Option.mem_toList] at hk
  exact (World.ownsRow.lt h k hk).2
theorem zgU : ∀ {L : List Res} {k : Nat}, k ∈ zbz L ↔ ∃ q ∈ L, k ∈ q.keys
 | [], k => by simp [zbz]
 | q :: L, k => by simp [zbz, zgU (L := L)]
theorem Sep.lt (h : Sep X G w0 w L R) : ∀ k ∈ zbz L, k < w.heap.size := fun k hk => by
 obtain ⟨q, hq, hk⟩ := zgU.1 hk
 exact zkd (h.holds q hq) k hk
theorem Sep.start (hX : ∀ k ∈ X, k < w.heap.size) (hf : ∀ r ∈ R, St r w X) : Sep X G w w [] R :=
 ⟨Frm.refl _ _, hX, fun _ h => (by cases h), List.nodup_nil, fun _ h => (by cases h), fun r hr => (hf r hr).mono (by simp [zbz])⟩
theorem Sep.xk (h : Sep X G w0 w L R) : ∀ k ∈ X ++ zbz L, k < w.heap.size := fun k hk => by
 rcases List.mem_append.1 hk with h1 | h1
 ·exact jT (h.xlt k h1) h.frm.size
 ·exact h.lt k h1
theorem Sep.grow (h : Sep X G w0 w L R) (hb : Frm [] w w') : Sep X G w0 w' L R :=
 ⟨h.frm.trans hb (by simp), h.xlt, fun q hq => zgT (h.holds q hq) fun k hk => hb.block k (zkd (h.holds q hq) k hk) (by simp), h.apart, h.mine,
  fun r hr => (h.facts r hr).step hb.size (fun k hk _ => hb.block k hk (by simp)) fun k hk => .inl hk⟩
theorem Sep.drew (h : Sep X G w0 w L R) : Sep X G w0 w.drew L R := h.grow ⟨rfl, rfl, rfl, jV _, fun _ _ _ => rfl⟩
theorem Sep.own (h : Sep X G w0 w L R) (hb : Frm [] w w') (hq : q.holds w') (hk : ∀ k ∈ q.keys, w.heap.size ≤ k) (hnd : q.keys.Nodup) : Sep X G w0 w' (q :: L) R := by
 have h' := h.grow hb
 have hs := h.frm.size
 refine ⟨h'.frm, h.xlt, fun r hr => ?_, ?_, fun k hk' => ?_, fun r hr => (h.facts r hr).step hb.size (fun k hk _ => hb.block k hk (by simp)) fun k hk' => ?_⟩
 ·rcases List.mem_cons.1 hr with rfl | hr
  ·exact hq
  ·exact h'.holds r hr
 ·exact List.nodup_append.2 ⟨hnd, h.apart, fun a ha b hb' e => by
   subst e
   have := h.lt a hb'
   have := hk a ha
   omega⟩
 ·rcases List.mem_append.1 hk' with h1 | h1
  ·exact .inr (jU hs (hk k h1))
  ·exact h.mine k h1
 ·rcases List.mem_append.1 hk' with h1 | h1
  ·exact .inl (List.mem_append_left _ h1)
  ·rcases List.mem_append.1 h1 with h2 | h2
   ·exact .inr (hk k h2)
   ·exact .inl (List.mem_append_right _ h2)
theorem Sep.turn (h : Sep X G w0 w (q :: L) R) (hb : Frm q.keys w w') (hq : q'.holds w') (hk : ∀ k ∈ q'.keys, k ∈ q.keys ∨ w.heap.size ≤ k) (hnd : q'.keys.Nodup) : Sep X G w0 w' (q' :: L) R := by
 have hap := List.nodup_append.1 h.apart
 have hs := h.frm.size
 have key : ∀ r ∈ L, r.holds w' := fun r hr => zgT (h.holds r (List.mem_cons_of_mem _ hr)) fun k hk' => hb.block k (zkd (h.holds r (List.mem_cons_of_mem _ hr)) k hk') fun hm => hap.2.2 k hm k (zgU.2 ⟨r, hr, hk'⟩) rfl
 refine ⟨h.frm.trans hb fun k hk' => h.mine k (List.mem_append_left _ hk'), h.xlt, fun r hr => ?_, ?_, fun k hk' => ?_, fun r hr => (h.facts r hr).step hb.size (fun k hk' hn => hb.block k hk' fun hm => hn (List.mem_append_right _ (List.mem_append_left _ hm))) fun k hk' => ?_⟩
 ·rcases List.mem_cons.1 hr with rfl | hr
  ·exact hq
  ·exact key r hr
 ·refine List.nodup_append.2 ⟨hnd, hap.2.1, fun a ha b hb' e => ?_⟩
  subst e
  rcases hk a ha with h1 | h1
  ·exact hap.2.2 a h1 a hb' rfl
  ·have := h.lt a (List.mem_append_right _ hb')
   omega
 ·rcases List.mem_append.1 hk' with h1 | h1
  ·rcases hk k h1 with h2 | h2
   ·exact h.mine k (List.mem_append_left _ h2)
   ·exact .inr (jU hs h2)
  ·exact h.mine k (List.mem_append_right _ h1)
 ·rcases List.mem_append.1 hk' with h1 | h1
  ·exact .inl (List.mem_append_left _ h1)
  ·rcases List.mem_append.1 h1 with h2 | h2
   ·rcases hk k h2 with h3 | h3
    ·exact .inl (List.mem_append_right _ (List.mem_append_left _ h3))
    ·exact .inr h3
   ·exact .inl (List.mem_append_right _ (List.mem_append_right _ h2))
theorem zbS : ∀ (a b : List Res), zbz (a ++ b) = zbz a ++ zbz b
 | [], b => rfl
 | q :: a, b => by rw [List.cons_append, zbz, zbz, zbS a b, List.append_assoc]
theorem zqH {a b : List Res} (h : a.Perm b) : (zbz a).Perm (zbz b) := by
 induction h with
 | nil => exact List.Perm.refl _
 | cons x _ ih => exact List.Perm.append_left _ ih
 | swap x y l =>
  simp only [zbz]
  rw [← List.append_assoc, ← List.append_assoc]
  exact List.Perm.append_right _ List.perm_append_comm
 | trans _ _ ih1 ih2 => exact ih1.trans ih2
theorem Sep.perm (h : Sep X G w0 w L R) (hp : L.Perm L') : Sep X G w0 w L' R := by
 have hk := zqH hp
 exact ⟨h.frm, h.xlt, fun r hr => h.holds r (hp.mem_iff.2 hr), hk.nodup_iff.1 h.apart, fun k hm => h.mine k (hk.mem_iff.2 hm), fun r hr => (h.facts r hr).mono fun k hm => by
  rcases List.mem_append.1 hm with h1 | h1
  ·exact List.mem_append_left _ h1
  ·exact List.mem_append_right _ (hk.mem_iff.2 h1)⟩
theorem Sep.at_ (h : Sep X G w0 w L R) (i : Nat) (q : Res) (hq : L[i]? = some q) : Sep X G w0 w (q :: L.eraseIdx i) R := by
 refine h.perm ?_
 have hi := (List.getElem?_eq_some_iff.1 hq).1
 have e : q = L[i] := ((List.getElem?_eq_some_iff.1 hq).2).symm
 rw [e]
 clear e hq h
 induction L generalizing i with
 | nil => simp at hi
 | cons x L ih =>
  cases i with
  | zero => exact List.Perm.refl _
  | succ i =>
   simp only [List.eraseIdx_cons_succ, List.getElem_cons_succ]
   exact (List.Perm.cons x (ih i (by simpa using hi))).trans (List.Perm.swap _ _ _)
theorem Sep.back (i : Nat) (hq : i < L.length) (h : Sep X G w0 w (q' :: L.eraseIdx i) R) : Sep X G w0 w (L.set i q') R := by
 refine h.perm ?_
 clear h
 induction L generalizing i with
 | nil => simp at hq
 | cons x L ih =>
  cases i with
  | zero => exact List.Perm.refl _
  | succ i =>
   simp only [List.eraseIdx_cons_succ, jC]
   exact (List.Perm.swap _ _ _).trans (List.Perm.cons x (ih i (by simpa using hq)))
theorem Sep.turnAt (h : Sep X G w0 w L R) (i : Nat) (hi : L[i]? = some q) (hb : Frm q.keys w w') (hq : q'.holds w') (hk : ∀ k ∈ q'.keys, k ∈ q.keys ∨ w.heap.size ≤ k) (hnd : q'.keys.Nodup) (hL : L.set i q' = L') : Sep X G w0 w' L' R := by
 subst hL
 exact ((h.at_ i q hi).turn hb hq hk hnd).back i (List.getElem?_eq_some_iff.1 hi).1
theorem Sep.pop (h : Sep X G w0 w L (r :: R)) : Sep X G w0 w L R := ⟨h.frm, h.xlt, h.holds, h.apart, h.mine, fun r hr => h.facts r (List.mem_cons_of_mem _ hr)⟩
theorem Sep.sub (h : Sep X G w0 w L R) (hR : ∀ r ∈ R', r ∈ R) : Sep X G w0 w L R' := ⟨h.frm, h.xlt, h.holds, h.apart, h.mine, fun r hr => h.facts r (hR r hr)⟩
theorem Sep.popL (h : Sep X G w0 w (q :: L) R) : Sep X G w0 w L R :=
 ⟨h.frm, h.xlt, fun r hr => h.holds r (List.mem_cons_of_mem _ hr), (List.nodup_append.1 h.apart).2.1, fun k hk => h.mine k (List.mem_append_right _ hk), fun r hr => (h.facts r hr).mono fun k hk => by
  rcases List.mem_append.1 hk with h1 | h1
  ·exact List.mem_append_left _ h1
  ·exact List.mem_append_right _ (List.mem_append_right _ h1)⟩
theorem Sep.know (h : Sep X G w0 w L R) (hr : St r w (X ++ zbz L)) : Sep X G w0 w L (r :: R) := ⟨h.frm, h.xlt, h.holds, h.apart, h.mine, fun r' hr' => by
 rcases List.mem_cons.1 hr' with rfl | hr'
 ·exact hr
 ·exact h.facts r' hr'⟩
theorem Sep.fact (h : Sep X G w0 w L R) (i : Nat) (hi : R[i]? = some r) : St r w (X ++ zbz L) := h.facts r (List.mem_of_getElem? hi)
theorem Sep.freeze (h : Sep X G w0 w (q :: L) R) (hG : ∀ k ∈ q.keys, w0.heap.size ≤ k) : Sep X G w0 w L ((fun w => q.holds w) :: R) := by
 refine h.popL.know fun w' hk => zgT (h.holds q (List.mem_cons_self ..)) fun k hq => hk k (zkd (h.holds q (List.mem_cons_self ..)) k hq) fun hm => ?_
 rcases List.mem_append.1 hm with h1 | h1
 ·have := h.xlt k h1
  have := hG k hq
  omega
 ·exact (List.nodup_append.1 h.apart).2.2 k hq k h1 rfl
theorem Sep.call (h : Sep X G w0 w L R) (h1 : Sep (X ++ zbz L) [] w w1 L1 R1) : Sep X G w0 w1 (L1 ++ L) (R1 ++ R) := by
 have hg := h.grow h1.frm
 have hnew : ∀ k ∈ zbz L1, w.heap.size ≤ k := fun k hk => by
  rcases h1.mine k hk with h2 | h2
  ·cases h2
  ·exact h2
 refine ⟨hg.frm, h.xlt, fun r hr => ?_, ?_, fun k hk => ?_, fun r hr => ?_⟩
 ·rcases List.mem_append.1 hr with h2 | h2
  ·exact h1.holds r h2
  ·exact hg.holds r h2
 ·rw [zbS]
  exact List.nodup_append.2 ⟨h1.apart, h.apart, fun a ha b hb e => by
   subst e
   have := hnew a ha
   have := h.lt a hb
   omega⟩
 ·rw [zbS] at hk
  rcases List.mem_append.1 hk with h2 | h2
  ·exact .inr (jU h.frm.size (hnew k h2))
  ·exact h.mine k h2
 ·rw [zbS]
  rcases List.mem_append.1 hr with h2 | h2
  ·refine (h1.facts r h2).mono fun k hk => ?_
   simp only [List.mem_append] at hk ⊢
   rcases hk with h3 | h3 | h3
   ·exact .inl (.inl h3)
   ·exact .inr h3
   ·exact .inl (.inr h3)
  ·refine (h.facts r h2).step h1.frm.size (fun k hk _ => h1.frm.block k hk (by simp)) fun k hk => ?_
   simp only [List.mem_append] at hk ⊢
   rcases hk with h3 | h3 | h3
   ·exact .inl (.inl h3)
   ·exact .inr (hnew k h3)
   ·exact .inl (.inr h3)
end
end
section
open Go.RowKit
def PK (P : Program) (S : Nat → Prop) (ws : World) (l : List (Nat × Value)) (o : Oper) (v : Value) : Prop :=
 ∀ w', CanB.Keep S ws w' → ∀ a N, Env a N l → (execOp a.eval o).run P w' = .ok (.value v) w'
def zzQ (_ : Nat) : Prop := True
def zxf : List Value → Nat → Option Value
 | [], _ => none
 | v :: _, 0 => some v
 | _ :: vs, i + 1 => zxf vs i
section
variable {P : Program} {ops : Array Oper} {rest : List Oper} {o : Oper} {a : Act} {w ws : World} {Q : Exit → Act → World → Prop} {N d : Nat} {l : List (Nat × Value)} {v : Value} {S : Nat → Prop} {T : Act → World → Prop} {p : List (Oper × Bool)}
theorem zgV (E : Env a N l) (hv : PK P zzQ w l o v) (hg : gd ops l o = some true) (hd : o.dst = some d) (hN : Nat.blt d N = true) (h : ∀ a', Env a' N ((d, v) :: l) → wpList P ops Q rest a' w) : wpList P ops Q (o :: rest) a w :=
 zod (zcV E hg) (hv w (CanB.Keep.refl _ _) a N E) (h _ (by rw [hd]; exact E.put hN))
theorem zmM (E : Env a N l) (hg : gd ops l o = some false) (hd : o.dst = some d) (hN : Nat.blt d N = true) (h : ∀ a', Env a' N ((d, undef) :: l) → wpList P ops Q rest a' w) : wpList P ops Q (o :: rest) a w := by
 unfold wpList
 rw [if_neg (by rw [zcV E hg]; decide)]
 exact h _ (by rw [hd]; exact E.put hN)
theorem zBj (E : Env a N l) (hg : gd ops l o = some true) (h : ∀ K : Act → World → Prop, (∀ a' w', wpList P ops Q rest a' w' → K a' w') → o.wp P a w K Q) : wpList P ops Q (o :: rest) a w :=
 wpList_step fun K hK => by rw [if_pos (zcV E hg)]; exact h K hK
theorem zof (E : Env a N l) (HK : CanB.Keep S ws w) (hv : PK P S ws l o v) (hg : gd ops l o = some true) (hd : o.dst = some d) (hN : Nat.blt d N = true) (hQ : ∀ c a v w, Q (.panic c) (a.put o.dst v) w → Q (.panic c) a w)
  (h : ∀ a', Env a' N ((d, v) :: l) → CanB.wpCan P ops Q S T p a' w) : CanB.wpCan P ops Q S T ((o, false) :: p) a w :=
 CanB.wpCan_v (zcV E hg) hQ (fun u hu w' hk => by
  have h1 := hv w HK a N E
  rw [hu] at h1
  simp only [Result.ok.injEq, Next.value.injEq] at h1
  rw [h1.1]
  exact hv w' (HK.trans hk) a N E) (hv w HK a N E) (h _ (by rw [hd]; exact E.put hN))
theorem zfC (E : Env a N l) (hg : gd ops l o = some true) (h : ∀ K : Act → World → Prop, (∀ a' w', CanB.Keep S w w' → CanB.wpCan P ops Q S T p a' w' → K a' w') → o.wp P a w K Q) : CanB.wpCan P ops Q S T ((o, true) :: p) a w :=
 CanB.wpCan_e (zcV E hg) h
theorem zbr {id : Nat} {lo : List Oper} {X G : List Nat} {w0 : World} {L : List Res} {R : List (World → Prop)} (E : Env a N l) (H : Sep X G w0 w L R) (D : List Nat) (n : Nat) (p : List (Nat × Bool)) (hm : P.follows .mixedOrders = true) (hB : CanB.canB .any lo.toArray n p = true)
  (h : ∀ ws, Sep X G w0 ws L R → CanB.wpCan P lo.toArray Q (fun k => k < ws.heap.size ∧ k ∉ D) (fun a' w' => wpList P lo.toArray Q (lo.drop n) a' w') (CanB.canOps lo p) a ws) : (Code.region id lo.toArray true).wp P Q a w :=
 CanB.wp_region_can (fun k => k < w.drew.heap.size ∧ k ∉ D) n p hm hB (h w.drew H.drew)
theorem zaI {D G : List Nat} {w1 : World} (F : Frm G w w1) (hs : ws.heap.size ≤ w.heap.size) (hG : ∀ k ∈ G, k ∈ D ∨ ws.heap.size ≤ k) : CanB.Keep (fun k => k < ws.heap.size ∧ k ∉ D) w w1 := fun k hk => F.block k (by omega) fun hm => by
 rcases hG k hm with h | h
 ·exact hk.2 h
 ·omega
theorem zgy {x : Operand} (ho : o.op = .move x) (hx : ev l x = some v) : PK P S ws l o v := fun w' _ a N E => by
 unfold execOp; rw [ho]; simp only [E.ev hx]; rfl
theorem zcA {x : Operand} (ho : o.op = .assign x) (hx : ev l x = some v) : PK P S ws l o v := fun w' _ a N E => by
 unfold execOp; rw [ho]; simp only [E.ev hx]; rfl
theorem zep {c x y : Operand} {b : Bool} (ho : o.op = .pick c x y) (hc : ev l c = some (.bool b)) (hv : (bif b then ev l x else ev l y) = some v) : PK P S ws l o v := fun w' _ a N E => by
 unfold execOp; rw [ho]; simp only [E.ev hc]
 cases b
 ·have hv' : ev l y = some v := hv
  simp [asBool, E.ev hv']
 ·have hv' : ev l x = some v := hv
  simp [asBool, E.ev hv']
theorem zwI : ∀ (vs : List Value) (i : Nat), zxf vs i = vs[i]?
 | [], i => by simp [zxf]
 | v :: vs, 0 => by simp [zxf]
 | v :: vs, i + 1 => by rw [zxf, zwI vs i]; simp
theorem zaV {x : Operand} {i : Nat} {vs : Array Value} (ho : o.op = .extract x i) (hx : ev l x = some (.tuple vs)) (hn : zxf vs.toList i = some v) : PK P S ws l o v := fun w' _ a N E => by
 have hv : vs[i]? = some v := by rw [zwI] at hn; simpa using hn
 unfold execOp; rw [ho]; simp [E.ev hx, Instr.extract, hv]
theorem zog {f : Fn} {fs cs : Array Operand} {vs us : List Value} (ho : o.op = .makeFunc f fs cs) (h1 : evs l fs.toList = some vs) (h2 : evs l cs.toList = some us) : PK P S ws l o (.func f vs.toArray us.toArray) := fun w' _ a N E => by
 have e1 : fs.map a.eval = vs.toArray := Array.toList_inj.1 (by rw [Array.toList_map]; exact E.evs h1)
 have e2 : cs.map a.eval = us.toArray := Array.toList_inj.1 (by rw [Array.toList_map]; exact E.evs h2)
 unfold execOp; rw [ho]
 simp [Instr.makeFunc, e1, e2]
def zke (op : BinOp) (k : IntKind) (m n : Int) : Option Value :=
 match op with
 | .add => some (.int k (k.wrap (m + n)))
 | .sub => some (.int k (k.wrap (m - n)))
 | .mul => some (.int k (k.wrap (m * n)))
 | .eql => some (.bool (m == n))
 | .neq => some (.bool (m != n))
 | .lss => some (.bool (decide (m < n)))
 | .leq => some (.bool (decide (m ≤ n)))
 | .gtr => some (.bool (decide (m > n)))
 | .geq => some (.bool (decide (m ≥ n)))
 | .and => some (.int k (k.wrap (BitVec.ofInt k.bits m &&& BitVec.ofInt k.bits n).toNat))
 | .or => some (.int k (k.wrap (BitVec.ofInt k.bits m ||| BitVec.ofInt k.bits n).toNat))
 | .xor => some (.int k (k.wrap (BitVec.ofInt k.bits m ^^^ BitVec.ofInt k.bits n).toNat))
 | _ => none
theorem zd6 (op : BinOp) (t : TypeId) (x y : Operand) (k k' : IntKind) (m n : Int) (w : World) : (eqGuard op t x y (.int k m) (.int k' n)).run P w = .ok () w := by
 unfold eqGuard
 cases op <;> rfl
theorem zbD {op : BinOp} {t u : TypeId} {x y : Operand} {k : IntKind} {m n : Int} (ho : o.op = .binOp op t x y u) (hx : ev l x = some (.int k m)) (hy : ev l y = some (.int k n)) (hr : zke op k m n = some v) : PK P S ws l o v := fun w' _ a N E => by
 unfold execOp; rw [ho]
 simp only [E.ev hx, E.ev hy, Sem.run_bind, zd6, Result.andThen_ok]
 cases op <;> simp only [zke, reduceCtorEq, Option.some.injEq] at hr <;> (subst hr; simp [binOp, Op.intArith, Op.intCmp, Op.intBits])
theorem zaK {op : BinOp} {t u : TypeId} {x y : Operand} {k : IntKind} {m n z : Int} (ho : o.op = .binOp op t x y u) (hx : ev l x = some (.int k m)) (hy : ev l y = some (.int k n)) (hr : zke op k m n = some (.int k (k.wrap z))) (hw : k.wrap z = z) : PK P S ws l o (.int k z) :=
 zbD ho hx hy (by rw [hr, hw])
theorem zwJ {t u : TypeId} {x y : Operand} {k : IntKind} {m n : Int} (ho : o.op = .binOp .rem t x y u) (hx : ev l x = some (.int k m)) (hy : ev l y = some (.int k n)) (hn : n ≠ 0) : PK P S ws l o (.int k (m.tmod n)) := fun w' _ a N E => by
 unfold execOp; rw [ho]
 simp only [E.ev hx, E.ev hy, Sem.run_bind, zd6, Result.andThen_ok]
 simp [binOp, Op.intDiv, hn]
theorem zwK {t u : TypeId} {x y : Operand} {k k' : IntKind} {m n : Int} (ho : o.op = .binOp .shl t x y u) (hx : ev l x = some (.int k m)) (hy : ev l y = some (.int k' n)) (hn : 0 ≤ n) : PK P S ws l o (.int k (k.wrap (m * 2 ^ (min n.toNat k.bits)))) := fun w' _ a N E => by
 unfold execOp; rw [ho]
 simp only [E.ev hx, E.ev hy, Sem.run_bind, zd6, Result.andThen_ok]
 simp [binOp, Op.shift, show ¬ n < 0 by omega]
theorem zwL {t u : TypeId} {x y : Operand} {k k' : IntKind} {m n : Int} (ho : o.op = .binOp .shr t x y u) (hx : ev l x = some (.int k m)) (hy : ev l y = some (.int k' n)) (hn : 0 ≤ n) : PK P S ws l o (.int k (m.fdiv (2 ^ (min n.toNat k.bits)))) := fun w' _ a N E => by
 unfold execOp; rw [ho]
 simp only [E.ev hx, E.ev hy, Sem.run_bind, zd6, Result.andThen_ok]
 simp [binOp, Op.shift, show ¬ n < 0 by omega]
theorem zkf {t : TypeId} {x : Operand} {b : Bool} (ho : o.op = .unOp .not t x) (hx : ev l x = some (.bool b)) : PK P S ws l o (.bool !b) := fun w' _ a N E => by
 unfold execOp; rw [ho]; simp [E.ev hx, Op.unary]
theorem zzR {t : TypeId} {x : Operand} {k : IntKind} {m : Int} (ho : o.op = .unOp .neg t x) (hx : ev l x = some (.int k m)) : PK P S ws l o (.int k (k.wrap (0 - m))) := fun w' _ a N E => by
 unfold execOp; rw [ho]; simp [E.ev hx, Op.unary, Op.intArith]
def zzS (P : Program) (t : TypeId) : Option IntKind := match P.underlying t with | some (.int k) => some k | _ => none
theorem zkP {s t : TypeId} {x : Operand} {k k' : IntKind} {m : Int} (ho : o.op = .convert s t x) (hx : ev l x = some (.int k' m)) (hs : (P.underlying s).isSome = true) (ht : zzS P t = some k) : PK P S ws l o (.int k (k.wrap m)) := fun w' _ a N E => by
 have hu : P.underlying t = some (.int k) := by
  unfold zzS at ht
  split at ht
  ·rename_i h
   rw [h]
   rw [Option.some.inj ht]
  ·cases ht
 obtain ⟨ds, hds⟩ := Option.isSome_iff_exists.1 hs
 unfold execOp; rw [ho]
 simp only [E.ev hx]
 unfold convert
 simp only [Sem.run_bind, run_underlying hds, run_underlying hu, Result.andThen_ok]
 cases ds <;> simp [Conv.intToInt]
theorem zd7 {s t : TypeId} {x : Operand} {k k' : IntKind} {m : Int} (ho : o.op = .convert s t x) (hx : ev l x = some (.int k' m)) (hs : (P.underlying s).isSome = true) (ht : zzS P t = some k) (hw : k.wrap m = m) : PK P S ws l o (.int k m) := by
 have := zkP (S := S) (ws := ws) ho hx hs ht
 rwa [hw] at this
def zzK (P : Program) (t : TypeId) : Bool := match P.underlying t with | some (.slice _) => true | _ => false
theorem zzT {t : TypeId} {x : Operand} {A : Option Addr} {n c : Nat} (ho : o.op = .call { callee := .builtin .len, args := #[x], argTypes := #[t] }) (hx : ev l x = some (.slice A n c)) (ht : zzK P t = true) : PK P S ws l o (.int .i64 n) := fun w' _ a N E => by
 have hu : P.underlying t = some (.slice (P.elem t)) := by
  unfold zzK at ht
  split at ht
  ·rename_i e h
   rw [h]
   simp [Program.elem, h]
  ·cases ht
 unfold execOp; rw [ho]
 simp only [resolve, Sem.run_bind, Sem.run_pure, Result.andThen_ok, List.map_toArray, List.map_cons, List.map_nil, E.ev hx, invoke, builtin, run_len_slice w' t o.type A n c hu, goInt]
def zwM (P : Program) (s : TypeId) (f : Nat) : Option Nat :=
 match P.underlying s with
 | some (.struct fs) => match fs[f]? with
  | some fd => match P.info? fd.type with
   | some i => if i.size = 0 then none else some fd.offset
   | none => none
  | none => none
 | _ => none
theorem zaM {s : TypeId} {x : Operand} {f off : Nat} {ad : Addr} (ho : o.op = .fieldAddr s x f) (hx : ev l x = some (.pointer (some ad))) (hf : zwM P s f = some off) : PK P S ws l o (.pointer (some (ad.add off))) := fun w' _ a N E => by
 unfold zwM at hf
 split at hf
 ·rename_i fs hs
  split at hf
  ·rename_i fd hfd
   split at hf
   ·rename_i i hi
    split at hf
    ·cases hf
    ·rename_i h0
     obtain rfl := Option.some.inj hf
     unfold execOp; rw [ho]
     simp [E.ev hx, Instr.fieldAt, run_underlying hs, hfd, Instr.sureAddr, fieldPlace, sizeOf, typeInfo, hi, h0]
   ·cases hf
  ·cases hf
 ·cases hf
def elK (P : Program) (t : TypeId) : Option Nat :=
 match P.underlying t with
 | some (.slice e) => (P.info? e).map (·.size)
 | _ => none
theorem zpe {t sz : Nat} (h : elK P t = some sz) : ∃ e, P.underlying t = some (.slice e) ∧ (P.info? e).map (·.size) = some sz := by
 unfold elK at h
 split at h
 ·rename_i e he
  exact ⟨e, he, h⟩
 ·cases h
theorem zBk {t sz n c i : Nat} {x y : Operand} {ad : Addr} {j : Int} (ho : o.op = .indexAddr t x y) (ht : elK P t = some sz) (hx : ev l x = some (.slice (some ad) n c)) (hy : ev l y = some (.int .i64 j)) (hj : j = (i : Int)) (hi : i < n) : PK P S ws l o (.pointer (some (ad.add (i * sz)))) := fun w' _ a N E => by
 obtain ⟨e, h1, h2⟩ := zpe ht
 exact zrJ ho h1 h2 (E.ev hx) (by rw [E.ev hy, hj]) hi
theorem zb7 {t sz n c i : Nat} {x y : Operand} {A : Option Addr} {ad : Addr} {j : Int} (hA : A = some ad) (ho : o.op = .indexAddr t x y) (ht : elK P t = some sz) (hx : ev l x = some (.slice A n c)) (hy : ev l y = some (.int .i64 j)) (hj : j = (i : Int)) (hi : i < n) : PK P S ws l o (.pointer (some (ad.add (i * sz)))) := zBk ho ht (by rw [hx, hA]) hy hj hi
def tyK (P : Program) (t : TypeId) : Option (Nat × Bool) :=
 match P.underlying t, P.info? t with
 | some d, some i => some (i.size, match d with | .struct _ | .array _ _ => true | _ => false)
 | _, _ => none
theorem zrL {t n : Nat} {b : Bool} (h : tyK P t = some (n, b)) : ∃ d, P.underlying t = some d ∧ (match d with | .struct _ | .array _ _ => true | _ => false) = b ∧ (P.info? t).map (·.size) = some n := by
 unfold tyK at h
 split at h
 ·rename_i d i h1 h2
  simp only [Option.some.injEq, Prod.mk.injEq] at h
  exact ⟨d, h1, h.2, by rw [h2]; simp [h.1]⟩
 ·cases h
def AtC (ad : Addr) (cs : List Chunk) (w : World) : Prop := ∀ j u, (cl cs)[j]? = some u → w.cell? (ad.add j) = some u
theorem zhS {b t : Nat} {cs : List Chunk} {fr : Nat × Nat} (h : w.heap[b]? = some (.cells (ca cs) t fr)) : AtC ⟨b, 0, none⟩ cs w := fun j u hu => by
 rw [zcu]
 unfold World.cell?
 simp only [h, Nat.zero_add, Option.isSome_none, Bool.false_eq_true, if_false]
 simpa [ca] using hu
theorem zkQ {ad : Addr} {cs sub : List Chunk} {off n : Nat} (h : AtC ad cs w) (hp : zkL cs off n = some sub) : AtC (ad.add off) sub w := fun j u hu => by
 obtain ⟨h1, h2, h3⟩ := zkN hp
 rw [Addr.add_add]
 refine h _ u ?_
 have hj : j < n := by
  have := (List.getElem?_eq_some_iff.1 hu).1
  rw [zcn, h2] at this
  exact this
 rw [h1, List.getElem?_take_of_lt hj, List.getElem?_drop] at hu
 exact hu
theorem zfd {ty n : Nat} {x : Operand} {ad : Addr} {sub : List Chunk} (E : Env a N l) (ho : o.op = .load ty x) (hx : ev l x = some (.pointer (some ad))) (ht : tyK P ty = some (n, true)) (hn : zej sub = n) (h : AtC ad sub w) : (execOp a.eval o).run P w = .ok (.value (.agg (ca sub))) w := by
 obtain ⟨d, h1, h2, h3⟩ := zrL ht
 have hc : ∀ j, j < n → w.cell? (ad.add j) = some ((fun j => (cl sub).getD j undef) j) := fun j hj => by
  have hl : j < (cl sub).length := by rw [zcn, hn]; exact hj
  refine h j _ ?_
  simp [jP hl]
 rw [zjV ho ⟨d, h1, h2, h3⟩ (E.ev hx) hc]
 congr 2
 unfold ca
 congr 1
 unfold zh7
 apply Array.ext'
 simp only []
 apply List.ext_getElem?
 intro i
 by_cases hi : i < n
 ·have hl : i < (cl sub).length := by rw [zcn, hn]; exact hi
  simp [hi, jP hl]
 ·rw [List.getElem?_eq_none (by simp; omega), List.getElem?_eq_none (by rw [zcn, hn]; omega)]
theorem zde {ty : Nat} {x : Operand} {ad : Addr} {v : Value} (E : Env a N l) (ho : o.op = .load ty x) (hx : ev l x = some (.pointer (some ad))) (ht : tyK P ty = some (1, false)) (h : AtC ad [.one v] w) : (execOp a.eval o).run P w = .ok (.value v) w := by
 obtain ⟨d, h1, h2, h3⟩ := zrL ht
 refine zmK ho h1 (by cases d <;> first | rfl | exact h2) (E.ev hx) ?_
 have := h 0 v rfl
 rwa [zb2] at this
section own
variable {X G : List Nat} {w0 : World} {L : List Res} {R : List (World → Prop)}
theorem zrM {b t : Nat} {cs : List Chunk} {w' : World} (H : Sep X G w0 ws L R) (i : Nat) (hi : L[i]? = some (.blk b (ca cs) t)) (hS : S b) (hk : CanB.Keep S ws w') : AtC ⟨b, 0, none⟩ cs w' :=
 zhS (t := t) (fr := (0, 0)) ((hk b hS).trans (H.holds _ (List.mem_of_getElem? hi)))
theorem zkR (b off : Nat) : (⟨b, off, none⟩ : Addr) = (⟨b, 0, none⟩ : Addr).add off := by rw [zcu, Nat.zero_add]
theorem zcr {b t off n ty : Nat} {cs sub : List Chunk} {x : Operand} (H : Sep X G w0 ws L R) (i : Nat) (ho : o.op = .load ty x) (hx : ev l x = some (.pointer (some ⟨b, off, none⟩))) (hi : L[i]? = some (.blk b (ca cs) t)) (hS : S b) (hp : zkL cs off n = some sub) (ht : tyK P ty = some (n, true)) : PK P S ws l o (.agg (ca sub)) := fun w' hk a N E =>
 zfd E ho hx ht (zkN hp).2.1 (by rw [zkR]; exact zkQ (zrM H i hi hS hk) hp)
theorem zkS {b t off ty : Nat} {cs : List Chunk} {x : Operand} (H : Sep X G w0 ws L R) (i : Nat) (ho : o.op = .load ty x) (hx : ev l x = some (.pointer (some ⟨b, off, none⟩))) (hi : L[i]? = some (.blk b (ca cs) t)) (hS : S b) (hp : zkL cs off 1 = some [.one v]) (ht : tyK P ty = some (1, false)) : PK P S ws l o v := fun w' hk a N E =>
 zde E ho hx ht (by rw [zkR]; exact zkQ (zrM H i hi hS hk) hp)
theorem zgW {r : World → Prop} {w' : World} {Y : List Nat} (h : St r ws Y) (hk : CanB.Keep S ws w') (hS : ∀ k, k < ws.heap.size → k ∉ Y → S k) : r w' := h w' fun k hl hn => hk k (hS k hl hn)
end own
end
end
section
open Go.RowKit
def zjX (P : Program) (t : TypeId) : Option (Array Value) := (P.info? t).bind fun i => i.zero.map Value.cells
theorem zfe {P : Program} {t : TypeId} {c : Array Value} (h : zjX P t = some c) : ∃ i z, P.info? t = some i ∧ i.zero = some z ∧ z.cells = c := by
 unfold zjX at h
 rw [Option.bind_eq_some_iff] at h
 obtain ⟨i, h1, h2⟩ := h
 rw [Option.map_eq_some_iff] at h2
 obtain ⟨z, h3, h4⟩ := h2
 exact ⟨i, z, h1, h3, h4⟩
theorem zpf : ∀ (vs : List Value) (k off : Nat) (A : Array Value), off + k + vs.length ≤ A.size →
  (vs.zipIdx k).foldl (fun cs (p : Value × Nat) => cs.setIfInBounds (off + p.2) p.1) A = (A.toList.take (off + k) ++ vs ++ A.toList.drop (off + k + vs.length)).toArray
 | [], k, off, A, h => by simp
 | v :: vs, k, off, A, h => by
  rw [List.length_cons] at h
  rw [List.zipIdx_cons, List.foldl_cons, zpf vs (k + 1) off (A.setIfInBounds (off + k) v) (by rw [Array.size_setIfInBounds]; omega)]
  congr 1
  rw [Array.toList_setIfInBounds]
  have hl : off + k < A.toList.length := by simp; omega
  rw [show off + (k + 1) = off + k + 1 by omega, List.take_succ_eq_append_getElem (by simpa using hl), List.take_set_of_le (jV _), List.drop_set_of_lt (by omega)]
  simp
  omega
theorem zrN {place : Nat → Option (Nat × Nat)} {z z' cs : List Chunk} {i off : Nat} {v : Value} {ps : List (Nat × Value)} (hp : place i = some (off, zej cs)) (hv : v.cells = ca cs) (hz : zqG z off cs = some z') :
  Instr.fill place (ca z) ((i, v) :: ps) = Instr.fill place (ca z') ps := by
 obtain ⟨h1, h2⟩ := zkO _ _ _ _ hz
 rw [Instr.fill]
 simp only [hp, hv, zfc]
 rw [if_neg (by simp; omega)]
 congr 1
 rw [← Array.foldl_toList, Array.toList_zipIdx]
 have := zpf (cl cs) 0 off (ca z) (by rw [zfc, zcn]; omega)
 rw [show (ca cs).toList = cl cs from rfl]
 rw [this]
 unfold ca
 rw [h1, zcn, Nat.add_zero]
def zwN (P : Program) (s : TypeId) (f : Nat) : Option (Nat × Nat) :=
 match P.underlying s with
 | some (.struct fs) => match fs[f]? with
  | some fd => (P.info? fd.type).map fun i => (fd.offset, i.size)
  | none => none
 | _ => none
def zrO (P : Program) (s : TypeId) : Bool :=
 match P.underlying s with
 | some (.struct fs) => fs.toList.all fun f => (P.info? f.type).isSome
 | _ => false
theorem zpg {α β : Type} (f : α → Option β) : ∀ (l : List α), (l.all fun x => (f x).isSome) = true → ∃ r : List β, l.mapM f = some r ∧ ∀ i : Nat, r[i]? = (l[i]?).bind f
 | [], _ => ⟨[], rfl, fun i => by simp⟩
 | x :: l, h => by
  simp only [List.all_cons, Bool.and_eq_true] at h
  obtain ⟨r, h1, h2⟩ := zpg f l h.2
  obtain ⟨y, hy⟩ := Option.isSome_iff_exists.1 h.1
  refine ⟨y :: r, by simp [List.mapM_cons, hy, h1], fun i => ?_⟩
  cases i with
  | zero => simp [hy]
  | succ i => simp [h2]
def zqI (place : Nat → Option (Nat × Nat)) (l : List (Nat × Value)) : List (Nat × Operand) → List Chunk → List Chunk → Prop
 | [], z, r => z = r
 | (i, x) :: ps, z, r => ∃ v cs off z', ev l x = some v ∧ v.cells = ca cs ∧ place i = some (off, zej cs) ∧ zqG z off cs = some z' ∧ zqI place l ps z' r
theorem zeV {place : Nat → Option (Nat × Nat)} {l : List (Nat × Value)} {a : Act} {N : Nat} (E : Env a N l) : ∀ (ps : List (Nat × Operand)) (z r : List Chunk), zqI place l ps z r →
  Instr.fill place (ca z) (ps.map fun (i, x) => (i, a.eval x)) = some (ca r)
 | [], z, r, h => by
  have h : z = r := h
  rw [h, List.map_nil, Instr.fill]
 | (i, x) :: ps, z, r, h => by
  obtain ⟨v, cs, off, z', h1, h2, h3, h4, h5⟩ := h
  rw [List.map_cons]
  show Instr.fill place (ca z) ((i, a.eval x) :: _) = _
  rw [E.ev h1, zrN h3 h2 h4]
  exact zeV E ps z' r h5
section
variable {P : Program} {ops : Array Oper} {rest : List Oper} {o : Oper} {a : Act} {w ws : World} {Q : Exit → Act → World → Prop} {N d : Nat} {l : List (Nat × Value)} {v : Value} {S : Nat → Prop} {K : Act → World → Prop}
 {X G : List Nat} {w0 : World} {L L' : List Res} {R : List (World → Prop)}
theorem zuL {ty : TypeId} {parts : Array (Nat × Operand)} {z r : List Chunk} (ho : o.op = .build ty parts) (hs : zrO P ty = true) (hz : zjX P ty = some (ca z)) (hp : zqI (zwN P ty) l parts.toList z r) : PK P S ws l o (.agg (ca r)) := fun w' _ a N E => by
 obtain ⟨i, zv, h1, h2, h3⟩ := zfe hz
 unfold zrO at hs
 split at hs
 ·rename_i fs hu
  have hpl : ∃ r : List (Nat × Nat), fs.toList.mapM (fun f => (P.info? f.type).map fun i => (f.offset, i.size)) = some r ∧ ∀ i : Nat, r[i]? = (fs.toList[i]?).bind fun f => (P.info? f.type).map fun i => (f.offset, i.size) :=
   zpg _ _ (by
    rw [List.all_eq_true] at hs ⊢
    intro f hf
    have := hs f hf
    rw [Option.isSome_map]
    exact this)
  obtain ⟨places, h4, h5⟩ := hpl
  have hb : P.built ty (parts.toList.map fun (i, x) => (i, a.eval x)) = some (ca r) := by
   unfold Program.built
   simp only [h1, hu, h2, h4, h3]
   rw [← zeV E _ _ _ hp]
   congr 1
   funext j
   unfold zwN
   simp only [hu, jL, h5]
   rw [Array.getElem?_toList]
   cases fs[j]? <;> rfl
  unfold execOp
  rw [ho]
  simp only [Sem.run_bind]
  rw [run_build w' ty (parts.map fun (i, x) => (i, a.eval x)) (ca r) (by rw [Array.toList_map]; exact hb)]
  rfl
 ·cases hs
theorem zrP {ty : TypeId} {z : List Chunk} (H : Sep X G w0 w L R) (ho : o.op = .alloc ty) (hz : zjX P ty = some (ca z))
  (h : ∀ b w', Sep X G w0 w' (.blk b (ca z) ty :: L) R → Frm [] w w' → K (a.put o.dst (.pointer (some ⟨b, 0, none⟩))) w') : o.wp P a w K Q := by
 obtain ⟨i, zv, h1, h2, h3⟩ := zfe hz
 have hr : (execOp a.eval o).run P w = .ok (.value (.pointer (some ⟨w.heap.size, 0, none⟩))) (w.alloc (.cells (ca z) ty)) := by
  unfold execOp
  simp [ho, Instr.alloc, zeroValue, typeInfo, h1, h2, newVar, newRow, newObj, h3, Sem.run_bind]
  rfl
 unfold Oper.wp
 rw [hr]
 have hf : Frm [] w (w.alloc (.cells (ca z) ty)) := Frm.of_below ((Below.refl _ _).alloc (jV _) _)
 exact h w.heap.size _ (H.own hf (heap_alloc_new w _) (by simp [Res.keys]) (by simp [Res.keys])) hf
theorem zxg {ty : TypeId} {x : Operand} {z : List Chunk} (E : Env a N l) (H : Sep X G w0 w L R) (ho : o.op = .box ty x) (hx : ev l x = some v) (hz : v.cells = ca z)
  (h : ∀ b w', Sep X G w0 w' (.blk b (ca z) ty :: L) R → Frm [] w w' → K (a.put o.dst (.pointer (some ⟨b, 0, none⟩))) w') : o.wp P a w K Q := by
 have hr : (execOp a.eval o).run P w = .ok (.value (.pointer (some ⟨w.heap.size, 0, none⟩))) (w.alloc (.cells (ca z) ty)) := by
  unfold execOp
  simp [ho, Instr.box, newVar, newRow, newObj, E.ev hx, hz, Sem.run_bind]
  rfl
 unfold Oper.wp
 rw [hr]
 have hf : Frm [] w (w.alloc (.cells (ca z) ty)) := Frm.of_below ((Below.refl _ _).alloc (jV _) _)
 exact h w.heap.size _ (H.own hf (heap_alloc_new w _) (by simp [Res.keys]) (by simp [Res.keys])) hf
def zuM : List Chunk → Prop
 | [] => True
 | .one v :: cs => v.oneCell' = true ∧ zuM cs
 | .key _ :: cs => zuM cs
 | .row n f :: cs => (∀ i, i < n → (f i).oneCell' = true) ∧ zuM cs
theorem ziQ : ∀ {cs : List Chunk}, zuM cs → ∀ u ∈ cl cs, u.oneCell' = true
 | [], _, u, h => by cases h
 | .one v :: cs, h, u, hu => by
  rcases List.mem_append.1 hu with h1 | h1
  ·simp only [Chunk.cells, List.mem_singleton] at h1
   rw [h1]; exact h.1
  ·exact ziQ h.2 u h1
 | .key k :: cs, h, u, hu => by
  rcases List.mem_append.1 hu with h1 | h1
  ·simp only [Chunk.cells, zoe, List.mem_map] at h1
   obtain ⟨i, _, rfl⟩ := h1
   rfl
  ·exact ziQ (cs := cs) h u h1
 | .row n f :: cs, h, u, hu => by
  rcases List.mem_append.1 hu with h1 | h1
  ·simp only [Chunk.cells, List.mem_map, List.mem_range] at h1
   obtain ⟨i, hi, rfl⟩ := h1
   exact h.1 i hi
  ·exact ziQ h.2 u h1
def zjY (P : Program) (t : TypeId) : Option Nat := (P.info? t).map (·.size)
theorem zia {ty b t off : Nat} {cs new cs' : List Chunk} (hg : w.heap[b]? = some (.cells (ca cs) t (0, 0))) (hv : v.cells = ca new) (h1 : zuM new) (hp : zqG cs off new = some cs') (hs : zjY P ty = some (zej new)) :
  (storeVar ty ⟨b, off, none⟩ v).run P w = .ok () (w.setRow b (ca cs')) := by
 obtain ⟨h2, h3⟩ := zkO _ _ _ _ hp
 have h4 := run_storeCells_at P b off t (cl new) 0 (ca cs) w hg (by rw [zcn, zfc]; omega) (ziQ h1)
 unfold zjY at hs
 rw [Option.map_eq_some_iff] at hs
 obtain ⟨i, hi, hsz⟩ := hs
 have e : ((ca cs).toList.take (off + 0) ++ cl new ++ (ca cs).toList.drop (off + 0 + (cl new).length)).toArray = ca cs' := by
  unfold ca
  rw [h2, Nat.add_zero, zcn]
 rw [e] at h4
 unfold storeVar
 simp only [sizeOf, typeInfo, Sem.run_bind, hv, zfc]
 simp [hi, hsz]
 exact h4
theorem zeW (b : Nat) (c : Array Value) (w : World) : Frm [b] w (w.setRow b c) :=
 ⟨rfl, rfl, rfl, by simp [World.setRow], fun k _ hn => setRow_other w b k c (by simpa using hn)⟩
theorem zmN {ty b t off : Nat} {cs new cs' : List Chunk} {x y : Operand} (i : Nat) (E : Env a N l) (H : Sep X G w0 w L R) (ho : o.op = .store ty x y) (hx : ev l x = some (.pointer (some ⟨b, off, none⟩))) (hy : ev l y = some v) (hv : v.cells = ca new) (hi : L[i]? = some (.blk b (ca cs) t)) (h1 : zuM new) (hp : zqG cs off new = some cs') (hs : zjY P ty = some (zej new))
  (hL : L.set i (.blk b (ca cs') t) = L') (h : ∀ w', Sep X G w0 w' L' R → Frm [b] w w' → K (a.put o.dst undef) w') : o.wp P a w K Q := by
 have hb : w.heap[b]? = some (.cells (ca cs) t (0, 0)) := H.holds _ (List.mem_of_getElem? hi)
 have hr := zdc ho (E.ev hx) (E.ev hy) (zia (P := P) (ty := ty) hb hv h1 hp hs)
 unfold Oper.wp
 rw [hr]
 exact h _ (H.turnAt (q' := .blk b (ca cs') t) i hi (zeW b _ w) (zan hb) (by simp [Res.keys]) (by simp [Res.keys]) hL) (zeW b _ w)
def fnB (P : Program) (f : FuncId) : Bool := match P.funcs[f]? with | some fn => !(fn.name == "runtime.NumGoroutine") && fn.body.isSome | none => false
theorem zqJ {f : FuncId} {args : Array Value} (h : fnB P f = true) : (callFunc f args).run P w = .ok (.enter f args) w := by
 unfold fnB at h
 split at h
 ·rename_i fn hf
  simp only [Bool.and_eq_true, Bool.not_eq_true', Option.isSome_iff_exists] at h
  obtain ⟨h1, c, h2⟩ := h
  unfold callFunc
  have h1' : ¬ fn.name = "runtime.NumGoroutine" := beq_eq_false_iff_ne.1 h1
  simp [hf, h1', h2, Sem.run_bind]
 ·cases h
theorem zuN {f : FuncId} {x : Operand} {xs : Array Operand} {ts : Array TypeId} {fs cs : Array Value} {vs : List Value} (E : Env a N l) (ho : o.op = .call { callee := .value x, args := xs, argTypes := ts }) (hx : ev l x = some (.func (.func f) fs cs)) (hargs : evs l xs.toList = some vs) (hf : fnB P f = true)
  (h : Calls P f (fs ++ vs.toArray ++ cs) w fun
   | .returned v, w'' => K (a.put o.dst v) w''
   | .panicked chain, w'' => Q (.panic chain) a w''
   | .outgrown, _ => LetsOut Q) : o.wp P a w K Q := by
 have ea : xs.map a.eval = vs.toArray := Array.toList_inj.1 (by rw [Array.toList_map]; exact E.evs hargs)
 have hr : (execOp a.eval o).run P w = .ok (.enter f (fs ++ vs.toArray ++ cs)) w := by
  unfold execOp
  rw [ho]
  simp only [resolve, Sem.run_bind, E.ev hx, ea, Deferred.ofValue, Sem.run_pure, Result.andThen_ok, invoke]
  exact zqJ hf
 unfold Oper.wp
 rw [hr]
 exact h
theorem zaP {t e len sz : Nat} {parts : Array (Nat × Operand)} {z r : List Chunk} (E : Env a N l) (H : Sep X G w0 w L R) (ho : o.op = .buildSlice t len parts) (hu : P.underlying t = some (.slice e)) (hs : zjY P e = some sz) (h0 : decide (0 < len * sz ∧ len * sz ≤ 2 ^ 24) = true)
  (hz : ((zjX P e).map fun c => (Array.range (len * sz)).map (c[· % c.size]!)) = some (ca z)) (hp : zqI (fun i => some (i * sz, sz)) l parts.toList z r)
  (h : ∀ b w', Sep X G w0 w' (.blk b (ca r) e :: L) R → Frm [] w w' → K (a.put o.dst (.slice (some ⟨b, 0, none⟩) len len)) w') : o.wp P a w K Q := by
 rw [Option.map_eq_some_iff] at hz
 obtain ⟨c, hz1, hz2⟩ := hz
 obtain ⟨i, zv, h1, h2, h3⟩ := zfe hz1
 have hsz : i.size = sz := by
  unfold zjY at hs
  rw [h1] at hs
  simpa using hs
 have h0' := of_decide_eq_true h0
 have hf : Frm [] w (w.alloc (.cells (ca r) e)) := Frm.of_below ((Below.refl _ _).alloc (jV _) _)
 refine wp_buildSlice t e len parts ho (ca r) i zv hu h1 h2 (by rw [hsz]; omega) (by rw [hsz]; omega) ?_ (h w.heap.size _ (H.own hf (heap_alloc_new w _) (by simp [Res.keys]) (by simp [Res.keys])) hf)
 rw [hsz, h3, hz2, Array.toList_map]
 exact zeV E _ _ _ hp
variable {x y : Code}
theorem zaB {id : Nat} {lo : List Oper} (h : wpList P lo.toArray Q lo a w) : (Code.region id lo.toArray false).wp P Q a w := wp_region_lit h
theorem za7 {c : Operand} (E : Env a N l) (hc : ev l c = some (.bool true)) (h : x.wp P Q a w) : (Code.cond c x y).wp P Q a w := wp_cond_true (E.ev hc) h
theorem zaN {c : Operand} (E : Env a N l) (hc : ev l c = some (.bool false)) (h : y.wp P Q a w) : (Code.cond c x y).wp P Q a w := wp_cond_false (E.ev hc) h
theorem zrQ (J : Act → World → Prop) (hx : x.wp P (Exit.then J Q) a w) (hy : ∀ a' w', J a' w' → y.wp P Q a' w') : (Code.seq x y).wp P Q a w := wp_seq (wp_mono hx fun e a' w' hq => by
 cases e with
 | normal => exact hy _ _ hq
 | exit id => exact hq
 | goto l => exact hq
 | ret => exact hq
 | panic c => exact hq
 | outgrown => exact hq)
theorem zzU {γ : Type} {c : Code} (I : γ → Act → World → Prop) (μ : γ → Nat) (g0 : γ) (h0 : I g0 a w) (round : ∀ g a w, I g a w → c.wp P (Exit.then (fun a' w' => ∃ g', I g' a' w' ∧ μ g' < μ g) Q) a w) : (Code.loop c).wp P Q a w := by
 intro b k cs
 have key : ∀ n g a w, μ g = n → I g a w →
   ∃ e a' w', Q e a' w' ∧ Arrives P (lone (b.at a (.code c :: .inLoop c :: k)) cs w) b k cs e a' w' := by
  intro n
  induction n using Nat.strongRecOn with
  | _ n ih =>
   intro g a w hn hI
   obtain ⟨e, a₁, w₁, hq, harr⟩ := round g a w hI b (.inLoop c :: k) cs
   cases e with
   | normal =>
    obtain ⟨g', hI₁, hlt⟩ := hq
    obtain ⟨e₂, a₂, w₂, hq₂, harr₂⟩ := ih (μ g') (hn ▸ hlt) g' a₁ w₁ rfl hI₁
    exact ⟨e₂, a₂, w₂, hq₂, .of_steps (Steps.trans harr (.one step_inLoop)) harr₂⟩
   | exit id => exact ⟨_, a₁, w₁, hq, .pass (x := .inLoop c) rfl (fun _ _ => .inl (by simp)) harr⟩
   | goto l => exact ⟨_, a₁, w₁, hq, .pass (x := .inLoop c) rfl (fun _ _ => .inl (by simp)) harr⟩
   | ret => exact ⟨_, a₁, w₁, hq, .pass (x := .inLoop c) rfl (fun _ _ => .inl (by simp)) harr⟩
   | panic ch => exact ⟨_, a₁, w₁, hq, .pass (x := .inLoop c) rfl (fun _ _ => .inl (by simp)) harr⟩
   | outgrown => exact ⟨_, a₁, w₁, hq, .pass (x := .inLoop c) rfl (fun _ _ => .inl (by simp)) harr⟩
 obtain ⟨e, a', w', hq, harr⟩ := key _ g0 a w rfl h0
 exact ⟨e, a', w', hq, .of_steps (.one step_loop) harr⟩
def zzL (P : Program) (l : List (Nat × Value)) (w : World) : ResultVar → Value → Prop
 | .tmp t, v => zjW l t = some v
 | .cell p ty, v => ∃ b cs n, zjW l p = some (.pointer (some ⟨b, 0, none⟩)) ∧ AtC ⟨b, 0, none⟩ cs w ∧ zej cs = n ∧ ((tyK P ty = some (n, true) ∧ v = .agg (ca cs)) ∨ (tyK P ty = some (1, false) ∧ cs = [.one v]))
theorem zjZ {ty b : Nat} (h : (execOp a.eval ⟨none, .load ty (.const (.pointer (some ⟨b, 0, none⟩))), 0, "", #[], none⟩).run P w = .ok (.value v) w) : (loadVar ty ⟨b, 0, none⟩).run P w = .ok v w := by
 unfold execOp at h
 simp only [Act.eval, Instr.loadAt, Instr.sureAddr, Sem.run_bind, Sem.run_pure, Result.andThen_ok] at h
 cases hq : (loadVar ty ⟨b, 0, none⟩).run P w with
 | ok v' w' =>
  rw [hq] at h
  simp only [Result.andThen_ok, Result.ok.injEq, Next.value.injEq] at h
  rw [h.1, h.2]
 | halt h' w' => rw [hq] at h; cases h
theorem zkT {r : ResultVar} (E : Env a N l) (h : zzL P l w r v) : match r with
  | .tmp t => a.tmps[t]?.getD undef = v
  | .cell p ty => ∃ b, a.tmps[p]?.getD undef = .pointer (some ⟨b, 0, none⟩) ∧ (loadVar ty ⟨b, 0, none⟩).run P w = .ok v w := by
 cases r with
 | tmp t => simpa using E.val t v h
 | cell p ty =>
  obtain ⟨b, cs, n, h1, h2, h3, h4⟩ := h
  refine ⟨b, by simpa using E.val p _ h1, zjZ (a := a) ?_⟩
  rcases h4 with ⟨h5, rfl⟩ | ⟨h5, rfl⟩
  ·exact zfd E rfl rfl h5 h3 h2
  ·exact zde E rfl rfl h5 h2
theorem zf8 {fn : Func} {Rr : Ending → World → Prop} {r1 : ResultVar} (hr : fn.results = #[r1]) (E : Env a N l) (h1 : zzL P l w r1 v) (h : Rr (.returned v) w) : bodyPost P fn Rr .ret a w :=
 bodyPost_ret (by
  have := zkT E h1
  cases r1 with
  | tmp t => simp only at this; simp [results, hr, this]
  | cell p ty => obtain ⟨b, e1, e2⟩ := this; simp [results, hr, e1, e2, asAddr]) E.defers h
theorem zeO {fn : Func} {Rr : Ending → World → Prop} {r1 r2 : ResultVar} {v1 v2 : Value} (hr : fn.results = #[r1, r2]) (E : Env a N l) (h1 : zzL P l w r1 v1) (h2 : zzL P l w r2 v2) (h : Rr (.returned (.tuple #[v1, v2])) w) : bodyPost P fn Rr .ret a w :=
 bodyPost_ret (by
  have e1 := zkT E h1
  have e2 := zkT E h2
  cases r1 <;> cases r2 <;> simp only at e1 e2
  ·simp [results, hr, e1, e2]
  ·obtain ⟨_, e3, e4⟩ := e2; simp [results, hr, e1, e3, e4, asAddr]
  ·obtain ⟨_, e3, e4⟩ := e1; simp [results, hr, e2, e3, e4, asAddr]
  ·obtain ⟨_, e3, e4⟩ := e1; obtain ⟨_, e5, e6⟩ := e2; simp [results, hr, e3, e4, e5, e6, asAddr]) E.defers h
theorem zbT {t : Tmp} (h : zjW l t = some v) : zzL P l w (.tmp t) v := h
theorem zhT {p b t n : Nat} {ty : TypeId} {cs : List Chunk} (H : Sep X G w0 w L R) (i : Nat) (hp : zjW l p = some (.pointer (some ⟨b, 0, none⟩))) (hi : L[i]? = some (.blk b (ca cs) t)) (hn : zej cs = n) (ht : tyK P ty = some (n, true)) : zzL P l w (.cell p ty) (.agg (ca cs)) :=
 ⟨b, cs, n, hp, zhS (t := t) (fr := (0, 0)) (H.holds _ (List.mem_of_getElem? hi)), hn, .inl ⟨ht, rfl⟩⟩
end
end
end Go.Proofs.YtfolbgiekbimpaaGreatDoor
