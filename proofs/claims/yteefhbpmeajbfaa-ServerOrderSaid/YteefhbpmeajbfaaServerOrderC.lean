/- Rows of a call's own, of elements of any kind: one more. No program is in sight. The walks of layer 16's eye: a number is taken; bytes are cut off; a key is read. The walks of layer 16's eye: keys, texts, proposals. The walks of layer 16's eye: so many proposals, keys, numbers, steps, texts. What any bytes are, as a frame, a welcome, a commit (plain). The walks of layer 16: a message's kind is read; what any bytes are, as a frame. The walks of layer 16: what any bytes are, as a frame. The walks of layer 16: what any bytes are, as a welcome. The walks of layer 16: any of many places, steps, proposals, boxes that may not be. The walks of layer 16: whether a commit may be; whether it is small enough. The walks of layer 16: a frame's head and text, a welcome's text. -/
import Derived.Test.YteefhbpmeajbfaaServerOrderB
import Derived.WalkKit
import Derived.WalkSpells
import Derived.WalkLawsBesides
import Derived.Deep.QuietTactic
import Derived.BigQuiet
import Derived.StillTailTactics
import Derived.Lib.Hide
import Derived.Deep.LoopGhost
import Derived.Outline
import Derived.Deep.DeepFit
import Derived.Deep.RegionHeld3
import Derived.Deep.RegionLaw
import Derived.OrdersHeld
import Derived.Laws.StructEq
import Derived.Maps.AppendAt
import Derived.Deep.AppendLies
import Derived.Deep.Draws
import Derived.Laws.OwnMore
import Derived.Laws.AppendOwnNone
import Derived.OwnWalk
import Derived.Below
import Derived.Deep.Cut
import Derived.Deep.CutBlock
import Derived.Deep.CutRange
import Derived.DataElems
import Derived.Great.BuildSlice
import Derived.Laws.Entries
import Derived.Laws.Tables
import Derived.SizedLaws
import Derived.Lib.SliceRun
import Derived.Laws.Small
import Derived.Great.Walk
import Derived.Test.YteefhbpmeajbfaaRows
import Derived.Laws.IdiomStrings
import Derived.Lib.Tables
import Derived.Lib.BitFns
import Derived.Laws.Bits64b
namespace Go.Proofs.Yteefhbpmeajbfaa
set_option linter.unusedSimpArgs false
set_option linter.unusedVariables false
open Go.RowKit

/-- The types of slices of elements of so many cells, and so many bytes. -/
structure ElT (P : Program) (t e : TypeId) (sz by_ : Nat) : Prop where
  sl : P.underlying t = some (.slice e)
  info : (P.info? e).map (fun i => (i.zero.map (·.cells.size), i.size, i.bytes)) = some (some sz, sz, by_)
/-- The cells of a list of elements. -/
def cellsOf {α : Type} (sz : Nat) (F : α → Nat → Value) (l : List α) : List Value := l.flatMap fun x => (arrV sz (F x)).toList
section
variable {α : Type} {sz : Nat} {F : α → Nat → Value}
theorem cellsOf_snoc (l : List α) (x : α) : cellsOf sz F (l ++ [x]) = cellsOf sz F l ++ (arrV sz (F x)).toList := by unfold cellsOf; rw [List.flatMap_append]; simp
theorem cellsOf_at : ∀ (l : List α) (i j : Nat) (x : α), l[i]? = some x → j < sz → (cellsOf sz F l)[i * sz + j]? = some (F x j)
  | [], i, j, x, h, _ => by simp at h
  | y :: l, 0, j, x, h, hj => by
    obtain rfl : y = x := by simpa using h
    unfold cellsOf
    rw [List.flatMap_cons, Nat.zero_mul, Nat.zero_add, List.getElem?_append_left (by simp [arrV_size]; exact hj)]
    simp [arrV, hj]
  | y :: l, i + 1, j, x, h, hj => by
    have ih := cellsOf_at l i j x (by simpa using h) hj
    unfold cellsOf at *
    rw [List.flatMap_cons, List.getElem?_append_right (by simp [arrV_size]; rw [Nat.succ_mul]; omega)]
    rw [show (i + 1) * sz + j - (arrV sz (F y)).toList.length = i * sz + j from by simp [arrV_size]; rw [Nat.succ_mul]; omega]
    exact ih
/-- A row of a call's own, as elements that are read. -/
theorem own_els {w : World} {base n : Nat} {e : TypeId} {v : Value} {l : List α} (h : w.ownsRow base e sz v n (cellsOf sz F l)) (hn : n = l.length) (G : Nat → Nat → Value) (hG : ∀ i x, l[i]? = some x → ∀ j, j < sz → G i j = F x j) : ∃ A c, v = .slice A n c ∧ n ≤ c + 0 ∧ Els w w.heap.size A n sz G := by
  have hl := h
  rcases h.2 with ⟨rfl, h0⟩ | ⟨g, cap, cur, rfl, hb, hh, hn', hm, hs, ht⟩
  · exact ⟨none, 0, by rw [h0], by omega, ⟨fun hn => absurd hn (by omega)⟩⟩
  · refine ⟨some ⟨g, 0, none⟩, cap, rfl, by omega, ⟨fun _ => ⟨_, rfl, lt_of_block hh, fun i j hi hj => ?_⟩⟩⟩
    obtain ⟨x, hx⟩ : ∃ x, l[i]? = some x := ⟨l[i]'(by omega), List.getElem?_eq_getElem (by omega)⟩
    exact hl.cells (g := g) rfl (i * sz + j) (G i j) (by rw [hG i x hx j hj]; exact cellsOf_at l i j x hx hj)
end
section
variable {P : Program} {w : World} {o : Oper} {a : Act} {ops : Array Oper} {rest : List Oper} {Q : Exit → Act → World → Prop}
theorem run_append_el {t e ty : TypeId} {sz by_ : Nat} (hT : ElT P t e sz by_) (h0 : 0 < sz) {base n b : Nat} {v : Value} {xs : List Value} {f : Nat → Value} (hown : w.ownsRow base e sz v n xs) (hb : w.heap[b]? = some (.cells (arrV sz f) e (0, 0))) (h1 : ∀ i, i < sz → (f i).oneCell' = true)
    (hn : n + 1 ≤ 70368744177664) (hby : (n + 1) * by_ ≤ 140737488355328) (hbase : base ≤ w.heap.size) :
    ∃ v' w', (Builtin.append_ #[t, t] ty #[v, .slice (some ⟨b, 0, none⟩) 1 1]).run P w = .ok v' w' ∧ w'.ownsRow base e sz v' (n + 1) (xs ++ (arrV sz f).toList) ∧ w.grownBy w' v.ownBlock ∧ (v'.ownBlock = v.ownBlock ∨ v'.ownBlock = some w.heap.size) := by
  have hinfo := hT.info
  cases hi : P.info? e with
  | none => rw [hi] at hinfo; cases hinfo
  | some i =>
    rw [hi] at hinfo
    simp only [Option.map_some, Option.some.injEq, Prod.mk.injEq] at hinfo
    obtain ⟨hz, hs, hbt⟩ := hinfo
    cases hzz : i.zero with
    | none => rw [hzz] at hz; cases hz
    | some z =>
      rw [hzz] at hz
      simp only [Option.map_some, Option.some.injEq] at hz
      obtain ⟨v', w', hrun, h5, h6, _, h7⟩ := run_append_own_at (P := P) w base t ty e i z sz by_ hT.sl hi hzz hs hbt hz h0 v n xs hown ⟨b, 0, none⟩ 1 1 (arrV sz f).toList (by simp [arrV_size])
        (fun j u hu => by
          have hj : j < sz := by
            have := (List.getElem?_eq_some_iff.1 hu).1
            simpa [arrV_size] using this
          rw [addr_add, cell_of_row _ _ _ _ _ _ hb, ← Array.getElem?_toList, Nat.zero_add]
          exact hu)
        (fun u hu => by
          simp only [arrV, List.mem_map] at hu
          obtain ⟨i, hi, rfl⟩ := hu
          exact h1 i (List.mem_range.1 hi)) (by unfold maxLen; omega) hby hbase
      exact ⟨v', w', hrun, h5, h6, h7⟩
theorem wpList_append_el {t e : TypeId} {sz by_ : Nat} {s x : Operand} (hgd : o.guard = none) (ho : o.op = .call { callee := .builtin .append, args := #[s, x], argTypes := #[t, t] })
    (hT : ElT P t e sz by_) (h0 : 0 < sz) {base n b : Nat} {v : Value} {xs : List Value} {f : Nat → Value} (hs : a.eval s = v) (hx : a.eval x = .slice (some ⟨b, 0, none⟩) 1 1) (hown : w.ownsRow base e sz v n xs) (hb : w.heap[b]? = some (.cells (arrV sz f) e (0, 0))) (h1 : ∀ i, i < sz → (f i).oneCell' = true)
    (hn : n + 1 ≤ 70368744177664) (hby : (n + 1) * by_ ≤ 140737488355328) (hbase : base ≤ w.heap.size)
    (h : ∀ v' w', w'.ownsRow base e sz v' (n + 1) (xs ++ (arrV sz f).toList) → w.grownBy w' v.ownBlock → (v'.ownBlock = v.ownBlock ∨ v'.ownBlock = some w.heap.size) → wpList P ops Q rest (a.put o.dst v') w') : wpList P ops Q (o :: rest) a w := by
  obtain ⟨v', w', hrun, h2, h3, h4⟩ := run_append_el (P := P) (ty := o.type) hT h0 hown hb h1 hn hby hbase
  refine wpList_plain hgd fun K hK => ?_
  unfold Oper.wp execOp
  simp only [ho, resolve, invoke, builtin, Sem.run_bind, Sem.run_pure, Result.andThen_ok, List.map_toArray, List.map_cons, List.map_nil, hs, hx, hrun]
  exact hK _ _ (h v' w' h2 h3 h4)
/-- A slice literal of one element, and it, added to a row of the call's own. -/
theorem wpList_add_el {t e : TypeId} {sz by_ : Nat} {o' : Oper} {parts : Array (Nat × Operand)} {l : List (Nat × Value)} {s x : Operand} (hgd : o.guard = none) (hgd' : o'.guard = none) (ho : o.op = .buildSlice t 1 parts) (ho' : o'.op = .call { callee := .builtin .append, args := #[s, x], argTypes := #[t, t] })
    (hT : ElT P t e sz by_) (h0 : 0 < sz) {base n : Nat} {v : Value} {xs : List Value} {f : Nat → Value} (hl : (parts.map fun (i, x) => (i, a.eval x)).toList = l) (hbl : P.builtSlice e 1 l = some (arrV sz f)) (hs : (a.put o.dst (.slice (some ⟨w.heap.size, 0, none⟩) 1 1)).eval s = v) (hx : (a.put o.dst (.slice (some ⟨w.heap.size, 0, none⟩) 1 1)).eval x = .slice (some ⟨w.heap.size, 0, none⟩) 1 1)
    (hown : w.ownsRow base e sz v n xs) (h1 : ∀ i, i < sz → (f i).oneCell' = true) (hn : n + 1 ≤ 70368744177664) (hby : (n + 1) * by_ ≤ 140737488355328) (hbase : base ≤ w.heap.size)
    (h : ∀ v' w', w'.ownsRow base e sz v' (n + 1) (xs ++ (arrV sz f).toList) → (∀ k, k < w.heap.size → v.ownBlock ≠ some k → w'.heap[k]? = w.heap[k]?) → w'.os = w.os ∧ w'.tape = w.tape ∧ w'.output = w.output ∧ w.heap.size ≤ w'.heap.size → (v'.ownBlock = v.ownBlock ∨ ∃ k, v'.ownBlock = some k ∧ w.heap.size ≤ k) → wpList P ops Q rest ((a.put o.dst (.slice (some ⟨w.heap.size, 0, none⟩) 1 1)).put o'.dst v') w') : wpList P ops Q (o :: o' :: rest) a w := by
  refine wpList_bslice hgd ho hT.sl hl hbl ?_
  refine wpList_append_el hgd' ho' hT h0 hs hx (World.ownsRow.alloc hown (.cells (arrV sz f) e)) (heap_alloc_new w _) h1 hn hby (by simp; omega) ?_
  intro v' w' h2 h3 h4
  have hb : Below w.heap.size w (w.alloc (.cells (arrV sz f) e)) := (Below.refl _ _).alloc (Nat.le_refl _) _
  refine h v' w' h2 (fun k hk hne => ?_) ⟨h3.os.trans hb.os, h3.tape.trans hb.tape, h3.output.trans hb.output, Nat.le_trans hb.size h3.size⟩ ?_
  · rw [h3.block k (by simp; omega) (fun e => hne e.symm), hb.block k hk]
  · rcases h4 with h4 | h4
    · exact .inl h4
    · exact .inr ⟨_, h4, by simp⟩
end
end Go.Proofs.Yteefhbpmeajbfaa
namespace Go.Proofs.Yteefhbpmeajbfaa
set_option linter.unusedSimpArgs false
set_option linter.unusedVariables false
open Go.RowKit
attribute [local irreducible] beL beK
/-- All but one block stay. -/
structure But (g : Nat) (w w' : World) : Prop where
  os : w'.os = w.os
  tape : w'.tape = w.tape
  output : w'.output = w.output
  size : w.heap.size ≤ w'.heap.size
  block : ∀ k, k < w.heap.size → k ≠ g → w'.heap[k]? = w.heap[k]?
section
variable {g B : Nat} {w w' w'' : World}
theorem But.refl (g : Nat) (w : World) : But g w w := ⟨rfl, rfl, rfl, Nat.le_refl _, fun _ _ _ => rfl⟩
theorem But.trans (h : But g w w') (k : But g w' w'') : But g w w'' :=
  ⟨k.os.trans h.os, k.tape.trans h.tape, k.output.trans h.output, Nat.le_trans h.size k.size, fun i hi h1 => (k.block i (Nat.lt_of_lt_of_le hi h.size) h1).trans (h.block i hi h1)⟩
theorem But.of_below (h : Below w.heap.size w w') : But g w w' := ⟨h.os, h.tape, h.output, h.size, fun i hi _ => h.block i hi⟩
theorem But.below (h : But g w w') (hB : B ≤ g) (hs : B ≤ w.heap.size) : Below B w w' := ⟨h.os, h.tape, h.output, h.size, fun i hi => h.block i (by omega) (by omega)⟩
theorem But.alloc (h : But g w w') (o : Obj) : But g w (w'.alloc o) := h.trans (But.of_below ((Below.refl _ _).alloc (Nat.le_refl _) o))
theorem But.set (h : But g w w') (i : Nat) (v : Value) : But g w (w'.setCell ⟨g, i, none⟩ v) :=
  h.trans ⟨(Below.refl 0 w').setCell (p := ⟨g, i, none⟩) (Nat.zero_le _) v |>.os, (Below.refl 0 w').setCell (p := ⟨g, i, none⟩) (Nat.zero_le _) v |>.tape, (Below.refl 0 w').setCell (p := ⟨g, i, none⟩) (Nat.zero_le _) v |>.output, (Below.refl 0 w').setCell (p := ⟨g, i, none⟩) (Nat.zero_le _) v |>.size, fun k _ hk => heap_setCell_other _ _ _ _ hk⟩
theorem But.keep (h : But g w w') {k : Nat} {x : Obj} (hx : w.heap[k]? = some x) (hk : k ≠ g) : w'.heap[k]? = some x := (h.block k (lt_of_block hx) hk).trans hx
/-- A row of another type than the block's that changes. -/
theorem But.row {base sz n : Nat} {e t : TypeId} {v : Value} {xs : List Value} {c : Array Value} {fr : Nat × Nat} (h : But g w w') (hr : w.ownsRow base e sz v n xs) (hg : w.heap[g]? = some (.cells c t fr)) (hne : e ≠ t) : w'.ownsRow base e sz v n xs := by
  refine ⟨hr.1, ?_⟩
  rcases hr.2 with h2 | ⟨b, cap, cur, rfl, h3, hh, h4⟩
  · exact .inl h2
  · refine .inr ⟨b, cap, cur, rfl, h3, h.keep hh ?_, h4⟩
    rintro rfl
    rw [hg] at hh
    injection hh with hh
    injection hh with _ ht
    exact hne ht.symm
end

theorem or_low8 (a b t : Nat) (ha : a < 2 ^ t) : a ||| (b * 2 ^ t) = a + b * 2 ^ t := by
  rw [Nat.or_comm, Nat.mul_comm, ← Nat.two_pow_add_eq_or_of_lt ha, Nat.add_comm]
theorem beV_snoc (l : List Nat) (x : Nat) : beV (l ++ [x]) = 256 * beV l + x := by unfold beV; rw [beVf_append]; rfl
theorem beV_small {l : List Nat} {k : Nat} (hb : Byt l) (h : l.length ≤ k) : beV l < 256 ^ k :=
  Nat.lt_of_lt_of_le (beV_lt l.length l hb rfl).1 (Nat.pow_le_pow_right (by omega) h)
theorem byt_take {l : List Nat} (h : Byt l) (n : Nat) : Byt (l.take n) := fun x hx => h x (List.mem_of_mem_take hx)
theorem byt_drop {l : List Nat} (h : Byt l) (n : Nat) : Byt (l.drop n) := fun x hx => h x (List.mem_of_mem_drop hx)
theorem take_snoc (l : List Nat) (i : Nat) (h : i < l.length) : l.take (i + 1) = l.take i ++ [l.getD i 0] := by
  rw [List.take_add_one, List.getD_eq_getElem?_getD, List.getElem?_eq_getElem h]; rfl
theorem or8 (n c : Nat) (hn : n < 72057594037927936) (hc : c < 256) : bits .or .u64 ((n : Int) * 256) (c : Int) = ((256 * n + c : Nat) : Int) := by
  have e : (n * 256) ||| c = 256 * n + c := by
    have := or_low8 c n 8 (by omega)
    rw [Nat.or_comm, show (256 : Nat) = 2 ^ 8 from rfl, this]
    omega
  have h1 := bits_or_u64_nat (n * 256) c (by omega) (by omega)
  rw [e] at h1
  rw [← h1]
  congr 1

set_option maxRecDepth 100000 in
set_option maxHeartbeats 2000000 in
theorem TakeNum_yes (A : Option Addr) (n c : Nat) (l : List Nat) (hnc : n ≤ c) (hc : n ≤ 140737488355328) (hb : Byt l) (W : Nat) (h1 : 1 ≤ W) (h8 : W ≤ 8) (hW : W ≤ n) (B : Nat) (w : World) (h : Txt w B A n c l) :
    Calls Try.prog 77 #[.slice A n c, .int .i64 0, .int .i64 W] w fun e w' => e = .returned (.tuple #[.int .u64 ((beV (l.take W) : Nat) : Int), .int .i64 W, .int .i64 0]) ∧ w = w' := by
  have H := Lib.hid h
  have HBt := Lib.hid hb
  have hlen := h.len
  clear h hb
  go_enter Try.func77, Try.ntmps77
  go_wp2_with (refine wpList_val_w rfl (run_op_cut_lh (lo := 0) (hi := W) BT rfl rfl rfl rfl (Nat.zero_le _) (by omega)) ?_)
  go_loopg [9, 43] W (fun k x i wr => ∃ m : Nat, m + k = W ∧ i = .int .i64 m ∧ x = .int .u64 ((beV (l.take m) : Nat) : Int) ∧ wr = w)
  case atStart => exact ⟨0, by omega, rfl, rfl, rfl⟩
  case round =>
    obtain ⟨m, hm, rfl, rfl, rfl⟩ := hrel
    by_cases hlt : m < W
    · obtain ⟨ad, rfl, hbk, hc2⟩ := H.out.cell (show m < n by omega)
      have hv : beV (l.take m) < 72057594037927936 := by
        have h := beV_small (k := 7) (byt_take HBt.out m) (by rw [List.length_take]; omega)
        exact h
      have hx : l.getD m 0 < 256 := by
        rw [List.getD_eq_getElem?_getD, List.getElem?_eq_getElem (by omega)]
        exact HBt.out _ (List.getElem_mem _)
      have e2 : beV (l.take (m + 1)) = 256 * beV (l.take m) + l.getD m 0 := by rw [take_snoc l m (by omega), beV_snoc]
      have E2 := Lib.hid e2
      clear e2
      generalize beV (l.take m) = v at *
      generalize l.getD m 0 = x at *
      replace hc2 : _ = some (Value.int .u8 (x : Int)) := hc2
      have o8 := or8 v x hv hx
      have hv' : (v : Int) < 72057594037927936 := by omega
      go_wp2
      go_roundg (gk - 1)
      case measure => omega
      case rel =>
        refine ⟨m + 1, by omega, by go_num, ?_, rfl⟩
        rw [E2.out]
        congr 1
    · obtain rfl : m = W := by omega
      go_wp2
      go_ret3
      exact ⟨rfl, rfl⟩
set_option maxRecDepth 100000 in
set_option maxHeartbeats 2000000 in
theorem TakeNum_no (A : Option Addr) (n c : Nat) (hc : n ≤ 140737488355328) (W : Nat) (h1 : 1 ≤ W) (h8 : W ≤ 8) (hW : n < W) (w : World) :
    Calls Try.prog 77 #[.slice A n c, .int .i64 0, .int .i64 W] w fun e w' => e = .returned (.tuple #[.int .u64 0, .int .i64 0, .int .i64 2]) ∧ w = w' := by
  go_enter Try.func77, Try.ntmps77
  go_wp2
  go_ret3
  exact ⟨rfl, rfl⟩

/-- What an eye says has gone wrong. -/
def eyeE (s : Rs) : Int := if s.ov = true then 3 else 0
theorem eyeE_no {s : Rs} (h : s.ov = false) : eyeE s = 0 := by unfold eyeE; rw [h]; rfl
theorem eyeE_yes {s : Rs} (h : s.ov = true) : eyeE s = 3 := by unfold eyeE; rw [if_pos h]
/-- An eye that lies in block g; what it reads lies below it. -/
structure EyeAt (w : World) (B g : Nat) (A : Option Addr) (n c : Nat) (s : Rs) : Prop where
  row : w.heap[g]? = some (.cells #[.slice A n c, .int .i64 (eyeE s)] 90 (0, 0))
  low : B ≤ g
  txt : Txt w B A n c s.l
  cap : n ≤ c
  len : n ≤ 140737488355328
  byt : Byt s.l
def Eye (w : World) (B g : Nat) (s : Rs) : Prop := ∃ A n c, EyeAt w B g A n c s
section
variable {w w' : World} {B g n c : Nat} {A : Option Addr} {s : Rs}
theorem EyeAt.c0 (h : EyeAt w B g A n c s) : w.cell? ⟨g, 0, none⟩ = some (.slice A n c) := by rw [cell_of_row _ _ _ _ _ _ h.row]; rfl
theorem EyeAt.c1 (h : EyeAt w B g A n c s) : w.cell? ⟨g, 1, none⟩ = some (.int .i64 (eyeE s)) := by rw [cell_of_row _ _ _ _ _ _ h.row]; rfl
theorem EyeAt.free (h : EyeAt w B g A n c s) (i : Nat) : w.frozen? ⟨g, i, none⟩ = false := frozen_of_row w g i _ _ h.row
theorem EyeAt.after (h : EyeAt w B g A n c s) (hb : Below w.heap.size w w') : EyeAt w' B g A n c s :=
  ⟨(hb.block g (lt_of_block h.row)).trans h.row, h.low, h.txt.below' hb (Nat.le_trans h.low (Nat.le_of_lt (lt_of_block h.row))), h.cap, h.len, h.byt⟩
theorem Eye.after (h : Eye w B g s) (hb : Below w.heap.size w w') : Eye w' B g s := let ⟨A, n, c, k⟩ := h; ⟨A, n, c, k.after hb⟩
theorem Eye.lt (h : Eye w B g s) : g < w.heap.size := let ⟨_, _, _, k⟩ := h; lt_of_block k.row
/-- Too little is there. -/
theorem EyeAt.over (h : EyeAt w B g A n c s) : EyeAt (w.setCell ⟨g, 1, none⟩ (.int .i64 3)) B g A n c ⟨s.l, true⟩ :=
  ⟨by rw [heap_setCell_same w g 1 _ _ _ h.row]; rfl, h.low, h.txt.keep fun p hp => ((Below.refl B w).setCell (p := ⟨g, 1, none⟩) h.low _).cell hp, h.cap, h.len, h.byt⟩
/-- So many bytes were read. -/
theorem EyeAt.moved (h : EyeAt w B g A n c s) (hs : s.ov = false) {k : Nat} (hk : k ≤ n) : EyeAt (w.setCell ⟨g, 0, none⟩ (.slice (cutA A k c) (n - k) (c - k))) B g (cutA A k c) (n - k) (c - k) ⟨s.l.drop k, false⟩ :=
  ⟨by rw [heap_setCell_same w g 0 _ _ _ h.row, eyeE_no hs]; rfl, h.low, (h.txt.from h.cap hk).keep fun p hp => ((Below.refl B w).setCell (p := ⟨g, 0, none⟩) h.low _).cell hp, by have := h.cap; omega, by have := h.len; omega, byt_drop h.byt k⟩
end
theorem numP_ov {k : Nat} {s : Rs} (h : s.ov = true) : numP k s = (0, ⟨s.l, true⟩) := by unfold numP cutP; rw [if_pos (.inl h)]; rfl
theorem numP_short {k : Nat} {s : Rs} (h : s.l.length < k) : numP k s = (0, ⟨s.l, true⟩) := by unfold numP cutP; rw [if_pos (.inr h)]; rfl
theorem numP_yes {k : Nat} {s : Rs} (h : s.ov = false) (h2 : k ≤ s.l.length) : numP k s = (beV (s.l.take k), ⟨s.l.drop k, false⟩) := by unfold numP cutP; rw [if_neg (by rw [h]; simp; omega)]
theorem cutP_no {k : Nat} {s : Rs} (h : s.ov = true ∨ s.l.length < k) : cutP k s = ([], ⟨s.l, true⟩) := by unfold cutP; rw [if_pos h]
theorem cutP_yes {k : Nat} {s : Rs} (h : s.ov = false) (h2 : k ≤ s.l.length) : cutP k s = (s.l.take k, ⟨s.l.drop k, false⟩) := by unfold cutP; rw [if_neg (by rw [h]; simp; omega)]
theorem numP_lt {k : Nat} {s : Rs} (hb : Byt s.l) : (numP k s).1 < 256 ^ k := by
  unfold numP cutP
  split
  · exact Nat.pow_pos (by omega)
  · exact beV_small (byt_take hb k) (by rw [List.length_take]; omega)
theorem rs_ov {s : Rs} (h : s.ov = true) : s = ⟨s.l, true⟩ := by cases s; simp_all
set_option maxRecDepth 100000 in
set_option maxHeartbeats 2000000 in
theorem eyeNum (W : Nat) (h1 : 1 ≤ W) (h8 : W ≤ 8) {B : Nat} (g : Nat) (s : Rs) (w : World) (h : Eye w B g s) :
    Calls Try.prog 43 #[.pointer (some ⟨g, 0, none⟩), .int .i64 W] w fun e w' => e = .returned (.int .u64 (((numP W s).1 : Nat) : Int)) ∧ Eye w' B g (numP W s).2 ∧ But g w w' := by
  obtain ⟨A, n, c, h⟩ := h
  have c0 := h.c0
  have c1 := h.c1
  have f0 := h.free 0
  have f1 := h.free 1
  have H := Lib.hid h
  have hlen := h.txt.len
  clear h
  cases hs : s.ov with
  | true =>
    rw [eyeE_yes hs] at c1
    go_enter Try.func43, Try.ntmps43
    go_wp2
    go_ret
    rw [numP_ov hs]
    refine ⟨rfl, ⟨A, n, c, ?_⟩, But.refl _ _⟩
    dsimp only
    rw [← rs_ov hs]
    exact H.out
  | false =>
    rw [eyeE_no hs] at c1
    by_cases hn : n < W
    · go_enter Try.func43, Try.ntmps43
      go_wp2_with (go_at_call 77; fail)
      refine (TakeNum_no A n c (by have := H.out.cap; have := H.out.len; omega) W h1 h8 hn _).mono ?_
      rintro e w' ⟨rfl, rfl⟩
      go_wp2
      go_ret
      rw [numP_short (by omega)]
      exact ⟨rfl, ⟨A, n, c, H.out.over⟩, (But.refl _ _).set 1 _⟩
    · go_enter Try.func43, Try.ntmps43
      go_wp2_with (go_at_call 77; fail)
      refine (TakeNum_yes A n c s.l H.out.cap H.out.len H.out.byt W h1 h8 (by omega) B _ H.out.txt).mono ?_
      rintro e w' ⟨rfl, rfl⟩
      go_wp2_with (refine wpList_val_w rfl (run_op_cut_l BT rfl rfl rfl (by omega)) ?_)
      · have hcW := h
        go_ret
        rw [numP_yes hs (by omega)]
        have M := H.out.moved hs (k := W) (by omega)
        unfold cutA at M
        rw [if_pos hcW, hcW, Nat.sub_self] at M
        exact ⟨rfl, ⟨_, _, _, M⟩, (But.refl _ _).set 0 _⟩
      · have hcW := h
        go_ret
        rw [numP_yes hs (by omega)]
        have M := H.out.moved hs (k := W) (by omega)
        unfold cutA at M
        rw [if_neg hcW] at M
        exact ⟨rfl, ⟨_, _, _, M⟩, (But.refl _ _).set 0 _⟩
/-- Bytes cut off: a row of the call's own. -/
def CutPost (B g : Nat) (w : World) (p : List Nat × Rs) (e : Ending) (w' : World) : Prop := ∃ A c, e = .returned (.slice A p.1.length c) ∧ Own w' w.heap.size 5 (.slice A p.1.length c) p.1 ∧ Eye w' B g p.2 ∧ But g w w'
theorem Own.slice {w : World} {base : Nat} {e : TypeId} {v : Value} {l : List Nat} (h : Own w base e v l) : ∃ A c, v = .slice A l.length c := by
  obtain ⟨A, c, hv, _⟩ := h.txt
  exact ⟨A, c, hv⟩
set_option maxRecDepth 100000 in
set_option maxHeartbeats 2000000 in
theorem eyeCut (k : Nat) (hk : k < 18446744073709551616) {B : Nat} (g : Nat) (s : Rs) (w : World) (h : Eye w B g s) :
    Calls Try.prog 78 #[.pointer (some ⟨g, 0, none⟩), .int .u64 k] w (CutPost B g w (cutP k s)) := by
  obtain ⟨A, n, c, h⟩ := h
  have c0 := h.c0
  have c1 := h.c1
  have f0 := h.free 0
  have f1 := h.free 1
  have H := Lib.hid h
  have hlen := h.txt.len
  have hn1 : n ≤ 140737488355328 := by have := h.cap; have := h.len; omega
  have hcap := h.cap
  clear h
  by_cases hno : s.ov = true ∨ s.l.length < k
  · rw [cutP_no hno]
    have HN := Lib.hid hno
    have fin : ∀ x, EyeAt x B g A n c ⟨s.l, true⟩ → But g w x → CutPost B g w ([], ⟨s.l, true⟩) (.returned (.slice none 0 0)) x := fun x hx hb => ⟨none, 0, rfl, Own.nil_, ⟨_, _, _, hx⟩, hb⟩
    cases hs : s.ov with
    | true =>
      rw [eyeE_yes hs] at c1
      clear hno
      go_enter Try.func78, Try.ntmps78
      go_wp2
      go_ret
      exact fin _ H.out.over ((But.refl _ _).set 1 _)
    | false =>
      rw [eyeE_no hs] at c1
      have hlt : n < k := by
        rcases hno with h | h
        · rw [hs] at h; cases h
        · omega
      clear hno
      go_enter Try.func78, Try.ntmps78
      go_wp2
      go_ret
      exact fin _ H.out.over ((But.refl _ _).set 1 _)
  · have hs : s.ov = false := by cases h : s.ov with | false => rfl | true => exact absurd (.inl h) hno
    have hkn : k ≤ n := by rcases Nat.lt_or_ge s.l.length k with h | h; exact absurd (.inr h) hno; omega
    rw [cutP_yes hs (by omega)]
    rw [eyeE_no hs] at c1
    clear hno
    have hgl := lt_of_block H.out.row
    go_enter Try.func78, Try.ntmps78
    go_wp2_with (go_at_call 37; fail)
    refine (Clone_any A k c (s.l.take k) _ ((H.out.txt.take H.out.cap hkn).more (by have := H.out.low; omega)) (by omega)).mono ?_
    rintro e w1 ⟨v, rfl, ho, hb⟩
    have hl : (s.l.take k).length = k := by rw [List.length_take]; omega
    obtain ⟨A1, cc1, hv⟩ := ho.slice
    rw [hl] at hv
    subst hv
    have H1 := Lib.hid (H.out.after hb)
    have HO := Lib.hid ho
    clear ho c0 c1 f0 f1
    have c0 := H1.out.c0
    have c1 := H1.out.c1
    have f0 := H1.out.free 0
    have fin : ∀ x, EyeAt x B g (cutA A k c) (n - k) (c - k) ⟨s.l.drop k, false⟩ → x = w1.setCell ⟨g, 0, none⟩ (.slice (cutA A k c) (n - k) (c - k)) → CutPost B g w (s.l.take k, ⟨s.l.drop k, false⟩) (.returned (.slice A1 k cc1)) x := fun x hx hw => by
      subst hw
      refine ⟨A1, cc1, by dsimp only; rw [hl], by dsimp only; rw [hl]; exact HO.out.setCell (fun k' hk' => by have := (HO.out.lt k' hk').1; show k' ≠ g; omega) _, ⟨_, _, _, hx⟩, (But.of_below hb).set 0 _⟩
    go_wp2_with (refine wpList_val_w rfl (run_op_cut_l BT rfl rfl rfl (by omega)) ?_)
    · have hcW := h
      go_ret
      have M := H1.out.moved hs (k := k) (by omega)
      unfold cutA at M fin
      rw [if_pos hcW, hcW, Nat.sub_self] at M
      rw [if_pos hcW, hcW, Nat.sub_self] at fin
      exact fin _ M rfl
    · have hcW := h
      go_ret
      have M := H1.out.moved hs (k := k) (by omega)
      unfold cutA at M fin
      rw [if_neg hcW] at M
      rw [if_neg hcW] at fin
      exact fin _ M rfl
end Go.Proofs.Yteefhbpmeajbfaa
namespace Go.Proofs.Yteefhbpmeajbfaa
set_option linter.unusedSimpArgs false
set_option linter.unusedVariables false
open Go.RowKit
attribute [local irreducible] beL beK
section
variable {P : Program} {w : World} {o : Oper} {a : Act} {ops : Array Oper} {rest : List Oper} {Q : Exit → Act → World → Prop}
/-- copy: a text into a local row of zeros. -/
theorem run_copy_txt {dT sT ty e : TypeId} {g N n c dc t B : Nat} {A : Option Addr} {l : List Nat} (hu : P.underlying dT = some (.slice e)) (hs : (P.info? e).map (·.size) = some 1) (hg : w.heap[g]? = some (.cells (arr .u8 N fun _ => 0) t (0, 0))) (ht : Txt w B A n c l) (hn : n = 0 ∨ n = N) :
    ∃ w', (Builtin.copy_ #[dT, sT] ty #[.slice (some ⟨g, 0, none⟩) N dc, .slice A n c]).run P w = .ok (goInt n) w' ∧ w'.heap[g]? = some (.cells (arr .u8 N fun i => ((l.getD i 0 : Nat) : Int)) t (0, 0)) ∧ But g w w' := by
  by_cases h0 : n = 0
  · subst h0
    obtain rfl : l = [] := List.eq_nil_of_length_eq_zero ht.len
    refine ⟨w, run_copy_none (P := P) w dT sT ty e _ A N dc 0 c hu hs (Nat.zero_min N), ?_, But.refl _ _⟩
    rw [hg]
    rfl
  · obtain rfl : n = N := hn.resolve_left h0
    obtain ⟨ad, rfl, hb, hc⟩ := ht.at_ (by omega)
    have hl := ht.len
    have hr := run_copy_row P w dT sT ty e g 0 n dc ad n c (arr .u8 n fun _ => 0) t (l.map bv) hu hs hg (by simp [hl])
      (fun j v hv => by
        rw [List.getElem?_map] at hv
        cases hx : l[j]? with
        | none => rw [hx] at hv; cases hv
        | some x =>
          rw [hx] at hv
          simp only [Option.map_some, Option.some.injEq] at hv
          rw [← hv]
          exact hc j x hx)
      (by simp [arr_size, hl]) (fun v hv => by obtain ⟨x, _, rfl⟩ := List.mem_map.1 hv; rfl)
    have e1 : ((arr .u8 n fun _ => 0).toList.take 0 ++ l.map bv ++ (arr .u8 n fun _ => 0).toList.drop (0 + (l.map bv).length)).toArray = arr .u8 n fun i => ((l.getD i 0 : Nat) : Int) := by
      have : (arr .u8 n fun _ => (0 : Int)).toList.drop (0 + (l.map bv).length) = [] := List.drop_eq_nil_of_le (by simp [arr_size, hl])
      rw [this, List.take_zero, List.nil_append, List.append_nil]
      refine Array.ext (by simp [arr_size, hl]) fun i h1 h2 => ?_
      have hi : i < n := by simpa [hl] using h1
      have h3 := arr_get .u8 n (fun i => ((l.getD i 0 : Nat) : Int)) i hi
      rw [Array.getElem?_eq_getElem h2] at h3
      injection h3 with h3
      rw [h3]
      simp only [List.getElem_toArray, List.getElem_map]
      unfold bv
      rw [List.getD_eq_getElem?_getD, List.getElem?_eq_getElem (by omega)]
      rfl
    rw [e1, List.length_map, hl] at hr
    refine ⟨_, hr, row_self hg, ?_⟩
    have hb := row_below (Below.refl 0 w) (Nat.zero_le g) (arr .u8 n fun i => ((l.getD i 0 : Nat) : Int))
    exact ⟨hb.os, hb.tape, hb.output, hb.size, fun k _ hk => setRow_other _ _ _ _ hk⟩
theorem wpList_copy_txt {x y : Operand} {dT sT e : TypeId} {g N n c dc t B : Nat} {A : Option Addr} {l : List Nat} (hgd : o.guard = none) (ho : o.op = .call { callee := .builtin .copy, args := #[x, y], argTypes := #[dT, sT] })
    (hx : a.eval x = .slice (some ⟨g, 0, none⟩) N dc) (hy : a.eval y = .slice A n c) (hu : P.underlying dT = some (.slice e)) (hs : (P.info? e).map (·.size) = some 1) (hg : w.heap[g]? = some (.cells (arr .u8 N fun _ => 0) t (0, 0))) (ht : Txt w B A n c l) (hn : n = 0 ∨ n = N)
    (h : ∀ w', w'.heap[g]? = some (.cells (arr .u8 N fun i => ((l.getD i 0 : Nat) : Int)) t (0, 0)) → But g w w' → wpList P ops Q rest (a.put o.dst (.int .i64 n)) w') : wpList P ops Q (o :: rest) a w := by
  obtain ⟨w', hr, h1, h2⟩ := run_copy_txt (P := P) (ty := o.type) (sT := sT) (dc := dc) hu hs hg ht hn
  refine wpList_val' hgd ?_ (h w' h1 h2)
  unfold execOp
  simp only [ho]
  have e3 : (resolve a.eval { callee := .builtin .copy, args := #[x, y], argTypes := #[dT, sT] } o.type) = pure { target := .builtin .copy #[dT, sT] o.type (#[x, y].map fun | .const _ => true | _ => false), args := #[a.eval x, a.eval y] } := by
    simp [resolve]; rfl
  rw [e3, hx, hy]
  simp only [Sem.run_bind, Sem.run_pure, Result.andThen_ok, invoke, builtin, hr]
  rfl
/-- A new local variable of a struct's type. -/
theorem wpList_alloc_v {ty n : Nat} {z : Nat → Value} (hgd : o.guard = none) (ho : o.op = .alloc ty) (hz : ZeroV P ty n (arrV n z))
    (h : wpList P ops Q rest (a.put o.dst (.pointer (some ⟨w.heap.size, 0, none⟩))) (w.alloc (.cells (arrV n z) ty))) : wpList P ops Q (o :: rest) a w := by
  obtain ⟨hz, _⟩ := hz
  refine wpList_val' hgd ?_ h
  cases hq : P.info? ty with
  | none => simp [hq] at hz
  | some i =>
    have hs : i.zero = some (.agg (arrV n z)) := by simpa [hq] using hz
    unfold execOp
    simp [ho, Instr.alloc, zeroValue, typeInfo, hq, hs, newVar, newRow, newObj, Value.cells, Sem.run_bind]
    rfl
/-- A struct into a whole block. -/
theorem wpList_store_v {ty n t g : Nat} {x y : Operand} {f f' : Nat → Value} (hgd : o.guard = none) (ho : o.op = .store ty x y) (hT : RowT P ty n) (hx : a.eval x = .pointer (some ⟨g, 0, none⟩)) (hy : a.eval y = .agg (arrV n f')) (hg : w.heap[g]? = some (.cells (arrV n f) t (0, 0))) (h1 : ∀ i, i < n → (f' i).oneCell' = true)
    (h : wpList P ops Q rest (a.put o.dst undef) (w.setRow g (arrV n f'))) : wpList P ops Q (o :: rest) a w := wpList_skip hgd (run_op_store ho hx hy (run_storeVar_new hT (arrV_size n f) hg h1)) h
theorem results_v {fn : Func} {p : Tmp} {ty : TypeId} {n t g : Nat} {f : Nat → Value} {fr : Nat × Nat} (h : fn.results = #[.cell p ty]) {tmps : Array Value} (hp : tmps.getD p undef = .pointer (some ⟨g, 0, none⟩))
    (hT : RowT P ty n) (hg : w.heap[g]? = some (.cells (arrV n f) t fr)) : (results fn tmps).run P w = .ok (.agg (arrV n f)) w := by
  have hp' : tmps[p]?.getD undef = .pointer (some ⟨g, 0, none⟩) := by simpa using hp
  have h2 := run_loadVar_arrV hT hg (show 0 + n ≤ n by omega)
  simp only [Nat.zero_add] at h2
  simp [results, h, hp', asAddr, h2]
end
section
variable {w w' w'' : World} {B g q : Nat} {s : Rs}
theorem But.setNew (h : But g w w') (hq : w.heap.size ≤ q) (i : Nat) (v : Value) : But g w (w'.setCell ⟨q, i, none⟩ v) :=
  have k := (Below.refl 0 w').setCell (p := ⟨q, i, none⟩) (Nat.zero_le _) v
  ⟨k.os.trans h.os, k.tape.trans h.tape, k.output.trans h.output, Nat.le_trans h.size k.size, fun b hb hg => (heap_setCell_other _ _ _ _ (show b ≠ q by omega)).trans (h.block b hb hg)⟩
theorem But.newRow {cs : Array Value} (h : But g w w') (hq : w.heap.size ≤ q) : But g w (w'.setRow q cs) :=
  have k := row_below (Below.refl 0 w') (Nat.zero_le q) cs
  ⟨k.os.trans h.os, k.tape.trans h.tape, k.output.trans h.output, Nat.le_trans h.size k.size, fun b hb hg => (setRow_other _ _ _ _ (show b ≠ q by omega)).trans (h.block b hb hg)⟩
theorem But.row1 (cs : Array Value) : But q w (w.setRow q cs) :=
  have k := row_below (Below.refl 0 w) (Nat.zero_le q) cs
  ⟨k.os, k.tape, k.output, k.size, fun b _ hb => setRow_other _ _ _ _ hb⟩
theorem But.new (h : But g w w') (k : But q w' w'') (hq : w.heap.size ≤ q) : But g w w'' :=
  ⟨k.os.trans h.os, k.tape.trans h.tape, k.output.trans h.output, Nat.le_trans h.size k.size, fun b hb hg => (k.block b (Nat.lt_of_lt_of_le hb h.size) (by omega)).trans (h.block b hb hg)⟩
theorem Eye.setAt (h : Eye w B g s) (hq : q ≠ g) (hB : B ≤ q) (i : Nat) (v : Value) : Eye (w.setCell ⟨q, i, none⟩ v) B g s := by
  obtain ⟨A, n, c, k⟩ := h
  exact ⟨A, n, c, (heap_setCell_other _ _ _ _ (show g ≠ q from fun e => hq e.symm)).trans k.row, k.low, k.txt.keep fun p hp => ((Below.refl B w).setCell (p := ⟨q, i, none⟩) hB _).cell hp, k.cap, k.len, k.byt⟩
theorem Eye.butAt (h : Eye w B g s) (k : But q w w') (hq : q ≠ g) (hB : B ≤ q) : Eye w' B g s := by
  obtain ⟨A, n, c, e⟩ := h
  have hl := lt_of_block e.row
  have hlo := e.low
  exact ⟨A, n, c, (k.block g hl (fun e => hq e.symm)).trans e.row, hlo, e.txt.keep fun p hp => (k.below (B := B) hB (by omega)).cell hp, e.cap, e.len, e.byt⟩
theorem Eye.low (h : Eye w B g s) : B ≤ g := let ⟨_, _, _, k⟩ := h; k.low
theorem Eye.setOther (h : Eye w B g s) (hq : g < q) (i : Nat) (v : Value) : Eye (w.setCell ⟨q, i, none⟩ v) B g s := h.setAt (by omega) (by have := h.low; omega) i v
theorem Eye.but (h : Eye w B g s) (k : But q w w') (hq : g < q) : Eye w' B g s := h.butAt k (by omega) (by have := h.low; omega)
theorem set_arrV {N t i : Nat} {f : Nat → Value} (h : w.heap[q]? = some (.cells (arrV N f) t (0, 0))) (v : Value) : (w.setCell ⟨q, i, none⟩ v).heap[q]? = some (.cells (arrV N (upd f i v)) t (0, 0)) := by
  rw [heap_setCell_same w q i _ _ _ h, arrV_set]
end
theorem eyeNum1 {B g v : Nat} {s s' : Rs} {w : World} (h : Eye w B g s) (hE : numP 1 s = (v, s')) :
    Calls Try.prog 43 #[.pointer (some ⟨g, 0, none⟩), .int .i64 1] w fun e w' => e = .returned (.int .u64 (v : Int)) ∧ Eye w' B g s' ∧ But g w w' := by
  have := eyeNum 1 (by omega) (by omega) g s w h
  rw [hE] at this
  exact this
theorem Eye.lt1 {w : World} {B g v : Nat} {s s' : Rs} (h : Eye w B g s) (hE : numP 1 s = (v, s')) : v < 256 := by
  obtain ⟨_, _, _, k⟩ := h
  have := numP_lt (k := 1) k.byt
  rw [hE] at this
  exact this
theorem eyeNum2 {B g v : Nat} {s s' : Rs} {w : World} (h : Eye w B g s) (hE : numP 2 s = (v, s')) :
    Calls Try.prog 43 #[.pointer (some ⟨g, 0, none⟩), .int .i64 2] w fun e w' => e = .returned (.int .u64 (v : Int)) ∧ Eye w' B g s' ∧ But g w w' := by
  have := eyeNum 2 (by omega) (by omega) g s w h
  rw [hE] at this
  exact this
theorem Eye.lt2 {w : World} {B g v : Nat} {s s' : Rs} (h : Eye w B g s) (hE : numP 2 s = (v, s')) : v < 65536 := by
  obtain ⟨_, _, _, k⟩ := h
  have := numP_lt (k := 2) k.byt
  rw [hE] at this
  exact this
theorem eyeNum4 {B g v : Nat} {s s' : Rs} {w : World} (h : Eye w B g s) (hE : numP 4 s = (v, s')) :
    Calls Try.prog 43 #[.pointer (some ⟨g, 0, none⟩), .int .i64 4] w fun e w' => e = .returned (.int .u64 (v : Int)) ∧ Eye w' B g s' ∧ But g w w' := by
  have := eyeNum 4 (by omega) (by omega) g s w h
  rw [hE] at this
  exact this
theorem Eye.lt4 {w : World} {B g v : Nat} {s s' : Rs} (h : Eye w B g s) (hE : numP 4 s = (v, s')) : v < 4294967296 := by
  obtain ⟨_, _, _, k⟩ := h
  have := numP_lt (k := 4) k.byt
  rw [hE] at this
  exact this
theorem eyeNum8 {B g v : Nat} {s s' : Rs} {w : World} (h : Eye w B g s) (hE : numP 8 s = (v, s')) :
    Calls Try.prog 43 #[.pointer (some ⟨g, 0, none⟩), .int .i64 8] w fun e w' => e = .returned (.int .u64 (v : Int)) ∧ Eye w' B g s' ∧ But g w w' := by
  have := eyeNum 8 (by omega) (by omega) g s w h
  rw [hE] at this
  exact this
theorem Eye.lt8 {w : World} {B g v : Nat} {s s' : Rs} (h : Eye w B g s) (hE : numP 8 s = (v, s')) : v < 18446744073709551616 := by
  obtain ⟨_, _, _, k⟩ := h
  have := numP_lt (k := 8) k.byt
  rw [hE] at this
  exact this
theorem eyeCut32 {B : Nat} (g : Nat) (s : Rs) (w : World) (h : Eye w B g s) :
    Calls Try.prog 78 #[.pointer (some ⟨g, 0, none⟩), .int .u64 32] w (CutPost B g w (cutP 32 s)) := eyeCut 32 (by omega) g s w h
theorem cutP_len (n : Nat) (s : Rs) : (cutP n s).1.length = 0 ∨ (cutP n s).1.length = n := by
  unfold cutP
  split
  · exact .inl rfl
  · exact .inr (by rw [List.length_take]; omega)
set_option maxRecDepth 100000 in
set_option maxHeartbeats 2000000 in
theorem eyeKey {B : Nat} (g : Nat) (s : Rs) (w : World) (h : Eye w B g s) :
    Calls Try.prog 46 #[.pointer (some ⟨g, 0, none⟩)] w fun e w' => e = .returned (.agg (arr .u8 32 fun i => (((keyP s).1 i : Nat) : Int))) ∧ Eye w' B g (keyP s).2 ∧ But g w w' := by
  have hgl := h.lt
  go_enter Try.func46, Try.ntmps46
  go_upto_region 1 with (refine wpList_alloc_arr rfl rfl ZTKey ?_)
  have hq := heap_alloc_new w (.cells (arr .u8 32 fun _ => 0) 36)
  have he := h.after ((Below.refl _ _).alloc (Nat.le_refl _) (.cells (arr .u8 32 fun _ => 0) 36))
  have hb : But g w _ := (But.refl g w).alloc (.cells (arr .u8 32 fun _ => 0) 36)
  have hsz : (w.alloc (.cells (arr .u8 32 fun _ => 0) 36)).heap.size = w.heap.size + 1 := by simp
  clear h
  refine wp_cut (fun x => x.heap[w.heap.size]? = some (.cells (arr .u8 32 fun _ => 0) 36 (0, 0)) ∧ Eye x B g s ∧ But g w x ∧ x.heap.size = w.heap.size + 1) ⟨hq, he, hb, hsz⟩ ?_
  clear hq he hb hsz
  rintro wr ⟨hq, he, hb, hsz⟩
  (try simp only [Act.put, List.setIfInBounds_toArray, List.set_cons_zero, List.set_cons_succ])
  refine wp_region_can g 3 [(0, false), (1, false), (2, true)] (by kernel_rfl) (by kernel_rfl) ?_
  (simp only [canOps, List.getElem?_cons_zero, List.getElem?_cons_succ, List.drop_succ_cons, List.drop_zero])
  iterate 2 (first | (refine wpCan_move rfl rfl (fun _ _ _ _ h => h) ?_; (simp only [Act.put, Act.eval, Array.getD_eq_getD_getElem?, List.getElem?_toArray, List.getElem?_cons_zero, List.getElem?_cons_succ, Option.getD_some, List.setIfInBounds_toArray, List.set_cons_zero, List.set_cons_succ])) | (refine wpCan_assign rfl rfl (fun _ _ _ _ h => h) ?_; (simp only [Act.put, Act.eval, Array.getD_eq_getD_getElem?, List.getElem?_toArray, List.getElem?_cons_zero, List.getElem?_cons_succ, Option.getD_some, List.setIfInBounds_toArray, List.set_cons_zero, List.set_cons_succ])) | (refine wpCan_nilCheck rfl rfl rfl (fun _ _ _ _ h => h) ?_; (simp only [Act.put, List.setIfInBounds_toArray, List.set_cons_zero, List.set_cons_succ])) | (refine wpCan_q rfl rfl (fun _ _ _ _ h => h) (by first | exact .bin rfl rfl rfl | exact .indexAddr rfl | exact .un rfl | exact .extract rfl | exact .index rfl | exact .field rfl | exact .slice rfl) (fun K hK => ?_); go_simp; (try (simp only [↓IntWalk.iteOmega]; go_simp)); (try go_bits); refine hK _ ?_; clear hK K))
  refine wpCan_e rfl (fun K hK => ?_)
  go_simp
  refine (eyeCut32 g s _ (he.after (Below.refl _ _).drew)).mono ?_
  rintro e w2 ⟨A, c, rfl, ho, he2, hb2⟩
  refine hK _ _ (Keep.of_below (B := g) (hb2.below (Nat.le_refl _) (by show g ≤ wr.heap.size; omega)) (Nat.le_refl _)) ?_
  clear hK K
  (try simp only [Act.put, List.setIfInBounds_toArray, List.set_cons_zero, List.set_cons_succ])
  refine wpCan_nil ?_
  have hq2 := hb2.keep (show wr.drew.heap[w.heap.size]? = _ from hq) (by omega)
  have hb3 := (hb.trans (But.of_below ((Below.refl _ _).drew))).trans hb2
  clear hq hb hb2
  go_wp2_with (first | (refine wpList_copy_txt rfl rfl rfl rfl Try.underlying23 (by kernel_rfl) hq2 ho.text (cutP_len 32 s) ?_; intro w3 hq3 hb4) | (refine wpList_load_arr rfl rfl rfl RTKey hq3 ?_) | (refine wpList_store_arr rfl rfl rfl rfl RTKey hq3 ?_))
  refine bodyPost_ret (results_arr rfl rfl RTKey (row_self hq3)) rfl ⟨rfl, ?_, ?_⟩
  · exact (he2.but hb4 hgl).but (But.row1 _) hgl
  · exact (hb3.new hb4 (Nat.le_refl _)).newRow (Nat.le_refl _)
theorem eyeKeyE {B : Nat} {g : Nat} {k : Nat → Nat} {s s' : Rs} {w : World} (h : Eye w B g s) (hE : keyP s = (k, s')) :
    Calls Try.prog 46 #[.pointer (some ⟨g, 0, none⟩)] w fun e w' => e = .returned (.agg (arr .u8 32 fun i => ((k i : Nat) : Int))) ∧ Eye w' B g s' ∧ But g w w' := by
  have := eyeKey g s w h
  rw [hE] at this
  exact this
theorem pair_of {α β : Type} (p : α × β) : ∃ a b, p = (a, b) := ⟨p.1, p.2, rfl⟩
theorem propP_is {s s1 s2 s3 : Rs} {kd id : Nat} {k : Nat → Nat} (h1 : numP 1 s = (kd, s1)) (h2 : numP 4 s1 = (id, s2)) (h3 : keyP s2 = (k, s3)) : propP s = (⟨kd, id, k⟩, s3) := by
  unfold propP
  simp only [h1, h2, h3]
def propF (p : PProp) (j : Nat) : Value := propV (p.kind : Int) (p.id : Int) p.pt j
theorem propF_one (p : PProp) (j : Nat) : (propF p j).oneCell' = true := propV_one _ _ _ _
theorem ZVProp0 : ZeroV Try.prog 79 34 (arrV 34 (propV 0 0 fun _ => 0)) := ⟨by kernel_rfl, by rw [arrV_size]⟩
set_option maxRecDepth 100000 in
set_option maxHeartbeats 2000000 in
theorem eyeProp {B : Nat} (g : Nat) (s : Rs) (w : World) (h : Eye w B g s) :
    Calls Try.prog 45 #[.pointer (some ⟨g, 0, none⟩)] w fun e w' => e = .returned (.agg (arrV 34 (propF (propP s).1))) ∧ Eye w' B g (propP s).2 ∧ But g w w' := by
  obtain ⟨kd, s1, E1⟩ := pair_of (numP 1 s)
  obtain ⟨id, s2, E2⟩ := pair_of (numP 4 s1)
  obtain ⟨k, s3, E3⟩ := pair_of (keyP s2)
  rw [propP_is E1 E2 E3]
  have hgl := h.lt
  go_enter Try.func45, Try.ntmps45
  go_upto_region 1 with (refine wpList_alloc_v rfl rfl ZVProp0 ?_)
  have hq := heap_alloc_new w (.cells (arrV 34 (propV 0 0 fun _ => 0)) 79)
  have he := h.after ((Below.refl _ _).alloc (Nat.le_refl _) (.cells (arrV 34 (propV 0 0 fun _ => 0)) 79))
  have hb : But g w _ := (But.refl g w).alloc (.cells (arrV 34 (propV 0 0 fun _ => 0)) 79)
  clear h
  refine wp_cut (fun x => x.heap[w.heap.size]? = some (.cells (arrV 34 (propV 0 0 fun _ => 0)) 79 (0, 0)) ∧ Eye x B g s ∧ But g w x) ⟨hq, he, hb⟩ ?_
  clear hq he hb
  rintro w1 ⟨hq, he, hb⟩
  (try simp only [Act.put, List.setIfInBounds_toArray, List.set_cons_zero, List.set_cons_succ])
  go_upto_region 2 with (go_at_call 43; have lt := he.lt1 E1; (with_reducible refine (eyeNum1 he E1).mono ?_); rintro e w2 ⟨rfl, he2, hb2⟩; have hq2 := hb2.keep hq (by omega); have c2 := cell_arrV hq2 0 (by omega); have f2 := frozen_of_row w2 w.heap.size 0 _ _ hq2)
  replace he := he2.setOther hgl 0 (.int .i64 (kd : Int))
  replace hb := (hb.trans hb2).setNew (Nat.le_refl _) 0 (.int .i64 (kd : Int))
  replace hq := set_arrV (i := 0) hq2 (.int .i64 (kd : Int))
  clear hq2 c2 f2 he2 hb2
  generalize w2.setCell ⟨w.heap.size, 0, none⟩ (.int .i64 (kd : Int)) = w3 at *
  clear w2
  (try simp only [Act.put, List.setIfInBounds_toArray, List.set_cons_zero, List.set_cons_succ])
  go_upto_region 3 with (go_at_call 43; have lt2 := he.lt4 E2; (with_reducible refine (eyeNum4 he E2).mono ?_); rintro e w2 ⟨rfl, he2, hb2⟩; have hq2 := hb2.keep hq (by omega); have c2 := cell_arrV hq2 1 (by omega); have f2 := frozen_of_row w2 w.heap.size 1 _ _ hq2)
  replace he := he2.setOther hgl 1 (.int .i64 (id : Int))
  replace hb := (hb.trans hb2).setNew (Nat.le_refl _) 1 (.int .i64 (id : Int))
  replace hq := set_arrV (i := 1) hq2 (.int .i64 (id : Int))
  clear hq2 c2 f2 he2 hb2
  generalize w2.setCell ⟨w.heap.size, 1, none⟩ (.int .i64 (id : Int)) = w4 at *
  clear w2
  (try simp only [Act.put, List.setIfInBounds_toArray, List.set_cons_zero, List.set_cons_succ])
  go_upto_region 4 with (first | (go_at_call 46; (with_reducible refine (eyeKeyE he E3).mono ?_); rintro e w2 ⟨rfl, he2, hb2⟩; have hq2 := hb2.keep hq (by omega)) | (refine wpList_store_part (f' := fun i => ((k i : Nat) : Int)) rfl rfl RTKey rfl rfl hq2 (by omega) ?_))
  rw [show (arrV 34 (patch (upd (upd (propV 0 0 fun _ => 0) 0 (.int .i64 (kd : Int))) 1 (.int .i64 (id : Int))) 2 32 fun i => .int .u8 ((k i : Nat) : Int))) = arrV 34 (propF ⟨kd, id, k⟩) from arrV_ext fun i hi => by
    unfold patch upd propF propV
    by_cases h0 : i = 0
    · subst h0; rfl
    · by_cases h1 : i = 1
      · subst h1; rfl
      · rw [if_pos (by omega), if_neg h0, if_neg h1]]
  have hq5 := row_self (c' := arrV 34 (propF ⟨kd, id, k⟩)) hq2
  replace he := he2.but (But.row1 (q := w.heap.size) (arrV 34 (propF ⟨kd, id, k⟩))) hgl
  replace hb := (hb.trans hb2).newRow (q := w.heap.size) (cs := arrV 34 (propF ⟨kd, id, k⟩)) (Nat.le_refl _)
  clear hq hq2 he2 hb2
  generalize w2.setRow w.heap.size (arrV 34 (propF ⟨kd, id, k⟩)) = w5 at *
  clear w2
  (try simp only [Act.put, List.setIfInBounds_toArray, List.set_cons_zero, List.set_cons_succ])
  go_wp2_with (first | (refine wpList_load_all rfl rfl RTProp rfl hq5 ?_) | (refine wpList_store_v rfl rfl RTProp rfl rfl hq5 (fun i _ => propF_one _ i) ?_))
  refine bodyPost_ret (results_v rfl rfl RTProp (row_self hq5)) rfl ⟨rfl, he.but (But.row1 _) hgl, hb.newRow (Nat.le_refl _)⟩
theorem boxP_is {s s1 s2 : Rs} {n : Nat} {l : List Nat} (h1 : numP 2 s = (n, s1)) (h2 : cutP n s1 = (l, s2)) : boxP s = (l, s2) := by
  unfold boxP
  simp only [h1, h2]
theorem eyeCutE {B : Nat} {g k : Nat} {s s' : Rs} {l : List Nat} {w : World} (hk : k < 18446744073709551616) (h : Eye w B g s) (hE : cutP k s = (l, s')) :
    Calls Try.prog 78 #[.pointer (some ⟨g, 0, none⟩), .int .u64 k] w (CutPost B g w (l, s')) := by
  have := eyeCut k hk g s w h
  rw [hE] at this
  exact this
set_option maxRecDepth 100000 in
set_option maxHeartbeats 2000000 in
theorem eyeBox {B : Nat} (g : Nat) (s : Rs) (w : World) (h : Eye w B g s) :
    Calls Try.prog 51 #[.pointer (some ⟨g, 0, none⟩)] w (CutPost B g w (boxP s)) := by
  obtain ⟨n, s1, E1⟩ := pair_of (numP 2 s)
  obtain ⟨l, s2, E2⟩ := pair_of (cutP n s1)
  rw [boxP_is E1 E2]
  have lt := h.lt2 E1
  go_enter Try.func51, Try.ntmps51
  go_wp2_with (first | (go_at_call 43; (with_reducible refine (eyeNum2 h E1).mono ?_); rintro e w2 ⟨rfl, he2, hb2⟩) | (go_at_call 78; (with_reducible refine (eyeCutE (by omega) he2 E2).mono ?_); rintro e w3 ⟨A, c, rfl, ho, he3, hb3⟩))
  go_ret
  exact ⟨A, c, rfl, ho.mono hb2.size, he3, hb2.trans hb3⟩
end Go.Proofs.Yteefhbpmeajbfaa
namespace Go.Proofs.Yteefhbpmeajbfaa
set_option linter.unusedSimpArgs false
set_option linter.unusedVariables false
open Go.RowKit
attribute [local irreducible] beL beK
theorem But.kept {g : Nat} {w w' w'' : World} {b : Option Nat} (h : But g w w') (hk : ∀ k, k < w'.heap.size → b ≠ some k → w''.heap[k]? = w'.heap[k]?) (hm : w''.os = w'.os ∧ w''.tape = w'.tape ∧ w''.output = w'.output ∧ w'.heap.size ≤ w''.heap.size) (hb : ∀ k, b = some k → w.heap.size ≤ k) : But g w w'' :=
  ⟨hm.1.trans h.os, hm.2.1.trans h.tape, hm.2.2.1.trans h.output, Nat.le_trans h.size hm.2.2.2, fun k hk1 hg => (hk k (Nat.lt_of_lt_of_le hk1 h.size) (fun e => absurd (hb k e) (by omega))).trans (h.block k hk1 hg)⟩
theorem Eye.kept {B g : Nat} {s : Rs} {w w' : World} {b : Option Nat} (h : Eye w B g s) (hk : ∀ k, k < w.heap.size → b ≠ some k → w'.heap[k]? = w.heap[k]?) (hb : ∀ k, b = some k → g < k) : Eye w' B g s := by
  obtain ⟨A, n, c, e⟩ := h
  have hl := lt_of_block e.row
  have ho : ∀ k, k < g → w'.heap[k]? = w.heap[k]? := fun k hk' => hk k (by omega) (fun e => absurd (hb k e) (by omega))
  have hB : ∀ p : Addr, p.block < g → w'.cell? p = w.cell? p := fun p hp => by unfold World.cell?; rw [ho p.block hp]
  exact ⟨A, n, c, (hk g hl (fun e => absurd (hb g e) (by omega))).trans e.row, e.low, e.txt.keep fun p hp => hB p (Nat.lt_of_lt_of_le hp e.low), e.cap, e.len, e.byt⟩
theorem own_lo {base sz n : Nat} {w : World} {e : TypeId} {v : Value} {xs : List Value} (h : w.ownsRow base e sz v n xs) : ∀ k, v.ownBlock = some k → base ≤ k := fun k hk => (World.ownsRow.lt h k hk).1
/-- A row of another type is kept where only a row's block changes. -/
theorem own_kept {base sz n base' sz' n' : Nat} {w w' : World} {e e' : TypeId} {v v' : Value} {xs xs' : List Value} (h : w.ownsRow base e sz v n xs) (h' : w.ownsRow base' e' sz' v' n' xs') (hne : e ≠ e') (hk : ∀ k, k < w.heap.size → v'.ownBlock ≠ some k → w'.heap[k]? = w.heap[k]?) : w'.ownsRow base e sz v n xs := by
  refine ⟨h.1, ?_⟩
  rcases h.2 with h2 | ⟨b, cap, cur, rfl, h3, hh, h4⟩
  · exact .inl h2
  · refine .inr ⟨b, cap, cur, rfl, h3, (hk b (lt_of_block hh) fun hb => ?_).trans hh, h4⟩
    rcases h'.2 with ⟨rfl, _⟩ | ⟨b', cap', cur', rfl, _, hh', _⟩
    · cases hb
    · have : b' = b := by simpa [Value.ownBlock] using hb
      subst this
      rw [hh] at hh'
      injection hh' with hh'
      injection hh' with _ ht
      exact hne ht
theorem own_keep {base sz n : Nat} {w w' : World} {e : TypeId} {v : Value} {xs : List Value} (h : w.ownsRow base e sz v n xs) (hk : ∀ (b : Nat) (c : Array Value) (fr : Nat × Nat), w.heap[b]? = some (Obj.cells c e fr) → w'.heap[b]? = w.heap[b]?) : w'.ownsRow base e sz v n xs := by
  refine ⟨h.1, ?_⟩
  rcases h.2 with h2 | ⟨b, cap, cur, rfl, h3, hh, h4⟩
  · exact .inl h2
  · exact .inr ⟨b, cap, cur, rfl, h3, (hk b _ _ hh).trans hh, h4⟩
theorem own_mono {base base' sz n : Nat} {w : World} {e : TypeId} {v : Value} {xs : List Value} (h : w.ownsRow base e sz v n xs) (hb : base' ≤ base) : w.ownsRow base' e sz v n xs := by
  refine ⟨h.1, ?_⟩
  rcases h.2 with h2 | ⟨b, cap, cur, rfl, h3, h4⟩
  · exact .inl h2
  · exact .inr ⟨b, cap, cur, rfl, Nat.le_trans hb h3, h4⟩
/-- A store into a block of another type. -/
theorem own_set {base sz n q i : Nat} {w : World} {e t : TypeId} {v u : Value} {xs : List Value} {c : Array Value} {fr : Nat × Nat} (h : w.ownsRow base e sz v n xs) (hq : w.heap[q]? = some (.cells c t fr)) (hne : e ≠ t) : (w.setCell ⟨q, i, none⟩ u).ownsRow base e sz v n xs :=
  own_keep h fun b c' fr' hb => heap_setCell_other _ _ _ _ (show b ≠ q by rintro rfl; rw [hq] at hb; injection hb with hb; injection hb with _ ht; exact hne ht.symm)
theorem own_setRow {base sz n q : Nat} {w : World} {e t : TypeId} {v : Value} {xs : List Value} {c cs : Array Value} {fr : Nat × Nat} (h : w.ownsRow base e sz v n xs) (hq : w.heap[q]? = some (.cells c t fr)) (hne : e ≠ t) : (w.setRow q cs).ownsRow base e sz v n xs :=
  own_keep h fun b c' fr' hb => setRow_other _ _ _ _ (show b ≠ q by rintro rfl; rw [hq] at hb; injection hb with hb; injection hb with _ ht; exact hne ht.symm)
theorem own_slice {base sz n : Nat} {w : World} {e : TypeId} {v : Value} {xs : List Value} (h : w.ownsRow base e sz v n xs) : ∃ A c, v = .slice A n c := by
  rcases h.2 with ⟨he, h0⟩ | ⟨g, cap, cur, he, _⟩
  · exact ⟨none, 0, by rw [he, h0]⟩
  · exact ⟨_, _, he⟩
theorem items_step {α : Type} {f : Rs → α × Rs} {N r : Nat} {s s' s'' : Rs} {d : List α} {x : α} (h : itemsP f N s = (d ++ (itemsP f (r + 1) s').1, (itemsP f (r + 1) s').2)) (hs : s'.ov = false) (hx : f s' = (x, s'')) : itemsP f N s = ((d ++ [x]) ++ (itemsP f r s'').1, (itemsP f r s'').2) := by
  rw [h]
  have e : itemsP f (r + 1) s' = (x :: (itemsP f r s'').1, (itemsP f r s'').2) := by
    show (if s'.ov = true then ([], s') else ((f s').1 :: (itemsP f r (f s').2).1, (itemsP f r (f s').2).2)) = _
    rw [if_neg (by rw [hs]; simp), hx]
  rw [e]
  simp
theorem items_end {α : Type} {f : Rs → α × Rs} {N r : Nat} {s s' : Rs} {d : List α} (h : itemsP f N s = (d ++ (itemsP f r s').1, (itemsP f r s').2)) (hr : r = 0 ∨ s'.ov = true) : itemsP f N s = (d, s') := by
  rw [h]
  rcases hr with rfl | hr
  · simp [itemsP]
  · rw [items_over f r s' hr]; simp
/-- What is handed back of items: a row of the call's own. -/
def ItPost {α μ : Type} (e sz : Nat) (F : μ → Nat → Value) (pr : μ → α) (Nest : World → Nat → μ → Prop) (B g : Nat) (w : World) (p : List α × Rs) (E : Ending) (w' : World) : Prop :=
  ∃ (A : Option Addr) (c : Nat) (l : List μ), E = .returned (.slice A l.length c) ∧ l.map pr = p.1 ∧ w'.ownsRow w.heap.size e sz (.slice A l.length c) l.length (cellsOf sz F l) ∧ (∀ x ∈ l, Nest w' w.heap.size x) ∧ Eye w' B g p.2 ∧ But g w w'
theorem ELProp : ElT Try.prog 34 79 34 48 := ⟨Try.underlying34, by kernel_rfl⟩
theorem BSProp (p : PProp) : Try.prog.builtSlice 79 1 [(0, .agg (arrV 34 (propF p)))] = some (arrV 34 (propF p)) := by kernel_rfl
theorem eyePropE {B g : Nat} {x : PProp} {s s' : Rs} {w : World} (h : Eye w B g s) (hE : propP s = (x, s')) :
    Calls Try.prog 45 #[.pointer (some ⟨g, 0, none⟩)] w fun e w' => e = .returned (.agg (arrV 34 (propF x))) ∧ Eye w' B g s' ∧ But g w w' := by
  have := eyeProp g s w h
  rw [hE] at this
  exact this
set_option maxRecDepth 100000 in
set_option maxHeartbeats 2000000 in
theorem itemsProp (N : Nat) (hN : N < 65536) {B : Nat} (g : Nat) (s : Rs) (w : World) (h : Eye w B g s) :
    Calls Try.prog 44 #[.pointer (some ⟨g, 0, none⟩), .int .u64 N, .func (.func 45) #[.pointer (some ⟨g, 0, none⟩)] #[]] w (ItPost 79 34 propF id (fun _ _ _ => True) B g w (itemsP propP N s)) := by
  have hgl := h.lt
  go_enter Try.func44, Try.ntmps44
  go_wp2
  go_loopg [1, 6] N (fun r x v wr => ∃ (l : List PProp) (s' : Rs) (V : Value), V = v ∧ x = .int .u64 r ∧ r + l.length ≤ N ∧ itemsP propP N s = (l.map id ++ (itemsP propP r s').1, (itemsP propP r s').2) ∧ Eye wr B g s' ∧ wr.ownsRow w.heap.size 79 34 V l.length (cellsOf 34 propF l) ∧ (∀ x ∈ l, (fun _ _ _ => True) wr w.heap.size x) ∧ But g w wr)
  case atStart => exact ⟨[], s, _, rfl, rfl, Nat.le_refl _, rfl, h, ⟨rfl, .inl ⟨rfl, rfl⟩⟩, (fun x hx => by cases hx), But.refl _ _⟩
  case round =>
    clear h
    obtain ⟨l, s', V, rfl, rfl, hr, hit, he, ho, hnest, hb⟩ := hrel
    obtain ⟨A0, n0, c0', hE⟩ := he
    have c1 := hE.c1
    have he : Eye wr B g s' := ⟨_, _, _, hE⟩
    clear hE
    have HO := Lib.hid ho
    have HI := Lib.hid hit
    have HNS := Lib.hid hnest
    have HR := Lib.hid hr
    have hrN : gk < 18446744073709551616 := by omega
    clear ho hit hnest hr
    have fin : (gk = 0 ∨ s'.ov = true) → ∀ E, E = .returned V → ItPost 79 34 propF id (fun _ _ _ => True) B g w (itemsP propP N s) E wr := fun hx E hE => by
      obtain ⟨A, c, rfl⟩ := own_slice HO.out
      rw [items_end HI.out hx]
      exact ⟨A, c, l, hE, rfl, HO.out, HNS.out, he, hb⟩
    by_cases h0 : gk = 0
    · subst h0
      have F0 := Lib.hid (fin (.inl rfl))
      clear fin
      go_wp2
      go_ret
      exact F0.out _ rfl
    · cases hov : s'.ov with
      | true =>
        rw [eyeE_yes hov] at c1
        have F0 := Lib.hid (fin (.inr hov))
        clear fin
        go_wp2
        go_ret
        exact F0.out _ rfl
      | false =>
        rw [eyeE_no hov] at c1
        obtain ⟨r, rfl⟩ : ∃ r, gk = r + 1 := ⟨gk - 1, by omega⟩
        clear fin
        obtain ⟨x, s2, EX⟩ := pair_of (propP s')
        go_upto_region 4 with (first | (go_at_call 45; (with_reducible refine (eyePropE he EX).mono ?_); rintro e w2 ⟨rfl, he2, hb2⟩; have HO2 := Lib.hid (hb2.row HO.out he.choose_spec.choose_spec.choose_spec.row (by decide))) | (refine wpList_add_el rfl rfl rfl rfl ELProp (by omega) (by simp [Act.eval, Act.put]) (BSProp x) rfl rfl HO2.out (fun i _ => propF_one x i) (by have := HR.out; omega) (by have := HR.out; omega) (by have := hb.size; have := hb2.size; omega) ?_; intro v3 w3 ho3 hk3 hm3 hw3))
        have hlo := own_lo HO2.out
        have he3 := he2.kept hk3 (fun k hk => by have := hlo k hk; omega)
        have hb3 := (hb.trans hb2).kept hk3 hm3 hlo
        
        go_roundg r
        case measure => omega
        case rel =>
          refine ⟨l ++ [x], s2, v3, rfl, by go_num, by have := HR.out; simp; omega, ?_, he3, ?_, ?_, hb3⟩
          · rw [List.map_append]
            exact items_step HI.out hov EX
          · rw [List.length_append, cellsOf_snoc]
            exact ho3
          · exact fun _ _ => trivial
/-- A key's cells. -/
def keyF (k : Nat → Nat) (j : Nat) : Value := byteV k j
theorem keyF_one (k : Nat → Nat) (j : Nat) : (keyF k j).oneCell' = true := rfl
theorem ELKey : ElT Try.prog 38 36 32 32 := ⟨Try.underlying38, by kernel_rfl⟩
theorem BSKey (k : Nat → Nat) : Try.prog.builtSlice 36 1 [(0, .agg (arr .u8 32 fun i => ((k i : Nat) : Int)))] = some (arrV 32 (keyF k)) := by kernel_rfl
set_option maxRecDepth 100000 in
set_option maxHeartbeats 2000000 in
theorem itemsKey (N : Nat) (hN : N < 65536) {B : Nat} (g : Nat) (s : Rs) (w : World) (h : Eye w B g s) :
    Calls Try.prog 49 #[.pointer (some ⟨g, 0, none⟩), .int .u64 N, .func (.func 46) #[.pointer (some ⟨g, 0, none⟩)] #[]] w (ItPost 36 32 keyF id (fun _ _ _ => True) B g w (itemsP keyP N s)) := by
  have hgl := h.lt
  go_enter Try.func49, Try.ntmps49
  go_wp2
  go_loopg [1, 6] N (fun r x v wr => ∃ (l : List (Nat → Nat)) (s' : Rs) (V : Value), V = v ∧ x = .int .u64 r ∧ r + l.length ≤ N ∧ itemsP keyP N s = (l.map id ++ (itemsP keyP r s').1, (itemsP keyP r s').2) ∧ Eye wr B g s' ∧ wr.ownsRow w.heap.size 36 32 V l.length (cellsOf 32 keyF l) ∧ (∀ x ∈ l, (fun _ _ _ => True) wr w.heap.size x) ∧ But g w wr)
  case atStart => exact ⟨[], s, _, rfl, rfl, Nat.le_refl _, rfl, h, ⟨rfl, .inl ⟨rfl, rfl⟩⟩, (fun x hx => by cases hx), But.refl _ _⟩
  case round =>
    clear h
    obtain ⟨l, s', V, rfl, rfl, hr, hit, he, ho, hnest, hb⟩ := hrel
    obtain ⟨A0, n0, c0', hE⟩ := he
    have c1 := hE.c1
    have he : Eye wr B g s' := ⟨_, _, _, hE⟩
    clear hE
    have HO := Lib.hid ho
    have HI := Lib.hid hit
    have HNS := Lib.hid hnest
    have HR := Lib.hid hr
    have hrN : gk < 18446744073709551616 := by omega
    clear ho hit hnest hr
    have fin : (gk = 0 ∨ s'.ov = true) → ∀ E, E = .returned V → ItPost 36 32 keyF id (fun _ _ _ => True) B g w (itemsP keyP N s) E wr := fun hx E hE => by
      obtain ⟨A, c, rfl⟩ := own_slice HO.out
      rw [items_end HI.out hx]
      exact ⟨A, c, l, hE, rfl, HO.out, HNS.out, he, hb⟩
    by_cases h0 : gk = 0
    · subst h0
      have F0 := Lib.hid (fin (.inl rfl))
      clear fin
      go_wp2
      go_ret
      exact F0.out _ rfl
    · cases hov : s'.ov with
      | true =>
        rw [eyeE_yes hov] at c1
        have F0 := Lib.hid (fin (.inr hov))
        clear fin
        go_wp2
        go_ret
        exact F0.out _ rfl
      | false =>
        rw [eyeE_no hov] at c1
        obtain ⟨r, rfl⟩ : ∃ r, gk = r + 1 := ⟨gk - 1, by omega⟩
        clear fin
        obtain ⟨x, s2, EX⟩ := pair_of (keyP s')
        go_upto_region 4 with (first | (go_at_call 46; (with_reducible refine (eyeKeyE he EX).mono ?_); rintro e w2 ⟨rfl, he2, hb2⟩; have HO2 := Lib.hid (hb2.row HO.out he.choose_spec.choose_spec.choose_spec.row (by decide))) | (refine wpList_add_el rfl rfl rfl rfl ELKey (by omega) (by simp [Act.eval, Act.put]) (BSKey x) rfl rfl HO2.out (fun i _ => keyF_one x i) (by have := HR.out; omega) (by have := HR.out; omega) (by have := hb.size; have := hb2.size; omega) ?_; intro v3 w3 ho3 hk3 hm3 hw3))
        have hlo := own_lo HO2.out
        have he3 := he2.kept hk3 (fun k hk => by have := hlo k hk; omega)
        have hb3 := (hb.trans hb2).kept hk3 hm3 hlo
        
        go_roundg r
        case measure => omega
        case rel =>
          refine ⟨l ++ [x], s2, v3, rfl, by go_num, by have := HR.out; simp; omega, ?_, he3, ?_, ?_, hb3⟩
          · rw [List.map_append]
            exact items_step HI.out hov EX
          · rw [List.length_append, cellsOf_snoc]
            exact ho3
          · exact fun _ _ => trivial
/-- A text's cell: where it lies. -/
structure Pl where
  l : List Nat
  A : Option Addr
  c : Nat
def plF (x : Pl) (_ : Nat) : Value := .slice x.A x.l.length x.c
def PlN (w : World) (base : Nat) (x : Pl) : Prop := Own w base 5 (.slice x.A x.l.length x.c) x.l
theorem ELBox : ElT Try.prog 22 23 1 24 := ⟨Try.underlying22, by kernel_rfl⟩
theorem BSBox (x : Pl) : Try.prog.builtSlice 23 1 [(0, .slice x.A x.l.length x.c)] = some (arrV 1 (plF x)) := by kernel_rfl
theorem eyeBoxE {B g : Nat} {l : List Nat} {s s' : Rs} {w : World} (h : Eye w B g s) (hE : boxP s = (l, s')) :
    Calls Try.prog 51 #[.pointer (some ⟨g, 0, none⟩)] w fun e w' => ∃ x : Pl, x.l = l ∧ e = .returned (.slice x.A x.l.length x.c) ∧ PlN w' w.heap.size x ∧ Eye w' B g s' ∧ But g w w' :=
  (eyeBox g s w h).mono fun e w' h => by
    rw [hE] at h
    obtain ⟨A, c, he, ho, h2, h3⟩ := h
    exact ⟨⟨l, A, c⟩, rfl, he, ho, h2, h3⟩
theorem PlN.but {B g base : Nat} {x : Pl} {w w' : World} {s : Rs} (h : PlN w base x) (hb : But g w w') (he : Eye w B g s) : PlN w' base x := by
  obtain ⟨_, _, _, k⟩ := he
  exact hb.row h k.row (by decide)
set_option maxRecDepth 100000 in
set_option maxHeartbeats 2000000 in
theorem itemsBox (N : Nat) (hN : N < 4398046511104) {B : Nat} (g : Nat) (s : Rs) (w : World) (h : Eye w B g s) :
    Calls Try.prog 50 #[.pointer (some ⟨g, 0, none⟩), .int .u64 N, .func (.func 51) #[.pointer (some ⟨g, 0, none⟩)] #[]] w (ItPost 23 1 plF Pl.l PlN B g w (itemsP boxP N s)) := by
  have hgl := h.lt
  go_enter Try.func50, Try.ntmps50
  go_wp2
  go_loopg [1, 6] N (fun r x v wr => ∃ (l : List Pl) (s' : Rs) (V : Value), V = v ∧ x = .int .u64 r ∧ r + l.length ≤ N ∧ itemsP boxP N s = (l.map Pl.l ++ (itemsP boxP r s').1, (itemsP boxP r s').2) ∧ Eye wr B g s' ∧ wr.ownsRow w.heap.size 23 1 V l.length (cellsOf 1 plF l) ∧ (∀ x ∈ l, PlN wr w.heap.size x) ∧ But g w wr)
  case atStart => exact ⟨[], s, _, rfl, rfl, Nat.le_refl _, rfl, h, ⟨rfl, .inl ⟨rfl, rfl⟩⟩, (fun x hx => by cases hx), But.refl _ _⟩
  case round =>
    clear h
    obtain ⟨l, s', V, rfl, rfl, hr, hit, he, ho, hnest, hb⟩ := hrel
    obtain ⟨A0, n0, c0', hE⟩ := he
    have c1 := hE.c1
    have he : Eye wr B g s' := ⟨_, _, _, hE⟩
    clear hE
    have HO := Lib.hid ho
    have HI := Lib.hid hit
    have HNS := Lib.hid hnest
    have HR := Lib.hid hr
    have hrN : gk < 18446744073709551616 := by omega
    clear ho hit hnest hr
    have fin : (gk = 0 ∨ s'.ov = true) → ∀ E, E = .returned V → ItPost 23 1 plF Pl.l PlN B g w (itemsP boxP N s) E wr := fun hx E hE => by
      obtain ⟨A, c, rfl⟩ := own_slice HO.out
      rw [items_end HI.out hx]
      exact ⟨A, c, l, hE, rfl, HO.out, HNS.out, he, hb⟩
    by_cases h0 : gk = 0
    · subst h0
      have F0 := Lib.hid (fin (.inl rfl))
      clear fin
      go_wp2
      go_ret
      exact F0.out _ rfl
    · cases hov : s'.ov with
      | true =>
        rw [eyeE_yes hov] at c1
        have F0 := Lib.hid (fin (.inr hov))
        clear fin
        go_wp2
        go_ret
        exact F0.out _ rfl
      | false =>
        rw [eyeE_no hov] at c1
        obtain ⟨r, rfl⟩ : ∃ r, gk = r + 1 := ⟨gk - 1, by omega⟩
        clear fin
        obtain ⟨x, s2, EX⟩ := pair_of (boxP s')
        go_upto_region 4 with (first | (go_at_call 51; (with_reducible refine (eyeBoxE he EX).mono ?_); rintro e w2 ⟨y, rfl, rfl, hny, he2, hb2⟩; have HO2 := Lib.hid (hb2.row HO.out he.choose_spec.choose_spec.choose_spec.row (by decide))) | (refine wpList_add_el rfl rfl rfl rfl ELBox (by omega) (by simp [Act.eval, Act.put]) (BSBox y) rfl rfl HO2.out (fun i _ => rfl) (by have := HR.out; omega) (by have := HR.out; omega) (by have := hb.size; have := hb2.size; omega) ?_; intro v3 w3 ho3 hk3 hm3 hw3))
        have hlo := own_lo HO2.out
        have he3 := he2.kept hk3 (fun k hk => by have := hlo k hk; omega)
        have hb3 := (hb.trans hb2).kept hk3 hm3 hlo
        
        go_roundg r
        case measure => omega
        case rel =>
          refine ⟨l ++ [y], s2, v3, rfl, by go_num, by have := HR.out; simp; omega, ?_, he3, ?_, ?_, hb3⟩
          · rw [List.map_append]
            exact items_step HI.out hov EX
          · rw [List.length_append, cellsOf_snoc]
            exact ho3
          · 
              intro z hz
              rcases List.mem_append.1 hz with hz | hz
              · exact own_kept ((HNS.out z hz).but hb2 he) HO2.out (by decide) hk3
              · obtain rfl : z = y := by simpa using hz
                exact own_kept (hny.mono (by have := hb.size; omega)) HO2.out (by decide) hk3
/-- A variable that points at the eye. -/
def EyeVar (w : World) (P g : Nat) : Prop := w.heap[P]? = some (.cells #[.pointer (some ⟨g, 0, none⟩)] 73 (0, 0))
theorem EyeVar.cell {w : World} {P g : Nat} (h : EyeVar w P g) : w.cell? ⟨P, 0, none⟩ = some (.pointer (some ⟨g, 0, none⟩)) := by rw [cell_of_row _ _ _ _ _ _ h]; rfl
def intF (x : Nat) (_ : Nat) : Value := .int .i64 (x : Int)
theorem ELInt : ElT Try.prog 24 3 1 8 := ⟨Try.underlying24, by kernel_rfl⟩
theorem BSInt (x : Nat) : Try.prog.builtSlice 3 1 [(0, .int .i64 (x : Int))] = some (arrV 1 (intF x)) := by kernel_rfl
set_option maxRecDepth 100000 in
theorem eyeOne {B g P x : Nat} {s s' : Rs} {w : World} (h : Eye w B g s) (hP : EyeVar w P g) (hE : numP 2 s = (x, s')) :
    Calls Try.prog 80 #[.pointer (some ⟨P, 0, none⟩)] w fun e w' => e = .returned (.int .i64 (x : Int)) ∧ Eye w' B g s' ∧ But g w w' := by
  have cP := hP.cell
  have lt := h.lt2 hE
  go_enter Try.func80, Try.ntmps80
  go_wp2_with (go_at_call 43; (with_reducible refine (eyeNum2 h hE).mono ?_); rintro e w2 ⟨rfl, he2, hb2⟩)
  go_ret
  exact ⟨rfl, he2, hb2⟩
set_option maxRecDepth 100000 in
set_option maxHeartbeats 2000000 in
theorem itemsInt (N : Nat) (hN : N < 65536) {B : Nat} (g : Nat) (P : Nat) (s : Rs) (w : World) (h : Eye w B g s) (hP : EyeVar w P g) (hPg : g < P) :
    Calls Try.prog 79 #[.pointer (some ⟨g, 0, none⟩), .int .u64 N, .func (.func 80) #[] #[.pointer (some ⟨P, 0, none⟩)]] w (ItPost 3 1 intF id (fun _ _ _ => True) B g w (itemsP (numP 2) N s)) := by
  have hgl := h.lt
  go_enter Try.func79, Try.ntmps79
  go_wp2
  go_loopg [1, 6] N (fun r x v wr => ∃ (l : List Nat) (s' : Rs) (V : Value), V = v ∧ x = .int .u64 r ∧ r + l.length ≤ N ∧ itemsP (numP 2) N s = (l.map id ++ (itemsP (numP 2) r s').1, (itemsP (numP 2) r s').2) ∧ Eye wr B g s' ∧ wr.ownsRow w.heap.size 3 1 V l.length (cellsOf 1 intF l) ∧ (∀ x ∈ l, (fun _ _ _ => True) wr w.heap.size x) ∧ But g w wr ∧ EyeVar wr P g)
  case atStart => exact ⟨[], s, _, rfl, rfl, Nat.le_refl _, rfl, h, ⟨rfl, .inl ⟨rfl, rfl⟩⟩, (fun x hx => by cases hx), But.refl _ _, hP⟩
  case round =>
    clear h
    obtain ⟨l, s', V, rfl, rfl, hr, hit, he, ho, hnest, hb, hPr⟩ := hrel
    obtain ⟨A0, n0, c0', hE⟩ := he
    have c1 := hE.c1
    have he : Eye wr B g s' := ⟨_, _, _, hE⟩
    clear hE
    have HO := Lib.hid ho
    have HI := Lib.hid hit
    have HNS := Lib.hid hnest
    have HR := Lib.hid hr
    have hrN : gk < 18446744073709551616 := by omega
    clear ho hit hnest hr
    have fin : (gk = 0 ∨ s'.ov = true) → ∀ E, E = .returned V → ItPost 3 1 intF id (fun _ _ _ => True) B g w (itemsP (numP 2) N s) E wr := fun hx E hE => by
      obtain ⟨A, c, rfl⟩ := own_slice HO.out
      rw [items_end HI.out hx]
      exact ⟨A, c, l, hE, rfl, HO.out, HNS.out, he, hb⟩
    by_cases h0 : gk = 0
    · subst h0
      have F0 := Lib.hid (fin (.inl rfl))
      clear fin
      go_wp2
      go_ret
      exact F0.out _ rfl
    · cases hov : s'.ov with
      | true =>
        rw [eyeE_yes hov] at c1
        have F0 := Lib.hid (fin (.inr hov))
        clear fin
        go_wp2
        go_ret
        exact F0.out _ rfl
      | false =>
        rw [eyeE_no hov] at c1
        obtain ⟨r, rfl⟩ : ∃ r, gk = r + 1 := ⟨gk - 1, by omega⟩
        clear fin
        obtain ⟨x, s2, EX⟩ := pair_of ((numP 2) s')
        go_upto_region 4 with (first | (go_at_call 80; (with_reducible refine (eyeOne he hPr EX).mono ?_); rintro e w2 ⟨rfl, he2, hb2⟩; have HO2 := Lib.hid (hb2.row HO.out he.choose_spec.choose_spec.choose_spec.row (by decide))) | (refine wpList_add_el rfl rfl rfl rfl ELInt (by omega) (by simp [Act.eval, Act.put]) (BSInt x) rfl rfl HO2.out (fun i _ => rfl) (by have := HR.out; omega) (by have := HR.out; omega) (by have := hb.size; have := hb2.size; omega) ?_; intro v3 w3 ho3 hk3 hm3 hw3))
        have hlo := own_lo HO2.out
        have he3 := he2.kept hk3 (fun k hk => by have := hlo k hk; omega)
        have hb3 := (hb.trans hb2).kept hk3 hm3 hlo
        have hP3 : EyeVar w3 P g := (hk3 P (by have := lt_of_block hP; have := hb.size; have := hb2.size; omega) (fun e => absurd (hlo P e) (by have := lt_of_block hP; omega))).trans (hb2.keep hPr (by omega))
        go_roundg r
        case measure => omega
        case rel =>
          refine ⟨l ++ [x], s2, v3, rfl, by go_num, by have := HR.out; simp; omega, ?_, he3, ?_, ?_, hb3, hP3⟩
          · rw [List.map_append]
            exact items_step HI.out hov EX
          · rw [List.length_append, cellsOf_snoc]
            exact ho3
          · exact fun _ _ => trivial
/-- A step, and where its numbers lie. -/
structure StM where
  p : PStep
  A : Option Addr
  c : Nat
def stepF (x : StM) (j : Nat) : Value := stepV (x.p.node : Int) ((x.p.frm : Int) - 1) x.A x.p.sd.length x.c j
theorem stepF_one (x : StM) (j : Nat) : (stepF x j).oneCell' = true := stepV_one _ _ _ _ _ _
def StN (w : World) (base : Nat) (x : StM) : Prop := w.ownsRow base 3 1 (.slice x.A x.p.sd.length x.c) x.p.sd.length (cellsOf 1 intF x.p.sd)
theorem ZVStep0 : ZeroV Try.prog 84 3 (arrV 3 (stepV 0 0 none 0 0)) := ⟨by kernel_rfl, by rw [arrV_size]⟩
theorem stepP_is {s s1 s2 s3 s4 : Rs} {nd fr n : Nat} {sd : List Nat} (h1 : numP 2 s = (nd, s1)) (h2 : numP 2 s1 = (fr, s2)) (h3 : numP 2 s2 = (n, s3)) (h4 : itemsP (numP 2) n s3 = (sd, s4)) : stepP' s = (⟨nd, fr, sd⟩, s4) := by
  unfold stepP'
  simp only [h1, h2, h3, h4]
set_option maxRecDepth 100000 in
set_option maxHeartbeats 2000000 in
theorem eyeStep {B : Nat} (g : Nat) (s : Rs) (w : World) (h : Eye w B g s) :
    Calls Try.prog 48 #[.pointer (some ⟨g, 0, none⟩)] w fun e w' => ∃ x : StM, x.p = (stepP' s).1 ∧ e = .returned (.agg (arrV 3 (stepF x))) ∧ StN w' w.heap.size x ∧ Eye w' B g (stepP' s).2 ∧ But g w w' := by
  obtain ⟨nd, s1, E1⟩ := pair_of (numP 2 s)
  obtain ⟨fr, s2, E2⟩ := pair_of (numP 2 s1)
  obtain ⟨n, s3, E3⟩ := pair_of (numP 2 s2)
  obtain ⟨sd, s4, E4⟩ := pair_of (itemsP (numP 2) n s3)
  rw [stepP_is E1 E2 E3 E4]
  have hgl' := h.lt
  have hgl : g < w.heap.size + 1 := by omega
  go_enter Try.func48, Try.ntmps48
  go_upto_region 1 with (refine wpList_alloc_v rfl rfl ZVStep0 ?_)
  obtain ⟨hP0, hq0, hsz, hb0⟩ := alloc2 w (.cells #[.pointer (some ⟨g, 0, none⟩)] 73) (.cells (arrV 3 (stepV 0 0 none 0 0)) 84)
  refine wp_cut (fun x => x.heap[w.heap.size + 1]? = some (.cells (arrV 3 (stepV 0 0 none 0 0)) 84 (0, 0)) ∧ EyeVar x w.heap.size g ∧ Eye x B g s ∧ But g w x) ⟨hq0, hP0, h.after hb0, But.of_below hb0⟩ ?_
  clear hP0 hq0 hsz hb0 h
  rintro w1 ⟨hq, hPv, he, hb⟩
  (try simp only [Act.put, List.setIfInBounds_toArray, List.set_cons_zero, List.set_cons_succ])
  have cP := hPv.cell
  go_upto_region 2 with (go_at_call 43; have lt := he.lt2 E1; (with_reducible refine (eyeNum2 he E1).mono ?_); rintro e w2 ⟨rfl, he2, hb2⟩; have hq2 := hb2.keep hq (by omega); have hP2 := hb2.keep hPv (by omega); have c2 := cell_arrV hq2 0 (by omega); have f2 := frozen_of_row w2 (w.heap.size + 1) 0 _ _ hq2)
  replace he := he2.setOther hgl 0 (.int .i64 (nd : Int))
  replace hb := (hb.trans hb2).setNew (q := w.heap.size + 1) (by omega) 0 (.int .i64 (nd : Int))
  replace hq := set_arrV (i := 0) hq2 (.int .i64 (nd : Int))
  replace hPv : EyeVar (w2.setCell ⟨w.heap.size + 1, 0, none⟩ (.int .i64 (nd : Int))) w.heap.size g := (heap_setCell_other _ _ _ _ (show w.heap.size ≠ w.heap.size + 1 by omega)).trans hP2
  clear hq2 c2 f2 he2 hb2 hP2 cP
  generalize w2.setCell ⟨w.heap.size + 1, 0, none⟩ (.int .i64 (nd : Int)) = w3 at *
  clear w2
  (try simp only [Act.put, List.setIfInBounds_toArray, List.set_cons_zero, List.set_cons_succ])
  have cP := hPv.cell
  clear w1
  go_upto_region 3 with (go_at_call 43; have lt2 := he.lt2 E2; (with_reducible refine (eyeNum2 he E2).mono ?_); rintro e w2 ⟨rfl, he2, hb2⟩; have hq2 := hb2.keep hq (by omega); have hP2 := hb2.keep hPv (by omega); have c2 := cell_arrV hq2 1 (by omega); have f2 := frozen_of_row w2 (w.heap.size + 1) 1 _ _ hq2)
  replace he := he2.setOther hgl 1 (.int .i64 ((fr : Int) - 1))
  replace hb := (hb.trans hb2).setNew (q := w.heap.size + 1) (by omega) 1 (.int .i64 ((fr : Int) - 1))
  replace hq := set_arrV (i := 1) hq2 (.int .i64 ((fr : Int) - 1))
  replace hPv : EyeVar (w2.setCell ⟨w.heap.size + 1, 1, none⟩ (.int .i64 ((fr : Int) - 1))) w.heap.size g := (heap_setCell_other _ _ _ _ (show w.heap.size ≠ w.heap.size + 1 by omega)).trans hP2
  clear hq2 c2 f2 he2 hb2 hP2 cP
  generalize w2.setCell ⟨w.heap.size + 1, 1, none⟩ (.int .i64 ((fr : Int) - 1)) = w4 at *
  clear w2
  (try simp only [Act.put, List.setIfInBounds_toArray, List.set_cons_zero, List.set_cons_succ])
  have cP := hPv.cell
  clear w3
  go_upto_region 4 with (go_at_call 43; have lt3 := he.lt2 E3; (with_reducible refine (eyeNum2 he E3).mono ?_); rintro e w2 ⟨rfl, he2, hb2⟩; have hq2 := hb2.keep hq (by omega); have hP2 := hb2.keep hPv (by omega))
  replace hb := hb.trans hb2
  clear hq hPv he hb2 w4 cP
  (try simp only [Act.put, List.setIfInBounds_toArray, List.set_cons_zero, List.set_cons_succ])
  replace hP2 : EyeVar w2 w.heap.size g := hP2
  have cP := EyeVar.cell hP2
  have hPl := lt_of_block hP2
  have hql := lt_of_block hq2
  go_upto_region 5 with (go_at_call 79; (with_reducible refine (itemsInt n (by omega) g w.heap.size s3 _ he2 hP2 (by omega)).mono ?_); rw [E4]; rintro e w3 ⟨A, c, l, rfl, hml, ho, -, he3, hb3⟩; obtain rfl : l = sd := (List.map_id l).symm.trans hml; have hq3 := hb3.keep hq2 (by omega); have c3 := cell_arrV hq3 2 (by omega); have f3 := frozen_of_row w3 (w.heap.size + 1) 2 _ _ hq3)
  replace he := he3.setOther hgl 2 (.slice A l.length c)
  replace ho := own_set (i := 2) (u := .slice A l.length c) ho hq3 (by decide)
  replace hb := (hb.trans hb3).setNew (q := w.heap.size + 1) (by omega) 2 (.slice A l.length c)
  have hbs := hb.size
  replace hq := set_arrV (i := 2) hq3 (.slice A l.length c)
  rw [show (arrV 3 (upd (upd (upd (stepV 0 0 none 0 0) 0 (.int .i64 (nd : Int))) 1 (.int .i64 ((fr : Int) - 1))) 2 (.slice A l.length c))) = arrV 3 (stepF ⟨⟨nd, fr, l⟩, A, c⟩) from arrV_ext fun i hi => by
    unfold upd stepF stepV
    by_cases h0 : i = 0
    · subst h0; rfl
    · by_cases h1 : i = 1
      · subst h1; rfl
      · obtain rfl : i = 2 := by omega
        rfl] at hq
  clear hq3 c3 f3 he3 hb3 hP2 cP hq2
  generalize w3.setCell ⟨w.heap.size + 1, 2, none⟩ (.slice A l.length c) = w5 at *
  (try simp only [Act.put, List.setIfInBounds_toArray, List.set_cons_zero, List.set_cons_succ])
  go_wp2_with (first | (refine wpList_load_all rfl rfl RTStep rfl hq ?_) | (refine wpList_store_v rfl rfl RTStep rfl rfl hq (fun i _ => stepF_one _ i) ?_))
  refine bodyPost_ret (results_v rfl rfl RTStep (row_self hq)) rfl ⟨⟨⟨nd, fr, l⟩, A, c⟩, rfl, rfl, own_mono (own_setRow ho hq (by decide)) (by omega), he.but (But.row1 _) hgl, hb.newRow (by omega)⟩
theorem eyeStepE {B g : Nat} {p : PStep} {s s' : Rs} {w : World} (h : Eye w B g s) (hE : stepP' s = (p, s')) :
    Calls Try.prog 48 #[.pointer (some ⟨g, 0, none⟩)] w fun e w' => ∃ x : StM, x.p = p ∧ e = .returned (.agg (arrV 3 (stepF x))) ∧ StN w' w.heap.size x ∧ Eye w' B g s' ∧ But g w w' := by
  have := eyeStep g s w h
  rw [hE] at this
  exact this
theorem StN.but {B g base : Nat} {x : StM} {w w' : World} {s : Rs} (h : StN w base x) (hb : But g w w') (he : Eye w B g s) : StN w' base x := by
  obtain ⟨_, _, _, k⟩ := he
  exact hb.row h k.row (by decide)
theorem ELStep : ElT Try.prog 37 84 3 40 := ⟨Try.underlying37, by kernel_rfl⟩
theorem BSStep (x : StM) : Try.prog.builtSlice 84 1 [(0, .agg (arrV 3 (stepF x)))] = some (arrV 3 (stepF x)) := by kernel_rfl
set_option maxRecDepth 100000 in
set_option maxHeartbeats 2000000 in
theorem itemsStep (N : Nat) (hN : N < 65536) {B : Nat} (g : Nat) (s : Rs) (w : World) (h : Eye w B g s) :
    Calls Try.prog 47 #[.pointer (some ⟨g, 0, none⟩), .int .u64 N, .func (.func 48) #[.pointer (some ⟨g, 0, none⟩)] #[]] w (ItPost 84 3 stepF StM.p StN B g w (itemsP stepP' N s)) := by
  have hgl := h.lt
  go_enter Try.func47, Try.ntmps47
  go_wp2
  go_loopg [1, 6] N (fun r x v wr => ∃ (l : List StM) (s' : Rs) (V : Value), V = v ∧ x = .int .u64 r ∧ r + l.length ≤ N ∧ itemsP stepP' N s = (l.map StM.p ++ (itemsP stepP' r s').1, (itemsP stepP' r s').2) ∧ Eye wr B g s' ∧ wr.ownsRow w.heap.size 84 3 V l.length (cellsOf 3 stepF l) ∧ (∀ x ∈ l, StN wr w.heap.size x) ∧ But g w wr)
  case atStart => exact ⟨[], s, _, rfl, rfl, Nat.le_refl _, rfl, h, ⟨rfl, .inl ⟨rfl, rfl⟩⟩, (fun x hx => by cases hx), But.refl _ _⟩
  case round =>
    clear h
    obtain ⟨l, s', V, rfl, rfl, hr, hit, he, ho, hnest, hb⟩ := hrel
    obtain ⟨A0, n0, c0', hE⟩ := he
    have c1 := hE.c1
    have he : Eye wr B g s' := ⟨_, _, _, hE⟩
    clear hE
    have HO := Lib.hid ho
    have HI := Lib.hid hit
    have HNS := Lib.hid hnest
    have HR := Lib.hid hr
    have hrN : gk < 18446744073709551616 := by omega
    clear ho hit hnest hr
    have fin : (gk = 0 ∨ s'.ov = true) → ∀ E, E = .returned V → ItPost 84 3 stepF StM.p StN B g w (itemsP stepP' N s) E wr := fun hx E hE => by
      obtain ⟨A, c, rfl⟩ := own_slice HO.out
      rw [items_end HI.out hx]
      exact ⟨A, c, l, hE, rfl, HO.out, HNS.out, he, hb⟩
    by_cases h0 : gk = 0
    · subst h0
      have F0 := Lib.hid (fin (.inl rfl))
      clear fin
      go_wp2
      go_ret
      exact F0.out _ rfl
    · cases hov : s'.ov with
      | true =>
        rw [eyeE_yes hov] at c1
        have F0 := Lib.hid (fin (.inr hov))
        clear fin
        go_wp2
        go_ret
        exact F0.out _ rfl
      | false =>
        rw [eyeE_no hov] at c1
        obtain ⟨r, rfl⟩ : ∃ r, gk = r + 1 := ⟨gk - 1, by omega⟩
        clear fin
        obtain ⟨x, s2, EX⟩ := pair_of (stepP' s')
        go_upto_region 4 with (first | (go_at_call 48; (with_reducible refine (eyeStepE he EX).mono ?_); rintro e w2 ⟨y, rfl, rfl, hny, he2, hb2⟩; have HO2 := Lib.hid (hb2.row HO.out he.choose_spec.choose_spec.choose_spec.row (by decide))) | (refine wpList_add_el rfl rfl rfl rfl ELStep (by omega) (by simp [Act.eval, Act.put]) (BSStep y) rfl rfl HO2.out (fun i _ => stepF_one _ i) (by have := HR.out; omega) (by have := HR.out; omega) (by have := hb.size; have := hb2.size; omega) ?_; intro v3 w3 ho3 hk3 hm3 hw3))
        have hlo := own_lo HO2.out
        have he3 := he2.kept hk3 (fun k hk => by have := hlo k hk; omega)
        have hb3 := (hb.trans hb2).kept hk3 hm3 hlo
        
        go_roundg r
        case measure => omega
        case rel =>
          refine ⟨l ++ [y], s2, v3, rfl, by go_num, by have := HR.out; simp; omega, ?_, he3, ?_, ?_, hb3⟩
          · rw [List.map_append]
            exact items_step HI.out hov EX
          · rw [List.length_append, cellsOf_snoc]
            exact ho3
          · 
              intro z hz
              rcases List.mem_append.1 hz with hz | hz
              · exact own_kept ((HNS.out z hz).but hb2 he) HO2.out (by decide) hk3
              · obtain rfl : z = y := by simpa using hz
                exact own_kept (own_mono hny (by have := hb.size; omega)) HO2.out (by decide) hk3
end Go.Proofs.Yteefhbpmeajbfaa
namespace Go.Proofs.Yteefhbpmeajbfaa
set_option linter.unusedSimpArgs false
set_option linter.unusedVariables false
attribute [local irreducible] beL beK
structure PFr where
  ep : Nat
  frm : Nat
  gen : Nat
  box : List Nat
def restP (s : Rs) : List Nat × Rs := cutP s.l.length s
def frRaw : Rs → (Nat × Nat × Nat × List Nat) × Rs := thenP (numP 8) fun _ => thenP (numP 4) fun _ => thenP (numP 8) fun _ => restP
def frP (s : Rs) : PFr × Rs := (⟨(frRaw s).1.1, (frRaw s).1.2.1, (frRaw s).1.2.2.1, (frRaw s).1.2.2.2⟩, (frRaw s).2)
theorem frP_is {s s1 s2 s3 s4 : Rs} {ep fr ge : Nat} {b : List Nat} (h1 : numP 8 s = (ep, s1)) (h2 : numP 4 s1 = (fr, s2)) (h3 : numP 8 s2 = (ge, s3)) (h4 : cutP s3.l.length s3 = (b, s4)) : frP s = (⟨ep, fr, ge, b⟩, s4) := by
  have e : frRaw s = ((ep, fr, ge, b), s4) := by
    unfold frRaw
    simp only [thenP, restP, h1, h2, h3, h4]
  unfold frP
  rw [e]
/-- What bytes are, as a frame, or why not. -/
def frV (l : List Nat) : PFr × Int :=
  if 1048576 < l.length then (⟨0, 0, 0, []⟩, 4) else if (numP 1 ⟨l, false⟩).1 ≠ 3 then (⟨0, 0, 0, []⟩, 3)
  else if (frP (numP 1 ⟨l, false⟩).2).2.ov = false ∧ MayF ((frP (numP 1 ⟨l, false⟩).2).1.ep : Int) ((frP (numP 1 ⟨l, false⟩).2).1.frm : Int) ((frP (numP 1 ⟨l, false⟩).2).1.gen : Int) (frP (numP 1 ⟨l, false⟩).2).1.box.length then ((frP (numP 1 ⟨l, false⟩).2).1, 0) else (⟨0, 0, 0, []⟩, 3)
structure PWl where
  tw : Nat
  c : List Nat
  t : List Nat
  b : List Nat
def txP (s : Rs) : List Nat × Rs := cutP (numP 4 s).1 (numP 4 s).2
theorem txP_is {s s1 s2 : Rs} {n : Nat} {l : List Nat} (h1 : numP 4 s = (n, s1)) (h2 : cutP n s1 = (l, s2)) : txP s = (l, s2) := by
  unfold txP
  simp only [h1, h2]
def wlRaw : Rs → (Nat × List Nat × List Nat × List Nat) × Rs := thenP (numP 4) fun _ => thenP txP fun _ => thenP txP fun _ => txP
def wlP (s : Rs) : PWl × Rs := (⟨(wlRaw s).1.1, (wlRaw s).1.2.1, (wlRaw s).1.2.2.1, (wlRaw s).1.2.2.2⟩, (wlRaw s).2)
theorem wlP_is {s s1 s2 s3 s4 : Rs} {tw : Nat} {c t b : List Nat} (h1 : numP 4 s = (tw, s1)) (h2 : txP s1 = (c, s2)) (h3 : txP s2 = (t, s3)) (h4 : txP s3 = (b, s4)) : wlP s = (⟨tw, c, t, b⟩, s4) := by
  have e : wlRaw s = ((tw, c, t, b), s4) := by
    unfold wlRaw
    simp only [thenP, h1, h2, h3, h4]
  unfold wlP
  rw [e]
/-- What bytes are, as a welcome, or why not. -/
def wlV (l : List Nat) : PWl × Int :=
  if 1048576 < l.length then (⟨0, [], [], []⟩, 4) else if (numP 1 ⟨l, false⟩).1 ≠ 2 then (⟨0, [], [], []⟩, 3)
  else if (wlP (numP 1 ⟨l, false⟩).2).2.ov = false ∧ (wlP (numP 1 ⟨l, false⟩).2).2.l.length = 0 ∧ MayW ((wlP (numP 1 ⟨l, false⟩).2).1.tw : Int) (wlP (numP 1 ⟨l, false⟩).2).1.c.length (wlP (numP 1 ⟨l, false⟩).2).1.t.length (wlP (numP 1 ⟨l, false⟩).2).1.b.length then ((wlP (numP 1 ⟨l, false⟩).2).1, 0) else (⟨0, [], [], []⟩, 3)
/-- A commit of what was read, and of where its parts lie. -/
structure At where
  PA : Option Addr
  pc : Nat
  SA : Option Addr
  sc : Nat
  DA : Nat → Option Addr
  dc : Nat → Nat
  KA : Option Addr
  kc : Nat
  BA : Option Addr
  bc : Nat
  XA : Nat → Option Addr
  xc : Nat → Nat
def zP : PProp := ⟨0, 0, fun _ => 0⟩
def zS : PStep := ⟨0, 0, []⟩
def comOf (p : PCom) (a : At) : Com where
  ep := p.ep
  by_ := p.by_
  PA := a.PA
  pn := p.props.length
  pc := a.pc
  kind := fun i => ((p.props.getD i zP).kind : Int)
  id := fun i => ((p.props.getD i zP).id : Int)
  ppt := fun i => (p.props.getD i zP).pt
  pt := p.pt
  SA := a.SA
  sn := p.steps.length
  sc := a.sc
  node := fun i => ((p.steps.getD i zS).node : Int)
  frm := fun i => ((p.steps.getD i zS).frm : Int) - 1
  DA := a.DA
  dn := fun i => (p.steps.getD i zS).sd.length
  dc := a.dc
  dv := fun i j => (((p.steps.getD i zS).sd.getD j 0 : Nat) : Int)
  KA := a.KA
  kn := p.new.length
  kc := a.kc
  key := fun i => p.new.getD i (fun _ => 0)
  BA := a.BA
  bn := p.boxes.length
  bc := a.bc
  XA := a.XA
  xn := fun i => (p.boxes.getD i []).length
  xc := a.xc
  bx := fun i => p.boxes.getD i []
def noAt : At := ⟨none, 0, none, 0, fun _ => none, fun _ => 0, none, 0, none, 0, fun _ => none, fun _ => 0⟩
def OkP (p : PCom) : Prop := OkCom (comOf p noAt)
instance (p : PCom) : Decidable (OkP p) := by unfold OkP; infer_instance
theorem sends_at (p : PCom) (a b : At) : ∀ k, sends (comOf p a) k = sends (comOf p b) k
  | 0 => rfl
  | k + 1 => by unfold sends; rw [sends_at p a b k]; rfl
theorem ok_at (p : PCom) (a : At) : OkCom (comOf p a) ↔ OkP p := by
  unfold OkP OkCom
  rw [sends_at p a noAt]
  exact Iff.rfl
def noCom : PCom := ⟨0, 0, [], fun _ => 0, [], [], [], fun _ => 0⟩
/-- What bytes are, as a commit, or why not. -/
def cmV (l : List Nat) : PCom × Int :=
  if 1048576 < l.length then (noCom, 4) else if (numP 1 ⟨l, false⟩).1 ≠ 1 then (noCom, 3)
  else if (comP (numP 1 ⟨l, false⟩).2).2.ov = false ∧ (comP (numP 1 ⟨l, false⟩).2).2.l.length = 0 ∧ OkP (comP (numP 1 ⟨l, false⟩).2).1 then ((comP (numP 1 ⟨l, false⟩).2).1, 0) else (noCom, 3)

/-! ### How long what was read is -/
/-- What was read is not longer than what was there, but for what was missing. -/
structure Sl {α : Type} (f : Rs → α × Rs) (g : α → List Nat) (k : Nat) : Prop where
  all : ∀ s, (g (f s).1).length + (f s).2.l.length ≤ s.l.length + k
  ok : ∀ s, (f s).2.ov = false → (g (f s).1).length + (f s).2.l.length ≤ s.l.length
section
variable {α β : Type} {f : Rs → α × Rs} {g : α → List Nat}
theorem sl_num (k : Nat) : Sl (numP k) (beL k) k where
  all := fun s => by
    rw [beL_len]
    unfold numP cutP
    split
    · dsimp only; omega
    · dsimp only; rw [List.length_drop]; omega
  ok := fun s h => by
    rw [beL_len]
    unfold numP cutP at *
    split at h
    · cases h
    · rw [if_neg (by assumption)]; dsimp only; rw [List.length_drop]; omega
theorem sl_cut (n : Nat) : Sl (cutP n) (fun l => l) 0 where
  all := fun s => by
    unfold cutP
    split
    · simp
    · simp; omega
  ok := fun s h => by
    unfold cutP
    split
    · simp
    · simp; omega
theorem sl_key : Sl keyP keyL 32 where
  all := fun s => by
    rw [keyL_len]
    unfold keyP cutP
    split
    · dsimp only; omega
    · dsimp only; rw [List.length_drop]; omega
  ok := fun s h => by
    rw [keyL_len]
    unfold keyP cutP at *
    split at h
    · cases h
    · rw [if_neg (by assumption)]; dsimp only; rw [List.length_drop]; omega
theorem sl_items {k : Nat} (h : Sl f g k) : ∀ n, Sl (itemsP f n) (fun l => l.flatMap g) k
  | 0 => ⟨fun s => by simp [itemsP], fun s _ => by simp [itemsP]⟩
  | n + 1 => by
    have ih := sl_items h n
    refine ⟨fun s => ?_, fun s hs => ?_⟩
    · unfold itemsP
      split
      · simp
      · have a := h.all s
        have b := ih.all (f s).2
        dsimp only
        rw [List.flatMap_cons, List.length_append]
        cases e : (f s).2.ov with
        | false => have := h.ok s e; omega
        | true => rw [items_over f n _ e] at b ⊢; simp; omega
    · unfold itemsP at *
      split at hs
      · rw [if_pos (by assumption)]; simp
      · rw [if_neg (by assumption)]
        dsimp only at hs ⊢
        have b := ih.ok (f s).2 hs
        rw [List.flatMap_cons, List.length_append]
        cases e : (f s).2.ov with
        | false => have := h.ok s e; omega
        | true => rw [items_over f n _ e] at hs; rw [e] at hs; cases hs
theorem sl_then {k m : Nat} {h : α → Rs → β × Rs} {g2 : α → β → List Nat} (h1 : Sl f g k) (hr : ∀ s, s.ov = true → ∀ a, (h a s).2.ov = true) (h2 : ∀ a, Sl (h a) (g2 a) m) : Sl (thenP f h) (fun x => g x.1 ++ g2 x.1 x.2) (k + m) where
  all := fun s => by
    have a := h1.all s
    have b := (h2 (f s).1).all (f s).2
    unfold thenP
    dsimp only
    rw [List.length_append]
    omega
  ok := fun s hs => by
    unfold thenP at *
    dsimp only at *
    have b := (h2 (f s).1).ok (f s).2 hs
    rw [List.length_append]
    cases e : (f s).2.ov with
    | false => have := h1.ok s e; omega
    | true => rw [hr _ e] at hs; cases hs
end
section
theorem sl_prop : Sl propP PProp.L 37 :=
  have h : Sl (thenP (numP 1) fun _ => thenP (numP 4) fun _ => keyP) _ (1 + (4 + 32)) := sl_then (sl_num 1) (fun s hs _ => (rw_then (rw_num 4) fun _ => rw_key).over s hs) fun _ => sl_then (sl_num 4) (fun s hs _ => rw_key.over s hs) fun _ => sl_key
  ⟨fun s => h.all s, fun s hs => h.ok s hs⟩
theorem sl_list {α : Type} {f : Rs → α × Rs} {g : α → List Nat} {k : Nat} (h : Sl f g k) (ho : ∀ s, s.ov = true → (f s).2.ov = true) (W : Nat) : Sl (listP W f) (fun l => beL W l.length ++ l.flatMap g) (W + k) where
  all := fun s => by
    have a := (sl_num W).all s
    have b := (sl_items h (numP W s).1).all (numP W s).2
    unfold listP
    rw [beL_len] at a
    rw [List.length_append, beL_len]
    omega
  ok := fun s hs => by
    unfold listP at *
    have b := (sl_items h (numP W s).1).ok (numP W s).2 hs
    rw [List.length_append, beL_len]
    cases e : (numP W s).2.ov with
    | false => have a := (sl_num W).ok s e; rw [beL_len] at a; omega
    | true => rw [items_over f _ _ e, e] at hs; cases hs
theorem sl_step : Sl stepP' PStep.L 8 :=
  have h : Sl (thenP (numP 2) fun _ => thenP (numP 2) fun _ => listP 2 (numP 2)) _ (2 + (2 + (2 + 2))) := sl_then (sl_num 2) (fun s hs _ => (rw_then (rw_num 2) fun _ => rw_list (rw_num 2) 2).over s hs) fun _ => sl_then (sl_num 2) (fun s hs _ => (rw_list (rw_num 2) 2).over s hs) fun _ => sl_list (sl_num 2) (rw_num 2).over 2
  ⟨fun s => h.all s, fun s hs => h.ok s hs⟩
theorem sl_box : Sl boxP (fun l => beL 2 l.length ++ l) 2 where
  all := fun s => by
    have a := (sl_num 2).all s
    have b := (sl_cut (numP 2 s).1).all (numP 2 s).2
    unfold boxP
    rw [beL_len] at a
    rw [List.length_append, beL_len]
    omega
  ok := fun s hs => by
    unfold boxP at *
    have b := (sl_cut (numP 2 s).1).ok (numP 2 s).2 hs
    rw [List.length_append, beL_len]
    cases e : (numP 2 s).2.ov with
    | false => have a := (sl_num 2).ok s e; rw [beL_len] at a; omega
    | true => rw [(rw_cut _).over _ e] at hs; cases hs
end
theorem flat_getD {α : Type} (z : α) (G : α → List Nat) : ∀ (l : List α) (n : Nat), n = l.length → ((List.range n).flatMap fun i => G (l.getD i z)) = l.flatMap G
  | [], n, h => by subst h; rfl
  | x :: l, n, h => by
    subst h
    rw [List.length_cons, List.range_succ_eq_map, List.flatMap_cons, List.flatMap_cons, List.flatMap_map]
    congr 1
    exact flat_getD z G l l.length rfl
theorem sl_com : Sl comP PCom.L 159 := by
  have h : Sl comRaw _ (8 + (4 + ((2 + 37) + (32 + ((2 + 8) + (32 + (2 + 32))))))) :=
    sl_then (sl_num 8) (fun s hs _ => (rw_then (rw_num 4) fun _ => rw_then (rw_list rw_prop 2) fun _ => rw_then rw_key fun _ => rw_then (rw_list rw_step 2) fun (st : List PStep) => rw_then (rw_items rw_key st.length) fun _ => rw_then (rw_items rw_box (sendsP st)) fun _ => rw_key).over s hs) fun _ =>
    sl_then (sl_num 4) (fun s hs _ => (rw_then (rw_list rw_prop 2) fun _ => rw_then rw_key fun _ => rw_then (rw_list rw_step 2) fun (st : List PStep) => rw_then (rw_items rw_key st.length) fun _ => rw_then (rw_items rw_box (sendsP st)) fun _ => rw_key).over s hs) fun _ =>
    sl_then (g := fun l => beL 2 l.length ++ l.flatMap PProp.L) (sl_list sl_prop rw_prop.over 2) (fun s hs _ => (rw_then rw_key fun _ => rw_then (rw_list rw_step 2) fun (st : List PStep) => rw_then (rw_items rw_key st.length) fun _ => rw_then (rw_items rw_box (sendsP st)) fun _ => rw_key).over s hs) fun _ =>
    sl_then sl_key (fun s hs _ => (rw_then (rw_list rw_step 2) fun (st : List PStep) => rw_then (rw_items rw_key st.length) fun _ => rw_then (rw_items rw_box (sendsP st)) fun _ => rw_key).over s hs) fun _ =>
    sl_then (g := fun l => beL 2 l.length ++ l.flatMap PStep.L) (sl_list sl_step rw_step.over 2) (fun s hs (st : List PStep) => (rw_then (rw_items rw_key st.length) fun _ => rw_then (rw_items rw_box (sendsP st)) fun _ => rw_key).over s hs) fun (st : List PStep) =>
    sl_then (sl_items sl_key st.length) (fun s hs _ => (rw_then (rw_items rw_box (sendsP st)) fun _ => rw_key).over s hs) fun _ =>
    sl_then (sl_items sl_box (sendsP st)) (fun s hs _ => rw_key.over s hs) fun _ => sl_key
  refine ⟨fun s => ?_, fun s hs => ?_⟩
  · have := h.all s
    unfold comP PCom.L
    generalize comRaw s = r at this ⊢
    exact this
  · have := h.ok s hs
    unfold comP PCom.L
    generalize comRaw s = r at this ⊢
    exact this
theorem len_flat {α : Type} (G : α → List Nat) (l : List α) (h : ∀ x ∈ l, 1 ≤ (G x).length) : l.length ≤ (l.flatMap G).length := by
  induction l with
  | nil => simp
  | cons x l ih =>
    rw [List.flatMap_cons, List.length_append, List.length_cons]
    have := h x (by simp)
    have := ih fun y hy => h y (by simp [hy])
    omega
theorem len_mem {α : Type} (G : α → List Nat) (l : List α) (x : α) (h : x ∈ l) : (G x).length ≤ (l.flatMap G).length := by
  induction l with
  | nil => cases h
  | cons y l ih =>
    rw [List.flatMap_cons, List.length_append]
    rcases List.mem_cons.1 h with rfl | h
    · omega
    · have := ih h
      omega
/-- A commit's text is its head, and its tag. -/
theorem com_L (p : PCom) (a : At) : comL (comOf p a) ++ keyL p.tag = [1] ++ p.L := by
  have e1 : propsL (comOf p a) (comOf p a).pn = p.props.flatMap PProp.L := by
    unfold propsL
    rw [← flat_getD zP PProp.L p.props _ rfl]
    rfl
  have e2 : stepsL (comOf p a) (comOf p a).sn = p.steps.flatMap PStep.L := by
    unfold stepsL
    rw [← flat_getD zS PStep.L p.steps _ rfl]
    congr 1
    funext i
    unfold stepL PStep.L sendL
    show beL 2 _ ++ (beL 2 (((p.steps.getD i zS).frm : Int) - 1 + 1).toNat ++ (beL 2 _ ++ _)) = _
    rw [show (((p.steps.getD i zS).frm : Int) - 1 + 1).toNat = (p.steps.getD i zS).frm by omega]
    congr 3
    exact flat_getD 0 (beL 2) (p.steps.getD i zS).sd _ rfl
  have e3 : keysL (comOf p a) (comOf p a).kn = p.new.flatMap keyL := by
    unfold keysL
    exact flat_getD (fun _ => 0) keyL p.new _ rfl
  have e4 : boxesL (comOf p a) (comOf p a).bn = p.boxes.flatMap (fun l => beL 2 l.length ++ l) := by
    unfold boxesL
    exact flat_getD [] (fun l => beL 2 l.length ++ l) p.boxes _ rfl
  unfold comL PCom.L
  rw [e1, e2, e3, e4]
  show [1] ++ beL 8 p.ep ++ beL 4 ((p.by_ : Nat) : Int).toNat ++ (beL 2 p.props.length ++ _) ++ keyL p.pt ++ (beL 2 p.steps.length ++ _) ++ _ ++ _ ++ keyL p.tag = _
  rw [Int.toNat_natCast]
  simp only [List.append_assoc]
theorem mid_of (p : PCom) (a : At) (h : p.L.length ≤ 1048575) : MidC (comOf p a) := by
  have hl := congrArg List.length (com_L p a)
  rw [List.length_append, List.length_append, keyL_len] at hl
  have h0 := h
  unfold PCom.L at h0
  simp only [List.length_append] at h0
  have a1 := len_flat PProp.L p.props fun x _ => by unfold PProp.L; rw [List.length_append, beL_len]; omega
  have a2 := len_flat PStep.L p.steps fun x _ => by unfold PStep.L; rw [List.length_append, beL_len]; omega
  have a3 := len_flat keyL p.new fun x _ => by rw [keyL_len]; omega
  have a4 := len_flat (fun l => beL 2 l.length ++ l) p.boxes fun x _ => by rw [List.length_append, beL_len]; omega
  refine ⟨fun i hi => ?_, ?_, ?_, ?_, ?_, fun _ _ => ?_⟩
  · have hi' : i < p.steps.length := hi
    have b := len_mem PStep.L p.steps p.steps[i] (List.getElem_mem hi')
    have c : p.steps[i].sd.length ≤ (PStep.L p.steps[i]).length := by
      have := len_flat (beL 2) p.steps[i].sd fun x _ => by rw [beL_len]; omega
      unfold PStep.L
      simp only [List.length_append]
      omega
    show (p.steps.getD i zS).sd.length ≤ _
    rw [List.getD_eq_getElem?_getD, List.getElem?_eq_getElem hi']
    show p.steps[i].sd.length ≤ _
    omega
  · show p.props.length ≤ _; omega
  · show p.steps.length ≤ _; omega
  · show p.new.length ≤ _; omega
  · show p.boxes.length ≤ _; omega
  · simp only [List.length_cons, List.length_nil] at hl
    omega
end Go.Proofs.Yteefhbpmeajbfaa
namespace Go.Proofs.Yteefhbpmeajbfaa
set_option linter.unusedSimpArgs false
set_option linter.unusedVariables false
open Go.RowKit
attribute [local irreducible] beL beK
/-- A text that is read. -/
structure Src (w : World) (B : Nat) (A : Option Addr) (n c : Nat) (l : List Nat) : Prop where
  low : B ≤ w.heap.size
  txt : Txt w B A n c l
  cap : n ≤ c
  len : n ≤ 140737488355328
  byt : Byt l
theorem Src.eye {w : World} {B : Nat} {A : Option Addr} {n c : Nat} {l : List Nat} (h : Src w B A n c l) : Eye (w.alloc (.cells #[.slice A n c, .int .i64 0] 90)) B w.heap.size ⟨l, false⟩ :=
  ⟨A, n, c, heap_alloc_new w _, h.low, h.txt.below' ((Below.refl _ _).alloc (Nat.le_refl _) _) h.low, h.cap, h.len, h.byt⟩
theorem Src.after {w w' : World} {B : Nat} {A : Option Addr} {n c : Nat} {l : List Nat} (h : Src w B A n c l) (hb : Below w.heap.size w w') : Src w' B A n c l :=
  ⟨Nat.le_trans h.low hb.size, h.txt.below' hb h.low, h.cap, h.len, h.byt⟩
theorem numP_ne {K : Nat} {s s' : Rs} (hK : K ≠ 0) {k : Nat} (h : numP k s = (K, s')) : s'.ov = false := by
  unfold numP cutP at h
  split at h
  · injection h with h1 _
    exact absurd h1.symm hK
  · injection h with _ h2
    rw [← h2]
theorem FTEye1 : FieldT Try.prog 90 1 := ⟨_, _, 0, Try.underlying90, rfl, by kernel_rfl⟩
theorem opened_long (K : Nat) (A : Option Addr) (n c : Nat) (w : World) (hn : 1048576 < n) (hc : n ≤ 140737488355328) :
    Calls Try.prog 42 #[.slice A n c, .int .u64 K] w fun e w' => e = .returned (.tuple #[.pointer none, .int .i64 4]) ∧ w = w' := by
  go_enter Try.func42, Try.ntmps42
  go_wp2
  go_ret2
  exact ⟨rfl, rfl⟩
set_option maxRecDepth 100000 in
set_option maxHeartbeats 1000000 in
theorem opened_no (K : Nat) {B : Nat} (A : Option Addr) (n c : Nat) (l : List Nat) (w : World) (h : Src w B A n c l) (hn : n ≤ 1048576) (hK : K < 256) {k : Nat} {s1 : Rs} (hk : numP 1 ⟨l, false⟩ = (k, s1)) (hne : k ≠ K) :
    Calls Try.prog 42 #[.slice A n c, .int .u64 K] w fun e w' => e = .returned (.tuple #[.pointer none, .int .i64 3]) ∧ Below w.heap.size w w' := by
  have he := h.eye
  have lt := he.lt1 hk
  have d : decide ((k : Int) = K) = false := decide_eq_false (by omega)
  have hb : Below w.heap.size w (w.alloc (.cells #[.slice A n c, .int .i64 0] 90)) := (Below.refl _ _).alloc (Nat.le_refl _) _
  go_enter Try.func42, Try.ntmps42
  go_wp2_with (go_at_call 43; (with_reducible refine (eyeNum1 he hk).mono ?_); rintro e w2 ⟨rfl, he2, hb2⟩)
  go_ret2
  exact ⟨rfl, hb.trans (hb2.below (Nat.le_refl _) (by simp))⟩
set_option maxRecDepth 100000 in
set_option maxHeartbeats 1000000 in
theorem opened_yes (K : Nat) {B : Nat} (A : Option Addr) (n c : Nat) (l : List Nat) (w : World) (h : Src w B A n c l) (hn : n ≤ 1048576) (hK : K < 256) (h0 : K ≠ 0) {s1 : Rs} (hk : numP 1 ⟨l, false⟩ = (K, s1)) :
    Calls Try.prog 42 #[.slice A n c, .int .u64 K] w fun e w' => e = .returned (.tuple #[.pointer (some ⟨w.heap.size, 0, none⟩), .int .i64 0]) ∧ Eye w' B w.heap.size s1 ∧ Below w.heap.size w w' := by
  have he := h.eye
  have d : decide ((K : Int) = K) = true := decide_eq_true rfl
  have hb : Below w.heap.size w (w.alloc (.cells #[.slice A n c, .int .i64 0] 90)) := (Below.refl _ _).alloc (Nat.le_refl _) _
  have hov := numP_ne h0 hk
  go_enter Try.func42, Try.ntmps42
  go_upto_region 6 with (go_at_call 43; (with_reducible refine (eyeNum1 he hk).mono ?_); rintro e w2 ⟨rfl, he2, hb2⟩)
  obtain ⟨A2, n2, c2, hE⟩ := he2
  have c1 := hE.c1
  rw [eyeE_no hov] at c1
  have c1' : w2.drew.cell? ⟨w.heap.size, 1, none⟩ = some (.int .i64 0) := c1
  have hr : w2.drew.heap[w.heap.size]? = _ := hE.row
  (try simp only [Act.put, List.setIfInBounds_toArray, List.set_cons_zero, List.set_cons_succ])
  refine wp_region_can w2.heap.size 6 [(0, false), (1, false), (2, false), (3, false), (4, false), (5, false)] (by kernel_rfl) (by kernel_rfl) ?_
  (simp only [canOps, List.getElem?_cons_zero, List.getElem?_cons_succ, List.drop_succ_cons, List.drop_zero])
  iterate 6 (first | (refine wpCan_move rfl rfl (fun _ _ _ _ h => h) ?_; (simp only [Act.put, Act.eval, Array.getD_eq_getD_getElem?, List.getElem?_toArray, List.getElem?_cons_zero, List.getElem?_cons_succ, Option.getD_some, List.setIfInBounds_toArray, List.set_cons_zero, List.set_cons_succ])) | (refine wpCan_assign rfl rfl (fun _ _ _ _ h => h) ?_; (simp only [Act.put, Act.eval, Array.getD_eq_getD_getElem?, List.getElem?_toArray, List.getElem?_cons_zero, List.getElem?_cons_succ, Option.getD_some, List.setIfInBounds_toArray, List.set_cons_zero, List.set_cons_succ])) | (refine wpCan_nilCheck rfl rfl rfl (fun _ _ _ _ h => h) ?_; (simp only [Act.put, List.setIfInBounds_toArray, List.set_cons_zero, List.set_cons_succ])) | (refine wpCan_q rfl rfl (fun _ _ _ _ h => h) (by first | exact .bin rfl rfl rfl | exact .indexAddr rfl | exact .un rfl | exact .extract rfl | exact .index rfl | exact .field rfl | exact .slice rfl | exact .fieldT rfl FTEye1 | exact .load rfl rfl (lt_of_block hE.row) hr) (fun K hK => ?_); go_simp; (try (simp only [↓IntWalk.iteOmega]; go_simp)); (try go_bits); refine hK _ ?_; clear hK K))
  refine wpCan_nil ?_
  go_wp2
  go_ret2
  exact ⟨rfl, Eye.after ⟨_, _, _, hE⟩ (Below.refl _ _).drew, (hb.trans (hb2.below (Nat.le_refl _) (by simp))).drew⟩
theorem opened_long1 (A : Option Addr) (n c : Nat) (w : World) (hn : 1048576 < n) (hc : n ≤ 140737488355328) :
    Calls Try.prog 42 #[.slice A n c, .int .u64 1] w fun e w' => e = .returned (.tuple #[.pointer none, .int .i64 4]) ∧ w = w' := opened_long 1 A n c w hn hc
theorem opened_no1 {B : Nat} (A : Option Addr) (n c : Nat) (l : List Nat) (w : World) (h : Src w B A n c l) (hn : n ≤ 1048576) {k : Nat} {s1 : Rs} (hk : numP 1 ⟨l, false⟩ = (k, s1)) (hne : k ≠ 1) :
    Calls Try.prog 42 #[.slice A n c, .int .u64 1] w fun e w' => e = .returned (.tuple #[.pointer none, .int .i64 3]) ∧ Below w.heap.size w w' := opened_no 1 A n c l w h hn (by omega) hk hne
theorem opened_yes1 {B : Nat} (A : Option Addr) (n c : Nat) (l : List Nat) (w : World) (h : Src w B A n c l) (hn : n ≤ 1048576) {s1 : Rs} (hk : numP 1 ⟨l, false⟩ = (1, s1)) :
    Calls Try.prog 42 #[.slice A n c, .int .u64 1] w fun e w' => e = .returned (.tuple #[.pointer (some ⟨w.heap.size, 0, none⟩), .int .i64 0]) ∧ Eye w' B w.heap.size s1 ∧ Below w.heap.size w w' := opened_yes 1 A n c l w h hn (by omega) (by omega) hk
theorem opened_long2 (A : Option Addr) (n c : Nat) (w : World) (hn : 1048576 < n) (hc : n ≤ 140737488355328) :
    Calls Try.prog 42 #[.slice A n c, .int .u64 2] w fun e w' => e = .returned (.tuple #[.pointer none, .int .i64 4]) ∧ w = w' := opened_long 2 A n c w hn hc
theorem opened_no2 {B : Nat} (A : Option Addr) (n c : Nat) (l : List Nat) (w : World) (h : Src w B A n c l) (hn : n ≤ 1048576) {k : Nat} {s1 : Rs} (hk : numP 1 ⟨l, false⟩ = (k, s1)) (hne : k ≠ 2) :
    Calls Try.prog 42 #[.slice A n c, .int .u64 2] w fun e w' => e = .returned (.tuple #[.pointer none, .int .i64 3]) ∧ Below w.heap.size w w' := opened_no 2 A n c l w h hn (by omega) hk hne
theorem opened_yes2 {B : Nat} (A : Option Addr) (n c : Nat) (l : List Nat) (w : World) (h : Src w B A n c l) (hn : n ≤ 1048576) {s1 : Rs} (hk : numP 1 ⟨l, false⟩ = (2, s1)) :
    Calls Try.prog 42 #[.slice A n c, .int .u64 2] w fun e w' => e = .returned (.tuple #[.pointer (some ⟨w.heap.size, 0, none⟩), .int .i64 0]) ∧ Eye w' B w.heap.size s1 ∧ Below w.heap.size w w' := opened_yes 2 A n c l w h hn (by omega) (by omega) hk
theorem opened_long3 (A : Option Addr) (n c : Nat) (w : World) (hn : 1048576 < n) (hc : n ≤ 140737488355328) :
    Calls Try.prog 42 #[.slice A n c, .int .u64 3] w fun e w' => e = .returned (.tuple #[.pointer none, .int .i64 4]) ∧ w = w' := opened_long 3 A n c w hn hc
theorem opened_no3 {B : Nat} (A : Option Addr) (n c : Nat) (l : List Nat) (w : World) (h : Src w B A n c l) (hn : n ≤ 1048576) {k : Nat} {s1 : Rs} (hk : numP 1 ⟨l, false⟩ = (k, s1)) (hne : k ≠ 3) :
    Calls Try.prog 42 #[.slice A n c, .int .u64 3] w fun e w' => e = .returned (.tuple #[.pointer none, .int .i64 3]) ∧ Below w.heap.size w w' := opened_no 3 A n c l w h hn (by omega) hk hne
theorem opened_yes3 {B : Nat} (A : Option Addr) (n c : Nat) (l : List Nat) (w : World) (h : Src w B A n c l) (hn : n ≤ 1048576) {s1 : Rs} (hk : numP 1 ⟨l, false⟩ = (3, s1)) :
    Calls Try.prog 42 #[.slice A n c, .int .u64 3] w fun e w' => e = .returned (.tuple #[.pointer (some ⟨w.heap.size, 0, none⟩), .int .i64 0]) ∧ Eye w' B w.heap.size s1 ∧ Below w.heap.size w w' := opened_yes 3 A n c l w h hn (by omega) (by omega) hk
end Go.Proofs.Yteefhbpmeajbfaa
namespace Go.Proofs.Yteefhbpmeajbfaa
set_option linter.unusedSimpArgs false
set_option linter.unusedVariables false
open Go.RowKit
attribute [local irreducible] beL beK
theorem results_v_tmp {P : Program} {w : World} {fn : Func} {p q : Tmp} {ty : TypeId} {n t g : Nat} {f : Nat → Value} {fr : Nat × Nat} {v : Value} (h : fn.results = #[.cell p ty, .tmp q]) {tmps : Array Value} (hp : tmps.getD p undef = .pointer (some ⟨g, 0, none⟩)) (hq : tmps.getD q undef = v)
    (hT : RowT P ty n) (hg : w.heap[g]? = some (.cells (arrV n f) t fr)) : (results fn tmps).run P w = .ok (.tuple #[.agg (arrV n f), v]) w := by
  have hp' : tmps[p]?.getD undef = .pointer (some ⟨g, 0, none⟩) := by simpa using hp
  have hq' : tmps[q]?.getD undef = v := by simpa using hq
  have h2 := run_loadVar_arrV hT hg (show 0 + n ≤ n by omega)
  simp only [Nat.zero_add] at h2
  simp [results, h, hp', hq', asAddr, h2]
theorem run_built0 {P : Program} {o : Oper} {a : Act} {w : World} {ty : TypeId} {c : Array Value} (ho : o.op = .build ty #[]) (hb : P.built ty [] = some c) : (execOp a.eval o).run P w = .ok (.value (.agg c)) w := run_op_build (l := []) ho (by simp) hb
theorem run_op_load_v {P : Program} {o : Oper} {a : Act} {w : World} {ty n t g : Nat} {x : Operand} {f : Nat → Value} {fr : Nat × Nat} (ho : o.op = .load ty x) (hT : RowT P ty n) (hx : a.eval x = .pointer (some ⟨g, 0, none⟩)) (hg : w.heap[g]? = some (.cells (arrV n f) t fr)) : (execOp a.eval o).run P w = .ok (.value (.agg (arrV n f))) w := by
  have := run_loadVar_arrV hT hg (show 0 + n ≤ n by omega)
  simp only [Nat.zero_add] at this
  rw [run_op_load ho hx this]
def frF (p : PFr) (A : Option Addr) (c : Nat) (j : Nat) : Value := if j = 0 then .int .u64 (p.ep : Int) else if j = 1 then .int .i64 (p.frm : Int) else if j = 2 then .int .u64 (p.gen : Int) else .slice A p.box.length c
theorem frF_one (p : PFr) (A : Option Addr) (c j : Nat) : (frF p A c j).oneCell' = true := by unfold frF; (repeat' split) <;> rfl
def noFr : PFr := ⟨0, 0, 0, []⟩
theorem RTFr : RowT Try.prog 97 4 := ⟨_, Try.underlying97, rfl, by kernel_rfl⟩
theorem ZVFr : ZeroV Try.prog 97 4 (arrV 4 (frF noFr none 0)) := ⟨by kernel_rfl, by rw [arrV_size]⟩
theorem built_fr : Try.prog.built 97 [] = some (arrV 4 (frF noFr none 0)) := by kernel_rfl
/-- A frame that is handed back, or why not. -/
def FrPost (w : World) (p : PFr × Int) (e : Ending) (w' : World) : Prop :=
  ∃ A c, e = .returned (.tuple #[.agg (arrV 4 (frF p.1 A c)), .int .i64 p.2]) ∧ Own w' w.heap.size 5 (.slice A p.1.box.length c) p.1.box ∧ Below w.heap.size w w'
/-- A frame that was read, or none. -/
def frK (p : PFr × Rs) : PFr × Int := if p.2.ov = false ∧ MayF (p.1.ep : Int) (p.1.frm : Int) (p.1.gen : Int) p.1.box.length then (p.1, 0) else (noFr, 3)
theorem own_setR {w : World} {base g : Nat} {e t : TypeId} {v : Value} {l : List Nat} {c cs : Array Value} {fr : Nat × Nat} (h : Own w base e v l) (hg : w.heap[g]? = some (.cells c t fr)) (hne : e ≠ t) : Own (w.setRow g cs) base e v l := h.setRow (own_ne h hg hne) cs

set_option maxRecDepth 100000 in
set_option maxHeartbeats 2000000 in
theorem ReadFrame_long (A : Option Addr) (n c : Nat) (l : List Nat) (w : World) (h : Src w w.heap.size A n c l) (hn : 1048576 < n) :
    Calls Try.prog 74 #[.slice A n c] w (FrPost w (noFr, 4)) := by
  have hn2 : n ≤ 140737488355328 := h.len
  go_enter Try.func74, Try.ntmps74
  go_upto_region 1 with (refine wpList_alloc_v rfl rfl ZVFr ?_)
  have hq0 := heap_alloc_new w (.cells (arrV 4 (frF noFr none 0)) 97)
  have hb0 : Below w.heap.size w (w.alloc (.cells (arrV 4 (frF noFr none 0)) 97)) := (Below.refl _ _).alloc (Nat.le_refl _) _
  refine wp_cut (fun x => x.heap[w.heap.size]? = some (.cells (arrV 4 (frF noFr none 0)) 97 (0, 0)) ∧ Below w.heap.size w x ∧ Src x w.heap.size A n c l) ⟨hq0, hb0, ⟨hb0.size, h.txt.below hb0, h.cap, h.len, h.byt⟩⟩ ?_
  clear hq0 hb0 h
  rintro w1 ⟨hq, hb, hS⟩
  have hql := lt_of_block hq
  (try simp only [Act.put, List.setIfInBounds_toArray, List.set_cons_zero, List.set_cons_succ])
  go_wp2_with (first | (go_at_call 42; (with_reducible refine (opened_long3 A n c _ hn hn2).mono ?_); rintro e w2 ⟨rfl, rfl⟩) | (refine wpList_val_w rfl (run_built0 rfl built_fr) ?_) | (refine wpList_store_v (f' := frF noFr none 0) rfl rfl RTFr rfl rfl hq (fun i _ => frF_one _ _ _ i) ?_))
  refine bodyPost_ret (results_v_tmp rfl rfl rfl RTFr (row_self hq)) rfl ⟨none, 0, rfl, Own.nil_, row_below hb (by omega) _⟩

set_option maxRecDepth 100000 in
set_option maxHeartbeats 2000000 in
theorem ReadFrame_kind (A : Option Addr) (n c : Nat) (l : List Nat) (w : World) (h : Src w w.heap.size A n c l) (hn : n ≤ 1048576) {k : Nat} {s1 : Rs} (hk : numP 1 ⟨l, false⟩ = (k, s1)) (hne : k ≠ 3) :
    Calls Try.prog 74 #[.slice A n c] w (FrPost w (noFr, 3)) := by
  go_enter Try.func74, Try.ntmps74
  go_upto_region 1 with (refine wpList_alloc_v rfl rfl ZVFr ?_)
  have hq0 := heap_alloc_new w (.cells (arrV 4 (frF noFr none 0)) 97)
  have hb0 : Below w.heap.size w (w.alloc (.cells (arrV 4 (frF noFr none 0)) 97)) := (Below.refl _ _).alloc (Nat.le_refl _) _
  refine wp_cut (fun x => x.heap[w.heap.size]? = some (.cells (arrV 4 (frF noFr none 0)) 97 (0, 0)) ∧ Below w.heap.size w x ∧ Src x w.heap.size A n c l) ⟨hq0, hb0, ⟨hb0.size, h.txt.below hb0, h.cap, h.len, h.byt⟩⟩ ?_
  clear hq0 hb0 h
  rintro w1 ⟨hq, hb, hS⟩
  have hql := lt_of_block hq
  (try simp only [Act.put, List.setIfInBounds_toArray, List.set_cons_zero, List.set_cons_succ])
  go_wp2_with (first | (go_at_call 42; (with_reducible refine (opened_no3 A n c l _ hS hn hk hne).mono ?_); rintro e w2 ⟨rfl, b2⟩; replace hq := keep_below b2 hql hq; replace hb := hb.trans (b2.mono hb.size)) | (refine wpList_val_w rfl (run_built0 rfl built_fr) ?_) | (refine wpList_store_v (f' := frF noFr none 0) rfl rfl RTFr rfl rfl hq (fun i _ => frF_one _ _ _ i) ?_))
  refine bodyPost_ret (results_v_tmp rfl rfl rfl RTFr (row_self hq)) rfl ⟨none, 0, rfl, Own.nil_, row_below hb (by omega) _⟩

set_option maxRecDepth 100000 in
set_option maxHeartbeats 2000000 in
theorem ReadFrame_more (A : Option Addr) (n c : Nat) (l : List Nat) (w : World) (h : Src w w.heap.size A n c l) (hn : n ≤ 1048576) {s1 : Rs} (hk : numP 1 ⟨l, false⟩ = (3, s1)) :
    Calls Try.prog 74 #[.slice A n c] w (FrPost w (frK (frP s1))) := by
  obtain ⟨ep, s2, E1⟩ := pair_of (numP 8 s1)
  obtain ⟨fr, s3, E2⟩ := pair_of (numP 4 s2)
  obtain ⟨ge, s4, E3⟩ := pair_of (numP 8 s3)
  obtain ⟨bx, s5, E4⟩ := pair_of (cutP s4.l.length s4)
  rw [frP_is E1 E2 E3 E4]
  go_enter Try.func74, Try.ntmps74
  go_upto_region 1 with (refine wpList_alloc_v rfl rfl ZVFr ?_)
  have hq0 := heap_alloc_new w (.cells (arrV 4 (frF noFr none 0)) 97)
  have hb0 : Below w.heap.size w (w.alloc (.cells (arrV 4 (frF noFr none 0)) 97)) := (Below.refl _ _).alloc (Nat.le_refl _) _
  refine wp_cut (fun x => x.heap[w.heap.size]? = some (.cells (arrV 4 (frF noFr none 0)) 97 (0, 0)) ∧ Below w.heap.size w x ∧ Src x w.heap.size A n c l) ⟨hq0, hb0, ⟨hb0.size, h.txt.below hb0, h.cap, h.len, h.byt⟩⟩ ?_
  clear hq0 hb0 h
  rintro w1 ⟨hq, hb, hS⟩
  have hql := lt_of_block hq
  (try simp only [Act.put, List.setIfInBounds_toArray, List.set_cons_zero, List.set_cons_succ])
  go_upto_region 2 with (go_at_call 42; (with_reducible refine (opened_yes3 A n c l _ hS hn hk).mono ?_); rintro e w2 ⟨rfl, he, b2⟩)
  replace hq := keep_below b2 hql hq
  replace hb := hb.trans (b2.mono hb.size)
  generalize w1.heap.size = g at *
  clear b2 hS w1
  (try simp only [Act.put, List.setIfInBounds_toArray, List.set_cons_zero, List.set_cons_succ])
  generalize hqw : w.heap.size = q at *
  go_upto_region 4 with (fail)
  go_upto_region 5 with (go_at_call 43; have lt0 := he.lt8 E1; (with_reducible refine (eyeNum8 he E1).mono ?_); rintro e w2 ⟨rfl, he2, hb2⟩; have hq2 := hb2.keep hq (by omega); have c2 := cell_arrV hq2 0 (by omega); have f2 := frozen_of_row w2 q 0 _ _ hq2)
  replace he := he2.setAt (q := q) (by omega) (Nat.le_refl _) 0 (.int .u64 (ep : Int))
  replace hb := (hb.trans (hb2.below (B := q) (by omega) (by have := hb.size; omega))).setCell (p := ⟨q, 0, none⟩) (Nat.le_refl _) (.int .u64 (ep : Int))
  replace hq := set_arrV (i := 0) hq2 (.int .u64 (ep : Int))
  clear hq2 c2 f2 he2 hb2
  generalize w2.setCell ⟨q, 0, none⟩ (.int .u64 (ep : Int)) = w5 at *
  clear w2
  (try simp only [Act.put, List.setIfInBounds_toArray, List.set_cons_zero, List.set_cons_succ])
  go_upto_region 6 with (go_at_call 43; have lt1 := he.lt4 E2; (with_reducible refine (eyeNum4 he E2).mono ?_); rintro e w2 ⟨rfl, he2, hb2⟩; have hq2 := hb2.keep hq (by omega); have c2 := cell_arrV hq2 1 (by omega); have f2 := frozen_of_row w2 q 1 _ _ hq2)
  replace he := he2.setAt (q := q) (by omega) (Nat.le_refl _) 1 (.int .i64 (fr : Int))
  replace hb := (hb.trans (hb2.below (B := q) (by omega) (by have := hb.size; omega))).setCell (p := ⟨q, 1, none⟩) (Nat.le_refl _) (.int .i64 (fr : Int))
  replace hq := set_arrV (i := 1) hq2 (.int .i64 (fr : Int))
  clear hq2 c2 f2 he2 hb2
  generalize w2.setCell ⟨q, 1, none⟩ (.int .i64 (fr : Int)) = w6 at *
  clear w2
  (try simp only [Act.put, List.setIfInBounds_toArray, List.set_cons_zero, List.set_cons_succ])
  go_upto_region 7 with (go_at_call 43; have lt2 := he.lt8 E3; (with_reducible refine (eyeNum8 he E3).mono ?_); rintro e w2 ⟨rfl, he2, hb2⟩; have hq2 := hb2.keep hq (by omega); have c2 := cell_arrV hq2 2 (by omega); have f2 := frozen_of_row w2 q 2 _ _ hq2)
  replace he := he2.setAt (q := q) (by omega) (Nat.le_refl _) 2 (.int .u64 (ge : Int))
  replace hb := (hb.trans (hb2.below (B := q) (by omega) (by have := hb.size; omega))).setCell (p := ⟨q, 2, none⟩) (Nat.le_refl _) (.int .u64 (ge : Int))
  replace hq := set_arrV (i := 2) hq2 (.int .u64 (ge : Int))
  clear hq2 c2 f2 he2 hb2
  generalize w2.setCell ⟨q, 2, none⟩ (.int .u64 (ge : Int)) = w7 at *
  clear w2
  (try simp only [Act.put, List.setIfInBounds_toArray, List.set_cons_zero, List.set_cons_succ])
  obtain ⟨A4, n4, c4, hE⟩ := he
  have cc0 := hE.c0
  have hn4 : s4.l.length = n4 := hE.txt.len
  have hn5 : n4 ≤ 140737488355328 := hE.len
  have he : Eye w7 q g s4 := ⟨_, _, _, hE⟩
  rw [hn4] at E4
  go_upto_region 8 with (go_at_call 78; (with_reducible refine (eyeCutE (by omega) he E4).mono ?_); rintro e w2 ⟨A5, c5, rfl, ho, he2, hb2⟩; have hq2 := hb2.keep hq (by omega); have c3 := cell_arrV hq2 3 (by omega); have f3 := frozen_of_row w2 q 3 _ _ hq2)
  replace he := he2.setAt (q := q) (by omega) (Nat.le_refl _) 3 (.slice A5 bx.length c5)
  replace ho := (ho.mono hb.size).setCell (p := ⟨q, 3, none⟩) (own_ne ho hq2 (by decide)) (.slice A5 bx.length c5)
  replace hb := (hb.trans (hb2.below (B := q) (by omega) (by have := hb.size; omega))).setCell (p := ⟨q, 3, none⟩) (Nat.le_refl _) (.slice A5 bx.length c5)
  replace hq := set_arrV (i := 3) hq2 (.slice A5 bx.length c5)
  rw [show (arrV 4 (upd (upd (upd (upd (frF noFr none 0) 0 (.int .u64 (ep : Int))) 1 (.int .i64 (fr : Int))) 2 (.int .u64 (ge : Int))) 3 (.slice A5 bx.length c5))) = arrV 4 (frF ⟨ep, fr, ge, bx⟩ A5 c5) from rfl] at hq
  clear hq2 c3 f3 he2 hb2 cc0 hE
  generalize w2.setCell ⟨q, 3, none⟩ (.slice A5 bx.length c5) = w8 at *
  (try simp only [Act.put, List.setIfInBounds_toArray, List.set_cons_zero, List.set_cons_succ])
  obtain ⟨A6, n6, c6, hE⟩ := he
  have c1 := hE.c1
  rw [hqw] at ho
  have HO := Lib.hid ho
  cases hov : s5.ov with
  | true =>
    rw [eyeE_yes hov] at c1
    have EK := Lib.hid (show frK (⟨ep, fr, ge, bx⟩, s5) = (noFr, 3) from if_neg (fun h => by rw [hov] at h; cases h.1))
    go_wp2_with (first | (refine wpList_val_w rfl (run_built0 rfl built_fr) ?_) | (refine wpList_store_v (f' := frF noFr none 0) rfl rfl RTFr rfl rfl hq (fun i _ => frF_one _ _ _ i) ?_))
    refine bodyPost_ret (results_v_tmp rfl rfl rfl RTFr (row_self hq)) rfl ?_
    rw [EK.out]
    refine ⟨none, 0, rfl, Own.nil_, ?_⟩
    rw [hqw]
    exact row_below hb (Nat.le_refl _) _
  | false =>
    rw [eyeE_no hov] at c1
    by_cases hm : MayF (ep : Int) (fr : Int) (ge : Int) bx.length
    · have HM := Lib.hid (decide_eq_true hm)
      have EK := Lib.hid (show frK (⟨ep, fr, ge, bx⟩, s5) = (⟨ep, fr, ge, bx⟩, 0) from if_pos ⟨hov, hm⟩)
      clear hm
      go_wp2_with (first | (refine wpList_valg rfl (run_op_load_v rfl RTFr rfl hq) ?_) | (go_at_call 104; (refine (mayFrame_any (ep : Int) (fr : Int) (ge : Int) A5 bx.length c5 _).mono ?_); rintro e w9 ⟨rfl, hb9⟩; rw [HM.out]; have hq9 := keep_below hb9 (lt_of_block hq) hq) | (refine wpList_load_all rfl rfl RTFr rfl hq9 ?_) | (refine wpList_store_v rfl rfl RTFr rfl rfl hq9 (fun i _ => frF_one _ _ _ i) ?_))
      have ho9 := HO.out.below hb9 (fun k hk => (HO.out.lt k hk).2)
      refine bodyPost_ret (results_v_tmp rfl rfl rfl RTFr (row_self hq9)) rfl ?_
      rw [EK.out]
      refine ⟨A5, c5, rfl, ?_, ?_⟩
      · rw [hqw]
        exact own_setR ho9 hq9 (by decide)
      · rw [hqw]
        exact row_below (hb.trans (hb9.mono (by have := hb.size; omega))) (Nat.le_refl _) _
    · have HM := Lib.hid (decide_eq_false hm)
      have EK := Lib.hid (show frK (⟨ep, fr, ge, bx⟩, s5) = (noFr, 3) from if_neg (fun h => hm h.2))
      clear hm
      go_wp2_with (first | (refine wpList_valg rfl (run_op_load_v rfl RTFr rfl hq) ?_) | (go_at_call 104; (refine (mayFrame_any (ep : Int) (fr : Int) (ge : Int) A5 bx.length c5 _).mono ?_); rintro e w9 ⟨rfl, hb9⟩; rw [HM.out]; have hq9 := keep_below hb9 (lt_of_block hq) hq) | (refine wpList_val_w rfl (run_built0 rfl built_fr) ?_) | (refine wpList_store_v (f' := frF noFr none 0) rfl rfl RTFr rfl rfl hq9 (fun i _ => frF_one _ _ _ i) ?_))
      refine bodyPost_ret (results_v_tmp rfl rfl rfl RTFr (row_self hq9)) rfl ?_
      rw [EK.out]
      refine ⟨none, 0, rfl, Own.nil_, ?_⟩
      rw [hqw]
      exact row_below (hb.trans (hb9.mono (by have := hb.size; omega))) (Nat.le_refl _) _
theorem frV_long {l : List Nat} (h : 1048576 < l.length) : frV l = (noFr, 4) := if_pos h
theorem frV_kind {l : List Nat} (h : ¬ 1048576 < l.length) {k : Nat} {s1 : Rs} (hk : numP 1 ⟨l, false⟩ = (k, s1)) (hne : k ≠ 3) : frV l = (noFr, 3) := by
  unfold frV
  rw [if_neg h, hk]
  exact if_pos hne
theorem frV_more {l : List Nat} (h : ¬ 1048576 < l.length) {s1 : Rs} (hk : numP 1 ⟨l, false⟩ = (3, s1)) : frV l = frK (frP s1) := by
  unfold frV
  rw [if_neg h, hk]
  dsimp only
  rw [if_neg (by simp)]
  rfl
theorem ReadFrame_any (A : Option Addr) (n c : Nat) (l : List Nat) (w : World) (h : Src w w.heap.size A n c l) :
    Calls Try.prog 74 #[.slice A n c] w (FrPost w (frV l)) := by
  have hl := h.txt.len
  by_cases hn : 1048576 < n
  · rw [frV_long (by omega)]
    exact ReadFrame_long A n c l w h hn
  · obtain ⟨k, s1, hk⟩ := pair_of (numP 1 ⟨l, false⟩)
    by_cases hne : k = 3
    · subst hne
      rw [frV_more (by omega) hk]
      exact ReadFrame_more A n c l w h (by omega) hk
    · rw [frV_kind (by omega) hk hne]
      exact ReadFrame_kind A n c l w h (by omega) hk hne
end Go.Proofs.Yteefhbpmeajbfaa
namespace Go.Proofs.Yteefhbpmeajbfaa
set_option linter.unusedSimpArgs false
set_option linter.unusedVariables false
open Go.RowKit
attribute [local irreducible] beL beK
def wlG (tw : Nat) (t : Nat → List Nat) (A : Nat → Option Addr) (c : Nat → Nat) (m j : Nat) : Value := if j = 0 then .int .i64 (tw : Int) else if j ≤ m then .slice (A (j - 1)) (t (j - 1)).length (c (j - 1)) else .slice none 0 0
theorem wlG_one (tw : Nat) (t : Nat → List Nat) (A : Nat → Option Addr) (c : Nat → Nat) (m j : Nat) : (wlG tw t A c m j).oneCell' = true := by unfold wlG; (repeat' split) <;> rfl
def noTx (_ : Nat) : List Nat := []
def noA (_ : Nat) : Option Addr := none
def noC (_ : Nat) : Nat := 0
theorem RTWl : RowT Try.prog 93 4 := ⟨_, Try.underlying93, rfl, by kernel_rfl⟩
theorem ZVWl : ZeroV Try.prog 93 4 (arrV 4 (wlG 0 noTx noA noC 0)) := ⟨by kernel_rfl, by rw [arrV_size]⟩
theorem built_wl : Try.prog.built 93 [] = some (arrV 4 (wlG 0 noTx noA noC 0)) := by kernel_rfl
def noWl : PWl := ⟨0, [], [], []⟩
def PWl.tx (p : PWl) (j : Nat) : List Nat := if j = 0 then p.c else if j = 1 then p.t else p.b
/-- A welcome that is handed back, or why not. -/
def WlPost (w : World) (p : PWl × Int) (e : Ending) (w' : World) : Prop :=
  ∃ A c, e = .returned (.tuple #[.agg (arrV 4 (wlG p.1.tw p.1.tx A c 3)), .int .i64 p.2]) ∧ (∀ j, j < 3 → Own w' w.heap.size 5 (.slice (A j) (p.1.tx j).length (c j)) (p.1.tx j)) ∧ Below w.heap.size w w'
theorem noWl_own (w : World) (b : Nat) (j : Nat) (hj : j < 3) : Own w b 5 (.slice (noA j) (noWl.tx j).length (noC j)) (noWl.tx j) := by
  have : j = 0 ∨ j = 1 ∨ j = 2 := by omega
  rcases this with rfl | rfl | rfl <;> exact Own.nil_
/-- A welcome that was read, or none. -/
def wlK (p : PWl × Rs) : PWl × Int := if p.2.ov = false ∧ p.2.l.length = 0 ∧ MayW (p.1.tw : Int) p.1.c.length p.1.t.length p.1.b.length then (p.1, 0) else (noWl, 3)

set_option maxRecDepth 100000 in
set_option maxHeartbeats 2000000 in
theorem ReadWelcome_long (A : Option Addr) (n c : Nat) (l : List Nat) (w : World) (h : Src w w.heap.size A n c l) (hn : 1048576 < n) :
    Calls Try.prog 73 #[.slice A n c] w (WlPost w (noWl, 4)) := by
  have hn2 : n ≤ 140737488355328 := h.len
  go_enter Try.func73, Try.ntmps73
  go_upto_region 1 with (refine wpList_alloc_v rfl rfl ZVWl ?_)
  have hq0 := heap_alloc_new w (.cells (arrV 4 (wlG 0 noTx noA noC 0)) 93)
  have hb0 : Below w.heap.size w (w.alloc (.cells (arrV 4 (wlG 0 noTx noA noC 0)) 93)) := (Below.refl _ _).alloc (Nat.le_refl _) _
  refine wp_cut (fun x => x.heap[w.heap.size]? = some (.cells (arrV 4 (wlG 0 noTx noA noC 0)) 93 (0, 0)) ∧ Below w.heap.size w x ∧ Src x w.heap.size A n c l) ⟨hq0, hb0, ⟨hb0.size, h.txt.below hb0, h.cap, h.len, h.byt⟩⟩ ?_
  clear hq0 hb0 h
  rintro w1 ⟨hq, hb, hS⟩
  have hql := lt_of_block hq
  (try simp only [Act.put, List.setIfInBounds_toArray, List.set_cons_zero, List.set_cons_succ])
  go_wp2_with (first | (go_at_call 42; (with_reducible refine (opened_long2 A n c _ hn hn2).mono ?_); rintro e w2 ⟨rfl, rfl⟩) | (refine wpList_val_w rfl (run_built0 rfl built_wl) ?_) | (refine wpList_store_v (f' := wlG 0 noTx noA noC 0) rfl rfl RTWl rfl rfl hq (fun i _ => wlG_one _ _ _ _ _ i) ?_))
  refine bodyPost_ret (results_v_tmp rfl rfl rfl RTWl (row_self hq)) rfl ⟨noA, noC, rfl, noWl_own _ _, row_below hb (by omega) _⟩

set_option maxRecDepth 100000 in
set_option maxHeartbeats 2000000 in
theorem ReadWelcome_kind (A : Option Addr) (n c : Nat) (l : List Nat) (w : World) (h : Src w w.heap.size A n c l) (hn : n ≤ 1048576) {k : Nat} {s1 : Rs} (hk : numP 1 ⟨l, false⟩ = (k, s1)) (hne : k ≠ 2) :
    Calls Try.prog 73 #[.slice A n c] w (WlPost w (noWl, 3)) := by
  go_enter Try.func73, Try.ntmps73
  go_upto_region 1 with (refine wpList_alloc_v rfl rfl ZVWl ?_)
  have hq0 := heap_alloc_new w (.cells (arrV 4 (wlG 0 noTx noA noC 0)) 93)
  have hb0 : Below w.heap.size w (w.alloc (.cells (arrV 4 (wlG 0 noTx noA noC 0)) 93)) := (Below.refl _ _).alloc (Nat.le_refl _) _
  refine wp_cut (fun x => x.heap[w.heap.size]? = some (.cells (arrV 4 (wlG 0 noTx noA noC 0)) 93 (0, 0)) ∧ Below w.heap.size w x ∧ Src x w.heap.size A n c l) ⟨hq0, hb0, ⟨hb0.size, h.txt.below hb0, h.cap, h.len, h.byt⟩⟩ ?_
  clear hq0 hb0 h
  rintro w1 ⟨hq, hb, hS⟩
  have hql := lt_of_block hq
  (try simp only [Act.put, List.setIfInBounds_toArray, List.set_cons_zero, List.set_cons_succ])
  go_wp2_with (first | (go_at_call 42; (with_reducible refine (opened_no2 A n c l _ hS hn hk hne).mono ?_); rintro e w2 ⟨rfl, b2⟩; replace hq := keep_below b2 hql hq; replace hb := hb.trans (b2.mono hb.size)) | (refine wpList_val_w rfl (run_built0 rfl built_wl) ?_) | (refine wpList_store_v (f' := wlG 0 noTx noA noC 0) rfl rfl RTWl rfl rfl hq (fun i _ => wlG_one _ _ _ _ _ i) ?_))
  refine bodyPost_ret (results_v_tmp rfl rfl rfl RTWl (row_self hq)) rfl ⟨noA, noC, rfl, noWl_own _ _, row_below hb (by omega) _⟩

set_option maxRecDepth 100000 in
set_option maxHeartbeats 2000000 in
theorem ReadWelcome_more (A : Option Addr) (n c : Nat) (l : List Nat) (w : World) (h : Src w w.heap.size A n c l) (hn : n ≤ 1048576) {s1 : Rs} (hk : numP 1 ⟨l, false⟩ = (2, s1)) :
    Calls Try.prog 73 #[.slice A n c] w (WlPost w (wlK (wlP s1))) := by
  obtain ⟨tw, s2, E1⟩ := pair_of (numP 4 s1)
  obtain ⟨t0, s3, E2⟩ := pair_of (txP s2)
  obtain ⟨t1, s4, E3⟩ := pair_of (txP s3)
  obtain ⟨t2, s5, E4⟩ := pair_of (txP s4)
  rw [wlP_is E1 E2 E3 E4]
  obtain ⟨tt, htt⟩ : ∃ tt : Nat → List Nat, tt = (⟨tw, t0, t1, t2⟩ : PWl).tx := ⟨_, rfl⟩
  obtain ⟨ss, hss⟩ : ∃ ss : Nat → Rs, ss = fun j => if j = 0 then s2 else if j = 1 then s3 else if j = 2 then s4 else s5 := ⟨_, rfl⟩
  have hE : ∀ j, j < 3 → txP (ss j) = (tt j, ss (j + 1)) := fun j hj => by
    have : j = 0 ∨ j = 1 ∨ j = 2 := by omega
    subst htt hss
    rcases this with rfl | rfl | rfl
    · exact E2
    · exact E3
    · exact E4
  have HE := Lib.hid hE
  have HTT := Lib.hid htt
  have es0 : ss 0 = s2 := by rw [hss]; rfl
  have es3 : ss 3 = s5 := by rw [hss]; rfl
  clear hE E2 E3 E4 htt hss
  go_enter Try.func73, Try.ntmps73
  go_upto_region 1 with (refine wpList_alloc_v rfl rfl ZVWl ?_)
  have hq0 := heap_alloc_new w (.cells (arrV 4 (wlG 0 noTx noA noC 0)) 93)
  have hb0 : Below w.heap.size w (w.alloc (.cells (arrV 4 (wlG 0 noTx noA noC 0)) 93)) := (Below.refl _ _).alloc (Nat.le_refl _) _
  refine wp_cut (fun x => x.heap[w.heap.size]? = some (.cells (arrV 4 (wlG 0 noTx noA noC 0)) 93 (0, 0)) ∧ Below w.heap.size w x ∧ Src x w.heap.size A n c l) ⟨hq0, hb0, ⟨hb0.size, h.txt.below hb0, h.cap, h.len, h.byt⟩⟩ ?_
  clear hq0 hb0 h
  rintro w1 ⟨hq, hb, hS⟩
  have hql := lt_of_block hq
  (try simp only [Act.put, List.setIfInBounds_toArray, List.set_cons_zero, List.set_cons_succ])
  go_upto_region 2 with (go_at_call 42; (with_reducible refine (opened_yes2 A n c l _ hS hn hk).mono ?_); rintro e w2 ⟨rfl, he, b2⟩)
  replace hq := keep_below b2 hql hq
  replace hb := hb.trans (b2.mono hb.size)
  generalize w1.heap.size = g at *
  clear b2 hS w1
  (try simp only [Act.put, List.setIfInBounds_toArray, List.set_cons_zero, List.set_cons_succ])
  generalize hqw : w.heap.size = q at *
  go_upto_region 4 with (fail)
  go_upto_region 5 with (go_at_call 43; have lt0 := he.lt4 E1; (with_reducible refine (eyeNum4 he E1).mono ?_); rintro e w2 ⟨rfl, he2, hb2⟩; have hq2 := hb2.keep hq (by omega); have c2 := cell_arrV hq2 0 (by omega); have f2 := frozen_of_row w2 q 0 _ _ hq2)
  replace he := he2.setAt (q := q) (by omega) (Nat.le_refl _) 0 (.int .i64 (tw : Int))
  replace hb := (hb.trans (hb2.below (B := q) (by omega) (by have := hb.size; omega))).setCell (p := ⟨q, 0, none⟩) (Nat.le_refl _) (.int .i64 (tw : Int))
  replace hq := set_arrV (i := 0) hq2 (.int .i64 (tw : Int))
  rw [show arrV 4 (upd (wlG 0 noTx noA noC 0) 0 (.int .i64 (tw : Int))) = arrV 4 (wlG tw tt noA noC 0) from arrV_ext fun i hi => by
    unfold upd wlG
    by_cases h0 : i = 0
    · rw [if_pos h0, if_pos h0]
    · rw [if_neg h0, if_neg h0, if_neg h0, if_neg (by omega), if_neg (by omega)]] at hq
  clear hq2 c2 f2 he2 hb2
  generalize w2.setCell ⟨q, 0, none⟩ (.int .i64 (tw : Int)) = w5 at *
  clear w2
  (try simp only [Act.put, List.setIfInBounds_toArray, List.set_cons_zero, List.set_cons_succ])
  have hpb := heap_alloc_new w5 (.cells (arrV 3 fun i => .pointer (some ⟨q, i + 1, none⟩)) 144)
  have hbn : Below w5.heap.size w5 (w5.alloc (.cells (arrV 3 fun i => .pointer (some ⟨q, i + 1, none⟩)) 144)) := (Below.refl _ _).alloc (Nat.le_refl _) _
  have hgl := he.lt
  have hql5 := lt_of_block hq
  go_wp2
  clear E1
  generalize hpbq : w5.heap.size = pb at *
  go_loopg [27] 3 (fun r x wr => ∃ (j : Nat) (AA : Nat → Option Addr) (CC : Nat → Nat), j + r = 3 ∧ x = .int .i64 j ∧ wr.heap[pb]? = some (.cells (arrV 3 fun i => .pointer (some ⟨q, i + 1, none⟩)) 144 (0, 0)) ∧ wr.heap[q]? = some (.cells (arrV 4 (wlG tw tt AA CC j)) 93 (0, 0)) ∧ Eye wr q g (ss j) ∧ Below q w wr ∧ ∀ i, i < j → Own wr q 5 (.slice (AA i) (tt i).length (CC i)) (tt i))
  case atStart => exact ⟨0, noA, noC, rfl, rfl, hpb, keep_below hbn (by omega) hq, (by rw [es0]; exact Eye.after he (by rw [hpbq]; exact hbn)), hb.trans (hbn.mono (by omega)), fun i hi => absurd hi (by omega)⟩
  case round =>
    clear hpb hq he hb hbn
    obtain ⟨j, AA, CC, hj, rfl, hpb, hq, he, hb, hown⟩ := hrel
    have HO := Lib.hid hown
    have HJ := Lib.hid hj
    clear hown hj
    by_cases hlt : j < 3
    · obtain ⟨k, s', EN⟩ := pair_of (numP 4 (ss j))
      obtain ⟨lx, s'', EC⟩ := pair_of (cutP k s')
      have e3 := HE.out j hlt
      rw [txP_is EN EC] at e3
      injection e3 with e3 e4
      subst e3 e4
      have ltk := he.lt4 EN
      have hcp : wr.cell? ((⟨pb, 0, none⟩ : Addr).add (j * 1)) = some (.pointer (some ⟨q, j + 1, none⟩)) := by
        rw [addr_add, Nat.mul_one, Nat.zero_add]
        exact cell_arrV hpb j hlt
      go_wp2_with (first | (refine wpList_el rfl rfl Try.underlying145 (sz := 1) (by kernel_rfl) rfl rfl hlt ?_) | (refine wpList_load1 rfl rfl Try.underlying144 rfl rfl hcp ?_) | (go_at_call 43; (with_reducible refine (eyeNum4 he EN).mono ?_); rintro e w2 ⟨rfl, he2, hb2⟩) | (go_at_call 78; (with_reducible refine (eyeCutE (by omega) he2 EC).mono ?_); rintro e w3 ⟨A3, c3, rfl, ho3, he3, hb3⟩; have hq3 := hb3.keep (hb2.keep hq (by omega)) (by omega); have cc3 := cell_arrV hq3 (j + 1) (by omega); have f3 := frozen_of_row w3 q (j + 1) _ _ hq3))
      go_roundg (gk - 1)
      case measure => have := HJ.out; omega
      case rel =>
        have hJ := HJ.out
        refine ⟨j + 1, upd AA j A3, upd CC j c3, by omega, by go_num, ?_, ?_, he3.setAt (q := q) (by omega) (Nat.le_refl _) (j + 1) _, ?_, ?_⟩
        · rw [heap_setCell_other _ _ _ _ (show pb ≠ q by omega)]
          exact hb3.keep (hb2.keep hpb (by omega)) (by omega)
        · have h4 := set_arrV (i := j + 1) hq3 (.slice A3 (tt j).length c3)
          rw [show arrV 4 (upd (wlG tw tt AA CC j) (j + 1) (.slice A3 (tt j).length c3)) = arrV 4 (wlG tw tt (upd AA j A3) (upd CC j c3) (j + 1)) from arrV_ext fun i hi => by
            unfold upd wlG
            by_cases h0 : i = j + 1
            · subst h0
              rw [if_pos rfl, if_neg (by omega), if_pos (Nat.le_refl _)]
              show _ = Value.slice (if j + 1 - 1 = j then A3 else AA (j + 1 - 1)) (tt (j + 1 - 1)).length (if j + 1 - 1 = j then c3 else CC (j + 1 - 1))
              rw [show j + 1 - 1 = j by omega, if_pos rfl, if_pos rfl]
            · rw [if_neg h0]
              by_cases h1 : i = 0
              · rw [if_pos h1, if_pos h1]
              · rw [if_neg h1, if_neg h1]
                by_cases h2 : i ≤ j
                · rw [if_pos h2, if_pos (by omega)]
                  show _ = Value.slice (if i - 1 = j then A3 else AA (i - 1)) (tt (i - 1)).length (if i - 1 = j then c3 else CC (i - 1))
                  rw [if_neg (by omega), if_neg (by omega)]
                · rw [if_neg h2, if_neg (by omega)]] at h4
          exact h4
        · exact ((hb.trans (hb2.below (B := q) (by omega) (by have := hb.size; omega))).trans (hb3.below (B := q) (by omega) (by have := hb.size; have := hb2.size; omega))).setCell (p := ⟨q, j + 1, none⟩) (Nat.le_refl _) _
        · intro i hi
          unfold upd
          by_cases h0 : i = j
          · subst h0
            rw [if_pos rfl, if_pos rfl]
            exact (ho3.mono (by have := hb.size; have := hb2.size; omega)).setCell (p := ⟨q, i + 1, none⟩) (own_ne ho3 hq3 (by decide)) _
          · rw [if_neg h0, if_neg h0]
            obtain ⟨_, _, _, hE1⟩ := he
            obtain ⟨_, _, _, hE2⟩ := he2
            have o1 : Own w3 q 5 (.slice (AA i) (tt i).length (CC i)) (tt i) := hb3.row (hb2.row (HO.out i (by omega)) hE1.row (by decide)) hE2.row (by decide)
            exact o1.setCell (p := ⟨q, j + 1, none⟩) (own_ne o1 hq3 (by decide)) _
    · obtain rfl : j = 3 := by have := HJ.out; omega
      clear hlt
      rw [es3] at he
      obtain ⟨A6, n6, c6, hE6⟩ := he
      have c0 := hE6.c0
      have c1 := hE6.c1
      have hn6 : s5.l.length = n6 := hE6.txt.len
      have TT := HTT.out
      have HT0 := Lib.hid (show (tt 0).length = t0.length by rw [TT]; rfl)
      have HT1 := Lib.hid (show (tt 1).length = t1.length by rw [TT]; rfl)
      have HT2 := Lib.hid (show (tt 2).length = t2.length by rw [TT]; rfl)
      clear TT
      cases hov : s5.ov with
      | true =>
        rw [eyeE_yes hov] at c1
        have EK := Lib.hid (show wlK (⟨tw, t0, t1, t2⟩, s5) = (noWl, 3) from if_neg (fun h => by rw [hov] at h; cases h.1))
        go_wp2_with (first | (refine wpList_val_w rfl (run_built0 rfl built_wl) ?_) | (refine wpList_store_v (f' := wlG 0 noTx noA noC 0) rfl rfl RTWl rfl rfl hq (fun i _ => wlG_one _ _ _ _ _ i) ?_))
        refine bodyPost_ret (results_v_tmp rfl rfl rfl RTWl (row_self hq)) rfl ?_
        rw [EK.out]
        refine ⟨noA, noC, rfl, noWl_own _ _, ?_⟩
        rw [hqw]
        exact row_below hb (Nat.le_refl _) _
      | false =>
        rw [eyeE_no hov] at c1
        by_cases h0 : 0 < n6
        · have EK := Lib.hid (show wlK (⟨tw, t0, t1, t2⟩, s5) = (noWl, 3) from if_neg (fun h => by have h1 : s5.l.length = 0 := h.2.1; omega))
          go_wp2_with (first | (refine wpList_val_w rfl (run_built0 rfl built_wl) ?_) | (refine wpList_store_v (f' := wlG 0 noTx noA noC 0) rfl rfl RTWl rfl rfl hq (fun i _ => wlG_one _ _ _ _ _ i) ?_))
          refine bodyPost_ret (results_v_tmp rfl rfl rfl RTWl (row_self hq)) rfl ?_
          rw [EK.out]
          refine ⟨noA, noC, rfl, noWl_own _ _, ?_⟩
          rw [hqw]
          exact row_below hb (Nat.le_refl _) _
        · by_cases hm : MayW (tw : Int) t0.length t1.length t2.length
          · have HM := Lib.hid (show decide (MayW (tw : Int) (tt 0).length (tt 1).length (tt 2).length) = true by rw [HT0.out, HT1.out, HT2.out]; exact decide_eq_true hm)
            have EK := Lib.hid (show wlK (⟨tw, t0, t1, t2⟩, s5) = (⟨tw, t0, t1, t2⟩, 0) from if_pos ⟨hov, by show s5.l.length = 0; omega, hm⟩)
            clear hm
            go_wp2_with (first | (refine wpList_valg rfl (run_op_load_v rfl RTWl rfl hq) ?_) | (go_at_call 103; (refine (mayWelcome_any (tw : Int) (AA 0) (tt 0).length (CC 0) (AA 1) (tt 1).length (CC 1) (AA 2) (tt 2).length (CC 2) _).mono ?_); rintro e w9 ⟨rfl, hb9⟩; rw [HM.out]; have hq9 := keep_below hb9 (lt_of_block hq) hq) | (refine wpList_load_all rfl rfl RTWl rfl hq9 ?_) | (refine wpList_store_v rfl rfl RTWl rfl rfl hq9 (fun i _ => wlG_one _ _ _ _ _ i) ?_))
            refine bodyPost_ret (results_v_tmp rfl rfl rfl RTWl (row_self hq9)) rfl ?_
            rw [EK.out]
            refine ⟨AA, CC, by rw [HTT.out]; rfl, fun i hi => ?_, ?_⟩
            · have o1 := (HO.out i hi).below hb9 (fun k hk => ((HO.out i hi).lt k hk).2)
              rw [hqw]
              show Own _ q 5 (.slice (AA i) ((⟨tw, t0, t1, t2⟩ : PWl).tx i).length (CC i)) ((⟨tw, t0, t1, t2⟩ : PWl).tx i)
              rw [← HTT.out]
              exact own_setR o1 hq9 (by decide)
            · rw [hqw]
              exact row_below (hb.trans (hb9.mono (by have := hb.size; omega))) (Nat.le_refl _) _
          · have HM := Lib.hid (show decide (MayW (tw : Int) (tt 0).length (tt 1).length (tt 2).length) = false by rw [HT0.out, HT1.out, HT2.out]; exact decide_eq_false hm)
            have EK := Lib.hid (show wlK (⟨tw, t0, t1, t2⟩, s5) = (noWl, 3) from if_neg (fun h => hm h.2.2))
            clear hm
            go_wp2_with (first | (refine wpList_valg rfl (run_op_load_v rfl RTWl rfl hq) ?_) | (go_at_call 103; (refine (mayWelcome_any (tw : Int) (AA 0) (tt 0).length (CC 0) (AA 1) (tt 1).length (CC 1) (AA 2) (tt 2).length (CC 2) _).mono ?_); rintro e w9 ⟨rfl, hb9⟩; rw [HM.out]; have hq9 := keep_below hb9 (lt_of_block hq) hq) | (refine wpList_val_w rfl (run_built0 rfl built_wl) ?_) | (refine wpList_store_v (f' := wlG 0 noTx noA noC 0) rfl rfl RTWl rfl rfl hq9 (fun i _ => wlG_one _ _ _ _ _ i) ?_))
            refine bodyPost_ret (results_v_tmp rfl rfl rfl RTWl (row_self hq9)) rfl ?_
            rw [EK.out]
            refine ⟨noA, noC, rfl, noWl_own _ _, ?_⟩
            rw [hqw]
            exact row_below (hb.trans (hb9.mono (by have := hb.size; omega))) (Nat.le_refl _) _
theorem wlV_long {l : List Nat} (h : 1048576 < l.length) : wlV l = (noWl, 4) := if_pos h
theorem wlV_kind {l : List Nat} (h : ¬ 1048576 < l.length) {k : Nat} {s1 : Rs} (hk : numP 1 ⟨l, false⟩ = (k, s1)) (hne : k ≠ 2) : wlV l = (noWl, 3) := by
  unfold wlV
  rw [if_neg h, hk]
  exact if_pos hne
theorem wlV_more {l : List Nat} (h : ¬ 1048576 < l.length) {s1 : Rs} (hk : numP 1 ⟨l, false⟩ = (2, s1)) : wlV l = wlK (wlP s1) := by
  unfold wlV
  rw [if_neg h, hk]
  dsimp only
  rw [if_neg (by simp)]
  rfl
theorem ReadWelcome_any (A : Option Addr) (n c : Nat) (l : List Nat) (w : World) (h : Src w w.heap.size A n c l) :
    Calls Try.prog 73 #[.slice A n c] w (WlPost w (wlV l)) := by
  have hl := h.txt.len
  by_cases hn : 1048576 < n
  · rw [wlV_long (by omega)]
    exact ReadWelcome_long A n c l w h hn
  · obtain ⟨k, s1, hk⟩ := pair_of (numP 1 ⟨l, false⟩)
    by_cases hne : k = 2
    · subst hne
      rw [wlV_more (by omega) hk]
      exact ReadWelcome_more A n c l w h (by omega) hk
    · rw [wlV_kind (by omega) hk hne]
      exact ReadWelcome_kind A n c l w h (by omega) hk hne
end Go.Proofs.Yteefhbpmeajbfaa
namespace Go.Proofs.Yteefhbpmeajbfaa
set_option linter.unusedSimpArgs false
set_option linter.unusedVariables false
open Go.RowKit
attribute [local irreducible] beL beK
theorem all_succ {p : Nat → Prop} {i : Nat} (h : ∀ j, j < i → p j) (hi : p i) : ∀ j, j < i + 1 → p j := fun j hj => by
  rcases Nat.lt_or_ge j i with h1 | h1
  · exact h j h1
  · obtain rfl : j = i := by omega
    exact hi

set_option maxRecDepth 100000 in
set_option maxHeartbeats 2000000 in
theorem IndexInt (A : Option Addr) (n c : Nat) (v : Nat → Int) (B : Nat) (w : World) (h : Els w B A n 1 (fun j _ => .int .i64 (v j))) (hB : B ≤ w.heap.size) (hn : n ≤ 1099511627776) :
    Calls Try.prog 72 #[.slice A n c, .func (.func 107) #[] #[]] w fun e w' => (∃ r : Int, e = .returned (.int .i64 r) ∧ decide (0 ≤ r) = !decide (∀ i, i < n → OkPlace (v i))) ∧ Below w.heap.size w w' := by
  have H0 := Lib.hid h
  clear h
  go_enter Try.func72, Try.ntmps72
  go_wp2
  go_loopg [8] n (fun r x wr => ∃ i : Nat, i + r = n ∧ x = .int .i64 i ∧ (∀ j, j < i → OkPlace (v j)) ∧ Below w.heap.size w wr)
  case atStart => exact ⟨0, by omega, rfl, (fun j hj => absurd hj (by omega)), Below.refl _ _⟩
  case round =>
    obtain ⟨i, hi, rfl, hok, hb⟩ := hrel
    have HI := Lib.hid hi
    have HOK := Lib.hid hok
    clear hi hok
    by_cases hlt : i < n
    · obtain ⟨ad, rfl, hab, hc⟩ := (H0.out.below' hb hB).cell hlt
      replace hc : wr.cell? (ad.add (i * 1)) = some (.int .i64 (v i)) := by have := hc 0 (by omega); rwa [addr_add_zero] at this
      go_wp2_with (first | (refine wpList_el rfl rfl Try.underlying24 (sz := 1) (by kernel_rfl) rfl rfl hlt ?_) | (refine wpList_load1 rfl rfl Try.underlying3 rfl rfl hc ?_) | (go_at_call 107; fail))
      refine (badPlace_any (v i) _).mono ?_
      rintro e w2 ⟨rfl, rfl⟩
      by_cases hk : OkPlace (v i)
      · rw [decide_eq_true hk]
        have HK := Lib.hid hk
        clear hk
        go_wp2
        go_roundg (gk - 1)
        case measure => have := HI.out; omega
        case rel =>
          have hI := HI.out
          refine ⟨i + 1, ?_, by go_num, all_succ HOK.out HK.out, hb⟩
          clear HK HOK H0
          omega
      · rw [decide_eq_false hk]
        have HE := Lib.hid (show decide (∀ i, i < n → OkPlace (v i)) = false from decide_eq_false fun h => hk (h i hlt))
        clear hk
        go_wp2
        go_ret
        refine ⟨⟨_, rfl, ?_⟩, hb⟩
        rw [HE.out]
        show decide (0 ≤ (i : Int)) = _
        rw [decide_eq_true (by omega)]
        rfl
    · obtain rfl : i = n := by have := HI.out; omega
      have HE := Lib.hid (show decide (∀ j, j < i → OkPlace (v j)) = true from decide_eq_true HOK.out)
      go_wp2
      go_ret
      refine ⟨⟨_, rfl, ?_⟩, hb⟩
      rw [HE.out]
      rfl
set_option maxRecDepth 100000 in
set_option maxHeartbeats 2000000 in
theorem ContainsInt (A : Option Addr) (n c : Nat) (v : Nat → Int) (B : Nat) (w : World) (h : Els w B A n 1 (fun j _ => .int .i64 (v j))) (hB : B ≤ w.heap.size) (hn : n ≤ 1099511627776) :
    Calls Try.prog 33 #[.slice A n c, .func (.func 107) #[] #[]] w fun e w' => e = .returned (.bool (!decide (∀ i, i < n → OkPlace (v i)))) ∧ Below w.heap.size w w' := by
  have HC := Lib.hid (IndexInt A n c v B w h hB hn)
  clear h
  go_enter Try.func33, Try.ntmps33
  go_wp2_with (go_at_call 72; (with_reducible refine HC.out.mono ?_); rintro e w1 ⟨⟨r, rfl, hr⟩, hb⟩)
  go_ret
  first | exact ⟨rfl, hb⟩ | exact ⟨congrArg (fun b => Ending.returned (Value.bool b)) hr, hb⟩

set_option maxRecDepth 100000 in
set_option maxHeartbeats 2000000 in
theorem badStep_any (node frm : Int) (A : Option Addr) (n c : Nat) (v : Nat → Int) (B : Nat) (w : World) (h : Els w B A n 1 (fun j _ => .int .i64 (v j))) (hB : B ≤ w.heap.size) :
    Calls Try.prog 85 #[.agg (arrV 3 (stepV node frm A n c))] w fun e w' => e = .returned (.bool (!decide (OkStep node frm n v))) ∧ Below w.heap.size w w' := by
  have H0 := Lib.hid h
  clear h
  by_cases hn : 0 ≤ node ∧ node ≤ 4000
  · have HN := Lib.hid (decide_eq_true hn)
    by_cases h1 : -1 ≤ frm ∧ frm < 4000
    · by_cases h2 : n ≤ 4000
      · have E : decide (OkStep node frm n v) = decide (∀ i, i < n → OkPlace (v i)) := decide_eq_decide.2 ⟨fun h => h.2.2.2.2, fun h => ⟨hn, h1.1, h1.2, h2, h⟩⟩
        clear hn
        obtain ⟨h3, h4⟩ := h1
        have HE := Lib.hid E
        clear E
        obtain ⟨q, hq⟩ : ∃ q, q = decide (OkStep node frm n v) := ⟨_, rfl⟩
        have HQ := Lib.hid hq
        clear hq
        go_enter Try.func85, Try.ntmps85
        have g0 := heap_alloc_new w (.cells (arrV 3 (stepV node frm A n c)) 84)
        have hb : Below w.heap.size w (w.alloc (.cells (arrV 3 (stepV node frm A n c)) 84)) := (Below.refl _ _).alloc (Nat.le_refl _) _
        have c0 := cell_arrV g0 0 (by omega)
        have c1 := cell_arrV g0 1 (by omega)
        have c2 := cell_arrV g0 2 (by omega)
        replace c0 : _ = some (Value.int .i64 node) := c0
        replace c1 : _ = some (Value.int .i64 frm) := c1
        replace c2 : _ = some (Value.slice A n c) := c2
        clear g0
        go_wp2_with (first | (go_at_call 81; (with_reducible refine (within_any _ _ _).mono ?_); rintro e w1 ⟨rfl, rfl⟩; rw [HN.out]) | (go_at_call 33; fail))
        refine (ContainsInt A n c v B _ (H0.out.below' hb hB) (Nat.le_trans hB hb.size) (by omega)).mono ?_
        rintro e w2 ⟨rfl, b2⟩
        rw [← HE.out, ← HQ.out]
        go_wp2
        go_ret
        refine ⟨?_, hb.trans (b2.mono hb.size)⟩
        rw [← HQ.out]
        first | rfl | (show Ending.returned (Value.bool (decide (frm < -1) || decide (4000 ≤ frm) || decide (4000 < (n : Int)) || !q)) = _; rw [decide_eq_false (by omega), decide_eq_false (by omega), decide_eq_false (by omega)]; rfl)
      · have E : decide (OkStep node frm n v) = false := decide_eq_false fun h => h2 h.2.2.2.1
        clear hn
        obtain ⟨h3, h4⟩ := h1
        have HE := Lib.hid E
        clear E
        go_enter Try.func85, Try.ntmps85
        have g0 := heap_alloc_new w (.cells (arrV 3 (stepV node frm A n c)) 84)
        have hb : Below w.heap.size w (w.alloc (.cells (arrV 3 (stepV node frm A n c)) 84)) := (Below.refl _ _).alloc (Nat.le_refl _) _
        have c0 := cell_arrV g0 0 (by omega)
        have c1 := cell_arrV g0 1 (by omega)
        have c2 := cell_arrV g0 2 (by omega)
        replace c0 : _ = some (Value.int .i64 node) := c0
        replace c1 : _ = some (Value.int .i64 frm) := c1
        replace c2 : _ = some (Value.slice A n c) := c2
        clear g0
        go_wp2_with (go_at_call 81; (with_reducible refine (within_any _ _ _).mono ?_); rintro e w1 ⟨rfl, rfl⟩; rw [HN.out])
        go_ret
        refine ⟨?_, hb⟩
        rw [HE.out]
        first | rfl | skip
    · have E : decide (OkStep node frm n v) = false := decide_eq_false fun h => h1 ⟨h.2.1, h.2.2.1⟩
      clear hn
      by_cases h5 : frm < -1
      · have HE := Lib.hid E
        clear E
        go_enter Try.func85, Try.ntmps85
        have g0 := heap_alloc_new w (.cells (arrV 3 (stepV node frm A n c)) 84)
        have hb : Below w.heap.size w (w.alloc (.cells (arrV 3 (stepV node frm A n c)) 84)) := (Below.refl _ _).alloc (Nat.le_refl _) _
        have c0 := cell_arrV g0 0 (by omega)
        have c1 := cell_arrV g0 1 (by omega)
        have c2 := cell_arrV g0 2 (by omega)
        replace c0 : _ = some (Value.int .i64 node) := c0
        replace c1 : _ = some (Value.int .i64 frm) := c1
        replace c2 : _ = some (Value.slice A n c) := c2
        clear g0
        go_wp2_with (go_at_call 81; (with_reducible refine (within_any _ _ _).mono ?_); rintro e w1 ⟨rfl, rfl⟩; rw [HN.out])
        go_ret
        refine ⟨?_, hb⟩
        rw [HE.out]
        first | rfl | skip
      · have HE := Lib.hid E
        clear E
        go_enter Try.func85, Try.ntmps85
        have g0 := heap_alloc_new w (.cells (arrV 3 (stepV node frm A n c)) 84)
        have hb : Below w.heap.size w (w.alloc (.cells (arrV 3 (stepV node frm A n c)) 84)) := (Below.refl _ _).alloc (Nat.le_refl _) _
        have c0 := cell_arrV g0 0 (by omega)
        have c1 := cell_arrV g0 1 (by omega)
        have c2 := cell_arrV g0 2 (by omega)
        replace c0 : _ = some (Value.int .i64 node) := c0
        replace c1 : _ = some (Value.int .i64 frm) := c1
        replace c2 : _ = some (Value.slice A n c) := c2
        clear g0
        go_wp2_with (go_at_call 81; (with_reducible refine (within_any _ _ _).mono ?_); rintro e w1 ⟨rfl, rfl⟩; rw [HN.out])
        go_ret
        refine ⟨?_, hb⟩
        rw [HE.out]
        first | rfl | skip
  · have HN := Lib.hid (decide_eq_false hn)
    have E : decide (OkStep node frm n v) = false := decide_eq_false fun h => hn h.1
    clear hn
    have HE := Lib.hid E
    clear E
    go_enter Try.func85, Try.ntmps85
    have g0 := heap_alloc_new w (.cells (arrV 3 (stepV node frm A n c)) 84)
    have hb : Below w.heap.size w (w.alloc (.cells (arrV 3 (stepV node frm A n c)) 84)) := (Below.refl _ _).alloc (Nat.le_refl _) _
    have c0 := cell_arrV g0 0 (by omega)
    have c1 := cell_arrV g0 1 (by omega)
    have c2 := cell_arrV g0 2 (by omega)
    replace c0 : _ = some (Value.int .i64 node) := c0
    replace c1 : _ = some (Value.int .i64 frm) := c1
    replace c2 : _ = some (Value.slice A n c) := c2
    clear g0
    go_wp2_with (go_at_call 81; (with_reducible refine (within_any _ _ _).mono ?_); rintro e w1 ⟨rfl, rfl⟩; rw [HN.out])
    go_ret
    refine ⟨?_, hb⟩
    rw [HE.out]
    first | rfl | skip

set_option maxRecDepth 100000 in
set_option maxHeartbeats 2000000 in
theorem IndexProp (A : Option Addr) (n c : Nat) (kind id : Nat → Int) (pt : Nat → Nat → Nat) (B : Nat) (w : World) (h : Els w B A n 34 (fun i => propV (kind i) (id i) (pt i))) (hB : B ≤ w.heap.size) (hn : n ≤ 1099511627776) :
    Calls Try.prog 105 #[.slice A n c, .func (.func 83) #[] #[]] w fun e w' => (∃ r : Int, e = .returned (.int .i64 r) ∧ decide (0 ≤ r) = !decide (∀ i, i < n → OkProp (kind i) (id i) (pt i))) ∧ Below w.heap.size w w' := by
  have H0 := Lib.hid h
  clear h
  go_enter Try.func105, Try.ntmps105
  go_wp2
  go_loopg [8] n (fun r x wr => ∃ i : Nat, i + r = n ∧ x = .int .i64 i ∧ (∀ j, j < i → OkProp (kind j) (id j) (pt j)) ∧ Below w.heap.size w wr)
  case atStart => exact ⟨0, by omega, rfl, (fun j hj => absurd hj (by omega)), Below.refl _ _⟩
  case round =>
    obtain ⟨i, hi, rfl, hok, hb⟩ := hrel
    have HI := Lib.hid hi
    have HOK := Lib.hid hok
    clear hi hok
    by_cases hlt : i < n
    · obtain ⟨ad, rfl, hab, hc⟩ := (H0.out.below' hb hB).cell hlt
      skip
      go_wp2_with (first | (refine wpList_el rfl rfl Try.underlying34 (sz := 34) (by kernel_rfl) rfl rfl hlt ?_) | (refine wpList_load_at (n := 34) rfl rfl RTProp rfl hc ?_) | (go_at_call 83; fail))
      refine (badProp_any (kind i) (id i) (pt i) _).mono ?_
      rintro e w2 ⟨rfl, b2⟩
      by_cases hk : OkProp (kind i) (id i) (pt i)
      · rw [decide_eq_true hk]
        have HK := Lib.hid hk
        clear hk
        go_wp2
        go_roundg (gk - 1)
        case measure => have := HI.out; omega
        case rel =>
          have hI := HI.out
          refine ⟨i + 1, ?_, by go_num, all_succ HOK.out HK.out, hb.trans (b2.mono hb.size)⟩
          clear HK HOK H0
          omega
      · rw [decide_eq_false hk]
        have HE := Lib.hid (show decide (∀ i, i < n → OkProp (kind i) (id i) (pt i)) = false from decide_eq_false fun h => hk (h i hlt))
        clear hk
        go_wp2
        go_ret
        refine ⟨⟨_, rfl, ?_⟩, hb.trans (b2.mono hb.size)⟩
        rw [HE.out]
        show decide (0 ≤ (i : Int)) = _
        rw [decide_eq_true (by omega)]
        rfl
    · obtain rfl : i = n := by have := HI.out; omega
      have HE := Lib.hid (show decide (∀ j, j < i → OkProp (kind j) (id j) (pt j)) = true from decide_eq_true HOK.out)
      go_wp2
      go_ret
      refine ⟨⟨_, rfl, ?_⟩, hb⟩
      rw [HE.out]
      rfl
set_option maxRecDepth 100000 in
set_option maxHeartbeats 2000000 in
theorem ContainsProp (A : Option Addr) (n c : Nat) (kind id : Nat → Int) (pt : Nat → Nat → Nat) (B : Nat) (w : World) (h : Els w B A n 34 (fun i => propV (kind i) (id i) (pt i))) (hB : B ≤ w.heap.size) (hn : n ≤ 1099511627776) :
    Calls Try.prog 82 #[.slice A n c, .func (.func 83) #[] #[]] w fun e w' => e = .returned (.bool (!decide (∀ i, i < n → OkProp (kind i) (id i) (pt i)))) ∧ Below w.heap.size w w' := by
  have HC := Lib.hid (IndexProp A n c kind id pt B w h hB hn)
  clear h
  go_enter Try.func82, Try.ntmps82
  go_wp2_with (go_at_call 105; (with_reducible refine HC.out.mono ?_); rintro e w1 ⟨⟨r, rfl, hr⟩, hb⟩)
  go_ret
  first | exact ⟨rfl, hb⟩ | exact ⟨congrArg (fun b => Ending.returned (Value.bool b)) hr, hb⟩

set_option maxRecDepth 100000 in
set_option maxHeartbeats 2000000 in
theorem IndexStep (A : Option Addr) (n c : Nat) (node frm : Nat → Int) (DA : Nat → Option Addr) (dn dc : Nat → Nat) (dv : Nat → Nat → Int) (B : Nat) (w : World) (h : Els w B A n 3 (fun i => stepV (node i) (frm i) (DA i) (dn i) (dc i))) (HS : ∀ i, i < n → Els w B (DA i) (dn i) 1 (fun j _ => .int .i64 (dv i j))) (hB : B ≤ w.heap.size) (hn : n ≤ 1099511627776) :
    Calls Try.prog 106 #[.slice A n c, .func (.func 85) #[] #[]] w fun e w' => (∃ r : Int, e = .returned (.int .i64 r) ∧ decide (0 ≤ r) = !decide (∀ i, i < n → OkStep (node i) (frm i) (dn i) (dv i))) ∧ Below w.heap.size w w' := by
  have H0 := Lib.hid h
  clear h
  go_enter Try.func106, Try.ntmps106
  go_wp2
  go_loopg [8] n (fun r x wr => ∃ i : Nat, i + r = n ∧ x = .int .i64 i ∧ (∀ j, j < i → OkStep (node j) (frm j) (dn j) (dv j)) ∧ Below w.heap.size w wr)
  case atStart => exact ⟨0, by omega, rfl, (fun j hj => absurd hj (by omega)), Below.refl _ _⟩
  case round =>
    obtain ⟨i, hi, rfl, hok, hb⟩ := hrel
    have HI := Lib.hid hi
    have HOK := Lib.hid hok
    clear hi hok
    by_cases hlt : i < n
    · obtain ⟨ad, rfl, hab, hc⟩ := (H0.out.below' hb hB).cell hlt
      have HSi := (HS i hlt).below' hb hB
      go_wp2_with (first | (refine wpList_el rfl rfl Try.underlying37 (sz := 3) (by kernel_rfl) rfl rfl hlt ?_) | (refine wpList_load_at (n := 3) rfl rfl RTStep rfl hc ?_) | (go_at_call 85; fail))
      refine (badStep_any (node i) (frm i) (DA i) (dn i) (dc i) (dv i) B _ HSi (Nat.le_trans hB hb.size)).mono ?_
      rintro e w2 ⟨rfl, b2⟩
      by_cases hk : OkStep (node i) (frm i) (dn i) (dv i)
      · rw [decide_eq_true hk]
        have HK := Lib.hid hk
        clear hk
        go_wp2
        go_roundg (gk - 1)
        case measure => have := HI.out; omega
        case rel =>
          have hI := HI.out
          refine ⟨i + 1, ?_, by go_num, all_succ HOK.out HK.out, hb.trans (b2.mono hb.size)⟩
          clear HK HOK H0
          omega
      · rw [decide_eq_false hk]
        have HE := Lib.hid (show decide (∀ i, i < n → OkStep (node i) (frm i) (dn i) (dv i)) = false from decide_eq_false fun h => hk (h i hlt))
        clear hk
        go_wp2
        go_ret
        refine ⟨⟨_, rfl, ?_⟩, hb.trans (b2.mono hb.size)⟩
        rw [HE.out]
        show decide (0 ≤ (i : Int)) = _
        rw [decide_eq_true (by omega)]
        rfl
    · obtain rfl : i = n := by have := HI.out; omega
      have HE := Lib.hid (show decide (∀ j, j < i → OkStep (node j) (frm j) (dn j) (dv j)) = true from decide_eq_true HOK.out)
      go_wp2
      go_ret
      refine ⟨⟨_, rfl, ?_⟩, hb⟩
      rw [HE.out]
      rfl
set_option maxRecDepth 100000 in
set_option maxHeartbeats 2000000 in
theorem ContainsStep (A : Option Addr) (n c : Nat) (node frm : Nat → Int) (DA : Nat → Option Addr) (dn dc : Nat → Nat) (dv : Nat → Nat → Int) (B : Nat) (w : World) (h : Els w B A n 3 (fun i => stepV (node i) (frm i) (DA i) (dn i) (dc i))) (HS : ∀ i, i < n → Els w B (DA i) (dn i) 1 (fun j _ => .int .i64 (dv i j))) (hB : B ≤ w.heap.size) (hn : n ≤ 1099511627776) :
    Calls Try.prog 84 #[.slice A n c, .func (.func 85) #[] #[]] w fun e w' => e = .returned (.bool (!decide (∀ i, i < n → OkStep (node i) (frm i) (dn i) (dv i)))) ∧ Below w.heap.size w w' := by
  have HC := Lib.hid (IndexStep A n c node frm DA dn dc dv B w h HS hB hn)
  clear h HS
  go_enter Try.func84, Try.ntmps84
  go_wp2_with (go_at_call 106; (with_reducible refine HC.out.mono ?_); rintro e w1 ⟨⟨r, rfl, hr⟩, hb⟩)
  go_ret
  first | exact ⟨rfl, hb⟩ | exact ⟨congrArg (fun b => Ending.returned (Value.bool b)) hr, hb⟩

set_option maxRecDepth 100000 in
set_option maxHeartbeats 2000000 in
theorem IndexBox (A : Option Addr) (n c : Nat) (XA : Nat → Option Addr) (xn xc : Nat → Nat) (B : Nat) (w : World) (h : Els w B A n 1 (fun i _ => .slice (XA i) (xn i) (xc i))) (hB : B ≤ w.heap.size) (hn : n ≤ 1099511627776) :
    Calls Try.prog 108 #[.slice A n c, .func (.func 87) #[] #[]] w fun e w' => (∃ r : Int, e = .returned (.int .i64 r) ∧ decide (0 ≤ r) = !decide (∀ i, i < n → xn i ≤ 1000)) ∧ Below w.heap.size w w' := by
  have H0 := Lib.hid h
  clear h
  go_enter Try.func108, Try.ntmps108
  go_wp2
  go_loopg [8] n (fun r x wr => ∃ i : Nat, i + r = n ∧ x = .int .i64 i ∧ (∀ j, j < i → xn j ≤ 1000) ∧ Below w.heap.size w wr)
  case atStart => exact ⟨0, by omega, rfl, (fun j hj => absurd hj (by omega)), Below.refl _ _⟩
  case round =>
    obtain ⟨i, hi, rfl, hok, hb⟩ := hrel
    have HI := Lib.hid hi
    have HOK := Lib.hid hok
    clear hi hok
    by_cases hlt : i < n
    · obtain ⟨ad, rfl, hab, hc⟩ := (H0.out.below' hb hB).cell hlt
      replace hc : wr.cell? (ad.add (i * 1)) = some (.slice (XA i) (xn i) (xc i)) := by have := hc 0 (by omega); rwa [addr_add_zero] at this
      go_wp2_with (first | (refine wpList_el rfl rfl Try.underlying22 (sz := 1) (by kernel_rfl) rfl rfl hlt ?_) | (refine wpList_load1 rfl rfl Try.underlying23 rfl rfl hc ?_) | (go_at_call 87; fail))
      refine (badBox_any (XA i) (xn i) (xc i) _).mono ?_
      rintro e w2 ⟨rfl, rfl⟩
      by_cases hk : xn i ≤ 1000
      · rw [decide_eq_true hk]
        have HK := Lib.hid hk
        clear hk
        go_wp2
        go_roundg (gk - 1)
        case measure => have := HI.out; omega
        case rel =>
          have hI := HI.out
          refine ⟨i + 1, ?_, by go_num, all_succ HOK.out HK.out, hb⟩
          clear HK HOK H0
          omega
      · rw [decide_eq_false hk]
        have HE := Lib.hid (show decide (∀ i, i < n → xn i ≤ 1000) = false from decide_eq_false fun h => hk (h i hlt))
        clear hk
        go_wp2
        go_ret
        refine ⟨⟨_, rfl, ?_⟩, hb⟩
        rw [HE.out]
        show decide (0 ≤ (i : Int)) = _
        rw [decide_eq_true (by omega)]
        rfl
    · obtain rfl : i = n := by have := HI.out; omega
      have HE := Lib.hid (show decide (∀ j, j < i → xn j ≤ 1000) = true from decide_eq_true HOK.out)
      go_wp2
      go_ret
      refine ⟨⟨_, rfl, ?_⟩, hb⟩
      rw [HE.out]
      rfl
set_option maxRecDepth 100000 in
set_option maxHeartbeats 2000000 in
theorem ContainsBox (A : Option Addr) (n c : Nat) (XA : Nat → Option Addr) (xn xc : Nat → Nat) (B : Nat) (w : World) (h : Els w B A n 1 (fun i _ => .slice (XA i) (xn i) (xc i))) (hB : B ≤ w.heap.size) (hn : n ≤ 1099511627776) :
    Calls Try.prog 86 #[.slice A n c, .func (.func 87) #[] #[]] w fun e w' => e = .returned (.bool (!decide (∀ i, i < n → xn i ≤ 1000))) ∧ Below w.heap.size w w' := by
  have HC := Lib.hid (IndexBox A n c XA xn xc B w h hB hn)
  clear h
  go_enter Try.func86, Try.ntmps86
  go_wp2_with (go_at_call 108; (with_reducible refine HC.out.mono ?_); rintro e w1 ⟨⟨r, rfl, hr⟩, hb⟩)
  go_ret
  first | exact ⟨rfl, hb⟩ | exact ⟨congrArg (fun b => Ending.returned (Value.bool b)) hr, hb⟩
end Go.Proofs.Yteefhbpmeajbfaa
namespace Go.Proofs.Yteefhbpmeajbfaa
set_option linter.unusedSimpArgs false
set_option linter.unusedVariables false
open Go.RowKit
attribute [local irreducible] beL beK
theorem ZVStep : ZeroV Try.prog 84 3 #[.int .i64 0, .int .i64 0, .slice none 0 0] := ⟨by kernel_rfl, rfl⟩
def chk (c : Com) : Int := if OkCom c then 0 else 1
theorem chk_yes {c : Com} (h : OkCom c) : chk c = 0 := if_pos h
theorem chk_no {c : Com} (h : ¬ OkCom c) : chk c = 1 := if_neg h

set_option maxRecDepth 100000 in
set_option maxHeartbeats 4000000 in
theorem CheckCommit_any (c : Com) (tg : Nat → Nat) (B : Nat) (w : World) (h : ComOk w B c) (hB : B ≤ w.heap.size) (hf : MidC c) :
    Calls Try.prog 52 #[.agg (arrV 70 (comV c tg))] w fun e w' => e = .returned (.int .i64 (chk c)) ∧ Below w.heap.size w w' := by
  have H0 := Lib.hid h
  have HF := Lib.hid hf
  have hsn := hf.sn
  have hkn := hf.kn
  have hbn := hf.bn
  have hpn := hf.pn
  clear h hf
  go_enter Try.func52, Try.ntmps52
  have g0 := heap_alloc_new w (.cells (arrV 70 (comV c tg)) 40)
  have hb : Below w.heap.size w (w.alloc (.cells (arrV 70 (comV c tg)) 40)) := (Below.refl _ _).alloc (Nat.le_refl _) _
  have hz : (w.alloc (.cells (arrV 70 (comV c tg)) 40)).heap.size = w.heap.size + 1 := by simp
  have c35 := cell_arrV g0 35 (by omega)
  replace c35 : _ = some (Value.slice c.SA c.sn c.sc) := c35
  go_wp2
  go_loopg [3, 9] c.sn (fun r s x wr => ∃ i : Nat, i + r = c.sn ∧ x = .int .i64 i ∧ s = .int .i64 (sends c i : Nat) ∧ wr.heap[w.heap.size]? = some (.cells (arrV 70 (comV c tg)) 40 (0, 0)) ∧ Below w.heap.size w wr)
  case atStart => exact ⟨0, by omega, rfl, rfl, g0, hb⟩
  case round =>
    clear g0 hb c35 hz
    obtain ⟨i, hi, rfl, rfl, g0, hb⟩ := hrel
    have HI := Lib.hid hi
    clear hi
    by_cases hlt : i < c.sn
    · obtain ⟨ad, hA, hab, hc⟩ := (H0.out.steps.below' hb hB).cell hlt
      have hs1 := sends_le c HF.out i (by omega)
      have hd1 := HF.out.dn i hlt
      generalize hsc : sends c i = sc at hs1
      have HSC := Lib.hid hsc
      have HA := Lib.hid hA
      clear hsc hA
      go_wp2_with (first | (refine wpList_elA HA.out rfl rfl Try.underlying37 (sz := 3) (by kernel_rfl) rfl rfl hlt ?_) | (refine wpList_load_at (n := 3) rfl rfl RTStep rfl hc ?_) | (refine wpList_newV rfl rfl rfl rfl ZVStep RTStep rfl rfl (fun _ _ => stepV_one _ _ _ _ _ _) ?_; intro w2 g2 b2 hs2; have d2 := cell_arrV g2 2 (by omega); replace d2 : _ = some (Value.slice (c.DA i) (c.dn i) (c.dc i)) := d2))
      go_roundg (gk - 1)
      case measure => have := HI.out; omega
      case rel =>
        have hI := HI.out
        have hl := lt_of_block g0
        refine ⟨i + 1, by omega, by go_num, ?_, keep_below b2 hl g0, hb.trans (b2.mono hb.size)⟩
        show Value.int .i64 _ = Value.int .i64 ((sends c i + c.dn i : Nat) : Int)
        rw [HSC.out]
        go_num
    · obtain rfl : i = c.sn := by have := HI.out; omega
      have hs1 := sends_le c HF.out _ (Nat.le_refl _)
      have hBw : B ≤ wr.heap.size := Nat.le_trans hB hb.size
      have hok := H0.out.below hb hB
      have c0 := cell_arrV g0 0 (by omega)
      replace c0 : _ = some (Value.int .u64 (c.ep : Int)) := c0
      have c1 := cell_arrV g0 1 (by omega)
      replace c1 : _ = some (Value.int .i64 c.by_) := c1
      have c2 := cell_arrV g0 2 (by omega)
      replace c2 : _ = some (Value.slice c.PA c.pn c.pc) := c2
      have c35 := cell_arrV g0 35 (by omega)
      replace c35 : _ = some (Value.slice c.SA c.sn c.sc) := c35
      have c36 := cell_arrV g0 36 (by omega)
      replace c36 : _ = some (Value.slice c.KA c.kn c.kc) := c36
      have c37 := cell_arrV g0 37 (by omega)
      replace c37 : _ = some (Value.slice c.BA c.bn c.bc) := c37
      by_cases k1 : c.ep ≤ 1099511627776
      · by_cases k2 : 0 ≤ c.by_ ∧ c.by_ ≤ 1048576
        · by_cases k3 : c.pn ≤ 100
          · by_cases k4 : ∀ i, i < c.pn → OkProp (c.kind i) (c.id i) (c.ppt i)
            · by_cases k5 : c.sn ≤ 4000
              · by_cases k6 : c.kn = c.sn
                · by_cases k7 : ∀ i, i < c.sn → OkStep (c.node i) (c.frm i) (c.dn i) (c.dv i)
                  · by_cases k8 : sends c c.sn = c.bn
                    · by_cases k9 : ∀ i, i < c.bn → c.xn i ≤ 1000
                      · have E : chk c = 0 := chk_yes ⟨⟨k1, k2⟩, ⟨k3, k4⟩, ⟨k5, k6, k7⟩, k8, k9⟩
                        have HE := Lib.hid E
                        clear E
                        have k1n : (c.ep : Int) ≤ 1099511627776 := by omega
                        have Hk2 := Lib.hid (decide_eq_true k2)
                        have Hk4 := Lib.hid (decide_eq_true k4)
                        have Hk6 := Lib.hid k6
                        have k6n : decide ((c.kn : Int) = c.sn) = true := decide_eq_true (by omega)
                        have Hk7 := Lib.hid (decide_eq_true k7)
                        have Hk8 := Lib.hid k8
                        have k8n : decide (((sends c c.sn : Nat) : Int) = c.bn) = true := decide_eq_true (by omega)
                        have Hk9 := Lib.hid (decide_eq_true k9)
                        clear k1 k2 k4 k7 k9
                        go_wp2_with (first | (go_at_call 81; (with_reducible refine (within_any _ _ _).mono ?_); rintro e w2 ⟨rfl, rfl⟩; rw [Hk2.out]) | (go_at_call 82; (with_reducible refine (ContainsProp c.PA c.pn c.pc c.kind c.id c.ppt B _ hok.props hBw (by omega)).mono ?_); rintro e w4 ⟨rfl, b4⟩; rw [Hk4.out]; replace g0 := keep_below b4 (lt_of_block g0) g0; replace hok := hok.below b4 hBw; replace hb := hb.trans (b4.mono hb.size); replace hBw := Nat.le_trans hBw b4.size; replace c0 : w4.cell? ⟨w.heap.size, 0, none⟩ = some (Value.int .u64 (c.ep : Int)) := cell_arrV g0 0 (by omega); replace c1 : w4.cell? ⟨w.heap.size, 1, none⟩ = some (Value.int .i64 c.by_) := cell_arrV g0 1 (by omega); replace c2 : w4.cell? ⟨w.heap.size, 2, none⟩ = some (Value.slice c.PA c.pn c.pc) := cell_arrV g0 2 (by omega); replace c35 : w4.cell? ⟨w.heap.size, 35, none⟩ = some (Value.slice c.SA c.sn c.sc) := cell_arrV g0 35 (by omega); replace c36 : w4.cell? ⟨w.heap.size, 36, none⟩ = some (Value.slice c.KA c.kn c.kc) := cell_arrV g0 36 (by omega); replace c37 : w4.cell? ⟨w.heap.size, 37, none⟩ = some (Value.slice c.BA c.bn c.bc) := cell_arrV g0 37 (by omega)) | (go_at_call 84; (with_reducible refine (ContainsStep c.SA c.sn c.sc c.node c.frm c.DA c.dn c.dc c.dv B _ hok.steps hok.sends hBw (by omega)).mono ?_); rintro e w7 ⟨rfl, b7⟩; rw [Hk7.out]; replace g0 := keep_below b7 (lt_of_block g0) g0; replace hok := hok.below b7 hBw; replace hb := hb.trans (b7.mono hb.size); replace hBw := Nat.le_trans hBw b7.size; replace c0 : w7.cell? ⟨w.heap.size, 0, none⟩ = some (Value.int .u64 (c.ep : Int)) := cell_arrV g0 0 (by omega); replace c1 : w7.cell? ⟨w.heap.size, 1, none⟩ = some (Value.int .i64 c.by_) := cell_arrV g0 1 (by omega); replace c2 : w7.cell? ⟨w.heap.size, 2, none⟩ = some (Value.slice c.PA c.pn c.pc) := cell_arrV g0 2 (by omega); replace c35 : w7.cell? ⟨w.heap.size, 35, none⟩ = some (Value.slice c.SA c.sn c.sc) := cell_arrV g0 35 (by omega); replace c36 : w7.cell? ⟨w.heap.size, 36, none⟩ = some (Value.slice c.KA c.kn c.kc) := cell_arrV g0 36 (by omega); replace c37 : w7.cell? ⟨w.heap.size, 37, none⟩ = some (Value.slice c.BA c.bn c.bc) := cell_arrV g0 37 (by omega)) | (go_at_call 86; (with_reducible refine (ContainsBox c.BA c.bn c.bc c.XA c.xn c.xc B _ hok.boxes hBw (by omega)).mono ?_); rintro e w9 ⟨rfl, b9⟩; rw [Hk9.out]; replace g0 := keep_below b9 (lt_of_block g0) g0; replace hok := hok.below b9 hBw; replace hb := hb.trans (b9.mono hb.size); replace hBw := Nat.le_trans hBw b9.size; replace c0 : w9.cell? ⟨w.heap.size, 0, none⟩ = some (Value.int .u64 (c.ep : Int)) := cell_arrV g0 0 (by omega); replace c1 : w9.cell? ⟨w.heap.size, 1, none⟩ = some (Value.int .i64 c.by_) := cell_arrV g0 1 (by omega); replace c2 : w9.cell? ⟨w.heap.size, 2, none⟩ = some (Value.slice c.PA c.pn c.pc) := cell_arrV g0 2 (by omega); replace c35 : w9.cell? ⟨w.heap.size, 35, none⟩ = some (Value.slice c.SA c.sn c.sc) := cell_arrV g0 35 (by omega); replace c36 : w9.cell? ⟨w.heap.size, 36, none⟩ = some (Value.slice c.KA c.kn c.kc) := cell_arrV g0 36 (by omega); replace c37 : w9.cell? ⟨w.heap.size, 37, none⟩ = some (Value.slice c.BA c.bn c.bc) := cell_arrV g0 37 (by omega)))
                        go_ret
                        refine ⟨?_, hb⟩
                        rw [HE.out]
                        rfl
                      · have E : chk c = 1 := chk_no fun h => k9 h.2.2.2.2
                        have HE := Lib.hid E
                        clear E
                        have k1n : (c.ep : Int) ≤ 1099511627776 := by omega
                        have Hk2 := Lib.hid (decide_eq_true k2)
                        have Hk4 := Lib.hid (decide_eq_true k4)
                        have Hk6 := Lib.hid k6
                        have k6n : decide ((c.kn : Int) = c.sn) = true := decide_eq_true (by omega)
                        have Hk7 := Lib.hid (decide_eq_true k7)
                        have Hk8 := Lib.hid k8
                        have k8n : decide (((sends c c.sn : Nat) : Int) = c.bn) = true := decide_eq_true (by omega)
                        have Hk9 := Lib.hid (decide_eq_false k9)
                        clear k1 k2 k4 k7 k9
                        go_wp2_with (first | (go_at_call 81; (with_reducible refine (within_any _ _ _).mono ?_); rintro e w2 ⟨rfl, rfl⟩; rw [Hk2.out]) | (go_at_call 82; (with_reducible refine (ContainsProp c.PA c.pn c.pc c.kind c.id c.ppt B _ hok.props hBw (by omega)).mono ?_); rintro e w4 ⟨rfl, b4⟩; rw [Hk4.out]; replace g0 := keep_below b4 (lt_of_block g0) g0; replace hok := hok.below b4 hBw; replace hb := hb.trans (b4.mono hb.size); replace hBw := Nat.le_trans hBw b4.size; replace c0 : w4.cell? ⟨w.heap.size, 0, none⟩ = some (Value.int .u64 (c.ep : Int)) := cell_arrV g0 0 (by omega); replace c1 : w4.cell? ⟨w.heap.size, 1, none⟩ = some (Value.int .i64 c.by_) := cell_arrV g0 1 (by omega); replace c2 : w4.cell? ⟨w.heap.size, 2, none⟩ = some (Value.slice c.PA c.pn c.pc) := cell_arrV g0 2 (by omega); replace c35 : w4.cell? ⟨w.heap.size, 35, none⟩ = some (Value.slice c.SA c.sn c.sc) := cell_arrV g0 35 (by omega); replace c36 : w4.cell? ⟨w.heap.size, 36, none⟩ = some (Value.slice c.KA c.kn c.kc) := cell_arrV g0 36 (by omega); replace c37 : w4.cell? ⟨w.heap.size, 37, none⟩ = some (Value.slice c.BA c.bn c.bc) := cell_arrV g0 37 (by omega)) | (go_at_call 84; (with_reducible refine (ContainsStep c.SA c.sn c.sc c.node c.frm c.DA c.dn c.dc c.dv B _ hok.steps hok.sends hBw (by omega)).mono ?_); rintro e w7 ⟨rfl, b7⟩; rw [Hk7.out]; replace g0 := keep_below b7 (lt_of_block g0) g0; replace hok := hok.below b7 hBw; replace hb := hb.trans (b7.mono hb.size); replace hBw := Nat.le_trans hBw b7.size; replace c0 : w7.cell? ⟨w.heap.size, 0, none⟩ = some (Value.int .u64 (c.ep : Int)) := cell_arrV g0 0 (by omega); replace c1 : w7.cell? ⟨w.heap.size, 1, none⟩ = some (Value.int .i64 c.by_) := cell_arrV g0 1 (by omega); replace c2 : w7.cell? ⟨w.heap.size, 2, none⟩ = some (Value.slice c.PA c.pn c.pc) := cell_arrV g0 2 (by omega); replace c35 : w7.cell? ⟨w.heap.size, 35, none⟩ = some (Value.slice c.SA c.sn c.sc) := cell_arrV g0 35 (by omega); replace c36 : w7.cell? ⟨w.heap.size, 36, none⟩ = some (Value.slice c.KA c.kn c.kc) := cell_arrV g0 36 (by omega); replace c37 : w7.cell? ⟨w.heap.size, 37, none⟩ = some (Value.slice c.BA c.bn c.bc) := cell_arrV g0 37 (by omega)) | (go_at_call 86; (with_reducible refine (ContainsBox c.BA c.bn c.bc c.XA c.xn c.xc B _ hok.boxes hBw (by omega)).mono ?_); rintro e w9 ⟨rfl, b9⟩; rw [Hk9.out]; replace g0 := keep_below b9 (lt_of_block g0) g0; replace hok := hok.below b9 hBw; replace hb := hb.trans (b9.mono hb.size); replace hBw := Nat.le_trans hBw b9.size; replace c0 : w9.cell? ⟨w.heap.size, 0, none⟩ = some (Value.int .u64 (c.ep : Int)) := cell_arrV g0 0 (by omega); replace c1 : w9.cell? ⟨w.heap.size, 1, none⟩ = some (Value.int .i64 c.by_) := cell_arrV g0 1 (by omega); replace c2 : w9.cell? ⟨w.heap.size, 2, none⟩ = some (Value.slice c.PA c.pn c.pc) := cell_arrV g0 2 (by omega); replace c35 : w9.cell? ⟨w.heap.size, 35, none⟩ = some (Value.slice c.SA c.sn c.sc) := cell_arrV g0 35 (by omega); replace c36 : w9.cell? ⟨w.heap.size, 36, none⟩ = some (Value.slice c.KA c.kn c.kc) := cell_arrV g0 36 (by omega); replace c37 : w9.cell? ⟨w.heap.size, 37, none⟩ = some (Value.slice c.BA c.bn c.bc) := cell_arrV g0 37 (by omega)))
                        go_ret
                        refine ⟨?_, hb⟩
                        rw [HE.out]
                        rfl
                    · have E : chk c = 1 := chk_no fun h => k8 h.2.2.2.1
                      have HE := Lib.hid E
                      clear E
                      have k1n : (c.ep : Int) ≤ 1099511627776 := by omega
                      have Hk2 := Lib.hid (decide_eq_true k2)
                      have Hk4 := Lib.hid (decide_eq_true k4)
                      have Hk6 := Lib.hid k6
                      have k6n : decide ((c.kn : Int) = c.sn) = true := decide_eq_true (by omega)
                      have Hk7 := Lib.hid (decide_eq_true k7)
                      have Hk8 := Lib.hid k8
                      have k8n : decide (((sends c c.sn : Nat) : Int) = c.bn) = false := decide_eq_false (by omega)
                      clear k1 k2 k4 k7
                      go_wp2_with (first | (go_at_call 81; (with_reducible refine (within_any _ _ _).mono ?_); rintro e w2 ⟨rfl, rfl⟩; rw [Hk2.out]) | (go_at_call 82; (with_reducible refine (ContainsProp c.PA c.pn c.pc c.kind c.id c.ppt B _ hok.props hBw (by omega)).mono ?_); rintro e w4 ⟨rfl, b4⟩; rw [Hk4.out]; replace g0 := keep_below b4 (lt_of_block g0) g0; replace hok := hok.below b4 hBw; replace hb := hb.trans (b4.mono hb.size); replace hBw := Nat.le_trans hBw b4.size; replace c0 : w4.cell? ⟨w.heap.size, 0, none⟩ = some (Value.int .u64 (c.ep : Int)) := cell_arrV g0 0 (by omega); replace c1 : w4.cell? ⟨w.heap.size, 1, none⟩ = some (Value.int .i64 c.by_) := cell_arrV g0 1 (by omega); replace c2 : w4.cell? ⟨w.heap.size, 2, none⟩ = some (Value.slice c.PA c.pn c.pc) := cell_arrV g0 2 (by omega); replace c35 : w4.cell? ⟨w.heap.size, 35, none⟩ = some (Value.slice c.SA c.sn c.sc) := cell_arrV g0 35 (by omega); replace c36 : w4.cell? ⟨w.heap.size, 36, none⟩ = some (Value.slice c.KA c.kn c.kc) := cell_arrV g0 36 (by omega); replace c37 : w4.cell? ⟨w.heap.size, 37, none⟩ = some (Value.slice c.BA c.bn c.bc) := cell_arrV g0 37 (by omega)) | (go_at_call 84; (with_reducible refine (ContainsStep c.SA c.sn c.sc c.node c.frm c.DA c.dn c.dc c.dv B _ hok.steps hok.sends hBw (by omega)).mono ?_); rintro e w7 ⟨rfl, b7⟩; rw [Hk7.out]; replace g0 := keep_below b7 (lt_of_block g0) g0; replace hok := hok.below b7 hBw; replace hb := hb.trans (b7.mono hb.size); replace hBw := Nat.le_trans hBw b7.size; replace c0 : w7.cell? ⟨w.heap.size, 0, none⟩ = some (Value.int .u64 (c.ep : Int)) := cell_arrV g0 0 (by omega); replace c1 : w7.cell? ⟨w.heap.size, 1, none⟩ = some (Value.int .i64 c.by_) := cell_arrV g0 1 (by omega); replace c2 : w7.cell? ⟨w.heap.size, 2, none⟩ = some (Value.slice c.PA c.pn c.pc) := cell_arrV g0 2 (by omega); replace c35 : w7.cell? ⟨w.heap.size, 35, none⟩ = some (Value.slice c.SA c.sn c.sc) := cell_arrV g0 35 (by omega); replace c36 : w7.cell? ⟨w.heap.size, 36, none⟩ = some (Value.slice c.KA c.kn c.kc) := cell_arrV g0 36 (by omega); replace c37 : w7.cell? ⟨w.heap.size, 37, none⟩ = some (Value.slice c.BA c.bn c.bc) := cell_arrV g0 37 (by omega)))
                      go_ret
                      refine ⟨?_, hb⟩
                      rw [HE.out]
                      rfl
                  · have E : chk c = 1 := chk_no fun h => k7 h.2.2.1.2.2
                    have HE := Lib.hid E
                    clear E
                    have k1n : (c.ep : Int) ≤ 1099511627776 := by omega
                    have Hk2 := Lib.hid (decide_eq_true k2)
                    have Hk4 := Lib.hid (decide_eq_true k4)
                    have Hk6 := Lib.hid k6
                    have k6n : decide ((c.kn : Int) = c.sn) = true := decide_eq_true (by omega)
                    have Hk7 := Lib.hid (decide_eq_false k7)
                    clear k1 k2 k4 k7
                    go_wp2_with (first | (go_at_call 81; (with_reducible refine (within_any _ _ _).mono ?_); rintro e w2 ⟨rfl, rfl⟩; rw [Hk2.out]) | (go_at_call 82; (with_reducible refine (ContainsProp c.PA c.pn c.pc c.kind c.id c.ppt B _ hok.props hBw (by omega)).mono ?_); rintro e w4 ⟨rfl, b4⟩; rw [Hk4.out]; replace g0 := keep_below b4 (lt_of_block g0) g0; replace hok := hok.below b4 hBw; replace hb := hb.trans (b4.mono hb.size); replace hBw := Nat.le_trans hBw b4.size; replace c0 : w4.cell? ⟨w.heap.size, 0, none⟩ = some (Value.int .u64 (c.ep : Int)) := cell_arrV g0 0 (by omega); replace c1 : w4.cell? ⟨w.heap.size, 1, none⟩ = some (Value.int .i64 c.by_) := cell_arrV g0 1 (by omega); replace c2 : w4.cell? ⟨w.heap.size, 2, none⟩ = some (Value.slice c.PA c.pn c.pc) := cell_arrV g0 2 (by omega); replace c35 : w4.cell? ⟨w.heap.size, 35, none⟩ = some (Value.slice c.SA c.sn c.sc) := cell_arrV g0 35 (by omega); replace c36 : w4.cell? ⟨w.heap.size, 36, none⟩ = some (Value.slice c.KA c.kn c.kc) := cell_arrV g0 36 (by omega); replace c37 : w4.cell? ⟨w.heap.size, 37, none⟩ = some (Value.slice c.BA c.bn c.bc) := cell_arrV g0 37 (by omega)) | (go_at_call 84; (with_reducible refine (ContainsStep c.SA c.sn c.sc c.node c.frm c.DA c.dn c.dc c.dv B _ hok.steps hok.sends hBw (by omega)).mono ?_); rintro e w7 ⟨rfl, b7⟩; rw [Hk7.out]; replace g0 := keep_below b7 (lt_of_block g0) g0; replace hok := hok.below b7 hBw; replace hb := hb.trans (b7.mono hb.size); replace hBw := Nat.le_trans hBw b7.size; replace c0 : w7.cell? ⟨w.heap.size, 0, none⟩ = some (Value.int .u64 (c.ep : Int)) := cell_arrV g0 0 (by omega); replace c1 : w7.cell? ⟨w.heap.size, 1, none⟩ = some (Value.int .i64 c.by_) := cell_arrV g0 1 (by omega); replace c2 : w7.cell? ⟨w.heap.size, 2, none⟩ = some (Value.slice c.PA c.pn c.pc) := cell_arrV g0 2 (by omega); replace c35 : w7.cell? ⟨w.heap.size, 35, none⟩ = some (Value.slice c.SA c.sn c.sc) := cell_arrV g0 35 (by omega); replace c36 : w7.cell? ⟨w.heap.size, 36, none⟩ = some (Value.slice c.KA c.kn c.kc) := cell_arrV g0 36 (by omega); replace c37 : w7.cell? ⟨w.heap.size, 37, none⟩ = some (Value.slice c.BA c.bn c.bc) := cell_arrV g0 37 (by omega)))
                    go_ret
                    refine ⟨?_, hb⟩
                    rw [HE.out]
                    rfl
                · have E : chk c = 1 := chk_no fun h => k6 h.2.2.1.2.1
                  have HE := Lib.hid E
                  clear E
                  have k1n : (c.ep : Int) ≤ 1099511627776 := by omega
                  have Hk2 := Lib.hid (decide_eq_true k2)
                  have Hk4 := Lib.hid (decide_eq_true k4)
                  have Hk6 := Lib.hid k6
                  have k6n : decide ((c.kn : Int) = c.sn) = false := decide_eq_false (by omega)
                  clear k1 k2 k4
                  go_wp2_with (first | (go_at_call 81; (with_reducible refine (within_any _ _ _).mono ?_); rintro e w2 ⟨rfl, rfl⟩; rw [Hk2.out]) | (go_at_call 82; (with_reducible refine (ContainsProp c.PA c.pn c.pc c.kind c.id c.ppt B _ hok.props hBw (by omega)).mono ?_); rintro e w4 ⟨rfl, b4⟩; rw [Hk4.out]; replace g0 := keep_below b4 (lt_of_block g0) g0; replace hok := hok.below b4 hBw; replace hb := hb.trans (b4.mono hb.size); replace hBw := Nat.le_trans hBw b4.size; replace c0 : w4.cell? ⟨w.heap.size, 0, none⟩ = some (Value.int .u64 (c.ep : Int)) := cell_arrV g0 0 (by omega); replace c1 : w4.cell? ⟨w.heap.size, 1, none⟩ = some (Value.int .i64 c.by_) := cell_arrV g0 1 (by omega); replace c2 : w4.cell? ⟨w.heap.size, 2, none⟩ = some (Value.slice c.PA c.pn c.pc) := cell_arrV g0 2 (by omega); replace c35 : w4.cell? ⟨w.heap.size, 35, none⟩ = some (Value.slice c.SA c.sn c.sc) := cell_arrV g0 35 (by omega); replace c36 : w4.cell? ⟨w.heap.size, 36, none⟩ = some (Value.slice c.KA c.kn c.kc) := cell_arrV g0 36 (by omega); replace c37 : w4.cell? ⟨w.heap.size, 37, none⟩ = some (Value.slice c.BA c.bn c.bc) := cell_arrV g0 37 (by omega)))
                  go_ret
                  refine ⟨?_, hb⟩
                  rw [HE.out]
                  rfl
              · have E : chk c = 1 := chk_no fun h => k5 h.2.2.1.1
                have HE := Lib.hid E
                clear E
                have k1n : (c.ep : Int) ≤ 1099511627776 := by omega
                have Hk2 := Lib.hid (decide_eq_true k2)
                have Hk4 := Lib.hid (decide_eq_true k4)
                clear k1 k2 k4
                go_wp2_with (first | (go_at_call 81; (with_reducible refine (within_any _ _ _).mono ?_); rintro e w2 ⟨rfl, rfl⟩; rw [Hk2.out]) | (go_at_call 82; (with_reducible refine (ContainsProp c.PA c.pn c.pc c.kind c.id c.ppt B _ hok.props hBw (by omega)).mono ?_); rintro e w4 ⟨rfl, b4⟩; rw [Hk4.out]; replace g0 := keep_below b4 (lt_of_block g0) g0; replace hok := hok.below b4 hBw; replace hb := hb.trans (b4.mono hb.size); replace hBw := Nat.le_trans hBw b4.size; replace c0 : w4.cell? ⟨w.heap.size, 0, none⟩ = some (Value.int .u64 (c.ep : Int)) := cell_arrV g0 0 (by omega); replace c1 : w4.cell? ⟨w.heap.size, 1, none⟩ = some (Value.int .i64 c.by_) := cell_arrV g0 1 (by omega); replace c2 : w4.cell? ⟨w.heap.size, 2, none⟩ = some (Value.slice c.PA c.pn c.pc) := cell_arrV g0 2 (by omega); replace c35 : w4.cell? ⟨w.heap.size, 35, none⟩ = some (Value.slice c.SA c.sn c.sc) := cell_arrV g0 35 (by omega); replace c36 : w4.cell? ⟨w.heap.size, 36, none⟩ = some (Value.slice c.KA c.kn c.kc) := cell_arrV g0 36 (by omega); replace c37 : w4.cell? ⟨w.heap.size, 37, none⟩ = some (Value.slice c.BA c.bn c.bc) := cell_arrV g0 37 (by omega)))
                go_ret
                refine ⟨?_, hb⟩
                rw [HE.out]
                rfl
            · have E : chk c = 1 := chk_no fun h => k4 h.2.1.2
              have HE := Lib.hid E
              clear E
              have k1n : (c.ep : Int) ≤ 1099511627776 := by omega
              have Hk2 := Lib.hid (decide_eq_true k2)
              have Hk4 := Lib.hid (decide_eq_false k4)
              clear k1 k2 k4
              go_wp2_with (first | (go_at_call 81; (with_reducible refine (within_any _ _ _).mono ?_); rintro e w2 ⟨rfl, rfl⟩; rw [Hk2.out]) | (go_at_call 82; (with_reducible refine (ContainsProp c.PA c.pn c.pc c.kind c.id c.ppt B _ hok.props hBw (by omega)).mono ?_); rintro e w4 ⟨rfl, b4⟩; rw [Hk4.out]; replace g0 := keep_below b4 (lt_of_block g0) g0; replace hok := hok.below b4 hBw; replace hb := hb.trans (b4.mono hb.size); replace hBw := Nat.le_trans hBw b4.size; replace c0 : w4.cell? ⟨w.heap.size, 0, none⟩ = some (Value.int .u64 (c.ep : Int)) := cell_arrV g0 0 (by omega); replace c1 : w4.cell? ⟨w.heap.size, 1, none⟩ = some (Value.int .i64 c.by_) := cell_arrV g0 1 (by omega); replace c2 : w4.cell? ⟨w.heap.size, 2, none⟩ = some (Value.slice c.PA c.pn c.pc) := cell_arrV g0 2 (by omega); replace c35 : w4.cell? ⟨w.heap.size, 35, none⟩ = some (Value.slice c.SA c.sn c.sc) := cell_arrV g0 35 (by omega); replace c36 : w4.cell? ⟨w.heap.size, 36, none⟩ = some (Value.slice c.KA c.kn c.kc) := cell_arrV g0 36 (by omega); replace c37 : w4.cell? ⟨w.heap.size, 37, none⟩ = some (Value.slice c.BA c.bn c.bc) := cell_arrV g0 37 (by omega)))
              go_ret
              refine ⟨?_, hb⟩
              rw [HE.out]
              rfl
          · have E : chk c = 1 := chk_no fun h => k3 h.2.1.1
            have HE := Lib.hid E
            clear E
            have k1n : (c.ep : Int) ≤ 1099511627776 := by omega
            have Hk2 := Lib.hid (decide_eq_true k2)
            clear k1 k2
            go_wp2_with (first | (go_at_call 81; (with_reducible refine (within_any _ _ _).mono ?_); rintro e w2 ⟨rfl, rfl⟩; rw [Hk2.out]))
            go_ret
            refine ⟨?_, hb⟩
            rw [HE.out]
            rfl
        · have E : chk c = 1 := chk_no fun h => k2 h.1.2
          have HE := Lib.hid E
          clear E
          have k1n : (c.ep : Int) ≤ 1099511627776 := by omega
          have Hk2 := Lib.hid (decide_eq_false k2)
          clear k1 k2
          go_wp2_with (first | (go_at_call 81; (with_reducible refine (within_any _ _ _).mono ?_); rintro e w2 ⟨rfl, rfl⟩; rw [Hk2.out]))
          go_ret
          refine ⟨?_, hb⟩
          rw [HE.out]
          rfl
      · have E : chk c = 1 := chk_no fun h => k1 h.1.1
        have HE := Lib.hid E
        clear E
        have k1n : 1099511627776 < (c.ep : Int) := by omega
        clear k1
        go_wp2
        go_ret
        refine ⟨?_, hb⟩
        rw [HE.out]
        rfl
end Go.Proofs.Yteefhbpmeajbfaa
namespace Go.Proofs.Yteefhbpmeajbfaa
set_option linter.unusedSimpArgs false
set_option linter.unusedVariables false
open Go.RowKit
attribute [local irreducible] beL beK
/-- Nothing is told, and why. -/
def RetErr (w : World) (x : Int) (e : Ending) (w' : World) : Prop := e = .returned (.tuple #[.slice none 0 0, .int .i64 x]) ∧ Below w.heap.size w w'
theorem beL_one (n : Nat) (h : n < 256) : beL 1 n = [n] := by
  rw [beL_cons, beL_zero, Nat.mul_zero, Nat.pow_zero, Nat.div_one, Nat.mod_eq_of_lt h]

end Go.Proofs.Yteefhbpmeajbfaa
