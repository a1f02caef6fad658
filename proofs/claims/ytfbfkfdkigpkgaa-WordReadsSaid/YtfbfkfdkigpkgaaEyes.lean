/- Rows of a call's own, of elements of any kind: one more. No program is in sight. The walks of layer 16's eye: a number is taken; bytes are cut off; a key is read. The walks of layer 16's eye: keys, texts, proposals. The walks of layer 16's eye: so many proposals, keys, numbers, steps, texts. -/
import Derived.Test.YtfbfkfdkigpkgaaElt
import Derived.Test.YtfbfkfdkigpkgaaIdx
import Derived.Test.YtfbfkfdkigpkgaaPar
import Derived.Test.YtfbfkfdkigpkgaaCut
import Derived.Test.YtfbfkfdkigpkgaaCln
import Derived.Test.YtfbfkfdkigpkgaaPen
import Derived.Laws.Bits64b
import Derived.Test.YtfbfkfdkigpkgaaBad
namespace Go.Proofs.Ytfbfkfdkigpkgaa
set_option linter.unusedSimpArgs false
set_option linter.unusedVariables false
open Go.RowKit

/-- The types of slices of elements of so many cells, and so many bytes. -/
structure ElT (P : Program) (t e : TypeId) (sz by_ : Nat) : Prop where
  sl : P.underlying t = some (.slice e)
  info : (P.info? e).map (fun i => (i.zero.map (·.cells.size), i.size, i.bytes)) = some (some sz, sz, by_)
/-- The cells of a list of elements. -/
def cellsOf {α : Type} (sz : Nat) (F : α → Nat → Value) (l : List α) : List Value := l.flatMap fun x => (arrV sz (F x)).toList
section
variable {α : Type} {sz : Nat} {F : α → Nat → Value}
theorem cellsOf_snoc (l : List α) (x : α) : cellsOf sz F (l ++ [x]) = cellsOf sz F l ++ (arrV sz (F x)).toList := by unfold cellsOf; rw [List.flatMap_append]; simp
theorem cellsOf_len (l : List α) : (cellsOf sz F l).length = l.length * sz := by
  unfold cellsOf
  induction l with
  | nil => simp
  | cons x l ih => rw [List.flatMap_cons, List.length_append, ih, List.length_cons, Nat.succ_mul]; simp [arrV_size]; omega
theorem cellsOf_at : ∀ (l : List α) (i j : Nat) (x : α), l[i]? = some x → j < sz → (cellsOf sz F l)[i * sz + j]? = some (F x j)
  | [], i, j, x, h, _ => by simp at h
  | y :: l, 0, j, x, h, hj => by
    obtain rfl : y = x := by simpa using h
    unfold cellsOf
    rw [List.flatMap_cons, Nat.zero_mul, Nat.zero_add, List.getElem?_append_left (by simp [arrV_size]; exact hj)]
    simp [arrV, hj]
  | y :: l, i + 1, j, x, h, hj => by
    have ih := cellsOf_at l i j x (by simpa using h) hj
    unfold cellsOf at *
    rw [List.flatMap_cons, List.getElem?_append_right (by simp [arrV_size]; rw [Nat.succ_mul]; omega)]
    rw [show (i + 1) * sz + j - (arrV sz (F y)).toList.length = i * sz + j from by simp [arrV_size]; rw [Nat.succ_mul]; omega]
    exact ih
/-- A row of a call's own, as elements that are read. -/
theorem own_els {w : World} {base n : Nat} {e : TypeId} {v : Value} {l : List α} (h : w.ownsRow base e sz v n (cellsOf sz F l)) (hn : n = l.length) (G : Nat → Nat → Value) (hG : ∀ i x, l[i]? = some x → ∀ j, j < sz → G i j = F x j) : ∃ A c, v = .slice A n c ∧ n ≤ c + 0 ∧ Els w w.heap.size A n sz G := by
  have hl := h
  rcases h.2 with ⟨rfl, h0⟩ | ⟨g, cap, cur, rfl, hb, hh, hn', hm, hs, ht⟩
  · exact ⟨none, 0, by rw [h0], by omega, ⟨fun hn => absurd hn (by omega)⟩⟩
  · refine ⟨some ⟨g, 0, none⟩, cap, rfl, by omega, ⟨fun _ => ⟨_, rfl, lt_of_block hh, fun i j hi hj => ?_⟩⟩⟩
    obtain ⟨x, hx⟩ : ∃ x, l[i]? = some x := ⟨l[i]'(by omega), List.getElem?_eq_getElem (by omega)⟩
    exact hl.cells (g := g) rfl (i * sz + j) (G i j) (by rw [hG i x hx j hj]; exact cellsOf_at l i j x hx hj)
end
section
variable {P : Program} {w : World} {o : Oper} {a : Act} {ops : Array Oper} {rest : List Oper} {Q : Exit → Act → World → Prop}
theorem run_append_el {t e ty : TypeId} {sz by_ : Nat} (hT : ElT P t e sz by_) (h0 : 0 < sz) {base n b : Nat} {v : Value} {xs : List Value} {f : Nat → Value} (hown : w.ownsRow base e sz v n xs) (hb : w.heap[b]? = some (.cells (arrV sz f) e (0, 0))) (h1 : ∀ i, i < sz → (f i).oneCell' = true)
    (hn : n + 1 ≤ 70368744177664) (hby : (n + 1) * by_ ≤ 140737488355328) (hbase : base ≤ w.heap.size) :
    ∃ v' w', (Builtin.append_ #[t, t] ty #[v, .slice (some ⟨b, 0, none⟩) 1 1]).run P w = .ok v' w' ∧ w'.ownsRow base e sz v' (n + 1) (xs ++ (arrV sz f).toList) ∧ w.grownBy w' v.ownBlock ∧ (v'.ownBlock = v.ownBlock ∨ v'.ownBlock = some w.heap.size) := by
  have hinfo := hT.info
  cases hi : P.info? e with
  | none => rw [hi] at hinfo; cases hinfo
  | some i =>
    rw [hi] at hinfo
    simp only [Option.map_some, Option.some.injEq, Prod.mk.injEq] at hinfo
    obtain ⟨hz, hs, hbt⟩ := hinfo
    cases hzz : i.zero with
    | none => rw [hzz] at hz; cases hz
    | some z =>
      rw [hzz] at hz
      simp only [Option.map_some, Option.some.injEq] at hz
      obtain ⟨v', w', hrun, h5, h6, _, h7⟩ := run_append_own_at (P := P) w base t ty e i z sz by_ hT.sl hi hzz hs hbt hz h0 v n xs hown ⟨b, 0, none⟩ 1 1 (arrV sz f).toList (by simp [arrV_size])
        (fun j u hu => by
          have hj : j < sz := by
            have := (List.getElem?_eq_some_iff.1 hu).1
            simpa [arrV_size] using this
          rw [addr_add, cell_of_row _ _ _ _ _ _ hb, ← Array.getElem?_toList, Nat.zero_add]
          exact hu)
        (fun u hu => by
          simp only [arrV, List.mem_map] at hu
          obtain ⟨i, hi, rfl⟩ := hu
          exact h1 i (List.mem_range.1 hi)) (by unfold maxLen; omega) hby hbase
      exact ⟨v', w', hrun, h5, h6, h7⟩
theorem wpList_append_el {t e : TypeId} {sz by_ : Nat} {s x : Operand} (hgd : o.guard = none) (ho : o.op = .call { callee := .builtin .append, args := #[s, x], argTypes := #[t, t] })
    (hT : ElT P t e sz by_) (h0 : 0 < sz) {base n b : Nat} {v : Value} {xs : List Value} {f : Nat → Value} (hs : a.eval s = v) (hx : a.eval x = .slice (some ⟨b, 0, none⟩) 1 1) (hown : w.ownsRow base e sz v n xs) (hb : w.heap[b]? = some (.cells (arrV sz f) e (0, 0))) (h1 : ∀ i, i < sz → (f i).oneCell' = true)
    (hn : n + 1 ≤ 70368744177664) (hby : (n + 1) * by_ ≤ 140737488355328) (hbase : base ≤ w.heap.size)
    (h : ∀ v' w', w'.ownsRow base e sz v' (n + 1) (xs ++ (arrV sz f).toList) → w.grownBy w' v.ownBlock → (v'.ownBlock = v.ownBlock ∨ v'.ownBlock = some w.heap.size) → wpList P ops Q rest (a.put o.dst v') w') : wpList P ops Q (o :: rest) a w := by
  obtain ⟨v', w', hrun, h2, h3, h4⟩ := run_append_el (P := P) (ty := o.type) hT h0 hown hb h1 hn hby hbase
  refine wpList_plain hgd fun K hK => ?_
  unfold Oper.wp execOp
  simp only [ho, resolve, invoke, builtin, Sem.run_bind, Sem.run_pure, Result.andThen_ok, List.map_toArray, List.map_cons, List.map_nil, hs, hx, hrun]
  exact hK _ _ (h v' w' h2 h3 h4)
/-- A slice literal of one element, and it, added to a row of the call's own. -/
theorem wpList_add_el {t e : TypeId} {sz by_ : Nat} {o' : Oper} {parts : Array (Nat × Operand)} {l : List (Nat × Value)} {s x : Operand} (hgd : o.guard = none) (hgd' : o'.guard = none) (ho : o.op = .buildSlice t 1 parts) (ho' : o'.op = .call { callee := .builtin .append, args := #[s, x], argTypes := #[t, t] })
    (hT : ElT P t e sz by_) (h0 : 0 < sz) {base n : Nat} {v : Value} {xs : List Value} {f : Nat → Value} (hl : (parts.map fun (i, x) => (i, a.eval x)).toList = l) (hbl : P.builtSlice e 1 l = some (arrV sz f)) (hs : (a.put o.dst (.slice (some ⟨w.heap.size, 0, none⟩) 1 1)).eval s = v) (hx : (a.put o.dst (.slice (some ⟨w.heap.size, 0, none⟩) 1 1)).eval x = .slice (some ⟨w.heap.size, 0, none⟩) 1 1)
    (hown : w.ownsRow base e sz v n xs) (h1 : ∀ i, i < sz → (f i).oneCell' = true) (hn : n + 1 ≤ 70368744177664) (hby : (n + 1) * by_ ≤ 140737488355328) (hbase : base ≤ w.heap.size)
    (h : ∀ v' w', w'.ownsRow base e sz v' (n + 1) (xs ++ (arrV sz f).toList) → (∀ k, k < w.heap.size → v.ownBlock ≠ some k → w'.heap[k]? = w.heap[k]?) → w'.os = w.os ∧ w'.tape = w.tape ∧ w'.output = w.output ∧ w.heap.size ≤ w'.heap.size → (v'.ownBlock = v.ownBlock ∨ ∃ k, v'.ownBlock = some k ∧ w.heap.size ≤ k) → wpList P ops Q rest ((a.put o.dst (.slice (some ⟨w.heap.size, 0, none⟩) 1 1)).put o'.dst v') w') : wpList P ops Q (o :: o' :: rest) a w := by
  refine wpList_bslice hgd ho hT.sl hl hbl ?_
  refine wpList_append_el hgd' ho' hT h0 hs hx (World.ownsRow.alloc hown (.cells (arrV sz f) e)) (heap_alloc_new w _) h1 hn hby (by simp; omega) ?_
  intro v' w' h2 h3 h4
  have hb : Below w.heap.size w (w.alloc (.cells (arrV sz f) e)) := (Below.refl _ _).alloc (Nat.le_refl _) _
  refine h v' w' h2 (fun k hk hne => ?_) ⟨h3.os.trans hb.os, h3.tape.trans hb.tape, h3.output.trans hb.output, Nat.le_trans hb.size h3.size⟩ ?_
  · rw [h3.block k (by simp; omega) (fun e => hne e.symm), hb.block k hk]
  · rcases h4 with h4 | h4
    · exact .inl h4
    · exact .inr ⟨_, h4, by simp⟩
end
end Go.Proofs.Ytfbfkfdkigpkgaa
namespace Go.Proofs.Ytfbfkfdkigpkgaa
set_option linter.unusedSimpArgs false
set_option linter.unusedVariables false
open Go.RowKit
attribute [local irreducible] beL beK

/-- All but one block stay. -/
structure But (g : Nat) (w w' : World) : Prop where
  os : w'.os = w.os
  tape : w'.tape = w.tape
  output : w'.output = w.output
  size : w.heap.size ≤ w'.heap.size
  block : ∀ k, k < w.heap.size → k ≠ g → w'.heap[k]? = w.heap[k]?
section
variable {g B : Nat} {w w' w'' : World}
theorem But.refl (g : Nat) (w : World) : But g w w := ⟨rfl, rfl, rfl, Nat.le_refl _, fun _ _ _ => rfl⟩
theorem But.trans (h : But g w w') (k : But g w' w'') : But g w w'' :=
  ⟨k.os.trans h.os, k.tape.trans h.tape, k.output.trans h.output, Nat.le_trans h.size k.size, fun i hi h1 => (k.block i (Nat.lt_of_lt_of_le hi h.size) h1).trans (h.block i hi h1)⟩
theorem But.of_below (h : Below w.heap.size w w') : But g w w' := ⟨h.os, h.tape, h.output, h.size, fun i hi _ => h.block i hi⟩
theorem But.below (h : But g w w') (hB : B ≤ g) (hs : B ≤ w.heap.size) : Below B w w' := ⟨h.os, h.tape, h.output, h.size, fun i hi => h.block i (by omega) (by omega)⟩
theorem But.alloc (h : But g w w') (o : Obj) : But g w (w'.alloc o) := h.trans (But.of_below ((Below.refl _ _).alloc (Nat.le_refl _) o))
theorem But.set (h : But g w w') (i : Nat) (v : Value) : But g w (w'.setCell ⟨g, i, none⟩ v) :=
  h.trans ⟨(Below.refl 0 w').setCell (p := ⟨g, i, none⟩) (Nat.zero_le _) v |>.os, (Below.refl 0 w').setCell (p := ⟨g, i, none⟩) (Nat.zero_le _) v |>.tape, (Below.refl 0 w').setCell (p := ⟨g, i, none⟩) (Nat.zero_le _) v |>.output, (Below.refl 0 w').setCell (p := ⟨g, i, none⟩) (Nat.zero_le _) v |>.size, fun k _ hk => heap_setCell_other _ _ _ _ hk⟩
theorem But.keep (h : But g w w') {k : Nat} {x : Obj} (hx : w.heap[k]? = some x) (hk : k ≠ g) : w'.heap[k]? = some x := (h.block k (lt_of_block hx) hk).trans hx
/-- A row of another type than the block's that changes. -/
theorem But.row {base sz n : Nat} {e t : TypeId} {v : Value} {xs : List Value} {c : Array Value} {fr : Nat × Nat} (h : But g w w') (hr : w.ownsRow base e sz v n xs) (hg : w.heap[g]? = some (.cells c t fr)) (hne : e ≠ t) : w'.ownsRow base e sz v n xs := by
  refine ⟨hr.1, ?_⟩
  rcases hr.2 with h2 | ⟨b, cap, cur, rfl, h3, hh, h4⟩
  · exact .inl h2
  · refine .inr ⟨b, cap, cur, rfl, h3, h.keep hh ?_, h4⟩
    rintro rfl
    rw [hg] at hh
    injection hh with hh
    injection hh with _ ht
    exact hne ht.symm
end

theorem or_low8 (a b t : Nat) (ha : a < 2 ^ t) : a ||| (b * 2 ^ t) = a + b * 2 ^ t := by
  rw [Nat.or_comm, Nat.mul_comm, ← Nat.two_pow_add_eq_or_of_lt ha, Nat.add_comm]
theorem beV_snoc (l : List Nat) (x : Nat) : beV (l ++ [x]) = 256 * beV l + x := by unfold beV; rw [beVf_append]; rfl
theorem beV_small {l : List Nat} {k : Nat} (hb : Byt l) (h : l.length ≤ k) : beV l < 256 ^ k :=
  Nat.lt_of_lt_of_le (beV_lt l.length l hb rfl).1 (Nat.pow_le_pow_right (by omega) h)
theorem byt_take {l : List Nat} (h : Byt l) (n : Nat) : Byt (l.take n) := fun x hx => h x (List.mem_of_mem_take hx)
theorem byt_drop {l : List Nat} (h : Byt l) (n : Nat) : Byt (l.drop n) := fun x hx => h x (List.mem_of_mem_drop hx)
theorem take_snoc (l : List Nat) (i : Nat) (h : i < l.length) : l.take (i + 1) = l.take i ++ [l.getD i 0] := by
  rw [List.take_add_one, List.getD_eq_getElem?_getD, List.getElem?_eq_getElem h]; rfl
theorem or8 (n c : Nat) (hn : n < 72057594037927936) (hc : c < 256) : bits .or .u64 ((n : Int) * 256) (c : Int) = ((256 * n + c : Nat) : Int) := by
  have e : (n * 256) ||| c = 256 * n + c := by
    have := or_low8 c n 8 (by omega)
    rw [Nat.or_comm, show (256 : Nat) = 2 ^ 8 from rfl, this]
    omega
  have h1 := bits_or_u64_nat (n * 256) c (by omega) (by omega)
  rw [e] at h1
  rw [← h1]
  congr 1

set_option maxRecDepth 100000 in
set_option maxHeartbeats 2000000 in
theorem TakeNum_yes (A : Option Addr) (n c : Nat) (l : List Nat) (hnc : n ≤ c) (hc : n ≤ 140737488355328) (hb : Byt l) (W : Nat) (h1 : 1 ≤ W) (h8 : W ≤ 8) (hW : W ≤ n) (B : Nat) (w : World) (h : Txt w B A n c l) :
    Calls Try.prog 91 #[.slice A n c, .int .i64 0, .int .i64 W] w fun e w' => e = .returned (.tuple #[.int .u64 ((beV (l.take W) : Nat) : Int), .int .i64 W, .int .i64 0]) ∧ w = w' := by
  have H := Lib.hid h
  have HBt := Lib.hid hb
  have hlen := h.len
  clear h hb
  go_enter Try.func91, Try.ntmps91
  go_wp2_with (refine wpList_val_w rfl (run_op_cut_lh (lo := 0) (hi := W) BT rfl rfl rfl rfl (Nat.zero_le _) (by omega)) ?_)
  go_loopg [9, 43] W (fun k x i wr => ∃ m : Nat, m + k = W ∧ i = .int .i64 m ∧ x = .int .u64 ((beV (l.take m) : Nat) : Int) ∧ wr = w)
  case atStart => exact ⟨0, by omega, rfl, rfl, rfl⟩
  case round =>
    obtain ⟨m, hm, rfl, rfl, rfl⟩ := hrel
    by_cases hlt : m < W
    · obtain ⟨ad, rfl, hbk, hc2⟩ := H.out.cell (show m < n by omega)
      have hv : beV (l.take m) < 72057594037927936 := by
        have h := beV_small (k := 7) (byt_take HBt.out m) (by rw [List.length_take]; omega)
        exact h
      have hx : l.getD m 0 < 256 := by
        rw [List.getD_eq_getElem?_getD, List.getElem?_eq_getElem (by omega)]
        exact HBt.out _ (List.getElem_mem _)
      have e2 : beV (l.take (m + 1)) = 256 * beV (l.take m) + l.getD m 0 := by rw [take_snoc l m (by omega), beV_snoc]
      have E2 := Lib.hid e2
      clear e2
      generalize beV (l.take m) = v at *
      generalize l.getD m 0 = x at *
      replace hc2 : _ = some (Value.int .u8 (x : Int)) := hc2
      have o8 := or8 v x hv hx
      have hv' : (v : Int) < 72057594037927936 := by omega
      go_wp2
      go_roundg (gk - 1)
      case measure => omega
      case rel =>
        refine ⟨m + 1, by omega, by go_num, ?_, rfl⟩
        rw [E2.out]
        congr 1
    · obtain rfl : m = W := by omega
      go_wp2
      go_ret3
      exact ⟨rfl, rfl⟩
set_option maxRecDepth 100000 in
set_option maxHeartbeats 2000000 in
theorem TakeNum_no (A : Option Addr) (n c : Nat) (hc : n ≤ 140737488355328) (W : Nat) (h1 : 1 ≤ W) (h8 : W ≤ 8) (hW : n < W) (w : World) :
    Calls Try.prog 91 #[.slice A n c, .int .i64 0, .int .i64 W] w fun e w' => e = .returned (.tuple #[.int .u64 0, .int .i64 0, .int .i64 2]) ∧ w = w' := by
  go_enter Try.func91, Try.ntmps91
  go_wp2
  go_ret3
  exact ⟨rfl, rfl⟩

/-- What an eye says has gone wrong. -/
def eyeE (s : Rs) : Int := if s.ov = true then 3 else 0
theorem eyeE_no {s : Rs} (h : s.ov = false) : eyeE s = 0 := by unfold eyeE; rw [h]; rfl
theorem eyeE_yes {s : Rs} (h : s.ov = true) : eyeE s = 3 := by unfold eyeE; rw [if_pos h]
/-- An eye that lies in block g; what it reads lies below it. -/
structure EyeAt (w : World) (B g : Nat) (A : Option Addr) (n c : Nat) (s : Rs) : Prop where
  row : w.heap[g]? = some (.cells #[.slice A n c, .int .i64 (eyeE s)] 102 (0, 0))
  low : B ≤ g
  txt : Txt w B A n c s.l
  cap : n ≤ c
  len : n ≤ 140737488355328
  byt : Byt s.l
def Eye (w : World) (B g : Nat) (s : Rs) : Prop := ∃ A n c, EyeAt w B g A n c s
section
variable {w w' : World} {B g n c : Nat} {A : Option Addr} {s : Rs}
theorem EyeAt.c0 (h : EyeAt w B g A n c s) : w.cell? ⟨g, 0, none⟩ = some (.slice A n c) := by rw [cell_of_row _ _ _ _ _ _ h.row]; rfl
theorem EyeAt.c1 (h : EyeAt w B g A n c s) : w.cell? ⟨g, 1, none⟩ = some (.int .i64 (eyeE s)) := by rw [cell_of_row _ _ _ _ _ _ h.row]; rfl
theorem EyeAt.free (h : EyeAt w B g A n c s) (i : Nat) : w.frozen? ⟨g, i, none⟩ = false := frozen_of_row w g i _ _ h.row
theorem EyeAt.after (h : EyeAt w B g A n c s) (hb : Below w.heap.size w w') : EyeAt w' B g A n c s :=
  ⟨(hb.block g (lt_of_block h.row)).trans h.row, h.low, h.txt.below' hb (Nat.le_trans h.low (Nat.le_of_lt (lt_of_block h.row))), h.cap, h.len, h.byt⟩
theorem Eye.after (h : Eye w B g s) (hb : Below w.heap.size w w') : Eye w' B g s := let ⟨A, n, c, k⟩ := h; ⟨A, n, c, k.after hb⟩
theorem Eye.lt (h : Eye w B g s) : g < w.heap.size := let ⟨_, _, _, k⟩ := h; lt_of_block k.row
/-- Too little is there. -/
theorem EyeAt.over (h : EyeAt w B g A n c s) : EyeAt (w.setCell ⟨g, 1, none⟩ (.int .i64 3)) B g A n c ⟨s.l, true⟩ :=
  ⟨by rw [heap_setCell_same w g 1 _ _ _ h.row]; rfl, h.low, h.txt.keep fun p hp => ((Below.refl B w).setCell (p := ⟨g, 1, none⟩) h.low _).cell hp, h.cap, h.len, h.byt⟩
/-- So many bytes were read. -/
theorem EyeAt.moved (h : EyeAt w B g A n c s) (hs : s.ov = false) {k : Nat} (hk : k ≤ n) : EyeAt (w.setCell ⟨g, 0, none⟩ (.slice (cutA A k c) (n - k) (c - k))) B g (cutA A k c) (n - k) (c - k) ⟨s.l.drop k, false⟩ :=
  ⟨by rw [heap_setCell_same w g 0 _ _ _ h.row, eyeE_no hs]; rfl, h.low, (h.txt.from h.cap hk).keep fun p hp => ((Below.refl B w).setCell (p := ⟨g, 0, none⟩) h.low _).cell hp, by have := h.cap; omega, by have := h.len; omega, byt_drop h.byt k⟩
end
theorem numP_ov {k : Nat} {s : Rs} (h : s.ov = true) : numP k s = (0, ⟨s.l, true⟩) := by unfold numP cutP; rw [if_pos (.inl h)]; rfl
theorem numP_short {k : Nat} {s : Rs} (h : s.l.length < k) : numP k s = (0, ⟨s.l, true⟩) := by unfold numP cutP; rw [if_pos (.inr h)]; rfl
theorem numP_yes {k : Nat} {s : Rs} (h : s.ov = false) (h2 : k ≤ s.l.length) : numP k s = (beV (s.l.take k), ⟨s.l.drop k, false⟩) := by unfold numP cutP; rw [if_neg (by rw [h]; simp; omega)]
theorem cutP_no {k : Nat} {s : Rs} (h : s.ov = true ∨ s.l.length < k) : cutP k s = ([], ⟨s.l, true⟩) := by unfold cutP; rw [if_pos h]
theorem cutP_yes {k : Nat} {s : Rs} (h : s.ov = false) (h2 : k ≤ s.l.length) : cutP k s = (s.l.take k, ⟨s.l.drop k, false⟩) := by unfold cutP; rw [if_neg (by rw [h]; simp; omega)]
theorem numP_lt {k : Nat} {s : Rs} (hb : Byt s.l) : (numP k s).1 < 256 ^ k := by
  unfold numP cutP
  split
  · exact Nat.pow_pos (by omega)
  · exact beV_small (byt_take hb k) (by rw [List.length_take]; omega)
theorem rs_ov {s : Rs} (h : s.ov = true) : s = ⟨s.l, true⟩ := by cases s; simp_all
set_option maxRecDepth 100000 in
set_option maxHeartbeats 2000000 in
theorem eyeNum (W : Nat) (h1 : 1 ≤ W) (h8 : W ≤ 8) {B : Nat} (g : Nat) (s : Rs) (w : World) (h : Eye w B g s) :
    Calls Try.prog 65 #[.pointer (some ⟨g, 0, none⟩), .int .i64 W] w fun e w' => e = .returned (.int .u64 (((numP W s).1 : Nat) : Int)) ∧ Eye w' B g (numP W s).2 ∧ But g w w' := by
  obtain ⟨A, n, c, h⟩ := h
  have c0 := h.c0
  have c1 := h.c1
  have f0 := h.free 0
  have f1 := h.free 1
  have H := Lib.hid h
  have hlen := h.txt.len
  clear h
  cases hs : s.ov with
  | true =>
    rw [eyeE_yes hs] at c1
    go_enter Try.func65, Try.ntmps65
    go_wp2
    go_ret
    rw [numP_ov hs]
    refine ⟨rfl, ⟨A, n, c, ?_⟩, But.refl _ _⟩
    dsimp only
    rw [← rs_ov hs]
    exact H.out
  | false =>
    rw [eyeE_no hs] at c1
    by_cases hn : n < W
    · go_enter Try.func65, Try.ntmps65
      go_wp2_with (go_at_call 91; fail)
      refine (TakeNum_no A n c (by have := H.out.cap; have := H.out.len; omega) W h1 h8 hn _).mono ?_
      rintro e w' ⟨rfl, rfl⟩
      go_wp2
      go_ret
      rw [numP_short (by omega)]
      exact ⟨rfl, ⟨A, n, c, H.out.over⟩, (But.refl _ _).set 1 _⟩
    · go_enter Try.func65, Try.ntmps65
      go_wp2_with (go_at_call 91; fail)
      refine (TakeNum_yes A n c s.l H.out.cap H.out.len H.out.byt W h1 h8 (by omega) B _ H.out.txt).mono ?_
      rintro e w' ⟨rfl, rfl⟩
      go_wp2_with (refine wpList_val_w rfl (run_op_cut_l BT rfl rfl rfl (by omega)) ?_)
      · have hcW := h
        go_ret
        rw [numP_yes hs (by omega)]
        have M := H.out.moved hs (k := W) (by omega)
        unfold cutA at M
        rw [if_pos hcW, hcW, Nat.sub_self] at M
        exact ⟨rfl, ⟨_, _, _, M⟩, (But.refl _ _).set 0 _⟩
      · have hcW := h
        go_ret
        rw [numP_yes hs (by omega)]
        have M := H.out.moved hs (k := W) (by omega)
        unfold cutA at M
        rw [if_neg hcW] at M
        exact ⟨rfl, ⟨_, _, _, M⟩, (But.refl _ _).set 0 _⟩
/-- Bytes cut off: a row of the call's own. -/
def CutPost (B g : Nat) (w : World) (p : List Nat × Rs) (e : Ending) (w' : World) : Prop := ∃ A c, e = .returned (.slice A p.1.length c) ∧ Own w' w.heap.size 5 (.slice A p.1.length c) p.1 ∧ Eye w' B g p.2 ∧ But g w w'
theorem Own.slice {w : World} {base : Nat} {e : TypeId} {v : Value} {l : List Nat} (h : Own w base e v l) : ∃ A c, v = .slice A l.length c := by
  obtain ⟨A, c, hv, _⟩ := h.txt
  exact ⟨A, c, hv⟩
set_option maxRecDepth 100000 in
set_option maxHeartbeats 2000000 in
theorem eyeCut (k : Nat) (hk : k < 18446744073709551616) {B : Nat} (g : Nat) (s : Rs) (w : World) (h : Eye w B g s) :
    Calls Try.prog 76 #[.pointer (some ⟨g, 0, none⟩), .int .u64 k] w (CutPost B g w (cutP k s)) := by
  obtain ⟨A, n, c, h⟩ := h
  have c0 := h.c0
  have c1 := h.c1
  have f0 := h.free 0
  have f1 := h.free 1
  have H := Lib.hid h
  have hlen := h.txt.len
  have hn1 : n ≤ 140737488355328 := by have := h.cap; have := h.len; omega
  have hcap := h.cap
  clear h
  by_cases hno : s.ov = true ∨ s.l.length < k
  · rw [cutP_no hno]
    have HN := Lib.hid hno
    have fin : ∀ x, EyeAt x B g A n c ⟨s.l, true⟩ → But g w x → CutPost B g w ([], ⟨s.l, true⟩) (.returned (.slice none 0 0)) x := fun x hx hb => ⟨none, 0, rfl, Own.nil_, ⟨_, _, _, hx⟩, hb⟩
    cases hs : s.ov with
    | true =>
      rw [eyeE_yes hs] at c1
      clear hno
      go_enter Try.func76, Try.ntmps76
      go_wp2
      go_ret
      exact fin _ H.out.over ((But.refl _ _).set 1 _)
    | false =>
      rw [eyeE_no hs] at c1
      have hlt : n < k := by
        rcases hno with h | h
        · rw [hs] at h; cases h
        · omega
      clear hno
      go_enter Try.func76, Try.ntmps76
      go_wp2
      go_ret
      exact fin _ H.out.over ((But.refl _ _).set 1 _)
  · have hs : s.ov = false := by cases h : s.ov with | false => rfl | true => exact absurd (.inl h) hno
    have hkn : k ≤ n := by rcases Nat.lt_or_ge s.l.length k with h | h; exact absurd (.inr h) hno; omega
    rw [cutP_yes hs (by omega)]
    rw [eyeE_no hs] at c1
    clear hno
    have hgl := lt_of_block H.out.row
    go_enter Try.func76, Try.ntmps76
    go_wp2_with (go_at_call 95; fail)
    refine (Clone_any A k c (s.l.take k) _ ((H.out.txt.take H.out.cap hkn).more (by have := H.out.low; omega)) (by omega)).mono ?_
    rintro e w1 ⟨v, rfl, ho, hb⟩
    have hl : (s.l.take k).length = k := by rw [List.length_take]; omega
    obtain ⟨A1, cc1, hv⟩ := ho.slice
    rw [hl] at hv
    subst hv
    have H1 := Lib.hid (H.out.after hb)
    have HO := Lib.hid ho
    clear ho c0 c1 f0 f1
    have c0 := H1.out.c0
    have c1 := H1.out.c1
    have f0 := H1.out.free 0
    have fin : ∀ x, EyeAt x B g (cutA A k c) (n - k) (c - k) ⟨s.l.drop k, false⟩ → x = w1.setCell ⟨g, 0, none⟩ (.slice (cutA A k c) (n - k) (c - k)) → CutPost B g w (s.l.take k, ⟨s.l.drop k, false⟩) (.returned (.slice A1 k cc1)) x := fun x hx hw => by
      subst hw
      refine ⟨A1, cc1, by dsimp only; rw [hl], by dsimp only; rw [hl]; exact HO.out.setCell (fun k' hk' => by have := (HO.out.lt k' hk').1; show k' ≠ g; omega) _, ⟨_, _, _, hx⟩, (But.of_below hb).set 0 _⟩
    go_wp2_with (refine wpList_val_w rfl (run_op_cut_l BT rfl rfl rfl (by omega)) ?_)
    · have hcW := h
      go_ret
      have M := H1.out.moved hs (k := k) (by omega)
      unfold cutA at M fin
      rw [if_pos hcW, hcW, Nat.sub_self] at M
      rw [if_pos hcW, hcW, Nat.sub_self] at fin
      exact fin _ M rfl
    · have hcW := h
      go_ret
      have M := H1.out.moved hs (k := k) (by omega)
      unfold cutA at M fin
      rw [if_neg hcW] at M
      rw [if_neg hcW] at fin
      exact fin _ M rfl
end Go.Proofs.Ytfbfkfdkigpkgaa
namespace Go.Proofs.Ytfbfkfdkigpkgaa
set_option linter.unusedSimpArgs false
set_option linter.unusedVariables false
open Go.RowKit
attribute [local irreducible] beL beK

section
variable {P : Program} {w : World} {o : Oper} {a : Act} {ops : Array Oper} {rest : List Oper} {Q : Exit → Act → World → Prop}
/-- copy: a text into a local row of zeros. -/
theorem run_copy_txt {dT sT ty e : TypeId} {g N n c dc t B : Nat} {A : Option Addr} {l : List Nat} (hu : P.underlying dT = some (.slice e)) (hs : (P.info? e).map (·.size) = some 1) (hg : w.heap[g]? = some (.cells (arr .u8 N fun _ => 0) t (0, 0))) (ht : Txt w B A n c l) (hn : n = 0 ∨ n = N) :
    ∃ w', (Builtin.copy_ #[dT, sT] ty #[.slice (some ⟨g, 0, none⟩) N dc, .slice A n c]).run P w = .ok (goInt n) w' ∧ w'.heap[g]? = some (.cells (arr .u8 N fun i => ((l.getD i 0 : Nat) : Int)) t (0, 0)) ∧ But g w w' := by
  by_cases h0 : n = 0
  · subst h0
    obtain rfl : l = [] := List.eq_nil_of_length_eq_zero ht.len
    refine ⟨w, run_copy_none (P := P) w dT sT ty e _ A N dc 0 c hu hs (Nat.zero_min N), ?_, But.refl _ _⟩
    rw [hg]
    rfl
  · obtain rfl : n = N := hn.resolve_left h0
    obtain ⟨ad, rfl, hb, hc⟩ := ht.at_ (by omega)
    have hl := ht.len
    have hr := run_copy_row P w dT sT ty e g 0 n dc ad n c (arr .u8 n fun _ => 0) t (l.map bv) hu hs hg (by simp [hl])
      (fun j v hv => by
        rw [List.getElem?_map] at hv
        cases hx : l[j]? with
        | none => rw [hx] at hv; cases hv
        | some x =>
          rw [hx] at hv
          simp only [Option.map_some, Option.some.injEq] at hv
          rw [← hv]
          exact hc j x hx)
      (by simp [arr_size, hl]) (fun v hv => by obtain ⟨x, _, rfl⟩ := List.mem_map.1 hv; rfl)
    have e1 : ((arr .u8 n fun _ => 0).toList.take 0 ++ l.map bv ++ (arr .u8 n fun _ => 0).toList.drop (0 + (l.map bv).length)).toArray = arr .u8 n fun i => ((l.getD i 0 : Nat) : Int) := by
      have : (arr .u8 n fun _ => (0 : Int)).toList.drop (0 + (l.map bv).length) = [] := List.drop_eq_nil_of_le (by simp [arr_size, hl])
      rw [this, List.take_zero, List.nil_append, List.append_nil]
      refine Array.ext (by simp [arr_size, hl]) fun i h1 h2 => ?_
      have hi : i < n := by simpa [hl] using h1
      have h3 := arr_get .u8 n (fun i => ((l.getD i 0 : Nat) : Int)) i hi
      rw [Array.getElem?_eq_getElem h2] at h3
      injection h3 with h3
      rw [h3]
      simp only [List.getElem_toArray, List.getElem_map]
      unfold bv
      rw [List.getD_eq_getElem?_getD, List.getElem?_eq_getElem (by omega)]
      rfl
    rw [e1, List.length_map, hl] at hr
    refine ⟨_, hr, row_self hg, ?_⟩
    have hb := row_below (Below.refl 0 w) (Nat.zero_le g) (arr .u8 n fun i => ((l.getD i 0 : Nat) : Int))
    exact ⟨hb.os, hb.tape, hb.output, hb.size, fun k _ hk => setRow_other _ _ _ _ hk⟩
theorem wpList_copy_txt {x y : Operand} {dT sT e : TypeId} {g N n c dc t B : Nat} {A : Option Addr} {l : List Nat} (hgd : o.guard = none) (ho : o.op = .call { callee := .builtin .copy, args := #[x, y], argTypes := #[dT, sT] })
    (hx : a.eval x = .slice (some ⟨g, 0, none⟩) N dc) (hy : a.eval y = .slice A n c) (hu : P.underlying dT = some (.slice e)) (hs : (P.info? e).map (·.size) = some 1) (hg : w.heap[g]? = some (.cells (arr .u8 N fun _ => 0) t (0, 0))) (ht : Txt w B A n c l) (hn : n = 0 ∨ n = N)
    (h : ∀ w', w'.heap[g]? = some (.cells (arr .u8 N fun i => ((l.getD i 0 : Nat) : Int)) t (0, 0)) → But g w w' → wpList P ops Q rest (a.put o.dst (.int .i64 n)) w') : wpList P ops Q (o :: rest) a w := by
  obtain ⟨w', hr, h1, h2⟩ := run_copy_txt (P := P) (ty := o.type) (sT := sT) (dc := dc) hu hs hg ht hn
  refine wpList_val' hgd ?_ (h w' h1 h2)
  unfold execOp
  simp only [ho]
  have e3 : (resolve a.eval { callee := .builtin .copy, args := #[x, y], argTypes := #[dT, sT] } o.type) = pure { target := .builtin .copy #[dT, sT] o.type (#[x, y].map fun | .const _ => true | _ => false), args := #[a.eval x, a.eval y] } := by
    simp [resolve]; rfl
  rw [e3, hx, hy]
  simp only [Sem.run_bind, Sem.run_pure, Result.andThen_ok, invoke, builtin, hr]
  rfl
/-- A new local variable of a struct's type. -/
theorem wpList_alloc_v {ty n : Nat} {z : Nat → Value} (hgd : o.guard = none) (ho : o.op = .alloc ty) (hz : ZeroV P ty n (arrV n z))
    (h : wpList P ops Q rest (a.put o.dst (.pointer (some ⟨w.heap.size, 0, none⟩))) (w.alloc (.cells (arrV n z) ty))) : wpList P ops Q (o :: rest) a w := by
  obtain ⟨hz, _⟩ := hz
  refine wpList_val' hgd ?_ h
  cases hq : P.info? ty with
  | none => simp [hq] at hz
  | some i =>
    have hs : i.zero = some (.agg (arrV n z)) := by simpa [hq] using hz
    unfold execOp
    simp [ho, Instr.alloc, zeroValue, typeInfo, hq, hs, newVar, newRow, newObj, Value.cells, Sem.run_bind]
    rfl
/-- A struct into a whole block. -/
theorem wpList_store_v {ty n t g : Nat} {x y : Operand} {f f' : Nat → Value} (hgd : o.guard = none) (ho : o.op = .store ty x y) (hT : RowT P ty n) (hx : a.eval x = .pointer (some ⟨g, 0, none⟩)) (hy : a.eval y = .agg (arrV n f')) (hg : w.heap[g]? = some (.cells (arrV n f) t (0, 0))) (h1 : ∀ i, i < n → (f' i).oneCell' = true)
    (h : wpList P ops Q rest (a.put o.dst undef) (w.setRow g (arrV n f'))) : wpList P ops Q (o :: rest) a w := wpList_skip hgd (run_op_store ho hx hy (run_storeVar_new hT (arrV_size n f) hg h1)) h
theorem results_v {fn : Func} {p : Tmp} {ty : TypeId} {n t g : Nat} {f : Nat → Value} {fr : Nat × Nat} (h : fn.results = #[.cell p ty]) {tmps : Array Value} (hp : tmps.getD p undef = .pointer (some ⟨g, 0, none⟩))
    (hT : RowT P ty n) (hg : w.heap[g]? = some (.cells (arrV n f) t fr)) : (results fn tmps).run P w = .ok (.agg (arrV n f)) w := by
  have hp' : tmps[p]?.getD undef = .pointer (some ⟨g, 0, none⟩) := by simpa using hp
  have h2 := run_loadVar_arrV hT hg (show 0 + n ≤ n by omega)
  simp only [Nat.zero_add] at h2
  simp [results, h, hp', asAddr, h2]
end
section
variable {w w' w'' : World} {B g q : Nat} {s : Rs}
theorem But.setNew (h : But g w w') (hq : w.heap.size ≤ q) (i : Nat) (v : Value) : But g w (w'.setCell ⟨q, i, none⟩ v) :=
  have k := (Below.refl 0 w').setCell (p := ⟨q, i, none⟩) (Nat.zero_le _) v
  ⟨k.os.trans h.os, k.tape.trans h.tape, k.output.trans h.output, Nat.le_trans h.size k.size, fun b hb hg => (heap_setCell_other _ _ _ _ (show b ≠ q by omega)).trans (h.block b hb hg)⟩
theorem But.newRow {cs : Array Value} (h : But g w w') (hq : w.heap.size ≤ q) : But g w (w'.setRow q cs) :=
  have k := row_below (Below.refl 0 w') (Nat.zero_le q) cs
  ⟨k.os.trans h.os, k.tape.trans h.tape, k.output.trans h.output, Nat.le_trans h.size k.size, fun b hb hg => (setRow_other _ _ _ _ (show b ≠ q by omega)).trans (h.block b hb hg)⟩
theorem But.row1 (cs : Array Value) : But q w (w.setRow q cs) :=
  have k := row_below (Below.refl 0 w) (Nat.zero_le q) cs
  ⟨k.os, k.tape, k.output, k.size, fun b _ hb => setRow_other _ _ _ _ hb⟩
theorem But.new (h : But g w w') (k : But q w' w'') (hq : w.heap.size ≤ q) : But g w w'' :=
  ⟨k.os.trans h.os, k.tape.trans h.tape, k.output.trans h.output, Nat.le_trans h.size k.size, fun b hb hg => (k.block b (Nat.lt_of_lt_of_le hb h.size) (by omega)).trans (h.block b hb hg)⟩
theorem Eye.setAt (h : Eye w B g s) (hq : q ≠ g) (hB : B ≤ q) (i : Nat) (v : Value) : Eye (w.setCell ⟨q, i, none⟩ v) B g s := by
  obtain ⟨A, n, c, k⟩ := h
  exact ⟨A, n, c, (heap_setCell_other _ _ _ _ (show g ≠ q from fun e => hq e.symm)).trans k.row, k.low, k.txt.keep fun p hp => ((Below.refl B w).setCell (p := ⟨q, i, none⟩) hB _).cell hp, k.cap, k.len, k.byt⟩
theorem Eye.butAt (h : Eye w B g s) (k : But q w w') (hq : q ≠ g) (hB : B ≤ q) : Eye w' B g s := by
  obtain ⟨A, n, c, e⟩ := h
  have hl := lt_of_block e.row
  have hlo := e.low
  exact ⟨A, n, c, (k.block g hl (fun e => hq e.symm)).trans e.row, hlo, e.txt.keep fun p hp => (k.below (B := B) hB (by omega)).cell hp, e.cap, e.len, e.byt⟩
theorem Eye.low (h : Eye w B g s) : B ≤ g := let ⟨_, _, _, k⟩ := h; k.low
theorem Eye.setOther (h : Eye w B g s) (hq : g < q) (i : Nat) (v : Value) : Eye (w.setCell ⟨q, i, none⟩ v) B g s := h.setAt (by omega) (by have := h.low; omega) i v
theorem Eye.but (h : Eye w B g s) (k : But q w w') (hq : g < q) : Eye w' B g s := h.butAt k (by omega) (by have := h.low; omega)
theorem set_arrV {N t i : Nat} {f : Nat → Value} (h : w.heap[q]? = some (.cells (arrV N f) t (0, 0))) (v : Value) : (w.setCell ⟨q, i, none⟩ v).heap[q]? = some (.cells (arrV N (upd f i v)) t (0, 0)) := by
  rw [heap_setCell_same w q i _ _ _ h, arrV_set]
end
theorem eyeNum1 {B g v : Nat} {s s' : Rs} {w : World} (h : Eye w B g s) (hE : numP 1 s = (v, s')) :
    Calls Try.prog 65 #[.pointer (some ⟨g, 0, none⟩), .int .i64 1] w fun e w' => e = .returned (.int .u64 (v : Int)) ∧ Eye w' B g s' ∧ But g w w' := by
  have := eyeNum 1 (by omega) (by omega) g s w h
  rw [hE] at this
  exact this
theorem Eye.lt1 {w : World} {B g v : Nat} {s s' : Rs} (h : Eye w B g s) (hE : numP 1 s = (v, s')) : v < 256 := by
  obtain ⟨_, _, _, k⟩ := h
  have := numP_lt (k := 1) k.byt
  rw [hE] at this
  exact this
theorem eyeNum2 {B g v : Nat} {s s' : Rs} {w : World} (h : Eye w B g s) (hE : numP 2 s = (v, s')) :
    Calls Try.prog 65 #[.pointer (some ⟨g, 0, none⟩), .int .i64 2] w fun e w' => e = .returned (.int .u64 (v : Int)) ∧ Eye w' B g s' ∧ But g w w' := by
  have := eyeNum 2 (by omega) (by omega) g s w h
  rw [hE] at this
  exact this
theorem Eye.lt2 {w : World} {B g v : Nat} {s s' : Rs} (h : Eye w B g s) (hE : numP 2 s = (v, s')) : v < 65536 := by
  obtain ⟨_, _, _, k⟩ := h
  have := numP_lt (k := 2) k.byt
  rw [hE] at this
  exact this
theorem eyeNum4 {B g v : Nat} {s s' : Rs} {w : World} (h : Eye w B g s) (hE : numP 4 s = (v, s')) :
    Calls Try.prog 65 #[.pointer (some ⟨g, 0, none⟩), .int .i64 4] w fun e w' => e = .returned (.int .u64 (v : Int)) ∧ Eye w' B g s' ∧ But g w w' := by
  have := eyeNum 4 (by omega) (by omega) g s w h
  rw [hE] at this
  exact this
theorem Eye.lt4 {w : World} {B g v : Nat} {s s' : Rs} (h : Eye w B g s) (hE : numP 4 s = (v, s')) : v < 4294967296 := by
  obtain ⟨_, _, _, k⟩ := h
  have := numP_lt (k := 4) k.byt
  rw [hE] at this
  exact this
theorem eyeNum8 {B g v : Nat} {s s' : Rs} {w : World} (h : Eye w B g s) (hE : numP 8 s = (v, s')) :
    Calls Try.prog 65 #[.pointer (some ⟨g, 0, none⟩), .int .i64 8] w fun e w' => e = .returned (.int .u64 (v : Int)) ∧ Eye w' B g s' ∧ But g w w' := by
  have := eyeNum 8 (by omega) (by omega) g s w h
  rw [hE] at this
  exact this
theorem Eye.lt8 {w : World} {B g v : Nat} {s s' : Rs} (h : Eye w B g s) (hE : numP 8 s = (v, s')) : v < 18446744073709551616 := by
  obtain ⟨_, _, _, k⟩ := h
  have := numP_lt (k := 8) k.byt
  rw [hE] at this
  exact this
theorem eyeCut32 {B : Nat} (g : Nat) (s : Rs) (w : World) (h : Eye w B g s) :
    Calls Try.prog 76 #[.pointer (some ⟨g, 0, none⟩), .int .u64 32] w (CutPost B g w (cutP 32 s)) := eyeCut 32 (by omega) g s w h
theorem cutP_len (n : Nat) (s : Rs) : (cutP n s).1.length = 0 ∨ (cutP n s).1.length = n := by
  unfold cutP
  split
  · exact .inl rfl
  · exact .inr (by rw [List.length_take]; omega)
set_option maxRecDepth 100000 in
set_option maxHeartbeats 2000000 in
theorem eyeKey {B : Nat} (g : Nat) (s : Rs) (w : World) (h : Eye w B g s) :
    Calls Try.prog 68 #[.pointer (some ⟨g, 0, none⟩)] w fun e w' => e = .returned (.agg (arr .u8 32 fun i => (((keyP s).1 i : Nat) : Int))) ∧ Eye w' B g (keyP s).2 ∧ But g w w' := by
  have hgl := h.lt
  go_enter Try.func68, Try.ntmps68
  go_upto_region 1 with (refine wpList_alloc_arr rfl rfl ZTKey ?_)
  have hq := heap_alloc_new w (.cells (arr .u8 32 fun _ => 0) 37)
  have he := h.after ((Below.refl _ _).alloc (Nat.le_refl _) (.cells (arr .u8 32 fun _ => 0) 37))
  have hb : But g w _ := (But.refl g w).alloc (.cells (arr .u8 32 fun _ => 0) 37)
  have hsz : (w.alloc (.cells (arr .u8 32 fun _ => 0) 37)).heap.size = w.heap.size + 1 := by simp
  clear h
  refine wp_cut (fun x => x.heap[w.heap.size]? = some (.cells (arr .u8 32 fun _ => 0) 37 (0, 0)) ∧ Eye x B g s ∧ But g w x ∧ x.heap.size = w.heap.size + 1) ⟨hq, he, hb, hsz⟩ ?_
  clear hq he hb hsz
  rintro wr ⟨hq, he, hb, hsz⟩
  (try simp only [Act.put, List.setIfInBounds_toArray, List.set_cons_zero, List.set_cons_succ])
  refine wp_region_can g 3 [(0, false), (1, false), (2, true)] (by kernel_rfl) (by kernel_rfl) ?_
  (simp only [canOps, List.getElem?_cons_zero, List.getElem?_cons_succ, List.drop_succ_cons, List.drop_zero])
  iterate 2 (first | (refine wpCan_move rfl rfl (fun _ _ _ _ h => h) ?_; (simp only [Act.put, Act.eval, Array.getD_eq_getD_getElem?, List.getElem?_toArray, List.getElem?_cons_zero, List.getElem?_cons_succ, Option.getD_some, List.setIfInBounds_toArray, List.set_cons_zero, List.set_cons_succ])) | (refine wpCan_assign rfl rfl (fun _ _ _ _ h => h) ?_; (simp only [Act.put, Act.eval, Array.getD_eq_getD_getElem?, List.getElem?_toArray, List.getElem?_cons_zero, List.getElem?_cons_succ, Option.getD_some, List.setIfInBounds_toArray, List.set_cons_zero, List.set_cons_succ])) | (refine wpCan_nilCheck rfl rfl rfl (fun _ _ _ _ h => h) ?_; (simp only [Act.put, List.setIfInBounds_toArray, List.set_cons_zero, List.set_cons_succ])) | (refine wpCan_q rfl rfl (fun _ _ _ _ h => h) (by first | exact .bin rfl rfl rfl | exact .indexAddr rfl | exact .un rfl | exact .extract rfl | exact .index rfl | exact .field rfl | exact .slice rfl) (fun K hK => ?_); go_simp; (try (simp only [↓IntWalk.iteOmega]; go_simp)); (try go_bits); refine hK _ ?_; clear hK K))
  refine wpCan_e rfl (fun K hK => ?_)
  go_simp
  refine (eyeCut32 g s _ (he.after (Below.refl _ _).drew)).mono ?_
  rintro e w2 ⟨A, c, rfl, ho, he2, hb2⟩
  refine hK _ _ (Keep.of_below (B := g) (hb2.below (Nat.le_refl _) (by show g ≤ wr.heap.size; omega)) (Nat.le_refl _)) ?_
  clear hK K
  (try simp only [Act.put, List.setIfInBounds_toArray, List.set_cons_zero, List.set_cons_succ])
  refine wpCan_nil ?_
  have hq2 := hb2.keep (show wr.drew.heap[w.heap.size]? = _ from hq) (by omega)
  have hb3 := (hb.trans (But.of_below ((Below.refl _ _).drew))).trans hb2
  clear hq hb hb2
  go_wp2_with (first | (refine wpList_copy_txt rfl rfl rfl rfl Try.underlying22 (by kernel_rfl) hq2 ho.text (cutP_len 32 s) ?_; intro w3 hq3 hb4) | (refine wpList_load_arr rfl rfl rfl RTKey hq3 ?_) | (refine wpList_store_arr rfl rfl rfl rfl RTKey hq3 ?_))
  refine bodyPost_ret (results_arr rfl rfl RTKey (row_self hq3)) rfl ⟨rfl, ?_, ?_⟩
  · exact (he2.but hb4 hgl).but (But.row1 _) hgl
  · exact (hb3.new hb4 (Nat.le_refl _)).newRow (Nat.le_refl _)
theorem eyeKeyE {B : Nat} {g : Nat} {k : Nat → Nat} {s s' : Rs} {w : World} (h : Eye w B g s) (hE : keyP s = (k, s')) :
    Calls Try.prog 68 #[.pointer (some ⟨g, 0, none⟩)] w fun e w' => e = .returned (.agg (arr .u8 32 fun i => ((k i : Nat) : Int))) ∧ Eye w' B g s' ∧ But g w w' := by
  have := eyeKey g s w h
  rw [hE] at this
  exact this
theorem pair_of {α β : Type} (p : α × β) : ∃ a b, p = (a, b) := ⟨p.1, p.2, rfl⟩
theorem propP_is {s s1 s2 s3 : Rs} {kd id : Nat} {k : Nat → Nat} (h1 : numP 1 s = (kd, s1)) (h2 : numP 4 s1 = (id, s2)) (h3 : keyP s2 = (k, s3)) : propP s = (⟨kd, id, k⟩, s3) := by
  unfold propP
  simp only [h1, h2, h3]
def propF (p : PProp) (j : Nat) : Value := propV (p.kind : Int) (p.id : Int) p.pt j
theorem propF_one (p : PProp) (j : Nat) : (propF p j).oneCell' = true := propV_one _ _ _ _
theorem ZVProp0 : ZeroV Try.prog 75 34 (arrV 34 (propV 0 0 fun _ => 0)) := ⟨by kernel_rfl, by rw [arrV_size]⟩
set_option maxRecDepth 100000 in
set_option maxHeartbeats 2000000 in
theorem eyeProp {B : Nat} (g : Nat) (s : Rs) (w : World) (h : Eye w B g s) :
    Calls Try.prog 67 #[.pointer (some ⟨g, 0, none⟩)] w fun e w' => e = .returned (.agg (arrV 34 (propF (propP s).1))) ∧ Eye w' B g (propP s).2 ∧ But g w w' := by
  obtain ⟨kd, s1, E1⟩ := pair_of (numP 1 s)
  obtain ⟨id, s2, E2⟩ := pair_of (numP 4 s1)
  obtain ⟨k, s3, E3⟩ := pair_of (keyP s2)
  rw [propP_is E1 E2 E3]
  have hgl := h.lt
  go_enter Try.func67, Try.ntmps67
  go_upto_region 1 with (refine wpList_alloc_v rfl rfl ZVProp0 ?_)
  have hq := heap_alloc_new w (.cells (arrV 34 (propV 0 0 fun _ => 0)) 75)
  have he := h.after ((Below.refl _ _).alloc (Nat.le_refl _) (.cells (arrV 34 (propV 0 0 fun _ => 0)) 75))
  have hb : But g w _ := (But.refl g w).alloc (.cells (arrV 34 (propV 0 0 fun _ => 0)) 75)
  clear h
  refine wp_cut (fun x => x.heap[w.heap.size]? = some (.cells (arrV 34 (propV 0 0 fun _ => 0)) 75 (0, 0)) ∧ Eye x B g s ∧ But g w x) ⟨hq, he, hb⟩ ?_
  clear hq he hb
  rintro w1 ⟨hq, he, hb⟩
  (try simp only [Act.put, List.setIfInBounds_toArray, List.set_cons_zero, List.set_cons_succ])
  go_upto_region 2 with (go_at_call 65; have lt := he.lt1 E1; (with_reducible refine (eyeNum1 he E1).mono ?_); rintro e w2 ⟨rfl, he2, hb2⟩; have hq2 := hb2.keep hq (by omega); have c2 := cell_arrV hq2 0 (by omega); have f2 := frozen_of_row w2 w.heap.size 0 _ _ hq2)
  replace he := he2.setOther hgl 0 (.int .i64 (kd : Int))
  replace hb := (hb.trans hb2).setNew (Nat.le_refl _) 0 (.int .i64 (kd : Int))
  replace hq := set_arrV (i := 0) hq2 (.int .i64 (kd : Int))
  clear hq2 c2 f2 he2 hb2
  generalize w2.setCell ⟨w.heap.size, 0, none⟩ (.int .i64 (kd : Int)) = w3 at *
  clear w2
  (try simp only [Act.put, List.setIfInBounds_toArray, List.set_cons_zero, List.set_cons_succ])
  go_upto_region 3 with (go_at_call 65; have lt2 := he.lt4 E2; (with_reducible refine (eyeNum4 he E2).mono ?_); rintro e w2 ⟨rfl, he2, hb2⟩; have hq2 := hb2.keep hq (by omega); have c2 := cell_arrV hq2 1 (by omega); have f2 := frozen_of_row w2 w.heap.size 1 _ _ hq2)
  replace he := he2.setOther hgl 1 (.int .i64 (id : Int))
  replace hb := (hb.trans hb2).setNew (Nat.le_refl _) 1 (.int .i64 (id : Int))
  replace hq := set_arrV (i := 1) hq2 (.int .i64 (id : Int))
  clear hq2 c2 f2 he2 hb2
  generalize w2.setCell ⟨w.heap.size, 1, none⟩ (.int .i64 (id : Int)) = w4 at *
  clear w2
  (try simp only [Act.put, List.setIfInBounds_toArray, List.set_cons_zero, List.set_cons_succ])
  go_upto_region 4 with (first | (go_at_call 68; (with_reducible refine (eyeKeyE he E3).mono ?_); rintro e w2 ⟨rfl, he2, hb2⟩; have hq2 := hb2.keep hq (by omega)) | (refine wpList_store_part (f' := fun i => ((k i : Nat) : Int)) rfl rfl RTKey rfl rfl hq2 (by omega) ?_))
  rw [show (arrV 34 (patch (upd (upd (propV 0 0 fun _ => 0) 0 (.int .i64 (kd : Int))) 1 (.int .i64 (id : Int))) 2 32 fun i => .int .u8 ((k i : Nat) : Int))) = arrV 34 (propF ⟨kd, id, k⟩) from arrV_ext fun i hi => by
    unfold patch upd propF propV
    by_cases h0 : i = 0
    · subst h0; rfl
    · by_cases h1 : i = 1
      · subst h1; rfl
      · rw [if_pos (by omega), if_neg h0, if_neg h1]]
  have hq5 := row_self (c' := arrV 34 (propF ⟨kd, id, k⟩)) hq2
  replace he := he2.but (But.row1 (q := w.heap.size) (arrV 34 (propF ⟨kd, id, k⟩))) hgl
  replace hb := (hb.trans hb2).newRow (q := w.heap.size) (cs := arrV 34 (propF ⟨kd, id, k⟩)) (Nat.le_refl _)
  clear hq hq2 he2 hb2
  generalize w2.setRow w.heap.size (arrV 34 (propF ⟨kd, id, k⟩)) = w5 at *
  clear w2
  (try simp only [Act.put, List.setIfInBounds_toArray, List.set_cons_zero, List.set_cons_succ])
  go_wp2_with (first | (refine wpList_load_all rfl rfl RTProp rfl hq5 ?_) | (refine wpList_store_v rfl rfl RTProp rfl rfl hq5 (fun i _ => propF_one _ i) ?_))
  refine bodyPost_ret (results_v rfl rfl RTProp (row_self hq5)) rfl ⟨rfl, he.but (But.row1 _) hgl, hb.newRow (Nat.le_refl _)⟩
theorem boxP_is {s s1 s2 : Rs} {n : Nat} {l : List Nat} (h1 : numP 2 s = (n, s1)) (h2 : cutP n s1 = (l, s2)) : boxP s = (l, s2) := by
  unfold boxP
  simp only [h1, h2]
theorem eyeCutE {B : Nat} {g k : Nat} {s s' : Rs} {l : List Nat} {w : World} (hk : k < 18446744073709551616) (h : Eye w B g s) (hE : cutP k s = (l, s')) :
    Calls Try.prog 76 #[.pointer (some ⟨g, 0, none⟩), .int .u64 k] w (CutPost B g w (l, s')) := by
  have := eyeCut k hk g s w h
  rw [hE] at this
  exact this
set_option maxRecDepth 100000 in
set_option maxHeartbeats 2000000 in
theorem eyeBox {B : Nat} (g : Nat) (s : Rs) (w : World) (h : Eye w B g s) :
    Calls Try.prog 73 #[.pointer (some ⟨g, 0, none⟩)] w (CutPost B g w (boxP s)) := by
  obtain ⟨n, s1, E1⟩ := pair_of (numP 2 s)
  obtain ⟨l, s2, E2⟩ := pair_of (cutP n s1)
  rw [boxP_is E1 E2]
  have lt := h.lt2 E1
  go_enter Try.func73, Try.ntmps73
  go_wp2_with (first | (go_at_call 65; (with_reducible refine (eyeNum2 h E1).mono ?_); rintro e w2 ⟨rfl, he2, hb2⟩) | (go_at_call 76; (with_reducible refine (eyeCutE (by omega) he2 E2).mono ?_); rintro e w3 ⟨A, c, rfl, ho, he3, hb3⟩))
  go_ret
  exact ⟨A, c, rfl, ho.mono hb2.size, he3, hb2.trans hb3⟩
end Go.Proofs.Ytfbfkfdkigpkgaa
namespace Go.Proofs.Ytfbfkfdkigpkgaa
set_option linter.unusedSimpArgs false
set_option linter.unusedVariables false
open Go.RowKit
attribute [local irreducible] beL beK

theorem But.kept {g : Nat} {w w' w'' : World} {b : Option Nat} (h : But g w w') (hk : ∀ k, k < w'.heap.size → b ≠ some k → w''.heap[k]? = w'.heap[k]?) (hm : w''.os = w'.os ∧ w''.tape = w'.tape ∧ w''.output = w'.output ∧ w'.heap.size ≤ w''.heap.size) (hb : ∀ k, b = some k → w.heap.size ≤ k) : But g w w'' :=
  ⟨hm.1.trans h.os, hm.2.1.trans h.tape, hm.2.2.1.trans h.output, Nat.le_trans h.size hm.2.2.2, fun k hk1 hg => (hk k (Nat.lt_of_lt_of_le hk1 h.size) (fun e => absurd (hb k e) (by omega))).trans (h.block k hk1 hg)⟩
theorem Eye.kept {B g : Nat} {s : Rs} {w w' : World} {b : Option Nat} (h : Eye w B g s) (hk : ∀ k, k < w.heap.size → b ≠ some k → w'.heap[k]? = w.heap[k]?) (hb : ∀ k, b = some k → g < k) : Eye w' B g s := by
  obtain ⟨A, n, c, e⟩ := h
  have hl := lt_of_block e.row
  have ho : ∀ k, k < g → w'.heap[k]? = w.heap[k]? := fun k hk' => hk k (by omega) (fun e => absurd (hb k e) (by omega))
  have hB : ∀ p : Addr, p.block < g → w'.cell? p = w.cell? p := fun p hp => by unfold World.cell?; rw [ho p.block hp]
  exact ⟨A, n, c, (hk g hl (fun e => absurd (hb g e) (by omega))).trans e.row, e.low, e.txt.keep fun p hp => hB p (Nat.lt_of_lt_of_le hp e.low), e.cap, e.len, e.byt⟩
theorem own_lo {base sz n : Nat} {w : World} {e : TypeId} {v : Value} {xs : List Value} (h : w.ownsRow base e sz v n xs) : ∀ k, v.ownBlock = some k → base ≤ k := fun k hk => (World.ownsRow.lt h k hk).1
/-- A row of another type is kept where only a row's block changes. -/
theorem own_kept {base sz n base' sz' n' : Nat} {w w' : World} {e e' : TypeId} {v v' : Value} {xs xs' : List Value} (h : w.ownsRow base e sz v n xs) (h' : w.ownsRow base' e' sz' v' n' xs') (hne : e ≠ e') (hk : ∀ k, k < w.heap.size → v'.ownBlock ≠ some k → w'.heap[k]? = w.heap[k]?) : w'.ownsRow base e sz v n xs := by
  refine ⟨h.1, ?_⟩
  rcases h.2 with h2 | ⟨b, cap, cur, rfl, h3, hh, h4⟩
  · exact .inl h2
  · refine .inr ⟨b, cap, cur, rfl, h3, (hk b (lt_of_block hh) fun hb => ?_).trans hh, h4⟩
    rcases h'.2 with ⟨rfl, _⟩ | ⟨b', cap', cur', rfl, _, hh', _⟩
    · cases hb
    · have : b' = b := by simpa [Value.ownBlock] using hb
      subst this
      rw [hh] at hh'
      injection hh' with hh'
      injection hh' with _ ht
      exact hne ht
theorem own_keep {base sz n : Nat} {w w' : World} {e : TypeId} {v : Value} {xs : List Value} (h : w.ownsRow base e sz v n xs) (hk : ∀ (b : Nat) (c : Array Value) (fr : Nat × Nat), w.heap[b]? = some (Obj.cells c e fr) → w'.heap[b]? = w.heap[b]?) : w'.ownsRow base e sz v n xs := by
  refine ⟨h.1, ?_⟩
  rcases h.2 with h2 | ⟨b, cap, cur, rfl, h3, hh, h4⟩
  · exact .inl h2
  · exact .inr ⟨b, cap, cur, rfl, h3, (hk b _ _ hh).trans hh, h4⟩
theorem own_mono {base base' sz n : Nat} {w : World} {e : TypeId} {v : Value} {xs : List Value} (h : w.ownsRow base e sz v n xs) (hb : base' ≤ base) : w.ownsRow base' e sz v n xs := by
  refine ⟨h.1, ?_⟩
  rcases h.2 with h2 | ⟨b, cap, cur, rfl, h3, h4⟩
  · exact .inl h2
  · exact .inr ⟨b, cap, cur, rfl, Nat.le_trans hb h3, h4⟩
/-- A store into a block of another type. -/
theorem own_set {base sz n q i : Nat} {w : World} {e t : TypeId} {v u : Value} {xs : List Value} {c : Array Value} {fr : Nat × Nat} (h : w.ownsRow base e sz v n xs) (hq : w.heap[q]? = some (.cells c t fr)) (hne : e ≠ t) : (w.setCell ⟨q, i, none⟩ u).ownsRow base e sz v n xs :=
  own_keep h fun b c' fr' hb => heap_setCell_other _ _ _ _ (show b ≠ q by rintro rfl; rw [hq] at hb; injection hb with hb; injection hb with _ ht; exact hne ht.symm)
theorem own_setRow {base sz n q : Nat} {w : World} {e t : TypeId} {v : Value} {xs : List Value} {c cs : Array Value} {fr : Nat × Nat} (h : w.ownsRow base e sz v n xs) (hq : w.heap[q]? = some (.cells c t fr)) (hne : e ≠ t) : (w.setRow q cs).ownsRow base e sz v n xs :=
  own_keep h fun b c' fr' hb => setRow_other _ _ _ _ (show b ≠ q by rintro rfl; rw [hq] at hb; injection hb with hb; injection hb with _ ht; exact hne ht.symm)
theorem own_cap {base sz n m c : Nat} {w : World} {e : TypeId} {A : Option Addr} {xs : List Value} (h : w.ownsRow base e sz (.slice A m c) n xs) : m = n := by
  rcases h.2 with ⟨he, h0⟩ | ⟨g, cap, cur, he, _⟩
  · injection he with _ e1 e2; omega
  · injection he with _ e1 e2
theorem own_slice {base sz n : Nat} {w : World} {e : TypeId} {v : Value} {xs : List Value} (h : w.ownsRow base e sz v n xs) : ∃ A c, v = .slice A n c := by
  rcases h.2 with ⟨he, h0⟩ | ⟨g, cap, cur, he, _⟩
  · exact ⟨none, 0, by rw [he, h0]⟩
  · exact ⟨_, _, he⟩
theorem items_step {α : Type} {f : Rs → α × Rs} {N r : Nat} {s s' s'' : Rs} {d : List α} {x : α} (h : itemsP f N s = (d ++ (itemsP f (r + 1) s').1, (itemsP f (r + 1) s').2)) (hs : s'.ov = false) (hx : f s' = (x, s'')) : itemsP f N s = ((d ++ [x]) ++ (itemsP f r s'').1, (itemsP f r s'').2) := by
  rw [h]
  have e : itemsP f (r + 1) s' = (x :: (itemsP f r s'').1, (itemsP f r s'').2) := by
    show (if s'.ov = true then ([], s') else ((f s').1 :: (itemsP f r (f s').2).1, (itemsP f r (f s').2).2)) = _
    rw [if_neg (by rw [hs]; simp), hx]
  rw [e]
  simp
theorem items_end {α : Type} {f : Rs → α × Rs} {N r : Nat} {s s' : Rs} {d : List α} (h : itemsP f N s = (d ++ (itemsP f r s').1, (itemsP f r s').2)) (hr : r = 0 ∨ s'.ov = true) : itemsP f N s = (d, s') := by
  rw [h]
  rcases hr with rfl | hr
  · simp [itemsP]
  · rw [items_over f r s' hr]; simp
/-- What is handed back of items: a row of the call's own. -/
def ItPost {α μ : Type} (e sz : Nat) (F : μ → Nat → Value) (pr : μ → α) (Nest : World → Nat → μ → Prop) (B g : Nat) (w : World) (p : List α × Rs) (E : Ending) (w' : World) : Prop :=
  ∃ (A : Option Addr) (c : Nat) (l : List μ), E = .returned (.slice A l.length c) ∧ l.map pr = p.1 ∧ w'.ownsRow w.heap.size e sz (.slice A l.length c) l.length (cellsOf sz F l) ∧ (∀ x ∈ l, Nest w' w.heap.size x) ∧ Eye w' B g p.2 ∧ But g w w'
theorem ELProp : ElT Try.prog 35 75 34 48 := ⟨Try.underlying35, by kernel_rfl⟩
theorem BSProp (p : PProp) : Try.prog.builtSlice 75 1 [(0, .agg (arrV 34 (propF p)))] = some (arrV 34 (propF p)) := by kernel_rfl
theorem eyePropE {B g : Nat} {x : PProp} {s s' : Rs} {w : World} (h : Eye w B g s) (hE : propP s = (x, s')) :
    Calls Try.prog 67 #[.pointer (some ⟨g, 0, none⟩)] w fun e w' => e = .returned (.agg (arrV 34 (propF x))) ∧ Eye w' B g s' ∧ But g w w' := by
  have := eyeProp g s w h
  rw [hE] at this
  exact this
set_option maxRecDepth 100000 in
set_option maxHeartbeats 2000000 in
theorem itemsProp (N : Nat) (hN : N < 65536) {B : Nat} (g : Nat) (s : Rs) (w : World) (h : Eye w B g s) :
    Calls Try.prog 66 #[.pointer (some ⟨g, 0, none⟩), .int .u64 N, .func (.func 67) #[.pointer (some ⟨g, 0, none⟩)] #[]] w (ItPost 75 34 propF id (fun _ _ _ => True) B g w (itemsP propP N s)) := by
  have hgl := h.lt
  go_enter Try.func66, Try.ntmps66
  go_wp2
  go_loopg [1, 6] N (fun r x v wr => ∃ (l : List PProp) (s' : Rs) (V : Value), V = v ∧ x = .int .u64 r ∧ r + l.length ≤ N ∧ itemsP propP N s = (l.map id ++ (itemsP propP r s').1, (itemsP propP r s').2) ∧ Eye wr B g s' ∧ wr.ownsRow w.heap.size 75 34 V l.length (cellsOf 34 propF l) ∧ (∀ x ∈ l, (fun _ _ _ => True) wr w.heap.size x) ∧ But g w wr)
  case atStart => exact ⟨[], s, _, rfl, rfl, Nat.le_refl _, rfl, h, ⟨rfl, .inl ⟨rfl, rfl⟩⟩, (fun x hx => by cases hx), But.refl _ _⟩
  case round =>
    clear h
    obtain ⟨l, s', V, rfl, rfl, hr, hit, he, ho, hnest, hb⟩ := hrel
    obtain ⟨A0, n0, c0', hE⟩ := he
    have c1 := hE.c1
    have he : Eye wr B g s' := ⟨_, _, _, hE⟩
    clear hE
    have HO := Lib.hid ho
    have HI := Lib.hid hit
    have HNS := Lib.hid hnest
    have HR := Lib.hid hr
    have hrN : gk < 18446744073709551616 := by omega
    clear ho hit hnest hr
    have fin : (gk = 0 ∨ s'.ov = true) → ∀ E, E = .returned V → ItPost 75 34 propF id (fun _ _ _ => True) B g w (itemsP propP N s) E wr := fun hx E hE => by
      obtain ⟨A, c, rfl⟩ := own_slice HO.out
      rw [items_end HI.out hx]
      exact ⟨A, c, l, hE, rfl, HO.out, HNS.out, he, hb⟩
    by_cases h0 : gk = 0
    · subst h0
      have F0 := Lib.hid (fin (.inl rfl))
      clear fin
      go_wp2
      go_ret
      exact F0.out _ rfl
    · cases hov : s'.ov with
      | true =>
        rw [eyeE_yes hov] at c1
        have F0 := Lib.hid (fin (.inr hov))
        clear fin
        go_wp2
        go_ret
        exact F0.out _ rfl
      | false =>
        rw [eyeE_no hov] at c1
        obtain ⟨r, rfl⟩ : ∃ r, gk = r + 1 := ⟨gk - 1, by omega⟩
        clear fin
        obtain ⟨x, s2, EX⟩ := pair_of (propP s')
        go_upto_region 4 with (first | (go_at_call 67; (with_reducible refine (eyePropE he EX).mono ?_); rintro e w2 ⟨rfl, he2, hb2⟩; have HO2 := Lib.hid (hb2.row HO.out he.choose_spec.choose_spec.choose_spec.row (by decide))) | (refine wpList_add_el rfl rfl rfl rfl ELProp (by omega) (by simp [Act.eval, Act.put]) (BSProp x) rfl rfl HO2.out (fun i _ => propF_one x i) (by have := HR.out; omega) (by have := HR.out; omega) (by have := hb.size; have := hb2.size; omega) ?_; intro v3 w3 ho3 hk3 hm3 hw3))
        have hlo := own_lo HO2.out
        have he3 := he2.kept hk3 (fun k hk => by have := hlo k hk; omega)
        have hb3 := (hb.trans hb2).kept hk3 hm3 hlo
        
        go_roundg r
        case measure => omega
        case rel =>
          refine ⟨l ++ [x], s2, v3, rfl, by go_num, by have := HR.out; simp; omega, ?_, he3, ?_, ?_, hb3⟩
          · rw [List.map_append]
            exact items_step HI.out hov EX
          · rw [List.length_append, cellsOf_snoc]
            exact ho3
          · exact fun _ _ => trivial
/-- A key's cells. -/
def keyF (k : Nat → Nat) (j : Nat) : Value := byteV k j
theorem keyF_one (k : Nat → Nat) (j : Nat) : (keyF k j).oneCell' = true := rfl
theorem keyF_arr (k : Nat → Nat) : (arr .u8 32 fun i => ((k i : Nat) : Int)) = arrV 32 (keyF k) := rfl
theorem ELKey : ElT Try.prog 39 37 32 32 := ⟨Try.underlying39, by kernel_rfl⟩
theorem BSKey (k : Nat → Nat) : Try.prog.builtSlice 37 1 [(0, .agg (arr .u8 32 fun i => ((k i : Nat) : Int)))] = some (arrV 32 (keyF k)) := by kernel_rfl
set_option maxRecDepth 100000 in
set_option maxHeartbeats 2000000 in
theorem itemsKey (N : Nat) (hN : N < 65536) {B : Nat} (g : Nat) (s : Rs) (w : World) (h : Eye w B g s) :
    Calls Try.prog 71 #[.pointer (some ⟨g, 0, none⟩), .int .u64 N, .func (.func 68) #[.pointer (some ⟨g, 0, none⟩)] #[]] w (ItPost 37 32 keyF id (fun _ _ _ => True) B g w (itemsP keyP N s)) := by
  have hgl := h.lt
  go_enter Try.func71, Try.ntmps71
  go_wp2
  go_loopg [1, 6] N (fun r x v wr => ∃ (l : List (Nat → Nat)) (s' : Rs) (V : Value), V = v ∧ x = .int .u64 r ∧ r + l.length ≤ N ∧ itemsP keyP N s = (l.map id ++ (itemsP keyP r s').1, (itemsP keyP r s').2) ∧ Eye wr B g s' ∧ wr.ownsRow w.heap.size 37 32 V l.length (cellsOf 32 keyF l) ∧ (∀ x ∈ l, (fun _ _ _ => True) wr w.heap.size x) ∧ But g w wr)
  case atStart => exact ⟨[], s, _, rfl, rfl, Nat.le_refl _, rfl, h, ⟨rfl, .inl ⟨rfl, rfl⟩⟩, (fun x hx => by cases hx), But.refl _ _⟩
  case round =>
    clear h
    obtain ⟨l, s', V, rfl, rfl, hr, hit, he, ho, hnest, hb⟩ := hrel
    obtain ⟨A0, n0, c0', hE⟩ := he
    have c1 := hE.c1
    have he : Eye wr B g s' := ⟨_, _, _, hE⟩
    clear hE
    have HO := Lib.hid ho
    have HI := Lib.hid hit
    have HNS := Lib.hid hnest
    have HR := Lib.hid hr
    have hrN : gk < 18446744073709551616 := by omega
    clear ho hit hnest hr
    have fin : (gk = 0 ∨ s'.ov = true) → ∀ E, E = .returned V → ItPost 37 32 keyF id (fun _ _ _ => True) B g w (itemsP keyP N s) E wr := fun hx E hE => by
      obtain ⟨A, c, rfl⟩ := own_slice HO.out
      rw [items_end HI.out hx]
      exact ⟨A, c, l, hE, rfl, HO.out, HNS.out, he, hb⟩
    by_cases h0 : gk = 0
    · subst h0
      have F0 := Lib.hid (fin (.inl rfl))
      clear fin
      go_wp2
      go_ret
      exact F0.out _ rfl
    · cases hov : s'.ov with
      | true =>
        rw [eyeE_yes hov] at c1
        have F0 := Lib.hid (fin (.inr hov))
        clear fin
        go_wp2
        go_ret
        exact F0.out _ rfl
      | false =>
        rw [eyeE_no hov] at c1
        obtain ⟨r, rfl⟩ : ∃ r, gk = r + 1 := ⟨gk - 1, by omega⟩
        clear fin
        obtain ⟨x, s2, EX⟩ := pair_of (keyP s')
        go_upto_region 4 with (first | (go_at_call 68; (with_reducible refine (eyeKeyE he EX).mono ?_); rintro e w2 ⟨rfl, he2, hb2⟩; have HO2 := Lib.hid (hb2.row HO.out he.choose_spec.choose_spec.choose_spec.row (by decide))) | (refine wpList_add_el rfl rfl rfl rfl ELKey (by omega) (by simp [Act.eval, Act.put]) (BSKey x) rfl rfl HO2.out (fun i _ => keyF_one x i) (by have := HR.out; omega) (by have := HR.out; omega) (by have := hb.size; have := hb2.size; omega) ?_; intro v3 w3 ho3 hk3 hm3 hw3))
        have hlo := own_lo HO2.out
        have he3 := he2.kept hk3 (fun k hk => by have := hlo k hk; omega)
        have hb3 := (hb.trans hb2).kept hk3 hm3 hlo
        
        go_roundg r
        case measure => omega
        case rel =>
          refine ⟨l ++ [x], s2, v3, rfl, by go_num, by have := HR.out; simp; omega, ?_, he3, ?_, ?_, hb3⟩
          · rw [List.map_append]
            exact items_step HI.out hov EX
          · rw [List.length_append, cellsOf_snoc]
            exact ho3
          · exact fun _ _ => trivial
/-- A text's cell: where it lies. -/
structure Pl where
  l : List Nat
  A : Option Addr
  c : Nat
def plF (x : Pl) (_ : Nat) : Value := .slice x.A x.l.length x.c
def PlN (w : World) (base : Nat) (x : Pl) : Prop := Own w base 5 (.slice x.A x.l.length x.c) x.l
theorem ELBox : ElT Try.prog 40 22 1 24 := ⟨Try.underlying40, by kernel_rfl⟩
theorem BSBox (x : Pl) : Try.prog.builtSlice 22 1 [(0, .slice x.A x.l.length x.c)] = some (arrV 1 (plF x)) := by kernel_rfl
theorem eyeBoxE {B g : Nat} {l : List Nat} {s s' : Rs} {w : World} (h : Eye w B g s) (hE : boxP s = (l, s')) :
    Calls Try.prog 73 #[.pointer (some ⟨g, 0, none⟩)] w fun e w' => ∃ x : Pl, x.l = l ∧ e = .returned (.slice x.A x.l.length x.c) ∧ PlN w' w.heap.size x ∧ Eye w' B g s' ∧ But g w w' :=
  (eyeBox g s w h).mono fun e w' h => by
    rw [hE] at h
    obtain ⟨A, c, he, ho, h2, h3⟩ := h
    exact ⟨⟨l, A, c⟩, rfl, he, ho, h2, h3⟩
theorem PlN.but {B g base : Nat} {x : Pl} {w w' : World} {s : Rs} (h : PlN w base x) (hb : But g w w') (he : Eye w B g s) : PlN w' base x := by
  obtain ⟨_, _, _, k⟩ := he
  exact hb.row h k.row (by decide)
set_option maxRecDepth 100000 in
set_option maxHeartbeats 2000000 in
theorem itemsBox (N : Nat) (hN : N < 4398046511104) {B : Nat} (g : Nat) (s : Rs) (w : World) (h : Eye w B g s) :
    Calls Try.prog 72 #[.pointer (some ⟨g, 0, none⟩), .int .u64 N, .func (.func 73) #[.pointer (some ⟨g, 0, none⟩)] #[]] w (ItPost 22 1 plF Pl.l PlN B g w (itemsP boxP N s)) := by
  have hgl := h.lt
  go_enter Try.func72, Try.ntmps72
  go_wp2
  go_loopg [1, 6] N (fun r x v wr => ∃ (l : List Pl) (s' : Rs) (V : Value), V = v ∧ x = .int .u64 r ∧ r + l.length ≤ N ∧ itemsP boxP N s = (l.map Pl.l ++ (itemsP boxP r s').1, (itemsP boxP r s').2) ∧ Eye wr B g s' ∧ wr.ownsRow w.heap.size 22 1 V l.length (cellsOf 1 plF l) ∧ (∀ x ∈ l, PlN wr w.heap.size x) ∧ But g w wr)
  case atStart => exact ⟨[], s, _, rfl, rfl, Nat.le_refl _, rfl, h, ⟨rfl, .inl ⟨rfl, rfl⟩⟩, (fun x hx => by cases hx), But.refl _ _⟩
  case round =>
    clear h
    obtain ⟨l, s', V, rfl, rfl, hr, hit, he, ho, hnest, hb⟩ := hrel
    obtain ⟨A0, n0, c0', hE⟩ := he
    have c1 := hE.c1
    have he : Eye wr B g s' := ⟨_, _, _, hE⟩
    clear hE
    have HO := Lib.hid ho
    have HI := Lib.hid hit
    have HNS := Lib.hid hnest
    have HR := Lib.hid hr
    have hrN : gk < 18446744073709551616 := by omega
    clear ho hit hnest hr
    have fin : (gk = 0 ∨ s'.ov = true) → ∀ E, E = .returned V → ItPost 22 1 plF Pl.l PlN B g w (itemsP boxP N s) E wr := fun hx E hE => by
      obtain ⟨A, c, rfl⟩ := own_slice HO.out
      rw [items_end HI.out hx]
      exact ⟨A, c, l, hE, rfl, HO.out, HNS.out, he, hb⟩
    by_cases h0 : gk = 0
    · subst h0
      have F0 := Lib.hid (fin (.inl rfl))
      clear fin
      go_wp2
      go_ret
      exact F0.out _ rfl
    · cases hov : s'.ov with
      | true =>
        rw [eyeE_yes hov] at c1
        have F0 := Lib.hid (fin (.inr hov))
        clear fin
        go_wp2
        go_ret
        exact F0.out _ rfl
      | false =>
        rw [eyeE_no hov] at c1
        obtain ⟨r, rfl⟩ : ∃ r, gk = r + 1 := ⟨gk - 1, by omega⟩
        clear fin
        obtain ⟨x, s2, EX⟩ := pair_of (boxP s')
        go_upto_region 4 with (first | (go_at_call 73; (with_reducible refine (eyeBoxE he EX).mono ?_); rintro e w2 ⟨y, rfl, rfl, hny, he2, hb2⟩; have HO2 := Lib.hid (hb2.row HO.out he.choose_spec.choose_spec.choose_spec.row (by decide))) | (refine wpList_add_el rfl rfl rfl rfl ELBox (by omega) (by simp [Act.eval, Act.put]) (BSBox y) rfl rfl HO2.out (fun i _ => rfl) (by have := HR.out; omega) (by have := HR.out; omega) (by have := hb.size; have := hb2.size; omega) ?_; intro v3 w3 ho3 hk3 hm3 hw3))
        have hlo := own_lo HO2.out
        have he3 := he2.kept hk3 (fun k hk => by have := hlo k hk; omega)
        have hb3 := (hb.trans hb2).kept hk3 hm3 hlo
        
        go_roundg r
        case measure => omega
        case rel =>
          refine ⟨l ++ [y], s2, v3, rfl, by go_num, by have := HR.out; simp; omega, ?_, he3, ?_, ?_, hb3⟩
          · rw [List.map_append]
            exact items_step HI.out hov EX
          · rw [List.length_append, cellsOf_snoc]
            exact ho3
          · 
              intro z hz
              rcases List.mem_append.1 hz with hz | hz
              · exact own_kept ((HNS.out z hz).but hb2 he) HO2.out (by decide) hk3
              · obtain rfl : z = y := by simpa using hz
                exact own_kept (hny.mono (by have := hb.size; omega)) HO2.out (by decide) hk3
/-- A variable that points at the eye. -/
def EyeVar (w : World) (P g : Nat) : Prop := w.heap[P]? = some (.cells #[.pointer (some ⟨g, 0, none⟩)] 90 (0, 0))
theorem EyeVar.cell {w : World} {P g : Nat} (h : EyeVar w P g) : w.cell? ⟨P, 0, none⟩ = some (.pointer (some ⟨g, 0, none⟩)) := by rw [cell_of_row _ _ _ _ _ _ h]; rfl
def intF (x : Nat) (_ : Nat) : Value := .int .i64 (x : Int)
theorem ELInt : ElT Try.prog 69 3 1 8 := ⟨Try.underlying69, by kernel_rfl⟩
theorem BSInt (x : Nat) : Try.prog.builtSlice 3 1 [(0, .int .i64 (x : Int))] = some (arrV 1 (intF x)) := by kernel_rfl
set_option maxRecDepth 100000 in
theorem eyeOne {B g P x : Nat} {s s' : Rs} {w : World} (h : Eye w B g s) (hP : EyeVar w P g) (hE : numP 2 s = (x, s')) :
    Calls Try.prog 93 #[.pointer (some ⟨P, 0, none⟩)] w fun e w' => e = .returned (.int .i64 (x : Int)) ∧ Eye w' B g s' ∧ But g w w' := by
  have cP := hP.cell
  have lt := h.lt2 hE
  go_enter Try.func93, Try.ntmps93
  go_wp2_with (go_at_call 65; (with_reducible refine (eyeNum2 h hE).mono ?_); rintro e w2 ⟨rfl, he2, hb2⟩)
  go_ret
  exact ⟨rfl, he2, hb2⟩
set_option maxRecDepth 100000 in
set_option maxHeartbeats 2000000 in
theorem itemsInt (N : Nat) (hN : N < 65536) {B : Nat} (g : Nat) (P : Nat) (s : Rs) (w : World) (h : Eye w B g s) (hP : EyeVar w P g) (hPg : g < P) :
    Calls Try.prog 92 #[.pointer (some ⟨g, 0, none⟩), .int .u64 N, .func (.func 93) #[] #[.pointer (some ⟨P, 0, none⟩)]] w (ItPost 3 1 intF id (fun _ _ _ => True) B g w (itemsP (numP 2) N s)) := by
  have hgl := h.lt
  go_enter Try.func92, Try.ntmps92
  go_wp2
  go_loopg [1, 6] N (fun r x v wr => ∃ (l : List Nat) (s' : Rs) (V : Value), V = v ∧ x = .int .u64 r ∧ r + l.length ≤ N ∧ itemsP (numP 2) N s = (l.map id ++ (itemsP (numP 2) r s').1, (itemsP (numP 2) r s').2) ∧ Eye wr B g s' ∧ wr.ownsRow w.heap.size 3 1 V l.length (cellsOf 1 intF l) ∧ (∀ x ∈ l, (fun _ _ _ => True) wr w.heap.size x) ∧ But g w wr ∧ EyeVar wr P g)
  case atStart => exact ⟨[], s, _, rfl, rfl, Nat.le_refl _, rfl, h, ⟨rfl, .inl ⟨rfl, rfl⟩⟩, (fun x hx => by cases hx), But.refl _ _, hP⟩
  case round =>
    clear h
    obtain ⟨l, s', V, rfl, rfl, hr, hit, he, ho, hnest, hb, hPr⟩ := hrel
    obtain ⟨A0, n0, c0', hE⟩ := he
    have c1 := hE.c1
    have he : Eye wr B g s' := ⟨_, _, _, hE⟩
    clear hE
    have HO := Lib.hid ho
    have HI := Lib.hid hit
    have HNS := Lib.hid hnest
    have HR := Lib.hid hr
    have hrN : gk < 18446744073709551616 := by omega
    clear ho hit hnest hr
    have fin : (gk = 0 ∨ s'.ov = true) → ∀ E, E = .returned V → ItPost 3 1 intF id (fun _ _ _ => True) B g w (itemsP (numP 2) N s) E wr := fun hx E hE => by
      obtain ⟨A, c, rfl⟩ := own_slice HO.out
      rw [items_end HI.out hx]
      exact ⟨A, c, l, hE, rfl, HO.out, HNS.out, he, hb⟩
    by_cases h0 : gk = 0
    · subst h0
      have F0 := Lib.hid (fin (.inl rfl))
      clear fin
      go_wp2
      go_ret
      exact F0.out _ rfl
    · cases hov : s'.ov with
      | true =>
        rw [eyeE_yes hov] at c1
        have F0 := Lib.hid (fin (.inr hov))
        clear fin
        go_wp2
        go_ret
        exact F0.out _ rfl
      | false =>
        rw [eyeE_no hov] at c1
        obtain ⟨r, rfl⟩ : ∃ r, gk = r + 1 := ⟨gk - 1, by omega⟩
        clear fin
        obtain ⟨x, s2, EX⟩ := pair_of ((numP 2) s')
        go_upto_region 4 with (first | (go_at_call 93; (with_reducible refine (eyeOne he hPr EX).mono ?_); rintro e w2 ⟨rfl, he2, hb2⟩; have HO2 := Lib.hid (hb2.row HO.out he.choose_spec.choose_spec.choose_spec.row (by decide))) | (refine wpList_add_el rfl rfl rfl rfl ELInt (by omega) (by simp [Act.eval, Act.put]) (BSInt x) rfl rfl HO2.out (fun i _ => rfl) (by have := HR.out; omega) (by have := HR.out; omega) (by have := hb.size; have := hb2.size; omega) ?_; intro v3 w3 ho3 hk3 hm3 hw3))
        have hlo := own_lo HO2.out
        have he3 := he2.kept hk3 (fun k hk => by have := hlo k hk; omega)
        have hb3 := (hb.trans hb2).kept hk3 hm3 hlo
        have hP3 : EyeVar w3 P g := (hk3 P (by have := lt_of_block hP; have := hb.size; have := hb2.size; omega) (fun e => absurd (hlo P e) (by have := lt_of_block hP; omega))).trans (hb2.keep hPr (by omega))
        go_roundg r
        case measure => omega
        case rel =>
          refine ⟨l ++ [x], s2, v3, rfl, by go_num, by have := HR.out; simp; omega, ?_, he3, ?_, ?_, hb3, hP3⟩
          · rw [List.map_append]
            exact items_step HI.out hov EX
          · rw [List.length_append, cellsOf_snoc]
            exact ho3
          · exact fun _ _ => trivial
/-- A step, and where its numbers lie. -/
structure StM where
  p : PStep
  A : Option Addr
  c : Nat
def stepF (x : StM) (j : Nat) : Value := stepV (x.p.node : Int) ((x.p.frm : Int) - 1) x.A x.p.sd.length x.c j
theorem stepF_one (x : StM) (j : Nat) : (stepF x j).oneCell' = true := stepV_one _ _ _ _ _ _
def StN (w : World) (base : Nat) (x : StM) : Prop := w.ownsRow base 3 1 (.slice x.A x.p.sd.length x.c) x.p.sd.length (cellsOf 1 intF x.p.sd)
theorem ZVStep0 : ZeroV Try.prog 71 3 (arrV 3 (stepV 0 0 none 0 0)) := ⟨by kernel_rfl, by rw [arrV_size]⟩
theorem stepP_is {s s1 s2 s3 s4 : Rs} {nd fr n : Nat} {sd : List Nat} (h1 : numP 2 s = (nd, s1)) (h2 : numP 2 s1 = (fr, s2)) (h3 : numP 2 s2 = (n, s3)) (h4 : itemsP (numP 2) n s3 = (sd, s4)) : stepP' s = (⟨nd, fr, sd⟩, s4) := by
  unfold stepP'
  simp only [h1, h2, h3, h4]
set_option maxRecDepth 100000 in
set_option maxHeartbeats 2000000 in
theorem eyeStep {B : Nat} (g : Nat) (s : Rs) (w : World) (h : Eye w B g s) :
    Calls Try.prog 70 #[.pointer (some ⟨g, 0, none⟩)] w fun e w' => ∃ x : StM, x.p = (stepP' s).1 ∧ e = .returned (.agg (arrV 3 (stepF x))) ∧ StN w' w.heap.size x ∧ Eye w' B g (stepP' s).2 ∧ But g w w' := by
  obtain ⟨nd, s1, E1⟩ := pair_of (numP 2 s)
  obtain ⟨fr, s2, E2⟩ := pair_of (numP 2 s1)
  obtain ⟨n, s3, E3⟩ := pair_of (numP 2 s2)
  obtain ⟨sd, s4, E4⟩ := pair_of (itemsP (numP 2) n s3)
  rw [stepP_is E1 E2 E3 E4]
  have hgl' := h.lt
  have hgl : g < w.heap.size + 1 := by omega
  go_enter Try.func70, Try.ntmps70
  go_upto_region 1 with (refine wpList_alloc_v rfl rfl ZVStep0 ?_)
  obtain ⟨hP0, hq0, hsz, hb0⟩ := alloc2 w (.cells #[.pointer (some ⟨g, 0, none⟩)] 90) (.cells (arrV 3 (stepV 0 0 none 0 0)) 71)
  refine wp_cut (fun x => x.heap[w.heap.size + 1]? = some (.cells (arrV 3 (stepV 0 0 none 0 0)) 71 (0, 0)) ∧ EyeVar x w.heap.size g ∧ Eye x B g s ∧ But g w x) ⟨hq0, hP0, h.after hb0, But.of_below hb0⟩ ?_
  clear hP0 hq0 hsz hb0 h
  rintro w1 ⟨hq, hPv, he, hb⟩
  (try simp only [Act.put, List.setIfInBounds_toArray, List.set_cons_zero, List.set_cons_succ])
  have cP := hPv.cell
  go_upto_region 2 with (go_at_call 65; have lt := he.lt2 E1; (with_reducible refine (eyeNum2 he E1).mono ?_); rintro e w2 ⟨rfl, he2, hb2⟩; have hq2 := hb2.keep hq (by omega); have hP2 := hb2.keep hPv (by omega); have c2 := cell_arrV hq2 0 (by omega); have f2 := frozen_of_row w2 (w.heap.size + 1) 0 _ _ hq2)
  replace he := he2.setOther hgl 0 (.int .i64 (nd : Int))
  replace hb := (hb.trans hb2).setNew (q := w.heap.size + 1) (by omega) 0 (.int .i64 (nd : Int))
  replace hq := set_arrV (i := 0) hq2 (.int .i64 (nd : Int))
  replace hPv : EyeVar (w2.setCell ⟨w.heap.size + 1, 0, none⟩ (.int .i64 (nd : Int))) w.heap.size g := (heap_setCell_other _ _ _ _ (show w.heap.size ≠ w.heap.size + 1 by omega)).trans hP2
  clear hq2 c2 f2 he2 hb2 hP2 cP
  generalize w2.setCell ⟨w.heap.size + 1, 0, none⟩ (.int .i64 (nd : Int)) = w3 at *
  clear w2
  (try simp only [Act.put, List.setIfInBounds_toArray, List.set_cons_zero, List.set_cons_succ])
  have cP := hPv.cell
  clear w1
  go_upto_region 3 with (go_at_call 65; have lt2 := he.lt2 E2; (with_reducible refine (eyeNum2 he E2).mono ?_); rintro e w2 ⟨rfl, he2, hb2⟩; have hq2 := hb2.keep hq (by omega); have hP2 := hb2.keep hPv (by omega); have c2 := cell_arrV hq2 1 (by omega); have f2 := frozen_of_row w2 (w.heap.size + 1) 1 _ _ hq2)
  replace he := he2.setOther hgl 1 (.int .i64 ((fr : Int) - 1))
  replace hb := (hb.trans hb2).setNew (q := w.heap.size + 1) (by omega) 1 (.int .i64 ((fr : Int) - 1))
  replace hq := set_arrV (i := 1) hq2 (.int .i64 ((fr : Int) - 1))
  replace hPv : EyeVar (w2.setCell ⟨w.heap.size + 1, 1, none⟩ (.int .i64 ((fr : Int) - 1))) w.heap.size g := (heap_setCell_other _ _ _ _ (show w.heap.size ≠ w.heap.size + 1 by omega)).trans hP2
  clear hq2 c2 f2 he2 hb2 hP2 cP
  generalize w2.setCell ⟨w.heap.size + 1, 1, none⟩ (.int .i64 ((fr : Int) - 1)) = w4 at *
  clear w2
  (try simp only [Act.put, List.setIfInBounds_toArray, List.set_cons_zero, List.set_cons_succ])
  have cP := hPv.cell
  clear w3
  go_upto_region 4 with (go_at_call 65; have lt3 := he.lt2 E3; (with_reducible refine (eyeNum2 he E3).mono ?_); rintro e w2 ⟨rfl, he2, hb2⟩; have hq2 := hb2.keep hq (by omega); have hP2 := hb2.keep hPv (by omega))
  replace hb := hb.trans hb2
  clear hq hPv he hb2 w4 cP
  (try simp only [Act.put, List.setIfInBounds_toArray, List.set_cons_zero, List.set_cons_succ])
  replace hP2 : EyeVar w2 w.heap.size g := hP2
  have cP := EyeVar.cell hP2
  have hPl := lt_of_block hP2
  have hql := lt_of_block hq2
  go_upto_region 5 with (go_at_call 92; (with_reducible refine (itemsInt n (by omega) g w.heap.size s3 _ he2 hP2 (by omega)).mono ?_); rw [E4]; rintro e w3 ⟨A, c, l, rfl, hml, ho, -, he3, hb3⟩; obtain rfl : l = sd := (List.map_id l).symm.trans hml; have hq3 := hb3.keep hq2 (by omega); have c3 := cell_arrV hq3 2 (by omega); have f3 := frozen_of_row w3 (w.heap.size + 1) 2 _ _ hq3)
  replace he := he3.setOther hgl 2 (.slice A l.length c)
  replace ho := own_set (i := 2) (u := .slice A l.length c) ho hq3 (by decide)
  replace hb := (hb.trans hb3).setNew (q := w.heap.size + 1) (by omega) 2 (.slice A l.length c)
  have hbs := hb.size
  replace hq := set_arrV (i := 2) hq3 (.slice A l.length c)
  rw [show (arrV 3 (upd (upd (upd (stepV 0 0 none 0 0) 0 (.int .i64 (nd : Int))) 1 (.int .i64 ((fr : Int) - 1))) 2 (.slice A l.length c))) = arrV 3 (stepF ⟨⟨nd, fr, l⟩, A, c⟩) from arrV_ext fun i hi => by
    unfold upd stepF stepV
    by_cases h0 : i = 0
    · subst h0; rfl
    · by_cases h1 : i = 1
      · subst h1; rfl
      · obtain rfl : i = 2 := by omega
        rfl] at hq
  clear hq3 c3 f3 he3 hb3 hP2 cP hq2
  generalize w3.setCell ⟨w.heap.size + 1, 2, none⟩ (.slice A l.length c) = w5 at *
  (try simp only [Act.put, List.setIfInBounds_toArray, List.set_cons_zero, List.set_cons_succ])
  go_wp2_with (first | (refine wpList_load_all rfl rfl RTStep rfl hq ?_) | (refine wpList_store_v rfl rfl RTStep rfl rfl hq (fun i _ => stepF_one _ i) ?_))
  refine bodyPost_ret (results_v rfl rfl RTStep (row_self hq)) rfl ⟨⟨⟨nd, fr, l⟩, A, c⟩, rfl, rfl, own_mono (own_setRow ho hq (by decide)) (by omega), he.but (But.row1 _) hgl, hb.newRow (by omega)⟩
theorem eyeStepE {B g : Nat} {p : PStep} {s s' : Rs} {w : World} (h : Eye w B g s) (hE : stepP' s = (p, s')) :
    Calls Try.prog 70 #[.pointer (some ⟨g, 0, none⟩)] w fun e w' => ∃ x : StM, x.p = p ∧ e = .returned (.agg (arrV 3 (stepF x))) ∧ StN w' w.heap.size x ∧ Eye w' B g s' ∧ But g w w' := by
  have := eyeStep g s w h
  rw [hE] at this
  exact this
theorem StN.but {B g base : Nat} {x : StM} {w w' : World} {s : Rs} (h : StN w base x) (hb : But g w w') (he : Eye w B g s) : StN w' base x := by
  obtain ⟨_, _, _, k⟩ := he
  exact hb.row h k.row (by decide)
theorem ELStep : ElT Try.prog 38 71 3 40 := ⟨Try.underlying38, by kernel_rfl⟩
theorem BSStep (x : StM) : Try.prog.builtSlice 71 1 [(0, .agg (arrV 3 (stepF x)))] = some (arrV 3 (stepF x)) := by kernel_rfl
set_option maxRecDepth 100000 in
set_option maxHeartbeats 2000000 in
theorem itemsStep (N : Nat) (hN : N < 65536) {B : Nat} (g : Nat) (s : Rs) (w : World) (h : Eye w B g s) :
    Calls Try.prog 69 #[.pointer (some ⟨g, 0, none⟩), .int .u64 N, .func (.func 70) #[.pointer (some ⟨g, 0, none⟩)] #[]] w (ItPost 71 3 stepF StM.p StN B g w (itemsP stepP' N s)) := by
  have hgl := h.lt
  go_enter Try.func69, Try.ntmps69
  go_wp2
  go_loopg [1, 6] N (fun r x v wr => ∃ (l : List StM) (s' : Rs) (V : Value), V = v ∧ x = .int .u64 r ∧ r + l.length ≤ N ∧ itemsP stepP' N s = (l.map StM.p ++ (itemsP stepP' r s').1, (itemsP stepP' r s').2) ∧ Eye wr B g s' ∧ wr.ownsRow w.heap.size 71 3 V l.length (cellsOf 3 stepF l) ∧ (∀ x ∈ l, StN wr w.heap.size x) ∧ But g w wr)
  case atStart => exact ⟨[], s, _, rfl, rfl, Nat.le_refl _, rfl, h, ⟨rfl, .inl ⟨rfl, rfl⟩⟩, (fun x hx => by cases hx), But.refl _ _⟩
  case round =>
    clear h
    obtain ⟨l, s', V, rfl, rfl, hr, hit, he, ho, hnest, hb⟩ := hrel
    obtain ⟨A0, n0, c0', hE⟩ := he
    have c1 := hE.c1
    have he : Eye wr B g s' := ⟨_, _, _, hE⟩
    clear hE
    have HO := Lib.hid ho
    have HI := Lib.hid hit
    have HNS := Lib.hid hnest
    have HR := Lib.hid hr
    have hrN : gk < 18446744073709551616 := by omega
    clear ho hit hnest hr
    have fin : (gk = 0 ∨ s'.ov = true) → ∀ E, E = .returned V → ItPost 71 3 stepF StM.p StN B g w (itemsP stepP' N s) E wr := fun hx E hE => by
      obtain ⟨A, c, rfl⟩ := own_slice HO.out
      rw [items_end HI.out hx]
      exact ⟨A, c, l, hE, rfl, HO.out, HNS.out, he, hb⟩
    by_cases h0 : gk = 0
    · subst h0
      have F0 := Lib.hid (fin (.inl rfl))
      clear fin
      go_wp2
      go_ret
      exact F0.out _ rfl
    · cases hov : s'.ov with
      | true =>
        rw [eyeE_yes hov] at c1
        have F0 := Lib.hid (fin (.inr hov))
        clear fin
        go_wp2
        go_ret
        exact F0.out _ rfl
      | false =>
        rw [eyeE_no hov] at c1
        obtain ⟨r, rfl⟩ : ∃ r, gk = r + 1 := ⟨gk - 1, by omega⟩
        clear fin
        obtain ⟨x, s2, EX⟩ := pair_of (stepP' s')
        go_upto_region 4 with (first | (go_at_call 70; (with_reducible refine (eyeStepE he EX).mono ?_); rintro e w2 ⟨y, rfl, rfl, hny, he2, hb2⟩; have HO2 := Lib.hid (hb2.row HO.out he.choose_spec.choose_spec.choose_spec.row (by decide))) | (refine wpList_add_el rfl rfl rfl rfl ELStep (by omega) (by simp [Act.eval, Act.put]) (BSStep y) rfl rfl HO2.out (fun i _ => stepF_one _ i) (by have := HR.out; omega) (by have := HR.out; omega) (by have := hb.size; have := hb2.size; omega) ?_; intro v3 w3 ho3 hk3 hm3 hw3))
        have hlo := own_lo HO2.out
        have he3 := he2.kept hk3 (fun k hk => by have := hlo k hk; omega)
        have hb3 := (hb.trans hb2).kept hk3 hm3 hlo
        
        go_roundg r
        case measure => omega
        case rel =>
          refine ⟨l ++ [y], s2, v3, rfl, by go_num, by have := HR.out; simp; omega, ?_, he3, ?_, ?_, hb3⟩
          · rw [List.map_append]
            exact items_step HI.out hov EX
          · rw [List.length_append, cellsOf_snoc]
            exact ho3
          · 
              intro z hz
              rcases List.mem_append.1 hz with hz | hz
              · exact own_kept ((HNS.out z hz).but hb2 he) HO2.out (by decide) hk3
              · obtain rfl : z = y := by simpa using hz
                exact own_kept (own_mono hny (by have := hb.size; omega)) HO2.out (by decide) hk3
end Go.Proofs.Ytfbfkfdkigpkgaa
