/- The walks of layer 16's eye: a number is taken; bytes are cut off; a key is read. -/
import Derived.Test.YtfbfkfdkigpkgaaPar
import Derived.Test.YtfbfkfdkigpkgaaCut
import Derived.Test.YtfbfkfdkigpkgaaCln
import Derived.Test.YtfbfkfdkigpkgaaPen
import Derived.Laws.Bits64b
namespace Go.Proofs.Ytfbfkfdkigpkgaa
set_option linter.unusedSimpArgs false
set_option linter.unusedVariables false
open Go.RowKit
attribute [local irreducible] beL beK

/-- All but one block stay. -/
structure But (g : Nat) (w w' : World) : Prop where
  os : w'.os = w.os
  tape : w'.tape = w.tape
  output : w'.output = w.output
  size : w.heap.size ≤ w'.heap.size
  block : ∀ k, k < w.heap.size → k ≠ g → w'.heap[k]? = w.heap[k]?
section
variable {g B : Nat} {w w' w'' : World}
theorem But.refl (g : Nat) (w : World) : But g w w := ⟨rfl, rfl, rfl, Nat.le_refl _, fun _ _ _ => rfl⟩
theorem But.trans (h : But g w w') (k : But g w' w'') : But g w w'' :=
  ⟨k.os.trans h.os, k.tape.trans h.tape, k.output.trans h.output, Nat.le_trans h.size k.size, fun i hi h1 => (k.block i (Nat.lt_of_lt_of_le hi h.size) h1).trans (h.block i hi h1)⟩
theorem But.of_below (h : Below w.heap.size w w') : But g w w' := ⟨h.os, h.tape, h.output, h.size, fun i hi _ => h.block i hi⟩
theorem But.below (h : But g w w') (hB : B ≤ g) (hs : B ≤ w.heap.size) : Below B w w' := ⟨h.os, h.tape, h.output, h.size, fun i hi => h.block i (by omega) (by omega)⟩
theorem But.alloc (h : But g w w') (o : Obj) : But g w (w'.alloc o) := h.trans (But.of_below ((Below.refl _ _).alloc (Nat.le_refl _) o))
theorem But.set (h : But g w w') (i : Nat) (v : Value) : But g w (w'.setCell ⟨g, i, none⟩ v) :=
  h.trans ⟨(Below.refl 0 w').setCell (p := ⟨g, i, none⟩) (Nat.zero_le _) v |>.os, (Below.refl 0 w').setCell (p := ⟨g, i, none⟩) (Nat.zero_le _) v |>.tape, (Below.refl 0 w').setCell (p := ⟨g, i, none⟩) (Nat.zero_le _) v |>.output, (Below.refl 0 w').setCell (p := ⟨g, i, none⟩) (Nat.zero_le _) v |>.size, fun k _ hk => heap_setCell_other _ _ _ _ hk⟩
theorem But.keep (h : But g w w') {k : Nat} {x : Obj} (hx : w.heap[k]? = some x) (hk : k ≠ g) : w'.heap[k]? = some x := (h.block k (lt_of_block hx) hk).trans hx
/-- A row of another type than the block's that changes. -/
theorem But.row {base sz n : Nat} {e t : TypeId} {v : Value} {xs : List Value} {c : Array Value} {fr : Nat × Nat} (h : But g w w') (hr : w.ownsRow base e sz v n xs) (hg : w.heap[g]? = some (.cells c t fr)) (hne : e ≠ t) : w'.ownsRow base e sz v n xs := by
  refine ⟨hr.1, ?_⟩
  rcases hr.2 with h2 | ⟨b, cap, cur, rfl, h3, hh, h4⟩
  · exact .inl h2
  · refine .inr ⟨b, cap, cur, rfl, h3, h.keep hh ?_, h4⟩
    rintro rfl
    rw [hg] at hh
    injection hh with hh
    injection hh with _ ht
    exact hne ht.symm
end

theorem or_low8 (a b t : Nat) (ha : a < 2 ^ t) : a ||| (b * 2 ^ t) = a + b * 2 ^ t := by
  rw [Nat.or_comm, Nat.mul_comm, ← Nat.two_pow_add_eq_or_of_lt ha, Nat.add_comm]
theorem beV_snoc (l : List Nat) (x : Nat) : beV (l ++ [x]) = 256 * beV l + x := by unfold beV; rw [beVf_append]; rfl
theorem beV_small {l : List Nat} {k : Nat} (hb : Byt l) (h : l.length ≤ k) : beV l < 256 ^ k :=
  Nat.lt_of_lt_of_le (beV_lt l.length l hb rfl).1 (Nat.pow_le_pow_right (by omega) h)
theorem byt_take {l : List Nat} (h : Byt l) (n : Nat) : Byt (l.take n) := fun x hx => h x (List.mem_of_mem_take hx)
theorem byt_drop {l : List Nat} (h : Byt l) (n : Nat) : Byt (l.drop n) := fun x hx => h x (List.mem_of_mem_drop hx)
theorem take_snoc (l : List Nat) (i : Nat) (h : i < l.length) : l.take (i + 1) = l.take i ++ [l.getD i 0] := by
  rw [List.take_add_one, List.getD_eq_getElem?_getD, List.getElem?_eq_getElem h]; rfl
theorem or8 (n c : Nat) (hn : n < 72057594037927936) (hc : c < 256) : bits .or .u64 ((n : Int) * 256) (c : Int) = ((256 * n + c : Nat) : Int) := by
  have e : (n * 256) ||| c = 256 * n + c := by
    have := or_low8 c n 8 (by omega)
    rw [Nat.or_comm, show (256 : Nat) = 2 ^ 8 from rfl, this]
    omega
  have h1 := bits_or_u64_nat (n * 256) c (by omega) (by omega)
  rw [e] at h1
  rw [← h1]
  congr 1

set_option maxRecDepth 100000 in
set_option maxHeartbeats 2000000 in
theorem TakeNum_yes (A : Option Addr) (n c : Nat) (l : List Nat) (hnc : n ≤ c) (hc : n ≤ 140737488355328) (hb : Byt l) (W : Nat) (h1 : 1 ≤ W) (h8 : W ≤ 8) (hW : W ≤ n) (B : Nat) (w : World) (h : Txt w B A n c l) :
    Calls Try.prog 91 #[.slice A n c, .int .i64 0, .int .i64 W] w fun e w' => e = .returned (.tuple #[.int .u64 ((beV (l.take W) : Nat) : Int), .int .i64 W, .int .i64 0]) ∧ w = w' := by
  have H := Lib.hid h
  have HBt := Lib.hid hb
  have hlen := h.len
  clear h hb
  go_enter Try.func91, Try.ntmps91
  go_wp2_with (refine wpList_val_w rfl (run_op_cut_lh (lo := 0) (hi := W) BT rfl rfl rfl rfl (Nat.zero_le _) (by omega)) ?_)
  go_loopg [9, 43] W (fun k x i wr => ∃ m : Nat, m + k = W ∧ i = .int .i64 m ∧ x = .int .u64 ((beV (l.take m) : Nat) : Int) ∧ wr = w)
  case atStart => exact ⟨0, by omega, rfl, rfl, rfl⟩
  case round =>
    obtain ⟨m, hm, rfl, rfl, rfl⟩ := hrel
    by_cases hlt : m < W
    · obtain ⟨ad, rfl, hbk, hc2⟩ := H.out.cell (show m < n by omega)
      have hv : beV (l.take m) < 72057594037927936 := by
        have h := beV_small (k := 7) (byt_take HBt.out m) (by rw [List.length_take]; omega)
        exact h
      have hx : l.getD m 0 < 256 := by
        rw [List.getD_eq_getElem?_getD, List.getElem?_eq_getElem (by omega)]
        exact HBt.out _ (List.getElem_mem _)
      have e2 : beV (l.take (m + 1)) = 256 * beV (l.take m) + l.getD m 0 := by rw [take_snoc l m (by omega), beV_snoc]
      have E2 := Lib.hid e2
      clear e2
      generalize beV (l.take m) = v at *
      generalize l.getD m 0 = x at *
      replace hc2 : _ = some (Value.int .u8 (x : Int)) := hc2
      have o8 := or8 v x hv hx
      have hv' : (v : Int) < 72057594037927936 := by omega
      go_wp2
      go_roundg (gk - 1)
      case measure => omega
      case rel =>
        refine ⟨m + 1, by omega, by go_num, ?_, rfl⟩
        rw [E2.out]
        congr 1
    · obtain rfl : m = W := by omega
      go_wp2
      go_ret3
      exact ⟨rfl, rfl⟩
set_option maxRecDepth 100000 in
set_option maxHeartbeats 2000000 in
theorem TakeNum_no (A : Option Addr) (n c : Nat) (hc : n ≤ 140737488355328) (W : Nat) (h1 : 1 ≤ W) (h8 : W ≤ 8) (hW : n < W) (w : World) :
    Calls Try.prog 91 #[.slice A n c, .int .i64 0, .int .i64 W] w fun e w' => e = .returned (.tuple #[.int .u64 0, .int .i64 0, .int .i64 2]) ∧ w = w' := by
  go_enter Try.func91, Try.ntmps91
  go_wp2
  go_ret3
  exact ⟨rfl, rfl⟩

/-- What an eye says has gone wrong. -/
def eyeE (s : Rs) : Int := if s.ov = true then 3 else 0
theorem eyeE_no {s : Rs} (h : s.ov = false) : eyeE s = 0 := by unfold eyeE; rw [h]; rfl
theorem eyeE_yes {s : Rs} (h : s.ov = true) : eyeE s = 3 := by unfold eyeE; rw [if_pos h]
/-- An eye that lies in block g; what it reads lies below it. -/
structure EyeAt (w : World) (B g : Nat) (A : Option Addr) (n c : Nat) (s : Rs) : Prop where
  row : w.heap[g]? = some (.cells #[.slice A n c, .int .i64 (eyeE s)] 102 (0, 0))
  low : B ≤ g
  txt : Txt w B A n c s.l
  cap : n ≤ c
  len : n ≤ 140737488355328
  byt : Byt s.l
def Eye (w : World) (B g : Nat) (s : Rs) : Prop := ∃ A n c, EyeAt w B g A n c s
section
variable {w w' : World} {B g n c : Nat} {A : Option Addr} {s : Rs}
theorem EyeAt.c0 (h : EyeAt w B g A n c s) : w.cell? ⟨g, 0, none⟩ = some (.slice A n c) := by rw [cell_of_row _ _ _ _ _ _ h.row]; rfl
theorem EyeAt.c1 (h : EyeAt w B g A n c s) : w.cell? ⟨g, 1, none⟩ = some (.int .i64 (eyeE s)) := by rw [cell_of_row _ _ _ _ _ _ h.row]; rfl
theorem EyeAt.free (h : EyeAt w B g A n c s) (i : Nat) : w.frozen? ⟨g, i, none⟩ = false := frozen_of_row w g i _ _ h.row
theorem EyeAt.after (h : EyeAt w B g A n c s) (hb : Below w.heap.size w w') : EyeAt w' B g A n c s :=
  ⟨(hb.block g (lt_of_block h.row)).trans h.row, h.low, h.txt.below' hb (Nat.le_trans h.low (Nat.le_of_lt (lt_of_block h.row))), h.cap, h.len, h.byt⟩
theorem Eye.after (h : Eye w B g s) (hb : Below w.heap.size w w') : Eye w' B g s := let ⟨A, n, c, k⟩ := h; ⟨A, n, c, k.after hb⟩
theorem Eye.lt (h : Eye w B g s) : g < w.heap.size := let ⟨_, _, _, k⟩ := h; lt_of_block k.row
/-- Too little is there. -/
theorem EyeAt.over (h : EyeAt w B g A n c s) : EyeAt (w.setCell ⟨g, 1, none⟩ (.int .i64 3)) B g A n c ⟨s.l, true⟩ :=
  ⟨by rw [heap_setCell_same w g 1 _ _ _ h.row]; rfl, h.low, h.txt.keep fun p hp => ((Below.refl B w).setCell (p := ⟨g, 1, none⟩) h.low _).cell hp, h.cap, h.len, h.byt⟩
/-- So many bytes were read. -/
theorem EyeAt.moved (h : EyeAt w B g A n c s) (hs : s.ov = false) {k : Nat} (hk : k ≤ n) : EyeAt (w.setCell ⟨g, 0, none⟩ (.slice (cutA A k c) (n - k) (c - k))) B g (cutA A k c) (n - k) (c - k) ⟨s.l.drop k, false⟩ :=
  ⟨by rw [heap_setCell_same w g 0 _ _ _ h.row, eyeE_no hs]; rfl, h.low, (h.txt.from h.cap hk).keep fun p hp => ((Below.refl B w).setCell (p := ⟨g, 0, none⟩) h.low _).cell hp, by have := h.cap; omega, by have := h.len; omega, byt_drop h.byt k⟩
end
theorem numP_ov {k : Nat} {s : Rs} (h : s.ov = true) : numP k s = (0, ⟨s.l, true⟩) := by unfold numP cutP; rw [if_pos (.inl h)]; rfl
theorem numP_short {k : Nat} {s : Rs} (h : s.l.length < k) : numP k s = (0, ⟨s.l, true⟩) := by unfold numP cutP; rw [if_pos (.inr h)]; rfl
theorem numP_yes {k : Nat} {s : Rs} (h : s.ov = false) (h2 : k ≤ s.l.length) : numP k s = (beV (s.l.take k), ⟨s.l.drop k, false⟩) := by unfold numP cutP; rw [if_neg (by rw [h]; simp; omega)]
theorem cutP_no {k : Nat} {s : Rs} (h : s.ov = true ∨ s.l.length < k) : cutP k s = ([], ⟨s.l, true⟩) := by unfold cutP; rw [if_pos h]
theorem cutP_yes {k : Nat} {s : Rs} (h : s.ov = false) (h2 : k ≤ s.l.length) : cutP k s = (s.l.take k, ⟨s.l.drop k, false⟩) := by unfold cutP; rw [if_neg (by rw [h]; simp; omega)]
theorem numP_lt {k : Nat} {s : Rs} (hb : Byt s.l) : (numP k s).1 < 256 ^ k := by
  unfold numP cutP
  split
  · exact Nat.pow_pos (by omega)
  · exact beV_small (byt_take hb k) (by rw [List.length_take]; omega)
theorem rs_ov {s : Rs} (h : s.ov = true) : s = ⟨s.l, true⟩ := by cases s; simp_all
set_option maxRecDepth 100000 in
set_option maxHeartbeats 2000000 in
theorem eyeNum (W : Nat) (h1 : 1 ≤ W) (h8 : W ≤ 8) {B : Nat} (g : Nat) (s : Rs) (w : World) (h : Eye w B g s) :
    Calls Try.prog 65 #[.pointer (some ⟨g, 0, none⟩), .int .i64 W] w fun e w' => e = .returned (.int .u64 (((numP W s).1 : Nat) : Int)) ∧ Eye w' B g (numP W s).2 ∧ But g w w' := by
  obtain ⟨A, n, c, h⟩ := h
  have c0 := h.c0
  have c1 := h.c1
  have f0 := h.free 0
  have f1 := h.free 1
  have H := Lib.hid h
  have hlen := h.txt.len
  clear h
  cases hs : s.ov with
  | true =>
    rw [eyeE_yes hs] at c1
    go_enter Try.func65, Try.ntmps65
    go_wp2
    go_ret
    rw [numP_ov hs]
    refine ⟨rfl, ⟨A, n, c, ?_⟩, But.refl _ _⟩
    dsimp only
    rw [← rs_ov hs]
    exact H.out
  | false =>
    rw [eyeE_no hs] at c1
    by_cases hn : n < W
    · go_enter Try.func65, Try.ntmps65
      go_wp2_with (go_at_call 91; fail)
      refine (TakeNum_no A n c (by have := H.out.cap; have := H.out.len; omega) W h1 h8 hn _).mono ?_
      rintro e w' ⟨rfl, rfl⟩
      go_wp2
      go_ret
      rw [numP_short (by omega)]
      exact ⟨rfl, ⟨A, n, c, H.out.over⟩, (But.refl _ _).set 1 _⟩
    · go_enter Try.func65, Try.ntmps65
      go_wp2_with (go_at_call 91; fail)
      refine (TakeNum_yes A n c s.l H.out.cap H.out.len H.out.byt W h1 h8 (by omega) B _ H.out.txt).mono ?_
      rintro e w' ⟨rfl, rfl⟩
      go_wp2_with (refine wpList_val_w rfl (run_op_cut_l BT rfl rfl rfl (by omega)) ?_)
      · have hcW := h
        go_ret
        rw [numP_yes hs (by omega)]
        have M := H.out.moved hs (k := W) (by omega)
        unfold cutA at M
        rw [if_pos hcW, hcW, Nat.sub_self] at M
        exact ⟨rfl, ⟨_, _, _, M⟩, (But.refl _ _).set 0 _⟩
      · have hcW := h
        go_ret
        rw [numP_yes hs (by omega)]
        have M := H.out.moved hs (k := W) (by omega)
        unfold cutA at M
        rw [if_neg hcW] at M
        exact ⟨rfl, ⟨_, _, _, M⟩, (But.refl _ _).set 0 _⟩
/-- Bytes cut off: a row of the call's own. -/
def CutPost (B g : Nat) (w : World) (p : List Nat × Rs) (e : Ending) (w' : World) : Prop := ∃ A c, e = .returned (.slice A p.1.length c) ∧ Own w' w.heap.size 5 (.slice A p.1.length c) p.1 ∧ Eye w' B g p.2 ∧ But g w w'
theorem Own.slice {w : World} {base : Nat} {e : TypeId} {v : Value} {l : List Nat} (h : Own w base e v l) : ∃ A c, v = .slice A l.length c := by
  obtain ⟨A, c, hv, _⟩ := h.txt
  exact ⟨A, c, hv⟩
set_option maxRecDepth 100000 in
set_option maxHeartbeats 2000000 in
theorem eyeCut (k : Nat) (hk : k < 18446744073709551616) {B : Nat} (g : Nat) (s : Rs) (w : World) (h : Eye w B g s) :
    Calls Try.prog 76 #[.pointer (some ⟨g, 0, none⟩), .int .u64 k] w (CutPost B g w (cutP k s)) := by
  obtain ⟨A, n, c, h⟩ := h
  have c0 := h.c0
  have c1 := h.c1
  have f0 := h.free 0
  have f1 := h.free 1
  have H := Lib.hid h
  have hlen := h.txt.len
  have hn1 : n ≤ 140737488355328 := by have := h.cap; have := h.len; omega
  have hcap := h.cap
  clear h
  by_cases hno : s.ov = true ∨ s.l.length < k
  · rw [cutP_no hno]
    have HN := Lib.hid hno
    have fin : ∀ x, EyeAt x B g A n c ⟨s.l, true⟩ → But g w x → CutPost B g w ([], ⟨s.l, true⟩) (.returned (.slice none 0 0)) x := fun x hx hb => ⟨none, 0, rfl, Own.nil_, ⟨_, _, _, hx⟩, hb⟩
    cases hs : s.ov with
    | true =>
      rw [eyeE_yes hs] at c1
      clear hno
      go_enter Try.func76, Try.ntmps76
      go_wp2
      go_ret
      exact fin _ H.out.over ((But.refl _ _).set 1 _)
    | false =>
      rw [eyeE_no hs] at c1
      have hlt : n < k := by
        rcases hno with h | h
        · rw [hs] at h; cases h
        · omega
      clear hno
      go_enter Try.func76, Try.ntmps76
      go_wp2
      go_ret
      exact fin _ H.out.over ((But.refl _ _).set 1 _)
  · have hs : s.ov = false := by cases h : s.ov with | false => rfl | true => exact absurd (.inl h) hno
    have hkn : k ≤ n := by rcases Nat.lt_or_ge s.l.length k with h | h; exact absurd (.inr h) hno; omega
    rw [cutP_yes hs (by omega)]
    rw [eyeE_no hs] at c1
    clear hno
    have hgl := lt_of_block H.out.row
    go_enter Try.func76, Try.ntmps76
    go_wp2_with (go_at_call 95; fail)
    refine (Clone_any A k c (s.l.take k) _ ((H.out.txt.take H.out.cap hkn).more (by have := H.out.low; omega)) (by omega)).mono ?_
    rintro e w1 ⟨v, rfl, ho, hb⟩
    have hl : (s.l.take k).length = k := by rw [List.length_take]; omega
    obtain ⟨A1, cc1, hv⟩ := ho.slice
    rw [hl] at hv
    subst hv
    have H1 := Lib.hid (H.out.after hb)
    have HO := Lib.hid ho
    clear ho c0 c1 f0 f1
    have c0 := H1.out.c0
    have c1 := H1.out.c1
    have f0 := H1.out.free 0
    have fin : ∀ x, EyeAt x B g (cutA A k c) (n - k) (c - k) ⟨s.l.drop k, false⟩ → x = w1.setCell ⟨g, 0, none⟩ (.slice (cutA A k c) (n - k) (c - k)) → CutPost B g w (s.l.take k, ⟨s.l.drop k, false⟩) (.returned (.slice A1 k cc1)) x := fun x hx hw => by
      subst hw
      refine ⟨A1, cc1, by dsimp only; rw [hl], by dsimp only; rw [hl]; exact HO.out.setCell (fun k' hk' => by have := (HO.out.lt k' hk').1; show k' ≠ g; omega) _, ⟨_, _, _, hx⟩, (But.of_below hb).set 0 _⟩
    go_wp2_with (refine wpList_val_w rfl (run_op_cut_l BT rfl rfl rfl (by omega)) ?_)
    · have hcW := h
      go_ret
      have M := H1.out.moved hs (k := k) (by omega)
      unfold cutA at M fin
      rw [if_pos hcW, hcW, Nat.sub_self] at M
      rw [if_pos hcW, hcW, Nat.sub_self] at fin
      exact fin _ M rfl
    · have hcW := h
      go_ret
      have M := H1.out.moved hs (k := k) (by omega)
      unfold cutA at M fin
      rw [if_neg hcW] at M
      rw [if_neg hcW] at fin
      exact fin _ M rfl
end Go.Proofs.Ytfbfkfdkigpkgaa
