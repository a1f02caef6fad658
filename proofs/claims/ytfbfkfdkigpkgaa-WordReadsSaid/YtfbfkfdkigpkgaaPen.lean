/- The walks of layer 16's pen: what writes numbers and texts. -/
import Derived.Test.YtfbfkfdkigpkgaaNum
namespace Go.Proofs.Ytfbfkfdkigpkgaa
set_option linter.unusedSimpArgs false
set_option linter.unusedVariables false
open Go.RowKit
attribute [local irreducible] beL beK

/-- A pen that lies in block g, and has gone wrong nowhere. -/
def Pen (w : World) (g : Nat) (v : Value) : Prop := w.heap[g]? = some (.cells #[v, .int .i64 0] 62 (0, 0))
/-- A row of bytes lies in no block of another type. -/
theorem own_ne {w : World} {base g : Nat} {e t : TypeId} {v : Value} {l : List Nat} {c : Array Value} {fr : Nat × Nat} (h : Own w base e v l) (hg : w.heap[g]? = some (.cells c t fr)) (hne : e ≠ t) : ∀ k, v.ownBlock = some k → k ≠ g := by
  intro k hk
  rcases h.2 with ⟨rfl, _⟩ | ⟨g', cap, cur, rfl, _, hh, _⟩
  · cases hk
  · have : g' = k := by simpa [Value.ownBlock] using hk
    subst this
    rintro rfl
    rw [hg] at hh
    injection hh with hh
    injection hh with _ ht
    exact hne ht.symm
/-- What is known of a pen, and of what it wrote: the row lies from 'base' on. -/
structure Pens (w : World) (g base : Nat) (l : List Nat) : Prop where
  low : base ≤ g
  size : base ≤ w.heap.size
  has : ∃ v, Pen w g v ∧ Own w base 5 v l
/-- Blocks that are no bytes, nor the pen, are kept. -/
def PenKeep (w w' : World) (g : Nat) : Prop := ∀ (b : Nat) (c : Array Value) (t : TypeId) (fr : Nat × Nat), w.heap[b]? = some (.cells c t fr) → b ≠ g → 5 ≠ t → w'.heap[b]? = some (.cells c t fr)
theorem PenKeep.below {w w' : World} {g : Nat} (h : Below w.heap.size w w') : PenKeep w w' g := fun b c t fr hb _ _ => (h.block b (lt_of_block hb)).trans hb
theorem PenKeep.trans {w w' w'' : World} {g : Nat} (h : PenKeep w w' g) (k : PenKeep w' w'' g) : PenKeep w w'' g := fun b c t fr hb hg ht => k b c t fr (h b c t fr hb hg ht) hg ht
def PenAll (w : World) (g base : Nat) (l : List Nat) (e : Ending) (w' : World) : Prop := e = .returned (.tuple #[]) ∧ Pens w' g base l ∧ Below base w w' ∧ PenKeep w w' g
def PenPost (w : World) (g base : Nat) (l : List Nat) (e : Ending) (w' : World) : Prop := e = .returned (.tuple #[]) ∧ Pens w' g base l ∧ Below base w w'
theorem pen_cell0 {w : World} {g : Nat} {v : Value} (h : Pen w g v) : w.cell? ⟨g, 0, none⟩ = some v := by rw [cell_of_row _ _ _ _ _ _ h]; rfl
theorem pen_cell1 {w : World} {g : Nat} {v : Value} (h : Pen w g v) : w.cell? ⟨g, 1, none⟩ = some (.int .i64 0) := by rw [cell_of_row _ _ _ _ _ _ h]; rfl
theorem pen_free {w : World} {g : Nat} {v : Value} (h : Pen w g v) (i : Nat) : w.frozen? ⟨g, i, none⟩ = false := frozen_of_row w g i _ _ h
theorem pen_set {w : World} {g : Nat} {v : Value} (h : Pen w g v) (v' : Value) : Pen (w.setCell ⟨g, 0, none⟩ v') g v' := by
  unfold Pen
  rw [heap_setCell_same w g 0 _ _ _ h]
  rfl

/-- Behind an append to a pen's row, and the store into the pen. -/
theorem pen_wrote {w w' : World} {g base : Nat} {v v' : Value} {l l' : List Nat} (hp : Pen w g v) (ho : Own w base 5 v l) (ho' : Own w' base 5 v' l') (hg : w.grownBy w' v.ownBlock) (hat : v'.ownBlock = v.ownBlock ∨ v'.ownBlock = some w.heap.size) (hlow : base ≤ g) (hs : base ≤ w.heap.size) :
    Pen w' g v ∧ Pens (w'.setCell ⟨g, 0, none⟩ v') g base l' ∧ (∀ B w0, B ≤ base → Below B w0 w → Below B w0 (w'.setCell ⟨g, 0, none⟩ v')) ∧ PenKeep w (w'.setCell ⟨g, 0, none⟩ v') g := by
  have hgl := lt_of_block hp
  have hne := own_ne ho hp (by decide)
  have hp' : Pen w' g v := by
    unfold Pen
    rw [hg.block g hgl (fun e => hne g e.symm rfl)]
    exact hp
  refine ⟨hp', ⟨hlow, by simpa using Nat.le_trans hs hg.size, v', pen_set hp' v', ho'.setCell (fun k hk => ?_) v'⟩, fun B w0 hB hb => ?_, fun b c t fr hb hbg ht => ?_⟩
  · rcases hat with e | e
    · exact hne k (by rw [← e]; exact hk)
    · rw [e] at hk
      injection hk with hk
      show k ≠ g
      omega
  · exact (own_below hb ho hg hB (Nat.le_trans hB hs)).setCell (Nat.le_trans hB hlow) v'
  · rw [heap_setCell_other _ _ _ _ hbg]
    exact (hg.block b (lt_of_block hb) (fun e => own_ne ho hb ht b e.symm rfl)).trans hb

set_option maxRecDepth 100000 in
set_option maxHeartbeats 2000000 in
theorem num_all (W n : Nat) (h1 : 1 ≤ W) (h8 : W ≤ 8) (hn : n < 18446744073709551616) (hf : n < 256 ^ W) (g base : Nat) (l : List Nat) (hl : l.length ≤ 70368744177664) (w : World) (hp : Pens w g base l) :
    Calls Try.prog 36 #[.pointer (some ⟨g, 0, none⟩), .int .i64 W, .int .u64 n] w (PenAll w g base (l ++ beL W n)) := by
  obtain ⟨hlow, hs, v, hpen, hown⟩ := hp
  have HN := Lib.hid hn
  have HF := Lib.hid hf
  have HL := Lib.hid hl
  clear hn hf hl
  go_enter Try.func36, Try.ntmps36
  have hgl := lt_of_block hpen
  have hb : Below w.heap.size w (w.alloc (.cells #[.int .u64 (n : Int)] 25)) := (Below.refl _ _).alloc (Nat.le_refl _) _
  have cx := cell_new1 w (.int .u64 (n : Int)) 25
  go_wp2_with (go_at_call 78; fail)
  refine (Num_one W n h1 h8 HN.out HF.out w.heap.size _ (by simp) cx).mono ?_
  rintro e w2 ⟨v6, rfl, ho6, b2⟩
  obtain ⟨A6, c6, hv6, ht6⟩ := ho6.txt
  rw [beL_len] at hv6 ht6
  subst hv6
  have hb2 := hb.trans (b2.mono (by simp))
  have hpen2 : Pen w2 g v := (hb2.block g hgl).trans hpen
  have hown2 : Own w2 base 5 v l := hown.below hb2 (fun k hk => (hown.lt k hk).2)
  have hs2 : base ≤ w2.heap.size := Nat.le_trans hs hb2.size
  have c0 := pen_cell0 hpen2
  have HT := Lib.hid ht6
  have HO2 := Lib.hid hown2
  have HP2 := Lib.hid hpen2
  have HB2 := Lib.hid hb2
  clear ht6 hown2 hpen2 ho6 b2 cx hb hown
  go_wp2_with (refine wpList_append_txt rfl rfl BT rfl rfl HO2.out HT.out (by have := HL.out; omega) hs2 ?_; intro v' w3 ho3 hg3 hat3; obtain ⟨hpen3, hpens, hbl, hkp⟩ := pen_wrote HP2.out HO2.out ho3 hg3 hat3 hlow hs2; have c3 := pen_cell0 hpen3; have f3 := pen_free hpen3 0; obtain ⟨A3, n3, rfl, ht3⟩ := ho3.txt; rw [List.length_append] at hpens hbl hkp; clear ht3 ho3 hg3 hat3)
  go_end0
  exact ⟨rfl, hpens, hbl base w (Nat.le_refl _) (HB2.out.mono hs), (PenKeep.below HB2.out).trans hkp⟩
theorem num_any (W n : Nat) (h1 : 1 ≤ W) (h8 : W ≤ 8) (hn : n < 18446744073709551616) (hf : n < 256 ^ W) (g base : Nat) (l : List Nat) (hl : l.length ≤ 70368744177664) (w : World) (hp : Pens w g base l) :
    Calls Try.prog 36 #[.pointer (some ⟨g, 0, none⟩), .int .i64 W, .int .u64 n] w (PenPost w g base (l ++ beL W n)) :=
  (num_all W n h1 h8 hn hf g base l hl w hp).mono fun _ _ h => ⟨h.1, h.2.1, h.2.2.1⟩

set_option maxRecDepth 100000 in
set_option maxHeartbeats 2000000 in
theorem text_all (W : Nat) (h1 : 1 ≤ W) (h8 : W ≤ 8) (A : Option Addr) (n c : Nat) (m : List Nat) (hf : n < 256 ^ W) (hn : n ≤ 70368744177664) (g base : Nat) (l : List Nat) (hl : l.length ≤ 1099511627776) (w : World) (hp : Pens w g base l) (ht : Txt w base A n c m) :
    Calls Try.prog 37 #[.pointer (some ⟨g, 0, none⟩), .int .i64 W, .slice A n c] w (PenAll w g base (l ++ beL W n ++ m)) := by
  have HF := Lib.hid hf
  have HL := Lib.hid hl
  clear hf hl
  go_enter Try.func37, Try.ntmps37
  go_wp2_with (go_at_call 36; fail)
  refine (num_all W n h1 h8 (by omega) HF.out g base l (by have := HL.out; omega) _ hp).mono ?_
  rintro e w2 ⟨rfl, hp2, hb2, hk2⟩
  obtain ⟨hlow, hs, v, hpen, hown⟩ := hp2
  have c0 := pen_cell0 hpen
  have HT := Lib.hid (ht.below hb2)
  have HO := Lib.hid hown
  have HP := Lib.hid hpen
  clear ht hown
  go_wp2_with (refine wpList_append_txt rfl rfl BT rfl rfl HO.out HT.out (by have := HL.out; rw [List.length_append, beL_len]; omega) hs ?_; intro v' w3 ho3 hg3 hat3; obtain ⟨hpen3, hpens, hbl, hkp⟩ := pen_wrote HP.out HO.out ho3 hg3 hat3 hlow hs; have c3 := pen_cell0 hpen3; have f3 := pen_free hpen3 0; obtain ⟨A3, n3, rfl, ht3⟩ := ho3.txt; clear ht3 ho3 hg3 hat3)
  go_end0
  exact ⟨rfl, by simpa using hpens, by simpa using hbl base w (Nat.le_refl _) hb2, hk2.trans (by simpa using hkp)⟩
theorem text_any (W : Nat) (h1 : 1 ≤ W) (h8 : W ≤ 8) (A : Option Addr) (n c : Nat) (m : List Nat) (hf : n < 256 ^ W) (hn : n ≤ 70368744177664) (g base : Nat) (l : List Nat) (hl : l.length ≤ 1099511627776) (w : World) (hp : Pens w g base l) (ht : Txt w base A n c m) :
    Calls Try.prog 37 #[.pointer (some ⟨g, 0, none⟩), .int .i64 W, .slice A n c] w (PenPost w g base (l ++ beL W n ++ m)) :=
  (text_all W h1 h8 A n c m hf hn g base l hl w hp ht).mono fun _ _ h => ⟨h.1, h.2.1, h.2.2.1⟩

/-- What is handed back: a text, and no error. -/
def RetTxt (w : World) (l : List Nat) (e : Ending) (w' : World) : Prop := ∃ A n c, e = .returned (.tuple #[.slice A n c, .int .i64 0]) ∧ Own w' w.heap.size 5 (.slice A n c) l ∧ Below w.heap.size w w'
theorem Own.text {w : World} {base n c : Nat} {e : TypeId} {A : Option Addr} {l : List Nat} (h : Own w base e (.slice A n c) l) : Txt w w.heap.size A n c l := by
  obtain ⟨A', c', hv, ht⟩ := h.txt
  injection hv with h1 h2 h3
  subst h1 h2 h3
  exact ht
def DonePost (w : World) (base : Nat) (l : List Nat) (e : Ending) (w' : World) : Prop := ∃ A c, e = .returned (.tuple #[.slice A l.length c, .int .i64 0]) ∧ Own w' base 5 (.slice A l.length c) l ∧ w = w'
theorem done_any (g base : Nat) (l : List Nat) (w : World) (hp : Pens w g base l) :
    Calls Try.prog 38 #[.pointer (some ⟨g, 0, none⟩)] w (DonePost w base l) := by
  obtain ⟨hlow, hs, v, hpen, hown⟩ := hp
  obtain ⟨A, c, rfl, ht⟩ := hown.txt
  have c0 := pen_cell0 hpen
  have c1 := pen_cell1 hpen
  have HO := Lib.hid hown
  clear hown ht hpen
  go_enter Try.func38, Try.ntmps38
  go_wp2
  go_ret2
  exact ⟨A, c, rfl, HO.out, rfl⟩
end Go.Proofs.Ytfbfkfdkigpkgaa
