/- The walks of the reference's reader: bytes are cut off; a number, a key is read. -/
import Derived.Test.YtfbfkfdkigpkgaaRtcs
namespace Go.Proofs.Ytfbfkfdkigpkgaa
set_option linter.unusedSimpArgs false
set_option linter.unusedVariables false
open Go.RowKit
attribute [local irreducible] beL beK

/-- A reader that lies in block g; what it reads lies below it. -/
structure RdrAt (w : World) (B g : Nat) (A : Option Addr) (n c : Nat) (s : Rs) : Prop where
  row : w.heap[g]? = some (.cells #[.slice A n c, .bool s.ov] 105 (0, 0))
  low : B ≤ g
  txt : Txt w B A n c s.l
  cap : n ≤ c
  len : n ≤ 140737488355328
  byt : Byt s.l
def Rdr (w : World) (B g : Nat) (s : Rs) : Prop := ∃ A n c, RdrAt w B g A n c s
section
variable {w w' : World} {B g q n c : Nat} {A : Option Addr} {s s' : Rs}
theorem RdrAt.c0 (h : RdrAt w B g A n c s) : w.cell? ⟨g, 0, none⟩ = some (.slice A n c) := by rw [cell_of_row _ _ _ _ _ _ h.row]; rfl
theorem RdrAt.c1 (h : RdrAt w B g A n c s) : w.cell? ⟨g, 1, none⟩ = some (.bool s.ov) := by rw [cell_of_row _ _ _ _ _ _ h.row]; rfl
theorem RdrAt.free (h : RdrAt w B g A n c s) (i : Nat) : w.frozen? ⟨g, i, none⟩ = false := frozen_of_row w g i _ _ h.row
theorem RdrAt.after (h : RdrAt w B g A n c s) (hb : Below w.heap.size w w') : RdrAt w' B g A n c s :=
  ⟨(hb.block g (lt_of_block h.row)).trans h.row, h.low, h.txt.below' hb (Nat.le_trans h.low (Nat.le_of_lt (lt_of_block h.row))), h.cap, h.len, h.byt⟩
theorem Rdr.after (h : Rdr w B g s) (hb : Below w.heap.size w w') : Rdr w' B g s := let ⟨A, n, c, k⟩ := h; ⟨A, n, c, k.after hb⟩
theorem Rdr.lt (h : Rdr w B g s) : g < w.heap.size := let ⟨_, _, _, k⟩ := h; lt_of_block k.row
theorem Rdr.low (h : Rdr w B g s) : B ≤ g := let ⟨_, _, _, k⟩ := h; k.low
theorem RdrAt.over (h : RdrAt w B g A n c s) : RdrAt (w.setCell ⟨g, 1, none⟩ (.bool true)) B g A n c ⟨s.l, true⟩ :=
  ⟨by rw [heap_setCell_same w g 1 _ _ _ h.row]; rfl, h.low, h.txt.keep fun p hp => ((Below.refl B w).setCell (p := ⟨g, 1, none⟩) h.low _).cell hp, h.cap, h.len, h.byt⟩
theorem RdrAt.moved (h : RdrAt w B g A n c s) (hs : s.ov = false) {k : Nat} (hk : k ≤ n) : RdrAt (w.setCell ⟨g, 0, none⟩ (.slice (cutA A k c) (n - k) (c - k))) B g (cutA A k c) (n - k) (c - k) ⟨s.l.drop k, false⟩ :=
  ⟨by rw [heap_setCell_same w g 0 _ _ _ h.row, hs]; rfl, h.low, (h.txt.from h.cap hk).keep fun p hp => ((Below.refl B w).setCell (p := ⟨g, 0, none⟩) h.low _).cell hp, by have := h.cap; omega, by have := h.len; omega, byt_drop h.byt k⟩
theorem Rdr.setAt (h : Rdr w B g s) (hq : q ≠ g) (hB : B ≤ q) (i : Nat) (v : Value) : Rdr (w.setCell ⟨q, i, none⟩ v) B g s := by
  obtain ⟨A, n, c, k⟩ := h
  exact ⟨A, n, c, (heap_setCell_other _ _ _ _ (show g ≠ q from fun e => hq e.symm)).trans k.row, k.low, k.txt.keep fun p hp => ((Below.refl B w).setCell (p := ⟨q, i, none⟩) hB _).cell hp, k.cap, k.len, k.byt⟩
theorem Rdr.butAt (h : Rdr w B g s) (k : But q w w') (hq : q ≠ g) (hB : B ≤ q) : Rdr w' B g s := by
  obtain ⟨A, n, c, e⟩ := h
  have hl := lt_of_block e.row
  have hlo := e.low
  exact ⟨A, n, c, (k.block g hl (fun e => hq e.symm)).trans e.row, hlo, e.txt.keep fun p hp => (k.below (B := B) hB (by omega)).cell hp, e.cap, e.len, e.byt⟩
theorem Rdr.own {base sz : Nat} {e : TypeId} {v : Value} {xs : List Value} (h : But g w w') (he : Rdr w B g s) (hr : w.ownsRow base e sz v n xs) (hne : e ≠ 105) : w'.ownsRow base e sz v n xs := by
  obtain ⟨_, _, _, k⟩ := he
  exact h.row hr k.row hne
theorem Rdr.lt1 {v : Nat} (h : Rdr w B g s) (hE : numP 1 s = (v, s')) : v < 256 := by
  obtain ⟨_, _, _, k⟩ := h
  have := numP_lt (k := 1) k.byt
  rw [hE] at this
  exact this
theorem Rdr.lt2 {v : Nat} (h : Rdr w B g s) (hE : numP 2 s = (v, s')) : v < 65536 := by
  obtain ⟨_, _, _, k⟩ := h
  have := numP_lt (k := 2) k.byt
  rw [hE] at this
  exact this
theorem Rdr.lt4 {v : Nat} (h : Rdr w B g s) (hE : numP 4 s = (v, s')) : v < 4294967296 := by
  obtain ⟨_, _, _, k⟩ := h
  have := numP_lt (k := 4) k.byt
  rw [hE] at this
  exact this
theorem Rdr.lt8 {v : Nat} (h : Rdr w B g s) (hE : numP 8 s = (v, s')) : v < 18446744073709551616 := by
  obtain ⟨_, _, _, k⟩ := h
  have := numP_lt (k := 8) k.byt
  rw [hE] at this
  exact this
end
def RCutPost (B g : Nat) (w : World) (p : List Nat × Rs) (e : Ending) (w' : World) : Prop := ∃ A c, e = .returned (.slice A p.1.length c) ∧ Own w' w.heap.size 5 (.slice A p.1.length c) p.1 ∧ Rdr w' B g p.2 ∧ But g w w'
theorem FTRdr0 : FieldT Try.prog 105 0 := ⟨_, _, 0, Try.underlying105, rfl, by kernel_rfl⟩
theorem FTRdr1 : FieldT Try.prog 105 1 := ⟨_, _, 0, Try.underlying105, rfl, by kernel_rfl⟩
set_option maxRecDepth 100000 in
set_option maxHeartbeats 2000000 in
theorem rdCut (k : Nat) (hk : k ≤ 9223372036854775807) {B : Nat} (g : Nat) (s : Rs) (w : World) (h : Rdr w B g s) :
    Calls Try.prog 77 #[.pointer (some ⟨g, 0, none⟩), .int .i64 k] w (RCutPost B g w (cutP k s)) := by
  obtain ⟨A, n, c, h⟩ := h
  have c0 := h.c0
  have c1 := h.c1
  have f0 := h.free 0
  have f1 := h.free 1
  have H := Lib.hid h
  have hlen := h.txt.len
  have hn1 := h.len
  have hcap := h.cap
  clear h
  by_cases hno : s.ov = true ∨ s.l.length < k
  · rw [cutP_no hno]
    have fin : ∀ x, RdrAt x B g A n c ⟨s.l, true⟩ → But g w x → RCutPost B g w ([], ⟨s.l, true⟩) (.returned (.slice none 0 0)) x := fun x hx hb => ⟨none, 0, rfl, Own.nil_, ⟨_, _, _, hx⟩, hb⟩
    cases hs : s.ov with
    | true =>
      rw [hs] at c1
      clear hno
      go_enter Try.func77, Try.ntmps77
      go_wp2
      go_ret
      exact fin _ H.out.over ((But.refl _ _).set 1 _)
    | false =>
      rw [hs] at c1
      have hlt : n < k := by
        rcases hno with h | h
        · rw [hs] at h; cases h
        · omega
      clear hno
      go_enter Try.func77, Try.ntmps77
      go_wp2
      go_ret
      exact fin _ H.out.over ((But.refl _ _).set 1 _)
  · have hs : s.ov = false := by cases h : s.ov with | false => rfl | true => exact absurd (.inl h) hno
    have hkn : k ≤ n := by rcases Nat.lt_or_ge s.l.length k with h | h; exact absurd (.inr h) hno; omega
    rw [cutP_yes hs (by omega)]
    rw [hs] at c1
    clear hno
    have hgl := lt_of_block H.out.row
    go_enter Try.func77, Try.ntmps77
    go_wp2_with (first | (refine wpList_val_w rfl (run_op_cut_h (hi := k) BT rfl rfl rfl (by omega)) ?_) | (go_at_call 34; fail))
    refine (Copy_any A k c (s.l.take k) _ ((H.out.txt.take H.out.cap hkn).more (by have := H.out.low; omega)) (by omega)).mono ?_
    rintro e w1 ⟨v, rfl, ho, hb⟩
    have hl : (s.l.take k).length = k := by rw [List.length_take]; omega
    obtain ⟨A1, cc1, hv⟩ := ho.slice
    rw [hl] at hv
    subst hv
    have H1 := Lib.hid (H.out.after hb)
    have HO := Lib.hid ho
    clear ho c0 c1 f0 f1
    have c0 := H1.out.c0
    have c1 := H1.out.c1
    have f0 := H1.out.free 0
    have fin : ∀ x, RdrAt x B g (cutA A k c) (n - k) (c - k) ⟨s.l.drop k, false⟩ → x = w1.setCell ⟨g, 0, none⟩ (.slice (cutA A k c) (n - k) (c - k)) → RCutPost B g w (s.l.take k, ⟨s.l.drop k, false⟩) (.returned (.slice A1 k cc1)) x := fun x hx hw => by
      subst hw
      refine ⟨A1, cc1, by dsimp only; rw [hl], by dsimp only; rw [hl]; exact HO.out.setCell (fun k' hk' => by have := (HO.out.lt k' hk').1; show k' ≠ g; omega) _, ⟨_, _, _, hx⟩, (But.of_below hb).set 0 _⟩
    go_wp2_with (refine wpList_val_w rfl (run_op_cut_l BT rfl rfl rfl (by omega)) ?_)
    · have hcW := h
      go_ret
      have M := H1.out.moved hs (k := k) (by omega)
      unfold cutA at M fin
      rw [if_pos hcW, hcW, Nat.sub_self] at M
      rw [if_pos hcW, hcW, Nat.sub_self] at fin
      exact fin _ M rfl
    · have hcW := h
      go_ret
      have M := H1.out.moved hs (k := k) (by omega)
      unfold cutA at M fin
      rw [if_neg hcW] at M
      rw [if_neg hcW] at fin
      exact fin _ M rfl
theorem rd_fill (g : Nat → Int) (y : Nat) (v : Int) (i : Nat) (hv : v = g y) : upd (fun x => if x < y then g x else 0) y v i = if i < y + 1 then g i else 0 := by
  unfold upd
  by_cases h : i = y
  · subst h; rw [if_pos rfl, if_pos (by omega)]; exact hv
  · rw [if_neg h]
    show (if i < y then g i else 0) = _
    by_cases h2 : i < y
    · rw [if_pos h2, if_pos (by omega)]
    · rw [if_neg h2, if_neg (by omega)]
theorem rdCutE {B g k : Nat} {s s' : Rs} {l : List Nat} {w : World} (hk : k ≤ 9223372036854775807) (h : Rdr w B g s) (hE : cutP k s = (l, s')) :
    Calls Try.prog 77 #[.pointer (some ⟨g, 0, none⟩), .int .i64 k] w (RCutPost B g w (l, s')) := by
  have := rdCut k hk g s w h
  rw [hE] at this
  exact this
theorem rdCut32 {B g : Nat} {s s' : Rs} {l : List Nat} {w : World} (h : Rdr w B g s) (hE : cutP 32 s = (l, s')) :
    Calls Try.prog 77 #[.pointer (some ⟨g, 0, none⟩), .int .i64 32] w (RCutPost B g w (l, s')) := rdCutE (k := 32) (by omega) h hE
set_option maxRecDepth 100000 in
set_option maxHeartbeats 2000000 in
theorem rdNum (W : Nat) (h8 : W ≤ 8) {B : Nat} (g : Nat) (s : Rs) (w : World) (h : Rdr w B g s) :
    Calls Try.prog 74 #[.pointer (some ⟨g, 0, none⟩), .int .i64 W] w fun e w' => e = .returned (.int .u64 (((numP W s).1 : Nat) : Int)) ∧ Rdr w' B g (numP W s).2 ∧ But g w w' := by
  have hbs : Byt (cutP W s).1 := by
    obtain ⟨_, _, _, k⟩ := h
    unfold cutP
    split
    · intro x hx; cases hx
    · exact byt_take k.byt W
  have hcl := cutP_len W s
  show Calls _ _ _ _ fun e w' => e = .returned (.int .u64 ((beV (cutP W s).1 : Nat) : Int)) ∧ Rdr w' B g (cutP W s).2 ∧ But g w w'
  obtain ⟨l, s1, E⟩ := pair_of (cutP W s)
  rw [E] at hbs hcl ⊢
  dsimp only at hbs hcl ⊢
  have HBt := Lib.hid hbs
  clear hbs
  go_enter Try.func74, Try.ntmps74
  go_wp2_with (go_at_call 77; (with_reducible refine (rdCutE (by omega) h E).mono ?_); rintro e w1 ⟨A1, c1, rfl, ho, he, hb⟩)
  have HO := Lib.hid ho.text
  have HE := Lib.hid he
  have hl8 : l.length ≤ 8 := by omega
  clear ho he h hcl
  go_loopg [5, 12] l.length (fun k x i wr => ∃ m : Nat, m + k = l.length ∧ i = .int .i64 m ∧ x = .int .u64 ((beV (l.take m) : Nat) : Int) ∧ wr = w1)
  case atStart => exact ⟨0, by omega, rfl, rfl, rfl⟩
  case round =>
    obtain ⟨m, hm, rfl, rfl, rfl⟩ := hrel
    by_cases hlt : m < l.length
    · obtain ⟨ad, rfl, hbk, hc2⟩ := HO.out.cell hlt
      have hv : beV (l.take m) < 72057594037927936 := by
        have h := beV_small (k := 7) (byt_take HBt.out m) (by rw [List.length_take]; omega)
        exact h
      have hx : l.getD m 0 < 256 := by
        rw [List.getD_eq_getElem?_getD, List.getElem?_eq_getElem (by omega)]
        exact HBt.out _ (List.getElem_mem _)
      have e2 : beV (l.take (m + 1)) = 256 * beV (l.take m) + l.getD m 0 := by rw [take_snoc l m (by omega), beV_snoc]
      have E2 := Lib.hid e2
      clear e2
      generalize beV (l.take m) = v at *
      generalize l.getD m 0 = x at *
      replace hc2 : _ = some (Value.int .u8 (x : Int)) := hc2
      have hv' : (v : Int) < 72057594037927936 := by omega
      go_wp2
      go_roundg (gk - 1)
      case measure => omega
      case rel =>
        refine ⟨m + 1, by omega, by go_num, ?_, rfl⟩
        rw [E2.out]
        go_num
    · obtain rfl : m = l.length := by omega
      rw [List.take_length]
      go_wp2
      go_ret
      exact ⟨rfl, HE.out, hb⟩
theorem rdNum1 {B g v : Nat} {s s' : Rs} {w : World} (h : Rdr w B g s) (hE : numP 1 s = (v, s')) :
    Calls Try.prog 74 #[.pointer (some ⟨g, 0, none⟩), .int .i64 1] w fun e w' => e = .returned (.int .u64 (v : Int)) ∧ Rdr w' B g s' ∧ But g w w' := by
  have := rdNum 1 (by omega) g s w h
  rw [hE] at this
  exact this
theorem rdNum2 {B g v : Nat} {s s' : Rs} {w : World} (h : Rdr w B g s) (hE : numP 2 s = (v, s')) :
    Calls Try.prog 74 #[.pointer (some ⟨g, 0, none⟩), .int .i64 2] w fun e w' => e = .returned (.int .u64 (v : Int)) ∧ Rdr w' B g s' ∧ But g w w' := by
  have := rdNum 2 (by omega) g s w h
  rw [hE] at this
  exact this
theorem rdNum4 {B g v : Nat} {s s' : Rs} {w : World} (h : Rdr w B g s) (hE : numP 4 s = (v, s')) :
    Calls Try.prog 74 #[.pointer (some ⟨g, 0, none⟩), .int .i64 4] w fun e w' => e = .returned (.int .u64 (v : Int)) ∧ Rdr w' B g s' ∧ But g w w' := by
  have := rdNum 4 (by omega) g s w h
  rw [hE] at this
  exact this
theorem rdNum8 {B g v : Nat} {s s' : Rs} {w : World} (h : Rdr w B g s) (hE : numP 8 s = (v, s')) :
    Calls Try.prog 74 #[.pointer (some ⟨g, 0, none⟩), .int .i64 8] w fun e w' => e = .returned (.int .u64 (v : Int)) ∧ Rdr w' B g s' ∧ But g w w' := by
  have := rdNum 8 (by omega) g s w h
  rw [hE] at this
  exact this
set_option maxRecDepth 100000 in
set_option maxHeartbeats 2000000 in
theorem rdKey {B : Nat} (g : Nat) (s : Rs) (w : World) (h : Rdr w B g s) :
    Calls Try.prog 94 #[.pointer (some ⟨g, 0, none⟩)] w fun e w' => e = .returned (.agg (arr .u8 32 fun i => (((keyP s).1 i : Nat) : Int))) ∧ Rdr w' B g (keyP s).2 ∧ But g w w' := by
  have hcl := cutP_len 32 s
  show Calls _ _ _ _ fun e w' => e = .returned (.agg (arr .u8 32 fun i => (((cutP 32 s).1.getD i 0 : Nat) : Int))) ∧ Rdr w' B g (cutP 32 s).2 ∧ But g w w'
  obtain ⟨l, s1, E⟩ := pair_of (cutP 32 s)
  rw [E] at hcl ⊢
  dsimp only at hcl ⊢
  have hgl := h.lt
  have hB := h.low
  go_enter Try.func94, Try.ntmps94
  obtain ⟨q2, q3, hz, hb⟩ := alloc2 w (.cells (arr .u8 32 fun _ => 0) 37) (.cells (arr .u8 32 fun _ => 0) 37)
  replace h := h.after hb
  go_upto_region 2 with (refine wpList_alloc_arr rfl rfl ZTKey ?_)
  refine wp_cut (fun x => x.heap[w.heap.size]? = some (.cells (arr .u8 32 fun _ => 0) 37 (0, 0)) ∧ x.heap[w.heap.size + 1]? = some (.cells (arr .u8 32 fun _ => 0) 37 (0, 0)) ∧ Rdr x B g s ∧ But g w x ∧ x.heap.size = w.heap.size + 1 + 1) ⟨q2, q3, h, But.of_below hb, by simp⟩ ?_
  clear q2 q3 h hz hb
  rintro w0 ⟨q2, q3, h, hb, hz⟩
  (try simp only [Act.put, List.setIfInBounds_toArray, List.set_cons_zero, List.set_cons_succ])
  go_wp2_with (go_at_call 77; (with_reducible refine (rdCut32 h E).mono ?_); rintro e w1 ⟨A1, c1, rfl, ho, he, hb1⟩)
  replace q2 := hb1.keep q2 (by omega)
  replace q3 := hb1.keep q3 (by omega)
  have HO := Lib.hid (ho.mono (show w.heap.size + 2 ≤ w0.heap.size by omega))
  have HC := Lib.hid hcl
  have hl9 : l.length ≤ 32 := by omega
  have hb2 := hb.trans hb1
  clear ho h hcl hb hb1 hz
  go_loopg [9] l.length (fun k i wr => ∃ m : Nat, m + k = l.length ∧ i = .int .i64 m ∧ wr.heap[w.heap.size]? = some (.cells (arr .u8 32 fun _ => 0) 37 (0, 0)) ∧ wr.heap[w.heap.size + 1]? = some (.cells (arr .u8 32 fun i => if i < m then ((l.getD i 0 : Nat) : Int) else 0) 37 (0, 0)) ∧ Rdr wr B g s1 ∧ But g w wr ∧ Own wr (w.heap.size + 2) 5 (.slice A1 l.length c1) l)
  case atStart => exact ⟨0, by omega, rfl, q2, blk_congr q3 (fun i _ => by rw [if_neg (by omega)]), he, hb2, HO.out⟩
  case round =>
    clear q2 q3 he hb2 HO
    obtain ⟨m, hm, rfl, q2, q3, he, hb2, ho⟩ := hrel
    have HM := Lib.hid hm
    have HO := Lib.hid ho
    clear hm ho
    by_cases hlt : m < l.length
    · obtain ⟨ad, rfl, hbk, hc2⟩ := HO.out.text.cell hlt
      replace hc2 : _ = some (Value.int .u8 ((l.getD m 0 : Nat) : Int)) := hc2
      have c3 := cell_arr q3 m (by omega)
      have fz := free_arr q3 m
      go_wp2
      go_roundg (gk - 1)
      case measure => have := HM.out; omega
      case rel =>
        have hM := HM.out
        refine ⟨m + 1, by omega, by go_num, keep_arr q2 _ _ (by omega), blk_congr (set_arr q3 m _) (fun i _ => rd_fill (fun i => ((l.getD i 0 : Nat) : Int)) _ _ i (by first | rfl | (rw [List.getD_eq_getElem?_getD, List.getElem?_eq_getElem hlt]; rfl))), he.setAt (by omega) (by omega) _ _, hb2.setNew (by omega) _ _, HO.out.setCell (p := ⟨w.heap.size + 1, m, none⟩) (fun k hk => by have := (HO.out.lt k hk).1; show k ≠ w.heap.size + 1; omega) _⟩
    · obtain rfl : m = l.length := by have := HM.out; omega
      have q4 := blk_congr (f' := fun i => ((l.getD i 0 : Nat) : Int)) q3 (fun i hi => by
        by_cases h : i < l.length
        · rw [if_pos h]
        · rw [if_neg h, List.getD_eq_getElem?_getD, List.getElem?_eq_none (by omega)]; rfl)
      clear q3
      go_wp2_with (first | (refine wpList_load_arr rfl rfl rfl RTKey q4 ?_) | (refine wpList_store_arr rfl rfl rfl rfl RTKey q2 ?_))
      refine bodyPost_ret (results_arr rfl rfl RTKey (row_self q2)) rfl ⟨rfl, he.butAt (But.row1 _) (by omega) (by omega), hb2.newRow (Nat.le_refl _)⟩
theorem rdKeyE {B : Nat} {g : Nat} {k : Nat → Nat} {s s' : Rs} {w : World} (h : Rdr w B g s) (hE : keyP s = (k, s')) :
    Calls Try.prog 94 #[.pointer (some ⟨g, 0, none⟩)] w fun e w' => e = .returned (.agg (arr .u8 32 fun i => ((k i : Nat) : Int))) ∧ Rdr w' B g s' ∧ But g w w' := by
  have := rdKey g s w h
  rw [hE] at this
  exact this
end Go.Proofs.Ytfbfkfdkigpkgaa
