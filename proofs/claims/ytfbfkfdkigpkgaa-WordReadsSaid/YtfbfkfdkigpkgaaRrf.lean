/- The walks of layer 16: what any bytes are, by the reference. -/
import Derived.Test.YtfbfkfdkigpkgaaRrc
namespace Go.Proofs.Ytfbfkfdkigpkgaa
set_option linter.unusedSimpArgs false
set_option linter.unusedVariables false
open Go.RowKit
attribute [local irreducible] beL beK

theorem Src.rdr {w : World} {B : Nat} {A : Option Addr} {n c : Nat} {l : List Nat} (h : Src w B A n c l) : Rdr (w.alloc (.cells #[.slice A n c, .bool false] 105)) B w.heap.size ⟨l, false⟩ :=
  ⟨A, n, c, heap_alloc_new w _, h.low, h.txt.below' ((Below.refl _ _).alloc (Nat.le_refl _) _) h.low, h.cap, h.len, h.byt⟩
theorem restP_no {s : Rs} (h : s.ov = true) : restP s = ([], ⟨s.l, true⟩) := by
  unfold restP cutP
  rw [if_pos (.inl h)]
theorem restP_yes {s : Rs} (h : s.ov = false) : restP s = (s.l, ⟨[], false⟩) := by
  unfold restP cutP
  rw [if_neg (by rw [h]; simp)]
  simp
def frQ (k : Nat) (s1 : Rs) : PFr × Int := if k = 3 then frK (frP s1) else (noFr, 3)
def wlQ (k : Nat) (s1 : Rs) : PWl × Int := if k = 2 then wlK (wlP s1) else (noWl, 3)
def cmQ (k : Nat) (s1 : Rs) : PCom × Int := if k = 1 then cmK (comP s1) else (noCom, 3)
theorem RmayFrameP {p : PFr} {A : Option Addr} {c : Nat} {w : World} : Calls Try.prog 42 #[.agg (arrV 4 (frF p A c))] w fun e w' => e = .returned (.bool (decide (MayF (p.ep : Int) (p.frm : Int) (p.gen : Int) p.box.length))) ∧ Below w.heap.size w w' := RmayFrame_any (p.ep : Int) (p.frm : Int) (p.gen : Int) A p.box.length c w
theorem RmayWelcomeP {p : PWl} {A : Nat → Option Addr} {c : Nat → Nat} {w : World} : Calls Try.prog 39 #[.agg (arrV 4 (wlG p.tw p.tx A c 3))] w fun e w' => e = .returned (.bool (decide (MayW (p.tw : Int) p.c.length p.t.length p.b.length))) ∧ Below w.heap.size w w' := RmayWelcome_any (p.tw : Int) (A 0) p.c.length (c 0) (A 1) p.t.length (c 1) (A 2) p.b.length (c 2) w
def rC (c1 c2 c3 : Nat) (j : Nat) : Nat := if j = 0 then c1 else if j = 1 then c2 else c3
set_option maxRecDepth 100000 in
set_option maxHeartbeats 4000000 in
theorem RReadFrame_long (A : Option Addr) (n c : Nat) (l : List Nat) (w : World) (h : Src w w.heap.size A n c l) (hn : 1048576 < n) :
    Calls Try.prog 31 #[.slice A n c] w (FrPost w (noFr, 4)) := by
  have hn2 := h.len
  go_enter Try.func31, Try.ntmps31
  go_upto_region 1 with (refine wpList_alloc_v rfl rfl ZVFr ?_)
  have hq0 := heap_alloc_new w (.cells (arrV 4 (frF noFr none 0)) 27)
  have hb0 : Below w.heap.size w (w.alloc (.cells (arrV 4 (frF noFr none 0)) 27)) := (Below.refl _ _).alloc (Nat.le_refl _) _
  refine wp_cut (fun x => x.heap[w.heap.size]? = some (.cells (arrV 4 (frF noFr none 0)) 27 (0, 0)) ∧ Below w.heap.size w x ∧ Src x w.heap.size A n c l ∧ w.heap.size < x.heap.size) ⟨hq0, hb0, ⟨hb0.size, h.txt.below hb0, h.cap, h.len, h.byt⟩, by simp⟩ ?_
  clear hq0 hb0 h
  rintro w1 ⟨h2, hb, hS, hlt⟩
  (try simp only [Act.put, List.setIfInBounds_toArray, List.set_cons_zero, List.set_cons_succ])
  go_wp2_with (first | (refine wpList_valg rfl (run_built0 rfl built_fr) ?_) | (refine wpList_store_v (f' := (frF noFr none 0)) rfl rfl RTFr rfl rfl h2 (fun i _ => frF_one _ _ _ i) ?_))
  refine bodyPost_ret (results_v_tmp rfl rfl rfl RTFr (row_self h2)) rfl ⟨none, 0, rfl, Own.nil_, row_below hb (Nat.le_refl _) _⟩
set_option maxRecDepth 100000 in
set_option maxHeartbeats 4000000 in
theorem RReadFrame_more (A : Option Addr) (n c : Nat) (l : List Nat) (w : World) (h : Src w w.heap.size A n c l) (hn : n ≤ 1048576) {k : Nat} {s1 : Rs} (hk : numP 1 ⟨l, false⟩ = (k, s1)) :
    Calls Try.prog 31 #[.slice A n c] w (FrPost w (frQ k s1)) := by
  obtain ⟨ep, s2, E1⟩ := pair_of (numP 8 s1)
  obtain ⟨fr, s3, E2⟩ := pair_of (numP 4 s2)
  obtain ⟨ge, s4, E3⟩ := pair_of (numP 8 s3)
  obtain ⟨bx, s5, E4⟩ := pair_of (restP s4)
  have EF := Lib.hid (frP_is E1 E2 E3 E4)
  have EP := Lib.hid (show frK (⟨ep, fr, ge, bx⟩, s5) = frK (frP s1) by rw [EF.out])
  have hk1 : k < 256 := h.eye.lt1 hk
  go_enter Try.func31, Try.ntmps31
  go_upto_region 1 with (refine wpList_alloc_v rfl rfl ZVFr ?_)
  have hq0 := heap_alloc_new w (.cells (arrV 4 (frF noFr none 0)) 27)
  have hb0 : Below w.heap.size w (w.alloc (.cells (arrV 4 (frF noFr none 0)) 27)) := (Below.refl _ _).alloc (Nat.le_refl _) _
  refine wp_cut (fun x => x.heap[w.heap.size]? = some (.cells (arrV 4 (frF noFr none 0)) 27 (0, 0)) ∧ Below w.heap.size w x ∧ Src x w.heap.size A n c l ∧ w.heap.size < x.heap.size) ⟨hq0, hb0, ⟨hb0.size, h.txt.below hb0, h.cap, h.len, h.byt⟩, by simp⟩ ?_
  clear hq0 hb0 h
  rintro w1 ⟨h2, hb, hS, hlt⟩
  (try simp only [Act.put, List.setIfInBounds_toArray, List.set_cons_zero, List.set_cons_succ])
  go_upto_region 4 with (fail)
  have he := hS.rdr
  have hb1 : Below w.heap.size w _ := hb.alloc hb.size (.cells #[.slice A n c, .bool false] 105)
  have h21 := keep_below ((Below.refl w1.heap.size w1).alloc (Nat.le_refl _) (.cells #[.slice A n c, .bool false] 105)) (lt_of_block h2) h2
  refine wp_cut (fun x => x.heap[w.heap.size]? = _ ∧ Below w.heap.size w x ∧ Rdr x w.heap.size w1.heap.size ⟨l, false⟩) ⟨h21, hb1, he⟩ ?_
  clear h21 hb1 he h2 hb hS
  rintro w3 ⟨h2, hb, he⟩
  generalize w1.heap.size = g at *
  (try simp only [Act.put, List.setIfInBounds_toArray, List.set_cons_zero, List.set_cons_succ])
  have hgl := he.lt
  go_upto_region 5 with (go_at_call 74; (with_reducible refine (rdNum1 he hk).mono ?_); rintro e w4 ⟨rfl, he2, hb2⟩)
  replace h2 := hb2.keep h2 (by omega)
  replace hb := hb.trans (hb2.below (B := w.heap.size) (by omega) hb.size)
  replace he := he2
  clear he2 hb2 hgl
  (try simp only [Act.put, List.setIfInBounds_toArray, List.set_cons_zero, List.set_cons_succ])
  have hg5 := he.lt
  go_upto_region 6 with (first | (refine wpList_valg rfl (run_built0 rfl built_fr) ?_) | (refine wpList_newV rfl rfl rfl rfl ZVFr RTFr rfl rfl (fun _ _ => frF_one _ _ _ _) ?_; intro w5 hq b5 hz5))
  replace h2 := keep_below b5 (lt_of_block h2) h2
  replace he := he.after b5
  replace hb := hb.trans (b5.mono hb.size)
  have hqg : g < w4.heap.size := hg5
  generalize w4.heap.size = q at *
  clear b5 hz5 hg5
  (try simp only [Act.put, List.setIfInBounds_toArray, List.set_cons_zero, List.set_cons_succ])
  go_upto_region 7 with (go_at_call 74; have lt0 := he.lt8 E1; (with_reducible refine (rdNum8 he E1).mono ?_); rintro e w2 ⟨rfl, he2, hb2⟩; have hq2 := hb2.keep hq (by omega); have h22 := hb2.keep h2 (by omega); have c2 := cell_arrV hq2 0 (by omega); have f2 := frozen_of_row w2 q 0 _ _ hq2)
  replace he := he2.setAt (q := q) (by omega) (by omega) 0 (.int .u64 (ep : Int))
  replace hb := (hb.trans (hb2.below (B := w.heap.size) (by omega) (by have := hb.size; omega))).setCell (p := ⟨q, 0, none⟩) (by show w.heap.size ≤ q; omega) (.int .u64 (ep : Int))
  replace hq := set_arrV (i := 0) hq2 (.int .u64 (ep : Int))
  replace h2 := (show (w2.setCell ⟨q, 0, none⟩ (.int .u64 (ep : Int))).heap[w.heap.size]? = _ from heap_setCell_other _ _ _ _ (show w.heap.size ≠ q by omega)).trans h22
  clear hq2 c2 f2 he2 hb2 h22
  generalize w2.setCell ⟨q, 0, none⟩ (.int .u64 (ep : Int)) = w6 at *
  clear w2
  (try simp only [Act.put, List.setIfInBounds_toArray, List.set_cons_zero, List.set_cons_succ])
  go_upto_region 8 with (go_at_call 74; have lt1 := he.lt4 E2; (with_reducible refine (rdNum4 he E2).mono ?_); rintro e w2 ⟨rfl, he2, hb2⟩; have hq2 := hb2.keep hq (by omega); have h22 := hb2.keep h2 (by omega); have c2 := cell_arrV hq2 1 (by omega); have f2 := frozen_of_row w2 q 1 _ _ hq2)
  replace he := he2.setAt (q := q) (by omega) (by omega) 1 (.int .i64 (fr : Int))
  replace hb := (hb.trans (hb2.below (B := w.heap.size) (by omega) (by have := hb.size; omega))).setCell (p := ⟨q, 1, none⟩) (by show w.heap.size ≤ q; omega) (.int .i64 (fr : Int))
  replace hq := set_arrV (i := 1) hq2 (.int .i64 (fr : Int))
  replace h2 := (show (w2.setCell ⟨q, 1, none⟩ (.int .i64 (fr : Int))).heap[w.heap.size]? = _ from heap_setCell_other _ _ _ _ (show w.heap.size ≠ q by omega)).trans h22
  clear hq2 c2 f2 he2 hb2 h22
  generalize w2.setCell ⟨q, 1, none⟩ (.int .i64 (fr : Int)) = w7 at *
  clear w2
  (try simp only [Act.put, List.setIfInBounds_toArray, List.set_cons_zero, List.set_cons_succ])
  go_upto_region 9 with (go_at_call 74; have lt2 := he.lt8 E3; (with_reducible refine (rdNum8 he E3).mono ?_); rintro e w2 ⟨rfl, he2, hb2⟩; have hq2 := hb2.keep hq (by omega); have h22 := hb2.keep h2 (by omega); have c2 := cell_arrV hq2 2 (by omega); have f2 := frozen_of_row w2 q 2 _ _ hq2)
  replace he := he2.setAt (q := q) (by omega) (by omega) 2 (.int .u64 (ge : Int))
  replace hb := (hb.trans (hb2.below (B := w.heap.size) (by omega) (by have := hb.size; omega))).setCell (p := ⟨q, 2, none⟩) (by show w.heap.size ≤ q; omega) (.int .u64 (ge : Int))
  replace hq := set_arrV (i := 2) hq2 (.int .u64 (ge : Int))
  replace h2 := (show (w2.setCell ⟨q, 2, none⟩ (.int .u64 (ge : Int))).heap[w.heap.size]? = _ from heap_setCell_other _ _ _ _ (show w.heap.size ≠ q by omega)).trans h22
  clear hq2 c2 f2 he2 hb2 h22
  generalize w2.setCell ⟨q, 2, none⟩ (.int .u64 (ge : Int)) = w8 at *
  clear w2
  (try simp only [Act.put, List.setIfInBounds_toArray, List.set_cons_zero, List.set_cons_succ])
  have hgq := he.lt
  obtain ⟨A4, n4, c4, hE⟩ := he
  have cc0 := hE.c0
  have ht4 : Txt w8 w8.heap.size A4 n4 c4 s4.l := hE.txt.more hb.size
  have hl4 := hE.len
  go_upto_region 10 with (go_at_call 34; (with_reducible refine (Copy_any A4 n4 c4 _ _ ht4 hl4).mono ?_); rintro e w2 ⟨v, rfl, ho, b9⟩; obtain ⟨A5, c5, rfl, -⟩ := ho.txt; have hq2 := keep_below b9 (lt_of_block hq) hq; have h22 := keep_below b9 (lt_of_block h2) h2; have c3 := cell_arrV hq2 3 (by omega); have f3 := frozen_of_row w2 q 3 _ _ hq2)
  have he2 : Rdr w2 w.heap.size g s4 := ⟨_, _, _, hE.after b9⟩
  replace he := he2.setAt (q := q) (by omega) (by omega) 3 (.slice A5 s4.l.length c5)
  replace ho := (ho.mono hb.size).setCell (p := ⟨q, 3, none⟩) (own_ne ho hq2 (by decide)) (.slice A5 s4.l.length c5)
  replace hb := (hb.trans (b9.mono hb.size)).setCell (p := ⟨q, 3, none⟩) (by show w.heap.size ≤ q; omega) (.slice A5 s4.l.length c5)
  replace hq := set_arrV (i := 3) hq2 (.slice A5 s4.l.length c5)
  replace h2 := (show (w2.setCell ⟨q, 3, none⟩ (.slice A5 s4.l.length c5)).heap[w.heap.size]? = _ from heap_setCell_other _ _ _ _ (show w.heap.size ≠ q by omega)).trans h22
  rw [show (arrV 4 (upd (upd (upd (upd (frF noFr none 0) 0 (.int .u64 (ep : Int))) 1 (.int .i64 (fr : Int))) 2 (.int .u64 (ge : Int))) 3 (.slice A5 s4.l.length c5))) = arrV 4 (frF ⟨ep, fr, ge, s4.l⟩ A5 c5) from rfl] at hq
  clear hq2 c3 f3 he2 b9 h22 cc0 ht4 hE hl4
  generalize w2.setCell ⟨q, 3, none⟩ (.slice A5 s4.l.length c5) = wa at *
  clear w2
  (try simp only [Act.put, List.setIfInBounds_toArray, List.set_cons_zero, List.set_cons_succ])
  obtain ⟨A6, n6, c6, hE⟩ := he
  have c1 := hE.c1
  have HO := Lib.hid ho
  clear hE E1 E2 E3
  cases hov : s4.ov with
  | true =>
    rw [hov] at c1
    have EK := Lib.hid (show frQ k s1 = (noFr, 3) by
      unfold frQ
      rw [← EP.out]
      rw [restP_no hov] at E4
      injection E4 with e1 e2
      subst e2
      split
      · exact if_neg (fun h => by cases h.1)
      · rfl)
    go_wp2_with (first | (refine wpList_valg rfl (run_built0 rfl built_fr) ?_) | (refine wpList_store_v (f' := (frF noFr none 0)) rfl rfl RTFr rfl rfl h2 (fun i _ => frF_one _ _ _ i) ?_))
    rw [EK.out]
    refine bodyPost_ret (results_v_tmp rfl rfl rfl RTFr (row_self h2)) rfl ⟨none, 0, rfl, Own.nil_, row_below hb (Nat.le_refl _) _⟩
  | false =>
    rw [hov] at c1
    by_cases hk3 : k = 3
    · subst hk3
      rw [restP_yes hov] at E4
      injection E4 with e1 e2
      subst e1 e2
      by_cases hm : MayF (ep : Int) (fr : Int) (ge : Int) s4.l.length
      · have HM := Lib.hid (decide_eq_true hm)
        have EK := Lib.hid (show frQ 3 s1 = (⟨ep, fr, ge, s4.l⟩, 0) by
          unfold frQ
          rw [← EP.out, if_pos rfl]
          exact if_pos ⟨rfl, hm⟩)
        clear hm
        go_wp2_with (first | (refine wpList_valg rfl (run_op_load_v rfl RTFr rfl hq) ?_) | (go_at_call 42; (with_reducible refine (RmayFrameP (p := ⟨ep, fr, ge, s4.l⟩)).mono ?_); rintro e w9 ⟨rfl, hb9⟩; rw [HM.out]; have hq9 := keep_below hb9 (lt_of_block hq) hq; have h29 := keep_below hb9 (lt_of_block h2) h2) | (refine wpList_load_all rfl rfl RTFr rfl hq9 ?_) | (refine wpList_store_v rfl rfl RTFr rfl rfl h29 (fun i _ => frF_one _ _ _ i) ?_))
        refine bodyPost_ret (results_v_tmp rfl rfl rfl RTFr (row_self h29)) rfl ?_
        rw [EK.out]
        have ho9 := HO.out.below hb9 (fun k hk => (HO.out.lt k hk).2)
        exact ⟨A5, c5, rfl, own_setR ho9 h29 (by decide), row_below (hb.trans (hb9.mono hb.size)) (Nat.le_refl _) _⟩
      · have HM := Lib.hid (decide_eq_false hm)
        have EK := Lib.hid (show frQ 3 s1 = (noFr, 3) by
          unfold frQ
          rw [← EP.out, if_pos rfl]
          exact if_neg (fun h => hm h.2))
        clear hm
        go_wp2_with (first | (refine wpList_valg rfl (run_op_load_v rfl RTFr rfl hq) ?_) | (go_at_call 42; (with_reducible refine (RmayFrameP (p := ⟨ep, fr, ge, s4.l⟩)).mono ?_); rintro e w9 ⟨rfl, hb9⟩; rw [HM.out]; have h29 := keep_below hb9 (lt_of_block h2) h2) | (refine wpList_valg rfl (run_built0 rfl built_fr) ?_) | (refine wpList_store_v (f' := (frF noFr none 0)) rfl rfl RTFr rfl rfl h29 (fun i _ => frF_one _ _ _ i) ?_))
        rw [EK.out]
        refine bodyPost_ret (results_v_tmp rfl rfl rfl RTFr (row_self h29)) rfl ⟨none, 0, rfl, Own.nil_, row_below (hb.trans (hb9.mono hb.size)) (Nat.le_refl _) _⟩
    · have hk3n : decide ((k : Int) = 3) = false := decide_eq_false (by omega)
      have EK := Lib.hid (show frQ k s1 = (noFr, 3) from if_neg hk3)
      go_wp2_with (first | (refine wpList_valg rfl (run_built0 rfl built_fr) ?_) | (refine wpList_store_v (f' := (frF noFr none 0)) rfl rfl RTFr rfl rfl h2 (fun i _ => frF_one _ _ _ i) ?_))
      rw [EK.out]
      refine bodyPost_ret (results_v_tmp rfl rfl rfl RTFr (row_self h2)) rfl ⟨none, 0, rfl, Own.nil_, row_below hb (Nat.le_refl _) _⟩
theorem RReadFrame_any (A : Option Addr) (n c : Nat) (l : List Nat) (w : World) (h : Src w w.heap.size A n c l) :
    Calls Try.prog 31 #[.slice A n c] w (FrPost w (frV l)) := by
  have hl := h.txt.len
  by_cases hn : 1048576 < n
  · rw [frV_long (by omega)]
    exact RReadFrame_long A n c l w h hn
  · obtain ⟨k, s1, hk⟩ := pair_of (numP 1 ⟨l, false⟩)
    have := RReadFrame_more A n c l w h (by omega) hk
    by_cases hne : k = 3
    · subst hne
      rw [frV_more (by omega) hk]
      exact this
    · rw [frV_kind (by omega) hk hne]
      rw [show frQ k s1 = (noFr, 3) from if_neg hne] at this
      exact this
set_option maxRecDepth 100000 in
set_option maxHeartbeats 4000000 in
theorem RReadWelcome_long (A : Option Addr) (n c : Nat) (l : List Nat) (w : World) (h : Src w w.heap.size A n c l) (hn : 1048576 < n) :
    Calls Try.prog 29 #[.slice A n c] w (WlPost w (noWl, 4)) := by
  have hn2 := h.len
  go_enter Try.func29, Try.ntmps29
  go_upto_region 1 with (refine wpList_alloc_v rfl rfl ZVWl ?_)
  have hq0 := heap_alloc_new w (.cells (arrV 4 (wlG 0 noTx noA noC 0)) 24)
  have hb0 : Below w.heap.size w (w.alloc (.cells (arrV 4 (wlG 0 noTx noA noC 0)) 24)) := (Below.refl _ _).alloc (Nat.le_refl _) _
  refine wp_cut (fun x => x.heap[w.heap.size]? = some (.cells (arrV 4 (wlG 0 noTx noA noC 0)) 24 (0, 0)) ∧ Below w.heap.size w x ∧ Src x w.heap.size A n c l ∧ w.heap.size < x.heap.size) ⟨hq0, hb0, ⟨hb0.size, h.txt.below hb0, h.cap, h.len, h.byt⟩, by simp⟩ ?_
  clear hq0 hb0 h
  rintro w1 ⟨h2, hb, hS, hlt⟩
  (try simp only [Act.put, List.setIfInBounds_toArray, List.set_cons_zero, List.set_cons_succ])
  go_wp2_with (first | (refine wpList_valg rfl (run_built0 rfl built_wl) ?_) | (refine wpList_store_v (f' := (wlG 0 noTx noA noC 0)) rfl rfl RTWl rfl rfl h2 (fun i _ => wlG_one _ _ _ _ _ i) ?_))
  refine bodyPost_ret (results_v_tmp rfl rfl rfl RTWl (row_self h2)) rfl ⟨noA, noC, rfl, noWl_own _ _, row_below hb (Nat.le_refl _) _⟩
set_option maxRecDepth 100000 in
set_option maxHeartbeats 4000000 in
theorem RReadWelcome_more (A : Option Addr) (n c : Nat) (l : List Nat) (w : World) (h : Src w w.heap.size A n c l) (hn : n ≤ 1048576) {k : Nat} {s1 : Rs} (hk : numP 1 ⟨l, false⟩ = (k, s1)) :
    Calls Try.prog 29 #[.slice A n c] w (WlPost w (wlQ k s1)) := by
  obtain ⟨tw, s2, E1⟩ := pair_of (numP 4 s1)
  obtain ⟨n0, s3, X0⟩ := pair_of (numP 4 s2)
  obtain ⟨t0, s4, Y0⟩ := pair_of (cutP n0 s3)
  obtain ⟨n1, s5, X1⟩ := pair_of (numP 4 s4)
  obtain ⟨t1, s6, Y1⟩ := pair_of (cutP n1 s5)
  obtain ⟨n2, s7, X2⟩ := pair_of (numP 4 s6)
  obtain ⟨t2, s8, Y2⟩ := pair_of (cutP n2 s7)
  have EF := Lib.hid (wlP_is E1 (txP_is X0 Y0) (txP_is X1 Y1) (txP_is X2 Y2))
  have EP := Lib.hid (show wlK (⟨tw, t0, t1, t2⟩, s8) = wlK (wlP s1) by rw [EF.out])
  have hk1 : k < 256 := h.eye.lt1 hk
  go_enter Try.func29, Try.ntmps29
  go_upto_region 1 with (refine wpList_alloc_v rfl rfl ZVWl ?_)
  have hq0 := heap_alloc_new w (.cells (arrV 4 (wlG 0 noTx noA noC 0)) 24)
  have hb0 : Below w.heap.size w (w.alloc (.cells (arrV 4 (wlG 0 noTx noA noC 0)) 24)) := (Below.refl _ _).alloc (Nat.le_refl _) _
  refine wp_cut (fun x => x.heap[w.heap.size]? = some (.cells (arrV 4 (wlG 0 noTx noA noC 0)) 24 (0, 0)) ∧ Below w.heap.size w x ∧ Src x w.heap.size A n c l ∧ w.heap.size < x.heap.size) ⟨hq0, hb0, ⟨hb0.size, h.txt.below hb0, h.cap, h.len, h.byt⟩, by simp⟩ ?_
  clear hq0 hb0 h
  rintro w1 ⟨h2, hb, hS, hlt⟩
  (try simp only [Act.put, List.setIfInBounds_toArray, List.set_cons_zero, List.set_cons_succ])
  go_upto_region 4 with (fail)
  have he := hS.rdr
  have hb1 : Below w.heap.size w _ := hb.alloc hb.size (.cells #[.slice A n c, .bool false] 105)
  have h21 := keep_below ((Below.refl w1.heap.size w1).alloc (Nat.le_refl _) (.cells #[.slice A n c, .bool false] 105)) (lt_of_block h2) h2
  refine wp_cut (fun x => x.heap[w.heap.size]? = _ ∧ Below w.heap.size w x ∧ Rdr x w.heap.size w1.heap.size ⟨l, false⟩) ⟨h21, hb1, he⟩ ?_
  clear h21 hb1 he h2 hb hS
  rintro w3 ⟨h2, hb, he⟩
  generalize w1.heap.size = g at *
  (try simp only [Act.put, List.setIfInBounds_toArray, List.set_cons_zero, List.set_cons_succ])
  have hgl := he.lt
  go_upto_region 5 with (go_at_call 74; (with_reducible refine (rdNum1 he hk).mono ?_); rintro e w4 ⟨rfl, he2, hb2⟩)
  replace h2 := hb2.keep h2 (by omega)
  replace hb := hb.trans (hb2.below (B := w.heap.size) (by omega) hb.size)
  replace he := he2
  clear he2 hb2 hgl
  (try simp only [Act.put, List.setIfInBounds_toArray, List.set_cons_zero, List.set_cons_succ])
  have hg5 := he.lt
  go_upto_region 6 with (first | (refine wpList_valg rfl (run_built0 rfl built_wl) ?_) | (refine wpList_newV rfl rfl rfl rfl ZVWl RTWl rfl rfl (fun _ _ => wlG_one _ _ _ _ _ _) ?_; intro w5 hq b5 hz5))
  replace h2 := keep_below b5 (lt_of_block h2) h2
  replace he := he.after b5
  replace hb := hb.trans (b5.mono hb.size)
  have hqg : g < w4.heap.size := hg5
  generalize w4.heap.size = q at *
  clear b5 hz5 hg5
  (try simp only [Act.put, List.setIfInBounds_toArray, List.set_cons_zero, List.set_cons_succ])
  go_upto_region 7 with (go_at_call 74; have lt0 := he.lt4 E1; (with_reducible refine (rdNum4 he E1).mono ?_); rintro e w2 ⟨rfl, he2, hb2⟩; have hq2 := hb2.keep hq (by omega); have h22 := hb2.keep h2 (by omega); have c2 := cell_arrV hq2 0 (by omega); have f2 := frozen_of_row w2 q 0 _ _ hq2)
  replace he := he2.setAt (q := q) (by omega) (by omega) 0 (.int .i64 (tw : Int))
  replace hb := (hb.trans (hb2.below (B := w.heap.size) (by omega) (by have := hb.size; omega))).setCell (p := ⟨q, 0, none⟩) (by show w.heap.size ≤ q; omega) (.int .i64 (tw : Int))
  replace hq := set_arrV (i := 0) hq2 (.int .i64 (tw : Int))
  replace h2 := (show (w2.setCell ⟨q, 0, none⟩ (.int .i64 (tw : Int))).heap[w.heap.size]? = _ from heap_setCell_other _ _ _ _ (show w.heap.size ≠ q by omega)).trans h22
  clear hq2 c2 f2 he2 hb2 h22
  generalize w2.setCell ⟨q, 0, none⟩ (.int .i64 (tw : Int)) = w6 at *
  clear w2
  (try simp only [Act.put, List.setIfInBounds_toArray, List.set_cons_zero, List.set_cons_succ])
  go_upto_region 8 with (first | (go_at_call 74; have ltn0 := he.lt4 X0; (with_reducible refine (rdNum4 he X0).mono ?_); rintro e w9 ⟨rfl, hea, hba⟩) | (go_at_call 77; (with_reducible refine (rdCutE (by omega) hea Y0).mono ?_); rintro e w2 ⟨A0, z0, rfl, ho, he2, hbb⟩; have hb2 := hba.trans hbb; have hq2 := hb2.keep hq (by omega); have h22 := hb2.keep h2 (by omega); have c2 := cell_arrV hq2 1 (by omega); have f2 := frozen_of_row w2 q 1 _ _ hq2))
  have o0 := (ho.mono (show w.heap.size ≤ w9.heap.size by have := hb.size; have := hba.size; omega)).setCell (p := ⟨q, 1, none⟩) (own_ne ho hq2 (by decide)) (.slice A0 t0.length z0)
  clear hea hba hbb ho
  replace he := he2.setAt (q := q) (by omega) (by omega) 1 (.slice A0 t0.length z0)
  replace hb := (hb.trans (hb2.below (B := w.heap.size) (by omega) (by have := hb.size; omega))).setCell (p := ⟨q, 1, none⟩) (by show w.heap.size ≤ q; omega) (.slice A0 t0.length z0)
  replace hq := set_arrV (i := 1) hq2 (.slice A0 t0.length z0)
  replace h2 := (show (w2.setCell ⟨q, 1, none⟩ (.slice A0 t0.length z0)).heap[w.heap.size]? = _ from heap_setCell_other _ _ _ _ (show w.heap.size ≠ q by omega)).trans h22
  clear hq2 c2 f2 he2 hb2 h22
  generalize w2.setCell ⟨q, 1, none⟩ (.slice A0 t0.length z0) = w7 at *
  clear w2
  (try simp only [Act.put, List.setIfInBounds_toArray, List.set_cons_zero, List.set_cons_succ])
  go_upto_region 9 with (first | (go_at_call 74; have ltn1 := he.lt4 X1; (with_reducible refine (rdNum4 he X1).mono ?_); rintro e w9 ⟨rfl, hea, hba⟩) | (go_at_call 77; (with_reducible refine (rdCutE (by omega) hea Y1).mono ?_); rintro e w2 ⟨A1, z1, rfl, ho, he2, hbb⟩; have hb2 := hba.trans hbb; have hq2 := hb2.keep hq (by omega); have h22 := hb2.keep h2 (by omega); have c2 := cell_arrV hq2 2 (by omega); have f2 := frozen_of_row w2 q 2 _ _ hq2))
  replace o0 : Own w2 w.heap.size 5 (.slice A0 t0.length z0) t0 := Rdr.own hb2 he o0 (by decide)
  replace o0 := o0.setCell (p := ⟨q, 2, none⟩) (own_ne o0 hq2 (by decide)) (.slice A1 t1.length z1)
  have o1 := (ho.mono (show w.heap.size ≤ w9.heap.size by have := hb.size; have := hba.size; omega)).setCell (p := ⟨q, 2, none⟩) (own_ne ho hq2 (by decide)) (.slice A1 t1.length z1)
  clear hea hba hbb ho
  replace he := he2.setAt (q := q) (by omega) (by omega) 2 (.slice A1 t1.length z1)
  replace hb := (hb.trans (hb2.below (B := w.heap.size) (by omega) (by have := hb.size; omega))).setCell (p := ⟨q, 2, none⟩) (by show w.heap.size ≤ q; omega) (.slice A1 t1.length z1)
  replace hq := set_arrV (i := 2) hq2 (.slice A1 t1.length z1)
  replace h2 := (show (w2.setCell ⟨q, 2, none⟩ (.slice A1 t1.length z1)).heap[w.heap.size]? = _ from heap_setCell_other _ _ _ _ (show w.heap.size ≠ q by omega)).trans h22
  clear hq2 c2 f2 he2 hb2 h22
  generalize w2.setCell ⟨q, 2, none⟩ (.slice A1 t1.length z1) = w8 at *
  clear w2
  (try simp only [Act.put, List.setIfInBounds_toArray, List.set_cons_zero, List.set_cons_succ])
  go_upto_region 10 with (first | (go_at_call 74; have ltn2 := he.lt4 X2; (with_reducible refine (rdNum4 he X2).mono ?_); rintro e w9 ⟨rfl, hea, hba⟩) | (go_at_call 77; (with_reducible refine (rdCutE (by omega) hea Y2).mono ?_); rintro e w2 ⟨A2, z2, rfl, ho, he2, hbb⟩; have hb2 := hba.trans hbb; have hq2 := hb2.keep hq (by omega); have h22 := hb2.keep h2 (by omega); have c2 := cell_arrV hq2 3 (by omega); have f2 := frozen_of_row w2 q 3 _ _ hq2))
  replace o0 : Own w2 w.heap.size 5 (.slice A0 t0.length z0) t0 := Rdr.own hb2 he o0 (by decide)
  replace o0 := o0.setCell (p := ⟨q, 3, none⟩) (own_ne o0 hq2 (by decide)) (.slice A2 t2.length z2)
  replace o1 : Own w2 w.heap.size 5 (.slice A1 t1.length z1) t1 := Rdr.own hb2 he o1 (by decide)
  replace o1 := o1.setCell (p := ⟨q, 3, none⟩) (own_ne o1 hq2 (by decide)) (.slice A2 t2.length z2)
  have o2 := (ho.mono (show w.heap.size ≤ w9.heap.size by have := hb.size; have := hba.size; omega)).setCell (p := ⟨q, 3, none⟩) (own_ne ho hq2 (by decide)) (.slice A2 t2.length z2)
  clear hea hba hbb ho
  replace he := he2.setAt (q := q) (by omega) (by omega) 3 (.slice A2 t2.length z2)
  replace hb := (hb.trans (hb2.below (B := w.heap.size) (by omega) (by have := hb.size; omega))).setCell (p := ⟨q, 3, none⟩) (by show w.heap.size ≤ q; omega) (.slice A2 t2.length z2)
  replace hq := set_arrV (i := 3) hq2 (.slice A2 t2.length z2)
  replace h2 := (show (w2.setCell ⟨q, 3, none⟩ (.slice A2 t2.length z2)).heap[w.heap.size]? = _ from heap_setCell_other _ _ _ _ (show w.heap.size ≠ q by omega)).trans h22
  clear hq2 c2 f2 he2 hb2 h22
  generalize w2.setCell ⟨q, 3, none⟩ (.slice A2 t2.length z2) = wa at *
  clear w2
  (try simp only [Act.put, List.setIfInBounds_toArray, List.set_cons_zero, List.set_cons_succ])
  replace hq : wa.heap[q]? = some (.cells (arrV 4 (wlG tw (⟨tw, t0, t1, t2⟩ : PWl).tx (wA A0 A1 A2) (rC z0 z1 z2) 3)) 24 (0, 0)) := hq
  obtain ⟨A6, n6, c6, hE⟩ := he
  have d0 := hE.c0
  have d1 := hE.c1
  have hn6 : s8.l.length = n6 := hE.txt.len
  have HO : ∀ j, j < 3 → Own wa w.heap.size 5 (.slice (wA A0 A1 A2 j) ((⟨tw, t0, t1, t2⟩ : PWl).tx j).length (rC z0 z1 z2 j)) ((⟨tw, t0, t1, t2⟩ : PWl).tx j) := fun j hj => by
    have : j = 0 ∨ j = 1 ∨ j = 2 := by omega
    rcases this with rfl | rfl | rfl
    · exact o0
    · exact o1
    · exact o2
  replace HO := Lib.hid HO
  clear hE E1 X0 Y0 X1 Y1 X2 Y2 o0 o1 o2
  cases hov : s8.ov with
  | true =>
    rw [hov] at d1
    have EK := Lib.hid (show wlQ k s1 = (noWl, 3) by
      unfold wlQ
      rw [← EP.out]
      split
      · exact if_neg (fun h => by rw [hov] at h; cases h.1)
      · rfl)
    go_wp2_with (first | (refine wpList_valg rfl (run_built0 rfl built_wl) ?_) | (refine wpList_store_v (f' := (wlG 0 noTx noA noC 0)) rfl rfl RTWl rfl rfl h2 (fun i _ => wlG_one _ _ _ _ _ i) ?_))
    rw [EK.out]
    refine bodyPost_ret (results_v_tmp rfl rfl rfl RTWl (row_self h2)) rfl ⟨noA, noC, rfl, noWl_own _ _, row_below hb (Nat.le_refl _) _⟩
  | false =>
    rw [hov] at d1
    by_cases hk3 : k = 2
    · subst hk3
      by_cases h0 : 0 < n6
      · have EK := Lib.hid (show wlQ 2 s1 = (noWl, 3) by
          unfold wlQ
          rw [← EP.out, if_pos rfl]
          exact if_neg (fun h => by have h1 : s8.l.length = 0 := h.2.1; omega))
        go_wp2_with (first | (refine wpList_valg rfl (run_built0 rfl built_wl) ?_) | (refine wpList_store_v (f' := (wlG 0 noTx noA noC 0)) rfl rfl RTWl rfl rfl h2 (fun i _ => wlG_one _ _ _ _ _ i) ?_))
        rw [EK.out]
        refine bodyPost_ret (results_v_tmp rfl rfl rfl RTWl (row_self h2)) rfl ⟨noA, noC, rfl, noWl_own _ _, row_below hb (Nat.le_refl _) _⟩
      · by_cases hm : MayW (tw : Int) t0.length t1.length t2.length
        · have HM := Lib.hid (decide_eq_true hm)
          have EK := Lib.hid (show wlQ 2 s1 = (⟨tw, t0, t1, t2⟩, 0) by
            unfold wlQ
            rw [← EP.out, if_pos rfl]
            exact if_pos ⟨hov, by show s8.l.length = 0; omega, hm⟩)
          clear hm
          go_wp2_with (first | (refine wpList_valg rfl (run_op_load_v rfl RTWl rfl hq) ?_) | (go_at_call 39; (with_reducible refine (RmayWelcomeP (p := ⟨tw, t0, t1, t2⟩)).mono ?_); rintro e w9 ⟨rfl, hb9⟩; rw [HM.out]; have hq9 := keep_below hb9 (lt_of_block hq) hq; have h29 := keep_below hb9 (lt_of_block h2) h2) | (refine wpList_load_all rfl rfl RTWl rfl hq9 ?_) | (refine wpList_store_v rfl rfl RTWl rfl rfl h29 (fun i _ => wlG_one _ _ _ _ _ i) ?_))
          refine bodyPost_ret (results_v_tmp rfl rfl rfl RTWl (row_self h29)) rfl ?_
          rw [EK.out]
          exact ⟨wA A0 A1 A2, rC z0 z1 z2, rfl, fun j hj => own_setR ((HO.out j hj).below hb9 (fun k hk => ((HO.out j hj).lt k hk).2)) h29 (by decide), row_below (hb.trans (hb9.mono hb.size)) (Nat.le_refl _) _⟩
        · have HM := Lib.hid (decide_eq_false hm)
          have EK := Lib.hid (show wlQ 2 s1 = (noWl, 3) by
            unfold wlQ
            rw [← EP.out, if_pos rfl]
            exact if_neg (fun h => hm h.2.2))
          clear hm
          go_wp2_with (first | (refine wpList_valg rfl (run_op_load_v rfl RTWl rfl hq) ?_) | (go_at_call 39; (with_reducible refine (RmayWelcomeP (p := ⟨tw, t0, t1, t2⟩)).mono ?_); rintro e w9 ⟨rfl, hb9⟩; rw [HM.out]; have h29 := keep_below hb9 (lt_of_block h2) h2) | (refine wpList_valg rfl (run_built0 rfl built_wl) ?_) | (refine wpList_store_v (f' := (wlG 0 noTx noA noC 0)) rfl rfl RTWl rfl rfl h29 (fun i _ => wlG_one _ _ _ _ _ i) ?_))
          rw [EK.out]
          refine bodyPost_ret (results_v_tmp rfl rfl rfl RTWl (row_self h29)) rfl ⟨noA, noC, rfl, noWl_own _ _, row_below (hb.trans (hb9.mono hb.size)) (Nat.le_refl _) _⟩
    · have hk3n : decide ((k : Int) = 2) = false := decide_eq_false (by omega)
      have EK := Lib.hid (show wlQ k s1 = (noWl, 3) from if_neg hk3)
      go_wp2_with (first | (refine wpList_valg rfl (run_built0 rfl built_wl) ?_) | (refine wpList_store_v (f' := (wlG 0 noTx noA noC 0)) rfl rfl RTWl rfl rfl h2 (fun i _ => wlG_one _ _ _ _ _ i) ?_))
      rw [EK.out]
      refine bodyPost_ret (results_v_tmp rfl rfl rfl RTWl (row_self h2)) rfl ⟨noA, noC, rfl, noWl_own _ _, row_below hb (Nat.le_refl _) _⟩
theorem RReadWelcome_any (A : Option Addr) (n c : Nat) (l : List Nat) (w : World) (h : Src w w.heap.size A n c l) :
    Calls Try.prog 29 #[.slice A n c] w (WlPost w (wlV l)) := by
  have hl := h.txt.len
  by_cases hn : 1048576 < n
  · rw [wlV_long (by omega)]
    exact RReadWelcome_long A n c l w h hn
  · obtain ⟨k, s1, hk⟩ := pair_of (numP 1 ⟨l, false⟩)
    have := RReadWelcome_more A n c l w h (by omega) hk
    by_cases hne : k = 2
    · subst hne
      rw [wlV_more (by omega) hk]
      exact this
    · rw [wlV_kind (by omega) hk hne]
      rw [show wlQ k s1 = (noWl, 3) from if_neg hne] at this
      exact this
set_option maxRecDepth 100000 in
set_option maxHeartbeats 4000000 in
theorem RReadCommit_long (A : Option Addr) (n c : Nat) (l : List Nat) (w : World) (h : Src w w.heap.size A n c l) (hn : 1048576 < n) :
    Calls Try.prog 27 #[.slice A n c] w (CmPost w (noCom, 4)) := by
  have hn2 := h.len
  go_enter Try.func27, Try.ntmps27
  go_upto_region 1 with (refine wpList_alloc_v rfl rfl ZVCm ?_)
  have hq0 := heap_alloc_new w (.cells (arrV 70 noCm) 42)
  have hb0 : Below w.heap.size w (w.alloc (.cells (arrV 70 noCm) 42)) := (Below.refl _ _).alloc (Nat.le_refl _) _
  refine wp_cut (fun x => x.heap[w.heap.size]? = some (.cells (arrV 70 noCm) 42 (0, 0)) ∧ Below w.heap.size w x ∧ Src x w.heap.size A n c l ∧ w.heap.size < x.heap.size) ⟨hq0, hb0, ⟨hb0.size, h.txt.below hb0, h.cap, h.len, h.byt⟩, by simp⟩ ?_
  clear hq0 hb0 h
  rintro w1 ⟨h2, hb, hS, hlt⟩
  (try simp only [Act.put, List.setIfInBounds_toArray, List.set_cons_zero, List.set_cons_succ])
  go_wp2_with (first | (refine wpList_valg rfl (run_built0 rfl built_cm) ?_) | (refine wpList_store_v (f' := noCm) rfl rfl RTCom rfl rfl h2 (fun i _ => noCm_one i) ?_))
  refine bodyPost_ret (results_v_tmp rfl rfl rfl RTCom (row_self h2)) rfl ⟨noAt, rfl, no_ok _ _, row_below hb (Nat.le_refl _) _⟩
theorem rdComE {B g : Nat} {s s' : Rs} {p : PCom} {w : World} (h : Rdr w B g s) (hE : comP s = (p, s')) :
    Calls Try.prog 75 #[.pointer (some ⟨g, 0, none⟩)] w fun e w' => ∃ a : At, e = .returned (.agg (arrV 70 (comV (comOf p a) p.tag))) ∧ CanB.ComSt w' (comOf p a) ∧ Rdr w' B g s' ∧ But g w w' := by
  have := CanB.rdCom g s w h
  rw [hE] at this
  exact this
set_option maxRecDepth 100000 in
set_option maxHeartbeats 4000000 in
theorem RReadCommit_more (A : Option Addr) (n c : Nat) (l : List Nat) (w : World) (h : Src w w.heap.size A n c l) (hn : n ≤ 1000000) {k : Nat} {s1 : Rs} (hk : numP 1 ⟨l, false⟩ = (k, s1)) :
    Calls Try.prog 27 #[.slice A n c] w (CmPost w (cmQ k s1)) := by
  have hL1 := num_left 1 hk
  have hLn : l.length = n := h.txt.len
  dsimp only at hL1
  obtain ⟨p, s2, EC⟩ := pair_of (comP s1)
  have hmid : ∀ a, MidC (comOf p a) := fun a => mid_of p a (by
    have := sl_com.all s1
    rw [EC] at this
    dsimp only at this
    omega)
  have hbyt := h.byt
  have hred : s2.ov = false → k = 1 → l = [1] ++ (p.L ++ s2.l) := fun ho h1 => by
    subst h1
    have r := kind_read 1 hbyt (by decide) (by rw [hk])
    rw [hk] at r
    have q := rw_com.read s1 (fun y hy => hbyt y (by rw [r.1]; simp [hy])) (by rw [EC]; exact ho)
    rw [EC] at q
    rw [← q.1]
    exact r.1
  have HR := Lib.hid hred
  have EK0 := Lib.hid (show cmK (p, s2) = cmK (comP s1) by rw [EC])
  have HT := Lib.hid h
  clear hred hL1 hLn
  have hk1 : k < 256 := h.eye.lt1 hk
  go_enter Try.func27, Try.ntmps27
  go_upto_region 1 with (refine wpList_alloc_v rfl rfl ZVCm ?_)
  have hq0 := heap_alloc_new w (.cells (arrV 70 noCm) 42)
  have hb0 : Below w.heap.size w (w.alloc (.cells (arrV 70 noCm) 42)) := (Below.refl _ _).alloc (Nat.le_refl _) _
  refine wp_cut (fun x => x.heap[w.heap.size]? = some (.cells (arrV 70 noCm) 42 (0, 0)) ∧ Below w.heap.size w x ∧ Src x w.heap.size A n c l ∧ w.heap.size < x.heap.size) ⟨hq0, hb0, ⟨hb0.size, h.txt.below hb0, h.cap, h.len, h.byt⟩, by simp⟩ ?_
  clear hq0 hb0 h
  rintro w1 ⟨h2, hb, hS, hlt⟩
  (try simp only [Act.put, List.setIfInBounds_toArray, List.set_cons_zero, List.set_cons_succ])
  go_upto_region 4 with (fail)
  have he := hS.rdr
  have hb1 : Below w.heap.size w _ := hb.alloc hb.size (.cells #[.slice A n c, .bool false] 105)
  have h21 := keep_below ((Below.refl w1.heap.size w1).alloc (Nat.le_refl _) (.cells #[.slice A n c, .bool false] 105)) (lt_of_block h2) h2
  refine wp_cut (fun x => x.heap[w.heap.size]? = _ ∧ Below w.heap.size w x ∧ Rdr x w.heap.size w1.heap.size ⟨l, false⟩) ⟨h21, hb1, he⟩ ?_
  clear h21 hb1 he h2 hb hS
  rintro w3 ⟨h2, hb, he⟩
  generalize w1.heap.size = g at *
  (try simp only [Act.put, List.setIfInBounds_toArray, List.set_cons_zero, List.set_cons_succ])
  have hgl := he.lt
  go_upto_region 5 with (go_at_call 74; (with_reducible refine (rdNum1 he hk).mono ?_); rintro e w4 ⟨rfl, he2, hb2⟩)
  replace h2 := hb2.keep h2 (by omega)
  replace hb := hb.trans (hb2.below (B := w.heap.size) (by omega) hb.size)
  replace he := he2
  clear he2 hb2 hgl
  (try simp only [Act.put, List.setIfInBounds_toArray, List.set_cons_zero, List.set_cons_succ])
  have hgq := he.lt
  go_upto_region 6 with (first | (go_at_call 75; (with_reducible refine (rdComE he EC).mono ?_); rintro e w5 ⟨a, rfl, hok, he5, hb5⟩) | (refine wpList_newV rfl rfl rfl rfl ZVCm RTCom rfl rfl (fun _ _ => comV_one _ _ _) ?_; intro w6 hq b6 hz6))
  replace h2 := keep_below b6 (by have := hb5.size; have := lt_of_block h2; omega) (hb5.keep h2 (by omega))
  replace hb := hb.trans (hb5.below (B := w.heap.size) (by omega) hb.size)
  replace hb := hb.trans (b6.mono hb.size)
  replace he := he5.after b6
  replace hok := hok.after b6
  replace hqg : w.heap.size < w5.heap.size := by have := hb5.size; have := lt_of_block h2; have := b6.size; omega
  generalize w5.heap.size = q at *
  clear he5 hb5 b6 hz6 hgq
  have HM := Lib.hid (hmid a)
  have hk0 := hok.ok
  (try simp only [Act.put, List.setIfInBounds_toArray, List.set_cons_zero, List.set_cons_succ])
  go_upto_region 7 with (first | (refine wpList_load_all rfl rfl RTCom rfl hq ?_) | (go_at_call 20; (with_reducible refine (RWriteCommit_any (comOf p a) p.tag _ _ hk0 (Nat.le_refl _) HM.out).mono ?_); rintro e w7 ⟨A4, n4, c4, rfl, o4, b7⟩))
  replace h2 := keep_below b7 (lt_of_block h2) h2
  replace hq := keep_below b7 (lt_of_block hq) hq
  replace hb := hb.trans (b7.mono hb.size)
  replace he := he.after b7
  replace hok := hok.after b7
  have t4 := o4.text
  have ht := HT.out.at_ hb
  clear b7 hk0 o4 hmid
  (try simp only [Act.put, List.setIfInBounds_toArray, List.set_cons_zero, List.set_cons_succ])
  obtain ⟨A6, n6, c6, hE⟩ := he
  have d1 := hE.c1
  clear hE
  cases hov : s2.ov with
  | true =>
    rw [hov] at d1
    have EK := Lib.hid (show cmQ k s1 = (noCom, 3) by
      unfold cmQ
      rw [← EK0.out]
      split
      · exact if_neg (fun h => by rw [hov] at h; cases h.1)
      · rfl)
    go_wp2_with (first | (refine wpList_valg rfl (run_built0 rfl built_cm) ?_) | (refine wpList_store_v (f' := noCm) rfl rfl RTCom rfl rfl h2 (fun i _ => noCm_one i) ?_))
    rw [EK.out]
    refine bodyPost_ret (results_v_tmp rfl rfl rfl RTCom (row_self h2)) rfl ⟨noAt, rfl, no_ok _ _, row_below hb (Nat.le_refl _) _⟩
  | false =>
    rw [hov] at d1
    by_cases hk3 : k = 1
    · subst hk3
      by_cases hm : OkP p
      · have HX := Lib.hid (chk_yes ((ok_at p a).2 hm))
        have hlT : lT (comOf p a) p.tag = [1] ++ p.L := by
          unfold lT
          rw [if_pos ((ok_at p a).2 hm), com_L]
        have hl := HR.out hov rfl
        have HB4 := Lib.hid (show ∀ x ∈ lT (comOf p a) p.tag, x < 256 from fun x hx => by
          rw [hlT] at hx
          refine hbyt x ?_
          rw [hl, ← List.append_assoc]
          exact List.mem_append.2 (.inl hx))
        have HB := Lib.hid (show ∀ x ∈ l, x < 256 from hbyt)
        rw [HX.out]
        by_cases h0 : s2.l.length = 0
        · have HS := Lib.hid (show decide (lT (comOf p a) p.tag = l) = true from decide_eq_true (by
            rw [hlT]
            have e0 : s2.l = [] := List.eq_nil_of_length_eq_zero h0
            rw [e0, List.append_nil] at hl
            exact hl.symm))
          have EK := Lib.hid (show cmQ 1 s1 = (p, 0) by
            unfold cmQ
            rw [← EK0.out, if_pos rfl]
            exact if_pos ⟨hov, h0, hm⟩)
          clear hm hl hlT h0 HR hbyt
          have hT := ht.txt
          go_wp2_with (first | (go_at_call 16; (with_reducible refine (Same_txt A4 n4 c4 _ A n c l _ _ t4 hT HB4.out HB.out).mono ?_); rintro e w9 ⟨rfl, rfl⟩; rw [HS.out]) | (refine wpList_load_all rfl rfl RTCom rfl hq ?_) | (refine wpList_store_v rfl rfl RTCom rfl rfl h2 (fun i _ => comV_one _ _ i) ?_))
          refine bodyPost_ret (results_v_tmp rfl rfl rfl RTCom (row_self h2)) rfl ?_
          rw [EK.out]
          exact ⟨a, rfl, hok.setRow h2, row_below hb (Nat.le_refl _) _⟩
        · have HS := Lib.hid (show decide (lT (comOf p a) p.tag = l) = false from decide_eq_false (by
            rw [hlT]
            intro e
            rw [hl] at e
            have := congrArg List.length e
            simp at this
            exact h0 (by rw [this]; rfl)))
          have EK := Lib.hid (show cmQ 1 s1 = (noCom, 3) by
            unfold cmQ
            rw [← EK0.out, if_pos rfl]
            exact if_neg (fun h => h0 h.2.1))
          clear hm hl hlT h0 HR hbyt
          have hT := ht.txt
          go_wp2_with (first | (go_at_call 16; (with_reducible refine (Same_txt A4 n4 c4 _ A n c l _ _ t4 hT HB4.out HB.out).mono ?_); rintro e w9 ⟨rfl, rfl⟩; rw [HS.out]) | (refine wpList_valg rfl (run_built0 rfl built_cm) ?_) | (refine wpList_store_v (f' := noCm) rfl rfl RTCom rfl rfl h2 (fun i _ => noCm_one i) ?_))
          rw [EK.out]
          refine bodyPost_ret (results_v_tmp rfl rfl rfl RTCom (row_self h2)) rfl ⟨noAt, rfl, no_ok _ _, row_below hb (Nat.le_refl _) _⟩
      · have HX := Lib.hid (chk_no (fun h => hm ((ok_at p a).1 h)))
        have EK := Lib.hid (show cmQ 1 s1 = (noCom, 3) by
          unfold cmQ
          rw [← EK0.out, if_pos rfl]
          exact if_neg (fun h => hm h.2.2))
        rw [HX.out]
        go_wp2_with (first | (refine wpList_valg rfl (run_built0 rfl built_cm) ?_) | (refine wpList_store_v (f' := noCm) rfl rfl RTCom rfl rfl h2 (fun i _ => noCm_one i) ?_))
        rw [EK.out]
        refine bodyPost_ret (results_v_tmp rfl rfl rfl RTCom (row_self h2)) rfl ⟨noAt, rfl, no_ok _ _, row_below hb (Nat.le_refl _) _⟩
    · have hk3n : decide ((k : Int) = 1) = false := decide_eq_false (by omega)
      have EK := Lib.hid (show cmQ k s1 = (noCom, 3) from if_neg hk3)
      go_wp2_with (first | (refine wpList_valg rfl (run_built0 rfl built_cm) ?_) | (refine wpList_store_v (f' := noCm) rfl rfl RTCom rfl rfl h2 (fun i _ => noCm_one i) ?_))
      rw [EK.out]
      refine bodyPost_ret (results_v_tmp rfl rfl rfl RTCom (row_self h2)) rfl ⟨noAt, rfl, no_ok _ _, row_below hb (Nat.le_refl _) _⟩
/-- A text as short as those that are played, or too long. -/
theorem RReadCommit_any (A : Option Addr) (n c : Nat) (l : List Nat) (w : World) (h : Src w w.heap.size A n c l) (hs : n ≤ 4000 ∨ 1048576 < n) :
    Calls Try.prog 27 #[.slice A n c] w (CmPost w (cmV l)) := by
  have hl := h.txt.len
  rcases hs with hn | hn
  · obtain ⟨k, s1, hk⟩ := pair_of (numP 1 ⟨l, false⟩)
    have := RReadCommit_more A n c l w h (by omega) hk
    by_cases hne : k = 1
    · subst hne
      rw [cmV_more (by omega) hk]
      exact this
    · rw [cmV_kind (by omega) hk hne]
      rw [show cmQ k s1 = (noCom, 3) from if_neg hne] at this
      exact this
  · rw [cmV_long (by omega)]
    exact RReadCommit_long A n c l w h hn
end Go.Proofs.Ytfbfkfdkigpkgaa
