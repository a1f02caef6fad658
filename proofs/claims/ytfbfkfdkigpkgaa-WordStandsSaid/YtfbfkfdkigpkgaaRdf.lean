/- The walks of layer 16: what any bytes are, as a frame. -/
import Derived.Test.YtfbfkfdkigpkgaaOpn
namespace Go.Proofs.Ytfbfkfdkigpkgaa
set_option linter.unusedSimpArgs false
set_option linter.unusedVariables false
open Go.RowKit
attribute [local irreducible] beL beK

theorem results_v_tmp {P : Program} {w : World} {fn : Func} {p q : Tmp} {ty : TypeId} {n t g : Nat} {f : Nat → Value} {fr : Nat × Nat} {v : Value} (h : fn.results = #[.cell p ty, .tmp q]) {tmps : Array Value} (hp : tmps.getD p undef = .pointer (some ⟨g, 0, none⟩)) (hq : tmps.getD q undef = v)
    (hT : RowT P ty n) (hg : w.heap[g]? = some (.cells (arrV n f) t fr)) : (results fn tmps).run P w = .ok (.tuple #[.agg (arrV n f), v]) w := by
  have hp' : tmps[p]?.getD undef = .pointer (some ⟨g, 0, none⟩) := by simpa using hp
  have hq' : tmps[q]?.getD undef = v := by simpa using hq
  have h2 := run_loadVar_arrV hT hg (show 0 + n ≤ n by omega)
  simp only [Nat.zero_add] at h2
  simp [results, h, hp', hq', asAddr, h2]
theorem run_built0 {P : Program} {o : Oper} {a : Act} {w : World} {ty : TypeId} {c : Array Value} (ho : o.op = .build ty #[]) (hb : P.built ty [] = some c) : (execOp a.eval o).run P w = .ok (.value (.agg c)) w := run_op_build (l := []) ho (by simp) hb
theorem run_op_load_v {P : Program} {o : Oper} {a : Act} {w : World} {ty n t g : Nat} {x : Operand} {f : Nat → Value} {fr : Nat × Nat} (ho : o.op = .load ty x) (hT : RowT P ty n) (hx : a.eval x = .pointer (some ⟨g, 0, none⟩)) (hg : w.heap[g]? = some (.cells (arrV n f) t fr)) : (execOp a.eval o).run P w = .ok (.value (.agg (arrV n f))) w := by
  have := run_loadVar_arrV hT hg (show 0 + n ≤ n by omega)
  simp only [Nat.zero_add] at this
  rw [run_op_load ho hx this]
def frF (p : PFr) (A : Option Addr) (c : Nat) (j : Nat) : Value := if j = 0 then .int .u64 (p.ep : Int) else if j = 1 then .int .i64 (p.frm : Int) else if j = 2 then .int .u64 (p.gen : Int) else .slice A p.box.length c
theorem frF_one (p : PFr) (A : Option Addr) (c j : Nat) : (frF p A c j).oneCell' = true := by unfold frF; (repeat' split) <;> rfl
def noFr : PFr := ⟨0, 0, 0, []⟩
theorem RTFr : RowT Try.prog 27 4 := ⟨_, Try.underlying27, rfl, by kernel_rfl⟩
theorem ZVFr : ZeroV Try.prog 27 4 (arrV 4 (frF noFr none 0)) := ⟨by kernel_rfl, by rw [arrV_size]⟩
theorem built_fr : Try.prog.built 27 [] = some (arrV 4 (frF noFr none 0)) := by kernel_rfl
/-- A frame that is handed back, or why not. -/
def FrPost (w : World) (p : PFr × Int) (e : Ending) (w' : World) : Prop :=
  ∃ A c, e = .returned (.tuple #[.agg (arrV 4 (frF p.1 A c)), .int .i64 p.2]) ∧ Own w' w.heap.size 5 (.slice A p.1.box.length c) p.1.box ∧ Below w.heap.size w w'
/-- A frame that was read, or none. -/
def frK (p : PFr × Rs) : PFr × Int := if p.2.ov = false ∧ MayF (p.1.ep : Int) (p.1.frm : Int) (p.1.gen : Int) p.1.box.length then (p.1, 0) else (noFr, 3)
theorem own_setR {w : World} {base g : Nat} {e t : TypeId} {v : Value} {l : List Nat} {c cs : Array Value} {fr : Nat × Nat} (h : Own w base e v l) (hg : w.heap[g]? = some (.cells c t fr)) (hne : e ≠ t) : Own (w.setRow g cs) base e v l := h.setRow (own_ne h hg hne) cs

set_option maxRecDepth 100000 in
set_option maxHeartbeats 2000000 in
theorem ReadFrame_long (A : Option Addr) (n c : Nat) (l : List Nat) (w : World) (h : Src w w.heap.size A n c l) (hn : 1048576 < n) :
    Calls Try.prog 30 #[.slice A n c] w (FrPost w (noFr, 4)) := by
  have hn2 : n ≤ 140737488355328 := h.len
  go_enter Try.func30, Try.ntmps30
  go_upto_region 1 with (refine wpList_alloc_v rfl rfl ZVFr ?_)
  have hq0 := heap_alloc_new w (.cells (arrV 4 (frF noFr none 0)) 27)
  have hb0 : Below w.heap.size w (w.alloc (.cells (arrV 4 (frF noFr none 0)) 27)) := (Below.refl _ _).alloc (Nat.le_refl _) _
  refine wp_cut (fun x => x.heap[w.heap.size]? = some (.cells (arrV 4 (frF noFr none 0)) 27 (0, 0)) ∧ Below w.heap.size w x ∧ Src x w.heap.size A n c l) ⟨hq0, hb0, ⟨hb0.size, h.txt.below hb0, h.cap, h.len, h.byt⟩⟩ ?_
  clear hq0 hb0 h
  rintro w1 ⟨hq, hb, hS⟩
  have hql := lt_of_block hq
  (try simp only [Act.put, List.setIfInBounds_toArray, List.set_cons_zero, List.set_cons_succ])
  go_wp2_with (first | (go_at_call 64; (with_reducible refine (opened_long3 A n c _ hn hn2).mono ?_); rintro e w2 ⟨rfl, rfl⟩) | (refine wpList_val_w rfl (run_built0 rfl built_fr) ?_) | (refine wpList_store_v (f' := frF noFr none 0) rfl rfl RTFr rfl rfl hq (fun i _ => frF_one _ _ _ i) ?_))
  refine bodyPost_ret (results_v_tmp rfl rfl rfl RTFr (row_self hq)) rfl ⟨none, 0, rfl, Own.nil_, row_below hb (by omega) _⟩

set_option maxRecDepth 100000 in
set_option maxHeartbeats 2000000 in
theorem ReadFrame_kind (A : Option Addr) (n c : Nat) (l : List Nat) (w : World) (h : Src w w.heap.size A n c l) (hn : n ≤ 1048576) {k : Nat} {s1 : Rs} (hk : numP 1 ⟨l, false⟩ = (k, s1)) (hne : k ≠ 3) :
    Calls Try.prog 30 #[.slice A n c] w (FrPost w (noFr, 3)) := by
  go_enter Try.func30, Try.ntmps30
  go_upto_region 1 with (refine wpList_alloc_v rfl rfl ZVFr ?_)
  have hq0 := heap_alloc_new w (.cells (arrV 4 (frF noFr none 0)) 27)
  have hb0 : Below w.heap.size w (w.alloc (.cells (arrV 4 (frF noFr none 0)) 27)) := (Below.refl _ _).alloc (Nat.le_refl _) _
  refine wp_cut (fun x => x.heap[w.heap.size]? = some (.cells (arrV 4 (frF noFr none 0)) 27 (0, 0)) ∧ Below w.heap.size w x ∧ Src x w.heap.size A n c l) ⟨hq0, hb0, ⟨hb0.size, h.txt.below hb0, h.cap, h.len, h.byt⟩⟩ ?_
  clear hq0 hb0 h
  rintro w1 ⟨hq, hb, hS⟩
  have hql := lt_of_block hq
  (try simp only [Act.put, List.setIfInBounds_toArray, List.set_cons_zero, List.set_cons_succ])
  go_wp2_with (first | (go_at_call 64; (with_reducible refine (opened_no3 A n c l _ hS hn hk hne).mono ?_); rintro e w2 ⟨rfl, b2⟩; replace hq := keep_below b2 hql hq; replace hb := hb.trans (b2.mono hb.size)) | (refine wpList_val_w rfl (run_built0 rfl built_fr) ?_) | (refine wpList_store_v (f' := frF noFr none 0) rfl rfl RTFr rfl rfl hq (fun i _ => frF_one _ _ _ i) ?_))
  refine bodyPost_ret (results_v_tmp rfl rfl rfl RTFr (row_self hq)) rfl ⟨none, 0, rfl, Own.nil_, row_below hb (by omega) _⟩

set_option maxRecDepth 100000 in
set_option maxHeartbeats 2000000 in
theorem ReadFrame_more (A : Option Addr) (n c : Nat) (l : List Nat) (w : World) (h : Src w w.heap.size A n c l) (hn : n ≤ 1048576) {s1 : Rs} (hk : numP 1 ⟨l, false⟩ = (3, s1)) :
    Calls Try.prog 30 #[.slice A n c] w (FrPost w (frK (frP s1))) := by
  obtain ⟨ep, s2, E1⟩ := pair_of (numP 8 s1)
  obtain ⟨fr, s3, E2⟩ := pair_of (numP 4 s2)
  obtain ⟨ge, s4, E3⟩ := pair_of (numP 8 s3)
  obtain ⟨bx, s5, E4⟩ := pair_of (cutP s4.l.length s4)
  rw [frP_is E1 E2 E3 E4]
  go_enter Try.func30, Try.ntmps30
  go_upto_region 1 with (refine wpList_alloc_v rfl rfl ZVFr ?_)
  have hq0 := heap_alloc_new w (.cells (arrV 4 (frF noFr none 0)) 27)
  have hb0 : Below w.heap.size w (w.alloc (.cells (arrV 4 (frF noFr none 0)) 27)) := (Below.refl _ _).alloc (Nat.le_refl _) _
  refine wp_cut (fun x => x.heap[w.heap.size]? = some (.cells (arrV 4 (frF noFr none 0)) 27 (0, 0)) ∧ Below w.heap.size w x ∧ Src x w.heap.size A n c l) ⟨hq0, hb0, ⟨hb0.size, h.txt.below hb0, h.cap, h.len, h.byt⟩⟩ ?_
  clear hq0 hb0 h
  rintro w1 ⟨hq, hb, hS⟩
  have hql := lt_of_block hq
  (try simp only [Act.put, List.setIfInBounds_toArray, List.set_cons_zero, List.set_cons_succ])
  go_upto_region 2 with (go_at_call 64; (with_reducible refine (opened_yes3 A n c l _ hS hn hk).mono ?_); rintro e w2 ⟨rfl, he, b2⟩)
  replace hq := keep_below b2 hql hq
  replace hb := hb.trans (b2.mono hb.size)
  generalize w1.heap.size = g at *
  clear b2 hS w1
  (try simp only [Act.put, List.setIfInBounds_toArray, List.set_cons_zero, List.set_cons_succ])
  generalize hqw : w.heap.size = q at *
  go_upto_region 4 with (fail)
  go_upto_region 5 with (go_at_call 65; have lt0 := he.lt8 E1; (with_reducible refine (eyeNum8 he E1).mono ?_); rintro e w2 ⟨rfl, he2, hb2⟩; have hq2 := hb2.keep hq (by omega); have c2 := cell_arrV hq2 0 (by omega); have f2 := frozen_of_row w2 q 0 _ _ hq2)
  replace he := he2.setAt (q := q) (by omega) (Nat.le_refl _) 0 (.int .u64 (ep : Int))
  replace hb := (hb.trans (hb2.below (B := q) (by omega) (by have := hb.size; omega))).setCell (p := ⟨q, 0, none⟩) (Nat.le_refl _) (.int .u64 (ep : Int))
  replace hq := set_arrV (i := 0) hq2 (.int .u64 (ep : Int))
  clear hq2 c2 f2 he2 hb2
  generalize w2.setCell ⟨q, 0, none⟩ (.int .u64 (ep : Int)) = w5 at *
  clear w2
  (try simp only [Act.put, List.setIfInBounds_toArray, List.set_cons_zero, List.set_cons_succ])
  go_upto_region 6 with (go_at_call 65; have lt1 := he.lt4 E2; (with_reducible refine (eyeNum4 he E2).mono ?_); rintro e w2 ⟨rfl, he2, hb2⟩; have hq2 := hb2.keep hq (by omega); have c2 := cell_arrV hq2 1 (by omega); have f2 := frozen_of_row w2 q 1 _ _ hq2)
  replace he := he2.setAt (q := q) (by omega) (Nat.le_refl _) 1 (.int .i64 (fr : Int))
  replace hb := (hb.trans (hb2.below (B := q) (by omega) (by have := hb.size; omega))).setCell (p := ⟨q, 1, none⟩) (Nat.le_refl _) (.int .i64 (fr : Int))
  replace hq := set_arrV (i := 1) hq2 (.int .i64 (fr : Int))
  clear hq2 c2 f2 he2 hb2
  generalize w2.setCell ⟨q, 1, none⟩ (.int .i64 (fr : Int)) = w6 at *
  clear w2
  (try simp only [Act.put, List.setIfInBounds_toArray, List.set_cons_zero, List.set_cons_succ])
  go_upto_region 7 with (go_at_call 65; have lt2 := he.lt8 E3; (with_reducible refine (eyeNum8 he E3).mono ?_); rintro e w2 ⟨rfl, he2, hb2⟩; have hq2 := hb2.keep hq (by omega); have c2 := cell_arrV hq2 2 (by omega); have f2 := frozen_of_row w2 q 2 _ _ hq2)
  replace he := he2.setAt (q := q) (by omega) (Nat.le_refl _) 2 (.int .u64 (ge : Int))
  replace hb := (hb.trans (hb2.below (B := q) (by omega) (by have := hb.size; omega))).setCell (p := ⟨q, 2, none⟩) (Nat.le_refl _) (.int .u64 (ge : Int))
  replace hq := set_arrV (i := 2) hq2 (.int .u64 (ge : Int))
  clear hq2 c2 f2 he2 hb2
  generalize w2.setCell ⟨q, 2, none⟩ (.int .u64 (ge : Int)) = w7 at *
  clear w2
  (try simp only [Act.put, List.setIfInBounds_toArray, List.set_cons_zero, List.set_cons_succ])
  obtain ⟨A4, n4, c4, hE⟩ := he
  have cc0 := hE.c0
  have hn4 : s4.l.length = n4 := hE.txt.len
  have hn5 : n4 ≤ 140737488355328 := hE.len
  have he : Eye w7 q g s4 := ⟨_, _, _, hE⟩
  rw [hn4] at E4
  go_upto_region 8 with (go_at_call 76; (with_reducible refine (eyeCutE (by omega) he E4).mono ?_); rintro e w2 ⟨A5, c5, rfl, ho, he2, hb2⟩; have hq2 := hb2.keep hq (by omega); have c3 := cell_arrV hq2 3 (by omega); have f3 := frozen_of_row w2 q 3 _ _ hq2)
  replace he := he2.setAt (q := q) (by omega) (Nat.le_refl _) 3 (.slice A5 bx.length c5)
  replace ho := (ho.mono hb.size).setCell (p := ⟨q, 3, none⟩) (own_ne ho hq2 (by decide)) (.slice A5 bx.length c5)
  replace hb := (hb.trans (hb2.below (B := q) (by omega) (by have := hb.size; omega))).setCell (p := ⟨q, 3, none⟩) (Nat.le_refl _) (.slice A5 bx.length c5)
  replace hq := set_arrV (i := 3) hq2 (.slice A5 bx.length c5)
  rw [show (arrV 4 (upd (upd (upd (upd (frF noFr none 0) 0 (.int .u64 (ep : Int))) 1 (.int .i64 (fr : Int))) 2 (.int .u64 (ge : Int))) 3 (.slice A5 bx.length c5))) = arrV 4 (frF ⟨ep, fr, ge, bx⟩ A5 c5) from rfl] at hq
  clear hq2 c3 f3 he2 hb2 cc0 hE
  generalize w2.setCell ⟨q, 3, none⟩ (.slice A5 bx.length c5) = w8 at *
  (try simp only [Act.put, List.setIfInBounds_toArray, List.set_cons_zero, List.set_cons_succ])
  obtain ⟨A6, n6, c6, hE⟩ := he
  have c1 := hE.c1
  rw [hqw] at ho
  have HO := Lib.hid ho
  cases hov : s5.ov with
  | true =>
    rw [eyeE_yes hov] at c1
    have EK := Lib.hid (show frK (⟨ep, fr, ge, bx⟩, s5) = (noFr, 3) from if_neg (fun h => by rw [hov] at h; cases h.1))
    go_wp2_with (first | (refine wpList_val_w rfl (run_built0 rfl built_fr) ?_) | (refine wpList_store_v (f' := frF noFr none 0) rfl rfl RTFr rfl rfl hq (fun i _ => frF_one _ _ _ i) ?_))
    refine bodyPost_ret (results_v_tmp rfl rfl rfl RTFr (row_self hq)) rfl ?_
    rw [EK.out]
    refine ⟨none, 0, rfl, Own.nil_, ?_⟩
    rw [hqw]
    exact row_below hb (Nat.le_refl _) _
  | false =>
    rw [eyeE_no hov] at c1
    by_cases hm : MayF (ep : Int) (fr : Int) (ge : Int) bx.length
    · have HM := Lib.hid (decide_eq_true hm)
      have EK := Lib.hid (show frK (⟨ep, fr, ge, bx⟩, s5) = (⟨ep, fr, ge, bx⟩, 0) from if_pos ⟨hov, hm⟩)
      clear hm
      go_wp2_with (first | (refine wpList_valg rfl (run_op_load_v rfl RTFr rfl hq) ?_) | (go_at_call 41; (refine (mayFrame_any (ep : Int) (fr : Int) (ge : Int) A5 bx.length c5 _).mono ?_); rintro e w9 ⟨rfl, hb9⟩; rw [HM.out]; have hq9 := keep_below hb9 (lt_of_block hq) hq) | (refine wpList_load_all rfl rfl RTFr rfl hq9 ?_) | (refine wpList_store_v rfl rfl RTFr rfl rfl hq9 (fun i _ => frF_one _ _ _ i) ?_))
      have ho9 := HO.out.below hb9 (fun k hk => (HO.out.lt k hk).2)
      refine bodyPost_ret (results_v_tmp rfl rfl rfl RTFr (row_self hq9)) rfl ?_
      rw [EK.out]
      refine ⟨A5, c5, rfl, ?_, ?_⟩
      · rw [hqw]
        exact own_setR ho9 hq9 (by decide)
      · rw [hqw]
        exact row_below (hb.trans (hb9.mono (by have := hb.size; omega))) (Nat.le_refl _) _
    · have HM := Lib.hid (decide_eq_false hm)
      have EK := Lib.hid (show frK (⟨ep, fr, ge, bx⟩, s5) = (noFr, 3) from if_neg (fun h => hm h.2))
      clear hm
      go_wp2_with (first | (refine wpList_valg rfl (run_op_load_v rfl RTFr rfl hq) ?_) | (go_at_call 41; (refine (mayFrame_any (ep : Int) (fr : Int) (ge : Int) A5 bx.length c5 _).mono ?_); rintro e w9 ⟨rfl, hb9⟩; rw [HM.out]; have hq9 := keep_below hb9 (lt_of_block hq) hq) | (refine wpList_val_w rfl (run_built0 rfl built_fr) ?_) | (refine wpList_store_v (f' := frF noFr none 0) rfl rfl RTFr rfl rfl hq9 (fun i _ => frF_one _ _ _ i) ?_))
      refine bodyPost_ret (results_v_tmp rfl rfl rfl RTFr (row_self hq9)) rfl ?_
      rw [EK.out]
      refine ⟨none, 0, rfl, Own.nil_, ?_⟩
      rw [hqw]
      exact row_below (hb.trans (hb9.mono (by have := hb.size; omega))) (Nat.le_refl _) _
theorem frV_long {l : List Nat} (h : 1048576 < l.length) : frV l = (noFr, 4) := if_pos h
theorem frV_kind {l : List Nat} (h : ¬ 1048576 < l.length) {k : Nat} {s1 : Rs} (hk : numP 1 ⟨l, false⟩ = (k, s1)) (hne : k ≠ 3) : frV l = (noFr, 3) := by
  unfold frV
  rw [if_neg h, hk]
  exact if_pos hne
theorem frV_more {l : List Nat} (h : ¬ 1048576 < l.length) {s1 : Rs} (hk : numP 1 ⟨l, false⟩ = (3, s1)) : frV l = frK (frP s1) := by
  unfold frV
  rw [if_neg h, hk]
  dsimp only
  rw [if_neg (by simp)]
  rfl
theorem ReadFrame_any (A : Option Addr) (n c : Nat) (l : List Nat) (w : World) (h : Src w w.heap.size A n c l) :
    Calls Try.prog 30 #[.slice A n c] w (FrPost w (frV l)) := by
  have hl := h.txt.len
  by_cases hn : 1048576 < n
  · rw [frV_long (by omega)]
    exact ReadFrame_long A n c l w h hn
  · obtain ⟨k, s1, hk⟩ := pair_of (numP 1 ⟨l, false⟩)
    by_cases hne : k = 3
    · subst hne
      rw [frV_more (by omega) hk]
      exact ReadFrame_more A n c l w h (by omega) hk
    · rw [frV_kind (by omega) hk hne]
      exact ReadFrame_kind A n c l w h (by omega) hk hne
end Go.Proofs.Ytfbfkfdkigpkgaa
