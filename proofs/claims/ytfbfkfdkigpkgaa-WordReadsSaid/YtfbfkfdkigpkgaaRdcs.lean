/- The walks of layer 16: what any bytes are, as a commit. The walks of layer 16: what any bytes are, as a commit: its parts. -/
import Derived.Test.YtfbfkfdkigpkgaaOpens
import Derived.Test.YtfbfkfdkigpkgaaChk
import Derived.Test.YtfbfkfdkigpkgaaHcm
namespace Go.Proofs.Ytfbfkfdkigpkgaa
set_option linter.unusedSimpArgs false
set_option linter.unusedVariables false
open Go.RowKit
attribute [local irreducible] beL beK

theorem But.own {B g base sz n : Nat} {w w' : World} {e : TypeId} {v : Value} {xs : List Value} {s : Rs} (h : But g w w') (he : Eye w B g s) (hr : w.ownsRow base e sz v n xs) (hne : e ≠ 102) : w'.ownsRow base e sz v n xs := by
  obtain ⟨_, _, _, k⟩ := he
  exact h.row hr k.row hne
theorem getD_map {α β : Type} (f : α → β) (l : List α) (i : Nat) (z : α) (z' : β) (hz : f z = z') : (l.map f).getD i z' = f (l.getD i z) := by
  rw [List.getD_eq_getElem?_getD, List.getD_eq_getElem?_getD, List.getElem?_map]
  cases l[i]? with
  | none => exact hz.symm
  | some x => rfl
theorem getD_some {α : Type} {l : List α} {i : Nat} {x z : α} (h : l[i]? = some x) : l.getD i z = x := by rw [List.getD_eq_getElem?_getD, h]; rfl
theorem mem_at {α : Type} {l : List α} {i : Nat} {x : α} (h : l[i]? = some x) : x ∈ l := List.mem_of_getElem? h
def zM : StM := ⟨zS, none, 0⟩
def zL : Pl := ⟨[], none, 0⟩
def atOf (PA : Option Addr) (pc : Nat) (SA : Option Addr) (sc : Nat) (ls : List StM) (KA : Option Addr) (kc : Nat) (BA : Option Addr) (bc : Nat) (lb : List Pl) : At :=
  ⟨PA, pc, SA, sc, fun i => (ls.getD i zM).A, fun i => (ls.getD i zM).c, KA, kc, BA, bc, fun i => (lb.getD i zL).A, fun i => (lb.getD i zL).c⟩
theorem own_Els {α : Type} {sz : Nat} {F : α → Nat → Value} {w : World} {base c : Nat} {e : TypeId} {A : Option Addr} {l : List α} (h : w.ownsRow base e sz (.slice A l.length c) l.length (cellsOf sz F l)) (G : Nat → Nat → Value) (hG : ∀ i x, l[i]? = some x → ∀ j, j < sz → G i j = F x j) : Els w w.heap.size A l.length sz G := by
  obtain ⟨A', c', hv, _, he⟩ := own_els h rfl G hG
  injection hv with h1 _ h3
  subst h1
  exact he
theorem com_ok {w : World} {b ep by_ pc sc kc bc : Nat} {PA SA KA BA : Option Addr} {pt tag : Nat → Nat} {lp : List PProp} {ls : List StM} {lk : List (Nat → Nat)} {lb : List Pl}
    (h1 : w.ownsRow b 75 34 (.slice PA lp.length pc) lp.length (cellsOf 34 propF lp)) (h2 : w.ownsRow b 71 3 (.slice SA ls.length sc) ls.length (cellsOf 3 stepF ls)) (h3 : ∀ x ∈ ls, StN w b x) (h4 : w.ownsRow b 37 32 (.slice KA lk.length kc) lk.length (cellsOf 32 keyF lk)) (h5 : w.ownsRow b 22 1 (.slice BA lb.length bc) lb.length (cellsOf 1 plF lb)) (h6 : ∀ x ∈ lb, PlN w b x) :
    ComOk w w.heap.size (comOf ⟨ep, by_, lp, pt, ls.map StM.p, lk, lb.map Pl.l, tag⟩ (atOf PA pc SA sc ls KA kc BA bc lb)) where
  props := own_Els h1 _ fun i x hx j _ => by
    show propV _ _ _ _ = _
    show propV ((lp.getD i zP).kind : Int) ((lp.getD i zP).id : Int) (lp.getD i zP).pt j = _
    rw [getD_some hx]
    rfl
  steps := by
    have := own_Els h2 (fun i => stepV ((((ls.map StM.p).getD i zS).node : Nat) : Int) ((((ls.map StM.p).getD i zS).frm : Int) - 1) (ls.getD i zM).A ((ls.map StM.p).getD i zS).sd.length (ls.getD i zM).c) fun i x hx j _ => by
      rw [getD_map StM.p ls i zM zS rfl, getD_some hx]
      rfl
    rw [show ls.length = (ls.map StM.p).length by simp] at this
    exact this
  sends := fun i hi => by
    have hi' : i < ls.length := by simpa [comOf] using hi
    have hx : ls[i]? = some ls[i] := List.getElem?_eq_getElem hi'
    have h := h3 _ (mem_at hx)
    have := own_Els (F := intF) h (fun j _ => .int .i64 ((ls[i].p.sd.getD j 0 : Nat) : Int)) fun j x hj _ _ => by rw [getD_some hj]; rfl
    show Els w w.heap.size (ls.getD i zM).A ((ls.map StM.p).getD i zS).sd.length 1 fun j _ => .int .i64 ((((ls.map StM.p).getD i zS).sd.getD j 0 : Nat) : Int)
    rw [getD_map StM.p ls i zM zS rfl, getD_some hx]
    exact this
  keys := own_Els h4 _ fun i x hx j _ => by
    show byteV (lk.getD i fun _ => 0) j = _
    rw [getD_some hx]
    rfl
  boxes := by
    have := own_Els h5 (fun i _ => .slice (lb.getD i zL).A ((lb.map Pl.l).getD i []).length (lb.getD i zL).c) fun i x hx j _ => by
      rw [getD_map Pl.l lb i zL [] rfl, getD_some hx]
      rfl
    rw [show lb.length = (lb.map Pl.l).length by simp] at this
    exact this
  texts := fun i hi => by
    have hi' : i < lb.length := by simpa [comOf] using hi
    have hx : lb[i]? = some lb[i] := List.getElem?_eq_getElem hi'
    have h : Own w b 5 (.slice lb[i].A lb[i].l.length lb[i].c) lb[i].l := h6 _ (mem_at hx)
    show Txt w w.heap.size (lb.getD i zL).A ((lb.map Pl.l).getD i []).length (lb.getD i zL).c ((lb.map Pl.l).getD i [])
    rw [getD_map Pl.l lb i zL [] rfl, getD_some hx]
    exact h.text
def noCm (j : Nat) : Value := comV (comOf noCom noAt) noCom.tag j
theorem ZVCm : ZeroV Try.prog 42 70 (arrV 70 noCm) := ⟨by kernel_rfl, by rw [arrV_size]⟩
theorem built_cm : Try.prog.built 42 [] = some (arrV 70 noCm) := by kernel_rfl
theorem noCm_one (j : Nat) : (noCm j).oneCell' = true := comV_one _ _ j
/-- A commit that is handed back, or why not. -/
def CmPost (w : World) (p : PCom × Int) (e : Ending) (w' : World) : Prop :=
  ∃ a : At, e = .returned (.tuple #[.agg (arrV 70 (comV (comOf p.1 a) p.1.tag)), .int .i64 p.2]) ∧ ComOk w' w'.heap.size (comOf p.1 a) ∧ Below w.heap.size w w'
theorem no_ok (w : World) (B : Nat) : ComOk w B (comOf noCom noAt) :=
  ⟨⟨fun h => absurd h (by decide)⟩, ⟨fun h => absurd h (by decide)⟩, fun i hi => absurd hi (by show ¬ i < 0; omega), ⟨fun h => absurd h (by decide)⟩, ⟨fun h => absurd h (by decide)⟩, fun i hi => absurd hi (by show ¬ i < 0; omega)⟩
/-- A commit that was read, or none. -/
def cmK (p : PCom × Rs) : PCom × Int := if p.2.ov = false ∧ p.2.l.length = 0 ∧ OkP p.1 then (p.1, 0) else (noCom, 3)

set_option maxRecDepth 100000 in
set_option maxHeartbeats 4000000 in
theorem ReadCommit_long (A : Option Addr) (n c : Nat) (l : List Nat) (w : World) (h : Src w w.heap.size A n c l) (hn : 1048576 < n) :
    Calls Try.prog 26 #[.slice A n c] w (CmPost w (noCom, 4)) := by
  have hn2 : n ≤ 140737488355328 := h.len
  go_enter Try.func26, Try.ntmps26
  go_upto_region 1 with (refine wpList_alloc_v rfl rfl ZVCm ?_)
  have hq0 := heap_alloc_new w (.cells (arrV 70 noCm) 42)
  have hb0 : Below w.heap.size w (w.alloc (.cells (arrV 70 noCm) 42)) := (Below.refl _ _).alloc (Nat.le_refl _) _
  refine wp_cut (fun x => x.heap[w.heap.size]? = some (.cells (arrV 70 noCm) 42 (0, 0)) ∧ Below w.heap.size w x ∧ Src x w.heap.size A n c l) ⟨hq0, hb0, ⟨hb0.size, h.txt.below hb0, h.cap, h.len, h.byt⟩⟩ ?_
  clear hq0 hb0 h
  rintro w1 ⟨hq, hb, hS⟩
  have hql := lt_of_block hq
  (try simp only [Act.put, List.setIfInBounds_toArray, List.set_cons_zero, List.set_cons_succ])
  go_wp2_with (first | (go_at_call 64; (with_reducible refine (opened_long1 A n c _ hn hn2).mono ?_); rintro e w2 ⟨rfl, rfl⟩) | (refine wpList_val_w rfl (run_built0 rfl built_cm) ?_) | (refine wpList_store_v (f' := noCm) rfl rfl RTCom rfl rfl hq (fun i _ => noCm_one i) ?_))
  refine bodyPost_ret (results_v_tmp rfl rfl rfl RTCom (row_self hq)) rfl ⟨noAt, rfl, no_ok _ _, row_below hb (by omega) _⟩

set_option maxRecDepth 100000 in
set_option maxHeartbeats 4000000 in
theorem ReadCommit_kind (A : Option Addr) (n c : Nat) (l : List Nat) (w : World) (h : Src w w.heap.size A n c l) (hn : n ≤ 1048576) {k : Nat} {s1 : Rs} (hk : numP 1 ⟨l, false⟩ = (k, s1)) (hne : k ≠ 1) :
    Calls Try.prog 26 #[.slice A n c] w (CmPost w (noCom, 3)) := by
  go_enter Try.func26, Try.ntmps26
  go_upto_region 1 with (refine wpList_alloc_v rfl rfl ZVCm ?_)
  have hq0 := heap_alloc_new w (.cells (arrV 70 noCm) 42)
  have hb0 : Below w.heap.size w (w.alloc (.cells (arrV 70 noCm) 42)) := (Below.refl _ _).alloc (Nat.le_refl _) _
  refine wp_cut (fun x => x.heap[w.heap.size]? = some (.cells (arrV 70 noCm) 42 (0, 0)) ∧ Below w.heap.size w x ∧ Src x w.heap.size A n c l) ⟨hq0, hb0, ⟨hb0.size, h.txt.below hb0, h.cap, h.len, h.byt⟩⟩ ?_
  clear hq0 hb0 h
  rintro w1 ⟨hq, hb, hS⟩
  have hql := lt_of_block hq
  (try simp only [Act.put, List.setIfInBounds_toArray, List.set_cons_zero, List.set_cons_succ])
  go_wp2_with (first | (go_at_call 64; (with_reducible refine (opened_no1 A n c l _ hS hn hk hne).mono ?_); rintro e w2 ⟨rfl, b2⟩; replace hq := keep_below b2 hql hq; replace hb := hb.trans (b2.mono hb.size)) | (refine wpList_val_w rfl (run_built0 rfl built_cm) ?_) | (refine wpList_store_v (f' := noCm) rfl rfl RTCom rfl rfl hq (fun i _ => noCm_one i) ?_))
  refine bodyPost_ret (results_v_tmp rfl rfl rfl RTCom (row_self hq)) rfl ⟨noAt, rfl, no_ok _ _, row_below hb (by omega) _⟩
end Go.Proofs.Ytfbfkfdkigpkgaa
namespace Go.Proofs.Ytfbfkfdkigpkgaa
set_option linter.unusedSimpArgs false
set_option linter.unusedVariables false
open Go.RowKit
attribute [local irreducible] beL beK

theorem sendsP_take : ∀ (l : List PStep) (i : Nat) (x : PStep), l[i]? = some x → sendsP (l.take (i + 1)) = sendsP (l.take i) + x.sd.length
  | [], i, x, h => by simp at h
  | y :: l, 0, x, h => by
    obtain rfl : y = x := by simpa using h
    simp [sendsP]
  | y :: l, i + 1, x, h => by
    have ih := sendsP_take l i x (by simpa using h)
    show y.sd.length + sendsP (l.take (i + 1)) = y.sd.length + sendsP (l.take i) + x.sd.length
    omega
theorem sendsP_le : ∀ (l : List PStep) (i : Nat), sendsP (l.take i) ≤ sendsP l
  | [], i => by simp
  | y :: l, 0 => Nat.zero_le _
  | y :: l, i + 1 => by
    have := sendsP_le l i
    show y.sd.length + sendsP (l.take i) ≤ y.sd.length + sendsP l
    omega
theorem sendsP_len : ∀ (l : List PStep), sendsP l ≤ (l.flatMap PStep.L).length
  | [] => Nat.le_refl _
  | y :: l => by
    have ih := sendsP_len l
    have := len_flat (beL 2) y.sd fun x _ => by rw [beL_len]; omega
    rw [List.flatMap_cons, List.length_append]
    show y.sd.length + sendsP l ≤ _
    unfold PStep.L
    simp only [List.length_append]
    unfold PStep.L at ih
    omega
theorem own_after {base sz n : Nat} {w w' : World} {e : TypeId} {v : Value} {xs : List Value} (h : w.ownsRow base e sz v n xs) (hb : Below w.heap.size w w') : w'.ownsRow base e sz v n xs :=
  own_keep h fun b _ _ hb' => hb.block b (lt_of_block hb')
theorem same_row {w : World} {q : Nat} {c : Array Value} {t : TypeId} {fr : Nat × Nat} (h : w.heap[q]? = some (.cells c t fr)) (p : Addr) : (w.setRow q c).cell? p = w.cell? p := by
  have e : (w.setRow q c).heap[p.block]? = w.heap[p.block]? := by
    by_cases hp : p.block = q
    · rw [hp, h]
      exact row_self h
    · exact setRow_other _ _ _ _ hp
  unfold World.cell?
  rw [e]
theorem ComOk.keep {w w' : World} {B : Nat} {c : Com} (h : ComOk w B c) (hk : ∀ p : Addr, p.block < B → w'.cell? p = w.cell? p) : ComOk w' B c :=
  ⟨h.props.keep hk, h.steps.keep hk, fun i hi => (h.sends i hi).keep hk, h.keys.keep hk, h.boxes.keep hk, fun i hi => (h.texts i hi).keep hk⟩
theorem num_left (k : Nat) {s s' : Rs} {v : Nat} (h : numP k s = (v, s')) : s'.l.length ≤ s.l.length := by
  have := (sl_num k).all s
  rw [beL_len, h] at this
  dsimp only at this
  omega
theorem key_left {s s' : Rs} {v : Nat → Nat} (h : keyP s = (v, s')) : s'.l.length ≤ s.l.length := by
  have := sl_key.all s
  rw [keyL_len, h] at this
  dsimp only at this
  omega
theorem props_left {n : Nat} {s s' : Rs} {v : List PProp} (h : itemsP propP n s = (v, s')) : s'.l.length ≤ s.l.length + 37 := by
  have := (sl_items sl_prop n).all s
  rw [h] at this
  dsimp only at this
  omega
theorem steps_left {n : Nat} {s s' : Rs} {v : List PStep} (h : itemsP stepP' n s = (v, s')) : sendsP v ≤ s.l.length + 8 := by
  have := (sl_items sl_step n).all s
  rw [h] at this
  dsimp only at this
  have := sendsP_len v
  omega
theorem itemsPropE {N g B : Nat} {s s' : Rs} {w : World} {v : List PProp} (hN : N < 65536) (h : Eye w B g s) (hE : itemsP propP N s = (v, s')) :
    Calls Try.prog 66 #[.pointer (some ⟨g, 0, none⟩), .int .u64 N, .func (.func 67) #[.pointer (some ⟨g, 0, none⟩)] #[]] w (ItPost 75 34 propF id (fun _ _ _ => True) B g w (v, s')) := by
  have := itemsProp N hN g s w h
  rw [hE] at this
  exact this
theorem itemsKeyE {N g B : Nat} {s s' : Rs} {w : World} {v : List (Nat → Nat)} (hN : N < 65536) (h : Eye w B g s) (hE : itemsP keyP N s = (v, s')) :
    Calls Try.prog 71 #[.pointer (some ⟨g, 0, none⟩), .int .u64 N, .func (.func 68) #[.pointer (some ⟨g, 0, none⟩)] #[]] w (ItPost 37 32 keyF id (fun _ _ _ => True) B g w (v, s')) := by
  have := itemsKey N hN g s w h
  rw [hE] at this
  exact this
theorem itemsStepE {N g B : Nat} {s s' : Rs} {w : World} {v : List PStep} (hN : N < 65536) (h : Eye w B g s) (hE : itemsP stepP' N s = (v, s')) :
    Calls Try.prog 69 #[.pointer (some ⟨g, 0, none⟩), .int .u64 N, .func (.func 70) #[.pointer (some ⟨g, 0, none⟩)] #[]] w (ItPost 71 3 stepF StM.p StN B g w (v, s')) := by
  have := itemsStep N hN g s w h
  rw [hE] at this
  exact this
theorem itemsBoxE {N g B : Nat} {s s' : Rs} {w : World} {v : List (List Nat)} (hN : N < 4398046511104) (h : Eye w B g s) (hE : itemsP boxP N s = (v, s')) :
    Calls Try.prog 72 #[.pointer (some ⟨g, 0, none⟩), .int .u64 N, .func (.func 73) #[.pointer (some ⟨g, 0, none⟩)] #[]] w (ItPost 22 1 plF Pl.l PlN B g w (v, s')) := by
  have := itemsBox N hN g s w h
  rw [hE] at this
  exact this
set_option maxRecDepth 100000 in
set_option maxHeartbeats 4000000 in
theorem ReadCommit_more (A : Option Addr) (n c : Nat) (l : List Nat) (w : World) (h : Src w w.heap.size A n c l) (hn : n ≤ 1048576) {s1 : Rs} (hk : numP 1 ⟨l, false⟩ = (1, s1)) :
    Calls Try.prog 26 #[.slice A n c] w (CmPost w (cmK (comP s1))) := by
  have hL1 := (sl_num 1).ok ⟨l, false⟩ (by rw [hk]; exact numP_ne (by decide) hk)
  rw [beL_len, hk] at hL1
  dsimp only at hL1
  have hLn : l.length = n := h.txt.len
  have hcm := sl_com.ok s1
  obtain ⟨ep, s2, E1⟩ := pair_of (numP 8 s1)
  obtain ⟨by_, s3, E2⟩ := pair_of (numP 4 s2)
  obtain ⟨pn, s4, E3⟩ := pair_of (numP 2 s3)
  obtain ⟨props, s5, E4⟩ := pair_of (itemsP propP pn s4)
  obtain ⟨pt, s6, E5⟩ := pair_of (keyP s5)
  obtain ⟨sn, s7, E6⟩ := pair_of (numP 2 s6)
  obtain ⟨steps, s8, E7⟩ := pair_of (itemsP stepP' sn s7)
  obtain ⟨new, s9, E8⟩ := pair_of (itemsP keyP steps.length s8)
  obtain ⟨boxes, s10, E9⟩ := pair_of (itemsP boxP (sendsP steps) s9)
  obtain ⟨tag, s11, E10⟩ := pair_of (keyP s10)
  rw [comP_is E1 E2 E3 E4 E5 E6 E7 E8 E9 E10] at hcm ⊢
  have hsend : sendsP steps ≤ 1048700 := by
    have a1 := num_left 8 E1
    have a2 := num_left 4 E2
    have a3 := num_left 2 E3
    have a4 := props_left E4
    have a5 := key_left E5
    have a6 := num_left 2 E6
    have a7 := steps_left E7
    omega
  have hsl : steps.length ≤ sn := by
    have := items_len stepP' sn s7
    rw [E7] at this
    exact this
  have HC := Lib.hid (fun h0 => Nat.le_trans (Nat.le_add_right _ _) (Nat.le_trans (hcm h0) (show s1.l.length ≤ 1048575 by omega)))
  dsimp only at HC
  clear hcm hL1 hLn
  go_enter Try.func26, Try.ntmps26
  go_upto_region 1 with (refine wpList_alloc_v rfl rfl ZVCm ?_)
  have hq0 := heap_alloc_new w (.cells (arrV 70 noCm) 42)
  have hb0 : Below w.heap.size w (w.alloc (.cells (arrV 70 noCm) 42)) := (Below.refl _ _).alloc (Nat.le_refl _) _
  refine wp_cut (fun x => x.heap[w.heap.size]? = some (.cells (arrV 70 noCm) 42 (0, 0)) ∧ Below w.heap.size w x ∧ Src x w.heap.size A n c l) ⟨hq0, hb0, ⟨hb0.size, h.txt.below hb0, h.cap, h.len, h.byt⟩⟩ ?_
  clear hq0 hb0 h
  rintro w1 ⟨hq, hb, hS⟩
  have hql := lt_of_block hq
  (try simp only [Act.put, List.setIfInBounds_toArray, List.set_cons_zero, List.set_cons_succ])
  go_upto_region 2 with (go_at_call 64; (with_reducible refine (opened_yes1 A n c l _ hS hn hk).mono ?_); rintro e w2 ⟨rfl, he, b2⟩)
  replace hq := keep_below b2 hql hq
  replace hb := hb.trans (b2.mono hb.size)
  generalize w1.heap.size = g at *
  clear b2 hS w1
  (try simp only [Act.put, List.setIfInBounds_toArray, List.set_cons_zero, List.set_cons_succ])
  generalize hqw : w.heap.size = q at *
  go_upto_region 4 with (fail)
  go_upto_region 5 with (go_at_call 65; have lt0 := he.lt8 E1; (with_reducible refine (eyeNum8 he E1).mono ?_); rintro e w2 ⟨rfl, he2, hb2⟩; have hq2 := hb2.keep hq (by omega); have c2 := cell_arrV hq2 0 (by omega); have f2 := frozen_of_row w2 q 0 _ _ hq2)
  replace he := he2.setAt (q := q) (by omega) (Nat.le_refl _) 0 (.int .u64 (ep : Int))
  replace hb := (hb.trans (hb2.below (B := q) (by omega) (by have := hb.size; omega))).setCell (p := ⟨q, 0, none⟩) (Nat.le_refl _) (.int .u64 (ep : Int))
  replace hq := set_arrV (i := 0) hq2 (.int .u64 (ep : Int))
  clear hq2 c2 f2 he2 hb2
  generalize w2.setCell ⟨q, 0, none⟩ (.int .u64 (ep : Int)) = w5 at *
  clear w2
  (try simp only [Act.put, List.setIfInBounds_toArray, List.set_cons_zero, List.set_cons_succ])
  go_upto_region 6 with (go_at_call 65; have lt1 := he.lt4 E2; (with_reducible refine (eyeNum4 he E2).mono ?_); rintro e w2 ⟨rfl, he2, hb2⟩; have hq2 := hb2.keep hq (by omega); have c2 := cell_arrV hq2 1 (by omega); have f2 := frozen_of_row w2 q 1 _ _ hq2)
  replace he := he2.setAt (q := q) (by omega) (Nat.le_refl _) 1 (.int .i64 (by_ : Int))
  replace hb := (hb.trans (hb2.below (B := q) (by omega) (by have := hb.size; omega))).setCell (p := ⟨q, 1, none⟩) (Nat.le_refl _) (.int .i64 (by_ : Int))
  replace hq := set_arrV (i := 1) hq2 (.int .i64 (by_ : Int))
  clear hq2 c2 f2 he2 hb2
  generalize w2.setCell ⟨q, 1, none⟩ (.int .i64 (by_ : Int)) = w6 at *
  clear w2
  (try simp only [Act.put, List.setIfInBounds_toArray, List.set_cons_zero, List.set_cons_succ])
  go_upto_region 7 with (go_at_call 65; have ltP := he.lt2 E3; (with_reducible refine (eyeNum2 he E3).mono ?_); rintro e w2 ⟨rfl, he2, hb2⟩; have hq2 := hb2.keep hq (by omega))
  replace he := he2
  replace hb := hb.trans (hb2.below (B := q) (by omega) (by have := hb.size; omega))
  replace hq := hq2
  clear hq2 he2 hb2
  generalize w2 = w7 at *
  (try simp only [Act.put, List.setIfInBounds_toArray, List.set_cons_zero, List.set_cons_succ])
  go_upto_region 8 with (go_at_call 66; (with_reducible refine (itemsPropE ltP he E4).mono ?_); rintro e w2 ⟨PA, pc, lp, rfl, hm, r1, n_, he2, hb2⟩; have hq2 := hb2.keep hq (by omega); have c2 := cell_arrV hq2 2 (by omega); have f2 := frozen_of_row w2 q 2 _ _ hq2)
  replace he2 : Eye w2 q g s5 := he2
  have hw2 := hb.size
  replace r1 := own_mono (base' := q) r1 (by omega)
  clear n_
  clear hw2
  replace hm : lp.map id = props := hm
  rw [List.map_id] at hm
  subst hm
  replace r1 := own_set (i := 2) (u := .slice PA lp.length pc) r1 hq2 (by decide)
  replace he := he2.setAt (q := q) (by omega) (Nat.le_refl _) 2 (.slice PA lp.length pc)
  replace hb := (hb.trans (hb2.below (B := q) (by omega) (by have := hb.size; omega))).setCell (p := ⟨q, 2, none⟩) (Nat.le_refl _) (.slice PA lp.length pc)
  replace hq := set_arrV (i := 2) hq2 (.slice PA lp.length pc)
  clear hq2 c2 f2 he2 hb2
  generalize w2.setCell ⟨q, 2, none⟩ (.slice PA lp.length pc) = w8 at *
  clear w2
  (try simp only [Act.put, List.setIfInBounds_toArray, List.set_cons_zero, List.set_cons_succ])
  go_upto_region 9 with (first | (go_at_call 68; (with_reducible refine (eyeKeyE he E5).mono ?_); rintro e w2 ⟨rfl, he2, hb2⟩; have hq2 := hb2.keep hq (by omega)) | (refine wpList_store_part (f' := fun i => ((pt i : Nat) : Int)) rfl rfl RTKey rfl rfl hq2 (by omega) ?_))
  replace r1 := But.own hb2 he r1 (by decide)
  replace r1 := own_setRow (cs := (arrV 70 (patch (upd (upd (upd noCm 0 (.int .u64 (ep : Int))) 1 (.int .i64 (by_ : Int))) 2 (.slice PA lp.length pc)) 3 32 fun i => .int .u8 ((pt i : Nat) : Int)))) r1 hq2 (by decide)
  replace he := he2.butAt (But.row1 (q := q) (arrV 70 (patch (upd (upd (upd noCm 0 (.int .u64 (ep : Int))) 1 (.int .i64 (by_ : Int))) 2 (.slice PA lp.length pc)) 3 32 fun i => .int .u8 ((pt i : Nat) : Int)))) (by omega) (Nat.le_refl _)
  replace hb := row_below (hb.trans (hb2.below (B := q) (by omega) (by have := hb.size; omega))) (Nat.le_refl _) (arrV 70 (patch (upd (upd (upd noCm 0 (.int .u64 (ep : Int))) 1 (.int .i64 (by_ : Int))) 2 (.slice PA lp.length pc)) 3 32 fun i => .int .u8 ((pt i : Nat) : Int)))
  replace hq := row_self (c' := arrV 70 (patch (upd (upd (upd noCm 0 (.int .u64 (ep : Int))) 1 (.int .i64 (by_ : Int))) 2 (.slice PA lp.length pc)) 3 32 fun i => .int .u8 ((pt i : Nat) : Int))) hq2
  clear hq2 he2 hb2
  generalize w2.setRow q (arrV 70 (patch (upd (upd (upd noCm 0 (.int .u64 (ep : Int))) 1 (.int .i64 (by_ : Int))) 2 (.slice PA lp.length pc)) 3 32 fun i => .int .u8 ((pt i : Nat) : Int))) = w9 at *
  clear w2
  (try simp only [Act.put, List.setIfInBounds_toArray, List.set_cons_zero, List.set_cons_succ])
  go_upto_region 10 with (go_at_call 65; have ltS := he.lt2 E6; (with_reducible refine (eyeNum2 he E6).mono ?_); rintro e w2 ⟨rfl, he2, hb2⟩; have hq2 := hb2.keep hq (by omega))
  replace r1 := But.own hb2 he r1 (by decide)
  replace he := he2
  replace hb := hb.trans (hb2.below (B := q) (by omega) (by have := hb.size; omega))
  replace hq := hq2
  clear hq2 he2 hb2
  generalize w2 = w10 at *
  (try simp only [Act.put, List.setIfInBounds_toArray, List.set_cons_zero, List.set_cons_succ])
  go_upto_region 11 with (go_at_call 69; (with_reducible refine (itemsStepE ltS he E7).mono ?_); rintro e w2 ⟨SA, sc, ls, rfl, hm, r2, n2, he2, hb2⟩; have hq2 := hb2.keep hq (by omega); have c2 := cell_arrV hq2 35 (by omega); have f2 := frozen_of_row w2 q 35 _ _ hq2)
  replace he2 : Eye w2 q g s8 := he2
  replace r1 := But.own hb2 he r1 (by decide)
  have hw2 := hb.size
  replace r2 := own_mono (base' := q) r2 (by omega)
  replace n2 := fun x hx => own_mono (base' := q) (n2 x hx) (by omega)
  clear hw2
  replace hm : ls.map StM.p = steps := hm
  subst hm
  rw [List.length_map] at E8 hsl
  replace r1 := own_set (i := 35) (u := .slice SA ls.length sc) r1 hq2 (by decide)
  replace r2 := own_set (i := 35) (u := .slice SA ls.length sc) r2 hq2 (by decide)
  replace n2 := fun x hx => own_set (i := 35) (u := .slice SA ls.length sc) (n2 x hx) hq2 (by decide)
  replace he := he2.setAt (q := q) (by omega) (Nat.le_refl _) 35 (.slice SA ls.length sc)
  replace hb := (hb.trans (hb2.below (B := q) (by omega) (by have := hb.size; omega))).setCell (p := ⟨q, 35, none⟩) (Nat.le_refl _) (.slice SA ls.length sc)
  replace hq := set_arrV (i := 35) hq2 (.slice SA ls.length sc)
  clear hq2 c2 f2 he2 hb2
  generalize w2.setCell ⟨q, 35, none⟩ (.slice SA ls.length sc) = w11 at *
  clear w2
  (try simp only [Act.put, List.setIfInBounds_toArray, List.set_cons_zero, List.set_cons_succ])
  have c35 : w11.cell? ⟨q, 35, none⟩ = some (.slice SA ls.length sc) := cell_arrV hq 35 (by omega)
  have hls : ls.length < 65536 := by omega
  go_upto_region 12 with (go_at_call 71; (with_reducible refine (itemsKeyE hls he E8).mono ?_); rintro e w2 ⟨KA, kc, lk, rfl, hm, r3, n_, he2, hb2⟩; have hq2 := hb2.keep hq (by omega); have c2 := cell_arrV hq2 36 (by omega); have f2 := frozen_of_row w2 q 36 _ _ hq2)
  replace he2 : Eye w2 q g s9 := he2
  replace r1 := But.own hb2 he r1 (by decide)
  replace r2 := But.own hb2 he r2 (by decide)
  replace n2 := fun x hx => StN.but (n2 x hx) hb2 he
  have hw2 := hb.size
  replace r3 := own_mono (base' := q) r3 (by omega)
  clear n_
  clear hw2
  replace hm : lk.map id = new := hm
  rw [List.map_id] at hm
  subst hm
  replace r1 := own_set (i := 36) (u := .slice KA lk.length kc) r1 hq2 (by decide)
  replace r2 := own_set (i := 36) (u := .slice KA lk.length kc) r2 hq2 (by decide)
  replace n2 := fun x hx => own_set (i := 36) (u := .slice KA lk.length kc) (n2 x hx) hq2 (by decide)
  replace r3 := own_set (i := 36) (u := .slice KA lk.length kc) r3 hq2 (by decide)
  replace he := he2.setAt (q := q) (by omega) (Nat.le_refl _) 36 (.slice KA lk.length kc)
  replace hb := (hb.trans (hb2.below (B := q) (by omega) (by have := hb.size; omega))).setCell (p := ⟨q, 36, none⟩) (Nat.le_refl _) (.slice KA lk.length kc)
  replace hq := set_arrV (i := 36) hq2 (.slice KA lk.length kc)
  clear hq2 c2 f2 he2 hb2
  generalize w2.setCell ⟨q, 36, none⟩ (.slice KA lk.length kc) = w12 at *
  clear w2
  (try simp only [Act.put, List.setIfInBounds_toArray, List.set_cons_zero, List.set_cons_succ])
  clear c35
  have c35 : w12.cell? ⟨q, 35, none⟩ = some (.slice SA ls.length sc) := cell_arrV hq 35 (by omega)
  have hels := own_Els r2 (fun i => stepF (ls.getD i zM)) fun i x hx j _ => by rw [getD_some hx]
  clear E1 E2 E3 E4 E5 E6 E7 E8
  go_wp2
  go_loopg [7, 57] ls.length (fun r s x wr => ∃ i : Nat, i + r = ls.length ∧ x = .int .i64 i ∧ s = .int .i64 (sendsP ((ls.map StM.p).take i) : Nat) ∧ Below w12.heap.size w12 wr)
  case atStart => exact ⟨0, by omega, rfl, rfl, Below.refl _ _⟩
  case round =>
    obtain ⟨i, hi, rfl, hsv, hbl⟩ := hrel
    by_cases hlt : i < ls.length
    · have hx : ls[i]? = some ls[i] := List.getElem?_eq_getElem hlt
      have hs1 := sendsP_take (ls.map StM.p) i ls[i].p (by rw [List.getElem?_map, hx]; rfl)
      have hs2 := sendsP_le (ls.map StM.p) (i + 1)
      subst hsv
      obtain ⟨S2, hS2⟩ : ∃ S2, S2 = sendsP ((ls.map StM.p).take (i + 1)) := ⟨_, rfl⟩
      rw [← hS2] at hs1 hs2
      have HS2 := Lib.hid hS2
      clear hS2
      generalize sendsP ((ls.map StM.p).take i) = S1 at *
      obtain ⟨ad, hA, hab, hc⟩ := (hels.below hbl).cell hlt
      have hlen : (ls.getD i zM).p.sd.length = ls[i].p.sd.length := by rw [getD_some hx]
      rw [← hlen] at hs1
      generalize ls.getD i zM = y at *
      have HA := Lib.hid hA
      have HI := Lib.hid hi
      clear hA hi hx hlen hq he hb r1 r2 n2 r3 hels
      go_wp2_with (first | (refine wpList_elA HA.out rfl rfl Try.underlying38 (sz := 3) (by kernel_rfl) rfl rfl hlt ?_) | (refine wpList_load_at (n := 3) rfl rfl RTStep rfl hc ?_) | (refine wpList_newV rfl rfl rfl rfl ZVStep RTStep rfl rfl (fun _ _ => stepF_one _ _) ?_; intro w2 g2 b2 hs2; have d2 := cell_arrV g2 2 (by omega); replace d2 : _ = some (Value.slice y.A y.p.sd.length y.c) := d2))
      go_roundg (gk - 1)
      case measure => have := HI.out; omega
      case rel =>
        have hI := HI.out
        refine ⟨i + 1, by omega, by go_num, ?_, hbl.trans (b2.mono hbl.size)⟩
        rw [← HS2.out, hs1]
        go_num
    · obtain rfl : i = ls.length := by omega
      rw [List.take_of_length_le (by simp)] at hsv
      subst hsv
      clear hlt hi hels c35
      replace hq := keep_below hbl (lt_of_block hq) hq
      replace he := he.after hbl
      replace hb := hb.trans (hbl.mono (by have := hb.size; omega))
      replace r1 := own_after r1 hbl
      replace r2 := own_after r2 hbl
      replace r3 := own_after r3 hbl
      replace n2 := fun x hx => own_after (n2 x hx) hbl
      clear hbl
      generalize hSD : sendsP (ls.map StM.p) = SD at *
      have hSD2 : SD < 4398046511104 := by omega
      clear hSD
      go_upto_region 19 with (go_at_call 72; (with_reducible refine (itemsBoxE hSD2 he E9).mono ?_); rintro e w2 ⟨BA, bc, lb, rfl, hm, r4, n4, he2, hb2⟩; have hq2 := hb2.keep hq (by omega); have c2 := cell_arrV hq2 37 (by omega); have f2 := frozen_of_row w2 q 37 _ _ hq2)
      replace he2 : Eye w2 q g s10 := he2
      replace r1 := But.own hb2 he r1 (by decide)
      replace r2 := But.own hb2 he r2 (by decide)
      replace n2 := fun x hx => StN.but (n2 x hx) hb2 he
      replace r3 := But.own hb2 he r3 (by decide)
      have hw2 := hb.size
      replace r4 := own_mono (base' := q) r4 (by omega)
      replace n4 := fun x hx => own_mono (base' := q) (n4 x hx) (by omega)
      clear hw2
      replace hm : lb.map Pl.l = boxes := hm
      subst hm
      replace r1 := own_set (i := 37) (u := .slice BA lb.length bc) r1 hq2 (by decide)
      replace r2 := own_set (i := 37) (u := .slice BA lb.length bc) r2 hq2 (by decide)
      replace n2 := fun x hx => own_set (i := 37) (u := .slice BA lb.length bc) (n2 x hx) hq2 (by decide)
      replace r3 := own_set (i := 37) (u := .slice BA lb.length bc) r3 hq2 (by decide)
      replace r4 := own_set (i := 37) (u := .slice BA lb.length bc) r4 hq2 (by decide)
      replace n4 := fun x hx => own_set (i := 37) (u := .slice BA lb.length bc) (n4 x hx) hq2 (by decide)
      replace he := he2.setAt (q := q) (by omega) (Nat.le_refl _) 37 (.slice BA lb.length bc)
      replace hb := (hb.trans (hb2.below (B := q) (by omega) (by have := hb.size; omega))).setCell (p := ⟨q, 37, none⟩) (Nat.le_refl _) (.slice BA lb.length bc)
      replace hq := set_arrV (i := 37) hq2 (.slice BA lb.length bc)
      clear hq2 c2 f2 he2 hb2
      generalize w2.setCell ⟨q, 37, none⟩ (.slice BA lb.length bc) = w14 at *
      clear w2
      (try simp only [Act.put, List.setIfInBounds_toArray, List.set_cons_zero, List.set_cons_succ])
      go_upto_region 20 with (first | (go_at_call 68; (with_reducible refine (eyeKeyE he E10).mono ?_); rintro e w2 ⟨rfl, he2, hb2⟩; have hq2 := hb2.keep hq (by omega)) | (refine wpList_store_part (f' := fun i => ((tag i : Nat) : Int)) rfl rfl RTKey rfl rfl hq2 (by omega) ?_))
      replace r1 := But.own hb2 he r1 (by decide)
      replace r2 := But.own hb2 he r2 (by decide)
      replace n2 := fun x hx => StN.but (n2 x hx) hb2 he
      replace r3 := But.own hb2 he r3 (by decide)
      replace r4 := But.own hb2 he r4 (by decide)
      replace n4 := fun x hx => PlN.but (n4 x hx) hb2 he
      replace r1 := own_setRow (cs := (arrV 70 (patch (upd (upd (upd (patch (upd (upd (upd noCm 0 (.int .u64 (ep : Int))) 1 (.int .i64 (by_ : Int))) 2 (.slice PA lp.length pc)) 3 32 fun i => .int .u8 ((pt i : Nat) : Int)) 35 (.slice SA ls.length sc)) 36 (.slice KA lk.length kc)) 37 (.slice BA lb.length bc)) 38 32 fun i => .int .u8 ((tag i : Nat) : Int)))) r1 hq2 (by decide)
      replace r2 := own_setRow (cs := (arrV 70 (patch (upd (upd (upd (patch (upd (upd (upd noCm 0 (.int .u64 (ep : Int))) 1 (.int .i64 (by_ : Int))) 2 (.slice PA lp.length pc)) 3 32 fun i => .int .u8 ((pt i : Nat) : Int)) 35 (.slice SA ls.length sc)) 36 (.slice KA lk.length kc)) 37 (.slice BA lb.length bc)) 38 32 fun i => .int .u8 ((tag i : Nat) : Int)))) r2 hq2 (by decide)
      replace n2 := fun x hx => own_setRow (cs := (arrV 70 (patch (upd (upd (upd (patch (upd (upd (upd noCm 0 (.int .u64 (ep : Int))) 1 (.int .i64 (by_ : Int))) 2 (.slice PA lp.length pc)) 3 32 fun i => .int .u8 ((pt i : Nat) : Int)) 35 (.slice SA ls.length sc)) 36 (.slice KA lk.length kc)) 37 (.slice BA lb.length bc)) 38 32 fun i => .int .u8 ((tag i : Nat) : Int)))) (n2 x hx) hq2 (by decide)
      replace r3 := own_setRow (cs := (arrV 70 (patch (upd (upd (upd (patch (upd (upd (upd noCm 0 (.int .u64 (ep : Int))) 1 (.int .i64 (by_ : Int))) 2 (.slice PA lp.length pc)) 3 32 fun i => .int .u8 ((pt i : Nat) : Int)) 35 (.slice SA ls.length sc)) 36 (.slice KA lk.length kc)) 37 (.slice BA lb.length bc)) 38 32 fun i => .int .u8 ((tag i : Nat) : Int)))) r3 hq2 (by decide)
      replace r4 := own_setRow (cs := (arrV 70 (patch (upd (upd (upd (patch (upd (upd (upd noCm 0 (.int .u64 (ep : Int))) 1 (.int .i64 (by_ : Int))) 2 (.slice PA lp.length pc)) 3 32 fun i => .int .u8 ((pt i : Nat) : Int)) 35 (.slice SA ls.length sc)) 36 (.slice KA lk.length kc)) 37 (.slice BA lb.length bc)) 38 32 fun i => .int .u8 ((tag i : Nat) : Int)))) r4 hq2 (by decide)
      replace n4 := fun x hx => own_setRow (cs := (arrV 70 (patch (upd (upd (upd (patch (upd (upd (upd noCm 0 (.int .u64 (ep : Int))) 1 (.int .i64 (by_ : Int))) 2 (.slice PA lp.length pc)) 3 32 fun i => .int .u8 ((pt i : Nat) : Int)) 35 (.slice SA ls.length sc)) 36 (.slice KA lk.length kc)) 37 (.slice BA lb.length bc)) 38 32 fun i => .int .u8 ((tag i : Nat) : Int)))) (n4 x hx) hq2 (by decide)
      replace he := he2.butAt (But.row1 (q := q) (arrV 70 (patch (upd (upd (upd (patch (upd (upd (upd noCm 0 (.int .u64 (ep : Int))) 1 (.int .i64 (by_ : Int))) 2 (.slice PA lp.length pc)) 3 32 fun i => .int .u8 ((pt i : Nat) : Int)) 35 (.slice SA ls.length sc)) 36 (.slice KA lk.length kc)) 37 (.slice BA lb.length bc)) 38 32 fun i => .int .u8 ((tag i : Nat) : Int)))) (by omega) (Nat.le_refl _)
      replace hb := row_below (hb.trans (hb2.below (B := q) (by omega) (by have := hb.size; omega))) (Nat.le_refl _) (arrV 70 (patch (upd (upd (upd (patch (upd (upd (upd noCm 0 (.int .u64 (ep : Int))) 1 (.int .i64 (by_ : Int))) 2 (.slice PA lp.length pc)) 3 32 fun i => .int .u8 ((pt i : Nat) : Int)) 35 (.slice SA ls.length sc)) 36 (.slice KA lk.length kc)) 37 (.slice BA lb.length bc)) 38 32 fun i => .int .u8 ((tag i : Nat) : Int)))
      replace hq := row_self (c' := arrV 70 (patch (upd (upd (upd (patch (upd (upd (upd noCm 0 (.int .u64 (ep : Int))) 1 (.int .i64 (by_ : Int))) 2 (.slice PA lp.length pc)) 3 32 fun i => .int .u8 ((pt i : Nat) : Int)) 35 (.slice SA ls.length sc)) 36 (.slice KA lk.length kc)) 37 (.slice BA lb.length bc)) 38 32 fun i => .int .u8 ((tag i : Nat) : Int))) hq2
      clear hq2 he2 hb2
      generalize w2.setRow q (arrV 70 (patch (upd (upd (upd (patch (upd (upd (upd noCm 0 (.int .u64 (ep : Int))) 1 (.int .i64 (by_ : Int))) 2 (.slice PA lp.length pc)) 3 32 fun i => .int .u8 ((pt i : Nat) : Int)) 35 (.slice SA ls.length sc)) 36 (.slice KA lk.length kc)) 37 (.slice BA lb.length bc)) 38 32 fun i => .int .u8 ((tag i : Nat) : Int))) = w15 at *
      clear w2
      (try simp only [Act.put, List.setIfInBounds_toArray, List.set_cons_zero, List.set_cons_succ])
      clear E9 E10
      have hok := com_ok (ep := ep) (by_ := by_) (pt := pt) (tag := tag) r1 r2 n2 r3 r4 n4
      replace hq : w15.heap[q]? = some (.cells (arrV 70 (comV (comOf ⟨ep, by_, lp, pt, ls.map StM.p, lk, lb.map Pl.l, tag⟩ (atOf PA pc SA sc ls KA kc BA bc lb)) tag)) 42 (0, 0)) := hq.trans (congrArg (fun x => some (Obj.cells x 42 (0, 0))) ((show _ = arrV 70 (fun j => if j = 35 then .slice SA ls.length sc else if j = 37 then .slice BA lb.length bc else comV (comOf ⟨ep, by_, lp, pt, ls.map StM.p, lk, lb.map Pl.l, tag⟩ (atOf PA pc SA sc ls KA kc BA bc lb)) tag j) by kernel_rfl).trans (arrV_ext fun j _ => by
        by_cases h5 : j = 35
        · rw [if_pos h5, h5]
          show _ = Value.slice SA (ls.map StM.p).length sc
          rw [List.length_map]
        · rw [if_neg h5]
          by_cases h7 : j = 37
          · rw [if_pos h7, h7]
            show _ = Value.slice BA (lb.map Pl.l).length bc
            rw [List.length_map]
          · rw [if_neg h7])))
      clear r1 r2 n2 r3 r4 n4
      obtain ⟨p, hp⟩ : ∃ p : PCom, p = ⟨ep, by_, lp, pt, ls.map StM.p, lk, lb.map Pl.l, tag⟩ := ⟨_, rfl⟩
      obtain ⟨a, ha⟩ : ∃ a, a = (atOf PA pc SA sc ls KA kc BA bc lb) := ⟨_, rfl⟩
      rw [← hp] at hok hq HC
      have HP := Lib.hid hp
      rw [← ha] at hok hq
      have htg : tag = p.tag := by rw [hp]
      rw [htg] at hq
      clear hp ha htg
      obtain ⟨A6, n6, c6, hE⟩ := he
      have c0 := hE.c0
      have c1 := hE.c1
      have hn6 : s11.l.length = n6 := hE.txt.len
      cases hov : s11.ov with
      | true =>
        rw [eyeE_yes hov] at c1
        have EK := Lib.hid (show cmK (p, s11) = (noCom, 3) from if_neg (fun h => by rw [hov] at h; cases h.1))
        go_wp2_with (first | (refine wpList_val_w rfl (run_built0 rfl built_cm) ?_) | (refine wpList_store_v (f' := noCm) rfl rfl RTCom rfl rfl hq (fun i _ => noCm_one i) ?_))
        refine bodyPost_ret (results_v_tmp rfl rfl rfl RTCom (row_self hq)) rfl ?_
        rw [← HP.out, EK.out]
        refine ⟨noAt, rfl, no_ok _ _, ?_⟩
        rw [hqw]
        exact row_below hb (Nat.le_refl _) _
      | false =>
        rw [eyeE_no hov] at c1
        by_cases h0 : 0 < n6
        · have EK := Lib.hid (show cmK (p, s11) = (noCom, 3) from if_neg (fun h => by have h1 : s11.l.length = 0 := h.2.1; omega))
          go_wp2_with (first | (refine wpList_val_w rfl (run_built0 rfl built_cm) ?_) | (refine wpList_store_v (f' := noCm) rfl rfl RTCom rfl rfl hq (fun i _ => noCm_one i) ?_))
          refine bodyPost_ret (results_v_tmp rfl rfl rfl RTCom (row_self hq)) rfl ?_
          rw [← HP.out, EK.out]
          refine ⟨noAt, rfl, no_ok _ _, ?_⟩
          rw [hqw]
          exact row_below hb (Nat.le_refl _) _
        · have hmid := mid_of p a (HC.out hov)
          by_cases hm : OkP p
          · have HM := Lib.hid (chk_yes ((ok_at p a).2 hm))
            have EK := Lib.hid (show cmK (p, s11) = (p, 0) from if_pos ⟨hov, by show s11.l.length = 0; omega, hm⟩)
            clear hm
            have HO := Lib.hid hok
            have HMid := Lib.hid hmid
            clear hok hmid
            go_wp2_with (first | (refine wpList_valg rfl (run_op_load_v rfl RTCom rfl hq) ?_) | (go_at_call 22; (refine (CheckCommit_any (comOf p a) p.tag _ _ HO.out (Nat.le_refl _) HMid.out).mono ?_); rintro e w9 ⟨rfl, hb9⟩; rw [HM.out]; have hq9 := keep_below hb9 (lt_of_block hq) hq) | (refine wpList_load_all rfl rfl RTCom rfl hq9 ?_) | (refine wpList_store_v rfl rfl RTCom rfl rfl hq9 (fun i _ => comV_one _ _ i) ?_))
            refine bodyPost_ret (results_v_tmp rfl rfl rfl RTCom (row_self hq9)) rfl ?_
            rw [← HP.out, EK.out]
            refine ⟨a, rfl, ?_, ?_⟩
            · exact (HO.out.keep (w' := w9.setRow q (arrV 70 (comV (comOf p a) p.tag))) fun z hz => (same_row hq9 z).trans (hb9.cell hz)).more (by have := hb9.size; simpa using this)
            · rw [hqw]
              exact row_below (hb.trans (hb9.mono (by have := hb.size; omega))) (Nat.le_refl _) _
          · have HM := Lib.hid (chk_no fun h => hm ((ok_at p a).1 h))
            have EK := Lib.hid (show cmK (p, s11) = (noCom, 3) from if_neg (fun h => hm h.2.2))
            clear hm
            have HO := Lib.hid hok
            have HMid := Lib.hid hmid
            clear hok hmid
            go_wp2_with (first | (refine wpList_valg rfl (run_op_load_v rfl RTCom rfl hq) ?_) | (go_at_call 22; (refine (CheckCommit_any (comOf p a) p.tag _ _ HO.out (Nat.le_refl _) HMid.out).mono ?_); rintro e w9 ⟨rfl, hb9⟩; rw [HM.out]; have hq9 := keep_below hb9 (lt_of_block hq) hq) | (refine wpList_val_w rfl (run_built0 rfl built_cm) ?_) | (refine wpList_store_v (f' := noCm) rfl rfl RTCom rfl rfl hq9 (fun i _ => noCm_one i) ?_))
            refine bodyPost_ret (results_v_tmp rfl rfl rfl RTCom (row_self hq9)) rfl ?_
            rw [← HP.out, EK.out]
            refine ⟨noAt, rfl, no_ok _ _, ?_⟩
            rw [hqw]
            exact row_below (hb.trans (hb9.mono (by have := hb.size; omega))) (Nat.le_refl _) _
theorem cmV_long {l : List Nat} (h : 1048576 < l.length) : cmV l = (noCom, 4) := if_pos h
theorem cmV_kind {l : List Nat} (h : ¬ 1048576 < l.length) {k : Nat} {s1 : Rs} (hk : numP 1 ⟨l, false⟩ = (k, s1)) (hne : k ≠ 1) : cmV l = (noCom, 3) := by
  unfold cmV
  rw [if_neg h, hk]
  exact if_pos hne
theorem cmV_more {l : List Nat} (h : ¬ 1048576 < l.length) {s1 : Rs} (hk : numP 1 ⟨l, false⟩ = (1, s1)) : cmV l = cmK (comP s1) := by
  unfold cmV
  rw [if_neg h, hk]
  dsimp only
  rw [if_neg (by simp)]
  rfl
theorem ReadCommit_any (A : Option Addr) (n c : Nat) (l : List Nat) (w : World) (h : Src w w.heap.size A n c l) :
    Calls Try.prog 26 #[.slice A n c] w (CmPost w (cmV l)) := by
  have hl := h.txt.len
  by_cases hn : 1048576 < n
  · rw [cmV_long (by omega)]
    exact ReadCommit_long A n c l w h hn
  · obtain ⟨k, s1, hk⟩ := pair_of (numP 1 ⟨l, false⟩)
    by_cases hne : k = 1
    · subst hne
      rw [cmV_more (by omega) hk]
      exact ReadCommit_more A n c l w h (by omega) hk
    · rw [cmV_kind (by omega) hk hne]
      exact ReadCommit_kind A n c l w h (by omega) hk hne
end Go.Proofs.Ytfbfkfdkigpkgaa
