/- The walks of layer 16: what any bytes are, as a commit. -/
import Derived.Test.YtfbfkfdkigpkgaaRdf
import Derived.Test.YtfbfkfdkigpkgaaChk
import Derived.Test.YtfbfkfdkigpkgaaHcm
namespace Go.Proofs.Ytfbfkfdkigpkgaa
set_option linter.unusedSimpArgs false
set_option linter.unusedVariables false
open Go.RowKit
attribute [local irreducible] beL beK

theorem But.own {B g base sz n : Nat} {w w' : World} {e : TypeId} {v : Value} {xs : List Value} {s : Rs} (h : But g w w') (he : Eye w B g s) (hr : w.ownsRow base e sz v n xs) (hne : e ≠ 102) : w'.ownsRow base e sz v n xs := by
  obtain ⟨_, _, _, k⟩ := he
  exact h.row hr k.row hne
theorem getD_map {α β : Type} (f : α → β) (l : List α) (i : Nat) (z : α) (z' : β) (hz : f z = z') : (l.map f).getD i z' = f (l.getD i z) := by
  rw [List.getD_eq_getElem?_getD, List.getD_eq_getElem?_getD, List.getElem?_map]
  cases l[i]? with
  | none => exact hz.symm
  | some x => rfl
theorem getD_some {α : Type} {l : List α} {i : Nat} {x z : α} (h : l[i]? = some x) : l.getD i z = x := by rw [List.getD_eq_getElem?_getD, h]; rfl
theorem mem_at {α : Type} {l : List α} {i : Nat} {x : α} (h : l[i]? = some x) : x ∈ l := List.mem_of_getElem? h
def zM : StM := ⟨zS, none, 0⟩
def zL : Pl := ⟨[], none, 0⟩
def atOf (PA : Option Addr) (pc : Nat) (SA : Option Addr) (sc : Nat) (ls : List StM) (KA : Option Addr) (kc : Nat) (BA : Option Addr) (bc : Nat) (lb : List Pl) : At :=
  ⟨PA, pc, SA, sc, fun i => (ls.getD i zM).A, fun i => (ls.getD i zM).c, KA, kc, BA, bc, fun i => (lb.getD i zL).A, fun i => (lb.getD i zL).c⟩
theorem own_Els {α : Type} {sz : Nat} {F : α → Nat → Value} {w : World} {base c : Nat} {e : TypeId} {A : Option Addr} {l : List α} (h : w.ownsRow base e sz (.slice A l.length c) l.length (cellsOf sz F l)) (G : Nat → Nat → Value) (hG : ∀ i x, l[i]? = some x → ∀ j, j < sz → G i j = F x j) : Els w w.heap.size A l.length sz G := by
  obtain ⟨A', c', hv, _, he⟩ := own_els h rfl G hG
  injection hv with h1 _ h3
  subst h1
  exact he
theorem com_ok {w : World} {b ep by_ pc sc kc bc : Nat} {PA SA KA BA : Option Addr} {pt tag : Nat → Nat} {lp : List PProp} {ls : List StM} {lk : List (Nat → Nat)} {lb : List Pl}
    (h1 : w.ownsRow b 75 34 (.slice PA lp.length pc) lp.length (cellsOf 34 propF lp)) (h2 : w.ownsRow b 71 3 (.slice SA ls.length sc) ls.length (cellsOf 3 stepF ls)) (h3 : ∀ x ∈ ls, StN w b x) (h4 : w.ownsRow b 37 32 (.slice KA lk.length kc) lk.length (cellsOf 32 keyF lk)) (h5 : w.ownsRow b 22 1 (.slice BA lb.length bc) lb.length (cellsOf 1 plF lb)) (h6 : ∀ x ∈ lb, PlN w b x) :
    ComOk w w.heap.size (comOf ⟨ep, by_, lp, pt, ls.map StM.p, lk, lb.map Pl.l, tag⟩ (atOf PA pc SA sc ls KA kc BA bc lb)) where
  props := own_Els h1 _ fun i x hx j _ => by
    show propV _ _ _ _ = _
    show propV ((lp.getD i zP).kind : Int) ((lp.getD i zP).id : Int) (lp.getD i zP).pt j = _
    rw [getD_some hx]
    rfl
  steps := by
    have := own_Els h2 (fun i => stepV ((((ls.map StM.p).getD i zS).node : Nat) : Int) ((((ls.map StM.p).getD i zS).frm : Int) - 1) (ls.getD i zM).A ((ls.map StM.p).getD i zS).sd.length (ls.getD i zM).c) fun i x hx j _ => by
      rw [getD_map StM.p ls i zM zS rfl, getD_some hx]
      rfl
    rw [show ls.length = (ls.map StM.p).length by simp] at this
    exact this
  sends := fun i hi => by
    have hi' : i < ls.length := by simpa [comOf] using hi
    have hx : ls[i]? = some ls[i] := List.getElem?_eq_getElem hi'
    have h := h3 _ (mem_at hx)
    have := own_Els (F := intF) h (fun j _ => .int .i64 ((ls[i].p.sd.getD j 0 : Nat) : Int)) fun j x hj _ _ => by rw [getD_some hj]; rfl
    show Els w w.heap.size (ls.getD i zM).A ((ls.map StM.p).getD i zS).sd.length 1 fun j _ => .int .i64 ((((ls.map StM.p).getD i zS).sd.getD j 0 : Nat) : Int)
    rw [getD_map StM.p ls i zM zS rfl, getD_some hx]
    exact this
  keys := own_Els h4 _ fun i x hx j _ => by
    show byteV (lk.getD i fun _ => 0) j = _
    rw [getD_some hx]
    rfl
  boxes := by
    have := own_Els h5 (fun i _ => .slice (lb.getD i zL).A ((lb.map Pl.l).getD i []).length (lb.getD i zL).c) fun i x hx j _ => by
      rw [getD_map Pl.l lb i zL [] rfl, getD_some hx]
      rfl
    rw [show lb.length = (lb.map Pl.l).length by simp] at this
    exact this
  texts := fun i hi => by
    have hi' : i < lb.length := by simpa [comOf] using hi
    have hx : lb[i]? = some lb[i] := List.getElem?_eq_getElem hi'
    have h : Own w b 5 (.slice lb[i].A lb[i].l.length lb[i].c) lb[i].l := h6 _ (mem_at hx)
    show Txt w w.heap.size (lb.getD i zL).A ((lb.map Pl.l).getD i []).length (lb.getD i zL).c ((lb.map Pl.l).getD i [])
    rw [getD_map Pl.l lb i zL [] rfl, getD_some hx]
    exact h.text
def noCm (j : Nat) : Value := comV (comOf noCom noAt) noCom.tag j
theorem ZVCm : ZeroV Try.prog 42 70 (arrV 70 noCm) := ⟨by kernel_rfl, by rw [arrV_size]⟩
theorem built_cm : Try.prog.built 42 [] = some (arrV 70 noCm) := by kernel_rfl
theorem noCm_one (j : Nat) : (noCm j).oneCell' = true := comV_one _ _ j
/-- A commit that is handed back, or why not. -/
def CmPost (w : World) (p : PCom × Int) (e : Ending) (w' : World) : Prop :=
  ∃ a : At, e = .returned (.tuple #[.agg (arrV 70 (comV (comOf p.1 a) p.1.tag)), .int .i64 p.2]) ∧ ComOk w' w'.heap.size (comOf p.1 a) ∧ Below w.heap.size w w'
theorem no_ok (w : World) (B : Nat) : ComOk w B (comOf noCom noAt) :=
  ⟨⟨fun h => absurd h (by decide)⟩, ⟨fun h => absurd h (by decide)⟩, fun i hi => absurd hi (by show ¬ i < 0; omega), ⟨fun h => absurd h (by decide)⟩, ⟨fun h => absurd h (by decide)⟩, fun i hi => absurd hi (by show ¬ i < 0; omega)⟩
/-- A commit that was read, or none. -/
def cmK (p : PCom × Rs) : PCom × Int := if p.2.ov = false ∧ p.2.l.length = 0 ∧ OkP p.1 then (p.1, 0) else (noCom, 3)

set_option maxRecDepth 100000 in
set_option maxHeartbeats 4000000 in
theorem ReadCommit_long (A : Option Addr) (n c : Nat) (l : List Nat) (w : World) (h : Src w w.heap.size A n c l) (hn : 1048576 < n) :
    Calls Try.prog 26 #[.slice A n c] w (CmPost w (noCom, 4)) := by
  have hn2 : n ≤ 140737488355328 := h.len
  go_enter Try.func26, Try.ntmps26
  go_upto_region 1 with (refine wpList_alloc_v rfl rfl ZVCm ?_)
  have hq0 := heap_alloc_new w (.cells (arrV 70 noCm) 42)
  have hb0 : Below w.heap.size w (w.alloc (.cells (arrV 70 noCm) 42)) := (Below.refl _ _).alloc (Nat.le_refl _) _
  refine wp_cut (fun x => x.heap[w.heap.size]? = some (.cells (arrV 70 noCm) 42 (0, 0)) ∧ Below w.heap.size w x ∧ Src x w.heap.size A n c l) ⟨hq0, hb0, ⟨hb0.size, h.txt.below hb0, h.cap, h.len, h.byt⟩⟩ ?_
  clear hq0 hb0 h
  rintro w1 ⟨hq, hb, hS⟩
  have hql := lt_of_block hq
  (try simp only [Act.put, List.setIfInBounds_toArray, List.set_cons_zero, List.set_cons_succ])
  go_wp2_with (first | (go_at_call 64; (with_reducible refine (opened_long1 A n c _ hn hn2).mono ?_); rintro e w2 ⟨rfl, rfl⟩) | (refine wpList_val_w rfl (run_built0 rfl built_cm) ?_) | (refine wpList_store_v (f' := noCm) rfl rfl RTCom rfl rfl hq (fun i _ => noCm_one i) ?_))
  refine bodyPost_ret (results_v_tmp rfl rfl rfl RTCom (row_self hq)) rfl ⟨noAt, rfl, no_ok _ _, row_below hb (by omega) _⟩

set_option maxRecDepth 100000 in
set_option maxHeartbeats 4000000 in
theorem ReadCommit_kind (A : Option Addr) (n c : Nat) (l : List Nat) (w : World) (h : Src w w.heap.size A n c l) (hn : n ≤ 1048576) {k : Nat} {s1 : Rs} (hk : numP 1 ⟨l, false⟩ = (k, s1)) (hne : k ≠ 1) :
    Calls Try.prog 26 #[.slice A n c] w (CmPost w (noCom, 3)) := by
  go_enter Try.func26, Try.ntmps26
  go_upto_region 1 with (refine wpList_alloc_v rfl rfl ZVCm ?_)
  have hq0 := heap_alloc_new w (.cells (arrV 70 noCm) 42)
  have hb0 : Below w.heap.size w (w.alloc (.cells (arrV 70 noCm) 42)) := (Below.refl _ _).alloc (Nat.le_refl _) _
  refine wp_cut (fun x => x.heap[w.heap.size]? = some (.cells (arrV 70 noCm) 42 (0, 0)) ∧ Below w.heap.size w x ∧ Src x w.heap.size A n c l) ⟨hq0, hb0, ⟨hb0.size, h.txt.below hb0, h.cap, h.len, h.byt⟩⟩ ?_
  clear hq0 hb0 h
  rintro w1 ⟨hq, hb, hS⟩
  have hql := lt_of_block hq
  (try simp only [Act.put, List.setIfInBounds_toArray, List.set_cons_zero, List.set_cons_succ])
  go_wp2_with (first | (go_at_call 64; (with_reducible refine (opened_no1 A n c l _ hS hn hk hne).mono ?_); rintro e w2 ⟨rfl, b2⟩; replace hq := keep_below b2 hql hq; replace hb := hb.trans (b2.mono hb.size)) | (refine wpList_val_w rfl (run_built0 rfl built_cm) ?_) | (refine wpList_store_v (f' := noCm) rfl rfl RTCom rfl rfl hq (fun i _ => noCm_one i) ?_))
  refine bodyPost_ret (results_v_tmp rfl rfl rfl RTCom (row_self hq)) rfl ⟨noAt, rfl, no_ok _ _, row_below hb (by omega) _⟩
end Go.Proofs.Ytfbfkfdkigpkgaa
