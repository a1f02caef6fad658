/- What was read is, written, what stood there; what is written is read (layer 16, plain). The walks of layer 16: what any bytes are, told by an equation; what was read, written (contracts). What is written is read: a commit, a welcome, a frame (layer 16, plain). The walks of layer 16: frames, and welcomes, held against themselves; how long a slice is, in an order of the prover's. -/
import Derived.Test.YtfbfkfdkigpkgaaRdcs
import Derived.Test.YtfbfkfdkigpkgaaOpens
import Derived.Test.YtfbfkfdkigpkgaaOth
import Derived.Test.YtfbfkfdkigpkgaaWrC
import Derived.Test.YtfbfkfdkigpkgaaSameC
namespace Go.Proofs.Ytfbfkfdkigpkgaa
set_option linter.unusedSimpArgs false
set_option linter.unusedVariables false
attribute [local irreducible] beL beK

section
variable {α : Type} {f : Rs → α × Rs} {g : α → List Nat} {V : α → Prop} (ok : α → Prop) [DecidablePred ok] (z : α) (K : Nat)
/-- What bytes are, as a message of kind K, or why not. -/
def rdV (f : Rs → α × Rs) (l : List Nat) : α × Int :=
  if 1048576 < l.length then (z, 4) else if (numP 1 ⟨l, false⟩).1 ≠ K then (z, 3)
  else if (f (numP 1 ⟨l, false⟩).2).2.ov = false ∧ (f (numP 1 ⟨l, false⟩).2).2.l.length = 0 ∧ ok (f (numP 1 ⟨l, false⟩).2).1 then ((f (numP 1 ⟨l, false⟩).2).1, 0) else (z, 3)
theorem rdV_is (l : List Nat) (hl : l.length ≤ 1048576) : (∃ x, rdV ok z K f l = (x, 0)) ∨ rdV ok z K f l = (z, 3) := by
  unfold rdV
  rw [if_neg (by omega)]
  split
  · exact .inr rfl
  · split
    · exact .inl ⟨_, rfl⟩
    · exact .inr rfl
theorem kind_read {l : List Nat} (hb : Byt l) (h0 : K ≠ 0) (h : (numP 1 ⟨l, false⟩).1 = K) : l = [K] ++ (numP 1 ⟨l, false⟩).2.l ∧ (numP 1 ⟨l, false⟩).2.ov = false := by
  have e : numP 1 ⟨l, false⟩ = (K, (numP 1 ⟨l, false⟩).2) := by rw [← h]
  have ho := numP_ne h0 e
  have r := (rw_num 1).read ⟨l, false⟩ hb ho
  rw [h] at r
  refine ⟨?_, ho⟩
  have r1 := r.1
  rw [beL_one K (by have := r.2; omega)] at r1
  exact r1
theorem kind_back (hK : K < 256) (m : List Nat) : numP 1 ⟨[K] ++ m, false⟩ = (K, ⟨m, false⟩) := by
  have := (rw_num 1).back K m (by omega)
  rw [beL_one K hK] at this
  exact this
variable {ok z K}
theorem rdV_read (h : Rw f g V) (h0 : K ≠ 0) {l : List Nat} (hb : Byt l) {x : α} (hr : rdV ok z K f l = (x, 0)) : l = [K] ++ g x ∧ V x ∧ ok x ∧ l.length ≤ 1048576 := by
  unfold rdV at hr
  split at hr
  · injection hr with _ h2; cases h2
  · split at hr
    · injection hr with _ h2; cases h2
    · split at hr
      · rename_i hl hk hc
        injection hr with h1 _
        have hk' : (numP 1 ⟨l, false⟩).1 = K := by simpa using hk
        have r := kind_read K hb h0 hk'
        generalize (numP 1 ⟨l, false⟩).2 = s at *
        have hb' : Byt s.l := fun y hy => hb y (by rw [r.1]; simp [hy])
        have q := h.read s hb' hc.1
        have e0 : (f s).2.l = [] := List.eq_nil_of_length_eq_zero hc.2.1
        rw [e0, List.append_nil, h1] at q
        rw [h1] at hc
        exact ⟨by rw [← q.1]; exact r.1, q.2, hc.2.2, by omega⟩
      · injection hr with _ h2; cases h2
theorem rdV_back (h : Rw f g V) (hK : K < 256) {x : α} (hV : V x) (ho : ok x) (hl : ([K] ++ g x).length ≤ 1048576) : rdV ok z K f ([K] ++ g x) = (x, 0) := by
  unfold rdV
  have b := h.back x [] hV
  rw [List.append_nil] at b
  rw [if_neg (by omega), kind_back K hK]
  dsimp only
  rw [if_neg (by simp), b]
  dsimp only
  rw [if_pos ⟨rfl, rfl, ho⟩]
theorem rdV_more (h : Rw f g V) (hK : K < 256) {x : α} (hV : V x) {m : List Nat} (hm : m.length ≠ 0) (hl : ([K] ++ g x ++ m).length ≤ 1048576) : rdV ok z K f ([K] ++ g x ++ m) = (z, 3) := by
  unfold rdV
  rw [if_neg (by omega), List.append_assoc, kind_back K hK]
  dsimp only
  rw [if_neg (by simp), h.back x m hV]
  dsimp only
  rw [if_neg (fun h => hm h.2.1)]
theorem rdV_less (h : Rw f g V) (h0 : K ≠ 0) (hK : K < 256) {l : List Nat} (hb : Byt l) {x : α} (hr : rdV ok z K f l = (x, 0)) : rdV ok z K f (l.take (l.length - 1)) = (z, 3) := by
  have r := rdV_read h h0 hb hr
  have hlen : 1 ≤ l.length := by rw [r.1]; simp
  rcases rdV_is ok z K (f := f) (l.take (l.length - 1)) (by rw [List.length_take]; omega) with ⟨y, hy⟩ | hy
  · exfalso
    have q := rdV_read h h0 (byt_take hb _) hy
    have hm : (l.drop (l.length - 1)).length ≠ 0 := by rw [List.length_drop]; omega
    have e : l = [K] ++ g y ++ l.drop (l.length - 1) := by rw [← q.1]; exact (List.take_append_drop ..).symm
    have c := rdV_more (ok := ok) (z := z) h hK q.2.1 hm (by rw [← e]; exact r.2.2.2)
    rw [← e, hr] at c
    injection c with _ c
    cases c
  · exact hy
theorem rdV_over (h : Rw f g V) (h0 : K ≠ 0) (hK : K < 256) {l m : List Nat} (hb : Byt l) {x : α} (hr : rdV ok z K f l = (x, 0)) (hm : m.length ≠ 0) (hl : (l ++ m).length ≤ 1048576) : rdV ok z K f (l ++ m) = (z, 3) := by
  have r := rdV_read h h0 hb hr
  have := rdV_more (ok := ok) (z := z) h hK r.2.1 hm (by rw [← r.1]; exact hl)
  rw [← r.1] at this
  exact this
end
def okW (p : PWl) : Prop := MayW (p.tw : Int) p.c.length p.t.length p.b.length
instance : DecidablePred okW := fun p => by unfold okW; infer_instance
instance : DecidablePred OkP := fun p => inferInstance
theorem cmV_rd (l : List Nat) : cmV l = rdV OkP noCom 1 comP l := rfl
theorem wlV_rd (l : List Nat) : wlV l = rdV okW noWl 2 wlP l := rfl
def PWl.L (p : PWl) : List Nat := beL 4 p.tw ++ ((beL 4 p.c.length ++ p.c) ++ ((beL 4 p.t.length ++ p.t) ++ (beL 4 p.b.length ++ p.b)))
def PWl.V (p : PWl) : Prop := p.tw < 256 ^ 4 ∧ p.c.length < 256 ^ 4 ∧ p.t.length < 256 ^ 4 ∧ p.b.length < 256 ^ 4
theorem rw_wl : Rw wlP PWl.L PWl.V :=
  rw_map (f := wlRaw) (rw_then (rw_num 4) fun _ => rw_then rw_txt fun _ => rw_then rw_txt fun _ => rw_txt) (fun x => (⟨x.1, x.2.1, x.2.2.1, x.2.2.2⟩ : PWl)) (fun p => (p.tw, p.c, p.t, p.b)) (fun _ => rfl) (fun _ => rfl) (fun _ => rfl) (fun _ => rfl)
def PFr.L (p : PFr) : List Nat := beL 8 p.ep ++ (beL 4 p.frm ++ (beL 8 p.gen ++ p.box))
def PFr.V (p : PFr) : Prop := p.ep < 256 ^ 8 ∧ p.frm < 256 ^ 4 ∧ p.gen < 256 ^ 8
def okF (p : PFr) : Prop := MayF (p.ep : Int) (p.frm : Int) (p.gen : Int) p.box.length
theorem frV_is (l : List Nat) (hl : l.length ≤ 1048576) : (∃ x, frV l = (x, 0)) ∨ frV l = (noFr, 3) := by
  unfold frV
  rw [if_neg (by omega)]
  split
  · exact .inr rfl
  · split
    · exact .inl ⟨_, rfl⟩
    · exact .inr rfl
theorem frV_read {l : List Nat} (hb : Byt l) {x : PFr} (hr : frV l = (x, 0)) : l = [3] ++ x.L ∧ x.V ∧ okF x ∧ l.length ≤ 1048576 := by
  unfold frV at hr
  split at hr
  · injection hr with _ h2; cases h2
  · split at hr
    · injection hr with _ h2; cases h2
    · split at hr
      · rename_i hl hk hc
        injection hr with h1 _
        have hk' : (numP 1 ⟨l, false⟩).1 = 3 := by simpa using hk
        have r := kind_read 3 hb (by decide) hk'
        generalize (numP 1 ⟨l, false⟩).2 = s at *
        have hb' : Byt s.l := fun y hy => hb y (by rw [r.1]; simp [hy])
        obtain ⟨ep, s2, E1⟩ := pair_of (numP 8 s)
        obtain ⟨fr, s3, E2⟩ := pair_of (numP 4 s2)
        obtain ⟨ge, s4, E3⟩ := pair_of (numP 8 s3)
        obtain ⟨bx, s5, E4⟩ := pair_of (cutP s4.l.length s4)
        rw [frP_is E1 E2 E3 E4] at h1 hc
        subst h1
        have o5 : s5.ov = false := hc.1
        have R4 := rw_cut s4.l.length
        have o4 : s4.ov = false := by have := R4.was (s := s4); rw [E4] at this; exact this o5
        have o3 : s3.ov = false := by have := (rw_num 8).was (s := s3); rw [E3] at this; exact this o4
        have o2 : s2.ov = false := by have := (rw_num 4).was (s := s2); rw [E2] at this; exact this o3
        have q1 := (rw_num 8).read s hb' (by rw [E1]; exact o2)
        rw [E1] at q1
        have b2 : Byt s2.l := fun y hy => hb' y (by rw [q1.1]; simp [hy])
        have q2 := (rw_num 4).read s2 b2 (by rw [E2]; exact o3)
        rw [E2] at q2
        have b3 : Byt s3.l := fun y hy => b2 y (by rw [q2.1]; simp [hy])
        have q3 := (rw_num 8).read s3 b3 (by rw [E3]; exact o4)
        rw [E3] at q3
        have b4 : Byt s4.l := fun y hy => b3 y (by rw [q3.1]; simp [hy])
        have q4 := R4.read s4 b4 (by rw [E4]; exact o5)
        rw [E4] at q4
        have e5 : s5.l = [] := by
          have := congrArg List.length q4.1
          rw [List.length_append] at this
          have h2 : bx.length = s4.l.length := q4.2
          refine List.eq_nil_of_length_eq_zero ?_
          dsimp only at this
          omega
        have q41 : s4.l = bx := by
          have := q4.1
          dsimp only at this
          rw [e5, List.append_nil] at this
          exact this
        refine ⟨?_, ⟨q1.2, q2.2, q3.2⟩, hc.2, by omega⟩
        refine r.1.trans ?_
        unfold PFr.L
        rw [q1.1, q2.1, q3.1, q41]
      · injection hr with _ h2; cases h2
theorem frV_back {x : PFr} (hV : x.V) (ho : okF x) (hl : ([3] ++ x.L).length ≤ 1048576) : frV ([3] ++ x.L) = (x, 0) := by
  have E1 : numP 8 ⟨x.L, false⟩ = (x.ep, ⟨beL 4 x.frm ++ (beL 8 x.gen ++ x.box), false⟩) := (rw_num 8).back x.ep _ hV.1
  have E2 : numP 4 ⟨beL 4 x.frm ++ (beL 8 x.gen ++ x.box), false⟩ = (x.frm, ⟨beL 8 x.gen ++ x.box, false⟩) := (rw_num 4).back x.frm _ hV.2.1
  have E3 : numP 8 ⟨beL 8 x.gen ++ x.box, false⟩ = (x.gen, ⟨x.box, false⟩) := (rw_num 8).back x.gen _ hV.2.2
  have E4 : cutP x.box.length ⟨x.box, false⟩ = (x.box, ⟨[], false⟩) := by
    have := (rw_cut x.box.length).back x.box [] rfl
    rw [List.append_nil] at this
    exact this
  have e := frP_is E1 E2 E3 E4
  unfold frV
  rw [if_neg (by omega), kind_back 3 (by decide)]
  dsimp only
  rw [if_neg (by simp), e]
  dsimp only
  rw [if_pos ⟨rfl, ho⟩]
/-- No bytes are of two kinds. -/
theorem two_kinds {l m m' : List Nat} {K K' : Nat} (h : l = [K] ++ m) (h' : l = [K'] ++ m') : K = K' := by
  rw [h] at h'
  injection h'
theorem cm_wl {l : List Nat} (hb : Byt l) {p : PCom} {q : PWl} (h : cmV l = (p, 0)) (h' : wlV l = (q, 0)) : False := by
  have a := rdV_read rw_com (by decide) hb ((cmV_rd l).symm.trans h)
  have b := rdV_read rw_wl (by decide) hb ((wlV_rd l).symm.trans h')
  exact absurd (two_kinds a.1 b.1) (by decide)
theorem cm_fr {l : List Nat} (hb : Byt l) {p : PCom} {q : PFr} (h : cmV l = (p, 0)) (h' : frV l = (q, 0)) : False := by
  have a := rdV_read rw_com (by decide) hb ((cmV_rd l).symm.trans h)
  have b := frV_read hb h'
  exact absurd (two_kinds a.1 b.1) (by decide)
theorem wl_fr {l : List Nat} (hb : Byt l) {p : PWl} {q : PFr} (h : wlV l = (p, 0)) (h' : frV l = (q, 0)) : False := by
  have a := rdV_read rw_wl (by decide) hb ((wlV_rd l).symm.trans h)
  have b := frV_read hb h'
  exact absurd (two_kinds a.1 b.1) (by decide)
/-! ### Written anew -/
theorem cm_lT {l : List Nat} (hb : Byt l) {p : PCom} (h : cmV l = (p, 0)) (a : At) : lT (comOf p a) p.tag = l := by
  have r := rdV_read rw_com (by decide) hb ((cmV_rd l).symm.trans h)
  unfold lT
  rw [if_pos ((ok_at p a).2 r.2.2.1), com_L]
  exact r.1.symm
theorem cm_chk {l : List Nat} (hb : Byt l) {p : PCom} (h : cmV l = (p, 0)) (a : At) : chk (comOf p a) = 0 := by
  have r := rdV_read rw_com (by decide) hb ((cmV_rd l).symm.trans h)
  exact chk_yes ((ok_at p a).2 r.2.2.1)
theorem cm_mid {l : List Nat} (hb : Byt l) {p : PCom} (h : cmV l = (p, 0)) (a : At) : MidC (comOf p a) := by
  have r := rdV_read rw_com (by decide) hb ((cmV_rd l).symm.trans h)
  refine mid_of p a ?_
  have := congrArg List.length r.1
  rw [List.length_append] at this
  have := r.2.2.2
  simp at *
  omega
theorem cm_less {l : List Nat} (hb : Byt l) {p : PCom} (h : cmV l = (p, 0)) : cmV (l.take (l.length - 1)) = (noCom, 3) := rdV_less rw_com (by decide) (by decide) hb ((cmV_rd l).symm.trans h)
theorem cm_over {l : List Nat} (hb : Byt l) {p : PCom} (h : cmV l = (p, 0)) (x : Nat) (hl : l.length ≤ 4000) : cmV (l ++ [x]) = (noCom, 3) := rdV_over rw_com (by decide) (by decide) hb ((cmV_rd l).symm.trans h) (by simp) (by simp; omega)
theorem wl_less {l : List Nat} (hb : Byt l) {p : PWl} (h : wlV l = (p, 0)) : wlV (l.take (l.length - 1)) = (noWl, 3) := rdV_less rw_wl (by decide) (by decide) hb ((wlV_rd l).symm.trans h)
theorem wl_over {l : List Nat} (hb : Byt l) {p : PWl} (h : wlV l = (p, 0)) (x : Nat) (hl : l.length ≤ 4000) : wlV (l ++ [x]) = (noWl, 3) := rdV_over rw_wl (by decide) (by decide) hb ((wlV_rd l).symm.trans h) (by simp) (by simp; omega)
theorem wl_x {l : List Nat} (hb : Byt l) {p : PWl} (h : wlV l = (p, 0)) : xW (p.tw : Int) p.c.length p.t.length p.b.length = 0 := by
  have r := rdV_read rw_wl (by decide) hb ((wlV_rd l).symm.trans h)
  exact if_pos r.2.2.1
theorem wl_l {l : List Nat} (hb : Byt l) {p : PWl} (h : wlV l = (p, 0)) : lW (p.tw : Int) p.c.length p.t.length p.b.length p.c p.t p.b = l := by
  have r := rdV_read rw_wl (by decide) hb ((wlV_rd l).symm.trans h)
  unfold lW
  rw [if_pos (show MayW _ _ _ _ from r.2.2.1)]
  refine Eq.trans ?_ r.1.symm
  unfold welcomeL PWl.L
  rw [Int.toNat_natCast]
  simp only [List.append_assoc]
theorem fr_x {l : List Nat} (hb : Byt l) {p : PFr} (h : frV l = (p, 0)) : xF (p.ep : Int) (p.frm : Int) (p.gen : Int) p.box.length = 0 := by
  have r := frV_read hb h
  exact if_pos r.2.2.1
theorem fr_l {l : List Nat} (hb : Byt l) {p : PFr} (h : frV l = (p, 0)) : lF (p.ep : Int) (p.frm : Int) (p.gen : Int) p.box.length p.box = l := by
  have r := frV_read hb h
  unfold lF
  rw [if_pos (show MayF _ _ _ _ from r.2.2.1)]
  refine Eq.trans ?_ r.1.symm
  unfold headL PFr.L
  simp only [Int.toNat_natCast, List.append_assoc]
end Go.Proofs.Ytfbfkfdkigpkgaa
namespace Go.Proofs.Ytfbfkfdkigpkgaa
set_option linter.unusedSimpArgs false
set_option linter.unusedVariables false
open Go.RowKit
attribute [local irreducible] beL beK keyL lC lT chk

theorem Src.at_ {w w' : World} {A : Option Addr} {n c : Nat} {l : List Nat} (h : Src w w.heap.size A n c l) (hb : Below w.heap.size w w') : Src w' w'.heap.size A n c l :=
  ⟨Nat.le_refl _, (h.txt.below hb).more hb.size, h.cap, h.len, h.byt⟩
theorem Src.take {w : World} {B : Nat} {A : Option Addr} {n c : Nat} {l : List Nat} (h : Src w B A n c l) {m : Nat} (hm : m ≤ n) : Src w B A m c (l.take m) :=
  ⟨h.low, h.txt.take h.cap hm, Nat.le_trans hm h.cap, Nat.le_trans hm h.len, byt_take h.byt m⟩
theorem Own.src {w : World} {base n c : Nat} {A : Option Addr} {l : List Nat} (h : Own w base 5 (.slice A n c) l) (hn : n ≤ 140737488355328) (hl : Byt l) : Src w w.heap.size A n c l :=
  ⟨Nat.le_refl _, h.text, h.cap, hn, hl⟩
theorem ReadCommitE {A : Option Addr} {n c : Nat} {l : List Nat} {w : World} {p : PCom} {x : Int} (h : Src w w.heap.size A n c l) (hE : cmV l = (p, x)) :
    Calls Try.prog 26 #[.slice A n c] w (CmPost w (p, x)) := by
  have := ReadCommit_any A n c l w h
  rw [hE] at this
  exact this
theorem ReadWelcomeE {A : Option Addr} {n c : Nat} {l : List Nat} {w : World} {p : PWl} {x : Int} (h : Src w w.heap.size A n c l) (hE : wlV l = (p, x)) :
    Calls Try.prog 28 #[.slice A n c] w (WlPost w (p, x)) := by
  have := ReadWelcome_any A n c l w h
  rw [hE] at this
  exact this
theorem ReadFrameE {A : Option Addr} {n c : Nat} {l : List Nat} {w : World} {p : PFr} {x : Int} (h : Src w w.heap.size A n c l) (hE : frV l = (p, x)) :
    Calls Try.prog 30 #[.slice A n c] w (FrPost w (p, x)) := by
  have := ReadFrame_any A n c l w h
  rw [hE] at this
  exact this
/-- A welcome that was read, written. -/
theorem WriteWelcomeP {p : PWl} {A : Nat → Option Addr} {c : Nat → Nat} {base : Nat} {w : World} (h : ∀ j, j < 3 → Own w base 5 (.slice (A j) (p.tx j).length (c j)) (p.tx j)) :
    Calls Try.prog 10 #[.agg (arrV 4 (wlG p.tw p.tx A c 3))] w (RetAny w (lW (p.tw : Int) p.c.length p.t.length p.b.length p.c p.t p.b) (xW (p.tw : Int) p.c.length p.t.length p.b.length)) :=
  WriteWelcome_all (p.tw : Int) (A 0) p.c.length (c 0) (A 1) p.t.length (c 1) (A 2) p.b.length (c 2) p.c p.t p.b w (h 0 (by omega)).text (h 1 (by omega)).text (h 2 (by omega)).text
theorem WriteFrameP {p : PFr} {A : Option Addr} {c base : Nat} {w : World} (h : Own w base 5 (.slice A p.box.length c) p.box) :
    Calls Try.prog 12 #[.agg (arrV 4 (frF p A c))] w (RetAny w (lF (p.ep : Int) (p.frm : Int) (p.gen : Int) p.box.length p.box) (xF (p.ep : Int) (p.frm : Int) (p.gen : Int) p.box.length)) :=
  WriteFrame_all (p.ep : Int) (p.frm : Int) (p.gen : Int) A p.box.length c p.box (Int.natCast_nonneg _) (Int.natCast_nonneg _) w h.text
end Go.Proofs.Ytfbfkfdkigpkgaa
namespace Go.Proofs.Ytfbfkfdkigpkgaa
set_option linter.unusedSimpArgs false
set_option linter.unusedVariables false
attribute [local irreducible] beL beK

def k32 (f : Nat → Nat) (j : Nat) : Nat := if j < 32 then f j else 0
theorem k32_V (f : Nat → Nat) : KeyV (k32 f) := fun j hj => if_neg (by omega)
theorem k32_L (f : Nat → Nat) : keyL (k32 f) = keyL f := by
  unfold keyL
  exact List.map_congr_left fun j hj => if_pos (List.mem_range.1 hj)
theorem k32_at (f : Nat → Nat) {j : Nat} (h : j < 32) : k32 f j = f j := if_pos h
theorem getD_mapr {α : Type} (f : Nat → α) (n i : Nat) (z : α) (h : i < n) : ((List.range n).map f).getD i z = f i := by
  rw [List.getD_eq_getElem?_getD, List.getElem?_map, List.getElem?_range h]
  rfl
theorem mem_mapr {α : Type} {f : Nat → α} {n : Nat} {x : α} (h : x ∈ (List.range n).map f) : ∃ i, i < n ∧ f i = x := by
  obtain ⟨i, hi, e⟩ := List.mem_map.1 h
  exact ⟨i, List.mem_range.1 hi, e⟩
/-- A commit, out of where it lies. -/
def toP (c : Com) (tg : Nat → Nat) : PCom :=
  ⟨c.ep, c.by_.toNat, (List.range c.pn).map (fun i => ⟨(c.kind i).toNat, (c.id i).toNat, k32 (c.ppt i)⟩), k32 c.pt, (List.range c.sn).map (fun i => ⟨(c.node i).toNat, (c.frm i + 1).toNat, (List.range (c.dn i)).map (fun j => (c.dv i j).toNat)⟩), (List.range c.kn).map (fun i => k32 (c.key i)), (List.range c.bn).map c.bx, k32 tg⟩
section
variable {c : Com} {tg : Nat → Nat}
theorem toP_L (hx : ∀ i, i < c.bn → (c.bx i).length = c.xn i) : comL c ++ keyL tg = [1] ++ (toP c tg).L := by
  have e1 : (toP c tg).props.flatMap PProp.L = propsL c c.pn := by
    show ((List.range c.pn).map _).flatMap PProp.L = _
    rw [List.flatMap_map]
    unfold propsL
    rw [List.flatMap_def, List.flatMap_def]
    exact congrArg List.flatten (List.map_congr_left fun i hi => by
      show beL 1 _ ++ (beL 4 _ ++ keyL (k32 (c.ppt i))) = beL 1 _ ++ (beL 4 _ ++ keyL (c.ppt i))
      rw [k32_L])
  have e2 : (toP c tg).steps.flatMap PStep.L = stepsL c c.sn := by
    show ((List.range c.sn).map _).flatMap PStep.L = _
    rw [List.flatMap_map]
    unfold stepsL
    congr 1
    funext i
    unfold PStep.L stepL sendL
    dsimp only
    rw [List.flatMap_map, List.length_map, List.length_range]
  have e3 : (toP c tg).new.flatMap keyL = keysL c c.kn := by
    show ((List.range c.kn).map _).flatMap keyL = _
    rw [List.flatMap_map]
    unfold keysL
    rw [List.flatMap_def, List.flatMap_def]
    exact congrArg List.flatten (List.map_congr_left fun i hi => k32_L _)
  have e4 : (toP c tg).boxes.flatMap (fun l => beL 2 l.length ++ l) = boxesL c c.bn := by
    show ((List.range c.bn).map _).flatMap _ = _
    rw [List.flatMap_map]
    unfold boxesL
    rw [List.flatMap_def, List.flatMap_def]
    congr 1
    exact List.map_congr_left fun i hi => by rw [hx i (List.mem_range.1 hi)]
  unfold PCom.L comL
  rw [e1, e2, e3, e4]
  show _ = [1] ++ (beL 8 c.ep ++ (beL 4 c.by_.toNat ++ ((beL 2 ((List.range c.pn).map _).length ++ _) ++ (keyL (k32 c.pt) ++ ((beL 2 ((List.range c.sn).map _).length ++ _) ++ (_ ++ (_ ++ keyL (k32 tg))))))))
  rw [k32_L, k32_L, List.length_map, List.length_map, List.length_range, List.length_range]
  simp only [List.append_assoc]
theorem toP_sends : ∀ n, n ≤ c.sn → sendsP ((List.range n).map fun i => (⟨(c.node i).toNat, (c.frm i + 1).toNat, (List.range (c.dn i)).map (fun j => (c.dv i j).toNat)⟩ : PStep)) = sends c n
  | 0, _ => rfl
  | n + 1, hn => by
    have ih := toP_sends n (by omega)
    have happ : ∀ (a b : List PStep), sendsP (a ++ b) = sendsP a + sendsP b := by
      intro a b
      induction a with
      | nil => simp [sendsP]
      | cons x a ih => show x.sd.length + sendsP (a ++ b) = x.sd.length + sendsP a + sendsP b; omega
    rw [List.range_succ, List.map_append, happ, ih]
    show sends c n + (((List.range (c.dn n)).map _).length + 0) = sends c n + c.dn n
    rw [List.length_map, List.length_range]
    omega
theorem toP_V (hok : OkCom c) (hx : ∀ i, i < c.bn → (c.bx i).length = c.xn i) : (toP c tg).V := by
  obtain ⟨⟨h1, h2, h3⟩, ⟨h4, h5⟩, ⟨h6, h7, h8⟩, h9, h10⟩ := hok
  refine ⟨?_, ?_, ⟨?_, ?_⟩, k32_V _, ⟨?_, ?_⟩, ⟨?_, ?_⟩, ⟨?_, ?_⟩, k32_V _⟩
  · show c.ep < _; omega
  · show c.by_.toNat < _; omega
  · show ((List.range c.pn).map _).length < _; rw [List.length_map, List.length_range]; omega
  · intro x hx'
    obtain ⟨i, hi, rfl⟩ := mem_mapr hx'
    have := h5 i hi
    unfold OkProp at this
    exact ⟨show (c.kind i).toNat < _ by omega, show (c.id i).toNat < _ by omega, k32_V _⟩
  · show ((List.range c.sn).map _).length < _; rw [List.length_map, List.length_range]; omega
  · intro x hx'
    obtain ⟨i, hi, rfl⟩ := mem_mapr hx'
    have := h8 i hi
    unfold OkStep OkPlace at this
    obtain ⟨q1, q2, q3, q4, q5⟩ := this
    refine ⟨show (c.node i).toNat < _ by omega, show (c.frm i + 1).toNat < _ by omega, show ((List.range (c.dn i)).map _).length < _ by rw [List.length_map, List.length_range]; omega, fun y hy => ?_⟩
    obtain ⟨j, hj, rfl⟩ := mem_mapr hy
    have := q5 j hj
    omega
  · show ((List.range c.kn).map _).length = ((List.range c.sn).map _).length
    simp [h7]
  · intro x hx'
    obtain ⟨i, hi, rfl⟩ := mem_mapr hx'
    exact k32_V _
  · show ((List.range c.bn).map _).length = sendsP ((List.range c.sn).map _)
    rw [List.length_map, List.length_range, toP_sends c.sn (Nat.le_refl _)]
    exact h9.symm
  · intro x hx'
    obtain ⟨i, hi, rfl⟩ := mem_mapr hx'
    have := h10 i hi
    have := hx i hi
    omega
theorem toP_same (hok : OkCom c) (a : At) : SameC c tg (comOf (toP c tg) a) (toP c tg).tag := by
  obtain ⟨⟨h1, h2, h3⟩, ⟨h4, h5⟩, ⟨h6, h7, h8⟩, h9, h10⟩ := hok
  refine ⟨rfl, ?_, ⟨?_, ?_⟩, ?_, ⟨?_, ?_⟩, ⟨?_, ?_⟩, ⟨?_, ?_⟩, ?_⟩
  · show c.by_ = ((c.by_.toNat : Nat) : Int); omega
  · show c.pn = ((List.range c.pn).map _).length; simp
  · intro i hi
    show SameP _ _ _ ((((List.range c.pn).map _).getD i zP).kind : Int) ((((List.range c.pn).map _).getD i zP).id : Int) (((List.range c.pn).map _).getD i zP).pt
    rw [getD_mapr _ _ _ _ hi]
    have := h5 i hi
    unfold OkProp at this
    exact ⟨show c.kind i = ((c.kind i).toNat : Int) by omega, show c.id i = ((c.id i).toNat : Int) by omega, fun j hj => (k32_at _ hj).symm⟩
  · intro j hj; exact (k32_at _ hj).symm
  · show c.sn = ((List.range c.sn).map _).length; simp
  · intro i hi
    show SameSt _ _ _ _ ((((List.range c.sn).map _).getD i zS).node : Int) ((((List.range c.sn).map _).getD i zS).frm - 1 : Int) (((List.range c.sn).map _).getD i zS).sd.length (fun j => ((((List.range c.sn).map _).getD i zS).sd.getD j 0 : Nat))
    rw [getD_mapr _ _ _ _ hi]
    have := h8 i hi
    unfold OkStep OkPlace at this
    obtain ⟨q1, q2, q3, q4, q5⟩ := this
    refine ⟨show c.node i = ((c.node i).toNat : Int) by omega, show c.frm i = ((c.frm i + 1).toNat : Int) - 1 by omega, ?_, fun j hj => ?_⟩
    · show c.dn i = ((List.range (c.dn i)).map _).length; simp
    · show c.dv i j = ((((List.range (c.dn i)).map fun j => (c.dv i j).toNat).getD j 0 : Nat) : Int)
      rw [getD_mapr _ _ _ _ hj]
      have := q5 j hj
      omega
  · show c.kn = ((List.range c.kn).map _).length; simp
  · intro i hi
    show SameK _ (((List.range c.kn).map _).getD i (fun _ => 0))
    rw [getD_mapr _ _ _ _ hi]
    intro j hj; exact (k32_at _ hj).symm
  · show c.bn = ((List.range c.bn).map _).length; simp
  · intro i hi
    show _ = ((List.range c.bn).map _).getD i []
    rw [getD_mapr _ _ _ _ hi]
  · intro j hj; exact (k32_at _ hj).symm
theorem toP_ok (hok : OkCom c) (hx : ∀ i, i < c.bn → (c.bx i).length = c.xn i) : OkP (toP c tg) := by
  have hs := toP_same (tg := tg) hok noAt
  have hsd := toP_sends (c := c) c.sn (Nat.le_refl _)
  obtain ⟨⟨h1, h2, h3⟩, ⟨h4, h5⟩, ⟨h6, h7, h8⟩, h9, h10⟩ := hok
  obtain ⟨s1, s2, ⟨s3, s4⟩, s5, ⟨s6, s7⟩, ⟨s8, s9⟩, ⟨s10, s11⟩, s12⟩ := hs
  unfold OkP OkCom
  have hsend : ∀ k, k ≤ c.sn → sends (comOf (toP c tg) noAt) k = sends c k := by
    intro k
    induction k with
    | zero => exact fun _ => rfl
    | succ k ih =>
      intro hk
      have h := (s7 k (by omega)).2.2.1
      show sends (comOf (toP c tg) noAt) k + (comOf (toP c tg) noAt).dn k = sends c k + c.dn k
      rw [ih (by omega), ← h]
  refine ⟨⟨by rw [← s1]; exact h1, by rw [← s2]; exact h2, by rw [← s2]; exact h3⟩, ⟨by rw [← s3]; exact h4, fun i hi => ?_⟩, ⟨by rw [← s6]; exact h6, by rw [← s6, ← s8]; exact h7, fun i hi => ?_⟩, by rw [← s6, ← s10, hsend _ (Nat.le_refl _)]; exact h9, fun i hi => ?_⟩
  · rw [← s3] at hi
    have q := h5 i hi
    obtain ⟨e1, e2, e3⟩ := s4 i hi
    rw [← e1, ← e2]
    exact ⟨q.1, q.2.1, q.2.2.1, fun hk j hj => (e3 j hj).symm.trans (q.2.2.2 hk j hj)⟩
  · rw [← s6] at hi
    have q := h8 i hi
    obtain ⟨e1, e2, e3, e4⟩ := s7 i hi
    rw [← e1, ← e2, ← e3]
    refine ⟨q.1, q.2.1, q.2.2.1, q.2.2.2.1, fun j hj => ?_⟩
    rw [← e4 j hj]
    exact q.2.2.2.2 j hj
  · rw [← s10] at hi
    have := s11 i hi
    show ((comOf (toP c tg) noAt).bx i).length ≤ 1000
    rw [← this, hx i hi]
    exact h10 i hi
theorem cm_back (hok : OkCom c) (hx : ∀ i, i < c.bn → (c.bx i).length = c.xn i) (hm : MidC c) : cmV (lT c tg) = (toP c tg, 0) := by
  have e : lT c tg = [1] ++ (toP c tg).L := by
    unfold lT
    rw [if_pos hok]
    exact toP_L hx
  rw [e, cmV_rd]
  refine rdV_back rw_com (by decide) (toP_V hok hx) (toP_ok hok hx) ?_
  rw [← toP_L (tg := tg) hx]
  have := hm.ln hok hx
  rw [List.length_append, keyL_len]
  omega
end
theorem wl_back {tw : Nat} {m1 m2 m3 : List Nat} (hm : MayW (tw : Int) m1.length m2.length m3.length) (h1 : m1.length ≤ 2000) (h2 : m2.length ≤ 2000) (h3 : m3.length ≤ 2000) : wlV (welcomeL tw m1.length m2.length m3.length m1 m2 m3) = (⟨tw, m1, m2, m3⟩, 0) := by
  have e : welcomeL tw m1.length m2.length m3.length m1 m2 m3 = [2] ++ (⟨tw, m1, m2, m3⟩ : PWl).L := by
    unfold welcomeL PWl.L
    simp only [List.append_assoc]
  have hl := congrArg List.length e
  rw [e, wlV_rd]
  have hm' := hm
  unfold MayW at hm'
  refine rdV_back rw_wl (by decide) ⟨show tw < _ by omega, show m1.length < _ by omega, show m2.length < _ by omega, show m3.length < _ by omega⟩ hm ?_
  rw [← hl]
  unfold welcomeL
  simp only [List.length_append, beL_len, List.length_cons, List.length_nil]
  omega
theorem fr_back {ep fr ge : Nat} {m : List Nat} (hm : MayF (ep : Int) (fr : Int) (ge : Int) m.length) (h1 : m.length ≤ 2000) : frV (headL ep fr ge ++ m) = (⟨ep, fr, ge, m⟩, 0) := by
  have e : headL ep fr ge ++ m = [3] ++ (⟨ep, fr, ge, m⟩ : PFr).L := by
    unfold headL PFr.L
    simp only [List.append_assoc]
  have hl := congrArg List.length e
  rw [e]
  have hm' := hm
  unfold MayF at hm'
  refine frV_back ⟨show ep < _ by omega, show fr < _ by omega, show ge < _ by omega⟩ hm ?_
  rw [← hl]
  unfold headL
  simp only [List.length_append, beL_len, List.length_cons, List.length_nil]
  omega
end Go.Proofs.Ytfbfkfdkigpkgaa
namespace Go.Proofs.Ytfbfkfdkigpkgaa
set_option linter.unusedSimpArgs false
set_option linter.unusedVariables false
open Go.RowKit
attribute [local irreducible] beL beK

section
variable {P : Program} {ops : Array Oper} {Q : Exit → Act → World → Prop} {N : Nat} {T : Act → World → Prop} {p : List (Oper × Bool)} {o : Oper} {a : Act} {w : World}
theorem run_op_len {t : TypeId} {x : Operand} {A : Option Addr} {n c : Nat} (ho : o.op = .call { callee := .builtin .len, args := #[x], argTypes := #[t] }) (hx : a.eval x = .slice A n c) (hu : P.underlying t = some (.slice (P.elem t))) : (execOp a.eval o).run P w = .ok (.value (.int .i64 n)) w := by
  have h := run_len_slice (P := P) (w := w) t o.type A n c hu
  unfold execOp
  simp only [ho]
  have e3 : (resolve a.eval { callee := .builtin .len, args := #[x], argTypes := #[t] } o.type) = pure { target := .builtin .len #[t] o.type (#[x].map fun | .const _ => true | _ => false), args := #[a.eval x] } := by
    simp [resolve]; rfl
  rw [e3, hx]
  simp only [Sem.run_bind, Sem.run_pure, Result.andThen_ok, invoke, builtin, h]
  rfl
theorem wpCan_len {t : TypeId} {x : Operand} {A : Option Addr} {n c : Nat} (hg : Region.wanted o (yielded ops a.tmps) = true) (ho : o.op = .call { callee := .builtin .len, args := #[x], argTypes := #[t] }) (hx : a.eval x = .slice A n c) (hu : P.underlying t = some (.slice (P.elem t)))
    (hQ : ∀ c a v w, Q (.panic c) (a.put o.dst v) w → Q (.panic c) a w) (h : wpCan P ops Q N T p (a.put o.dst (.int .i64 n)) w) : wpCan P ops Q N T ((o, false) :: p) a w := wpCan_all hg hQ (fun _ => run_op_len ho hx hu) h
end
/-- One text, held against itself. -/
theorem Same_txts {A : Option Addr} {n c : Nat} {l : List Nat} {A' : Option Addr} {n' c' B B' : Nat} {w : World} (h : Txt w B A n c l) (h' : Txt w B' A' n' c' l) (hl : ∀ x ∈ l, x < 256) :
    Calls Try.prog 16 #[.slice A n c, .slice A' n' c'] w fun e w' => e = .returned (.bool true) ∧ w = w' := by
  refine (Same_txt A n c l A' n' c' l (max B B') w (h.more (Nat.le_max_left _ _)) (h'.more (Nat.le_max_right _ _)) hl hl).mono ?_
  rintro e w' ⟨rfl, rfl⟩
  simp
set_option maxRecDepth 100000 in
set_option maxHeartbeats 2000000 in
theorem SameFrame_self {p : PFr} {A A' : Option Addr} {n c n' c' B B' : Nat} {w : World} (hn : p.box.length = n) (hn' : p.box.length = n') (h : Txt w B A n c p.box) (h' : Txt w B' A' n' c' p.box) (hB : B ≤ w.heap.size) (hB' : B' ≤ w.heap.size) (hl : ∀ x ∈ p.box, x < 256) :
    Calls Try.prog 33 #[.agg (arrV 4 (frF p A c)), .agg (arrV 4 (frF p A' c'))] w fun e w' => e = .returned (.bool true) ∧ Below w.heap.size w w' := by
  subst hn hn'
  obtain ⟨ep, fr, ge, bx⟩ := p
  have H := Lib.hid h
  have H' := Lib.hid h'
  have HL := Lib.hid hl
  clear h h' hl
  go_enter Try.func33, Try.ntmps33
  obtain ⟨g0, g1, hz, hb⟩ := alloc2 w (.cells (arrV 4 (frF ⟨ep, fr, ge, bx⟩ A c)) 27) (.cells (arrV 4 (frF ⟨ep, fr, ge, bx⟩ A' c')) 27)
  have c00 : World.cell? _ ⟨w.heap.size, 0, none⟩ = some (.int .u64 (ep : Int)) := cell_arrV g0 0 (by omega)
  have c01 : World.cell? _ ⟨w.heap.size, 1, none⟩ = some (.int .i64 (fr : Int)) := cell_arrV g0 1 (by omega)
  have c02 : World.cell? _ ⟨w.heap.size, 2, none⟩ = some (.int .u64 (ge : Int)) := cell_arrV g0 2 (by omega)
  have c03 : World.cell? _ ⟨w.heap.size, 3, none⟩ = some (.slice A bx.length c) := cell_arrV g0 3 (by omega)
  have c10 : World.cell? _ ⟨w.heap.size + 1, 0, none⟩ = some (.int .u64 (ep : Int)) := cell_arrV g1 0 (by omega)
  have c11 : World.cell? _ ⟨w.heap.size + 1, 1, none⟩ = some (.int .i64 (fr : Int)) := cell_arrV g1 1 (by omega)
  have c12 : World.cell? _ ⟨w.heap.size + 1, 2, none⟩ = some (.int .u64 (ge : Int)) := cell_arrV g1 2 (by omega)
  have c13 : World.cell? _ ⟨w.heap.size + 1, 3, none⟩ = some (.slice A' bx.length c') := cell_arrV g1 3 (by omega)
  have t := H.out.below' hb hB
  have t' := H'.out.below' hb hB'
  go_wp2_with (go_at_call 16; (with_reducible refine (Same_txts t t' HL.out).mono ?_); rintro e w2 ⟨rfl, rfl⟩)
  go_ret
  exact ⟨rfl, hb⟩
/-- A welcome's texts, where they lie. -/
structure WlOk (w : World) (B : Nat) (p : PWl) (A : Nat → Option Addr) (c : Nat → Nat) : Prop where
  low : B ≤ w.heap.size
  txt : ∀ j, j < 3 → Txt w B (A j) (p.tx j).length (c j) (p.tx j)
set_option maxRecDepth 100000 in
set_option maxHeartbeats 2000000 in
theorem SameWelcome_self {p : PWl} {A A' : Nat → Option Addr} {c c' : Nat → Nat} {B B' : Nat} {w : World} (h : WlOk w B p A c) (h' : WlOk w B' p A' c') (hl : ∀ j, j < 3 → ∀ x ∈ p.tx j, x < 256) :
    Calls Try.prog 32 #[.agg (arrV 4 (wlG p.tw p.tx A c 3)), .agg (arrV 4 (wlG p.tw p.tx A' c' 3))] w fun e w' => e = .returned (.bool true) ∧ Below w.heap.size w w' := by
  have H := Lib.hid h
  have H' := Lib.hid h'
  have HL := Lib.hid hl
  clear h h' hl
  go_enter Try.func32, Try.ntmps32
  obtain ⟨g0, g1, hz, hb⟩ := alloc2 w (.cells (arrV 4 (wlG p.tw p.tx A c 3)) 24) (.cells (arrV 4 (wlG p.tw p.tx A' c' 3)) 24)
  have c00 : World.cell? _ ⟨w.heap.size, 0, none⟩ = some (.int .i64 (p.tw : Int)) := cell_arrV g0 0 (by omega)
  have c01 : World.cell? _ ⟨w.heap.size, 1, none⟩ = some (.slice (A 0) (p.tx 0).length (c 0)) := cell_arrV g0 1 (by omega)
  have c02 : World.cell? _ ⟨w.heap.size, 2, none⟩ = some (.slice (A 1) (p.tx 1).length (c 1)) := cell_arrV g0 2 (by omega)
  have c03 : World.cell? _ ⟨w.heap.size, 3, none⟩ = some (.slice (A 2) (p.tx 2).length (c 2)) := cell_arrV g0 3 (by omega)
  have c10 : World.cell? _ ⟨w.heap.size + 1, 0, none⟩ = some (.int .i64 (p.tw : Int)) := cell_arrV g1 0 (by omega)
  have c11 : World.cell? _ ⟨w.heap.size + 1, 1, none⟩ = some (.slice (A' 0) (p.tx 0).length (c' 0)) := cell_arrV g1 1 (by omega)
  have c12 : World.cell? _ ⟨w.heap.size + 1, 2, none⟩ = some (.slice (A' 1) (p.tx 1).length (c' 1)) := cell_arrV g1 2 (by omega)
  have c13 : World.cell? _ ⟨w.heap.size + 1, 3, none⟩ = some (.slice (A' 2) (p.tx 2).length (c' 2)) := cell_arrV g1 3 (by omega)
  have t0 := (H.out.txt 0 (by omega)).below' hb H.out.low
  have t1 := (H.out.txt 1 (by omega)).below' hb H.out.low
  have t2 := (H.out.txt 2 (by omega)).below' hb H.out.low
  have u0 := (H'.out.txt 0 (by omega)).below' hb H'.out.low
  have u1 := (H'.out.txt 1 (by omega)).below' hb H'.out.low
  have u2 := (H'.out.txt 2 (by omega)).below' hb H'.out.low
  have HA := fun w h1 h2 => Same_txts (w := w) (A := A 0) (A' := A' 0) (B := B) (B' := B') (n := (p.tx 0).length) (n' := (p.tx 0).length) (c := c 0) (c' := c' 0) h1 h2 (HL.out 0 (by omega))
  have HB := fun w h1 h2 => Same_txts (w := w) (A := A 1) (A' := A' 1) (B := B) (B' := B') (n := (p.tx 1).length) (n' := (p.tx 1).length) (c := c 1) (c' := c' 1) h1 h2 (HL.out 1 (by omega))
  have HC := fun w h1 h2 => Same_txts (w := w) (A := A 2) (A' := A' 2) (B := B) (B' := B') (n := (p.tx 2).length) (n' := (p.tx 2).length) (c := c 2) (c' := c' 2) h1 h2 (HL.out 2 (by omega))
  have T0 := Lib.hid t0
  have T1 := Lib.hid t1
  have T2 := Lib.hid t2
  have U0 := Lib.hid u0
  have U1 := Lib.hid u1
  have U2 := Lib.hid u2
  clear t0 t1 t2 u0 u1 u2
  go_wp2_with (first | (go_at_call 16; (with_reducible refine (HA _ T0.out U0.out).mono ?_); rintro e w2 ⟨rfl, rfl⟩) | (go_at_call 16; (with_reducible refine (HB _ T1.out U1.out).mono ?_); rintro e w2 ⟨rfl, rfl⟩) | (go_at_call 16; (with_reducible refine (HC _ T2.out U2.out).mono ?_); rintro e w2 ⟨rfl, rfl⟩))
  go_ret
  exact ⟨rfl, hb⟩
theorem toP_B {c : Com} {tg : Nat → Nat} (h : ComB c) (a : At) : ComB (comOf (toP c tg) a) where
  ep := h.ep
  ppt := fun i hi j hj => by
    have hi' : i < c.pn := by have : i < ((List.range c.pn).map _).length := hi; simpa using this
    show (((List.range c.pn).map _).getD i zP).pt j < 256
    rw [getD_mapr _ _ _ _ hi']
    show k32 (c.ppt i) j < 256
    rw [k32_at _ hj]
    exact h.ppt i hi' j hj
  pt := fun j hj => by show k32 c.pt j < 256; rw [k32_at _ hj]; exact h.pt j hj
  key := fun i hi j hj => by
    have hi' : i < c.kn := by have : i < ((List.range c.kn).map _).length := hi; simpa using this
    show (((List.range c.kn).map _).getD i (fun _ => 0)) j < 256
    rw [getD_mapr _ _ _ _ hi']
    show k32 (c.key i) j < 256
    rw [k32_at _ hj]
    exact h.key i hi' j hj
  bx := fun i hi x hx => by
    have hi' : i < c.bn := by have : i < ((List.range c.bn).map _).length := hi; simpa using this
    have : (comOf (toP c tg) a).bx i = c.bx i := by
      show ((List.range c.bn).map _).getD i [] = _
      rw [getD_mapr _ _ _ _ hi']
    rw [this] at hx
    exact h.bx i hi' x hx
end Go.Proofs.Ytfbfkfdkigpkgaa
