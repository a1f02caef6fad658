/- What was read is, written, what stood there; what is written is read (layer 16, plain). -/
import Derived.Test.YtfbfkfdkigpkgaaRde
import Derived.Test.YtfbfkfdkigpkgaaRdw
import Derived.Test.YtfbfkfdkigpkgaaOth
import Derived.Test.YtfbfkfdkigpkgaaWrC
namespace Go.Proofs.Ytfbfkfdkigpkgaa
set_option linter.unusedSimpArgs false
set_option linter.unusedVariables false
attribute [local irreducible] beL beK

section
variable {α : Type} {f : Rs → α × Rs} {g : α → List Nat} {V : α → Prop} (ok : α → Prop) [DecidablePred ok] (z : α) (K : Nat)
/-- What bytes are, as a message of kind K, or why not. -/
def rdV (f : Rs → α × Rs) (l : List Nat) : α × Int :=
  if 1048576 < l.length then (z, 4) else if (numP 1 ⟨l, false⟩).1 ≠ K then (z, 3)
  else if (f (numP 1 ⟨l, false⟩).2).2.ov = false ∧ (f (numP 1 ⟨l, false⟩).2).2.l.length = 0 ∧ ok (f (numP 1 ⟨l, false⟩).2).1 then ((f (numP 1 ⟨l, false⟩).2).1, 0) else (z, 3)
theorem rdV_is (l : List Nat) (hl : l.length ≤ 1048576) : (∃ x, rdV ok z K f l = (x, 0)) ∨ rdV ok z K f l = (z, 3) := by
  unfold rdV
  rw [if_neg (by omega)]
  split
  · exact .inr rfl
  · split
    · exact .inl ⟨_, rfl⟩
    · exact .inr rfl
theorem kind_read {l : List Nat} (hb : Byt l) (h0 : K ≠ 0) (h : (numP 1 ⟨l, false⟩).1 = K) : l = [K] ++ (numP 1 ⟨l, false⟩).2.l ∧ (numP 1 ⟨l, false⟩).2.ov = false := by
  have e : numP 1 ⟨l, false⟩ = (K, (numP 1 ⟨l, false⟩).2) := by rw [← h]
  have ho := numP_ne h0 e
  have r := (rw_num 1).read ⟨l, false⟩ hb ho
  rw [h] at r
  refine ⟨?_, ho⟩
  have r1 := r.1
  rw [beL_one K (by have := r.2; omega)] at r1
  exact r1
theorem kind_back (hK : K < 256) (m : List Nat) : numP 1 ⟨[K] ++ m, false⟩ = (K, ⟨m, false⟩) := by
  have := (rw_num 1).back K m (by omega)
  rw [beL_one K hK] at this
  exact this
variable {ok z K}
theorem rdV_read (h : Rw f g V) (h0 : K ≠ 0) {l : List Nat} (hb : Byt l) {x : α} (hr : rdV ok z K f l = (x, 0)) : l = [K] ++ g x ∧ V x ∧ ok x ∧ l.length ≤ 1048576 := by
  unfold rdV at hr
  split at hr
  · injection hr with _ h2; cases h2
  · split at hr
    · injection hr with _ h2; cases h2
    · split at hr
      · rename_i hl hk hc
        injection hr with h1 _
        have hk' : (numP 1 ⟨l, false⟩).1 = K := by simpa using hk
        have r := kind_read K hb h0 hk'
        generalize (numP 1 ⟨l, false⟩).2 = s at *
        have hb' : Byt s.l := fun y hy => hb y (by rw [r.1]; simp [hy])
        have q := h.read s hb' hc.1
        have e0 : (f s).2.l = [] := List.eq_nil_of_length_eq_zero hc.2.1
        rw [e0, List.append_nil, h1] at q
        rw [h1] at hc
        exact ⟨by rw [← q.1]; exact r.1, q.2, hc.2.2, by omega⟩
      · injection hr with _ h2; cases h2
theorem rdV_back (h : Rw f g V) (hK : K < 256) {x : α} (hV : V x) (ho : ok x) (hl : ([K] ++ g x).length ≤ 1048576) : rdV ok z K f ([K] ++ g x) = (x, 0) := by
  unfold rdV
  have b := h.back x [] hV
  rw [List.append_nil] at b
  rw [if_neg (by omega), kind_back K hK]
  dsimp only
  rw [if_neg (by simp), b]
  dsimp only
  rw [if_pos ⟨rfl, rfl, ho⟩]
theorem rdV_more (h : Rw f g V) (hK : K < 256) {x : α} (hV : V x) {m : List Nat} (hm : m.length ≠ 0) (hl : ([K] ++ g x ++ m).length ≤ 1048576) : rdV ok z K f ([K] ++ g x ++ m) = (z, 3) := by
  unfold rdV
  rw [if_neg (by omega), List.append_assoc, kind_back K hK]
  dsimp only
  rw [if_neg (by simp), h.back x m hV]
  dsimp only
  rw [if_neg (fun h => hm h.2.1)]
theorem rdV_less (h : Rw f g V) (h0 : K ≠ 0) (hK : K < 256) {l : List Nat} (hb : Byt l) {x : α} (hr : rdV ok z K f l = (x, 0)) : rdV ok z K f (l.take (l.length - 1)) = (z, 3) := by
  have r := rdV_read h h0 hb hr
  have hlen : 1 ≤ l.length := by rw [r.1]; simp
  rcases rdV_is ok z K (f := f) (l.take (l.length - 1)) (by rw [List.length_take]; omega) with ⟨y, hy⟩ | hy
  · exfalso
    have q := rdV_read h h0 (byt_take hb _) hy
    have hm : (l.drop (l.length - 1)).length ≠ 0 := by rw [List.length_drop]; omega
    have e : l = [K] ++ g y ++ l.drop (l.length - 1) := by rw [← q.1]; exact (List.take_append_drop ..).symm
    have c := rdV_more (ok := ok) (z := z) h hK q.2.1 hm (by rw [← e]; exact r.2.2.2)
    rw [← e, hr] at c
    injection c with _ c
    cases c
  · exact hy
theorem rdV_over (h : Rw f g V) (h0 : K ≠ 0) (hK : K < 256) {l m : List Nat} (hb : Byt l) {x : α} (hr : rdV ok z K f l = (x, 0)) (hm : m.length ≠ 0) (hl : (l ++ m).length ≤ 1048576) : rdV ok z K f (l ++ m) = (z, 3) := by
  have r := rdV_read h h0 hb hr
  have := rdV_more (ok := ok) (z := z) h hK r.2.1 hm (by rw [← r.1]; exact hl)
  rw [← r.1] at this
  exact this
end
def okW (p : PWl) : Prop := MayW (p.tw : Int) p.c.length p.t.length p.b.length
instance : DecidablePred okW := fun p => by unfold okW; infer_instance
instance : DecidablePred OkP := fun p => inferInstance
theorem cmV_rd (l : List Nat) : cmV l = rdV OkP noCom 1 comP l := rfl
theorem wlV_rd (l : List Nat) : wlV l = rdV okW noWl 2 wlP l := rfl
def PWl.L (p : PWl) : List Nat := beL 4 p.tw ++ ((beL 4 p.c.length ++ p.c) ++ ((beL 4 p.t.length ++ p.t) ++ (beL 4 p.b.length ++ p.b)))
def PWl.V (p : PWl) : Prop := p.tw < 256 ^ 4 ∧ p.c.length < 256 ^ 4 ∧ p.t.length < 256 ^ 4 ∧ p.b.length < 256 ^ 4
theorem rw_wl : Rw wlP PWl.L PWl.V :=
  rw_map (f := wlRaw) (rw_then (rw_num 4) fun _ => rw_then rw_txt fun _ => rw_then rw_txt fun _ => rw_txt) (fun x => (⟨x.1, x.2.1, x.2.2.1, x.2.2.2⟩ : PWl)) (fun p => (p.tw, p.c, p.t, p.b)) (fun _ => rfl) (fun _ => rfl) (fun _ => rfl) (fun _ => rfl)
def PFr.L (p : PFr) : List Nat := beL 8 p.ep ++ (beL 4 p.frm ++ (beL 8 p.gen ++ p.box))
def PFr.V (p : PFr) : Prop := p.ep < 256 ^ 8 ∧ p.frm < 256 ^ 4 ∧ p.gen < 256 ^ 8
def okF (p : PFr) : Prop := MayF (p.ep : Int) (p.frm : Int) (p.gen : Int) p.box.length
theorem frV_is (l : List Nat) (hl : l.length ≤ 1048576) : (∃ x, frV l = (x, 0)) ∨ frV l = (noFr, 3) := by
  unfold frV
  rw [if_neg (by omega)]
  split
  · exact .inr rfl
  · split
    · exact .inl ⟨_, rfl⟩
    · exact .inr rfl
theorem frV_read {l : List Nat} (hb : Byt l) {x : PFr} (hr : frV l = (x, 0)) : l = [3] ++ x.L ∧ x.V ∧ okF x ∧ l.length ≤ 1048576 := by
  unfold frV at hr
  split at hr
  · injection hr with _ h2; cases h2
  · split at hr
    · injection hr with _ h2; cases h2
    · split at hr
      · rename_i hl hk hc
        injection hr with h1 _
        have hk' : (numP 1 ⟨l, false⟩).1 = 3 := by simpa using hk
        have r := kind_read 3 hb (by decide) hk'
        generalize (numP 1 ⟨l, false⟩).2 = s at *
        have hb' : Byt s.l := fun y hy => hb y (by rw [r.1]; simp [hy])
        obtain ⟨ep, s2, E1⟩ := pair_of (numP 8 s)
        obtain ⟨fr, s3, E2⟩ := pair_of (numP 4 s2)
        obtain ⟨ge, s4, E3⟩ := pair_of (numP 8 s3)
        obtain ⟨bx, s5, E4⟩ := pair_of (cutP s4.l.length s4)
        rw [frP_is E1 E2 E3 E4] at h1 hc
        subst h1
        have o5 : s5.ov = false := hc.1
        have R4 := rw_cut s4.l.length
        have o4 : s4.ov = false := by have := R4.was (s := s4); rw [E4] at this; exact this o5
        have o3 : s3.ov = false := by have := (rw_num 8).was (s := s3); rw [E3] at this; exact this o4
        have o2 : s2.ov = false := by have := (rw_num 4).was (s := s2); rw [E2] at this; exact this o3
        have q1 := (rw_num 8).read s hb' (by rw [E1]; exact o2)
        rw [E1] at q1
        have b2 : Byt s2.l := fun y hy => hb' y (by rw [q1.1]; simp [hy])
        have q2 := (rw_num 4).read s2 b2 (by rw [E2]; exact o3)
        rw [E2] at q2
        have b3 : Byt s3.l := fun y hy => b2 y (by rw [q2.1]; simp [hy])
        have q3 := (rw_num 8).read s3 b3 (by rw [E3]; exact o4)
        rw [E3] at q3
        have b4 : Byt s4.l := fun y hy => b3 y (by rw [q3.1]; simp [hy])
        have q4 := R4.read s4 b4 (by rw [E4]; exact o5)
        rw [E4] at q4
        have e5 : s5.l = [] := by
          have := congrArg List.length q4.1
          rw [List.length_append] at this
          have h2 : bx.length = s4.l.length := q4.2
          refine List.eq_nil_of_length_eq_zero ?_
          dsimp only at this
          omega
        have q41 : s4.l = bx := by
          have := q4.1
          dsimp only at this
          rw [e5, List.append_nil] at this
          exact this
        refine ⟨?_, ⟨q1.2, q2.2, q3.2⟩, hc.2, by omega⟩
        refine r.1.trans ?_
        unfold PFr.L
        rw [q1.1, q2.1, q3.1, q41]
      · injection hr with _ h2; cases h2
theorem frV_back {x : PFr} (hV : x.V) (ho : okF x) (hl : ([3] ++ x.L).length ≤ 1048576) : frV ([3] ++ x.L) = (x, 0) := by
  have E1 : numP 8 ⟨x.L, false⟩ = (x.ep, ⟨beL 4 x.frm ++ (beL 8 x.gen ++ x.box), false⟩) := (rw_num 8).back x.ep _ hV.1
  have E2 : numP 4 ⟨beL 4 x.frm ++ (beL 8 x.gen ++ x.box), false⟩ = (x.frm, ⟨beL 8 x.gen ++ x.box, false⟩) := (rw_num 4).back x.frm _ hV.2.1
  have E3 : numP 8 ⟨beL 8 x.gen ++ x.box, false⟩ = (x.gen, ⟨x.box, false⟩) := (rw_num 8).back x.gen _ hV.2.2
  have E4 : cutP x.box.length ⟨x.box, false⟩ = (x.box, ⟨[], false⟩) := by
    have := (rw_cut x.box.length).back x.box [] rfl
    rw [List.append_nil] at this
    exact this
  have e := frP_is E1 E2 E3 E4
  unfold frV
  rw [if_neg (by omega), kind_back 3 (by decide)]
  dsimp only
  rw [if_neg (by simp), e]
  dsimp only
  rw [if_pos ⟨rfl, ho⟩]
/-- No bytes are of two kinds. -/
theorem two_kinds {l m m' : List Nat} {K K' : Nat} (h : l = [K] ++ m) (h' : l = [K'] ++ m') : K = K' := by
  rw [h] at h'
  injection h'
theorem cm_wl {l : List Nat} (hb : Byt l) {p : PCom} {q : PWl} (h : cmV l = (p, 0)) (h' : wlV l = (q, 0)) : False := by
  have a := rdV_read rw_com (by decide) hb ((cmV_rd l).symm.trans h)
  have b := rdV_read rw_wl (by decide) hb ((wlV_rd l).symm.trans h')
  exact absurd (two_kinds a.1 b.1) (by decide)
theorem cm_fr {l : List Nat} (hb : Byt l) {p : PCom} {q : PFr} (h : cmV l = (p, 0)) (h' : frV l = (q, 0)) : False := by
  have a := rdV_read rw_com (by decide) hb ((cmV_rd l).symm.trans h)
  have b := frV_read hb h'
  exact absurd (two_kinds a.1 b.1) (by decide)
theorem wl_fr {l : List Nat} (hb : Byt l) {p : PWl} {q : PFr} (h : wlV l = (p, 0)) (h' : frV l = (q, 0)) : False := by
  have a := rdV_read rw_wl (by decide) hb ((wlV_rd l).symm.trans h)
  have b := frV_read hb h'
  exact absurd (two_kinds a.1 b.1) (by decide)
/-! ### Written anew -/
theorem cm_lT {l : List Nat} (hb : Byt l) {p : PCom} (h : cmV l = (p, 0)) (a : At) : lT (comOf p a) p.tag = l := by
  have r := rdV_read rw_com (by decide) hb ((cmV_rd l).symm.trans h)
  unfold lT
  rw [if_pos ((ok_at p a).2 r.2.2.1), com_L]
  exact r.1.symm
theorem cm_chk {l : List Nat} (hb : Byt l) {p : PCom} (h : cmV l = (p, 0)) (a : At) : chk (comOf p a) = 0 := by
  have r := rdV_read rw_com (by decide) hb ((cmV_rd l).symm.trans h)
  exact chk_yes ((ok_at p a).2 r.2.2.1)
theorem cm_mid {l : List Nat} (hb : Byt l) {p : PCom} (h : cmV l = (p, 0)) (a : At) : MidC (comOf p a) := by
  have r := rdV_read rw_com (by decide) hb ((cmV_rd l).symm.trans h)
  refine mid_of p a ?_
  have := congrArg List.length r.1
  rw [List.length_append] at this
  have := r.2.2.2
  simp at *
  omega
theorem cm_less {l : List Nat} (hb : Byt l) {p : PCom} (h : cmV l = (p, 0)) : cmV (l.take (l.length - 1)) = (noCom, 3) := rdV_less rw_com (by decide) (by decide) hb ((cmV_rd l).symm.trans h)
theorem cm_over {l : List Nat} (hb : Byt l) {p : PCom} (h : cmV l = (p, 0)) (x : Nat) (hl : l.length ≤ 4000) : cmV (l ++ [x]) = (noCom, 3) := rdV_over rw_com (by decide) (by decide) hb ((cmV_rd l).symm.trans h) (by simp) (by simp; omega)
theorem wl_less {l : List Nat} (hb : Byt l) {p : PWl} (h : wlV l = (p, 0)) : wlV (l.take (l.length - 1)) = (noWl, 3) := rdV_less rw_wl (by decide) (by decide) hb ((wlV_rd l).symm.trans h)
theorem wl_over {l : List Nat} (hb : Byt l) {p : PWl} (h : wlV l = (p, 0)) (x : Nat) (hl : l.length ≤ 4000) : wlV (l ++ [x]) = (noWl, 3) := rdV_over rw_wl (by decide) (by decide) hb ((wlV_rd l).symm.trans h) (by simp) (by simp; omega)
theorem wl_x {l : List Nat} (hb : Byt l) {p : PWl} (h : wlV l = (p, 0)) : xW (p.tw : Int) p.c.length p.t.length p.b.length = 0 := by
  have r := rdV_read rw_wl (by decide) hb ((wlV_rd l).symm.trans h)
  exact if_pos r.2.2.1
theorem wl_l {l : List Nat} (hb : Byt l) {p : PWl} (h : wlV l = (p, 0)) : lW (p.tw : Int) p.c.length p.t.length p.b.length p.c p.t p.b = l := by
  have r := rdV_read rw_wl (by decide) hb ((wlV_rd l).symm.trans h)
  unfold lW
  rw [if_pos (show MayW _ _ _ _ from r.2.2.1)]
  refine Eq.trans ?_ r.1.symm
  unfold welcomeL PWl.L
  rw [Int.toNat_natCast]
  simp only [List.append_assoc]
theorem fr_x {l : List Nat} (hb : Byt l) {p : PFr} (h : frV l = (p, 0)) : xF (p.ep : Int) (p.frm : Int) (p.gen : Int) p.box.length = 0 := by
  have r := frV_read hb h
  exact if_pos r.2.2.1
theorem fr_l {l : List Nat} (hb : Byt l) {p : PFr} (h : frV l = (p, 0)) : lF (p.ep : Int) (p.frm : Int) (p.gen : Int) p.box.length p.box = l := by
  have r := frV_read hb h
  unfold lF
  rw [if_pos (show MayF _ _ _ _ from r.2.2.1)]
  refine Eq.trans ?_ r.1.symm
  unfold headL PFr.L
  simp only [Int.toNat_natCast, List.append_assoc]
end Go.Proofs.Ytfbfkfdkigpkgaa
