/- What any bytes are, as a frame, a welcome, a commit (plain). -/
import Derived.Test.YtfbfkfdkigpkgaaPar
import Derived.Test.YtfbfkfdkigpkgaaMay
namespace Go.Proofs.Ytfbfkfdkigpkgaa
set_option linter.unusedSimpArgs false
set_option linter.unusedVariables false
attribute [local irreducible] beL beK

structure PFr where
  ep : Nat
  frm : Nat
  gen : Nat
  box : List Nat
def restP (s : Rs) : List Nat × Rs := cutP s.l.length s
def frRaw : Rs → (Nat × Nat × Nat × List Nat) × Rs := thenP (numP 8) fun _ => thenP (numP 4) fun _ => thenP (numP 8) fun _ => restP
def frP (s : Rs) : PFr × Rs := (⟨(frRaw s).1.1, (frRaw s).1.2.1, (frRaw s).1.2.2.1, (frRaw s).1.2.2.2⟩, (frRaw s).2)
theorem frP_is {s s1 s2 s3 s4 : Rs} {ep fr ge : Nat} {b : List Nat} (h1 : numP 8 s = (ep, s1)) (h2 : numP 4 s1 = (fr, s2)) (h3 : numP 8 s2 = (ge, s3)) (h4 : cutP s3.l.length s3 = (b, s4)) : frP s = (⟨ep, fr, ge, b⟩, s4) := by
  have e : frRaw s = ((ep, fr, ge, b), s4) := by
    unfold frRaw
    simp only [thenP, restP, h1, h2, h3, h4]
  unfold frP
  rw [e]
/-- What bytes are, as a frame, or why not. -/
def frV (l : List Nat) : PFr × Int :=
  if 1048576 < l.length then (⟨0, 0, 0, []⟩, 4) else if (numP 1 ⟨l, false⟩).1 ≠ 3 then (⟨0, 0, 0, []⟩, 3)
  else if (frP (numP 1 ⟨l, false⟩).2).2.ov = false ∧ MayF ((frP (numP 1 ⟨l, false⟩).2).1.ep : Int) ((frP (numP 1 ⟨l, false⟩).2).1.frm : Int) ((frP (numP 1 ⟨l, false⟩).2).1.gen : Int) (frP (numP 1 ⟨l, false⟩).2).1.box.length then ((frP (numP 1 ⟨l, false⟩).2).1, 0) else (⟨0, 0, 0, []⟩, 3)
structure PWl where
  tw : Nat
  c : List Nat
  t : List Nat
  b : List Nat
def txP (s : Rs) : List Nat × Rs := cutP (numP 4 s).1 (numP 4 s).2
theorem txP_is {s s1 s2 : Rs} {n : Nat} {l : List Nat} (h1 : numP 4 s = (n, s1)) (h2 : cutP n s1 = (l, s2)) : txP s = (l, s2) := by
  unfold txP
  simp only [h1, h2]
theorem rw_txt : Rw txP (fun l => beL 4 l.length ++ l) (fun l => l.length < 256 ^ 4) where
  over := fun s hs => (rw_cut _).over _ ((rw_num 4).over s hs)
  read := fun s hb e => by
    have e1 := (rw_cut _).was e
    have r1 := (rw_num 4).read s hb e1
    have r2 := (rw_cut _).read _ ((rw_num 4).left hb e1) e
    unfold txP
    refine ⟨?_, ?_⟩
    · rw [r2.2, List.append_assoc, ← r2.1]
      exact r1.1
    · rw [r2.2]
      exact r1.2
  back := fun x l hx => by
    unfold txP
    rw [List.append_assoc, (rw_num 4).back x.length _ hx]
    exact (rw_cut x.length).back x l rfl
def wlRaw : Rs → (Nat × List Nat × List Nat × List Nat) × Rs := thenP (numP 4) fun _ => thenP txP fun _ => thenP txP fun _ => txP
def wlP (s : Rs) : PWl × Rs := (⟨(wlRaw s).1.1, (wlRaw s).1.2.1, (wlRaw s).1.2.2.1, (wlRaw s).1.2.2.2⟩, (wlRaw s).2)
theorem wlP_is {s s1 s2 s3 s4 : Rs} {tw : Nat} {c t b : List Nat} (h1 : numP 4 s = (tw, s1)) (h2 : txP s1 = (c, s2)) (h3 : txP s2 = (t, s3)) (h4 : txP s3 = (b, s4)) : wlP s = (⟨tw, c, t, b⟩, s4) := by
  have e : wlRaw s = ((tw, c, t, b), s4) := by
    unfold wlRaw
    simp only [thenP, h1, h2, h3, h4]
  unfold wlP
  rw [e]
/-- What bytes are, as a welcome, or why not. -/
def wlV (l : List Nat) : PWl × Int :=
  if 1048576 < l.length then (⟨0, [], [], []⟩, 4) else if (numP 1 ⟨l, false⟩).1 ≠ 2 then (⟨0, [], [], []⟩, 3)
  else if (wlP (numP 1 ⟨l, false⟩).2).2.ov = false ∧ (wlP (numP 1 ⟨l, false⟩).2).2.l.length = 0 ∧ MayW ((wlP (numP 1 ⟨l, false⟩).2).1.tw : Int) (wlP (numP 1 ⟨l, false⟩).2).1.c.length (wlP (numP 1 ⟨l, false⟩).2).1.t.length (wlP (numP 1 ⟨l, false⟩).2).1.b.length then ((wlP (numP 1 ⟨l, false⟩).2).1, 0) else (⟨0, [], [], []⟩, 3)
/-- A commit of what was read, and of where its parts lie. -/
structure At where
  PA : Option Addr
  pc : Nat
  SA : Option Addr
  sc : Nat
  DA : Nat → Option Addr
  dc : Nat → Nat
  KA : Option Addr
  kc : Nat
  BA : Option Addr
  bc : Nat
  XA : Nat → Option Addr
  xc : Nat → Nat
def zP : PProp := ⟨0, 0, fun _ => 0⟩
def zS : PStep := ⟨0, 0, []⟩
def comOf (p : PCom) (a : At) : Com where
  ep := p.ep
  by_ := p.by_
  PA := a.PA
  pn := p.props.length
  pc := a.pc
  kind := fun i => ((p.props.getD i zP).kind : Int)
  id := fun i => ((p.props.getD i zP).id : Int)
  ppt := fun i => (p.props.getD i zP).pt
  pt := p.pt
  SA := a.SA
  sn := p.steps.length
  sc := a.sc
  node := fun i => ((p.steps.getD i zS).node : Int)
  frm := fun i => ((p.steps.getD i zS).frm : Int) - 1
  DA := a.DA
  dn := fun i => (p.steps.getD i zS).sd.length
  dc := a.dc
  dv := fun i j => (((p.steps.getD i zS).sd.getD j 0 : Nat) : Int)
  KA := a.KA
  kn := p.new.length
  kc := a.kc
  key := fun i => p.new.getD i (fun _ => 0)
  BA := a.BA
  bn := p.boxes.length
  bc := a.bc
  XA := a.XA
  xn := fun i => (p.boxes.getD i []).length
  xc := a.xc
  bx := fun i => p.boxes.getD i []
def noAt : At := ⟨none, 0, none, 0, fun _ => none, fun _ => 0, none, 0, none, 0, fun _ => none, fun _ => 0⟩
def OkP (p : PCom) : Prop := OkCom (comOf p noAt)
instance (p : PCom) : Decidable (OkP p) := by unfold OkP; infer_instance
theorem sends_at (p : PCom) (a b : At) : ∀ k, sends (comOf p a) k = sends (comOf p b) k
  | 0 => rfl
  | k + 1 => by unfold sends; rw [sends_at p a b k]; rfl
theorem ok_at (p : PCom) (a : At) : OkCom (comOf p a) ↔ OkP p := by
  unfold OkP OkCom
  rw [sends_at p a noAt]
  exact Iff.rfl
def noCom : PCom := ⟨0, 0, [], fun _ => 0, [], [], [], fun _ => 0⟩
/-- What bytes are, as a commit, or why not. -/
def cmV (l : List Nat) : PCom × Int :=
  if 1048576 < l.length then (noCom, 4) else if (numP 1 ⟨l, false⟩).1 ≠ 1 then (noCom, 3)
  else if (comP (numP 1 ⟨l, false⟩).2).2.ov = false ∧ (comP (numP 1 ⟨l, false⟩).2).2.l.length = 0 ∧ OkP (comP (numP 1 ⟨l, false⟩).2).1 then ((comP (numP 1 ⟨l, false⟩).2).1, 0) else (noCom, 3)

/-! ### How long what was read is -/
/-- What was read is not longer than what was there, but for what was missing. -/
structure Sl {α : Type} (f : Rs → α × Rs) (g : α → List Nat) (k : Nat) : Prop where
  all : ∀ s, (g (f s).1).length + (f s).2.l.length ≤ s.l.length + k
  ok : ∀ s, (f s).2.ov = false → (g (f s).1).length + (f s).2.l.length ≤ s.l.length
section
variable {α β : Type} {f : Rs → α × Rs} {g : α → List Nat}
theorem sl_num (k : Nat) : Sl (numP k) (beL k) k where
  all := fun s => by
    rw [beL_len]
    unfold numP cutP
    split
    · dsimp only; omega
    · dsimp only; rw [List.length_drop]; omega
  ok := fun s h => by
    rw [beL_len]
    unfold numP cutP at *
    split at h
    · cases h
    · rw [if_neg (by assumption)]; dsimp only; rw [List.length_drop]; omega
theorem sl_cut (n : Nat) : Sl (cutP n) (fun l => l) 0 where
  all := fun s => by
    unfold cutP
    split
    · simp
    · simp; omega
  ok := fun s h => by
    unfold cutP
    split
    · simp
    · simp; omega
theorem sl_key : Sl keyP keyL 32 where
  all := fun s => by
    rw [keyL_len]
    unfold keyP cutP
    split
    · dsimp only; omega
    · dsimp only; rw [List.length_drop]; omega
  ok := fun s h => by
    rw [keyL_len]
    unfold keyP cutP at *
    split at h
    · cases h
    · rw [if_neg (by assumption)]; dsimp only; rw [List.length_drop]; omega
theorem sl_items {k : Nat} (h : Sl f g k) : ∀ n, Sl (itemsP f n) (fun l => l.flatMap g) k
  | 0 => ⟨fun s => by simp [itemsP], fun s _ => by simp [itemsP]⟩
  | n + 1 => by
    have ih := sl_items h n
    refine ⟨fun s => ?_, fun s hs => ?_⟩
    · unfold itemsP
      split
      · simp
      · have a := h.all s
        have b := ih.all (f s).2
        dsimp only
        rw [List.flatMap_cons, List.length_append]
        cases e : (f s).2.ov with
        | false => have := h.ok s e; omega
        | true => rw [items_over f n _ e] at b ⊢; simp; omega
    · unfold itemsP at *
      split at hs
      · rw [if_pos (by assumption)]; simp
      · rw [if_neg (by assumption)]
        dsimp only at hs ⊢
        have b := ih.ok (f s).2 hs
        rw [List.flatMap_cons, List.length_append]
        cases e : (f s).2.ov with
        | false => have := h.ok s e; omega
        | true => rw [items_over f n _ e] at hs; rw [e] at hs; cases hs
theorem sl_then {k m : Nat} {h : α → Rs → β × Rs} {g2 : α → β → List Nat} (h1 : Sl f g k) (hr : ∀ s, s.ov = true → ∀ a, (h a s).2.ov = true) (h2 : ∀ a, Sl (h a) (g2 a) m) : Sl (thenP f h) (fun x => g x.1 ++ g2 x.1 x.2) (k + m) where
  all := fun s => by
    have a := h1.all s
    have b := (h2 (f s).1).all (f s).2
    unfold thenP
    dsimp only
    rw [List.length_append]
    omega
  ok := fun s hs => by
    unfold thenP at *
    dsimp only at *
    have b := (h2 (f s).1).ok (f s).2 hs
    rw [List.length_append]
    cases e : (f s).2.ov with
    | false => have := h1.ok s e; omega
    | true => rw [hr _ e] at hs; cases hs
end
section
theorem sl_prop : Sl propP PProp.L 37 :=
  have h : Sl (thenP (numP 1) fun _ => thenP (numP 4) fun _ => keyP) _ (1 + (4 + 32)) := sl_then (sl_num 1) (fun s hs _ => (rw_then (rw_num 4) fun _ => rw_key).over s hs) fun _ => sl_then (sl_num 4) (fun s hs _ => rw_key.over s hs) fun _ => sl_key
  ⟨fun s => h.all s, fun s hs => h.ok s hs⟩
theorem sl_list {α : Type} {f : Rs → α × Rs} {g : α → List Nat} {k : Nat} (h : Sl f g k) (ho : ∀ s, s.ov = true → (f s).2.ov = true) (W : Nat) : Sl (listP W f) (fun l => beL W l.length ++ l.flatMap g) (W + k) where
  all := fun s => by
    have a := (sl_num W).all s
    have b := (sl_items h (numP W s).1).all (numP W s).2
    unfold listP
    rw [beL_len] at a
    rw [List.length_append, beL_len]
    omega
  ok := fun s hs => by
    unfold listP at *
    have b := (sl_items h (numP W s).1).ok (numP W s).2 hs
    rw [List.length_append, beL_len]
    cases e : (numP W s).2.ov with
    | false => have a := (sl_num W).ok s e; rw [beL_len] at a; omega
    | true => rw [items_over f _ _ e, e] at hs; cases hs
theorem sl_step : Sl stepP' PStep.L 8 :=
  have h : Sl (thenP (numP 2) fun _ => thenP (numP 2) fun _ => listP 2 (numP 2)) _ (2 + (2 + (2 + 2))) := sl_then (sl_num 2) (fun s hs _ => (rw_then (rw_num 2) fun _ => rw_list (rw_num 2) 2).over s hs) fun _ => sl_then (sl_num 2) (fun s hs _ => (rw_list (rw_num 2) 2).over s hs) fun _ => sl_list (sl_num 2) (rw_num 2).over 2
  ⟨fun s => h.all s, fun s hs => h.ok s hs⟩
theorem sl_box : Sl boxP (fun l => beL 2 l.length ++ l) 2 where
  all := fun s => by
    have a := (sl_num 2).all s
    have b := (sl_cut (numP 2 s).1).all (numP 2 s).2
    unfold boxP
    rw [beL_len] at a
    rw [List.length_append, beL_len]
    omega
  ok := fun s hs => by
    unfold boxP at *
    have b := (sl_cut (numP 2 s).1).ok (numP 2 s).2 hs
    rw [List.length_append, beL_len]
    cases e : (numP 2 s).2.ov with
    | false => have a := (sl_num 2).ok s e; rw [beL_len] at a; omega
    | true => rw [(rw_cut _).over _ e] at hs; cases hs
end
theorem flat_getD {α : Type} (z : α) (G : α → List Nat) : ∀ (l : List α) (n : Nat), n = l.length → ((List.range n).flatMap fun i => G (l.getD i z)) = l.flatMap G
  | [], n, h => by subst h; rfl
  | x :: l, n, h => by
    subst h
    rw [List.length_cons, List.range_succ_eq_map, List.flatMap_cons, List.flatMap_cons, List.flatMap_map]
    congr 1
    exact flat_getD z G l l.length rfl
theorem sl_com : Sl comP PCom.L 159 := by
  have h : Sl comRaw _ (8 + (4 + ((2 + 37) + (32 + ((2 + 8) + (32 + (2 + 32))))))) :=
    sl_then (sl_num 8) (fun s hs _ => (rw_then (rw_num 4) fun _ => rw_then (rw_list rw_prop 2) fun _ => rw_then rw_key fun _ => rw_then (rw_list rw_step 2) fun (st : List PStep) => rw_then (rw_items rw_key st.length) fun _ => rw_then (rw_items rw_box (sendsP st)) fun _ => rw_key).over s hs) fun _ =>
    sl_then (sl_num 4) (fun s hs _ => (rw_then (rw_list rw_prop 2) fun _ => rw_then rw_key fun _ => rw_then (rw_list rw_step 2) fun (st : List PStep) => rw_then (rw_items rw_key st.length) fun _ => rw_then (rw_items rw_box (sendsP st)) fun _ => rw_key).over s hs) fun _ =>
    sl_then (g := fun l => beL 2 l.length ++ l.flatMap PProp.L) (sl_list sl_prop rw_prop.over 2) (fun s hs _ => (rw_then rw_key fun _ => rw_then (rw_list rw_step 2) fun (st : List PStep) => rw_then (rw_items rw_key st.length) fun _ => rw_then (rw_items rw_box (sendsP st)) fun _ => rw_key).over s hs) fun _ =>
    sl_then sl_key (fun s hs _ => (rw_then (rw_list rw_step 2) fun (st : List PStep) => rw_then (rw_items rw_key st.length) fun _ => rw_then (rw_items rw_box (sendsP st)) fun _ => rw_key).over s hs) fun _ =>
    sl_then (g := fun l => beL 2 l.length ++ l.flatMap PStep.L) (sl_list sl_step rw_step.over 2) (fun s hs (st : List PStep) => (rw_then (rw_items rw_key st.length) fun _ => rw_then (rw_items rw_box (sendsP st)) fun _ => rw_key).over s hs) fun (st : List PStep) =>
    sl_then (sl_items sl_key st.length) (fun s hs _ => (rw_then (rw_items rw_box (sendsP st)) fun _ => rw_key).over s hs) fun _ =>
    sl_then (sl_items sl_box (sendsP st)) (fun s hs _ => rw_key.over s hs) fun _ => sl_key
  refine ⟨fun s => ?_, fun s hs => ?_⟩
  · have := h.all s
    unfold comP PCom.L
    generalize comRaw s = r at this ⊢
    exact this
  · have := h.ok s hs
    unfold comP PCom.L
    generalize comRaw s = r at this ⊢
    exact this
theorem len_flat {α : Type} (G : α → List Nat) (l : List α) (h : ∀ x ∈ l, 1 ≤ (G x).length) : l.length ≤ (l.flatMap G).length := by
  induction l with
  | nil => simp
  | cons x l ih =>
    rw [List.flatMap_cons, List.length_append, List.length_cons]
    have := h x (by simp)
    have := ih fun y hy => h y (by simp [hy])
    omega
theorem len_mem {α : Type} (G : α → List Nat) (l : List α) (x : α) (h : x ∈ l) : (G x).length ≤ (l.flatMap G).length := by
  induction l with
  | nil => cases h
  | cons y l ih =>
    rw [List.flatMap_cons, List.length_append]
    rcases List.mem_cons.1 h with rfl | h
    · omega
    · have := ih h
      omega
/-- A commit's text is its head, and its tag. -/
theorem com_L (p : PCom) (a : At) : comL (comOf p a) ++ keyL p.tag = [1] ++ p.L := by
  have e1 : propsL (comOf p a) (comOf p a).pn = p.props.flatMap PProp.L := by
    unfold propsL
    rw [← flat_getD zP PProp.L p.props _ rfl]
    rfl
  have e2 : stepsL (comOf p a) (comOf p a).sn = p.steps.flatMap PStep.L := by
    unfold stepsL
    rw [← flat_getD zS PStep.L p.steps _ rfl]
    congr 1
    funext i
    unfold stepL PStep.L sendL
    show beL 2 _ ++ (beL 2 (((p.steps.getD i zS).frm : Int) - 1 + 1).toNat ++ (beL 2 _ ++ _)) = _
    rw [show (((p.steps.getD i zS).frm : Int) - 1 + 1).toNat = (p.steps.getD i zS).frm by omega]
    congr 3
    exact flat_getD 0 (beL 2) (p.steps.getD i zS).sd _ rfl
  have e3 : keysL (comOf p a) (comOf p a).kn = p.new.flatMap keyL := by
    unfold keysL
    exact flat_getD (fun _ => 0) keyL p.new _ rfl
  have e4 : boxesL (comOf p a) (comOf p a).bn = p.boxes.flatMap (fun l => beL 2 l.length ++ l) := by
    unfold boxesL
    exact flat_getD [] (fun l => beL 2 l.length ++ l) p.boxes _ rfl
  unfold comL PCom.L
  rw [e1, e2, e3, e4]
  show [1] ++ beL 8 p.ep ++ beL 4 ((p.by_ : Nat) : Int).toNat ++ (beL 2 p.props.length ++ _) ++ keyL p.pt ++ (beL 2 p.steps.length ++ _) ++ _ ++ _ ++ keyL p.tag = _
  rw [Int.toNat_natCast]
  simp only [List.append_assoc]
theorem mid_of (p : PCom) (a : At) (h : p.L.length ≤ 1048575) : MidC (comOf p a) := by
  have hl := congrArg List.length (com_L p a)
  rw [List.length_append, List.length_append, keyL_len] at hl
  have h0 := h
  unfold PCom.L at h0
  simp only [List.length_append] at h0
  have a1 := len_flat PProp.L p.props fun x _ => by unfold PProp.L; rw [List.length_append, beL_len]; omega
  have a2 := len_flat PStep.L p.steps fun x _ => by unfold PStep.L; rw [List.length_append, beL_len]; omega
  have a3 := len_flat keyL p.new fun x _ => by rw [keyL_len]; omega
  have a4 := len_flat (fun l => beL 2 l.length ++ l) p.boxes fun x _ => by rw [List.length_append, beL_len]; omega
  refine ⟨fun i hi => ?_, ?_, ?_, ?_, ?_, fun _ _ => ?_⟩
  · have hi' : i < p.steps.length := hi
    have b := len_mem PStep.L p.steps p.steps[i] (List.getElem_mem hi')
    have c : p.steps[i].sd.length ≤ (PStep.L p.steps[i]).length := by
      have := len_flat (beL 2) p.steps[i].sd fun x _ => by rw [beL_len]; omega
      unfold PStep.L
      simp only [List.length_append]
      omega
    show (p.steps.getD i zS).sd.length ≤ _
    rw [List.getD_eq_getElem?_getD, List.getElem?_eq_getElem hi']
    show p.steps[i].sd.length ≤ _
    omega
  · show p.props.length ≤ _; omega
  · show p.steps.length ≤ _; omega
  · show p.new.length ≤ _; omega
  · show p.boxes.length ≤ _; omega
  · simp only [List.length_cons, List.length_nil] at hl
    omega
end Go.Proofs.Ytfbfkfdkigpkgaa
