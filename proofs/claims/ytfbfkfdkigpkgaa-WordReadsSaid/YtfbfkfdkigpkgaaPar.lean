/- What is read of bytes: numbers, keys, texts, lists of them (plain); what was read is, written, what stood there. -/
import Derived.Test.YtfbfkfdkigpkgaaCom
namespace Go.Proofs.Ytfbfkfdkigpkgaa
set_option linter.unusedSimpArgs false
set_option linter.unusedVariables false

/-- What is left to be read, and whether too little was there. -/
structure Rs where
  l : List Nat
  ov : Bool
def cutP (n : Nat) (s : Rs) : List Nat × Rs := if s.ov = true ∨ s.l.length < n then ([], ⟨s.l, true⟩) else (s.l.take n, ⟨s.l.drop n, false⟩)
def beVf (a : Nat) : List Nat → Nat
  | [] => a
  | x :: l => beVf (256 * a + x) l
def beV (l : List Nat) : Nat := beVf 0 l
def numP (k : Nat) (s : Rs) : Nat × Rs := (beV (cutP k s).1, (cutP k s).2)
def keyP (s : Rs) : (Nat → Nat) × Rs := (fun j => (cutP 32 s).1.getD j 0, (cutP 32 s).2)
def itemsP {α : Type} (f : Rs → α × Rs) : Nat → Rs → List α × Rs
  | 0, s => ([], s)
  | n + 1, s => if s.ov = true then ([], s) else ((f s).1 :: (itemsP f n (f s).2).1, (itemsP f n (f s).2).2)
structure PProp where
  kind : Nat
  id : Nat
  pt : Nat → Nat
structure PStep where
  node : Nat
  frm : Nat
  sd : List Nat
def propP (s : Rs) : PProp × Rs := (⟨(numP 1 s).1, (numP 4 (numP 1 s).2).1, (keyP (numP 4 (numP 1 s).2).2).1⟩, (keyP (numP 4 (numP 1 s).2).2).2)
def stepP' (s : Rs) : PStep × Rs :=
  let a := numP 2 s
  let b := numP 2 a.2
  let c := numP 2 b.2
  let d := itemsP (numP 2) c.1 c.2
  (⟨a.1, b.1, d.1⟩, d.2)
def boxP (s : Rs) : List Nat × Rs := cutP (numP 2 s).1 (numP 2 s).2
structure PCom where
  ep : Nat
  by_ : Nat
  props : List PProp
  pt : Nat → Nat
  steps : List PStep
  new : List (Nat → Nat)
  boxes : List (List Nat)
  tag : Nat → Nat
def sendsP : List PStep → Nat
  | [] => 0
  | x :: l => x.sd.length + sendsP l
/-! ### Written -/
def Byt (l : List Nat) : Prop := ∀ x ∈ l, x < 256
theorem beVf_append (a : Nat) : ∀ (l m : List Nat), beVf a (l ++ m) = beVf (beVf a l) m
  | [] , m => by
    induction m generalizing a with
    | nil => rfl
    | cons x l ih => simp [beVf]
  | x :: l, m => by
    show beVf (256 * a + x) (l ++ m) = beVf (beVf (256 * a + x) l) m
    exact beVf_append _ l m
theorem beL_snoc (k n : Nat) : beL (k + 1) n = beL k (n / 256) ++ [n % 256] := by
  unfold beL
  rw [beK_succ]
  congr 1
  · unfold beK
    apply List.map_congr_left
    intro i hi
    have := List.mem_range.1 hi
    show n / 2 ^ (8 * (k + 1 - 1 - i)) % 256 = n / 256 / 2 ^ (8 * (k - 1 - i)) % 256
    rw [Nat.div_div_eq_div_mul, show (256 : Nat) = 2 ^ 8 from rfl, ← Nat.pow_add, show 8 + 8 * (k - 1 - i) = 8 * (k + 1 - 1 - i) by omega]
  · rw [show k + 1 - 1 - k = 0 by omega, Nat.mul_zero, Nat.pow_zero, Nat.div_one]
theorem beV_beL : ∀ (k n : Nat), n < 256 ^ k → beV (beL k n) = n
  | 0, n, h => by
    have : n = 0 := by simpa using h
    subst this
    rw [beL_zero]
    rfl
  | k + 1, n, h => by
    have ih := beV_beL k (n / 256) (by rw [Nat.pow_succ] at h; omega)
    rw [beL_snoc]
    unfold beV at *
    rw [beVf_append, ih]
    show 256 * (n / 256) + n % 256 = n
    omega
theorem beV_lt : ∀ (k : Nat) (l : List Nat), Byt l → l.length = k → beV l < 256 ^ k ∧ beL k (beV l) = l
  | 0, l, _, h => by
    obtain rfl : l = [] := List.eq_nil_of_length_eq_zero h
    exact ⟨by decide, beL_zero 0⟩
  | k + 1, l, hb, h => by
    have hne : l ≠ [] := fun e => by rw [e] at h; simp at h
    obtain ⟨m, x, rfl⟩ : ∃ m x, l = m ++ [x] := ⟨l.dropLast, l.getLast hne, (List.dropLast_concat_getLast hne).symm⟩
    have ih := beV_lt k m (fun y hy => hb y (by simp [hy])) (by simpa using h)
    have hx := hb x (by simp)
    have e : beV (m ++ [x]) = 256 * beV m + x := by unfold beV; rw [beVf_append]; rfl
    rw [e, beL_snoc, show (256 * beV m + x) / 256 = beV m by omega, show (256 * beV m + x) % 256 = x by omega, ih.2]
    exact ⟨by rw [Nat.pow_succ]; omega, rfl⟩

/-- A reader, and what writes what it reads: what is valid is read back; what is read is valid, and was written so. -/
structure Rw {α : Type} (f : Rs → α × Rs) (g : α → List Nat) (V : α → Prop) : Prop where
  over : ∀ s, s.ov = true → (f s).2.ov = true
  read : ∀ s, Byt s.l → (f s).2.ov = false → s.l = g (f s).1 ++ (f s).2.l ∧ V (f s).1
  back : ∀ x l, V x → f ⟨g x ++ l, false⟩ = (x, ⟨l, false⟩)
section
variable {α β : Type} {f : Rs → α × Rs} {g : α → List Nat} {V : α → Prop}
theorem Rw.was (h : Rw f g V) {s : Rs} (e : (f s).2.ov = false) : s.ov = false := by
  cases hs : s.ov with
  | false => rfl
  | true => rw [h.over s hs] at e; cases e
theorem Rw.left (h : Rw f g V) {s : Rs} (hb : Byt s.l) (e : (f s).2.ov = false) : Byt (f s).2.l := fun x hx => hb x (by rw [(h.read s hb e).1]; simp [hx])
theorem rw_num (k : Nat) : Rw (numP k) (beL k) (fun n => n < 256 ^ k) where
  over := fun s hs => by unfold numP cutP; rw [if_pos (.inl hs)]
  read := fun s hb e => by
    unfold numP cutP at *
    by_cases hc : s.ov = true ∨ s.l.length < k
    · rw [if_pos hc] at e; cases e
    · rw [if_neg hc]
      have hl : (s.l.take k).length = k := by rw [List.length_take]; omega
      have h := beV_lt k (s.l.take k) (fun x hx => hb x (List.mem_of_mem_take hx)) hl
      exact ⟨by rw [h.2, List.take_append_drop], h.1⟩
  back := fun x l hx => by
    have hl : (beL k x).length = k := beL_len k x
    unfold numP cutP
    rw [if_neg (by simp [hl])]
    dsimp only
    rw [List.take_left' hl, List.drop_left' hl, beV_beL k x hx]
theorem rw_cut (n : Nat) : Rw (cutP n) (fun l => l) (fun l => l.length = n) where
  over := fun s hs => by unfold cutP; rw [if_pos (.inl hs)]
  read := fun s hb e => by
    unfold cutP at *
    by_cases hc : s.ov = true ∨ s.l.length < n
    · rw [if_pos hc] at e; cases e
    · rw [if_neg hc]
      exact ⟨(List.take_append_drop ..).symm, by rw [List.length_take]; omega⟩
  back := fun x l hx => by
    unfold cutP
    rw [if_neg (by simp [hx])]
    dsimp only
    rw [List.take_left' hx, List.drop_left' hx]
theorem keyL_getD (l : List Nat) (h : l.length = 32) : keyL (fun j => l.getD j 0) = l := by
  unfold keyL
  refine List.ext_getElem (by simp [h]) fun i h1 h2 => ?_
  simp [List.getElem?_eq_getElem h2]
theorem keyL_at (f : Nat → Nat) (j : Nat) (h : j < 32) : (keyL f).getD j 0 = f j := by
  unfold keyL
  simp [h]
/-- A key: its bytes below 32 count alone. -/
def KeyV (f : Nat → Nat) : Prop := ∀ j, 32 ≤ j → f j = 0
theorem rw_key : Rw keyP keyL KeyV where
  over := fun s hs => by unfold keyP cutP; rw [if_pos (.inl hs)]
  read := fun s hb e => by
    have h := (rw_cut 32).read s hb e
    unfold keyP
    dsimp only
    rw [keyL_getD _ h.2]
    exact ⟨h.1, fun j hj => by show (cutP 32 s).1.getD j 0 = 0; rw [List.getD_eq_getElem?_getD, List.getElem?_eq_none (by omega)]; rfl⟩
  back := fun x l hx => by
    have h := (rw_cut 32).back (keyL x) l (keyL_len x)
    unfold keyP
    rw [h]
    dsimp only
    congr 1
    funext j
    by_cases hj : j < 32
    · exact keyL_at x j hj
    · rw [hx j (by omega), List.getD_eq_getElem?_getD, List.getElem?_eq_none (by rw [keyL_len]; omega)]
      rfl
theorem items_over (f : Rs → α × Rs) (n : Nat) (s : Rs) (h : s.ov = true) : itemsP f n s = ([], s) := by
  cases n with
  | zero => rfl
  | succ n => unfold itemsP; rw [if_pos h]
theorem rw_items (h : Rw f g V) (n : Nat) : Rw (itemsP f n) (fun l => l.flatMap g) (fun l => l.length = n ∧ ∀ x ∈ l, V x) where
  over := fun s hs => by rw [items_over f n s hs]; exact hs
  read := by
    induction n with
    | zero => exact fun s _ e => ⟨rfl, rfl, fun x hx => by cases hx⟩
    | succ n ih =>
      intro s hb e
      unfold itemsP at e ⊢
      by_cases hs : s.ov = true
      · rw [if_pos hs] at e
        rw [hs] at e
        cases e
      · rw [if_neg hs] at e ⊢
        dsimp only at e ⊢
        have e1 : (f s).2.ov = false := by
          cases h1 : (f s).2.ov with
          | false => rfl
          | true => rw [items_over f n _ h1] at e; rw [h1] at e; cases e
        have h1 := h.read s hb e1
        have h2 := ih (f s).2 (h.left hb e1) e
        refine ⟨?_, ?_, ?_⟩
        · rw [List.flatMap_cons, List.append_assoc, ← h2.1]
          exact h1.1
        · simp [h2.2.1]
        · intro x hx
          rcases List.mem_cons.1 hx with rfl | hx
          · exact h1.2
          · exact h2.2.2 x hx
  back := by
    induction n with
    | zero =>
      intro x l hx
      obtain rfl : x = [] := List.eq_nil_of_length_eq_zero hx.1
      rfl
    | succ n ih =>
      intro x l hx
      cases x with
      | nil => simp at hx
      | cons y x =>
        have h1 := h.back y (x.flatMap g ++ l) (hx.2 y (by simp))
        have h2 := ih x l ⟨by simpa using hx.1, fun z hz => hx.2 z (by simp [hz])⟩
        unfold itemsP
        rw [if_neg (by simp)]
        rw [List.flatMap_cons, List.append_assoc, h1]
        dsimp only
        rw [h2]
theorem items_len (f : Rs → α × Rs) : ∀ (n : Nat) (s : Rs), (itemsP f n s).1.length ≤ n
  | 0, s => Nat.le_refl _
  | n + 1, s => by
    unfold itemsP
    split
    · simp
    · have := items_len f n (f s).2
      simp
      exact this
end
/-- One reader behind another one. -/
def thenP {α β : Type} (f : Rs → α × Rs) (h : α → Rs → β × Rs) (s : Rs) : (α × β) × Rs := (((f s).1, (h (f s).1 (f s).2).1), (h (f s).1 (f s).2).2)
theorem rw_then {α β : Type} {f : Rs → α × Rs} {g : α → List Nat} {V : α → Prop} {h : α → Rs → β × Rs} {k : α → β → List Nat} {U : α → β → Prop} (h1 : Rw f g V) (h2 : ∀ a, Rw (h a) (k a) (U a)) :
    Rw (thenP f h) (fun x => g x.1 ++ k x.1 x.2) (fun x => V x.1 ∧ U x.1 x.2) where
  over := fun s hs => (h2 _).over _ (h1.over s hs)
  read := fun s hb e => by
    have e1 := (h2 _).was e
    have r1 := h1.read s hb e1
    have r2 := (h2 _).read _ (h1.left hb e1) e
    refine ⟨?_, r1.2, r2.2⟩
    show s.l = _ ++ _ ++ _
    rw [List.append_assoc]
    exact r1.1.trans (congrArg _ r2.1)
  back := fun x l hx => by
    unfold thenP
    rw [List.append_assoc, h1.back x.1 _ hx.1]
    dsimp only
    rw [(h2 x.1).back x.2 l hx.2]
theorem rw_map {α β : Type} {f : Rs → α × Rs} {g : α → List Nat} {V : α → Prop} (h : Rw f g V) (up : α → β) (fro : β → α) (hto : ∀ x, fro (up x) = x) (hfro : ∀ y, up (fro y) = y) {f' : Rs → β × Rs} (hf : ∀ s, f' s = (up (f s).1, (f s).2)) {g' : β → List Nat} (hg : ∀ y, g' y = g (fro y)) : Rw f' g' (fun y => V (fro y)) where
  over := fun s hs => by rw [hf]; exact h.over s hs
  read := fun s hb e => by
    rw [hf] at e ⊢
    have := h.read s hb e
    dsimp only
    rw [hg, hto]
    exact this
  back := fun y l hy => by
    rw [hf, hg, h.back (fro y) l hy]
    dsimp only
    rw [hfro]
def PProp.L (p : PProp) : List Nat := beL 1 p.kind ++ (beL 4 p.id ++ keyL p.pt)
def PProp.V (p : PProp) : Prop := p.kind < 256 ^ 1 ∧ p.id < 256 ^ 4 ∧ KeyV p.pt
theorem rw_prop : Rw propP PProp.L PProp.V :=
  rw_map (rw_then (rw_num 1) fun _ => rw_then (rw_num 4) fun _ => rw_key) (fun x => (⟨x.1, x.2.1, x.2.2⟩ : PProp)) (fun p => (p.kind, p.id, p.pt)) (fun _ => rfl) (fun _ => rfl) (fun _ => rfl) (fun _ => rfl)
def PStep.L (p : PStep) : List Nat := beL 2 p.node ++ (beL 2 p.frm ++ (beL 2 p.sd.length ++ p.sd.flatMap (beL 2)))
def PStep.V (p : PStep) : Prop := p.node < 256 ^ 2 ∧ p.frm < 256 ^ 2 ∧ p.sd.length < 256 ^ 2 ∧ ∀ x ∈ p.sd, x < 256 ^ 2
/-- A list, with how many there are ahead. -/
def listP {α : Type} (k : Nat) (f : Rs → α × Rs) (s : Rs) : List α × Rs := itemsP f (numP k s).1 (numP k s).2
theorem rw_list {α : Type} {f : Rs → α × Rs} {g : α → List Nat} {V : α → Prop} (h : Rw f g V) (k : Nat) : Rw (listP k f) (fun l => beL k l.length ++ l.flatMap g) (fun l => l.length < 256 ^ k ∧ ∀ x ∈ l, V x) where
  over := fun s hs => (rw_items h _).over _ ((rw_num k).over s hs)
  read := fun s hb e => by
    have e1 := (rw_items h _).was e
    have r1 := (rw_num k).read s hb e1
    have r2 := (rw_items h _).read _ ((rw_num k).left hb e1) e
    unfold listP
    refine ⟨?_, ?_, r2.2.2⟩
    · rw [r2.2.1, List.append_assoc, ← r2.1]
      exact r1.1
    · rw [r2.2.1]
      exact r1.2
  back := fun x l hx => by
    unfold listP
    rw [List.append_assoc, (rw_num k).back x.length _ hx.1]
    exact (rw_items h x.length).back x l ⟨rfl, hx.2⟩
theorem rw_step : Rw stepP' PStep.L PStep.V :=
  rw_map (rw_then (rw_num 2) fun _ => rw_then (rw_num 2) fun _ => rw_list (rw_num 2) 2) (fun x => (⟨x.1, x.2.1, x.2.2⟩ : PStep)) (fun p => (p.node, p.frm, p.sd)) (fun _ => rfl) (fun _ => rfl) (fun _ => rfl) (fun _ => rfl)
theorem rw_box : Rw boxP (fun l => beL 2 l.length ++ l) (fun l => l.length < 256 ^ 2) where
  over := fun s hs => (rw_cut _).over _ ((rw_num 2).over s hs)
  read := fun s hb e => by
    have e1 := (rw_cut _).was e
    have r1 := (rw_num 2).read s hb e1
    have r2 := (rw_cut _).read _ ((rw_num 2).left hb e1) e
    unfold boxP
    refine ⟨?_, ?_⟩
    · rw [r2.2, List.append_assoc, ← r2.1]
      exact r1.1
    · rw [r2.2]
      exact r1.2
  back := fun x l hx => by
    unfold boxP
    rw [List.append_assoc, (rw_num 2).back x.length _ hx]
    exact (rw_cut x.length).back x l rfl
def PCom.L (p : PCom) : List Nat := beL 8 p.ep ++ (beL 4 p.by_ ++ ((beL 2 p.props.length ++ p.props.flatMap PProp.L) ++ (keyL p.pt ++ ((beL 2 p.steps.length ++ p.steps.flatMap PStep.L) ++ (p.new.flatMap keyL ++ (p.boxes.flatMap (fun l => beL 2 l.length ++ l) ++ keyL p.tag))))))
def PCom.V (p : PCom) : Prop := p.ep < 256 ^ 8 ∧ p.by_ < 256 ^ 4 ∧ (p.props.length < 256 ^ 2 ∧ ∀ x ∈ p.props, x.V) ∧ KeyV p.pt ∧ (p.steps.length < 256 ^ 2 ∧ ∀ x ∈ p.steps, x.V) ∧ (p.new.length = p.steps.length ∧ ∀ x ∈ p.new, KeyV x) ∧ (p.boxes.length = sendsP p.steps ∧ ∀ x ∈ p.boxes, x.length < 256 ^ 2) ∧ KeyV p.tag
def comRaw : Rs → (Nat × Nat × List PProp × (Nat → Nat) × List PStep × List (Nat → Nat) × List (List Nat) × (Nat → Nat)) × Rs :=
  thenP (numP 8) fun _ => thenP (numP 4) fun _ => thenP (listP 2 propP) fun _ => thenP keyP fun _ => thenP (listP 2 stepP') fun st => thenP (itemsP keyP st.length) fun _ => thenP (itemsP boxP (sendsP st)) fun _ => keyP
theorem rw_raw : Rw comRaw (fun x => beL 8 x.1 ++ (beL 4 x.2.1 ++ ((beL 2 x.2.2.1.length ++ x.2.2.1.flatMap PProp.L) ++ (keyL x.2.2.2.1 ++ ((beL 2 x.2.2.2.2.1.length ++ x.2.2.2.2.1.flatMap PStep.L) ++ (x.2.2.2.2.2.1.flatMap keyL ++ (x.2.2.2.2.2.2.1.flatMap (fun l => beL 2 l.length ++ l) ++ keyL x.2.2.2.2.2.2.2)))))))
    (fun x => x.1 < 256 ^ 8 ∧ x.2.1 < 256 ^ 4 ∧ (x.2.2.1.length < 256 ^ 2 ∧ ∀ y ∈ x.2.2.1, y.V) ∧ KeyV x.2.2.2.1 ∧ (x.2.2.2.2.1.length < 256 ^ 2 ∧ ∀ y ∈ x.2.2.2.2.1, y.V) ∧ (x.2.2.2.2.2.1.length = x.2.2.2.2.1.length ∧ ∀ y ∈ x.2.2.2.2.2.1, KeyV y) ∧ (x.2.2.2.2.2.2.1.length = sendsP x.2.2.2.2.1 ∧ ∀ y ∈ x.2.2.2.2.2.2.1, y.length < 256 ^ 2) ∧ KeyV x.2.2.2.2.2.2.2) :=
  rw_then (rw_num 8) fun _ => rw_then (rw_num 4) fun _ => rw_then (rw_list rw_prop 2) fun _ => rw_then rw_key fun _ => rw_then (rw_list rw_step 2) fun (st : List PStep) => rw_then (rw_items rw_key st.length) fun _ => rw_then (rw_items rw_box (sendsP st)) fun _ => rw_key
def comP (s : Rs) : PCom × Rs := (⟨(comRaw s).1.1, (comRaw s).1.2.1, (comRaw s).1.2.2.1, (comRaw s).1.2.2.2.1, (comRaw s).1.2.2.2.2.1, (comRaw s).1.2.2.2.2.2.1, (comRaw s).1.2.2.2.2.2.2.1, (comRaw s).1.2.2.2.2.2.2.2⟩, (comRaw s).2)
/-- A commit, step by step. -/
theorem comP_is {s s1 s2 s3 s4 s5 s6 s7 s8 s9 s10 : Rs} {ep by_ pn sn : Nat} {props : List PProp} {pt tag : Nat → Nat} {steps : List PStep} {new : List (Nat → Nat)} {boxes : List (List Nat)}
    (h1 : numP 8 s = (ep, s1)) (h2 : numP 4 s1 = (by_, s2)) (h3 : numP 2 s2 = (pn, s3)) (h4 : itemsP propP pn s3 = (props, s4)) (h5 : keyP s4 = (pt, s5)) (h6 : numP 2 s5 = (sn, s6)) (h7 : itemsP stepP' sn s6 = (steps, s7)) (h8 : itemsP keyP steps.length s7 = (new, s8)) (h9 : itemsP boxP (sendsP steps) s8 = (boxes, s9)) (h10 : keyP s9 = (tag, s10)) :
    comP s = (⟨ep, by_, props, pt, steps, new, boxes, tag⟩, s10) := by
  have l1 : listP 2 propP s2 = (props, s4) := by unfold listP; rw [h3]; exact h4
  have l2 : listP 2 stepP' s5 = (steps, s7) := by unfold listP; rw [h6]; exact h7
  have e : comRaw s = ((ep, by_, props, pt, steps, new, boxes, tag), s10) := by
    unfold comRaw
    simp only [thenP, h1, h2, l1, h5, l2, h8, h9, h10]
  unfold comP
  rw [e]
theorem rw_com : Rw comP PCom.L PCom.V :=
  rw_map rw_raw (fun x => (⟨x.1, x.2.1, x.2.2.1, x.2.2.2.1, x.2.2.2.2.1, x.2.2.2.2.2.1, x.2.2.2.2.2.2.1, x.2.2.2.2.2.2.2⟩ : PCom)) (fun p => (p.ep, p.by_, p.props, p.pt, p.steps, p.new, p.boxes, p.tag)) (fun _ => rfl) (fun _ => rfl) (fun _ => rfl) (fun _ => rfl)
end Go.Proofs.Ytfbfkfdkigpkgaa
