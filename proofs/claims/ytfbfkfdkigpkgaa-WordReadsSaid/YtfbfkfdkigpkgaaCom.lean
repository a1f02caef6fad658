/- A commit, in memory; when it may be; its head (plain). -/
import Derived.Test.YtfbfkfdkigpkgaaElt
import Derived.Test.YtfbfkfdkigpkgaaTxt
import Derived.Test.YtfbfkfdkigpkgaaByt
namespace Go.Proofs.Ytfbfkfdkigpkgaa
set_option linter.unusedSimpArgs false
set_option linter.unusedVariables false
open Go.RowKit

/-- A commit but for its Tag: what it reads as, and where its parts lie. -/
structure Com where
  ep : Nat
  by_ : Int
  PA : Option Addr
  pn : Nat
  pc : Nat
  kind : Nat → Int
  id : Nat → Int
  ppt : Nat → Nat → Nat
  pt : Nat → Nat
  SA : Option Addr
  sn : Nat
  sc : Nat
  node : Nat → Int
  frm : Nat → Int
  DA : Nat → Option Addr
  dn : Nat → Nat
  dc : Nat → Nat
  dv : Nat → Nat → Int
  KA : Option Addr
  kn : Nat
  kc : Nat
  key : Nat → Nat → Nat
  BA : Option Addr
  bn : Nat
  bc : Nat
  XA : Nat → Option Addr
  xn : Nat → Nat
  xc : Nat → Nat
  bx : Nat → List Nat

def propV (kind id : Int) (pt : Nat → Nat) (j : Nat) : Value := if j = 0 then .int .i64 kind else if j = 1 then .int .i64 id else .int .u8 ((pt (j - 2) : Nat) : Int)
def stepV (node frm : Int) (A : Option Addr) (n c : Nat) (j : Nat) : Value := if j = 0 then .int .i64 node else if j = 1 then .int .i64 frm else .slice A n c
def byteV (f : Nat → Nat) (j : Nat) : Value := .int .u8 ((f j : Nat) : Int)
def comV (c : Com) (tg : Nat → Nat) (j : Nat) : Value :=
  if j = 0 then .int .u64 ((c.ep : Nat) : Int) else if j = 1 then .int .i64 c.by_ else if j = 2 then .slice c.PA c.pn c.pc else if j < 35 then .int .u8 ((c.pt (j - 3) : Nat) : Int)
  else if j = 35 then .slice c.SA c.sn c.sc else if j = 36 then .slice c.KA c.kn c.kc else if j = 37 then .slice c.BA c.bn c.bc else .int .u8 ((tg (j - 38) : Nat) : Int)
theorem propV_one (k i : Int) (p : Nat → Nat) (j : Nat) : (propV k i p j).oneCell' = true := by unfold propV; split <;> (try split) <;> rfl
theorem stepV_one (k i : Int) (A : Option Addr) (n c j : Nat) : (stepV k i A n c j).oneCell' = true := by unfold stepV; split <;> (try split) <;> rfl
theorem comV_one (c : Com) (tg : Nat → Nat) (j : Nat) : (comV c tg j).oneCell' = true := by unfold comV; repeat' split
                                                                                            all_goals rfl
/-- Where a commit's parts lie in memory: below block B. -/
structure ComOk (w : World) (B : Nat) (c : Com) : Prop where
  props : Els w B c.PA c.pn 34 fun i => propV (c.kind i) (c.id i) (c.ppt i)
  steps : Els w B c.SA c.sn 3 fun i => stepV (c.node i) (c.frm i) (c.DA i) (c.dn i) (c.dc i)
  sends : ∀ i, i < c.sn → Els w B (c.DA i) (c.dn i) 1 fun j _ => .int .i64 (c.dv i j)
  keys : Els w B c.KA c.kn 32 fun i => byteV (c.key i)
  boxes : Els w B c.BA c.bn 1 fun i _ => .slice (c.XA i) (c.xn i) (c.xc i)
  texts : ∀ i, i < c.bn → Txt w B (c.XA i) (c.xn i) (c.xc i) (c.bx i)
theorem ComOk.below {w w' : World} {B B' : Nat} {c : Com} (h : ComOk w B c) (hb : Below B' w w') (hB : B ≤ B') : ComOk w' B c :=
  ⟨h.props.below' hb hB, h.steps.below' hb hB, fun i hi => (h.sends i hi).below' hb hB, h.keys.below' hb hB, h.boxes.below' hb hB, fun i hi => (h.texts i hi).below' hb hB⟩
/-- Its bytes are bytes, its numbers are numbers. -/
structure ComB (c : Com) : Prop where
  ep : c.ep < 18446744073709551616
  ppt : ∀ i, i < c.pn → ∀ j, j < 32 → c.ppt i j < 256
  pt : ∀ j, j < 32 → c.pt j < 256
  key : ∀ i, i < c.kn → ∀ j, j < 32 → c.key i j < 256
  bx : ∀ i, i < c.bn → ∀ x ∈ c.bx i, x < 256

/-! ### When it may be -/
def OkProp (kind id : Int) (pt : Nat → Nat) : Prop := 1 ≤ kind ∧ kind ≤ 3 ∧ (0 ≤ id ∧ id ≤ 1048576) ∧ (kind = 2 → ∀ j, j < 32 → pt j = 0)
instance (kind id : Int) (pt : Nat → Nat) : Decidable (OkProp kind id pt) := by unfold OkProp; infer_instance
def OkPlace (k : Int) : Prop := 0 ≤ k ∧ k ≤ 4000
instance (k : Int) : Decidable (OkPlace k) := by unfold OkPlace; infer_instance
def OkStep (node frm : Int) (n : Nat) (v : Nat → Int) : Prop := OkPlace node ∧ -1 ≤ frm ∧ frm < 4000 ∧ n ≤ 4000 ∧ ∀ j, j < n → OkPlace (v j)
instance (node frm : Int) (n : Nat) (v : Nat → Int) : Decidable (OkStep node frm n v) := by unfold OkStep; infer_instance
def sends (c : Com) : Nat → Nat
  | 0 => 0
  | k + 1 => sends c k + c.dn k
def OkCom (c : Com) : Prop := (c.ep ≤ 1099511627776 ∧ 0 ≤ c.by_ ∧ c.by_ ≤ 1048576) ∧ (c.pn ≤ 100 ∧ ∀ i, i < c.pn → OkProp (c.kind i) (c.id i) (c.ppt i)) ∧ (c.sn ≤ 4000 ∧ c.kn = c.sn ∧ ∀ i, i < c.sn → OkStep (c.node i) (c.frm i) (c.dn i) (c.dv i)) ∧ sends c c.sn = c.bn ∧ ∀ i, i < c.bn → c.xn i ≤ 1000
instance (c : Com) : Decidable (OkCom c) := by unfold OkCom; infer_instance
/-- Few enough to be played. -/
structure FewC (c : Com) : Prop where
  dn : ∀ i, i < c.sn → c.dn i ≤ 200
  pn : c.pn ≤ 150
  sn : c.sn ≤ 300
  kn : c.kn ≤ 300
  bn : c.bn ≤ 200
/-! ### The head -/
def keyL (f : Nat → Nat) : List Nat := (List.range 32).map f
def propL (kind id : Int) (pt : Nat → Nat) : List Nat := beL 1 kind.toNat ++ (beL 4 id.toNat ++ keyL pt)
def sendL (n : Nat) (v : Nat → Int) : List Nat := (List.range n).flatMap fun j => beL 2 (v j).toNat
def stepL (node frm : Int) (n : Nat) (v : Nat → Int) : List Nat := beL 2 node.toNat ++ (beL 2 (frm + 1).toNat ++ (beL 2 n ++ sendL n v))
def propsL (c : Com) (n : Nat) : List Nat := (List.range n).flatMap fun i => propL (c.kind i) (c.id i) (c.ppt i)
def stepsL (c : Com) (n : Nat) : List Nat := (List.range n).flatMap fun i => stepL (c.node i) (c.frm i) (c.dn i) (c.dv i)
def keysL (c : Com) (n : Nat) : List Nat := (List.range n).flatMap fun i => keyL (c.key i)
def boxesL (c : Com) (n : Nat) : List Nat := (List.range n).flatMap fun i => beL 2 (c.xn i) ++ c.bx i
def comL (c : Com) : List Nat := [1] ++ beL 8 c.ep ++ beL 4 c.by_.toNat ++ (beL 2 c.pn ++ propsL c c.pn) ++ keyL c.pt ++ (beL 2 c.sn ++ stepsL c c.sn) ++ keysL c c.kn ++ boxesL c c.bn
theorem flat_succ (f : Nat → List Nat) (n : Nat) : (List.range (n + 1)).flatMap f = (List.range n).flatMap f ++ f n := by rw [List.range_succ, List.flatMap_append]; simp
theorem keyL_len (f : Nat → Nat) : (keyL f).length = 32 := by unfold keyL; simp
theorem flat_len (f : Nat → List Nat) (b : Nat) : ∀ n, (∀ i, i < n → (f i).length ≤ b) → ((List.range n).flatMap f).length ≤ b * n
  | 0, _ => by simp
  | n + 1, h => by
    rw [flat_succ, List.length_append]
    have := flat_len f b n (fun i hi => h i (by omega))
    have := h n (by omega)
    rw [Nat.mul_succ]
    omega
theorem propL_len (k i : Int) (p : Nat → Nat) : (propL k i p).length = 37 := by unfold propL; simp [beL_len, keyL_len]
theorem sendL_len (n : Nat) (v : Nat → Int) : (sendL n v).length ≤ 2 * n := flat_len _ 2 n fun i _ => by rw [beL_len]; exact Nat.le_refl _
theorem stepL_len (a b : Int) (n : Nat) (v : Nat → Int) : (stepL a b n v).length ≤ 6 + 2 * n := by
  have := sendL_len n v
  unfold stepL
  simp [beL_len]
  omega
theorem flat_lt (f : Nat → List Nat) (n : Nat) (h : ∀ i, i < n → ∀ x ∈ f i, x < 256) : ∀ x ∈ (List.range n).flatMap f, x < 256 := fun x hx => by
  obtain ⟨i, hi, hx⟩ := List.mem_flatMap.1 hx
  exact h i (List.mem_range.1 hi) x hx
theorem keyL_lt (f : Nat → Nat) (h : ∀ j, j < 32 → f j < 256) : ∀ x ∈ keyL f, x < 256 := fun x hx => by
  unfold keyL at hx
  obtain ⟨i, hi, rfl⟩ := List.mem_map.1 hx
  exact h i (List.mem_range.1 hi)
theorem app_lt {l m : List Nat} (h1 : ∀ x ∈ l, x < 256) (h2 : ∀ x ∈ m, x < 256) : ∀ x ∈ l ++ m, x < 256 := fun x hx => by
  rcases List.mem_append.1 hx with h | h
  · exact h1 x h
  · exact h2 x h
theorem comL_len (c : Com) (hok : OkCom c) (hf : FewC c) (hx : ∀ i, i < c.bn → (c.bx i).length = c.xn i) : (comL c).length ≤ 400000 := by
  obtain ⟨⟨q1, q2, q3⟩, ⟨q4, q5⟩, ⟨q6, q7, q8⟩, q9, q10⟩ := hok
  have h1 : (propsL c c.pn).length ≤ 37 * c.pn := flat_len _ 37 _ fun i _ => by rw [propL_len]; exact Nat.le_refl _
  have h2 : (stepsL c c.sn).length ≤ 406 * c.sn := flat_len _ 406 _ fun i hi => Nat.le_trans (stepL_len _ _ _ _) (by have := hf.dn i hi; omega)
  have h3 : (keysL c c.kn).length ≤ 32 * c.kn := flat_len _ 32 _ fun i _ => by rw [keyL_len]; exact Nat.le_refl _
  have h4 : (boxesL c c.bn).length ≤ 1002 * c.bn := flat_len _ 1002 _ fun i hi => by
    rw [List.length_append, beL_len, hx i hi]
    have := q10 i hi
    omega
  have := hf.sn
  have := hf.kn
  have := hf.bn
  unfold comL
  simp only [List.length_append, beL_len, keyL_len, List.length_cons, List.length_nil]
  omega
/-- Few enough that no sum passes a word's end; its head has room. -/
structure MidC (c : Com) : Prop where
  dn : ∀ i, i < c.sn → c.dn i ≤ 1100000
  pn : c.pn ≤ 1100000
  sn : c.sn ≤ 1100000
  kn : c.kn ≤ 1100000
  bn : c.bn ≤ 1100000
  ln : OkCom c → (∀ i, i < c.bn → (c.bx i).length = c.xn i) → (comL c).length ≤ 1048544
theorem FewC.mid {c : Com} (h : FewC c) : MidC c where
  dn := fun i hi => by have := h.dn i hi; omega
  pn := by have := h.pn; omega
  sn := by have := h.sn; omega
  kn := by have := h.kn; omega
  bn := by have := h.bn; omega
  ln := fun hok hx => by have := comL_len c hok h hx; omega
theorem sends_le (c : Com) (h : MidC c) : ∀ k, k ≤ c.sn → sends c k ≤ 1100000 * k
  | 0, _ => by simp [sends]
  | k + 1, hk => by
    have := sends_le c h k (by omega)
    have := h.dn k (by omega)
    simp only [sends]
    omega
theorem comL_lt (c : Com) (h : ComB c) (hn : c.kn = c.kn) : ∀ x ∈ comL c, x < 256 := by
  unfold comL
  refine app_lt (app_lt (app_lt (app_lt (app_lt (app_lt (app_lt ?_ (beL_lt _ _)) (beL_lt _ _)) (app_lt (beL_lt _ _) (flat_lt _ _ fun i hi => ?_))) (keyL_lt _ h.pt)) (app_lt (beL_lt _ _) (flat_lt _ _ fun i hi => ?_))) (flat_lt _ _ fun i hi => keyL_lt _ (h.key i hi))) (flat_lt _ _ fun i hi => app_lt (beL_lt _ _) (h.bx i hi))
  · intro x hx
    simp at hx
    omega
  · unfold propL
    exact app_lt (beL_lt _ _) (app_lt (beL_lt _ _) (keyL_lt _ (h.ppt i hi)))
  · unfold stepL
    exact app_lt (beL_lt _ _) (app_lt (beL_lt _ _) (app_lt (beL_lt _ _) (flat_lt _ _ fun j _ => beL_lt _ _)))
end Go.Proofs.Ytfbfkfdkigpkgaa
