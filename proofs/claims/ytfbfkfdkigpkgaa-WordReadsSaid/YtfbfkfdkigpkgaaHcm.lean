/- The walk of layer 16: a commit's head. -/
import Derived.Test.YtfbfkfdkigpkgaaLsu
import Derived.Test.YtfbfkfdkigpkgaaOth
namespace Go.Proofs.Ytfbfkfdkigpkgaa
set_option linter.unusedSimpArgs false
set_option linter.unusedVariables false
open Go.RowKit
attribute [local irreducible] beL beK keyL

theorem RTCom : RowT Try.prog 42 70 := ⟨_, Try.underlying42, rfl, by kernel_rfl⟩
theorem Els.more {w : World} {B B' n sz : Nat} {A : Option Addr} {f : Nat → Nat → Value} (h : Els w B A n sz f) (hB : B ≤ B') : Els w B' A n sz f :=
  ⟨fun hn => by
    obtain ⟨ad, e, hb, hc⟩ := h.at_ hn
    exact ⟨ad, e, by omega, hc⟩⟩
theorem ComOk.more {w : World} {B B' : Nat} {c : Com} (h : ComOk w B c) (hB : B ≤ B') : ComOk w B' c :=
  ⟨h.props.more hB, h.steps.more hB, fun i hi => (h.sends i hi).more hB, h.keys.more hB, h.boxes.more hB, fun i hi => (h.texts i hi).more hB⟩
/-- A text of the call's own, or none and why. -/
def RetOw (w : World) (l : List Nat) (x : Int) (e : Ending) (w' : World) : Prop :=
  ∃ A n c, e = .returned (.tuple #[.slice A n c, .int .i64 x]) ∧ Own w' w.heap.size 5 (.slice A n c) l ∧ Below w.heap.size w w'
theorem FrameHead_ow (ep fr ge : Int) (A : Option Addr) (n c : Nat) (h0 : 0 ≤ ep) (h1 : 0 ≤ ge) (w : World) : Calls Try.prog 14 #[.agg #[.int .u64 ep, .int .i64 fr, .int .u64 ge, .slice A n c]] w (RetOw w (lH ep fr ge n) (xF ep fr ge n)) := by
  unfold lH xF
  by_cases hm : MayF ep fr ge n
  · rw [if_pos hm, if_pos hm]
    have hm' := hm
    unfold MayF at hm'
    obtain ⟨a, rfl⟩ : ∃ a : Nat, ep = a := ⟨ep.toNat, by omega⟩
    obtain ⟨b, rfl⟩ : ∃ a : Nat, fr = a := ⟨fr.toNat, by omega⟩
    obtain ⟨d, rfl⟩ : ∃ a : Nat, ge = a := ⟨ge.toNat, by omega⟩
    exact (FrameHead_yes a b d A n c hm w).mono fun _ _ h => h
  · rw [if_neg hm, if_neg hm]
    exact (FrameHead_no ep fr ge A n c hm w).mono fun _ _ h => ⟨none, 0, 0, h.1, Own.nil_, h.2⟩
def lC (c : Com) : List Nat := if OkCom c then comL c else []
theorem lC_lt (c : Com) (h : ComB c) : ∀ x ∈ lC c, x < 256 := by
  unfold lC
  split
  · exact comL_lt c h rfl
  · simp

set_option maxRecDepth 100000 in
set_option maxHeartbeats 4000000 in
theorem Head_any (c : Com) (tg : Nat → Nat) (B : Nat) (w : World) (h : ComOk w B c) (hB : B ≤ w.heap.size) (hf : MidC c) :
    Calls Try.prog 18 #[.agg (arrV 70 (comV c tg))] w (RetOw w (lC c) (chk c)) := by
  have H0 := Lib.hid h
  have HF := Lib.hid hf
  clear h hf
  go_enter Try.func18, Try.ntmps18
  have g0 := heap_alloc_new w (.cells (arrV 70 (comV c tg)) 42)
  have hb : Below w.heap.size w (w.alloc (.cells (arrV 70 (comV c tg)) 42)) := (Below.refl _ _).alloc (Nat.le_refl _) _
  have hok := H0.out.below hb hB
  have hBw := Nat.le_trans hB hb.size
  go_upto_region 2 with (first | (refine wpList_load_all rfl rfl RTCom rfl g0 ?_) | (go_at_call 22; (with_reducible refine (CheckCommit_any c tg B _ hok hBw HF.out).mono ?_); rintro e w2 ⟨rfl, b2⟩))
  replace g0 := keep_below b2 (lt_of_block g0) g0
  replace hb := hb.trans (b2.mono hb.size)
  clear b2 hok hBw
  by_cases hk : OkCom c
  · rw [chk_yes hk]
    have el : lC c = comL c := if_pos hk
    have hlen := HF.out.ln hk fun i hi => (H0.out.texts i hi).len
    have HK := Lib.hid hk
    have EL := Lib.hid el
    have EX := Lib.hid (chk_yes hk)
    clear hk el
    obtain ⟨cl, hcl⟩ : ∃ cl, cl = comL c := ⟨_, rfl⟩
    rw [← hcl] at hlen
    have HCL := Lib.hid hcl
    clear hcl
    obtain ⟨gp, hz, hbp⟩ := alloc1 w2 (.cells #[.slice none 0 0, .int .i64 0] 62)
    have p0 : Pens (w2.alloc (.cells #[.slice none 0 0, .int .i64 0] 62)) w2.heap.size w2.heap.size [] := ⟨Nat.le_refl _, by rw [hz]; omega, _, gp, Own.nil_⟩
    replace g0 := keep_below hbp (lt_of_block g0) g0
    have hG : w.heap.size < w2.heap.size := by
      have := hb.size
      have h2 := lt_of_block g0
      rw [hz] at h2
      rcases Nat.lt_or_ge w.heap.size w2.heap.size with h | h
      · exact h
      · have : w2.heap.size = w.heap.size := by omega
        rw [this] at gp
        rw [gp] at g0
        injection g0 with g0
        injection g0 with _ g0
        exact absurd g0 (by decide)
    replace hb := hb.trans (hbp.mono hb.size)
    have hok := (H0.out.below hb hB).more (show B ≤ w2.heap.size by omega)
    clear gp hbp
    go_upto_region 5 with (fail)
    generalize w2.alloc (.cells #[.slice none 0 0, .int .i64 0] 62) = wp at *
    generalize w2.heap.size = G at *
    go_upto_region 6 with (first | (refine wpList_load_all rfl rfl RTCom rfl g0 ?_) | (go_at_call 45; (with_reducible refine (head_all c tg HK.out HF.out G G _ hok p0).mono ?_); rintro e w3 ⟨rfl, p1, b3, k3⟩))
    rw [← HCL.out] at p1
    replace hb := hb.trans (b3.mono (by omega))
    clear p0 b3 k3 g0 hok hz
    have p2 := p1
    obtain ⟨hlow, hs, v, hpen, hown⟩ := p1
    obtain ⟨A1, c1, rfl, -⟩ := hown.txt
    have c0 := pen_cell0 hpen
    clear hpen hown
    go_wp2_with (go_at_call 38; (with_reducible refine (done_any G G cl _ p2).mono ?_); rintro e w6 ⟨A', c', rfl, ho, rfl⟩)
    have HO := Lib.hid ho
    clear ho p2
    go_ret2
    exact ⟨A', _, c', by rw [EX.out]; rfl, by rw [EL.out, ← HCL.out]; exact HO.out.mono (by omega), hb⟩
  · rw [chk_no hk]
    have el : lC c = [] := if_neg hk
    have EL := Lib.hid el
    have EX := Lib.hid (chk_no hk)
    clear hk el
    go_wp2
    go_ret2
    exact ⟨none, 0, 0, by rw [EX.out]; rfl, by rw [EL.out]; exact Own.nil_, hb⟩
end Go.Proofs.Ytfbfkfdkigpkgaa
