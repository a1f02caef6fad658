/- Layer 16: whatever a welcome or a frame, the program's text and the reference's. -/
import Derived.Test.YtfbfkfdkigpkgaaWelc
namespace Go.Proofs.Ytfbfkfdkigpkgaa
set_option linter.unusedSimpArgs false
set_option linter.unusedVariables false
open Go.RowKit
/-- A text, or none and why. -/
def RetAny (w : World) (l : List Nat) (x : Int) (e : Ending) (w' : World) : Prop :=
  ∃ A n c, e = .returned (.tuple #[.slice A n c, .int .i64 x]) ∧ Txt w' w'.heap.size A n c l ∧ Below w.heap.size w w'
theorem RetTxt.any {w : World} {l : List Nat} {e : Ending} {w' : World} (h : RetTxt w l e w') : RetAny w l 0 e w' := by
  obtain ⟨A, n, c, h1, h2, h3⟩ := h
  exact ⟨A, n, c, h1, h2.text, h3⟩
theorem RetErr.any {w : World} {e : Ending} {w' : World} (h : RetErr w 1 e w') : RetAny w [] 1 e w' := by
  obtain ⟨h1, h3⟩ := h
  exact ⟨none, 0, 0, h1, Txt.nil_, h3⟩
def lH (ep fr ge : Int) (n : Nat) : List Nat := if MayF ep fr ge n then headL ep.toNat fr.toNat ge.toNat else []
def lF (ep fr ge : Int) (n : Nat) (m : List Nat) : List Nat := if MayF ep fr ge n then headL ep.toNat fr.toNat ge.toNat ++ m else []
def xF (ep fr ge : Int) (n : Nat) : Int := if MayF ep fr ge n then 0 else 1
def lW (tw : Int) (n1 n2 n3 : Nat) (m1 m2 m3 : List Nat) : List Nat := if MayW tw n1 n2 n3 then welcomeL tw.toNat n1 n2 n3 m1 m2 m3 else []
def xW (tw : Int) (n1 n2 n3 : Nat) : Int := if MayW tw n1 n2 n3 then 0 else 1
section
variable (ep fr ge : Int) (A : Option Addr) (n c : Nat) (m : List Nat) (h0 : 0 ≤ ep) (h1 : 0 ≤ ge) (w : World)
include h0 h1
theorem FrameHead_all : Calls Try.prog 14 #[.agg #[.int .u64 ep, .int .i64 fr, .int .u64 ge, .slice A n c]] w (RetAny w (lH ep fr ge n) (xF ep fr ge n)) := by
  unfold lH xF
  by_cases hm : MayF ep fr ge n
  · rw [if_pos hm, if_pos hm]
    have hm' := hm
    unfold MayF at hm'
    obtain ⟨a, rfl⟩ : ∃ a : Nat, ep = a := ⟨ep.toNat, by omega⟩
    obtain ⟨b, rfl⟩ : ∃ a : Nat, fr = a := ⟨fr.toNat, by omega⟩
    obtain ⟨d, rfl⟩ : ∃ a : Nat, ge = a := ⟨ge.toNat, by omega⟩
    exact (FrameHead_yes a b d A n c hm w).mono fun _ _ h => h.any
  · rw [if_neg hm, if_neg hm]
    exact (FrameHead_no ep fr ge A n c hm w).mono fun _ _ h => h.any
theorem RFrameHead_all : Calls Try.prog 15 #[.agg #[.int .u64 ep, .int .i64 fr, .int .u64 ge, .slice A n c]] w (RetAny w (lH ep fr ge n) (xF ep fr ge n)) := by
  unfold lH xF
  by_cases hm : MayF ep fr ge n
  · rw [if_pos hm, if_pos hm]
    have hm' := hm
    unfold MayF at hm'
    obtain ⟨a, rfl⟩ : ∃ a : Nat, ep = a := ⟨ep.toNat, by omega⟩
    obtain ⟨b, rfl⟩ : ∃ a : Nat, fr = a := ⟨fr.toNat, by omega⟩
    obtain ⟨d, rfl⟩ : ∃ a : Nat, ge = a := ⟨ge.toNat, by omega⟩
    exact (RFrameHead_yes a b d A n c hm w).mono fun _ _ h => h.any
  · rw [if_neg hm, if_neg hm]
    exact (RFrameHead_no ep fr ge A n c hm w).mono fun _ _ h => h.any
variable (ht : Txt w w.heap.size A n c m)
include ht
theorem WriteFrame_all : Calls Try.prog 12 #[.agg #[.int .u64 ep, .int .i64 fr, .int .u64 ge, .slice A n c]] w (RetAny w (lF ep fr ge n m) (xF ep fr ge n)) := by
  unfold lF xF
  by_cases hm : MayF ep fr ge n
  · rw [if_pos hm, if_pos hm]
    have hm' := hm
    unfold MayF at hm'
    obtain ⟨a, rfl⟩ : ∃ a : Nat, ep = a := ⟨ep.toNat, by omega⟩
    obtain ⟨b, rfl⟩ : ∃ a : Nat, fr = a := ⟨fr.toNat, by omega⟩
    obtain ⟨d, rfl⟩ : ∃ a : Nat, ge = a := ⟨ge.toNat, by omega⟩
    exact (WriteFrame_yes a b d A n c m hm w ht).mono fun _ _ h => h.any
  · rw [if_neg hm, if_neg hm]
    exact (WriteFrame_no ep fr ge A n c hm w).mono fun _ _ h => h.any
theorem RWriteFrame_all : Calls Try.prog 13 #[.agg #[.int .u64 ep, .int .i64 fr, .int .u64 ge, .slice A n c]] w (RetAny w (lF ep fr ge n m) (xF ep fr ge n)) := by
  unfold lF xF
  by_cases hm : MayF ep fr ge n
  · rw [if_pos hm, if_pos hm]
    have hm' := hm
    unfold MayF at hm'
    obtain ⟨a, rfl⟩ : ∃ a : Nat, ep = a := ⟨ep.toNat, by omega⟩
    obtain ⟨b, rfl⟩ : ∃ a : Nat, fr = a := ⟨fr.toNat, by omega⟩
    obtain ⟨d, rfl⟩ : ∃ a : Nat, ge = a := ⟨ge.toNat, by omega⟩
    exact (RWriteFrame_yes a b d A n c m hm w ht).mono fun _ _ h => h.any
  · rw [if_neg hm, if_neg hm]
    exact (RWriteFrame_no ep fr ge A n c hm w).mono fun _ _ h => h.any
end
section
variable (tw : Int) (A1 : Option Addr) (n1 c1 : Nat) (A2 : Option Addr) (n2 c2 : Nat) (A3 : Option Addr) (n3 c3 : Nat) (m1 m2 m3 : List Nat) (w : World) (ht1 : Txt w w.heap.size A1 n1 c1 m1) (ht2 : Txt w w.heap.size A2 n2 c2 m2) (ht3 : Txt w w.heap.size A3 n3 c3 m3)
include ht1 ht2 ht3
theorem WriteWelcome_all : Calls Try.prog 10 #[.agg #[.int .i64 tw, .slice A1 n1 c1, .slice A2 n2 c2, .slice A3 n3 c3]] w (RetAny w (lW tw n1 n2 n3 m1 m2 m3) (xW tw n1 n2 n3)) := by
  unfold lW xW
  by_cases hm : MayW tw n1 n2 n3
  · rw [if_pos hm, if_pos hm]
    have hm' := hm
    unfold MayW at hm'
    obtain ⟨a, rfl⟩ : ∃ a : Nat, tw = a := ⟨tw.toNat, by omega⟩
    exact (WriteWelcome_yes a A1 n1 c1 A2 n2 c2 A3 n3 c3 m1 m2 m3 hm w ht1 ht2 ht3).mono fun _ _ h => h.any
  · rw [if_neg hm, if_neg hm]
    exact (WriteWelcome_no tw A1 n1 c1 A2 n2 c2 A3 n3 c3 hm w).mono fun _ _ h => h.any
theorem RWriteWelcome_all : Calls Try.prog 11 #[.agg #[.int .i64 tw, .slice A1 n1 c1, .slice A2 n2 c2, .slice A3 n3 c3]] w (RetAny w (lW tw n1 n2 n3 m1 m2 m3) (xW tw n1 n2 n3)) := by
  unfold lW xW
  by_cases hm : MayW tw n1 n2 n3
  · rw [if_pos hm, if_pos hm]
    have hm' := hm
    unfold MayW at hm'
    obtain ⟨a, rfl⟩ : ∃ a : Nat, tw = a := ⟨tw.toNat, by omega⟩
    exact (RWriteWelcome_yes a A1 n1 c1 A2 n2 c2 A3 n3 c3 m1 m2 m3 hm w ht1 ht2 ht3).mono fun _ _ h => h.any
  · rw [if_neg hm, if_neg hm]
    exact (RWriteWelcome_no tw A1 n1 c1 A2 n2 c2 A3 n3 c3 hm w).mono fun _ _ h => h.any
end
theorem headL_lt (a b d : Nat) : ∀ x ∈ headL a b d, x < 256 := by
  intro x hx
  unfold headL at hx
  simp only [List.mem_append, List.mem_singleton] at hx
  rcases hx with ((rfl | h) | h) | h
  · omega
  · exact beL_lt _ _ x h
  · exact beL_lt _ _ x h
  · exact beL_lt _ _ x h
theorem lH_lt (ep fr ge : Int) (n : Nat) : ∀ x ∈ lH ep fr ge n, x < 256 := by
  intro x hx
  unfold lH at hx
  split at hx
  · exact headL_lt _ _ _ x hx
  · cases hx
theorem lF_lt (ep fr ge : Int) (n : Nat) (m : List Nat) (hm : ∀ x ∈ m, x < 256) : ∀ x ∈ lF ep fr ge n m, x < 256 := by
  intro x hx
  unfold lF at hx
  split at hx
  · rcases List.mem_append.1 hx with h | h
    · exact headL_lt _ _ _ x h
    · exact hm x h
  · cases hx
theorem lW_lt (tw : Int) (n1 n2 n3 : Nat) (m1 m2 m3 : List Nat) (h1 : ∀ x ∈ m1, x < 256) (h2 : ∀ x ∈ m2, x < 256) (h3 : ∀ x ∈ m3, x < 256) : ∀ x ∈ lW tw n1 n2 n3 m1 m2 m3, x < 256 := by
  intro x hx
  unfold lW at hx
  split at hx
  · unfold welcomeL at hx
    simp only [List.mem_append, List.mem_singleton] at hx
    rcases hx with ((((((rfl | h) | h) | h) | h) | h) | h) | h
    · omega
    · exact beL_lt _ _ x h
    · exact beL_lt _ _ x h
    · exact h1 x h
    · exact beL_lt _ _ x h
    · exact h2 x h
    · exact beL_lt _ _ x h
    · exact h3 x h
  · cases hx
attribute [local irreducible] beL beK headL lH lF lW xF xW
set_option maxRecDepth 100000 in
theorem live_any (w : World) : Calls Try.prog 9 #[] w fun e w' => e = .returned (.bool true) ∧ Below w.heap.size w w' := by
  have C := fun w => WriteFrame_yes 1 2 3 none 0 0 [] (by unfold MayF; decide) w Txt.nil_
  have hl : (headL 1 2 3 ++ []).length = 21 := by unfold headL; simp [beL_len]
  have C := Lib.hid C
  go_enter Try.func9, Try.ntmps9
  go_wp2_with (go_at_call 12; fail)
  refine (C.out _).mono ?_
  rintro e w1 ⟨A, n, c, rfl, ho, hb⟩
  have hn := ho.text.len
  rw [hl] at hn
  subst hn
  have HO := Lib.hid ho
  clear ho
  go_wp2
  go_ret
  exact ⟨rfl, hb⟩
theorem Same_self (A : Option Addr) (n c : Nat) (l : List Nat) (A' : Option Addr) (n' c' : Nat) (w : World) (h : Txt w w.heap.size A n c l) (h' : Txt w w.heap.size A' n' c' l) (hl : ∀ x ∈ l, x < 256) :
    Calls Try.prog 16 #[.slice A n c, .slice A' n' c'] w fun e w' => e = .returned (.bool true) ∧ w = w' := by
  refine (Same_txt A n c l A' n' c' l w.heap.size w h h' hl hl).mono ?_
  rintro e w' ⟨rfl, rfl⟩
  simp
end Go.Proofs.Ytfbfkfdkigpkgaa
