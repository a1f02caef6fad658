/- The walks of layer 16: a frame's head and text, a welcome's text. -/
import Derived.Test.YtfbfkfdkigpkgaaMay
import Derived.Test.YtfbfkfdkigpkgaaNew
namespace Go.Proofs.Ytfbfkfdkigpkgaa
set_option linter.unusedSimpArgs false
set_option linter.unusedVariables false
open Go.RowKit
attribute [local irreducible] beL beK

theorem Own.form {w : World} {base : Nat} {e : TypeId} {v : Value} {l : List Nat} (h : Own w base e v l) : ∃ A n c, v = .slice A n c ∧ n = l.length := by
  obtain ⟨A, c, hv, _⟩ := h.txt
  exact ⟨A, _, c, hv, rfl⟩
/-- Nothing is told, and why. -/
def RetErr (w : World) (x : Int) (e : Ending) (w' : World) : Prop := e = .returned (.tuple #[.slice none 0 0, .int .i64 x]) ∧ Below w.heap.size w w'
/-- A frame's head. -/
def headL (ep fr ge : Nat) : List Nat := [3] ++ beL 8 ep ++ beL 4 fr ++ beL 8 ge
theorem mayF_yes {ep fr ge n : Nat} (h : MayF ep fr ge n) : decide (MayF (ep : Int) (fr : Int) (ge : Int) n) = true := decide_eq_true h
theorem beL_one (n : Nat) (h : n < 256) : beL 1 n = [n] := by
  rw [beL_cons, beL_zero, Nat.mul_zero, Nat.pow_zero, Nat.div_one, Nat.mod_eq_of_lt h]

set_option maxRecDepth 100000 in
set_option maxHeartbeats 4000000 in
theorem FrameHead_yes (ep fr ge : Nat) (A : Option Addr) (n c : Nat) (hm : MayF ep fr ge n) (w : World) :
    Calls Try.prog 14 #[.agg #[.int .u64 ep, .int .i64 fr, .int .u64 ge, .slice A n c]] w (RetTxt w (headL ep fr ge)) := by
  have HM := Lib.hid (mayF_yes hm)
  have b1 : ep ≤ 1099511627776 := by unfold MayF at hm; omega
  have b2 : fr ≤ 1048576 := by unfold MayF at hm; omega
  have b3 : ge < 4294967296 := by unfold MayF at hm; omega
  have B1 := Lib.hid b1
  have B3 := Lib.hid b3
  clear hm b1 b3
  go_enter Try.func14, Try.ntmps14
  have hb : Below w.heap.size w (w.alloc (.cells #[.int .u64 ep, .int .i64 fr, .int .u64 ge, .slice A n c] 27)) := (Below.refl _ _).alloc (Nat.le_refl _) _
  have g0 := heap_alloc_new w (.cells #[.int .u64 ep, .int .i64 fr, .int .u64 ge, .slice A n c] 27)
  go_wp2_with (go_at_call 41; fail)
  refine (mayFrame_any _ _ _ _ _ _ _).mono ?_
  rintro e w1 ⟨rfl, b1⟩
  rw [HM.out]
  have hs1 := b1.size
  rw [World.size_alloc] at hs1 b1
  replace g0 := keep_below b1 (by omega) g0
  replace hb := hb.trans (b1.mono (by omega))
  clear b1
  obtain ⟨gp, hz, hbp⟩ := alloc1 w1 (.cells #[.slice none 0 0, .int .i64 0] 62)
  have p0 : Pens (w1.alloc (.cells #[.slice none 0 0, .int .i64 0] 62)) w1.heap.size w1.heap.size [] := ⟨Nat.le_refl _, by rw [hz]; omega, _, gp, Own.nil_⟩
  replace g0 := keep_below hbp (by omega) g0
  replace hb := hb.trans (hbp.mono hb.size)
  clear gp hbp
  go_wp2_with (go_at_call 36; fail)
  generalize w1.alloc (.cells #[.slice none 0 0, .int .i64 0] 62) = wp at *
  generalize w1.heap.size = G at *
  refine (num_any 1 3 (by omega) (by omega) (by omega) (by omega) G G [] (by simp) _ p0).mono ?_
  rintro e w2 ⟨rfl, p1, b2⟩
  replace g0 := keep_below b2 (by omega) g0
  replace hb := hb.trans (b2.mono (by omega))
  clear b2 p0 hz
  have c0 : w2.cell? ⟨w.heap.size, 0, none⟩ = some (.int .u64 (ep : Int)) := by rw [cell_of_row _ _ _ _ _ _ g0]; rfl
  go_wp2_with (go_at_call 36; fail)
  refine (num_any 8 ep (by omega) (by omega) (by have := B1.out; omega) (by rw [show (256 : Nat) ^ 8 = 18446744073709551616 from rfl]; have := B1.out; omega) G G _ (by simp [beL_len]) _ p1).mono ?_
  rintro e w3 ⟨rfl, p2, b3⟩
  replace g0 := keep_below b3 (by omega) g0
  replace hb := hb.trans (b3.mono (by omega))
  clear b3 p1 c0
  have c0 : w3.cell? ⟨w.heap.size, 1, none⟩ = some (.int .i64 (fr : Int)) := by rw [cell_of_row _ _ _ _ _ _ g0]; rfl
  go_wp2_with (go_at_call 36; fail)
  refine (num_any 4 fr (by omega) (by omega) (by omega) (by rw [show (256 : Nat) ^ 4 = 4294967296 from rfl]; omega) G G _ (by simp [beL_len]) _ p2).mono ?_
  rintro e w4 ⟨rfl, p3, b4⟩
  replace g0 := keep_below b4 (by omega) g0
  replace hb := hb.trans (b4.mono (by omega))
  clear b4 p2 c0
  have c0 : w4.cell? ⟨w.heap.size, 2, none⟩ = some (.int .u64 (ge : Int)) := by rw [cell_of_row _ _ _ _ _ _ g0]; rfl
  go_wp2_with (go_at_call 36; fail)
  refine (num_any 8 ge (by omega) (by omega) (by have := B3.out; omega) (by rw [show (256 : Nat) ^ 8 = 18446744073709551616 from rfl]; have := B3.out; omega) G G _ (by simp [beL_len]) _ p3).mono ?_
  rintro e w5 ⟨rfl, p4, b5⟩
  replace hb := hb.trans (b5.mono (by omega))
  clear b5 p3 c0
  go_wp2_with (go_at_call 38; fail)
  refine (done_any G G _ _ p4).mono ?_
  rintro e w6 ⟨A', c', rfl, ho, rfl⟩
  have el : [] ++ beL 1 3 ++ beL 8 ep ++ beL 4 fr ++ beL 8 ge = headL ep fr ge := by rw [beL_one 3 (by omega)]; rfl
  rw [el] at ho ⊢
  have HO := Lib.hid ho
  clear ho el p4
  go_wp2
  go_ret2
  exact ⟨A', _, c', rfl, HO.out.mono (by omega), hb⟩

theorem FrameHead_no (ep fr ge : Int) (A : Option Addr) (n c : Nat) (hm : ¬ MayF ep fr ge n) (w : World) :
    Calls Try.prog 14 #[.agg #[.int .u64 ep, .int .i64 fr, .int .u64 ge, .slice A n c]] w (RetErr w 1) := by
  have HM := Lib.hid (decide_eq_false hm)
  clear hm
  go_enter Try.func14, Try.ntmps14
  have hb : Below w.heap.size w (w.alloc (.cells #[.int .u64 ep, .int .i64 fr, .int .u64 ge, .slice A n c] 27)) := (Below.refl _ _).alloc (Nat.le_refl _) _
  go_wp2_with (go_at_call 41; fail)
  refine (mayFrame_any _ _ _ _ _ _ _).mono ?_
  rintro e w1 ⟨rfl, b1⟩
  rw [HM.out]
  rw [World.size_alloc] at b1
  replace hb := hb.trans (b1.mono (by omega))
  go_wp2
  go_ret2
  exact ⟨rfl, hb⟩

theorem RFrameHead_no (ep fr ge : Int) (A : Option Addr) (n c : Nat) (hm : ¬ MayF ep fr ge n) (w : World) :
    Calls Try.prog 15 #[.agg #[.int .u64 ep, .int .i64 fr, .int .u64 ge, .slice A n c]] w (RetErr w 1) := by
  have HM := Lib.hid (decide_eq_false hm)
  clear hm
  go_enter Try.func15, Try.ntmps15
  have hb : Below w.heap.size w (w.alloc (.cells #[.int .u64 ep, .int .i64 fr, .int .u64 ge, .slice A n c] 27)) := (Below.refl _ _).alloc (Nat.le_refl _) _
  go_wp2_with (go_at_call 42; fail)
  refine (RmayFrame_any _ _ _ _ _ _ _).mono ?_
  rintro e w1 ⟨rfl, b1⟩
  rw [HM.out]
  rw [World.size_alloc] at b1
  replace hb := hb.trans (b1.mono (by omega))
  go_wp2
  go_ret2
  exact ⟨rfl, hb⟩

theorem WriteFrame_no (ep fr ge : Int) (A : Option Addr) (n c : Nat) (hm : ¬ MayF ep fr ge n) (w : World) :
    Calls Try.prog 12 #[.agg #[.int .u64 ep, .int .i64 fr, .int .u64 ge, .slice A n c]] w (RetErr w 1) := by
  have HM := Lib.hid hm
  clear hm
  go_enter Try.func12, Try.ntmps12
  have hb : Below w.heap.size w (w.alloc (.cells #[.int .u64 ep, .int .i64 fr, .int .u64 ge, .slice A n c] 27)) := (Below.refl _ _).alloc (Nat.le_refl _) _
  go_wp2_with (go_at_call 14; fail)
  refine (FrameHead_no _ _ _ _ _ _ HM.out _).mono ?_
  rintro e w1 ⟨rfl, b1⟩
  rw [World.size_alloc] at b1
  replace hb := hb.trans (b1.mono (by omega))
  go_wp2
  go_ret2
  exact ⟨rfl, hb⟩

theorem RWriteFrame_no (ep fr ge : Int) (A : Option Addr) (n c : Nat) (hm : ¬ MayF ep fr ge n) (w : World) :
    Calls Try.prog 13 #[.agg #[.int .u64 ep, .int .i64 fr, .int .u64 ge, .slice A n c]] w (RetErr w 1) := by
  have HM := Lib.hid hm
  clear hm
  go_enter Try.func13, Try.ntmps13
  have hb : Below w.heap.size w (w.alloc (.cells #[.int .u64 ep, .int .i64 fr, .int .u64 ge, .slice A n c] 27)) := (Below.refl _ _).alloc (Nat.le_refl _) _
  go_wp2_with (go_at_call 15; fail)
  refine (RFrameHead_no _ _ _ _ _ _ HM.out _).mono ?_
  rintro e w1 ⟨rfl, b1⟩
  rw [World.size_alloc] at b1
  replace hb := hb.trans (b1.mono (by omega))
  go_wp2
  go_ret2
  exact ⟨rfl, hb⟩
theorem headL_len (ep fr ge : Nat) : (headL ep fr ge).length = 21 := by unfold headL; simp [beL_len]

set_option maxHeartbeats 1000000 in
theorem WriteFrame_yes (ep fr ge : Nat) (A : Option Addr) (n c : Nat) (m : List Nat) (hm : MayF ep fr ge n) (w : World) (ht : Txt w w.heap.size A n c m) :
    Calls Try.prog 12 #[.agg #[.int .u64 ep, .int .i64 fr, .int .u64 ge, .slice A n c]] w (RetTxt w (headL ep fr ge ++ m)) := by
  have HM := Lib.hid hm
  have bn : n ≤ 524288 := by unfold MayF at hm; omega
  clear hm
  go_enter Try.func12, Try.ntmps12
  have hb : Below w.heap.size w (w.alloc (.cells #[.int .u64 ep, .int .i64 fr, .int .u64 ge, .slice A n c] 27)) := (Below.refl _ _).alloc (Nat.le_refl _) _
  have g0 := heap_alloc_new w (.cells #[.int .u64 ep, .int .i64 fr, .int .u64 ge, .slice A n c] 27)
  go_wp2_with (go_at_call 14; fail)
  refine (FrameHead_yes _ _ _ _ _ _ HM.out _).mono ?_
  rintro e w1 ⟨A1, n1, c1, rfl, ho, b1⟩
  rw [World.size_alloc] at ho b1
  have hs1 := b1.size
  rw [World.size_alloc] at hs1
  replace g0 := keep_below b1 (by omega) g0
  replace hb := hb.trans (b1.mono (by omega))
  have c3 : w1.cell? ⟨w.heap.size, 3, none⟩ = some (.slice A n c) := by rw [cell_of_row _ _ _ _ _ _ g0]; rfl
  have HT := Lib.hid (ht.below hb)
  have HO := Lib.hid ho
  clear ht ho b1 g0
  go_wp2_with (refine wpList_append_txt rfl rfl BT rfl rfl HO.out HT.out (by rw [headL_len]; omega) (by omega) ?_; intro v' w3 ho3 hg3 hat3; have hb3 := own_below hb HO.out hg3 (Nat.le_succ _) hb.size; obtain ⟨A3, c3', rfl, ht3⟩ := ho3.txt; have HO3 := Lib.hid (ho3.mono (Nat.le_succ _)); clear ht3 ho3 hg3 hat3)
  rw [List.length_append] at HO3
  go_ret2
  exact ⟨A3, _, c3', rfl, HO3.out, hb3⟩
end Go.Proofs.Ytfbfkfdkigpkgaa
