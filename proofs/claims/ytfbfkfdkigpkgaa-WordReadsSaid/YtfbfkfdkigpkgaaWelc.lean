/- The walks of layer 16: a welcome's text. -/
import Derived.Test.YtfbfkfdkigpkgaaRHead
namespace Go.Proofs.Ytfbfkfdkigpkgaa
set_option linter.unusedSimpArgs false
set_option linter.unusedVariables false
open Go.RowKit
attribute [local irreducible] beL beK headL
/-- A welcome's text. -/
def welcomeL (tw n1 n2 n3 : Nat) (m1 m2 m3 : List Nat) : List Nat := [2] ++ beL 4 tw ++ beL 4 n1 ++ m1 ++ beL 4 n2 ++ m2 ++ beL 4 n3 ++ m3
theorem mayW_yes {tw n1 n2 n3 : Nat} (h : MayW tw n1 n2 n3) : decide (MayW (tw : Int) n1 n2 n3) = true := decide_eq_true h
theorem WriteWelcome_no (tw : Int) (A1 : Option Addr) (n1 c1 : Nat) (A2 : Option Addr) (n2 c2 : Nat) (A3 : Option Addr) (n3 c3 : Nat) (hm : ¬ MayW tw n1 n2 n3) (w : World) :
    Calls Try.prog 10 #[.agg #[.int .i64 tw, .slice A1 n1 c1, .slice A2 n2 c2, .slice A3 n3 c3]] w (RetErr w 1) := by
  have HM := Lib.hid (decide_eq_false hm)
  clear hm
  go_enter Try.func10, Try.ntmps10
  have hb : Below w.heap.size w (w.alloc (.cells #[.int .i64 tw, .slice A1 n1 c1, .slice A2 n2 c2, .slice A3 n3 c3] 24)) := (Below.refl _ _).alloc (Nat.le_refl _) _
  go_wp2_with (go_at_call 35; fail)
  refine (mayWelcome_any _ _ _ _ _ _ _ _ _ _ _).mono ?_
  rintro e w1 ⟨rfl, b1⟩
  rw [HM.out]
  rw [World.size_alloc] at b1
  replace hb := hb.trans (b1.mono (by omega))
  go_wp2
  go_ret2
  exact ⟨rfl, hb⟩
theorem RWriteWelcome_no (tw : Int) (A1 : Option Addr) (n1 c1 : Nat) (A2 : Option Addr) (n2 c2 : Nat) (A3 : Option Addr) (n3 c3 : Nat) (hm : ¬ MayW tw n1 n2 n3) (w : World) :
    Calls Try.prog 11 #[.agg #[.int .i64 tw, .slice A1 n1 c1, .slice A2 n2 c2, .slice A3 n3 c3]] w (RetErr w 1) := by
  have HM := Lib.hid (decide_eq_false hm)
  clear hm
  go_enter Try.func11, Try.ntmps11
  have hb : Below w.heap.size w (w.alloc (.cells #[.int .i64 tw, .slice A1 n1 c1, .slice A2 n2 c2, .slice A3 n3 c3] 24)) := (Below.refl _ _).alloc (Nat.le_refl _) _
  go_wp2_with (go_at_call 39; fail)
  refine (RmayWelcome_any _ _ _ _ _ _ _ _ _ _ _).mono ?_
  rintro e w1 ⟨rfl, b1⟩
  rw [HM.out]
  rw [World.size_alloc] at b1
  replace hb := hb.trans (b1.mono (by omega))
  go_wp2
  go_ret2
  exact ⟨rfl, hb⟩
set_option maxRecDepth 100000 in
set_option maxHeartbeats 4000000 in
theorem WriteWelcome_yes (tw : Nat) (A1 : Option Addr) (n1 c1 : Nat) (A2 : Option Addr) (n2 c2 : Nat) (A3 : Option Addr) (n3 c3 : Nat) (m1 m2 m3 : List Nat) (hm : MayW tw n1 n2 n3) (w : World) (ht1 : Txt w w.heap.size A1 n1 c1 m1) (ht2 : Txt w w.heap.size A2 n2 c2 m2) (ht3 : Txt w w.heap.size A3 n3 c3 m3) :
    Calls Try.prog 10 #[.agg #[.int .i64 tw, .slice A1 n1 c1, .slice A2 n2 c2, .slice A3 n3 c3]] w (RetTxt w (welcomeL tw n1 n2 n3 m1 m2 m3)) := by
  have HM := Lib.hid (mayW_yes hm)
  have b0 : tw ≤ 1048576 := by unfold MayW at hm; omega
  have b1 : n1 ≤ 262144 := by unfold MayW at hm; omega
  have b2 : n2 ≤ 262144 := by unfold MayW at hm; omega
  have b3 : n3 ≤ 262144 := by unfold MayW at hm; omega
  clear hm
  go_enter Try.func10, Try.ntmps10
  have hb : Below w.heap.size w (w.alloc (.cells #[.int .i64 tw, .slice A1 n1 c1, .slice A2 n2 c2, .slice A3 n3 c3] 24)) := (Below.refl _ _).alloc (Nat.le_refl _) _
  have g0 := heap_alloc_new w (.cells #[.int .i64 tw, .slice A1 n1 c1, .slice A2 n2 c2, .slice A3 n3 c3] 24)
  go_wp2_with (go_at_call 35; fail)
  refine (mayWelcome_any _ _ _ _ _ _ _ _ _ _ _).mono ?_
  rintro e w1 ⟨rfl, bb⟩
  rw [HM.out]
  have hs1 := bb.size
  rw [World.size_alloc] at hs1 bb
  replace g0 := keep_below bb (by omega) g0
  replace hb := hb.trans (bb.mono (by omega))
  clear bb
  obtain ⟨gp, hz, hbp⟩ := alloc1 w1 (.cells #[.slice none 0 0, .int .i64 0] 62)
  have p0 : Pens (w1.alloc (.cells #[.slice none 0 0, .int .i64 0] 62)) w1.heap.size w1.heap.size [] := ⟨Nat.le_refl _, by rw [hz]; omega, _, gp, Own.nil_⟩
  replace g0 := keep_below hbp (by omega) g0
  replace hb := hb.trans (hbp.mono hb.size)
  clear gp hbp
  have hG : w.heap.size ≤ w1.heap.size := by omega
  have HT1 := Lib.hid ((ht1.below hb).more hG)
  have HT2 := Lib.hid ((ht2.below hb).more hG)
  have HT3 := Lib.hid ((ht3.below hb).more hG)
  clear ht1 ht2 ht3
  go_wp2_with (go_at_call 36; fail)
  generalize w1.alloc (.cells #[.slice none 0 0, .int .i64 0] 62) = wp at *
  generalize w1.heap.size = G at *
  refine (num_any 1 2 (by omega) (by omega) (by omega) (by omega) G G [] (by simp) _ p0).mono ?_
  rintro e w2 ⟨rfl, p1, b2⟩
  replace g0 := keep_below b2 (by omega) g0
  replace hb := hb.trans (b2.mono (by omega))
  replace HT1 := Lib.hid (HT1.out.below b2)
  replace HT2 := Lib.hid (HT2.out.below b2)
  replace HT3 := Lib.hid (HT3.out.below b2)
  clear b2 p0 hz
  have c0 : w2.cell? ⟨w.heap.size, 0, none⟩ = some (.int .i64 (tw : Int)) := by rw [cell_of_row _ _ _ _ _ _ g0]; rfl
  go_wp2_with (go_at_call 36; fail)
  refine (num_any 4 tw (by omega) (by omega) (by omega) (by rw [show (256 : Nat) ^ 4 = 4294967296 from rfl]; omega) G G _ (by simp [beL_len]) _ p1).mono ?_
  rintro e w3 ⟨rfl, p2, b2⟩
  replace g0 := keep_below b2 (by omega) g0
  replace hb := hb.trans (b2.mono (by omega))
  replace HT1 := Lib.hid (HT1.out.below b2)
  replace HT2 := Lib.hid (HT2.out.below b2)
  replace HT3 := Lib.hid (HT3.out.below b2)
  clear b2 p1 c0
  have l1 := Lib.hid HT1.out.len
  have l2 := Lib.hid HT2.out.len
  have l3 := Lib.hid HT3.out.len
  have c0 : w3.cell? ⟨w.heap.size, 1, none⟩ = some (.slice A1 n1 c1) := by rw [cell_of_row _ _ _ _ _ _ g0]; rfl
  go_wp2_with (go_at_call 37; fail)
  refine (text_any 4 (by omega) (by omega) A1 n1 c1 m1 (by rw [show (256 : Nat) ^ 4 = 4294967296 from rfl]; omega) (by omega) G G _ (by simp [beL_len]) _ p2 HT1.out).mono ?_
  rintro e w4 ⟨rfl, p3, b2⟩
  replace g0 := keep_below b2 (by omega) g0
  replace hb := hb.trans (b2.mono (by omega))
  replace HT2 := Lib.hid (HT2.out.below b2)
  replace HT3 := Lib.hid (HT3.out.below b2)
  clear b2 p2 c0 HT1
  have c0 : w4.cell? ⟨w.heap.size, 2, none⟩ = some (.slice A2 n2 c2) := by rw [cell_of_row _ _ _ _ _ _ g0]; rfl
  go_wp2_with (go_at_call 37; fail)
  refine (text_any 4 (by omega) (by omega) A2 n2 c2 m2 (by rw [show (256 : Nat) ^ 4 = 4294967296 from rfl]; omega) (by omega) G G _ (by have := l1.out; simp [beL_len]; omega) _ p3 HT2.out).mono ?_
  rintro e w5 ⟨rfl, p4, b2⟩
  replace g0 := keep_below b2 (by omega) g0
  replace hb := hb.trans (b2.mono (by omega))
  replace HT3 := Lib.hid (HT3.out.below b2)
  clear b2 p3 c0 HT2
  have c0 : w5.cell? ⟨w.heap.size, 3, none⟩ = some (.slice A3 n3 c3) := by rw [cell_of_row _ _ _ _ _ _ g0]; rfl
  go_wp2_with (go_at_call 37; fail)
  refine (text_any 4 (by omega) (by omega) A3 n3 c3 m3 (by rw [show (256 : Nat) ^ 4 = 4294967296 from rfl]; omega) (by omega) G G _ (by have := l1.out; have := l2.out; simp [beL_len]; omega) _ p4 HT3.out).mono ?_
  rintro e w6 ⟨rfl, p5, b2⟩
  replace hb := hb.trans (b2.mono (by omega))
  clear b2 p4 c0 HT3
  have el : [] ++ beL 1 2 ++ beL 4 tw ++ beL 4 n1 ++ m1 ++ beL 4 n2 ++ m2 ++ beL 4 n3 ++ m3 = welcomeL tw n1 n2 n3 m1 m2 m3 := by rw [beL_one 2 (by omega)]; rfl
  rw [el] at p5
  have P5 := Lib.hid p5
  clear p5 el
  go_wp2_with (go_at_call 38; fail)
  refine (done_any G G _ _ P5.out).mono ?_
  rintro e w7 ⟨A', c', rfl, ho, rfl⟩
  have HO := Lib.hid ho
  clear ho P5
  go_wp2
  go_ret2
  exact ⟨A', _, c', rfl, HO.out.mono (by omega), hb⟩
/-- Three texts, one by one. -/
def wA (A1 A2 A3 : Option Addr) (j : Nat) : Option Addr := if j = 0 then A1 else if j = 1 then A2 else A3
def wn (n1 n2 n3 : Nat) (j : Nat) : Nat := if j = 0 then n1 else if j = 1 then n2 else n3
def wm (m1 m2 m3 : List Nat) (j : Nat) : List Nat := if j = 0 then m1 else if j = 1 then m2 else m3
def wl (tw n1 n2 n3 : Nat) (m1 m2 m3 : List Nat) : Nat → List Nat
  | 0 => [2] ++ beL 4 tw
  | j + 1 => wl tw n1 n2 n3 m1 m2 m3 j ++ beL 4 (wn n1 n2 n3 j) ++ wm m1 m2 m3 j
theorem wl_succ (tw n1 n2 n3 : Nat) (m1 m2 m3 : List Nat) (j : Nat) : wl tw n1 n2 n3 m1 m2 m3 (j + 1) = wl tw n1 n2 n3 m1 m2 m3 j ++ beL 4 (wn n1 n2 n3 j) ++ wm m1 m2 m3 j := rfl
theorem wl_three (tw n1 n2 n3 : Nat) (m1 m2 m3 : List Nat) : wl tw n1 n2 n3 m1 m2 m3 3 = welcomeL tw n1 n2 n3 m1 m2 m3 := by
  simp [wl, wn, wm, welcomeL]
theorem wl_le (tw n1 n2 n3 : Nat) (m1 m2 m3 : List Nat) (h : ∀ j, (wm m1 m2 m3 j).length ≤ 262144) : ∀ j, (wl tw n1 n2 n3 m1 m2 m3 j).length ≤ 5 + j * 262148
  | 0 => by unfold wl; simp [beL_len]
  | j + 1 => by
    have h1 := wl_le tw n1 n2 n3 m1 m2 m3 h j
    have h2 := h j
    rw [wl_succ, List.length_append, List.length_append, beL_len]
    omega
attribute [local irreducible] wl wA wn wm
set_option maxRecDepth 100000 in
set_option maxHeartbeats 4000000 in
theorem RWriteWelcome_yes (tw : Nat) (A1 : Option Addr) (n1 c1 : Nat) (A2 : Option Addr) (n2 c2 : Nat) (A3 : Option Addr) (n3 c3 : Nat) (m1 m2 m3 : List Nat) (hm : MayW tw n1 n2 n3) (w : World) (ht1 : Txt w w.heap.size A1 n1 c1 m1) (ht2 : Txt w w.heap.size A2 n2 c2 m2) (ht3 : Txt w w.heap.size A3 n3 c3 m3) :
    Calls Try.prog 11 #[.agg #[.int .i64 tw, .slice A1 n1 c1, .slice A2 n2 c2, .slice A3 n3 c3]] w (RetTxt w (welcomeL tw n1 n2 n3 m1 m2 m3)) := by
  have HM := Lib.hid (mayW_yes hm)
  have b0 : tw ≤ 1048576 := by unfold MayW at hm; omega
  have b1 : n1 ≤ 262144 := by unfold MayW at hm; omega
  have b2 : n2 ≤ 262144 := by unfold MayW at hm; omega
  have b3 : n3 ≤ 262144 := by unfold MayW at hm; omega
  clear hm
  go_enter Try.func11, Try.ntmps11
  have hb : Below w.heap.size w (w.alloc (.cells #[.int .i64 tw, .slice A1 n1 c1, .slice A2 n2 c2, .slice A3 n3 c3] 24)) := (Below.refl _ _).alloc (Nat.le_refl _) _
  have g0 := heap_alloc_new w (.cells #[.int .i64 tw, .slice A1 n1 c1, .slice A2 n2 c2, .slice A3 n3 c3] 24)
  go_wp2_with (go_at_call 39; fail)
  refine (RmayWelcome_any _ _ _ _ _ _ _ _ _ _ _).mono ?_
  rintro e w1 ⟨rfl, bb⟩
  rw [HM.out]
  have hs1 := bb.size
  rw [World.size_alloc] at hs1 bb
  replace g0 := keep_below bb (by omega) g0
  replace hb := hb.trans (bb.mono (by omega))
  clear bb
  obtain ⟨_, hz, hbp⟩ := alloc1 w1 (.cells #[.int .u8 2] 5)
  have HO : Hid (Own (w1.alloc (.cells #[.int .u8 2] 5)) w1.heap.size 5 (.slice (some ⟨w1.heap.size, 0, none⟩) 1 1) [2]) := Lib.hid (own_one w1 5 2)
  replace g0 := keep_below hbp (by omega) g0
  replace hb := hb.trans (hbp.mono hb.size)
  have c0 : (w1.alloc (.cells #[.int .u8 2] 5)).cell? ⟨w.heap.size, 0, none⟩ = some (.int .i64 (tw : Int)) := by rw [cell_of_row _ _ _ _ _ _ g0]; rfl
  have hG : w1.heap.size + 1 ≤ (w1.alloc (.cells #[.int .u8 2] 5)).heap.size := by omega
  clear hbp hz
  go_wp2_with (go_at_call 40; fail)
  generalize w1.alloc (.cells #[.int .u8 2] 5) = wc at *
  generalize w1.heap.size = G at *
  clear c0
  refine (rnum_any 4 tw (by omega) (by omega) _).mono ?_
  rintro e wd ⟨v5, rfl, ho5, b5⟩
  replace g0 := keep_below b5 (by omega) g0
  replace hb := hb.trans (b5.mono (by omega))
  replace HO := Lib.hid (HO.out.below b5 (fun k hk => (HO.out.lt k hk).2))
  have hs5 := Nat.le_trans hG b5.size
  obtain ⟨A5, c5, hv5, ht5⟩ := ho5.txt
  rw [beL_len] at hv5 ht5
  subst hv5
  have HT := Lib.hid ht5
  clear ho5 b5 ht5 hG
  go_upto_region 4 with ((refine wpList_append_txt rfl rfl BT rfl rfl HO.out HT.out (by simp [beL_len] <;> omega) (by omega) ?_; intro v6 w6 ho6 hg6 hat6; have hb6 := own_below hb HO.out hg6 (by omega) (Nat.le_trans (by omega) hs5); have hG := Nat.le_trans hs5 hg6.size; have g6 := (hg6.block w.heap.size (by omega) (fun e => by have := (HO.out.lt _ e.symm).1; omega)).trans g0; obtain ⟨A4, n4, c4, rfl, hn4⟩ := ho6.form; have HO6 := Lib.hid ho6; clear hn4 ho6 hg6 hat6))
  clear g0 hb HO HT hs5
  obtain ⟨wc, rfl⟩ : ∃ x, x = w6 := ⟨_, rfl⟩
  have g0 := g6
  have hb := hb6
  have HO := HO6
  clear g6 hb6 HO6
  (try simp only [Act.put, List.setIfInBounds_toArray, List.set_cons_zero, List.set_cons_succ])
  have TX : ∀ j, j < 3 → Txt wc w.heap.size (wA A1 A2 A3 j) (wn n1 n2 n3 j) (wn c1 c2 c3 j) (wm m1 m2 m3 j) := by
    intro j hj
    have hj : j = 0 ∨ j = 1 ∨ j = 2 := by omega
    rcases hj with rfl | rfl | rfl
    · unfold wA wn wm; exact ht1.below hb
    · unfold wA wn wm; exact ht2.below hb
    · unfold wA wn wm; exact ht3.below hb
  have NB : ∀ j, wn n1 n2 n3 j ≤ 262144 := by intro j; unfold wn; split <;> (try split) <;> omega
  have MB : ∀ j, (wm m1 m2 m3 j).length ≤ 262144 := by
    intro j
    have := ht1.len; have := ht2.len; have := ht3.len
    unfold wm
    split
    · omega
    · split <;> omega
  have LB := Lib.hid (wl_le tw n1 n2 n3 m1 m2 m3 MB)
  have HN := Lib.hid NB
  have HX := Lib.hid TX
  have l0 : [2] ++ beL 4 tw = wl tw n1 n2 n3 m1 m2 m3 0 := by unfold wl; rfl
  rw [l0] at HO
  clear ht1 ht2 ht3 TX NB MB l0
  have c0 : wc.cell? ⟨w.heap.size, 1, none⟩ = some (.slice A1 n1 c1) := by rw [cell_of_row _ _ _ _ _ _ g0]; rfl
  have c1' : wc.cell? ⟨w.heap.size, 2, none⟩ = some (.slice A2 n2 c2) := by rw [cell_of_row _ _ _ _ _ _ g0]; rfl
  have c2' : wc.cell? ⟨w.heap.size, 3, none⟩ = some (.slice A3 n3 c3) := by rw [cell_of_row _ _ _ _ _ _ g0]; rfl
  obtain ⟨gS, hz, bS⟩ := alloc1 wc (.cells #[.slice A1 n1 c1, .slice A2 n2 c2, .slice A3 n3 c3] 22)
  replace HO := Lib.hid (HO.out.below bS (fun k hk => (HO.out.lt k hk).2))
  replace HX := Lib.hid (fun j hj => (HX.out j hj).below' bS (by omega))
  replace hb := hb.trans (bS.mono (by omega))
  go_wp2
  clear c0 c1' c2' g0 bS
  generalize wc.alloc (.cells #[.slice A1 n1 c1, .slice A2 n2 c2, .slice A3 n3 c3] 22) = ws at *
  generalize wc.heap.size = S at *
  go_loopg [4, 23] 3 (fun k v i wr => ∃ (j : Nat) (A : Option Addr) (n c : Nat), j + k = 3 ∧ i = .int .i64 (j : Int) ∧ v = .slice A n c ∧ Own wr G 5 (.slice A n c) (wl tw n1 n2 n3 m1 m2 m3 j) ∧
    wr.heap[S]? = some (.cells #[.slice A1 n1 c1, .slice A2 n2 c2, .slice A3 n3 c3] 22 (0, 0)) ∧ (∀ j, j < 3 → Txt wr w.heap.size (wA A1 A2 A3 j) (wn n1 n2 n3 j) (wn c1 c2 c3 j) (wm m1 m2 m3 j)) ∧ Below w.heap.size w wr)
  case atStart => exact ⟨0, A4, n4, c4, rfl, rfl, rfl, HO.out, gS, HX.out, hb⟩
  case round =>
    obtain ⟨j, A, n, c, hj, rfl, rfl, ho, gr, hx, hB⟩ := hrel
    have hj' := Lib.hid hj
    replace HO := Lib.hid ho
    replace HX := Lib.hid hx
    clear hb gS hz hj ho hx
    have hl := lt_of_block gr
    by_cases hlt : j < 3
    · have c0 : wr.cell? ⟨S, j, none⟩ = some (.slice (wA A1 A2 A3 j) (wn n1 n2 n3 j) (wn c1 c2 c3 j)) := by
        rw [cell_of_row _ _ _ _ _ _ gr]
        have hj3 : j = 0 ∨ j = 1 ∨ j = 2 := by omega
        rcases hj3 with rfl | rfl | rfl <;> (unfold wA wn; rfl)
      have hnj := HN.out j
      have hlj := LB.out j
      go_wp2_with (go_at_call 40; fail)
      clear c0
      refine (rnum_any 4 (wn n1 n2 n3 j) (by omega) (by omega) _).mono ?_
      rintro e we ⟨v5, rfl, ho5, b5⟩
      replace gr := keep_below b5 (by omega) gr
      replace hB := hB.trans (b5.mono (by omega))
      replace HO := Lib.hid (HO.out.below b5 (fun k hk => (HO.out.lt k hk).2))
      replace HX := Lib.hid (fun j hj => (HX.out j hj).below' b5 (by omega))
      obtain ⟨A7, c7, hv5, ht5⟩ := ho5.txt
      rw [beL_len] at hv5 ht5
      subst hv5
      have HT := Lib.hid ht5
      clear ho5 b5 ht5
      go_wp2_with (first | (refine wpList_append_txt rfl rfl BT rfl rfl HO6.out HT6.out (by rw [List.length_append, beL_len]; omega) (by have := lt_of_block gr6; omega) ?_; intro v8 w8 ho8 hg8 hat8; have hB8 := own_below hB6 HO6.out hg8 (by omega) (by have := lt_of_block gr6; omega); have HX8 := Lib.hid (fun j hj => (HX6.out j hj).below (own_below (Below.refl w.heap.size _) HO6.out hg8 (by omega) (by have := lt_of_block gr6; omega))); have gr8 := (hg8.block S (lt_of_block gr6) (fun e => own_ne HO6.out gr6 (by decide) S e.symm rfl)).trans gr6; obtain ⟨A8, n8, c8, rfl, hn8⟩ := ho8.form; have HO8 := Lib.hid ho8; clear hn8 ho8 hg8 hat8) | (refine wpList_append_txt rfl rfl BT rfl rfl HO.out HT.out (by omega) (by have := lt_of_block gr; omega) ?_; intro v6 w6 ho6 hg6 hat6; have hB6 := own_below hB HO.out hg6 (by omega) (by have := lt_of_block gr; omega); have HX6 := Lib.hid (fun j hj => (HX.out j hj).below (own_below (Below.refl w.heap.size _) HO.out hg6 (by omega) (by have := lt_of_block gr; omega))); have gr6 := (hg6.block S (lt_of_block gr) (fun e => own_ne HO.out gr (by decide) S e.symm rfl)).trans gr; obtain ⟨A6, n6, c6, rfl, hn6⟩ := ho6.form; have HO6 := Lib.hid ho6; clear hn6 ho6 hg6 hat6; have HT6 := Lib.hid (HX6.out j hlt)))
      go_roundg (gk - 1)
      case measure => have := hj'.out; omega
      case rel =>
        have hj'' := hj'.out
        exact ⟨j + 1, A8, n8, c8, by omega, by go_num, rfl, by rw [wl_succ]; exact HO8.out, gr8, HX8.out, hB8⟩
    · obtain rfl : j = 3 := by have := hj'.out; omega
      go_wp2
      rw [wl_three] at HO
      go_ret2
      exact ⟨A, n, c, rfl, HO.out.mono (by omega), hB⟩
end Go.Proofs.Ytfbfkfdkigpkgaa
