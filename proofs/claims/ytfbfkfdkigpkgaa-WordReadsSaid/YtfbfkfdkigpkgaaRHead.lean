/- The walks of layer 16's reference: texts of frames. -/
import Derived.Test.YtfbfkfdkigpkgaaHead
namespace Go.Proofs.Ytfbfkfdkigpkgaa
set_option linter.unusedSimpArgs false
set_option linter.unusedVariables false
open Go.RowKit
attribute [local irreducible] beL beK headL

theorem rnum_any (W n : Nat) (hW : W ≤ 8) (hn : n < 4611686018427387904) (w : World) :
    Calls Try.prog 40 #[.int .i64 W, .int .i64 n] w (RetOwn w (beL W n)) := by
  have C := Lib.hid (fun w => Bytes_any W n hW (Nat.lt_trans hn (by decide)) w)
  go_enter Try.func40, Try.ntmps40
  go_wp2_with (go_at_call 43; fail)
  refine (C.out _).mono ?_
  rintro e w1 ⟨v, rfl, ho, hb⟩
  have HO := Lib.hid ho
  clear ho
  go_wp2
  go_ret
  exact ⟨v, rfl, HO.out, hb⟩
set_option maxRecDepth 100000 in
set_option maxHeartbeats 4000000 in
theorem RFrameHead_yes (ep fr ge : Nat) (A : Option Addr) (n c : Nat) (hm : MayF ep fr ge n) (w : World) :
    Calls Try.prog 15 #[.agg #[.int .u64 ep, .int .i64 fr, .int .u64 ge, .slice A n c]] w (RetTxt w (headL ep fr ge)) := by
  have HM := Lib.hid (mayF_yes hm)
  have b1 : ep ≤ 1099511627776 := by unfold MayF at hm; omega
  have b2 : fr ≤ 1048576 := by unfold MayF at hm; omega
  have b3 : ge < 4294967296 := by unfold MayF at hm; omega
  have B1 := Lib.hid b1
  have B2 := Lib.hid b2
  have B3 := Lib.hid b3
  clear hm b1 b3 b2
  go_enter Try.func15, Try.ntmps15
  have hb : Below w.heap.size w (w.alloc (.cells #[.int .u64 ep, .int .i64 fr, .int .u64 ge, .slice A n c] 27)) := (Below.refl _ _).alloc (Nat.le_refl _) _
  have g0 := heap_alloc_new w (.cells #[.int .u64 ep, .int .i64 fr, .int .u64 ge, .slice A n c] 27)
  go_wp2_with (go_at_call 42; fail)
  refine (RmayFrame_any _ _ _ _ _ _ _).mono ?_
  rintro e w1 ⟨rfl, b1⟩
  rw [HM.out]
  have hs1 := b1.size
  rw [World.size_alloc] at hs1 b1
  replace g0 := keep_below b1 (by omega) g0
  replace hb := hb.trans (b1.mono (by omega))
  clear b1
  obtain ⟨_, hz, hbp⟩ := alloc1 w1 (.cells #[.int .u8 3] 5)
  have HO : Hid (Own (w1.alloc (.cells #[.int .u8 3] 5)) w1.heap.size 5 (.slice (some ⟨w1.heap.size, 0, none⟩) 1 1) [3]) := Lib.hid (own_one w1 5 3)
  replace g0 := keep_below hbp (by omega) g0
  replace hb := hb.trans (hbp.mono hb.size)
  have c0 : (w1.alloc (.cells #[.int .u8 3] 5)).cell? ⟨w.heap.size, 0, none⟩ = some (.int .u64 (ep : Int)) := by rw [cell_of_row _ _ _ _ _ _ g0]; rfl
  have hG : w1.heap.size + 1 ≤ (w1.alloc (.cells #[.int .u8 3] 5)).heap.size := by omega
  clear hbp hz
  go_wp2_with (go_at_call 43; fail)
  generalize w1.alloc (.cells #[.int .u8 3] 5) = wc at *
  generalize w1.heap.size = G at *
  clear c0
  refine (Bytes_any 8 ep (by omega) (by have := B1.out; omega) _).mono ?_
  rintro e wd ⟨v5, rfl, ho5, b5⟩
  replace g0 := keep_below b5 (by omega) g0
  replace hb := hb.trans (b5.mono (by omega))
  replace HO := Lib.hid (HO.out.below b5 (fun k hk => (HO.out.lt k hk).2))
  have hs5 := Nat.le_trans hG b5.size
  obtain ⟨A5, c5, hv5, ht5⟩ := ho5.txt
  rw [beL_len] at hv5 ht5
  subst hv5
  have HT := Lib.hid ht5
  clear ho5 b5 ht5 hG
  go_upto_region 4 with ((refine wpList_append_txt rfl rfl BT rfl rfl HO.out HT.out (by simp [beL_len] <;> omega) (by omega) ?_; intro v6 w6 ho6 hg6 hat6; have hb6 := own_below hb HO.out hg6 (by omega) (Nat.le_trans (by omega) hs5); have hG := Nat.le_trans hs5 hg6.size; have g6 := (hg6.block w.heap.size (by omega) (fun e => by have := (HO.out.lt _ e.symm).1; omega)).trans g0; obtain ⟨A4, n4, c4, rfl, hn4⟩ := ho6.form; have HO6 := Lib.hid ho6; clear hn4 ho6 hg6 hat6))
  clear g0 hb HO HT hs5
  obtain ⟨wc, rfl⟩ : ∃ x, x = w6 := ⟨_, rfl⟩
  have g0 := g6
  have hb := hb6
  have HO := HO6
  clear g6 hb6 HO6
  (try simp only [Act.put, List.setIfInBounds_toArray, List.set_cons_zero, List.set_cons_succ])
  have c0 : wc.cell? ⟨w.heap.size, 1, none⟩ = some (.int .i64 (fr : Int)) := by rw [cell_of_row _ _ _ _ _ _ g0]; rfl
  go_wp2_with (go_at_call 40; fail)
  clear c0
  refine (rnum_any 4 fr (by omega) (by have := B2.out; omega) _).mono ?_
  rintro e wd ⟨v5, rfl, ho5, b5⟩
  replace g0 := keep_below b5 (by omega) g0
  replace hb := hb.trans (b5.mono (by omega))
  replace HO := Lib.hid (HO.out.below b5 (fun k hk => (HO.out.lt k hk).2))
  have hs5 := Nat.le_trans hG b5.size
  obtain ⟨A5, c5, hv5, ht5⟩ := ho5.txt
  rw [beL_len] at hv5 ht5
  subst hv5
  have HT := Lib.hid ht5
  clear ho5 b5 ht5 hG
  go_upto_region 5 with ((refine wpList_append_txt rfl rfl BT rfl rfl HO.out HT.out (by simp [beL_len] <;> omega) (by omega) ?_; intro v6 w6 ho6 hg6 hat6; have hb6 := own_below hb HO.out hg6 (by omega) (Nat.le_trans (by omega) hs5); have hG := Nat.le_trans hs5 hg6.size; have g6 := (hg6.block w.heap.size (by omega) (fun e => by have := (HO.out.lt _ e.symm).1; omega)).trans g0; obtain ⟨A4, n4, c4, rfl, hn4⟩ := ho6.form; have HO6 := Lib.hid ho6; clear hn4 ho6 hg6 hat6))
  clear g0 hb HO HT hs5
  obtain ⟨wc, rfl⟩ : ∃ x, x = w6 := ⟨_, rfl⟩
  have g0 := g6
  have hb := hb6
  have HO := HO6
  clear g6 hb6 HO6
  (try simp only [Act.put, List.setIfInBounds_toArray, List.set_cons_zero, List.set_cons_succ])
  have c0 : wc.cell? ⟨w.heap.size, 2, none⟩ = some (.int .u64 (ge : Int)) := by rw [cell_of_row _ _ _ _ _ _ g0]; rfl
  go_wp2_with (go_at_call 43; fail)
  clear c0
  refine (Bytes_any 8 ge (by omega) (by have := B3.out; omega) _).mono ?_
  rintro e wd ⟨v5, rfl, ho5, b5⟩
  replace g0 := keep_below b5 (by omega) g0
  replace hb := hb.trans (b5.mono (by omega))
  replace HO := Lib.hid (HO.out.below b5 (fun k hk => (HO.out.lt k hk).2))
  have hs5 := Nat.le_trans hG b5.size
  obtain ⟨A5, c5, hv5, ht5⟩ := ho5.txt
  rw [beL_len] at hv5 ht5
  subst hv5
  have HT := Lib.hid ht5
  clear ho5 b5 ht5 hG
  go_wp2_with ((refine wpList_append_txt rfl rfl BT rfl rfl HO.out HT.out (by simp [beL_len] <;> omega) (by omega) ?_; intro v6 w6 ho6 hg6 hat6; have hb6 := own_below hb HO.out hg6 (by omega) (Nat.le_trans (by omega) hs5); have hG := Nat.le_trans hs5 hg6.size; have g6 := (hg6.block w.heap.size (by omega) (fun e => by have := (HO.out.lt _ e.symm).1; omega)).trans g0; obtain ⟨A4, n4, c4, rfl, hn4⟩ := ho6.form; have HO6 := Lib.hid ho6; clear hn4 ho6 hg6 hat6))
  have el : [3] ++ beL 8 ep ++ beL 4 fr ++ beL 8 ge = headL ep fr ge := by unfold headL; rfl
  rw [el] at HO6
  go_ret2
  exact ⟨A4, n4, c4, rfl, HO6.out.mono (by omega), hb6⟩
set_option maxHeartbeats 1000000 in
theorem RWriteFrame_yes (ep fr ge : Nat) (A : Option Addr) (n c : Nat) (m : List Nat) (hm : MayF ep fr ge n) (w : World) (ht : Txt w w.heap.size A n c m) :
    Calls Try.prog 13 #[.agg #[.int .u64 ep, .int .i64 fr, .int .u64 ge, .slice A n c]] w (RetTxt w (headL ep fr ge ++ m)) := by
  have HM := Lib.hid hm
  have bn : n ≤ 524288 := by unfold MayF at hm; omega
  clear hm
  go_enter Try.func13, Try.ntmps13
  have hb : Below w.heap.size w (w.alloc (.cells #[.int .u64 ep, .int .i64 fr, .int .u64 ge, .slice A n c] 27)) := (Below.refl _ _).alloc (Nat.le_refl _) _
  have g0 := heap_alloc_new w (.cells #[.int .u64 ep, .int .i64 fr, .int .u64 ge, .slice A n c] 27)
  go_wp2_with (go_at_call 15; fail)
  refine (RFrameHead_yes _ _ _ _ _ _ HM.out _).mono ?_
  rintro e w1 ⟨A1, n1, c1, rfl, ho, b1⟩
  rw [World.size_alloc] at ho b1
  have hs1 := b1.size
  rw [World.size_alloc] at hs1
  replace g0 := keep_below b1 (by omega) g0
  replace hb := hb.trans (b1.mono (by omega))
  have c3 : w1.cell? ⟨w.heap.size, 3, none⟩ = some (.slice A n c) := by rw [cell_of_row _ _ _ _ _ _ g0]; rfl
  have HT := Lib.hid (ht.below hb)
  have HO := Lib.hid ho
  clear ht ho b1 g0
  go_wp2_with (refine wpList_append_txt rfl rfl BT rfl rfl HO.out HT.out (by rw [headL_len]; omega) (by omega) ?_; intro v' w3 ho3 hg3 hat3; have hb3 := own_below hb HO.out hg3 (Nat.le_succ _) hb.size; obtain ⟨A3, c3', rfl, ht3⟩ := ho3.txt; have HO3 := Lib.hid (ho3.mono (Nat.le_succ _)); clear ht3 ho3 hg3 hat3)
  rw [List.length_append] at HO3
  go_ret2
  exact ⟨A3, _, c3', rfl, HO3.out, hb3⟩
end Go.Proofs.Ytfbfkfdkigpkgaa
