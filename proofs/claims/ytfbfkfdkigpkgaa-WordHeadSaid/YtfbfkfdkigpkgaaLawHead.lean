/- The law WordHead: whatever the commit, the tag, the frame and the box, it answers true. -/
import Derived.Test.YtfbfkfdkigpkgaaHcm
import Derived.Test.YtfbfkfdkigpkgaaCut
namespace Go.Proofs.Ytfbfkfdkigpkgaa
set_option linter.unusedSimpArgs false
set_option linter.unusedVariables false
open Go.RowKit
attribute [local irreducible] beL beK keyL

theorem mayF_small {ep fr ge : Int} {n m : Nat} (hn : n ≤ 2000) (hm : m ≤ 2000) : MayF ep fr ge n ↔ MayF ep fr ge m := by unfold MayF; omega
theorem lH_small {ep fr ge : Int} {n m : Nat} (hn : n ≤ 2000) (hm : m ≤ 2000) : lH ep fr ge n = lH ep fr ge m ∧ xF ep fr ge n = xF ep fr ge m := by
  unfold lH xF
  by_cases h : MayF ep fr ge n
  · rw [if_pos h, if_pos ((mayF_small hn hm).1 h), if_pos h, if_pos ((mayF_small hn hm).1 h)]
    exact ⟨rfl, rfl⟩
  · have h2 : ¬ MayF ep fr ge m := fun k => h ((mayF_small hn hm).2 k)
    rw [if_neg h, if_neg h2, if_neg h, if_neg h2]
    exact ⟨rfl, rfl⟩
theorem lH_is (ep fr ge : Int) (n : Nat) : (xF ep fr ge n = 0 ∧ (lH ep fr ge n).length = 21) ∨ xF ep fr ge n = 1 := by
  unfold lH xF
  by_cases h : MayF ep fr ge n
  · rw [if_pos h, if_pos h]
    exact .inl ⟨rfl, by unfold headL; simp [beL_len]⟩
  · rw [if_neg h]
    exact .inr rfl
theorem comV_tag (c : Com) (tg tg' : Nat → Nat) : arrV 70 (patch (comV c tg) 38 32 fun i => .int .u8 ((tg' i : Nat) : Int)) = arrV 70 (comV c tg') := arrV_ext fun j hj => by
  unfold patch comV
  by_cases h : 38 ≤ j
  · rw [if_pos ⟨h, by omega⟩]
    repeat rw [if_neg (by omega)]
  · rw [if_neg (by omega)]
    by_cases h0 : j = 0
    · rw [if_pos h0, if_pos h0]
    · rw [if_neg h0, if_neg h0]
      by_cases h1 : j = 1
      · rw [if_pos h1, if_pos h1]
      · rw [if_neg h1, if_neg h1]
        by_cases h2 : j = 2
        · rw [if_pos h2, if_pos h2]
        · rw [if_neg h2, if_neg h2]
          by_cases h3 : j < 35
          · rw [if_pos h3, if_pos h3]
          · rw [if_neg h3, if_neg h3]
            by_cases h4 : j = 35
            · rw [if_pos h4, if_pos h4]
            · rw [if_neg h4, if_neg h4]
              by_cases h5 : j = 36
              · rw [if_pos h5, if_pos h5]
              · rw [if_neg h5, if_neg h5, if_pos (by omega), if_pos (by omega)]

attribute [local irreducible] lC lH xF chk
set_option maxRecDepth 100000 in
set_option maxHeartbeats 4000000 in
theorem WordHead_any (w : World) (c : Com) (tg : Nat → Nat) (hc : ComOk w w.heap.size c) (hcb : ComB c) (hsn : (c.sn : Int) ≤ 9223372036854775807) (hbn : (c.bn : Int) ≤ 9223372036854775807) (tag : Nat → Nat) (ep fr ge : Int) (he : 0 ≤ ep) (hg : 0 ≤ ge) (A : Option Addr) (n k : Nat) (B : Option Addr) (m kb : Nat) :
    Calls Try.prog 4 #[.agg (arrV 70 (comV c tg)), .agg (arr .u8 32 fun i => ((tag i : Nat) : Int)), .agg #[.int .u64 ep, .int .i64 fr, .int .u64 ge, .slice A n k], .slice B m kb] w fun e w' => e = .returned (.bool true) ∧ Below w.heap.size w w' := by
  have H0 := Lib.hid hc
  have HCB := Lib.hid hcb
  clear hc hcb
  go_enter Try.func4, Try.ntmps4
  obtain ⟨g0, g1, g2, hz, hb⟩ := alloc3 w (.cells (arrV 70 (comV c tg)) 42) (.cells (arr .u8 32 fun i => ((tag i : Nat) : Int)) 37) (.cells #[.int .u64 ep, .int .i64 fr, .int .u64 ge, .slice A n k] 27)
  go_upto_region 2 with (go_at_call 9; (with_reducible refine (live_any _).mono ?_); rintro e w1 ⟨rfl, b1⟩)
  replace g0 := keep_below b1 (by omega) g0
  replace g1 := keep_below b1 (by omega) g1
  replace g2 := keep_below b1 (by omega) g2
  replace hb := hb.trans (b1.mono (by omega))
  have hs : w.heap.size + 1 + 1 < w1.heap.size := lt_of_block g2
  clear b1 hz
  have hok := H0.out.below hb (Nat.le_refl _)
  go_wp2_with (first | (refine wpList_load_all rfl rfl RTCom rfl g0 ?_) | (go_at_call 17; fail))
  refine (Few_any c tg w.heap.size _ hok hb.size hsn hbn).mono ?_
  rintro e w2 ⟨⟨q, rfl, hq⟩, b2⟩
  replace g0 := keep_below b2 (by omega) g0
  replace g1 := keep_below b2 (by omega) g1
  replace g2 := keep_below b2 (by omega) g2
  replace hb := hb.trans (b2.mono hb.size)
  have hs2 : w.heap.size + 1 + 1 < w2.heap.size := lt_of_block g2
  clear b2 hs hok
  have q0 : w2.cell? ⟨w.heap.size + 1 + 1, 0, none⟩ = some (.int .u64 ep) := by rw [cell_of_row _ _ _ _ _ _ g2]; rfl
  have q1 : w2.cell? ⟨w.heap.size + 1 + 1, 1, none⟩ = some (.int .i64 fr) := by rw [cell_of_row _ _ _ _ _ _ g2]; rfl
  have q2 : w2.cell? ⟨w.heap.size + 1 + 1, 2, none⟩ = some (.int .u64 ge) := by rw [cell_of_row _ _ _ _ _ _ g2]; rfl
  have q3 : w2.cell? ⟨w.heap.size + 1 + 1, 3, none⟩ = some (.slice A n k) := by rw [cell_of_row _ _ _ _ _ _ g2]; rfl
  cases q with
  | false =>
    clear hq
    go_wp2
    go_ret
    exact ⟨rfl, hb⟩
  | true =>
    have HF := Lib.hid (hq rfl)
    clear hq
    by_cases hn : n ≤ 2000
    · by_cases hm : m ≤ 2000
      · go_upto_region 4 with (fail)
        have hok := H0.out.below hb (Nat.le_refl _)
        go_upto_region 5 with (first | (refine wpList_load_all rfl rfl RTCom rfl g0 ?_) | (go_at_call 18; (with_reducible refine (Head_any c tg w.heap.size _ hok hb.size HF.out).mono ?_); rintro e w3 ⟨A1, n1, c1, rfl, o1, b3⟩))
        replace g0 := keep_below b3 (by omega) g0
        replace g1 := keep_below b3 (by omega) g1
        replace g2 := keep_below b3 (by omega) g2
        replace hb := hb.trans (b3.mono hb.size)
        clear b3 hok q0 q1 q2 q3
        go_upto_region 6 with (first | (refine wpList_load_arr (g := w.heap.size + 1) rfl rfl rfl RTKey g1 ?_) | (refine wpList_store_part (off := 38) rfl rfl RTKey rfl rfl g0 (by omega) ?_))
        rw [comV_tag c tg tag]
        have r0 := row_self (w := w3) (c' := arrV 70 (comV c tag)) g0
        replace g1 := row_keep (c' := arrV 70 (comV c tag)) (g := w.heap.size) g1 (by omega)
        replace g2 := row_keep (c' := arrV 70 (comV c tag)) (g := w.heap.size) g2 (by omega)
        replace o1 := (o1.mono (show w.heap.size + 3 ≤ w2.heap.size by omega)).setRow (g := w.heap.size) (fun k hk => by have := (o1.lt k hk).1; omega) (arrV 70 (comV c tag))
        replace hb := row_below hb (g := w.heap.size) (Nat.le_refl _) (arrV 70 (comV c tag))
        clear g0
        generalize w3.setRow w.heap.size (arrV 70 (comV c tag)) = w4 at *
        have hs4 := lt_of_block g2
        have hok := H0.out.below hb (Nat.le_refl _)
        go_upto_region 7 with (first | (refine wpList_load_all rfl rfl RTCom rfl r0 ?_) | (go_at_call 18; (with_reducible refine (Head_any c tag w.heap.size _ hok hb.size HF.out).mono ?_); rintro e w5 ⟨A2, n2, c2, rfl, o2, b5⟩))
        replace g2 := keep_below b5 hs4 g2
        replace o1 := o1.below b5 o1.lt'
        replace o2 := o2.mono (show w.heap.size + 3 ≤ w4.heap.size by omega)
        replace hb := hb.trans (b5.mono hb.size)
        clear b5 hok r0 g1 hs4
        have q0 : w5.cell? ⟨w.heap.size + 1 + 1, 0, none⟩ = some (.int .u64 ep) := by rw [cell_of_row _ _ _ _ _ _ g2]; rfl
        have q1 : w5.cell? ⟨w.heap.size + 1 + 1, 1, none⟩ = some (.int .i64 fr) := by rw [cell_of_row _ _ _ _ _ _ g2]; rfl
        have q2 : w5.cell? ⟨w.heap.size + 1 + 1, 2, none⟩ = some (.int .u64 ge) := by rw [cell_of_row _ _ _ _ _ _ g2]; rfl
        have q3 : w5.cell? ⟨w.heap.size + 1 + 1, 3, none⟩ = some (.slice A n k) := by rw [cell_of_row _ _ _ _ _ _ g2]; rfl
        go_upto_region 8 with (go_at_call 14; (with_reducible refine (FrameHead_ow ep fr ge A n k he hg _).mono ?_); rintro e w6 ⟨A3, n3, c3, rfl, o3, b6⟩)
        have hs5 := lt_of_block g2
        replace g2 := keep_below b6 hs5 g2
        replace o1 := o1.below b6 o1.lt'
        replace o2 := o2.below b6 o2.lt'
        replace o3 := o3.mono (show w.heap.size + 3 ≤ w5.heap.size by omega)
        replace hb := hb.trans (b6.mono hb.size)
        clear b6 q0 q1 q2 q3 hs5
        have q3 : w6.cell? ⟨w.heap.size + 1 + 1, 3, none⟩ = some (.slice A n k) := by rw [cell_of_row _ _ _ _ _ _ g2]; rfl
        have fz : w6.frozen? ⟨w.heap.size + 1 + 1, 3, none⟩ = false := frozen_of_row w6 _ 3 _ _ g2
        go_upto_region 9 with (fail)
        have g3 : (w6.setCell ⟨w.heap.size + 1 + 1, 3, none⟩ (.slice B m kb)).heap[w.heap.size + 1 + 1]? = some (.cells #[.int .u64 ep, .int .i64 fr, .int .u64 ge, .slice B m kb] 27 (0, 0)) := by
          rw [heap_setCell_same w6 _ 3 _ _ _ g2]
          rfl
        replace o1 := o1.setCell (p := ⟨w.heap.size + 1 + 1, 3, none⟩) (fun k hk => by have := (o1.lt k hk).1; show k ≠ w.heap.size + 1 + 1; omega) (.slice B m kb)
        replace o2 := o2.setCell (p := ⟨w.heap.size + 1 + 1, 3, none⟩) (fun k hk => by have := (o2.lt k hk).1; show k ≠ w.heap.size + 1 + 1; omega) (.slice B m kb)
        replace o3 := o3.setCell (p := ⟨w.heap.size + 1 + 1, 3, none⟩) (fun k hk => by have := (o3.lt k hk).1; show k ≠ w.heap.size + 1 + 1; omega) (.slice B m kb)
        replace hb := hb.setCell (p := ⟨w.heap.size + 1 + 1, 3, none⟩) (show w.heap.size ≤ w.heap.size + 1 + 1 by omega) (.slice B m kb)
        clear q3 fz g2
        generalize w6.setCell ⟨w.heap.size + 1 + 1, 3, none⟩ (.slice B m kb) = w7 at *
        have q0 : w7.cell? ⟨w.heap.size + 1 + 1, 0, none⟩ = some (.int .u64 ep) := by rw [cell_of_row _ _ _ _ _ _ g3]; rfl
        have q1 : w7.cell? ⟨w.heap.size + 1 + 1, 1, none⟩ = some (.int .i64 fr) := by rw [cell_of_row _ _ _ _ _ _ g3]; rfl
        have q2 : w7.cell? ⟨w.heap.size + 1 + 1, 2, none⟩ = some (.int .u64 ge) := by rw [cell_of_row _ _ _ _ _ _ g3]; rfl
        have q3 : w7.cell? ⟨w.heap.size + 1 + 1, 3, none⟩ = some (.slice B m kb) := by rw [cell_of_row _ _ _ _ _ _ g3]; rfl
        go_upto_region 10 with (go_at_call 14; (with_reducible refine (FrameHead_ow ep fr ge B m kb he hg _).mono ?_); rintro e w8 ⟨A4, n4, c4, rfl, o4, b8⟩)
        clear q0 q1 q2 q3 g3
        replace o1 := o1.below b8 o1.lt'
        replace o2 := o2.below b8 o2.lt'
        replace o3 := o3.below b8 o3.lt'
        replace hb := hb.trans (b8.mono hb.size)
        clear b8
        obtain ⟨e1, e2⟩ := lH_small (ep := ep) (fr := fr) (ge := ge) hm hn
        rw [e1] at o4
        rw [e2]
        clear e1 e2
        have l3 := o3.text.len
        have t1 := o1.text
        have t2 := o2.text
        have t3 := o3.text
        have t4 := o4.text
        have T1 := Lib.hid t1
        have T2 := Lib.hid t2
        have T3 := Lib.hid t3
        have T4 := Lib.hid t4
        have C1 := fun w h1 h2 => Same_self A1 n1 c1 (lC c) A2 n2 c2 w h1 h2 (lC_lt c HCB.out)
        have C2 := fun w h1 h2 => Same_self A3 n3 c3 (lH ep fr ge n) A4 n4 c4 w h1 h2 (lH_lt ep fr ge n)
        clear o1 o2 o3 o4 t1 t2 t3 t4
        rcases lH_is ep fr ge n with ⟨hx, hl⟩ | hx
        · rw [hl] at l3
          simp only [hx]
          subst l3
          clear hl
          go_wp2_with (first | (go_at_call 16; (with_reducible refine (C1 _ T1.out T2.out).mono ?_); rintro e w9 ⟨rfl, rfl⟩) | (go_at_call 16; (with_reducible refine (C2 _ T3.out T4.out).mono ?_); rintro e w9 ⟨rfl, rfl⟩))
          go_ret
          exact ⟨rfl, hb⟩
        · simp only [hx]
          clear l3
          go_wp2_with (first | (go_at_call 16; (with_reducible refine (C1 _ T1.out T2.out).mono ?_); rintro e w9 ⟨rfl, rfl⟩) | (go_at_call 16; (with_reducible refine (C2 _ T3.out T4.out).mono ?_); rintro e w9 ⟨rfl, rfl⟩))
          go_ret
          exact ⟨rfl, hb⟩
      · go_wp2
        go_ret
        exact ⟨rfl, hb⟩
    · go_wp2
      go_ret
      exact ⟨rfl, hb⟩
theorem WordHead_law (w : World) (c : Com) (tg : Nat → Nat) (hc : ComOk w w.heap.size c) (hcb : ComB c) (hsn : (c.sn : Int) ≤ 9223372036854775807) (hbn : (c.bn : Int) ≤ 9223372036854775807) (tag : Nat → Int) (ht : ∀ i, i < 32 → 0 ≤ tag i ∧ tag i < 256) (ep : Int) (he : 0 ≤ ep ∧ ep < 18446744073709551616) (fr : Int) (hfr : -9223372036854775808 ≤ fr ∧ fr < 9223372036854775808) (ge : Int) (hg : 0 ≤ ge ∧ ge < 18446744073709551616) (A : Option Addr) (n k : Nat) (l : List Nat) (hn : n ≤ 9223372036854775807) (hl : Txt w w.heap.size A n k l) (hlb : ∀ x ∈ l, x < 256) (B : Option Addr) (m kb : Nat) :
    Calls Try.prog 4 #[.agg (arrV 70 (comV c tg)), .agg (arr .u8 32 tag), .agg #[.int .u64 ep, .int .i64 fr, .int .u64 ge, .slice A n k], .slice B m kb] w fun e w' => e = .returned (.bool true) ∧ Below w.heap.size w w' := by
  have h := WordHead_any w c tg hc hcb hsn hbn (fun i => (tag i).toNat) ep fr ge he.1 hg.1 A n k B m kb
  rw [arr_ext (f := fun i => (((tag i).toNat : Nat) : Int)) (g := tag) fun i hi => Int.toNat_of_nonneg (ht i hi).1] at h
  exact h
end Go.Proofs.Ytfbfkfdkigpkgaa
