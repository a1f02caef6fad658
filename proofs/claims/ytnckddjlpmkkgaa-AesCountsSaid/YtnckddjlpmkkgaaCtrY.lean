/- The walk of aes.Ctr where there is a text. -/
import Derived.Test.YtnckddjlpmkkgaaSl
import Derived.Test.YtnckddjlpmkkgaaAesT
namespace Go.Proofs.Ytnckddjlpmkkgaa
set_option linter.unusedSimpArgs false
set_option linter.unusedVariables false
open Go.RowKit
attribute [local irreducible] sboxI beL beK encI

set_option maxRecDepth 100000 in
set_option maxHeartbeats 2000000 in
theorem Ctr_yes (k m : Nat → Int) (hk : ∀ i, i < 16 → 0 ≤ k i ∧ k i < 256) (hm : ∀ i, i < 12 → 0 ≤ m i ∧ m i < 256) (F : Nat) (h3 : F < 4294967296) (A : Option Addr) (n c : Nat) (l : List Nat) (w : World) (h : Txt w w.heap.size A n c l) (hl : ∀ x ∈ l, x < 256) (h1 : n ≤ 1048576) (h2 : F + (n + 15) / 16 ≤ 4294967296) :
    Calls Try.prog 18 #[.agg (arr .u8 16 k), .agg (arr .u8 12 m), .int .u32 F, .slice A n c] w (RetYes w (ctrL k m F l)) := by
  go_enter Try.func18, Try.ntmps18
  obtain ⟨g0, g1, hz, hb⟩ := alloc2 w (.cells (arr .u8 16 k) 23) (.cells (arr .u8 12 m) 34)
  have H0 := Lib.hid h
  have HL := Lib.hid hl
  have HM := Lib.hid hm
  clear h hl hm
  go_upto_region 6 with (fail)
  generalize ((w.alloc (.cells (arr .u8 16 k) 23)).alloc (.cells (arr .u8 12 m) 34)) = wa at *
  (try simp only [Act.put, List.setIfInBounds_toArray, List.set_cons_zero, List.set_cons_succ])
  refine wp_region_free 6 [Is (.agg (arr .u8 16 k)), NewAt wa.heap.size (.cells (arr .u8 432 (cipK k 10)) 49 (0, 0)), Is (.slice A n c), Is (.int .i64 n), NewRow wa.heap.size n 5, NewAt wa.heap.size (.cells (arr .u8 432 (cipK k 10)) 49 (0, 0))]
    [[], [0], [], [2], [3], [1]] (by kernel_rfl) (by kernel_rfl) rfl (st_cons (is_stays _) (st_cons (new_stays _ _) (st_cons (is_stays _) (st_cons (is_stays _) (st_cons (newRow_stays _ _ _) (st_cons (new_stays _ _) st_nil)))))) ?_ ?_
  · (simp only [List.take_succ_cons, List.take_zero, List.drop_succ_cons, List.drop_zero, List.zip_cons_cons, List.zip_nil_left, List.zip_nil_right, freeOps, allV, under, factAt, fillA, List.getElem?_cons_zero, List.getElem?_cons_succ, List.range_succ, List.range_zero, List.nil_append, List.cons_append, Act.put, List.setIfInBounds_toArray, List.set_cons_zero, List.set_cons_succ])
    refine ⟨?_, ?_, ?_, ?_, ?_, ?_, trivial⟩
    · intro x0 x1 x2 x3 x4 x5 w' hb'
      exact free_load_arr rfl rfl rfl RTBlock (keep_below hb' (lt_of_block (w := wa) g0) g0) rfl
    · intro x0 x1 x2 x3 x4 x5 w' hb' e0
      unfold Is at e0
      subst e0
      refine free_e rfl (fun K hK => ?_)
      go_simp
      refine (of_any k hk _).mono ?_
      rintro e w4 ⟨C, rfl, hC, h4, b4⟩
      exact hK _ _ b4 ⟨C, rfl, Nat.le_trans hb'.size hC, h4⟩
    · intro x0 x1 x2 x3 x4 x5 w' hb'
      exact free_move rfl rfl rfl
    · intro x0 x1 x2 x3 x4 x5 w' hb' e2
      unfold Is at e2
      subst e2
      refine free_e rfl (fun K hK => ?_)
      go_simp
      exact hK _ _ (Below.refl _ _) rfl
    · intro x0 x1 x2 x3 x4 x5 w' hb' e3
      unfold Is at e3
      subst e3
      exact free_make BT (by omega) rfl rfl rfl rfl ⟨_, rfl, hb'.size, heap_alloc_new _ _⟩
    · intro x0 x1 x2 x3 x4 x5 w' hb' e1
      exact free_assign rfl rfl e1
  · (simp only [List.take_succ_cons, List.take_zero, List.drop_succ_cons, List.drop_zero, List.zip_cons_cons, List.zip_nil_left, List.zip_nil_right, freeOps, allV, under, factAt, fillA, List.getElem?_cons_zero, List.getElem?_cons_succ, List.range_succ, List.range_zero, List.nil_append, List.cons_append, Act.put, List.setIfInBounds_toArray, List.set_cons_zero, List.set_cons_succ])
    intro x0 x1 x2 x3 x4 x5 w' hb' e0 e1 e2 e3 e4 e5
    unfold Is at e0 e2 e3
    subst e0 e2 e3
    obtain ⟨C', rfl, -, -⟩ := e1
    obtain ⟨C, rfl, hC, hC1⟩ := e5
    obtain ⟨R, rfl, hR, hR1⟩ := e4
    replace g1 := keep_below hb' (lt_of_block (w := wa) g1) g1
    have hB := (hb.drew).trans (hb'.mono hb.size)
    clear hb' hb
    have hI : w.heap.size + 1 < w'.heap.size := lt_of_block g1
    have hne : C ≠ R := fun e => by
      subst e
      rw [hC1] at hR1
      injection hR1 with hR1
      injection hR1 with _ hR1
      exact absurd hR1 (by decide)
    have hR' : w.heap.size ≤ R := Nat.le_trans (by omega) hR
    have hC' : w.heap.size ≤ C := Nat.le_trans (by omega) hC
    clear hC hR hz g0
    go_upto_region 8 with (refine wpList_alloc_arr rfl rfl ZTBlock ?_)
    (try simp only [Act.put, List.setIfInBounds_toArray, List.set_cons_zero, List.set_cons_succ])
    obtain ⟨hI0, hIs, hIb⟩ := alloc1 w' (.cells (arr .u8 16 fun _ => 0) 23)
    replace g1 := keep_below hIb hI g1
    have hCl := lt_of_block hC1
    have hRl := lt_of_block hR1
    replace hC1 := keep_below hIb hCl hC1
    replace hR1 := keep_below hIb hRl hR1
    replace hB := hB.trans (hIb.mono hB.size)
    generalize w'.alloc (.cells (arr .u8 16 fun _ => 0) 23) = wb at *
    generalize w'.heap.size = I at *
    refine wp_region_tail 2 (by kernel_rfl) (by kernel_rfl) ?_
    (simp only [List.take_succ_cons, List.take_zero, List.drop_succ_cons, List.drop_zero])
    repeat (refine wpStill_step (fun K hK => ?_); go_simp; (try (simp only [↓IntWalk.iteOmega]; go_simp)); (try go_bits); refine hK _ ?_; clear hK K)
    refine wpStill_nil ?_
    refine wpList_copy_arr rfl rfl rfl rfl Try.underlying36 (by kernel_rfl) hI0 g1 (m := 12) rfl (by omega) (by omega) ?_
    (try simp only [Act.put, List.setIfInBounds_toArray, List.set_cons_zero, List.set_cons_succ])
    obtain ⟨bl, hbl⟩ : ∃ bl : Nat, ((n : Int) + 16 - 1) / 16 = bl := ⟨(n + 15) / 16, by omega⟩
    simp only [hbl]
    have hb1 : F + bl ≤ 4294967296 := by omega
    have hb2 : n ≤ 16 * bl := by omega
    have hb3 : 16 * bl ≤ n + 15 := by omega
    clear h2 hbl
    have q0 := row_self (w := wb.drew) (c' := arr .u8 16 (patch (fun x => 0) 0 12 fun i => m (0 + i))) hI0
    have qC := row_keep (w := wb.drew) (c' := arr .u8 16 (patch (fun x => 0) 0 12 fun i => m (0 + i))) (g := I) hC1 (by omega)
    have qR := row_keep (w := wb.drew) (c' := arr .u8 16 (patch (fun x => 0) 0 12 fun i => m (0 + i))) (g := I) hR1 (by omega)
    have qB := row_below (w := wb.drew) (hB.drew) (g := I) (by omega) (arr .u8 16 (patch (fun x => 0) 0 12 fun i => m (0 + i)))
    generalize wb.drew.setRow I (arr .u8 16 (patch (fun x => 0) 0 12 fun i => m (0 + i))) = wc at *
    clear hI0 g1 hC1 hR1 hB hI hIb hIs
    have hCI : C ≠ I := by omega
    have hRI : R ≠ I := by omega
    have hI' : w.heap.size ≤ I := by omega
    clear hCl hRl
    go_wp2
    go_loopg [43] bl (fun r i wr => ∃ (j : Nat) (q : Nat → Int), j + r = bl ∧ i = .int .i64 j ∧ wr.heap[I]? = some (.cells (arr .u8 16 q) 23 (0, 0)) ∧ (∀ x, x < 12 → q x = m x) ∧ wr.heap[C]? = some (.cells (arr .u8 432 (cipK k 10)) 49 (0, 0)) ∧ wr.heap[R]? = some (.cells (arr .u8 n fun x => if x < 16 * j then ctrI k m F l x else 0) 5 (0, 0)) ∧ Below w.heap.size w wr)
    case atStart => exact ⟨0, _, by omega, rfl, q0, (fun x hx => by unfold patch; rw [if_pos ⟨Nat.zero_le _, by omega⟩]; show m (0 + (x - 0)) = m x; rw [Nat.zero_add, Nat.sub_zero]), qC, by simpa using qR, qB⟩
    case round =>
      clear q0 qC qR qB
      obtain ⟨go1, rfl⟩ : ∃ x, x = gk := ⟨_, rfl⟩
      obtain ⟨j, q, hj, rfl, g0, hq, gC, gR, hB⟩ := hrel
      have HJ := Lib.hid hj
      have HQ := Lib.hid hq
      clear hj hq
      by_cases hlt : j < bl
      · have hat : F + j < 4294967296 := by omega
        have c12 := cell_arr g0 12 (by omega)
        have c13 := cell_arr g0 13 (by omega)
        have c14 := cell_arr g0 14 (by omega)
        have c15 := cell_arr g0 15 (by omega)
        have fz := free_arr g0
        go_upto_region 14 with (fail)
        (try simp only [Act.put, List.setIfInBounds_toArray, List.set_cons_zero, List.set_cons_succ])
        clear c12 c13 c14 c15 fz
        have k0 := set_arr (set_arr (set_arr (set_arr g0 12 ((F + j) / 16777216)) 13 (((F : Int) + j) / 65536 % 256)) 14 (((F : Int) + j) / 256 % 256)) 15 (((F : Int) + j) % 256)
        have kC := keep_arr (keep_arr (keep_arr (keep_arr gC 12 (.int .u8 ((F + j) / 16777216)) hCI) 13 (.int .u8 (((F : Int) + j) / 65536 % 256)) hCI) 14 (.int .u8 (((F : Int) + j) / 256 % 256)) hCI) 15 (.int .u8 (((F : Int) + j) % 256)) hCI
        have kR := keep_arr (keep_arr (keep_arr (keep_arr gR 12 (.int .u8 ((F + j) / 16777216)) hRI) 13 (.int .u8 (((F : Int) + j) / 65536 % 256)) hRI) 14 (.int .u8 (((F : Int) + j) / 256 % 256)) hRI) 15 (.int .u8 (((F : Int) + j) % 256)) hRI
        have kB := (((hB.setCell (p := ⟨I, 12, none⟩) hI' (.int .u8 ((F + j) / 16777216))).setCell (p := ⟨I, 13, none⟩) hI' (.int .u8 (((F : Int) + j) / 65536 % 256))).setCell (p := ⟨I, 14, none⟩) hI' (.int .u8 (((F : Int) + j) / 256 % 256))).setCell (p := ⟨I, 15, none⟩) hI' (.int .u8 (((F : Int) + j) % 256))
        clear hB
        refine wp_cut (fun w1 => w1.heap[I]? = some (.cells (arr .u8 16 (inI m (F + j))) 23 (0, 0)) ∧ w1.heap[C]? = some (.cells (arr .u8 432 (cipK k 10)) 49 (0, 0)) ∧ w1.heap[R]? = some (.cells (arr .u8 n fun x => if x < 16 * j then ctrI k m F l x else 0) 5 (0, 0)) ∧ Below w.heap.size w w1)
          ⟨blk_congr k0 (fun i hi => ?_), kC, kR, kB⟩ ?_
        · exact inI_upd q m (F + j) _ (by omega) (by omega) HQ.out i hi
        clear k0 kC kR kB g0 gC gR
        rintro w1 ⟨g0, gC, gR, hB⟩
        have lI := lt_of_block g0
        have lC := lt_of_block gC
        have lR := lt_of_block gR
        go_wp2_with (first | (refine wpList_load_arr rfl rfl rfl RTBlock g0 ?_) | (go_at_call 24; fail))
        refine (encrypt_any k _ C (fun i _ => inI_byte m HM.out (F + j) i) _ gC).mono ?_
        rintro e w2 ⟨rfl, b2⟩
        replace g0 := keep_below b2 lI g0
        replace gC := keep_below b2 lC gC
        replace gR := keep_below b2 lR gR
        replace hB := hB.trans (b2.mono hB.size)
        clear b2
        go_upto_region 15 with (refine wpList_new_arr rfl rfl rfl rfl ZTBlock RTBlock rfl rfl ?_; intro w3 gS b3 hs3)
        replace g0 := keep_below b3 (lt_of_block g0) g0
        replace gC := keep_below b3 (lt_of_block gC) gC
        have hSR : w2.heap.size ≠ R := by have := lt_of_block gR; omega
        replace gR := keep_below b3 (lt_of_block gR) gR
        replace hB := hB.trans (b3.mono hB.size)
        clear b3 hs3 lI lC lR
        generalize w2.heap.size = S at *
        (try simp only [Act.put, List.setIfInBounds_toArray, List.set_cons_zero, List.set_cons_succ])
        have hjn : 16 * j < n := by omega
        go_wp2
        go_loopg [17] 16 (fun r x wr => ∃ y : Nat, y + r = 16 * j + 16 ∧ 16 * j ≤ y ∧ y ≤ n ∧ x = .int .i64 y ∧ wr.heap[I]? = some (.cells (arr .u8 16 (inI m (F + j))) 23 (0, 0)) ∧ wr.heap[C]? = some (.cells (arr .u8 432 (cipK k 10)) 49 (0, 0)) ∧ wr.heap[S]? = some (.cells (arr .u8 16 (encI k (inI m (F + j)))) 23 (0, 0)) ∧ wr.heap[R]? = some (.cells (arr .u8 n fun x => if x < y then ctrI k m F l x else 0) 5 (0, 0)) ∧ Below w.heap.size w wr)
        case atStart => exact ⟨16 * j, rfl, Nat.le_refl _, by omega, by go_num, g0, gC, gS, gR, hB⟩
        case round =>
          clear g0 gC gS gR hB
          obtain ⟨y, hy1, hy2, hy3, rfl, g0, gC, gS, gR, hB⟩ := hrel
          have HY := Lib.hid hy1
          clear hy1
          by_cases hin : y < 16 * j + 16 ∧ y < n
          · obtain ⟨hy4, hy5⟩ := hin
            obtain ⟨ad, rfl, hab, hac⟩ := (H0.out.below hB).cell hy5
            have hS := cell_arr gS (y % 16) (by omega)
            have cR := cell_arr gR y hy5
            have fz := free_arr gR y
            replace hac : wr.cell? (ad.add y) = some (.int .u8 ((l.getD y 0 : Nat) : Int)) := hac
            have hbd := HL.out _ (show l.getD y 0 ∈ l from by rw [List.getD_eq_getElem?_getD, List.getElem?_eq_getElem (by rw [H0.out.len]; exact hy5)]; exact List.getElem_mem _)
            go_wp2
            all_goals
              refine wp_region_tail 12 (by kernel_rfl) (by kernel_rfl) ?_
              (simp only [List.take_succ_cons, List.take_zero, List.drop_succ_cons, List.drop_zero])
              repeat (refine wpStill_step (fun K hK => ?_); go_simp; (try (simp only [↓IntWalk.iteOmega]; go_simp)); (try go_bits); refine hK _ ?_; clear hK K)
              refine wpStill_nil ?_
              go_wp2
              go_roundg (gk - 1)
              case measure => have := HY.out; omega
              case rel =>
                have hY := HY.out
                have hj' : y / 16 = j := by omega
                refine ⟨y + 1, by omega, by omega, by omega, by go_num, keep_arr g0 _ _ (Ne.symm hRI), keep_arr gC _ _ hne, keep_arr gS _ _ hSR, blk_congr (set_arr gR y _) (fun i _ => ?_), (hB.setCell (p := ⟨R, y, none⟩) hR' _).drew⟩
                refine fill_grow _ y _ i ?_
                unfold ctrI
                rw [hj', List.getD_eq_getElem?_getD]
          · go_wp2
            all_goals
              go_roundg (go1 - 1)
              case measure => have := HJ.out; omega
              case rel =>
                have := HJ.out
                have hY := HY.out
                have hyy : y = 16 * j + 16 ∨ y = n := by omega
                exact ⟨j + 1, _, by omega, by go_num, g0, (fun x hx => by unfold inI; rw [if_pos hx]), gC, blk_congr gR (fun i hi => by split <;> split <;> first | rfl | omega), hB⟩
      · obtain rfl : j = bl := by have := HJ.out; omega
        go_wp2
        go_ret2
        refine ⟨_, rfl, own_arr hR' gR (by omega) (by rw [ctrL_len]; exact H0.out.len) fun i hi => ?_, hB⟩
        rw [if_pos (by omega), ctrL_at _ _ _ _ _ (by rw [H0.out.len]; exact hi)]
end Go.Proofs.Ytnckddjlpmkkgaa
