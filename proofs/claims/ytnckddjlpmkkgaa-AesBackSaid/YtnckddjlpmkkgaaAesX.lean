/- The walks of layer 4: a key's cipher. -/
import Derived.Test.YtnckddjlpmkkgaaAesW
namespace Go.Proofs.Ytnckddjlpmkkgaa
set_option linter.unusedSimpArgs false
set_option linter.unusedVariables false
open Go.RowKit
attribute [local irreducible] sboxI

set_option maxRecDepth 100000 in
set_option maxHeartbeats 1000000 in
theorem of_any (k : Nat → Int) (hk : ∀ i, i < 16 → 0 ≤ k i ∧ k i < 256) (w : World) :
    Calls Try.prog 22 #[.agg (arr .u8 16 k)] w fun e w' => ∃ C, e = .returned (.pointer (some ⟨C, 0, none⟩)) ∧ w.heap.size ≤ C ∧ w'.heap[C]? = some (.cells (arr .u8 432 (cipK k 10)) 49 (0, 0)) ∧ Below w.heap.size w w' := by
  go_enter Try.func22, Try.ntmps22
  go_wp2_with fail
  refine (boxes_any _).mono ?_
  rintro e w1 ⟨rfl, hb1⟩
  have g0 : w1.heap[w.heap.size]? = some (.cells (arr .u8 16 k) 23) := by
    rw [hb1.block _ (by simp)]; exact heap_alloc_new w _
  have hb0 : Below w.heap.size w w1 := ((Below.refl _ _).alloc (Nat.le_refl _) _).trans (hb1.mono (by simp))
  have hs1 : w.heap.size < w1.heap.size := by have := hb1.size; simp at this; omega
  clear hb1
  go_wp2_with (refine wpList_built (l := [(0, .agg (arr .u8 256 sboxI))]) (c := arr .u8 432 fun i => if i < 256 then sboxI i else 0) rfl rfl ?hl ?hb ?h)
  case hb => exact built_cipher
  obtain ⟨gC, hsz, hb2⟩ := alloc1 w1 (.cells (arr .u8 432 fun i => if i < 256 then sboxI i else 0) 49)
  have g0' := (hb2.block _ hs1).trans g0
  have hb3 : Below w.heap.size w _ := hb0.trans (hb2.mono (Nat.le_of_lt hs1))
  revert gC hsz g0' hb3
  generalize hC : w1.heap.size = C at *
  clear hb2 hb0 g0
  generalize w1.alloc (.cells (arr .u8 432 fun i => if i < 256 then sboxI i else 0) 49) = w2
  intro gC _ g0 hb
  have hC' := Lib.hid hC
  clear hC
  refine wp_region_tail 5 (by kernel_rfl) (by kernel_rfl) ?_
  simp only [List.take_succ_cons, List.take_zero, List.drop_succ_cons, List.drop_zero]
  still_step
  refine wpStill_load_arr rfl rfl rfl RTBlock g0 ?_
  repeat still_step
  refine wpStill_nil ?_
  go_wp2_with (refine wpList_store_sub rfl rfl rfl rfl RTBlock gC (by omega) ?_)
  go_loopg [4, 18] 10 (fun n add j wr => ∃ i : Nat, i + n = 10 ∧ j = .int .i64 i ∧ add = .int .u8 (addK i) ∧ wr.heap[C]? = some (.cells (arr .u8 432 (cipK k i)) 49 (0, 0)) ∧ Below w.heap.size w wr)
  case atStart =>
    refine ⟨0, by omega, rfl, rfl, blk_congr (row_self (w := w2.drew) gC) (fun i hi => cip_start k i hi), row_below hb.drew (by have := hC'.out; omega) _⟩
  case round =>
    obtain ⟨j, hj, rfl, rfl, g1, hB⟩ := hrel
    obtain ⟨go1, rfl⟩ : ∃ x, x = gk := ⟨_, rfl⟩
    have hwC : w.heap.size ≤ C := by have := hC'.out; omega
    have hj' := Lib.hid hj
    clear gC g0 hb hj
    by_cases hlt : j < 10
    · have hCl := lt_of_block g1
      go_wp2
      refine wp_region_can wr.heap.size 14 [(0, false), (1, false), (2, false), (3, false), (4, false), (5, false), (6, false), (7, false), (8, false), (9, false), (10, false), (11, false), (12, true), (13, true)] (by kernel_rfl) (by kernel_rfl) ?_
      (simp only [canOps, List.getElem?_cons_zero, List.getElem?_cons_succ, List.drop_succ_cons, List.drop_zero])
      iterate 5 (first | (refine wpCan_move rfl rfl (fun _ _ _ _ h => h) ?_; (simp only [Act.put, Act.eval, Array.getD_eq_getD_getElem?, List.getElem?_toArray, List.getElem?_cons_zero, List.getElem?_cons_succ, Option.getD_some, List.setIfInBounds_toArray, List.set_cons_zero, List.set_cons_succ])) | (refine wpCan_assign rfl rfl (fun _ _ _ _ h => h) ?_; (simp only [Act.put, Act.eval, Array.getD_eq_getD_getElem?, List.getElem?_toArray, List.getElem?_cons_zero, List.getElem?_cons_succ, Option.getD_some, List.setIfInBounds_toArray, List.set_cons_zero, List.set_cons_succ])) | (refine wpCan_nilCheck rfl rfl rfl (fun _ _ _ _ h => h) ?_; (simp only [Act.put, List.setIfInBounds_toArray, List.set_cons_zero, List.set_cons_succ])) | (refine wpCan_q rfl rfl (fun _ _ _ _ h => h) (by first | exact .bin rfl rfl rfl | exact .indexAddr rfl | exact .un rfl | exact .extract rfl | exact .index rfl | exact .field rfl | exact .slice rfl | exact .fieldT rfl FTCipher1) (fun K hK => ?_); go_simp; (try (simp only [↓IntWalk.iteOmega]; go_simp)); (try go_bits); refine hK _ ?_; clear hK K))
      refine wpCan_load_sub (off := 256 + j * 16) rfl rfl rfl (fun _ _ _ _ h => h) RTBlock hCl g1 (by omega) ?_
      (try simp only [Act.put, List.setIfInBounds_toArray, List.set_cons_zero, List.set_cons_succ])
      iterate 6 (first | (refine wpCan_move rfl rfl (fun _ _ _ _ h => h) ?_; (simp only [Act.put, Act.eval, Array.getD_eq_getD_getElem?, List.getElem?_toArray, List.getElem?_cons_zero, List.getElem?_cons_succ, Option.getD_some, List.setIfInBounds_toArray, List.set_cons_zero, List.set_cons_succ])) | (refine wpCan_assign rfl rfl (fun _ _ _ _ h => h) ?_; (simp only [Act.put, Act.eval, Array.getD_eq_getD_getElem?, List.getElem?_toArray, List.getElem?_cons_zero, List.getElem?_cons_succ, Option.getD_some, List.setIfInBounds_toArray, List.set_cons_zero, List.set_cons_succ])) | (refine wpCan_nilCheck rfl rfl rfl (fun _ _ _ _ h => h) ?_; (simp only [Act.put, List.setIfInBounds_toArray, List.set_cons_zero, List.set_cons_succ])) | (refine wpCan_q rfl rfl (fun _ _ _ _ h => h) (by first | exact .bin rfl rfl rfl | exact .indexAddr rfl | exact .un rfl | exact .extract rfl | exact .index rfl | exact .field rfl | exact .slice rfl | exact .fieldT rfl FTCipher1) (fun K hK => ?_); go_simp; (try (simp only [↓IntWalk.iteOmega]; go_simp)); (try go_bits); refine hK _ ?_; clear hK K))
      refine wpCan_alloc_arr rfl rfl ZTBlock (Nat.le_refl _) ?_
      refine wpCan_store_arr rfl rfl rfl rfl RTBlock (Nat.le_refl _) (heap_alloc_new _ _) ?_
      refine wpCan_nil ?_
      (try simp only [Act.put, List.setIfInBounds_toArray, List.set_cons_zero, List.set_cons_succ])
      go_wp2
      simp only [World.size_drew]
      have hBl : w.heap.size ≤ wr.heap.size := hB.size
      refine wp_cut (fun w' => w'.heap[wr.heap.size]? = some (.cells (arr .u8 16 (keyK k j)) 23 (0, 0)) ∧ w'.heap[C]? = some (.cells (arr .u8 432 (cipM k j 0)) 49 (0, 0)) ∧ Below w.heap.size w w')
        ⟨blk_congr (row_self (w := wr.drew.alloc _) (heap_alloc_new wr.drew _)) (fun i hi => by rw [Nat.mul_comm j 16]; exact cipK_key k j j i (Nat.le_refl _) hi),
          blk_congr (row_keep (w := wr.drew.alloc _) ((Below.heap_alloc wr.drew _ _ hCl).trans g1) (by omega)) (fun i _ => (cipM_zero k j i).symm), row_below (hB.drew.alloc hBl _) hBl _⟩ ?_
      rintro w3 ⟨gk0, gC0, hB0⟩
      generalize wr.heap.size = Bk at *
      go_loopg [33] 16 (fun n i wr => ∃ m : Nat, m + n = 16 ∧ i = .int .i64 m ∧ wr.heap[Bk]? = some (.cells (arr .u8 16 (keyK k j)) 23 (0, 0)) ∧ wr.heap[C]? = some (.cells (arr .u8 432 (cipM k j m)) 49 (0, 0)) ∧ Below w.heap.size w wr)
      case atStart => exact ⟨0, by omega, rfl, gk0, gC0, hB0⟩
      case round =>
        obtain ⟨m, hm, rfl, gW, gC, hBm⟩ := hrel
        have hm' := Lib.hid hm
        clear gk0 gC0 hB0 hm g1 hB
        by_cases hlm : m < 16
        · have hkb := Lib.hid (keyK_byte k hk j)
          have cw := cell_arr gW m hlm
          have cs := cell_arr gC (256 + (j + 1) * 16 + m) (by omega)
          have fz := free_arr gC (256 + (j + 1) * 16 + m)
          rcases (by omega : m = 0 ∨ m = 1 ∨ m = 2 ∨ m = 3 ∨ 4 ≤ m) with rfl | rfl | rfl | rfl | h4
          · simp only [Nat.add_zero] at cs fz cw
            have kb := hkb.out 13 (by omega)
            have cb := cell_arr gC (keyK k j 13).toNat (by omega)
            have cv := cell_arr gW 13 (by omega)
            go_wp2
            refine wp_region_tail 9 (by kernel_rfl) (by kernel_rfl) ?_
            (simp only [List.take_succ_cons, List.take_zero, List.drop_succ_cons, List.drop_zero])
            repeat (refine wpStill_step (fun K hK => ?_); go_simp; (try (simp only [↓IntWalk.iteOmega]; go_simp)); (try go_bits); refine hK _ ?_; clear hK K)
            refine wpStill_nil ?_
            go_wp2
            refine wp_region_tail 9 (by kernel_rfl) (by kernel_rfl) ?_
            (simp only [List.take_succ_cons, List.take_zero, List.drop_succ_cons, List.drop_zero])
            repeat (refine wpStill_step (fun K hK => ?_); go_simp; (try (simp only [↓IntWalk.iteOmega]; go_simp)); (try go_bits); refine hK _ ?_; clear hK K)
            refine wpStill_nil ?_
            go_wp2
            go_roundg (gk - 1)
            case measure => have := hm'.out; omega
            case rel =>
              have hm'' := hm'.out
              refine ⟨1, by omega, rfl, keep_arr gW _ _ (by omega), blk_congr (set_arr gC _ _) (fun i _ => (cipM_step' k j 0 _ (by omega) i _ ?_)), below_drewN (hBm.setCell hwC _) 2⟩
              rw [cipM_box _ _ _ _ (by omega)]; rfl
          · have kb := hkb.out 14 (by omega)
            have cb := cell_arr gC (keyK k j 14).toNat (by omega)
            have cv := cell_arr gW 14 (by omega)
            go_wp2
            refine wp_region_tail 11 (by kernel_rfl) (by kernel_rfl) ?_
            (simp only [List.take_succ_cons, List.take_zero, List.drop_succ_cons, List.drop_zero])
            repeat (refine wpStill_step (fun K hK => ?_); go_simp; (try (simp only [↓IntWalk.iteOmega]; go_simp)); (try go_bits); refine hK _ ?_; clear hK K)
            refine wpStill_nil ?_
            go_wp2
            refine wp_region_tail 9 (by kernel_rfl) (by kernel_rfl) ?_
            (simp only [List.take_succ_cons, List.take_zero, List.drop_succ_cons, List.drop_zero])
            repeat (refine wpStill_step (fun K hK => ?_); go_simp; (try (simp only [↓IntWalk.iteOmega]; go_simp)); (try go_bits); refine hK _ ?_; clear hK K)
            refine wpStill_nil ?_
            go_wp2
            go_roundg (gk - 1)
            case measure => have := hm'.out; omega
            case rel =>
              have hm'' := hm'.out
              refine ⟨2, by omega, rfl, keep_arr gW _ _ (by omega), blk_congr (set_arr gC _ _) (fun i _ => (cipM_step' k j 1 _ (by omega) i _ ?_)), below_drewN (hBm.setCell hwC _) 2⟩
              rw [cipM_box _ _ _ _ (by omega)]; rfl
          · have kb := hkb.out 15 (by omega)
            have cb := cell_arr gC (keyK k j 15).toNat (by omega)
            have cv := cell_arr gW 15 (by omega)
            go_wp2
            refine wp_region_tail 11 (by kernel_rfl) (by kernel_rfl) ?_
            (simp only [List.take_succ_cons, List.take_zero, List.drop_succ_cons, List.drop_zero])
            repeat (refine wpStill_step (fun K hK => ?_); go_simp; (try (simp only [↓IntWalk.iteOmega]; go_simp)); (try go_bits); refine hK _ ?_; clear hK K)
            refine wpStill_nil ?_
            go_wp2
            refine wp_region_tail 9 (by kernel_rfl) (by kernel_rfl) ?_
            (simp only [List.take_succ_cons, List.take_zero, List.drop_succ_cons, List.drop_zero])
            repeat (refine wpStill_step (fun K hK => ?_); go_simp; (try (simp only [↓IntWalk.iteOmega]; go_simp)); (try go_bits); refine hK _ ?_; clear hK K)
            refine wpStill_nil ?_
            go_wp2
            go_roundg (gk - 1)
            case measure => have := hm'.out; omega
            case rel =>
              have hm'' := hm'.out
              refine ⟨3, by omega, rfl, keep_arr gW _ _ (by omega), blk_congr (set_arr gC _ _) (fun i _ => (cipM_step' k j 2 _ (by omega) i _ ?_)), below_drewN (hBm.setCell hwC _) 2⟩
              rw [cipM_box _ _ _ _ (by omega)]; rfl
          · have kb := hkb.out 12 (by omega)
            have cb := cell_arr gC (keyK k j 12).toNat (by omega)
            have cv := cell_arr gW 12 (by omega)
            go_wp2
            refine wp_region_tail 11 (by kernel_rfl) (by kernel_rfl) ?_
            (simp only [List.take_succ_cons, List.take_zero, List.drop_succ_cons, List.drop_zero])
            repeat (refine wpStill_step (fun K hK => ?_); go_simp; (try (simp only [↓IntWalk.iteOmega]; go_simp)); (try go_bits); refine hK _ ?_; clear hK K)
            refine wpStill_nil ?_
            go_wp2
            refine wp_region_tail 9 (by kernel_rfl) (by kernel_rfl) ?_
            (simp only [List.take_succ_cons, List.take_zero, List.drop_succ_cons, List.drop_zero])
            repeat (refine wpStill_step (fun K hK => ?_); go_simp; (try (simp only [↓IntWalk.iteOmega]; go_simp)); (try go_bits); refine hK _ ?_; clear hK K)
            refine wpStill_nil ?_
            go_wp2
            go_roundg (gk - 1)
            case measure => have := hm'.out; omega
            case rel =>
              have hm'' := hm'.out
              refine ⟨4, by omega, rfl, keep_arr gW _ _ (by omega), blk_congr (set_arr gC _ _) (fun i _ => (cipM_step' k j 3 _ (by omega) i _ ?_)), below_drewN (hBm.setCell hwC _) 2⟩
              rw [cipM_box _ _ _ _ (by omega)]; rfl
          · have cn := cell_arr gC (256 + (j + 1) * 16 + (m - 4)) (by omega)
            go_wp2
            refine wp_region_tail 9 (by kernel_rfl) (by kernel_rfl) ?_
            (simp only [List.take_succ_cons, List.take_zero, List.drop_succ_cons, List.drop_zero])
            repeat (refine wpStill_step (fun K hK => ?_); go_simp; (try (simp only [↓IntWalk.iteOmega]; go_simp)); (try go_bits); refine hK _ ?_; clear hK K)
            refine wpStill_nil ?_
            go_wp2
            go_roundg (gk - 1)
            case measure => have := hm'.out; omega
            case rel =>
              have hm'' := hm'.out
              refine ⟨m + 1, by omega, by go_num, keep_arr gW _ _ (by omega), blk_congr (set_arr gC _ _) (fun i _ => (cipM_step' k j m _ (by omega) i _ ?_)), below_drewN (hBm.setCell hwC _) 1⟩
              rw [nextKey_step _ _ m h4, show 256 + (j + 1) * 16 + (m - 4) = 256 + 16 * (j + 1) + (m - 4) from by omega, cipM_now _ _ _ _ (by omega)]
        · obtain rfl : m = 16 := by have := hm'.out; omega
          have ab := addK_byte j
          have g2 := blk_congr gC (fun i _ => cipM_done k j i)
          clear gC gW
          go_wp2_with (go_at_call 29; (with_reducible refine (twice_any _ (by omega) (by omega) _).mono ?_); rintro e w' ⟨rfl, rfl⟩)
          go_roundg (go1 - 1)
          case measure => have := hj'.out; omega
          case rel =>
            have hj'' := hj'.out
            exact ⟨j + 1, by omega, by go_num, rfl, g2, hBm⟩
    · obtain rfl : j = 10 := by have := hj'.out; omega
      go_wp2
      go_ret
      exact ⟨C, rfl, hwC, g1, hB⟩

end Go.Proofs.Ytnckddjlpmkkgaa
