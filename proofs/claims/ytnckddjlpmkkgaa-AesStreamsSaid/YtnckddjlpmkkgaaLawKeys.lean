/- The law AesKeys: whatever the key, it answers true. -/
import Derived.Test.YtnckddjlpmkkgaaAesK
import Derived.Test.YtnckddjlpmkkgaaAesN
import Derived.Test.YtnckddjlpmkkgaaEq
import Derived.Test.YtnckddjlpmkkgaaNew
namespace Go.Proofs.Ytnckddjlpmkkgaa
set_option linter.unusedSimpArgs false
set_option linter.unusedVariables false
open Go.RowKit
attribute [local irreducible] sboxI

theorem ITBlock : IntsT Try.prog 23 .u8 16 := ⟨_, Try.underlying23, Try.underlying5, by kernel_rfl, by kernel_rfl⟩

theorem Mul_two (x : Int) (h0 : 0 ≤ x) (h1 : x < 256) (w : World) :
    Calls Try.prog 12 #[.int .u8 x, .int .u8 2] w fun e w' => e = .returned (.int .u8 (twiceI x)) ∧ w = w' := by
  obtain ⟨n, rfl⟩ := Int.eq_ofNat_of_zero_le h0
  have := Mul_nat n 2 (by omega) (by omega) w
  rw [mulN_two n (by omega)] at this
  exact this

set_option maxRecDepth 100000 in
set_option maxHeartbeats 1000000 in
theorem AesKeys_any (k : Nat → Int) (hk : ∀ i, i < 16 → 0 ≤ k i ∧ k i < 256) (w : World) :
    Calls Try.prog 3 #[.agg (arr .u8 16 k)] w fun e w' => e = .returned (.bool true) ∧ Below w.heap.size w w' := by
  go_enter Try.func3, Try.ntmps3
  go_wp2_with fail
  refine (live_any _).mono ?_
  rintro e w1 ⟨rfl, hb1⟩
  obtain ⟨g0, hz, hb0⟩ := alloc1 w (.cells (arr .u8 16 k) 23)
  have g1 := (hb1.block _ (by omega)).trans g0
  have hB1 := hb0.trans (hb1.mono (by omega))
  have hs1 : w.heap.size < w1.heap.size := lt_of_block g1
  clear hb1 g0 hz hb0
  go_wp2_with (first | (go_at_call 10; fail) | (refine wpList_load_arr rfl rfl rfl RTBlock g1 ?_))
  refine (Keys_any k hk _).mono ?_
  rintro e w2 ⟨rfl, hb2⟩
  have g2 := (hb2.block _ hs1).trans g1
  have hB2 := hB1.trans (hb2.mono (Nat.le_of_lt hs1))
  have hs2 : w.heap.size < w2.heap.size := lt_of_block g2
  clear hb2 g1 hB1 hs1
  have hkb := Lib.hid (keyK_byte k hk)
  go_wp2_with (first | (refine wpList_new_arr rfl rfl rfl rfl ZTKeys RTKeys rfl rfl ?_; intro w3 gK hb3 hs3; have g3 := keep_below hb3 hs2 g2; have hB3 := hB2.trans (hb3.mono (Nat.le_of_lt hs2))) | (refine wpList_load_arr rfl rfl rfl RTBlock g3 ?_) | (refine wpList_load_as (off := 0 * 16) k rfl rfl rfl RTBlock gK (by omega) (fun i hi => keys_at k 0 i hi) ?_) | (refine wpList_neArr rfl rfl ITBlock rfl rfl ?_; rw [show sameTo k k 16 0 = true from sameTo_true fun _ _ => rfl]))
  go_loopg [5, 6] 10 (fun n add i wr => ∃ j : Nat, j + n = 10 ∧ add = .int .u8 (addK j) ∧ i = .int .i64 ((j : Int) + 1) ∧ wr.heap[w2.heap.size]? = some (.cells (arr .u8 176 fun i => keyK k (i / 16) (i % 16)) 25 (0, 0)) ∧ Below w.heap.size w wr)
  case atStart => exact ⟨0, rfl, rfl, rfl, gK, hB3⟩
  case round =>
    obtain ⟨j, hj, rfl, rfl, g4, hB4⟩ := hrel
    obtain ⟨go1, rfl⟩ : ∃ x, x = gk := ⟨_, rfl⟩
    have hj' := Lib.hid hj
    have hs4 := lt_of_block g4
    have ab := addK_byte j
    clear g3 gK hB2 hB3 hs3 hb3 g2
    by_cases hlt : j < 10
    · clear hj
      go_upto_region 12 with (first | (refine wpList_new_arr rfl rfl rfl rfl ZTBlock RTBlock rfl rfl ?_; intro w5 g5 hb5 hs5) | (refine wpList_load_as (off := j * 16) (keyK k j) rfl rfl rfl RTBlock g4 (by omega) (keys_at k j) ?_))
      have g6 := keep_below hb5 hs4 g4
      have hB5 := hB4.trans (hb5.mono hB4.size)
      have hs6 := lt_of_block g6
      have e5 := g5
      go_upto_region 13 with (first | (refine wpList_new_arr rfl rfl rfl rfl ZTBlock RTBlock rfl rfl ?_; intro w7 g7 hb7 hs7) | (refine wpList_load_as (off := (j + 1) * 16) (keyK k (j + 1)) rfl rfl rfl RTBlock g6 (by omega) (keys_at k (j + 1)) ?_))
      have e6 := keep_below hb7 (lt_of_block e5) e5
      have e7 := g7
      have e8 := keep_below hb7 hs6 g6
      have hB7 := hB5.trans (hb7.mono hB5.size)
      have hd : wr.heap.size < w5.heap.size := lt_of_block e5
      clear g5 g6 g7 e5 hB5 hB4 g4 hb5 hb7 hs7 hs5
      generalize wr.heap.size = B7 at *
      generalize w5.heap.size = B8 at *
      (try simp only [Act.put, List.setIfInBounds_toArray, List.set_cons_zero, List.set_cons_succ])
      go_wp2
      go_loopg [9] 12 (fun n i wr => ∃ m : Nat, 4 ≤ m ∧ m + n = 16 ∧ i = .int .i64 m ∧ wr.heap[B7]? = some (.cells (arr .u8 16 (keyK k j)) 23 (0, 0)) ∧ wr.heap[B8]? = some (.cells (arr .u8 16 (keyK k (j + 1))) 23 (0, 0)) ∧ wr.heap[w2.heap.size]? = some (.cells (arr .u8 176 fun i => keyK k (i / 16) (i % 16)) 25 (0, 0)) ∧ Below w.heap.size w wr)
      case atStart => exact ⟨4, by omega, rfl, rfl, e6, e7, e8, hB7⟩
      case round =>
        obtain ⟨m, h4, hm, rfl, f7, f8, f2, hBf⟩ := hrel
        have hm' := Lib.hid hm
        clear hm e6 e7 e8 hB7
        by_cases hlm : m < 16
        · have c1 := cell_arr f8 m hlm
          have c2 := cell_arr f7 m hlm
          have c3 := cell_arr f8 (m - 4) (by omega)
          have lw := law_late k j m h4
          go_wp2
          refine wp_region_tail 11 (by kernel_rfl) (by kernel_rfl) ?_
          (simp only [List.take_succ_cons, List.take_zero, List.drop_succ_cons, List.drop_zero])
          repeat (refine wpStill_step (fun K hK => ?_); go_simp; (try (simp only [↓IntWalk.iteOmega]; go_simp)); (try go_bits); refine hK _ ?_; clear hK K)
          refine wpStill_nil ?_
          go_wp2
          go_roundg (gk - 1)
          case measure => have := hm'.out; omega
          case rel =>
            have hm'' := hm'.out
            exact ⟨m + 1, by omega, by omega, by go_num, f7, f8, f2, hBf.drew⟩
        · clear h4 hm'
          go_wp2
          go_loopg [48] 4 (fun n i wr => ∃ m : Nat, m + n = 4 ∧ i = .int .i64 m ∧ wr.heap[B7]? = some (.cells (arr .u8 16 (keyK k j)) 23 (0, 0)) ∧ wr.heap[B8]? = some (.cells (arr .u8 16 (keyK k (j + 1))) 23 (0, 0)) ∧ wr.heap[w2.heap.size]? = some (.cells (arr .u8 176 fun i => keyK k (i / 16) (i % 16)) 25 (0, 0)) ∧ Below w.heap.size w wr)
          case atStart => exact ⟨0, rfl, rfl, f7, f8, f2, hBf⟩
          case round =>
            clear f7 f8 f2 hBf
            obtain ⟨m, hm, rfl, f7, f8, f2, hBf⟩ := hrel
            have hm' := Lib.hid hm
            clear hm
            have hl7 := lt_of_block f7
            have hl8 := lt_of_block f8
            have hl2 := lt_of_block f2
            rcases (by omega : m = 0 ∨ m = 1 ∨ m = 2 ∨ m = 3 ∨ 4 ≤ m) with rfl | rfl | rfl | rfl | h4
            · have c1 := cell_arr f7 0 (by omega)
              have c2 := cell_arr f7 13 (by omega)
              have c3 := cell_arr f8 0 (by omega)
              have kb := hkb.out j 13 (by omega)
              have lw := law_0 k j
              go_wp2
              refine wp_region_can wr.heap.size 11 [(0, false), (1, false), (2, false), (3, false), (4, false), (5, false), (6, false), (7, false), (8, false), (9, true), (10, false)] (by kernel_rfl) (by kernel_rfl) ?_
              (simp only [canOps, List.getElem?_cons_zero, List.getElem?_cons_succ, List.drop_succ_cons, List.drop_zero])
              iterate 9 (first | (refine wpCan_move rfl rfl (fun _ _ _ _ h => h) ?_; (simp only [Act.put, Act.eval, Array.getD_eq_getD_getElem?, List.getElem?_toArray, List.getElem?_cons_zero, List.getElem?_cons_succ, Option.getD_some, List.setIfInBounds_toArray, List.set_cons_zero, List.set_cons_succ])) | (refine wpCan_assign rfl rfl (fun _ _ _ _ h => h) ?_; (simp only [Act.put, Act.eval, Array.getD_eq_getD_getElem?, List.getElem?_toArray, List.getElem?_cons_zero, List.getElem?_cons_succ, Option.getD_some, List.setIfInBounds_toArray, List.set_cons_zero, List.set_cons_succ])) | (refine wpCan_nilCheck rfl rfl rfl (fun _ _ _ _ h => h) ?_; (simp only [Act.put, List.setIfInBounds_toArray, List.set_cons_zero, List.set_cons_succ])) | (refine wpCan_q rfl rfl (fun _ _ _ _ h => h) (by first | exact .bin rfl rfl rfl | exact .indexAddr rfl | exact .un rfl | exact .extract rfl | exact .index rfl | exact .field rfl | exact .slice rfl | exact .load rfl rfl hl7 f7) (fun K hK => ?_); go_simp; (try (simp only [↓IntWalk.iteOmega]; go_simp)); (try go_bits); refine hK _ ?_; clear hK K))
              refine wpCan_e rfl (fun K hK => ?_)
              go_simp
              refine (Box_any _ (by omega) (by omega) _).mono ?_
              rintro e w9 ⟨rfl, hb9⟩
              refine hK _ _ (Keep.of_below hb9 (Nat.le_refl _)) ?_
              clear hK K
              (try simp only [Act.put, List.setIfInBounds_toArray, List.set_cons_zero, List.set_cons_succ])
              (first | (refine wpCan_move rfl rfl (fun _ _ _ _ h => h) ?_; (simp only [Act.put, Act.eval, Array.getD_eq_getD_getElem?, List.getElem?_toArray, List.getElem?_cons_zero, List.getElem?_cons_succ, Option.getD_some, List.setIfInBounds_toArray, List.set_cons_zero, List.set_cons_succ])) | (refine wpCan_assign rfl rfl (fun _ _ _ _ h => h) ?_; (simp only [Act.put, Act.eval, Array.getD_eq_getD_getElem?, List.getElem?_toArray, List.getElem?_cons_zero, List.getElem?_cons_succ, Option.getD_some, List.setIfInBounds_toArray, List.set_cons_zero, List.set_cons_succ])) | (refine wpCan_nilCheck rfl rfl rfl (fun _ _ _ _ h => h) ?_; (simp only [Act.put, List.setIfInBounds_toArray, List.set_cons_zero, List.set_cons_succ])) | (refine wpCan_q rfl rfl (fun _ _ _ _ h => h) (by first | exact .bin rfl rfl rfl | exact .indexAddr rfl | exact .un rfl | exact .extract rfl | exact .index rfl | exact .field rfl | exact .slice rfl) (fun K hK => ?_); go_simp; (try (simp only [↓IntWalk.iteOmega]; go_simp)); (try go_bits); refine hK _ ?_; clear hK K))
              refine wpCan_nil ?_
              have f7' := keep_below (w := wr.drew) hb9 hl7 f7
              have f8' := keep_below (w := wr.drew) hb9 hl8 f8
              have f2' := keep_below (w := wr.drew) hb9 hl2 f2
              have hBg := hBf.drew.trans (hb9.mono hBf.size)
              have c3' := cell_arr f8' 0 (by omega)
              clear c1 c2 c3 f7 f8 f2 hBf hb9
              go_wp2
              go_roundg (gk - 1)
              case measure => have := hm'.out; omega
              case rel =>
                have hm'' := hm'.out
                exact ⟨1, by omega, rfl, f7', f8', f2', hBg⟩
            · have c1 := cell_arr f7 1 (by omega)
              have c2 := cell_arr f7 14 (by omega)
              have c3 := cell_arr f8 1 (by omega)
              have kb := hkb.out j 14 (by omega)
              have lw := law_1 k j
              go_wp2
              refine wp_region_can wr.heap.size 11 [(0, false), (1, false), (2, false), (3, false), (4, false), (5, false), (6, false), (7, false), (8, false), (9, true), (10, false)] (by kernel_rfl) (by kernel_rfl) ?_
              (simp only [canOps, List.getElem?_cons_zero, List.getElem?_cons_succ, List.drop_succ_cons, List.drop_zero])
              iterate 9 (first | (refine wpCan_move rfl rfl (fun _ _ _ _ h => h) ?_; (simp only [Act.put, Act.eval, Array.getD_eq_getD_getElem?, List.getElem?_toArray, List.getElem?_cons_zero, List.getElem?_cons_succ, Option.getD_some, List.setIfInBounds_toArray, List.set_cons_zero, List.set_cons_succ])) | (refine wpCan_assign rfl rfl (fun _ _ _ _ h => h) ?_; (simp only [Act.put, Act.eval, Array.getD_eq_getD_getElem?, List.getElem?_toArray, List.getElem?_cons_zero, List.getElem?_cons_succ, Option.getD_some, List.setIfInBounds_toArray, List.set_cons_zero, List.set_cons_succ])) | (refine wpCan_nilCheck rfl rfl rfl (fun _ _ _ _ h => h) ?_; (simp only [Act.put, List.setIfInBounds_toArray, List.set_cons_zero, List.set_cons_succ])) | (refine wpCan_q rfl rfl (fun _ _ _ _ h => h) (by first | exact .bin rfl rfl rfl | exact .indexAddr rfl | exact .un rfl | exact .extract rfl | exact .index rfl | exact .field rfl | exact .slice rfl | exact .load rfl rfl hl7 f7) (fun K hK => ?_); go_simp; (try (simp only [↓IntWalk.iteOmega]; go_simp)); (try go_bits); refine hK _ ?_; clear hK K))
              refine wpCan_e rfl (fun K hK => ?_)
              go_simp
              refine (Box_any _ (by omega) (by omega) _).mono ?_
              rintro e w9 ⟨rfl, hb9⟩
              refine hK _ _ (Keep.of_below hb9 (Nat.le_refl _)) ?_
              clear hK K
              (try simp only [Act.put, List.setIfInBounds_toArray, List.set_cons_zero, List.set_cons_succ])
              (first | (refine wpCan_move rfl rfl (fun _ _ _ _ h => h) ?_; (simp only [Act.put, Act.eval, Array.getD_eq_getD_getElem?, List.getElem?_toArray, List.getElem?_cons_zero, List.getElem?_cons_succ, Option.getD_some, List.setIfInBounds_toArray, List.set_cons_zero, List.set_cons_succ])) | (refine wpCan_assign rfl rfl (fun _ _ _ _ h => h) ?_; (simp only [Act.put, Act.eval, Array.getD_eq_getD_getElem?, List.getElem?_toArray, List.getElem?_cons_zero, List.getElem?_cons_succ, Option.getD_some, List.setIfInBounds_toArray, List.set_cons_zero, List.set_cons_succ])) | (refine wpCan_nilCheck rfl rfl rfl (fun _ _ _ _ h => h) ?_; (simp only [Act.put, List.setIfInBounds_toArray, List.set_cons_zero, List.set_cons_succ])) | (refine wpCan_q rfl rfl (fun _ _ _ _ h => h) (by first | exact .bin rfl rfl rfl | exact .indexAddr rfl | exact .un rfl | exact .extract rfl | exact .index rfl | exact .field rfl | exact .slice rfl) (fun K hK => ?_); go_simp; (try (simp only [↓IntWalk.iteOmega]; go_simp)); (try go_bits); refine hK _ ?_; clear hK K))
              refine wpCan_nil ?_
              have f7' := keep_below (w := wr.drew) hb9 hl7 f7
              have f8' := keep_below (w := wr.drew) hb9 hl8 f8
              have f2' := keep_below (w := wr.drew) hb9 hl2 f2
              have hBg := hBf.drew.trans (hb9.mono hBf.size)
              have c3' := cell_arr f8' 1 (by omega)
              clear c1 c2 c3 f7 f8 f2 hBf hb9
              go_wp2
              go_roundg (gk - 1)
              case measure => have := hm'.out; omega
              case rel =>
                have hm'' := hm'.out
                exact ⟨2, by omega, rfl, f7', f8', f2', hBg⟩
            · have c1 := cell_arr f7 2 (by omega)
              have c2 := cell_arr f7 15 (by omega)
              have c3 := cell_arr f8 2 (by omega)
              have kb := hkb.out j 15 (by omega)
              have lw := law_2 k j
              go_wp2
              refine wp_region_can wr.heap.size 11 [(0, false), (1, false), (2, false), (3, false), (4, false), (5, false), (6, false), (7, false), (8, false), (9, true), (10, false)] (by kernel_rfl) (by kernel_rfl) ?_
              (simp only [canOps, List.getElem?_cons_zero, List.getElem?_cons_succ, List.drop_succ_cons, List.drop_zero])
              iterate 9 (first | (refine wpCan_move rfl rfl (fun _ _ _ _ h => h) ?_; (simp only [Act.put, Act.eval, Array.getD_eq_getD_getElem?, List.getElem?_toArray, List.getElem?_cons_zero, List.getElem?_cons_succ, Option.getD_some, List.setIfInBounds_toArray, List.set_cons_zero, List.set_cons_succ])) | (refine wpCan_assign rfl rfl (fun _ _ _ _ h => h) ?_; (simp only [Act.put, Act.eval, Array.getD_eq_getD_getElem?, List.getElem?_toArray, List.getElem?_cons_zero, List.getElem?_cons_succ, Option.getD_some, List.setIfInBounds_toArray, List.set_cons_zero, List.set_cons_succ])) | (refine wpCan_nilCheck rfl rfl rfl (fun _ _ _ _ h => h) ?_; (simp only [Act.put, List.setIfInBounds_toArray, List.set_cons_zero, List.set_cons_succ])) | (refine wpCan_q rfl rfl (fun _ _ _ _ h => h) (by first | exact .bin rfl rfl rfl | exact .indexAddr rfl | exact .un rfl | exact .extract rfl | exact .index rfl | exact .field rfl | exact .slice rfl | exact .load rfl rfl hl7 f7) (fun K hK => ?_); go_simp; (try (simp only [↓IntWalk.iteOmega]; go_simp)); (try go_bits); refine hK _ ?_; clear hK K))
              refine wpCan_e rfl (fun K hK => ?_)
              go_simp
              refine (Box_any _ (by omega) (by omega) _).mono ?_
              rintro e w9 ⟨rfl, hb9⟩
              refine hK _ _ (Keep.of_below hb9 (Nat.le_refl _)) ?_
              clear hK K
              (try simp only [Act.put, List.setIfInBounds_toArray, List.set_cons_zero, List.set_cons_succ])
              (first | (refine wpCan_move rfl rfl (fun _ _ _ _ h => h) ?_; (simp only [Act.put, Act.eval, Array.getD_eq_getD_getElem?, List.getElem?_toArray, List.getElem?_cons_zero, List.getElem?_cons_succ, Option.getD_some, List.setIfInBounds_toArray, List.set_cons_zero, List.set_cons_succ])) | (refine wpCan_assign rfl rfl (fun _ _ _ _ h => h) ?_; (simp only [Act.put, Act.eval, Array.getD_eq_getD_getElem?, List.getElem?_toArray, List.getElem?_cons_zero, List.getElem?_cons_succ, Option.getD_some, List.setIfInBounds_toArray, List.set_cons_zero, List.set_cons_succ])) | (refine wpCan_nilCheck rfl rfl rfl (fun _ _ _ _ h => h) ?_; (simp only [Act.put, List.setIfInBounds_toArray, List.set_cons_zero, List.set_cons_succ])) | (refine wpCan_q rfl rfl (fun _ _ _ _ h => h) (by first | exact .bin rfl rfl rfl | exact .indexAddr rfl | exact .un rfl | exact .extract rfl | exact .index rfl | exact .field rfl | exact .slice rfl) (fun K hK => ?_); go_simp; (try (simp only [↓IntWalk.iteOmega]; go_simp)); (try go_bits); refine hK _ ?_; clear hK K))
              refine wpCan_nil ?_
              have f7' := keep_below (w := wr.drew) hb9 hl7 f7
              have f8' := keep_below (w := wr.drew) hb9 hl8 f8
              have f2' := keep_below (w := wr.drew) hb9 hl2 f2
              have hBg := hBf.drew.trans (hb9.mono hBf.size)
              have c3' := cell_arr f8' 2 (by omega)
              clear c1 c2 c3 f7 f8 f2 hBf hb9
              go_wp2
              go_roundg (gk - 1)
              case measure => have := hm'.out; omega
              case rel =>
                have hm'' := hm'.out
                exact ⟨3, by omega, rfl, f7', f8', f2', hBg⟩
            · have c1 := cell_arr f7 3 (by omega)
              have c2 := cell_arr f7 12 (by omega)
              have c3 := cell_arr f8 3 (by omega)
              have kb := hkb.out j 12 (by omega)
              have lw := law_3 k j
              go_wp2
              refine wp_region_can wr.heap.size 11 [(0, false), (1, false), (2, false), (3, false), (4, false), (5, false), (6, false), (7, false), (8, false), (9, true), (10, false)] (by kernel_rfl) (by kernel_rfl) ?_
              (simp only [canOps, List.getElem?_cons_zero, List.getElem?_cons_succ, List.drop_succ_cons, List.drop_zero])
              iterate 9 (first | (refine wpCan_move rfl rfl (fun _ _ _ _ h => h) ?_; (simp only [Act.put, Act.eval, Array.getD_eq_getD_getElem?, List.getElem?_toArray, List.getElem?_cons_zero, List.getElem?_cons_succ, Option.getD_some, List.setIfInBounds_toArray, List.set_cons_zero, List.set_cons_succ])) | (refine wpCan_assign rfl rfl (fun _ _ _ _ h => h) ?_; (simp only [Act.put, Act.eval, Array.getD_eq_getD_getElem?, List.getElem?_toArray, List.getElem?_cons_zero, List.getElem?_cons_succ, Option.getD_some, List.setIfInBounds_toArray, List.set_cons_zero, List.set_cons_succ])) | (refine wpCan_nilCheck rfl rfl rfl (fun _ _ _ _ h => h) ?_; (simp only [Act.put, List.setIfInBounds_toArray, List.set_cons_zero, List.set_cons_succ])) | (refine wpCan_q rfl rfl (fun _ _ _ _ h => h) (by first | exact .bin rfl rfl rfl | exact .indexAddr rfl | exact .un rfl | exact .extract rfl | exact .index rfl | exact .field rfl | exact .slice rfl | exact .load rfl rfl hl7 f7) (fun K hK => ?_); go_simp; (try (simp only [↓IntWalk.iteOmega]; go_simp)); (try go_bits); refine hK _ ?_; clear hK K))
              refine wpCan_e rfl (fun K hK => ?_)
              go_simp
              refine (Box_any _ (by omega) (by omega) _).mono ?_
              rintro e w9 ⟨rfl, hb9⟩
              refine hK _ _ (Keep.of_below hb9 (Nat.le_refl _)) ?_
              clear hK K
              (try simp only [Act.put, List.setIfInBounds_toArray, List.set_cons_zero, List.set_cons_succ])
              (first | (refine wpCan_move rfl rfl (fun _ _ _ _ h => h) ?_; (simp only [Act.put, Act.eval, Array.getD_eq_getD_getElem?, List.getElem?_toArray, List.getElem?_cons_zero, List.getElem?_cons_succ, Option.getD_some, List.setIfInBounds_toArray, List.set_cons_zero, List.set_cons_succ])) | (refine wpCan_assign rfl rfl (fun _ _ _ _ h => h) ?_; (simp only [Act.put, Act.eval, Array.getD_eq_getD_getElem?, List.getElem?_toArray, List.getElem?_cons_zero, List.getElem?_cons_succ, Option.getD_some, List.setIfInBounds_toArray, List.set_cons_zero, List.set_cons_succ])) | (refine wpCan_nilCheck rfl rfl rfl (fun _ _ _ _ h => h) ?_; (simp only [Act.put, List.setIfInBounds_toArray, List.set_cons_zero, List.set_cons_succ])) | (refine wpCan_q rfl rfl (fun _ _ _ _ h => h) (by first | exact .bin rfl rfl rfl | exact .indexAddr rfl | exact .un rfl | exact .extract rfl | exact .index rfl | exact .field rfl | exact .slice rfl) (fun K hK => ?_); go_simp; (try (simp only [↓IntWalk.iteOmega]; go_simp)); (try go_bits); refine hK _ ?_; clear hK K))
              refine wpCan_nil ?_
              have f7' := keep_below (w := wr.drew) hb9 hl7 f7
              have f8' := keep_below (w := wr.drew) hb9 hl8 f8
              have f2' := keep_below (w := wr.drew) hb9 hl2 f2
              have hBg := hBf.drew.trans (hb9.mono hBf.size)
              have c3' := cell_arr f8' 3 (by omega)
              clear c1 c2 c3 f7 f8 f2 hBf hb9
              go_wp2
              go_roundg (gk - 1)
              case measure => have := hm'.out; omega
              case rel =>
                have hm'' := hm'.out
                exact ⟨4, by omega, rfl, f7', f8', f2', hBg⟩
            · obtain rfl : m = 4 := by have := hm'.out; omega
              go_wp2_with (go_at_call 12; (with_reducible refine (Mul_two _ (by omega) (by omega) _).mono ?_); rintro e w' ⟨rfl, rfl⟩)
              go_roundg (go1 - 1)
              case measure => have := hj'.out; omega
              case rel =>
                have hj'' := hj'.out
                exact ⟨j + 1, by omega, rfl, by go_num, f2, hBf⟩
    · go_wp2
      go_ret
      exact ⟨rfl, hB4⟩
end Go.Proofs.Ytnckddjlpmkkgaa
