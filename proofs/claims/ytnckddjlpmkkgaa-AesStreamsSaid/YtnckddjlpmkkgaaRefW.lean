/- The walks of the reference for layer 4: a block's rounds. -/
import Derived.Test.YtnckddjlpmkkgaaRefV
import Derived.Test.YtnckddjlpmkkgaaAesT
import Derived.Test.YtnckddjlpmkkgaaAesI
namespace Go.Proofs.Ytnckddjlpmkkgaa
set_option linter.unusedSimpArgs false
set_option linter.unusedVariables false
open Go.RowKit
attribute [local irreducible] sboxI mulN

theorem mulN_lt (a b : Nat) : mulN a b < 256 := by unfold mulN; exact Nat.mod_lt _ (by omega)
theorem mul2_ok : (List.range 256).all (fun x => decide (((mulN 2 x : Nat) : Int) = twiceI x)) = true := by kernel_rfl
theorem mul3_ok : (List.range 256).all (fun x => decide (((mulN 3 x : Nat) : Int) = bits .xor .u8 (twiceI x) x)) = true := by kernel_rfl
def mixI (s : Nat → Int) (c r : Nat) : Int := bits .xor .u8 (bits .xor .u8 (bits .xor .u8 (twiceI (s (4 * c + r % 4))) (bits .xor .u8 (twiceI (s (4 * c + (r + 1) % 4))) (s (4 * c + (r + 1) % 4)))) (s (4 * c + (r + 2) % 4))) (s (4 * c + (r + 3) % 4))
theorem mix_col (x s : Nat → Int) (c : Nat) (hx : ∀ i, i < 4 → 0 ≤ x i ∧ x i < 256) (hs : ∀ i, i < 4 → s (4 * c + i) = x i) (r : Nat) (hr : r < 4) : mixI s c r = colI x r := by
  refine b8_inj (bits_u8 _ _ _) (colI_byte _ _) ?_
  rw [b8_col]
  unfold mixI C8
  rw [hs _ (by omega), hs _ (by omega), hs _ (by omega), hs _ (by omega)]
  rw [b8_bx, b8_bx, b8_bx, b8_bx, b8_twice (hx _ (by omega)), b8_twice (hx _ (by omega))]
  simp only [T8_xor]
  have h : r = 0 ∨ r = 1 ∨ r = 2 ∨ r = 3 := by omega
  rcases h with rfl | rfl | rfl | rfl
  all_goals
    simp only [Nat.reduceAdd, Nat.reduceMod]
    generalize T8 (b8 (x 0)) = A
    generalize T8 (b8 (x 1)) = B
    generalize T8 (b8 (x 2)) = C
    generalize T8 (b8 (x 3)) = D
    generalize b8 (x 0) = a
    generalize b8 (x 1) = b
    generalize b8 (x 2) = c
    generalize b8 (x 3) = d
    ext j hj
    simp only [BitVec.getElem_xor]
    generalize a[j] = a
    generalize b[j] = b
    generalize c[j] = c
    generalize d[j] = d
    generalize A[j] = A
    generalize B[j] = B
    generalize C[j] = C
    generalize D[j] = D
    revert a b c d A B C D
    decide +kernel

set_option maxHeartbeats 1000000 in
theorem refXor_any (f g : Nat → Int) (w : World) :
    Calls Try.prog 26 #[.agg (arr .u8 16 f), .agg (arr .u8 16 g)] w fun e w' => e = .returned (.agg (arr .u8 16 (xorI f g))) ∧ Below w.heap.size w w' := by
  go_enter Try.func26, Try.ntmps26
  go_wp2_with (refine wpList_alloc_arr rfl rfl ZTBlock ?_)
  obtain ⟨h0, h1, h2, hsz, hb⟩ := alloc3 w (.cells (arr .u8 16 f) 23) (.cells (arr .u8 16 g) 23) (.cells (arr .u8 16 fun _ => 0) 23)
  go_loopg [6] 16 (fun n i wr => ∃ m : Nat, m + n = 16 ∧ i = .int .i64 m ∧ wr.heap[w.heap.size]? = some (.cells (arr .u8 16 fun i => if i < m then xorI f g i else f i) 23 (0, 0)) ∧
    wr.heap[w.heap.size + 1]? = some (.cells (arr .u8 16 g) 23 (0, 0)) ∧ wr.heap[w.heap.size + 1 + 1]? = some (.cells (arr .u8 16 fun _ => 0) 23 (0, 0)) ∧ Below w.heap.size w wr)
  case atStart => exact ⟨0, rfl, rfl, by simpa using h0, h1, h2, hb⟩
  case round =>
    obtain ⟨m, hm, rfl, g0, g1, g2, hB⟩ := hrel
    have hm' := Lib.hid hm
    clear h0 h1 h2 hsz hb hm
    by_cases hlt : m < 16
    · have c0 := cell_arr g0 m hlt
      have c1 := cell_arr g1 m hlt
      have fz := free_arr g0 m
      simp only [Nat.lt_irrefl, if_false] at c0
      go_wp2
      refine wp_region_tail 8 (by kernel_rfl) (by kernel_rfl) ?_
      (simp only [List.take_succ_cons, List.take_zero, List.drop_succ_cons, List.drop_zero])
      repeat (refine wpStill_step (fun K hK => ?_); go_simp; (try (simp only [↓IntWalk.iteOmega]; go_simp)); (try go_bits); refine hK _ ?_; clear hK K)
      refine wpStill_nil ?_
      go_wp2
      go_roundg (gk - 1)
      case measure => have := hm'.out; omega
      case rel =>
        have hm'' := hm'.out
        exact ⟨m + 1, by omega, by go_num, blk_congr (set_arr g0 m _) (fun i _ => fill_step f (xorI f g) m i), keep_arr g1 _ _ (by omega), keep_arr g2 _ _ (by omega), (hB.setCell (Nat.le_refl _) _).drew⟩
    · obtain rfl : m = 16 := by have := hm'.out; omega
      have g0' := blk_congr (f' := xorI f g) g0 (fun i hi => if_pos hi)
      clear g0
      go_wp2_with (first | (refine wpList_load_arr rfl rfl rfl RTBlock g0' ?_) | (refine wpList_store_arr rfl rfl rfl rfl RTBlock g2 ?_))
      exact bodyPost_ret (results_arr rfl rfl RTBlock (row_self g2)) rfl ⟨rfl, row_below hB (by omega) _⟩


theorem refBox_any (x : Int) (h0 : 0 ≤ x) (h1 : x < 256) (w : World) :
    Calls Try.prog 14 #[.int .u8 x] w fun e w' => e = .returned (.int .u8 (sboxI x.toNat)) ∧ Below w.heap.size w w' := by
  obtain ⟨n, rfl⟩ := Int.eq_ofNat_of_zero_le h0
  refine (refBox_nat n (by omega) w).mono ?_
  rintro e w' ⟨rfl, d, rfl⟩
  exact ⟨rfl, below_drewN (Below.refl _ _) d⟩
theorem Mul_two' (x : Int) (hx : 0 ≤ x ∧ x < 256) (w : World) :
    Calls Try.prog 12 #[.int .u8 2, .int .u8 x] w fun e w' => e = .returned (.int .u8 (twiceI x)) ∧ w = w' := by
  obtain ⟨n, rfl⟩ := Int.eq_ofNat_of_zero_le hx.1
  have := Mul_nat 2 n (by omega) (by omega) w
  rw [of_decide_eq_true (List.all_eq_true.1 mul2_ok n (List.mem_range.2 (by omega)))] at this
  exact this
theorem Mul_three (x : Int) (hx : 0 ≤ x ∧ x < 256) (w : World) :
    Calls Try.prog 12 #[.int .u8 3, .int .u8 x] w fun e w' => e = .returned (.int .u8 (bits .xor .u8 (twiceI x) x)) ∧ w = w' := by
  obtain ⟨n, rfl⟩ := Int.eq_ofNat_of_zero_le hx.1
  have := Mul_nat 3 n (by omega) (by omega) w
  rw [of_decide_eq_true (List.all_eq_true.1 mul3_ok n (List.mem_range.2 (by omega)))] at this
  exact this

set_option maxHeartbeats 1000000 in
theorem at_any (s : Nat → Int) (c r : Nat) (hc : c < 4) (hr : r < 8) (w : World) :
    Calls Try.prog 34 #[.agg (arr .u8 16 s), .int .i64 c, .int .i64 r] w fun e w' => e = .returned (.int .u8 (s (4 * c + r % 4))) ∧ Below w.heap.size w w' := by
  go_enter Try.func34, Try.ntmps34
  obtain ⟨g0, hz, hb0⟩ := alloc1 w (.cells (arr .u8 16 s) 23)
  have c0 := cell_arr g0 (4 * c + r % 4) (by omega)
  go_wp2
  go_ret
  exact ⟨rfl, hb0⟩

def bturnI (s : Nat → Int) (q : Nat) : Int := rowI s (q / 4) (q % 4)
set_option maxHeartbeats 1000000 in
theorem turned_any (s : Nat → Int) (hs : ∀ i, i < 16 → 0 ≤ s i ∧ s i < 256) (w : World) :
    Calls Try.prog 27 #[.agg (arr .u8 16 s)] w fun e w' => e = .returned (.agg (arr .u8 16 (bturnI s))) ∧ Below w.heap.size w w' := by
  go_enter Try.func27, Try.ntmps27
  go_wp2_with (refine wpList_alloc_arr rfl rfl ZTBlock ?_)
  obtain ⟨h0, h1, h2, hsz, hb⟩ := alloc3 w (.cells (arr .u8 16 s) 23) (.cells (arr .u8 16 fun _ => 0) 23) (.cells (arr .u8 16 fun _ => 0) 23)
  have hs' := Lib.hid hs
  clear hs
  go_loopg [6] 4 (fun n i wr => ∃ m : Nat, m + n = 4 ∧ i = .int .i64 m ∧ wr.heap[w.heap.size]? = some (.cells (arr .u8 16 s) 23 (0, 0)) ∧
    wr.heap[w.heap.size + 1]? = some (.cells (arr .u8 16 fun _ => 0) 23 (0, 0)) ∧ wr.heap[w.heap.size + 1 + 1]? = some (.cells (arr .u8 16 fun i => if i < 4 * m then bturnI s i else 0) 23 (0, 0)) ∧ Below w.heap.size w wr)
  case atStart => exact ⟨0, rfl, rfl, h0, h1, blk_congr h2 (fun i _ => (if_neg (by omega)).symm), hb⟩
  case round =>
    obtain ⟨m, hm, rfl, g0, g1, g2, hB⟩ := hrel
    obtain ⟨go1, rfl⟩ : ∃ x, x = gk := ⟨_, rfl⟩
    have hm' := Lib.hid hm
    clear h0 h1 h2 hsz hb hm
    by_cases hlt : m < 4
    · go_upto_region 5 with (fail)
      (try simp only [Act.put, List.setIfInBounds_toArray, List.set_cons_zero, List.set_cons_succ])
      rw [show decide ((m : Int) < 4) = true from decide_eq_true (by omega)]
      go_wp2
      go_loopg [9] 4 (fun n i wr => ∃ r : Nat, r + n = 4 ∧ i = .int .i64 r ∧ wr.heap[w.heap.size]? = some (.cells (arr .u8 16 s) 23 (0, 0)) ∧
        wr.heap[w.heap.size + 1]? = some (.cells (arr .u8 16 fun _ => 0) 23 (0, 0)) ∧ wr.heap[w.heap.size + 1 + 1]? = some (.cells (arr .u8 16 fun i => if i < 4 * m + r then bturnI s i else 0) 23 (0, 0)) ∧ Below w.heap.size w wr)
      case atStart => exact ⟨0, rfl, rfl, g0, g1, g2, hB⟩
      case round =>
        clear g0 g1 g2 hB
        obtain ⟨r, hr, rfl, g0, g1, g2, hB⟩ := hrel
        have hr' := Lib.hid hr
        clear hr
        by_cases hlr : r < 4
        · have hsb := hs'.out (4 * ((m + r) % 4) + r) (by omega)
          have c0 := cell_arr g0 (4 * ((m + r) % 4) + r) (by omega)
          go_wp2_with (fail)
          refine (refBox_any _ (by omega) (by omega) _).mono ?_
          rintro e w4 ⟨rfl, b4⟩
          have e0 := keep_below b4 (lt_of_block g0) g0
          have e1 := keep_below b4 (lt_of_block g1) g1
          have e2 := keep_below b4 (lt_of_block g2) g2
          have hBq := hB.trans (b4.mono hB.size)
          clear b4 g0 g1 g2 hB c0
          have c2 := cell_arr e2 (4 * m + r) (by omega)
          have fz := free_arr e2 (4 * m + r)
          simp only [Nat.lt_irrefl, if_false] at c2
          go_wp2
          go_roundg (gk - 1)
          case measure => have := hr'.out; omega
          case rel =>
            have hr'' := hr'.out
            refine ⟨r + 1, by omega, by go_num, keep_arr e0 _ _ (by omega), keep_arr e1 _ _ (by omega), blk_congr (set_arr e2 _ _) (fun i _ => ?_), hBq.setCell (by show w.heap.size ≤ w.heap.size + 1 + 1; omega) _⟩
            have := fill_zero (bturnI s) (4 * m + r) i
            rw [show bturnI s (4 * m + r) = sboxI (s (4 * ((m + r) % 4) + r)).toNat from by unfold bturnI rowI; rw [show (4 * m + r) / 4 = m from by omega, show (4 * m + r) % 4 = r from by omega]] at this
            exact this
        · obtain rfl : r = 4 := by have := hr'.out; omega
          go_wp2
          go_roundg (go1 - 1)
          case measure => have := hm'.out; omega
          case rel =>
            have hm'' := hm'.out
            exact ⟨m + 1, by omega, by go_num, g0, g1, blk_congr g2 (fun i _ => by rw [show 4 * (m + 1) = 4 * m + 4 from by omega]), hB⟩
    · obtain rfl : m = 4 := by have := hm'.out; omega
      have g2' := blk_congr (f' := bturnI s) g2 (fun i hi => if_pos (by omega))
      clear g2
      go_wp2_with (first | (refine wpList_load_arr rfl rfl rfl RTBlock g2' ?_) | (refine wpList_store_arr rfl rfl rfl rfl RTBlock g1 ?_))
      exact bodyPost_ret (results_arr rfl rfl RTBlock (row_self g1)) rfl ⟨rfl, row_below hB (by omega) _⟩
end Go.Proofs.Ytnckddjlpmkkgaa
