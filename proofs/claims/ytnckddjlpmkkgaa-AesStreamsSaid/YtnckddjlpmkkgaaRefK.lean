/- The walk of the reference for layer 4: a key's keys. -/
import Derived.Test.YtnckddjlpmkkgaaRefM
import Derived.Test.YtnckddjlpmkkgaaIdx
import Derived.Test.YtnckddjlpmkkgaaLawKeys
namespace Go.Proofs.Ytnckddjlpmkkgaa
set_option linter.unusedSimpArgs false
set_option linter.unusedVariables false
open Go.RowKit
attribute [local irreducible] sboxI mulN

def keyW (k : Nat → Int) (q : Nat) : Int := keyK k (q / 16) (q % 16)
theorem keyW_first (k : Nat → Int) (q : Nat) (h : q < 16) : keyW k q = k q := by
  unfold keyW
  rw [show q / 16 = 0 from by omega, show q % 16 = q from by omega]
  rfl
theorem keyW_byte (k : Nat → Int) (hk : ∀ i, i < 16 → 0 ≤ k i ∧ k i < 256) (q : Nat) : 0 ≤ keyW k q ∧ keyW k q < 256 := keyK_byte k hk _ _ (by omega)
/-- A word, as the reference adds it. -/
def wordT (k : Nat → Int) (i : Nat) : Nat → Int
  | 0 => bits .xor .u8 (sboxI (keyW k (4 * (i - 1) + 1)).toNat) (addK ((i - 1) / 4))
  | 1 => sboxI (keyW k (4 * (i - 1) + 2)).toNat
  | 2 => sboxI (keyW k (4 * (i - 1) + 3)).toNat
  | _ => sboxI (keyW k (4 * (i - 1))).toNat
theorem word_first (k : Nat → Int) (i n : Nat) (h4 : 4 ≤ i) (hi : i % 4 = 0) (hn : n < 4) : bits .xor .u8 (keyW k (4 * (i - 4) + n)) (wordT k i n) = keyW k (4 * i + n) := by
  obtain ⟨j, rfl⟩ : ∃ j, i = 4 * (j + 1) := ⟨i / 4 - 1, by omega⟩
  have e1 : keyW k (4 * (4 * (j + 1) - 4) + n) = keyK k j n := by
    unfold keyW; rw [show (4 * (4 * (j + 1) - 4) + n) / 16 = j from by omega, show (4 * (4 * (j + 1) - 4) + n) % 16 = n from by omega]
  have e2 : keyW k (4 * (4 * (j + 1)) + n) = nextKey (keyK k j) (addK j) n := by
    unfold keyW; rw [show (4 * (4 * (j + 1)) + n) / 16 = j + 1 from by omega, show (4 * (4 * (j + 1)) + n) % 16 = n from by omega]; rfl
  have e3 : ∀ m, m < 4 → keyW k (4 * (4 * (j + 1) - 1) + m) = keyK k j (12 + m) := fun m hm => by
    unfold keyW; rw [show (4 * (4 * (j + 1) - 1) + m) / 16 = j from by omega, show (4 * (4 * (j + 1) - 1) + m) % 16 = 12 + m from by omega]
  have e0 := e3 0 (by omega)
  rw [Nat.add_zero, Nat.add_zero] at e0
  rw [e1, e2]
  have h : n = 0 ∨ n = 1 ∨ n = 2 ∨ n = 3 := by omega
  rcases h with rfl | rfl | rfl | rfl
  · unfold wordT nextKey; rw [e3 1 (by omega), show (4 * (j + 1) - 1) / 4 = j from by omega, bx_comm (addK j)]; rfl
  · unfold wordT nextKey; rw [e3 2 (by omega)]; rfl
  · unfold wordT nextKey; rw [e3 3 (by omega)]; rfl
  · unfold wordT nextKey; rw [e0]; rfl
theorem word_later (k : Nat → Int) (i n : Nat) (h4 : 4 ≤ i) (hi : i % 4 ≠ 0) (hn : n < 4) : bits .xor .u8 (keyW k (4 * (i - 4) + n)) (keyW k (4 * (i - 1) + n)) = keyW k (4 * i + n) := by
  obtain ⟨j, c, rfl, hc0, hc⟩ : ∃ j c, i = 4 * (j + 1) + c ∧ 0 < c ∧ c < 4 := ⟨i / 4 - 1, i % 4, by omega, by omega, by omega⟩
  unfold keyW
  rw [show (4 * (4 * (j + 1) + c - 4) + n) / 16 = j from by omega, show (4 * (4 * (j + 1) + c - 4) + n) % 16 = 4 * c + n from by omega]
  rw [show (4 * (4 * (j + 1) + c - 1) + n) / 16 = j + 1 from by omega, show (4 * (4 * (j + 1) + c - 1) + n) % 16 = 4 * c + n - 4 from by omega]
  rw [show (4 * (4 * (j + 1) + c) + n) / 16 = j + 1 from by omega, show (4 * (4 * (j + 1) + c) + n) % 16 = 4 * c + n from by omega]
  exact (nextKey_step (keyK k j) (addK j) (4 * c + n) (by omega)).symm
theorem word_add (k : Nat → Int) (i : Nat) (h4 : 4 ≤ i) : (i % 4 = 0 → twiceI (addK ((i - 1) / 4)) = addK ((i + 1 - 1) / 4)) ∧ (i % 4 ≠ 0 → addK ((i - 1) / 4) = addK ((i + 1 - 1) / 4)) := by
  constructor
  · intro h
    rw [show (i + 1 - 1) / 4 = (i - 1) / 4 + 1 from by omega]
    rfl
  · intro h
    rw [show (i + 1 - 1) / 4 = (i - 1) / 4 from by omega]

theorem RTWords : RowT Try.prog 55 176 := ⟨_, Try.underlying55, rfl, by kernel_rfl⟩
theorem ZTWords : ZeroT Try.prog 55 .u8 176 := by unfold ZeroT; kernel_rfl
theorem built_col (g : Nat → Int) : Try.prog.built 54 [(0, .int .u8 (g 0)), (1, .int .u8 (g 1)), (2, .int .u8 (g 2)), (3, .int .u8 (g 3))] = some (arr .u8 4 g) := by kernel_rfl
theorem SZCol : (Try.prog.info? 54).map (·.size) = some 4 := by kernel_rfl
/-- One word of four bytes more. -/
theorem words_step (g : Nat → Int) (m i : Nat) (c : Nat → Int) (hc : ∀ r, r < 4 → c r = g (4 * m + r)) : patch (fun i => if i < 4 * m then g i else 0) (m * 4) 4 c i = if i < 4 * (m + 1) then g i else 0 := by
  unfold patch
  by_cases h : m * 4 ≤ i ∧ i < m * 4 + 4
  · rw [if_pos h, if_pos (by omega), hc _ (by omega), show 4 * m + (i - m * 4) = i from by omega]
  · rw [if_neg h]
    by_cases h2 : i < 4 * m
    · rw [if_pos (show i < 4 * (m + 1) by omega)]; exact if_pos h2
    · rw [if_neg (show ¬ i < 4 * (m + 1) by omega)]; exact if_neg h2
set_option maxRecDepth 100000 in
set_option maxHeartbeats 1000000 in
theorem refKeys_any (k : Nat → Int) (hk : ∀ i, i < 16 → 0 ≤ k i ∧ k i < 256) (w : World) :
    Calls Try.prog 15 #[.agg (arr .u8 16 k)] w fun e w' => e = .returned (.agg (arr .u8 176 fun i => keyK k (i / 16) (i % 16))) ∧ Below w.heap.size w w' := by
  go_enter Try.func15, Try.ntmps15
  obtain ⟨h0, h1, h2, hsz, hb⟩ := alloc3 w (.cells (arr .u8 16 k) 23) (.cells (arr .u8 176 fun _ => 0) 25) (.cells (arr .u8 176 fun _ => 0) 55)
  go_wp2_with (first | (refine wpList_alloc_arr rfl rfl ZTKeys ?_) | (refine wpList_alloc_arr rfl rfl ZTWords ?_))
  go_loopg [14] 4 (fun n i wr => ∃ m : Nat, m + n = 4 ∧ i = .int .i64 m ∧ wr.heap[w.heap.size]? = some (.cells (arr .u8 16 k) 23 (0, 0)) ∧
    wr.heap[w.heap.size + 1]? = some (.cells (arr .u8 176 fun _ => 0) 25 (0, 0)) ∧ wr.heap[w.heap.size + 1 + 1]? = some (.cells (arr .u8 176 fun i => if i < 4 * m then keyW k i else 0) 55 (0, 0)) ∧ Below w.heap.size w wr)
  case atStart => exact ⟨0, rfl, rfl, h0, h1, blk_congr h2 (fun i _ => (if_neg (by omega)).symm), hb⟩
  case round =>
    obtain ⟨m, hm, rfl, g0, g1, g2, hB⟩ := hrel
    have hm' := Lib.hid hm
    clear h0 h1 h2 hsz hb hm
    by_cases hlt : m < 4
    · have c0 := cell_arr g0 (4 * m) (by omega)
      have c1 := cell_arr g0 (4 * m + 1) (by omega)
      have c2 := cell_arr g0 (4 * m + 2) (by omega)
      have c3 := cell_arr g0 (4 * m + 3) (by omega)
      go_wp2
      refine wp_region_tail 22 (by kernel_rfl) (by kernel_rfl) ?_
      (simp only [List.take_succ_cons, List.take_zero, List.drop_succ_cons, List.drop_zero])
      iterate 20 (refine wpStill_step (fun K hK => ?_); go_simp; (try (simp only [↓IntWalk.iteOmega]; go_simp)); (try go_bits); refine hK _ ?_; clear hK K)
      refine wpStill_val rfl (run_op_build rfl (by simp [Act.eval]) (built_col (fun i => k (4 * m + i)))) ?_
      (try simp only [Act.put, List.setIfInBounds_toArray, List.set_cons_zero, List.set_cons_succ])
      iterate 1 (refine wpStill_step (fun K hK => ?_); go_simp; (try (simp only [↓IntWalk.iteOmega]; go_simp)); (try go_bits); refine hK _ ?_; clear hK K)
      refine wpStill_nil ?_
      refine wpList_store_sub (f' := fun i => k (4 * m + i)) rfl rfl rfl rfl RTCol (w := wr.drew) g2 (by omega) ?_
      have e2 := blk_congr (f' := fun i => if i < 4 * (m + 1) then keyW k i else 0) (row_self (w := wr.drew) (c' := arr .u8 176 (patch (fun i => if i < 4 * m then keyW k i else 0) (m * 4) 4 fun i => k (4 * m + i))) g2) (fun i _ => words_step (keyW k) m i (fun i => k (4 * m + i)) (fun r hr => (keyW_first k _ (by omega)).symm))
      go_wp2
      go_roundg (gk - 1)
      case measure => have := hm'.out; omega
      case rel =>
        have hm'' := hm'.out
        exact ⟨m + 1, by omega, by go_num, row_keep (w := wr.drew) g0 (by omega), row_keep (w := wr.drew) g1 (by omega), e2, row_below hB.drew (by omega) _⟩
    · obtain rfl : m = 4 := by have := hm'.out; omega
      clear hm' hlt
      go_wp2
      try rw [show ((4 : Nat) : Int) = 4 from rfl]
      go_loopg [5, 6] 40 (fun n r x wr => ∃ i : Nat, 4 ≤ i ∧ i + n = 44 ∧ r = .int .u8 (addK ((i - 1) / 4)) ∧ x = .int .i64 i ∧ wr.heap[w.heap.size]? = some (.cells (arr .u8 16 k) 23 (0, 0)) ∧
        wr.heap[w.heap.size + 1]? = some (.cells (arr .u8 176 fun _ => 0) 25 (0, 0)) ∧ wr.heap[w.heap.size + 1 + 1]? = some (.cells (arr .u8 176 fun q => if q < 4 * i then keyW k q else 0) 55 (0, 0)) ∧ Below w.heap.size w wr)
      case atStart => exact ⟨4, by omega, rfl, rfl, rfl, g0, g1, g2, hB⟩
      case round =>
        clear g0 g1 g2 hB
        obtain ⟨i, h4, hi, rfl, rfl, g0, g1, g2, hB⟩ := hrel
        obtain ⟨go1, rfl⟩ : ∃ x, x = gk := ⟨_, rfl⟩
        have hi' := Lib.hid hi
        clear hi
        by_cases hlt : i < 44
        · go_upto_region 12 with (first | (refine wpList_new_arr rfl rfl rfl rfl ZTCol RTCol rfl rfl ?_; intro w5 q3 hb5 hs5) | (refine wpList_load_as (off := (i - 1) * 4) (fun n => keyW k (4 * (i - 1) + n)) rfl rfl rfl RTCol g2 (by omega) (fun n hn => by rw [if_pos (by omega), show (i - 1) * 4 + n = 4 * (i - 1) + n from by omega]) ?_))
          have q0 := keep_below hb5 (lt_of_block g0) g0
          have q1 := keep_below hb5 (lt_of_block g1) g1
          have q2 := keep_below hb5 (lt_of_block g2) g2
          have hBq := hB.trans (hb5.mono hB.size)
          have hl0 := lt_of_block g0
          have hl1 := lt_of_block g1
          have hl2 := lt_of_block g2
          have hlB := lt_of_block q3
          clear hb5 hs5 g0 g1 g2 hB
          generalize wr.heap.size = B at *
          (try simp only [Act.put, List.setIfInBounds_toArray, List.set_cons_zero, List.set_cons_succ])
          by_cases hc : i % 4 = 0
          · go_upto_region 13 with (fail)
            (try simp only [Act.put, List.setIfInBounds_toArray, List.set_cons_zero, List.set_cons_succ])
            rw [show decide ((i : Int) < 44) = true from decide_eq_true (by omega), show ((i : Int) % 4 == 0) = true from beq_iff_eq.2 (by omega)]
            have c0 := cell_arr q3 0 (by omega)
            have c1 := cell_arr q3 1 (by omega)
            have c2 := cell_arr q3 2 (by omega)
            have c3 := cell_arr q3 3 (by omega)
            rw [Nat.add_zero] at c0
            have k0 := keyW_byte k hk (4 * (i - 1))
            have k1 := keyW_byte k hk (4 * (i - 1) + 1)
            have k2 := keyW_byte k hk (4 * (i - 1) + 2)
            have k3 := keyW_byte k hk (4 * (i - 1) + 3)
            refine wp_region_can w5.heap.size 15 [(0, false), (1, false), (3, false), (5, false), (6, false), (8, false), (9, false), (11, false), (12, false), (2, true), (4, false), (7, true), (10, true), (13, true), (14, false)] (by kernel_rfl) (by kernel_rfl) ?_
            (simp only [canOps, List.getElem?_cons_zero, List.getElem?_cons_succ, List.drop_succ_cons, List.drop_zero])
            iterate 9 (first | (refine wpCan_move rfl rfl (fun _ _ _ _ h => h) ?_; (simp only [Act.put, Act.eval, Array.getD_eq_getD_getElem?, List.getElem?_toArray, List.getElem?_cons_zero, List.getElem?_cons_succ, Option.getD_some, List.setIfInBounds_toArray, List.set_cons_zero, List.set_cons_succ])) | (refine wpCan_assign rfl rfl (fun _ _ _ _ h => h) ?_; (simp only [Act.put, Act.eval, Array.getD_eq_getD_getElem?, List.getElem?_toArray, List.getElem?_cons_zero, List.getElem?_cons_succ, Option.getD_some, List.setIfInBounds_toArray, List.set_cons_zero, List.set_cons_succ])) | (refine wpCan_nilCheck rfl rfl rfl (fun _ _ _ _ h => h) ?_; (simp only [Act.put, List.setIfInBounds_toArray, List.set_cons_zero, List.set_cons_succ])) | (refine wpCan_q rfl rfl (fun _ _ _ _ h => h) (by first | exact .bin rfl rfl rfl | exact .indexAddr rfl | exact .un rfl | exact .extract rfl | exact .index rfl | exact .field rfl | exact .slice rfl | exact .load rfl rfl hlB q3) (fun K hK => ?_); go_simp; (try (simp only [↓IntWalk.iteOmega]; go_simp)); (try go_bits); refine hK _ ?_; clear hK K))
            refine wpCan_e rfl (fun K hK => ?_)
            go_simp
            refine (refBox_any _ k1.1 k1.2 _).mono ?_
            rintro e w6 ⟨rfl, b6⟩
            refine hK _ _ (Keep.of_below b6 (Nat.le_refl _)) ?_
            clear hK K
            (try simp only [Act.put, List.setIfInBounds_toArray, List.set_cons_zero, List.set_cons_succ])
            (first | (refine wpCan_move rfl rfl (fun _ _ _ _ h => h) ?_; (simp only [Act.put, Act.eval, Array.getD_eq_getD_getElem?, List.getElem?_toArray, List.getElem?_cons_zero, List.getElem?_cons_succ, Option.getD_some, List.setIfInBounds_toArray, List.set_cons_zero, List.set_cons_succ])) | (refine wpCan_assign rfl rfl (fun _ _ _ _ h => h) ?_; (simp only [Act.put, Act.eval, Array.getD_eq_getD_getElem?, List.getElem?_toArray, List.getElem?_cons_zero, List.getElem?_cons_succ, Option.getD_some, List.setIfInBounds_toArray, List.set_cons_zero, List.set_cons_succ])) | (refine wpCan_nilCheck rfl rfl rfl (fun _ _ _ _ h => h) ?_; (simp only [Act.put, List.setIfInBounds_toArray, List.set_cons_zero, List.set_cons_succ])) | (refine wpCan_q rfl rfl (fun _ _ _ _ h => h) (by first | exact .bin rfl rfl rfl | exact .indexAddr rfl | exact .un rfl | exact .extract rfl | exact .index rfl | exact .field rfl | exact .slice rfl) (fun K hK => ?_); go_simp; (try (simp only [↓IntWalk.iteOmega]; go_simp)); (try go_bits); refine hK _ ?_; clear hK K))
            refine wpCan_e rfl (fun K hK => ?_)
            go_simp
            refine (refBox_any _ k2.1 k2.2 _).mono ?_
            rintro e w7 ⟨rfl, b7⟩
            refine hK _ _ (Keep.of_below b7 b6.size) ?_
            clear hK K
            (try simp only [Act.put, List.setIfInBounds_toArray, List.set_cons_zero, List.set_cons_succ])
            refine wpCan_e rfl (fun K hK => ?_)
            go_simp
            refine (refBox_any _ k3.1 k3.2 _).mono ?_
            rintro e w8 ⟨rfl, b8w⟩
            refine hK _ _ (Keep.of_below b8w (Nat.le_trans b6.size b7.size)) ?_
            clear hK K
            (try simp only [Act.put, List.setIfInBounds_toArray, List.set_cons_zero, List.set_cons_succ])
            refine wpCan_e rfl (fun K hK => ?_)
            go_simp
            refine (refBox_any _ k0.1 k0.2 _).mono ?_
            rintro e w9 ⟨rfl, b9⟩
            refine hK _ _ (Keep.of_below b9 (Nat.le_trans b6.size (Nat.le_trans b7.size b8w.size))) ?_
            clear hK K
            (try simp only [Act.put, List.setIfInBounds_toArray, List.set_cons_zero, List.set_cons_succ])
            refine wpCan_all rfl (fun _ _ _ _ h => h) (fun w' => run_op_build rfl (by simp [Act.eval, wordT]) (built_col (wordT k i))) ?_
            (try simp only [Act.put, List.setIfInBounds_toArray, List.set_cons_zero, List.set_cons_succ])
            refine wpCan_nil ?_
            have b10 := b6.trans (b7.mono b6.size)
            have b11 := b10.trans (b8w.mono b10.size)
            have b12 := b11.trans (b9.mono b11.size)
            have e3 := keep_below (w := w5.drew) b12 hlB q3
            have l0 := lt_of_block q0
            have l1 := lt_of_block q1
            have l2 := lt_of_block q2
            have e0 := row_keep (w := w9) (c' := arr .u8 4 (wordT k i)) (g := B) (keep_below (w := w5.drew) b12 l0 q0) (by omega)
            have e1 := row_keep (w := w9) (c' := arr .u8 4 (wordT k i)) (g := B) (keep_below (w := w5.drew) b12 l1 q1) (by omega)
            have e2 := row_keep (w := w9) (c' := arr .u8 4 (wordT k i)) (g := B) (keep_below (w := w5.drew) b12 l2 q2) (by omega)
            have e4 := row_self (w := w9) (c' := arr .u8 4 (wordT k i)) e3
            have hBe := row_below (hBq.drew.trans (b12.mono hBq.size)) (g := B) (by omega) (arr .u8 4 (wordT k i))
            clear c0 c1 c2 c3 k0 k1 k2 k3 b6 b7 b8w b9 b10 b11 b12 q0 q1 q2 q3 hBq hlB l0 l1 l2
            have ab := addK_byte ((i - 1) / 4)
            refine wpList_store_arr rfl rfl rfl rfl RTCol e3 ?_
            clear e3
            generalize w9.setRow B (arr .u8 4 (wordT k i)) = wr at *
            have q0 := e0
            have q1 := e1
            have q2 := e2
            have q3 := e4
            have hBq := hBe
            clear e0 e1 e2 e4 hBe
            go_wp2_with (go_at_call 12; (with_reducible refine (Mul_two _ (by omega) (by omega) _).mono ?_); rintro e w' ⟨rfl, rfl⟩)
            go_loopg [68] 4 (fun n x wr => ∃ m : Nat, m + n = 4 ∧ x = .int .i64 m ∧ wr.heap[w.heap.size]? = some (.cells (arr .u8 16 k) 23 (0, 0)) ∧
              wr.heap[w.heap.size + 1]? = some (.cells (arr .u8 176 fun _ => 0) 25 (0, 0)) ∧ wr.heap[w.heap.size + 1 + 1]? = some (.cells (arr .u8 176 fun q => if q < 4 * i + m then keyW k q else 0) 55 (0, 0)) ∧
              wr.heap[B]? = some (.cells (arr .u8 4 (wordT k i)) 54 (0, 0)) ∧ Below w.heap.size w wr)
            case atStart => exact ⟨0, rfl, rfl, q0, q1, q2, q3, hBq⟩
            case round =>
              clear q0 q1 q2 q3 hBq
              obtain ⟨m, hm, rfl, q0, q1, q2, q3, hBq⟩ := hrel
              have hm' := Lib.hid hm
              clear hm
              by_cases hlm : m < 4
              · have c1 := cell_arr q2 ((i - 4) * 4 + m) (by omega)
                have c2 := cell_arr q3 m hlm
                have c3 := cell_arr q2 (i * 4 + m) (by omega)
                have fz := free_arr q2 (i * 4 + m)
                simp only [if_pos (show (i - 4) * 4 + m < 4 * i + m from by omega)] at c1
                simp only [if_neg (show ¬ i * 4 + m < 4 * i + m from by omega)] at c3
                go_wp2
                refine wp_region_tail 14 (by kernel_rfl) (by kernel_rfl) ?_
                (simp only [List.take_succ_cons, List.take_zero, List.drop_succ_cons, List.drop_zero])
                repeat (refine wpStill_step (fun K hK => ?_); go_simp; (try (simp only [↓IntWalk.iteOmega]; go_simp)); (try go_bits); refine hK _ ?_; clear hK K)
                refine wpStill_nil ?_
                go_wp2
                go_roundg (gk - 1)
                case measure => have := hm'.out; omega
                case rel =>
                  have hm'' := hm'.out
                  refine ⟨m + 1, by omega, by go_num, keep_arr q0 _ _ (by omega), keep_arr q1 _ _ (by omega), blk_congr (set_arr q2 _ _) (fun q _ => ?_), keep_arr q3 _ _ (by omega), (hBq.setCell (by show w.heap.size ≤ w.heap.size + 1 + 1; omega) _).drew⟩
                  have e := fill_zero (keyW k) (4 * i + m) q
                  rw [← word_first k i m h4 hc hlm] at e
                  rw [show (i - 4) * 4 + m = 4 * (i - 4) + m from by omega, show i * 4 + m = 4 * i + m from by omega]
                  exact e
              · obtain rfl : m = 4 := by have := hm'.out; omega
                go_wp2
                go_roundg (go1 - 1)
                case measure => have := hi'.out; omega
                case rel =>
                  have hi'' := hi'.out
                  refine ⟨i + 1, by omega, by omega, ?_, by go_num, q0, q1, blk_congr q2 (fun q _ => by rw [show 4 * (i + 1) = 4 * i + 4 from by omega]), hBq⟩
                  rw [(word_add k i h4).1 hc]
          · go_upto_region 15 with (fail)
            (try simp only [Act.put, List.setIfInBounds_toArray, List.set_cons_zero, List.set_cons_succ])
            rw [show decide ((i : Int) < 44) = true from decide_eq_true (by omega), show ((i : Int) % 4 == 0) = false from by rw [beq_eq_false_iff_ne]; omega]
            generalize w5 = wr at *
            go_wp2
            go_loopg [68] 4 (fun n x wr => ∃ m : Nat, m + n = 4 ∧ x = .int .i64 m ∧ wr.heap[w.heap.size]? = some (.cells (arr .u8 16 k) 23 (0, 0)) ∧
              wr.heap[w.heap.size + 1]? = some (.cells (arr .u8 176 fun _ => 0) 25 (0, 0)) ∧ wr.heap[w.heap.size + 1 + 1]? = some (.cells (arr .u8 176 fun q => if q < 4 * i + m then keyW k q else 0) 55 (0, 0)) ∧
              wr.heap[B]? = some (.cells (arr .u8 4 (fun n => keyW k (4 * (i - 1) + n))) 54 (0, 0)) ∧ Below w.heap.size w wr)
            case atStart => exact ⟨0, rfl, rfl, q0, q1, q2, q3, hBq⟩
            case round =>
              clear q0 q1 q2 q3 hBq
              obtain ⟨m, hm, rfl, q0, q1, q2, q3, hBq⟩ := hrel
              have hm' := Lib.hid hm
              clear hm
              by_cases hlm : m < 4
              · have c1 := cell_arr q2 ((i - 4) * 4 + m) (by omega)
                have c2 := cell_arr q3 m hlm
                have c3 := cell_arr q2 (i * 4 + m) (by omega)
                have fz := free_arr q2 (i * 4 + m)
                simp only [if_pos (show (i - 4) * 4 + m < 4 * i + m from by omega)] at c1
                simp only [if_neg (show ¬ i * 4 + m < 4 * i + m from by omega)] at c3
                go_wp2
                refine wp_region_tail 14 (by kernel_rfl) (by kernel_rfl) ?_
                (simp only [List.take_succ_cons, List.take_zero, List.drop_succ_cons, List.drop_zero])
                repeat (refine wpStill_step (fun K hK => ?_); go_simp; (try (simp only [↓IntWalk.iteOmega]; go_simp)); (try go_bits); refine hK _ ?_; clear hK K)
                refine wpStill_nil ?_
                go_wp2
                go_roundg (gk - 1)
                case measure => have := hm'.out; omega
                case rel =>
                  have hm'' := hm'.out
                  refine ⟨m + 1, by omega, by go_num, keep_arr q0 _ _ (by omega), keep_arr q1 _ _ (by omega), blk_congr (set_arr q2 _ _) (fun q _ => ?_), keep_arr q3 _ _ (by omega), (hBq.setCell (by show w.heap.size ≤ w.heap.size + 1 + 1; omega) _).drew⟩
                  have e := fill_zero (keyW k) (4 * i + m) q
                  rw [← word_later k i m h4 hc hlm] at e
                  rw [show (i - 4) * 4 + m = 4 * (i - 4) + m from by omega, show i * 4 + m = 4 * i + m from by omega]
                  exact e
              · obtain rfl : m = 4 := by have := hm'.out; omega
                go_wp2
                go_roundg (go1 - 1)
                case measure => have := hi'.out; omega
                case rel =>
                  have hi'' := hi'.out
                  refine ⟨i + 1, by omega, by omega, ?_, by go_num, q0, q1, blk_congr q2 (fun q _ => by rw [show 4 * (i + 1) = 4 * i + 4 from by omega]), hBq⟩
                  rw [(word_add k i h4).2 hc]
        · obtain rfl : i = 44 := by have := hi'.out; omega
          clear hi' hlt h4
          have p2 := blk_congr (f' := keyW k) g2 (fun q hq => if_pos (by omega))
          clear g2
          go_upto_region 21 with (refine wpList_alloc_arr rfl rfl ZTKeys ?_)
          have bl := (alloc1 wr (.cells (arr .u8 176 fun _ => 0) 25)).2.2
          have q3 := heap_alloc_new wr (.cells (arr .u8 176 fun _ => 0) 25)
          have q1 := keep_below bl (lt_of_block g1) g1
          have q2 := keep_below bl (lt_of_block p2) p2
          have hBq := hB.trans (bl.mono hB.size)
          have hl1 := lt_of_block g1
          have hl2 := lt_of_block p2
          clear bl g0 g1 p2 hB
          generalize wr.alloc (.cells (arr .u8 176 fun _ => 0) 25) = w4 at *
          generalize wr.heap.size = B at *
          (try simp only [Act.put, List.setIfInBounds_toArray, List.set_cons_zero, List.set_cons_succ])
          try rw [show ((44 : Nat) : Int) = 44 from rfl]
          go_wp2_with (refine wpList_load_arr rfl rfl rfl RTWords q2 ?_)
          go_loopg [87] 44 (fun n x wr => ∃ i : Nat, i + n = 44 ∧ x = .int .i64 i ∧
            wr.heap[w.heap.size + 1]? = some (.cells (arr .u8 176 fun _ => 0) 25 (0, 0)) ∧ wr.heap[B]? = some (.cells (arr .u8 176 fun q => if q < 4 * i then keyW k q else 0) 25 (0, 0)) ∧ Below w.heap.size w wr)
          case atStart => exact ⟨0, rfl, rfl, q1, blk_congr q3 (fun q _ => (if_neg (by omega)).symm), hBq⟩
          case round =>
            clear q1 q2 q3 hBq
            obtain ⟨i, hi, rfl, g1, g3, hB⟩ := hrel
            obtain ⟨go2, rfl⟩ : ∃ x, x = gk := ⟨_, rfl⟩
            have hi' := Lib.hid hi
            clear hi
            by_cases hlt : i < 44
            · go_upto_region 24 with (first | (refine wpList_index_row rfl rfl Try.underlying55 RTCol rfl rfl (by omega) (by omega) (by omega) (fun n => keyW k (4 * i + n)) (fun n hn => by congr 1; omega) ?_) | (refine wpList_alloc_arr rfl rfl ZTCol ?_) | (refine wpList_store_arr rfl rfl rfl rfl RTCol (heap_alloc_new _ _) ?_))
              obtain ⟨q4, bl, hs4⟩ := new_arr_world wr 54 4 .u8 (fun n => keyW k (4 * i + n))
              have q1 := keep_below bl (lt_of_block g1) g1
              have q3 := keep_below bl (lt_of_block g3) g3
              have hBq := hB.trans (bl.mono hB.size)
              have hl3 := lt_of_block g3
              clear bl g1 g3 hB hs4
              generalize (wr.alloc (.cells (arr .u8 4 fun _ => 0) 54)).setRow wr.heap.size (arr .u8 4 (fun n => keyW k (4 * i + n))) = w5 at *
              generalize wr.heap.size = B4 at *
              (try simp only [Act.put, List.setIfInBounds_toArray, List.set_cons_zero, List.set_cons_succ])
              try rw [show decide ((i : Int) < 44) = true from decide_eq_true (by omega)]
              go_wp2_with (refine wpList_load_arr rfl rfl rfl RTCol q4 ?_)
              go_loopg [92] 4 (fun n x wr => ∃ m : Nat, m + n = 4 ∧ x = .int .i64 m ∧
                wr.heap[w.heap.size + 1]? = some (.cells (arr .u8 176 fun _ => 0) 25 (0, 0)) ∧ wr.heap[B]? = some (.cells (arr .u8 176 fun q => if q < 4 * i + m then keyW k q else 0) 25 (0, 0)) ∧ Below w.heap.size w wr)
              case atStart => exact ⟨0, rfl, rfl, q1, q3, hBq⟩
              case round =>
                clear q1 q3 q4 hBq
                obtain ⟨m, hm, rfl, q1, q3, hBq⟩ := hrel
                have hm' := Lib.hid hm
                clear hm
                by_cases hlm : m < 4
                · have c3 := cell_arr q3 (i / 4 * 16 + (4 * (i % 4) + m)) (by omega)
                  have fz := free_arr q3 (i / 4 * 16 + (4 * (i % 4) + m))
                  simp only [if_neg (show ¬ i / 4 * 16 + (4 * (i % 4) + m) < 4 * i + m from by omega)] at c3
                  go_wp2_with (refine wpList_index_cell rfl rfl Try.underlying54 Try.underlying5 rfl SZByte rfl rfl (by omega) (by omega) (by omega) ?_)
                  go_roundg (gk - 1)
                  case measure => have := hm'.out; omega
                  case rel =>
                    have hm'' := hm'.out
                    refine ⟨m + 1, by omega, by go_num, keep_arr q1 _ _ (by omega), blk_congr (set_arr q3 _ _) (fun q _ => ?_), hBq.setCell (by show w.heap.size ≤ B; omega) _⟩
                    have e := fill_zero (keyW k) (4 * i + m) q
                    rw [show i / 4 * 16 + (4 * (i % 4) + m) = 4 * i + m from by omega]
                    exact e
                · obtain rfl : m = 4 := by have := hm'.out; omega
                  go_wp2
                  go_roundg (go2 - 1)
                  case measure => have := hi'.out; omega
                  case rel =>
                    have hi'' := hi'.out
                    exact ⟨i + 1, by omega, by go_num, q1, blk_congr q3 (fun q _ => by rw [show 4 * (i + 1) = 4 * i + 4 from by omega]), hBq⟩
            · obtain rfl : i = 44 := by have := hi'.out; omega
              have p3 := blk_congr (f' := keyW k) g3 (fun q hq => if_pos (by omega))
              go_wp2_with (first | (refine wpList_load_arr rfl rfl rfl RTKeys p3 ?_) | (refine wpList_store_arr rfl rfl rfl rfl RTKeys g1 ?_))
              exact bodyPost_ret (results_arr rfl rfl RTKeys (row_self g1)) rfl ⟨rfl, row_below hB (by omega) _⟩
end Go.Proofs.Ytnckddjlpmkkgaa
