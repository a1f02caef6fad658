/- The walks of layer 5: a number of bytes. -/
import Derived.Test.YthgjhipfgdlbnaaFeY
namespace Go.Proofs.Ythgjhipfgdlbnaa
set_option linter.unusedSimpArgs false
set_option linter.unusedVariables false
open Go.RowKit

/-- What the first k bytes stand for. -/
def kvN (b : Nat → Nat) : Nat → Nat
  | 0 => 0
  | k + 1 => kvN b k + b k * 2 ^ (8 * k)
theorem kvN_succ (b : Nat → Nat) (k : Nat) : kvN b (k + 1) = kvN b k + b k * 2 ^ (8 * k) := rfl
theorem kvN_lt (b : Nat → Nat) (n : Nat) (hb : ∀ i, i < n → b i < 256) : ∀ k, k ≤ n → kvN b k < 2 ^ (8 * k)
  | 0, _ => by unfold kvN; decide
  | k + 1, h => by
    have h1 := kvN_lt b n hb k (by omega)
    have h2 : b k + 1 ≤ 256 := hb k (by omega)
    have h3 := Nat.mul_le_mul_right (2 ^ (8 * k)) h2
    rw [kvN_succ, show 8 * (k + 1) = 8 + 8 * k from by omega, Nat.pow_add]
    rw [Nat.add_mul] at h3
    have : (2 : Nat) ^ 8 = 256 := by decide
    rw [this]
    omega
theorem kv_zero (b : Nat → Nat) (i k : Nat) (hk : kvN b k < 2 ^ (8 * k)) (h : 8 * k ≤ 51 * i) : kvN b k / 2 ^ (51 * i) = 0 :=
  Nat.div_eq_of_lt (Nat.lt_of_lt_of_le hk (Nat.pow_le_pow_right (by omega) h))
theorem of_low (b : Nat → Nat) (i k : Nat) (hk : kvN b k < 2 ^ (8 * k)) (h : 8 * k < 51 * i) : b k / 2 ^ (51 * i - 8 * k) = kvN b (k + 1) / 2 ^ (51 * i) := by
  obtain ⟨t, ht⟩ : ∃ t, 51 * i = 8 * k + t := ⟨51 * i - 8 * k, by omega⟩
  rw [show 51 * i - 8 * k = t from by omega, ht, Nat.pow_add, ← Nat.div_div_eq_div_mul, kvN_succ, Nat.mul_comm (b k), Nat.add_mul_div_left _ _ (Nat.two_pow_pos _), Nat.div_eq_of_lt hk, Nat.zero_add]
theorem of_high (b : Nat → Nat) (i k : Nat) (hk : kvN b k < 2 ^ (8 * k)) (h : 51 * i ≤ 8 * k) : (kvN b k / 2 ^ (51 * i)) ||| (b k * 2 ^ (8 * k - 51 * i)) = kvN b (k + 1) / 2 ^ (51 * i) := by
  obtain ⟨t, ht⟩ : ∃ t, 8 * k = 51 * i + t := ⟨8 * k - 51 * i, by omega⟩
  have ha : kvN b k / 2 ^ (51 * i) < 2 ^ t := by
    rw [Nat.div_lt_iff_lt_mul (Nat.two_pow_pos _), ← Nat.pow_add, show t + 51 * i = 8 * k from by omega]; exact hk
  rw [show 8 * k - 51 * i = t from by omega, or_low _ _ _ ha, kvN_succ, ht, Nat.pow_add, show b k * (2 ^ (51 * i) * 2 ^ t) = 2 ^ (51 * i) * (b k * 2 ^ t) from by rw [Nat.mul_left_comm], Nat.add_mul_div_left _ _ (Nat.two_pow_pos _)]
theorem of_done (b : Nat → Nat) (i k : Nat) (h : 51 * i + 51 ≤ 8 * k) : ∀ d, kvN b (k + d) / 2 ^ (51 * i) % 2251799813685248 = kvN b k / 2 ^ (51 * i) % 2251799813685248
  | 0 => rfl
  | d + 1 => by
    rw [show k + (d + 1) = k + d + 1 from by omega, kvN_succ, ← of_done b i k h d]
    obtain ⟨t, ht⟩ : ∃ t, 8 * (k + d) = 51 * i + (51 + t) := ⟨8 * (k + d) - 51 * i - 51, by omega⟩
    rw [ht, Nat.pow_add, show b (k + d) * (2 ^ (51 * i) * 2 ^ (51 + t)) = 2 ^ (51 * i) * (b (k + d) * 2 ^ (51 + t)) from by rw [Nat.mul_left_comm], Nat.add_mul_div_left _ _ (Nat.two_pow_pos _)]
    rw [Nat.pow_add, show b (k + d) * (2 ^ 51 * 2 ^ t) = 2251799813685248 * (b (k + d) * 2 ^ t) from by rw [show (2 : Nat) ^ 51 = 2251799813685248 from by decide, Nat.mul_left_comm], Nat.add_mul_mod_self_left]
def ofN (b : Nat → Nat) (i : Nat) : Nat := kvN b 32 / 2 ^ (51 * i) % 2251799813685248
def midO (b : Nat → Nat) (m k q : Nat) : Nat := if q = m then kvN b k / 2 ^ (51 * m) else if q < m then ofN b q else 0
theorem and_mask1 (a : Nat) (h : a < 18446744073709551616) : bits .and .u64 (a : Int) 2251799813685247 = ((a % 2251799813685248 : Nat) : Int) := and_mask a 0 (by omega)
theorem kv_small (b : Nat → Nat) (i k : Nat) (hk : kvN b k < 2 ^ (8 * k)) (h : 8 * k ≤ 51 * i + 64) : kvN b k / 2 ^ (51 * i) < 18446744073709551616 := by
  rw [Nat.div_lt_iff_lt_mul (Nat.two_pow_pos _)]
  refine Nat.lt_of_lt_of_le hk ?_
  rw [show (18446744073709551616 : Nat) = 2 ^ 64 from by decide, ← Nat.pow_add]
  exact Nat.pow_le_pow_right (by omega) (by omega)
theorem midO_low (b : Nat → Nat) (hb : ∀ i, i < 32 → b i < 256) (m k : Nat) (hk : k < 32) (h : 8 * k < 51 * m) :
    bits .or .u64 ((midO b m k m : Nat) : Int) (((b k : Nat) : Int) / 2 ^ (-(8 * (k : Int) - 51 * (m : Int))).toNat) = ((kvN b (k + 1) / 2 ^ (51 * m) : Nat) : Int) := by
  have hl := kvN_lt b 32 hb k (by omega)
  have e1 : midO b m k m = 0 := by unfold midO; rw [if_pos rfl, kv_zero b m k hl (by omega)]
  have e2 : (-(8 * (k : Int) - 51 * (m : Int))).toNat = 51 * m - 8 * k := by omega
  have e3 : ((b k : Nat) : Int) / 2 ^ (51 * m - 8 * k) = ((b k / 2 ^ (51 * m - 8 * k) : Nat) : Int) := by rw [Int.natCast_ediv, Int.natCast_pow]; rfl
  have hb' := hb k hk
  have hd : b k / 2 ^ (51 * m - 8 * k) ≤ b k := Nat.div_le_self _ _
  rw [e1, e2, e3, bits_or_u64_nat _ _ (by omega) (by omega), Nat.zero_or, of_low b m k hl h]
theorem midO_high (b : Nat → Nat) (hb : ∀ i, i < 32 → b i < 256) (m k : Nat) (hk : k < 32) (h : 51 * m ≤ 8 * k) (h2 : 8 * k ≤ 51 * m + 56) :
    bits .or .u64 ((midO b m k m : Nat) : Int) (IntKind.u64.wrap (((b k : Nat) : Int) * 2 ^ (8 * k - 51 * m))) = ((kvN b (k + 1) / 2 ^ (51 * m) : Nat) : Int) := by
  have hl := kvN_lt b 32 hb k (by omega)
  have e1 : midO b m k m = kvN b k / 2 ^ (51 * m) := by unfold midO; rw [if_pos rfl]
  have hb' := hb k hk
  have hp : b k * 2 ^ (8 * k - 51 * m) < 18446744073709551616 := by
    have h3 : 2 ^ (8 * k - 51 * m) ≤ 2 ^ 56 := Nat.pow_le_pow_right (by omega) (by omega)
    have h4 : b k * 2 ^ (8 * k - 51 * m) ≤ 255 * 2 ^ 56 := Nat.mul_le_mul (by omega) h3
    omega
  have e3 : IntKind.u64.wrap (((b k : Nat) : Int) * 2 ^ (8 * k - 51 * m)) = ((b k * 2 ^ (8 * k - 51 * m) : Nat) : Int) := by
    rw [show ((b k : Nat) : Int) * 2 ^ (8 * k - 51 * m) = ((b k * 2 ^ (8 * k - 51 * m) : Nat) : Int) from by rw [Int.natCast_mul, Int.natCast_pow]; rfl, IntKind.wrap_u64]
    omega
  rw [e1, e3, bits_or_u64_nat _ _ (kv_small b m k hl (by omega)) hp, of_high b m k hl h]
theorem midO_step (b : Nat → Nat) (m k q : Nat) (v : Int) (hv : v = ((kvN b (k + 1) / 2 ^ (51 * m) : Nat) : Int)) : upd (fun q => ((midO b m k q : Nat) : Int)) m v q = ((midO b m (k + 1) q : Nat) : Int) := by
  unfold upd midO
  by_cases h : q = m
  · rw [if_pos h, hv, if_pos h]
  · rw [if_neg h, if_neg h]; dsimp only; rw [if_neg h]
theorem midO_start (b : Nat → Nat) (hb : ∀ i, i < 32 → b i < 256) (m q : Nat) (hm : m < 5) : (if q < m then ofN b q else 0) = midO b m (51 * m / 8) q := by
  unfold midO
  by_cases h : q = m
  · rw [if_pos h, if_neg (by omega), kv_zero b m _ (kvN_lt b 32 hb _ (by omega)) (by omega)]
  · rw [if_neg h]
theorem midO_done (b : Nat → Nat) (m k : Nat) (hm : m < 5) (hk : 51 * m / 8 + 8 ≤ k ∨ 32 ≤ k) (hk2 : k ≤ 32) : kvN b k / 2 ^ (51 * m) % 2251799813685248 = ofN b m := by
  unfold ofN
  have := of_done b m k (by omega) (32 - k)
  rw [show k + (32 - k) = 32 from by omega] at this
  exact this.symm
theorem midO_end (b : Nat → Nat) (_hb : ∀ i, i < 32 → b i < 256) (m k q : Nat) (hm : m < 5) (hk : 51 * m / 8 + 8 ≤ k ∨ 32 ≤ k) (hk2 : k ≤ 32) (sm : kvN b k / 2 ^ (51 * m) < 18446744073709551616) :
    upd (fun q => ((midO b m k q : Nat) : Int)) m (bits .and .u64 (((kvN b k : Nat) : Int) / 2 ^ (51 * m)) 2251799813685247) q = ((if q < m + 1 then ofN b q else 0 : Nat) : Int) := by
  have e3 : ((kvN b k : Nat) : Int) / 2 ^ (51 * m) = ((kvN b k / 2 ^ (51 * m) : Nat) : Int) := by rw [Int.natCast_ediv, Int.natCast_pow]; rfl
  rw [e3, and_mask1 _ sm, midO_done b m k hm hk hk2]
  unfold upd midO
  by_cases h : q = m
  · rw [if_pos h, h, if_pos (by omega)]
  · rw [if_neg h]; dsimp only; rw [if_neg h]
    by_cases h2 : q < m
    · rw [if_pos h2, if_pos (by omega)]
    · rw [if_neg h2, if_neg (by omega)]
attribute [local irreducible] kvN ofN

set_option maxRecDepth 100000 in
set_option maxHeartbeats 1000000 in
theorem Of_any (b : Nat → Nat) (hb : ∀ i, i < 32 → b i < 256) (w : World) :
    Calls Try.prog 14 #[.agg (arr .u8 32 fun i => ((b i : Nat) : Int))] w fun e w' => e = .returned (.agg (arr .u64 5 fun i => ((ofN b i : Nat) : Int))) ∧ Below w.heap.size w w' := by
  go_enter Try.func14, Try.ntmps14
  obtain ⟨h0, h1, hsz, hbl⟩ := alloc2 w (.cells (arr .u8 32 fun i => ((b i : Nat) : Int)) 23) (.cells (arr .u64 5 fun _ => 0) 34)
  have hb' := Lib.hid hb
  clear hb
  go_wp2_with (refine wpList_alloc_arr rfl rfl ZTFe ?_)
  go_loopg [8] 5 (fun n i wr => ∃ m : Nat, m + n = 5 ∧ i = .int .i64 m ∧ wr.heap[w.heap.size]? = some (.cells (arr .u8 32 fun i => ((b i : Nat) : Int)) 23 (0, 0)) ∧ wr.heap[w.heap.size + 1]? = some (.cells (arr .u64 5 fun q => ((if q < m then ofN b q else 0 : Nat) : Int)) 34 (0, 0)) ∧ Below w.heap.size w wr)
  case atStart => exact ⟨0, rfl, rfl, h0, blk_congr h1 (fun k _ => by rw [if_neg (Nat.not_lt_zero k)]; rfl), hbl⟩
  case round =>
    clear h0 h1 hbl hsz
    obtain ⟨m, hm, rfl, g0, g1, hB⟩ := hrel
    obtain ⟨go1, rfl⟩ : ∃ x, x = gk := ⟨_, rfl⟩
    have hm' := Lib.hid hm
    clear hm
    by_cases hlt : m < 5
    · have g2 := blk_congr g1 (f' := fun q => ((midO b m (51 * m / 8) q : Nat) : Int)) (fun q _ => by rw [← midO_start b hb'.out m q hlt])
      clear g1
      obtain ⟨K, hK1, hK2, hK3⟩ : ∃ K, K ≤ 51 * m / 8 + 8 ∧ K ≤ 32 ∧ (51 * m / 8 + 8 ≤ K ∨ 32 ≤ K) := ⟨min (51 * m / 8 + 8) 32, by omega, by omega, by omega⟩
      go_upto_region 4 with (fail)
      (try simp only [Act.put, List.setIfInBounds_toArray, List.set_cons_zero, List.set_cons_succ])
      try rw [show decide ((m : Int) < 5) = true from decide_eq_true (by omega)]
      go_wp2
      go_loopg [5] (K - 51 * m / 8) (fun n i wr => ∃ k : Nat, k + n = K ∧ 51 * m / 8 ≤ k ∧ i = .int .i64 k ∧ wr.heap[w.heap.size]? = some (.cells (arr .u8 32 fun i => ((b i : Nat) : Int)) 23 (0, 0)) ∧ wr.heap[w.heap.size + 1]? = some (.cells (arr .u64 5 fun q => ((midO b m k q : Nat) : Int)) 34 (0, 0)) ∧ Below w.heap.size w wr)
      case atStart => exact ⟨51 * m / 8, by omega, by omega, by go_num, g0, g2, hB⟩
      case round =>
        clear g0 g2 hB
        obtain ⟨k, hk, hkm, rfl, g0, g2, hB⟩ := hrel
        have hk' := Lib.hid hk
        clear hk
        by_cases hlk : k < K
        · have c0 := cell_arr g2 m (by omega)
          have c1 := cell_arr g0 k (by omega)
          have bk := hb'.out k (by omega)
          have fz := free_arr g2 m
          by_cases hs : 8 * k < 51 * m
          · go_wp2
            all_goals
              refine wp_region_tail 9 (by kernel_rfl) (by kernel_rfl) ?_
              (simp only [List.take_succ_cons, List.take_zero, List.drop_succ_cons, List.drop_zero])
              repeat (refine wpStill_step (fun K hK => ?_); go_simp; (try (simp only [↓IntWalk.iteOmega]; go_simp)); (try go_bits); refine hK _ ?_; clear hK K)
              refine wpStill_nil ?_
              go_wp2
              go_roundg (gk - 1)
              case measure => have := hk'.out; omega
              case rel =>
                have hk'' := hk'.out
                exact ⟨k + 1, by omega, by omega, by go_num, keep_arr g0 _ _ (by omega), blk_congr (set_arr g2 _ _) (fun q _ => midO_step b m k q _ (midO_low b hb'.out m k (by omega) hs)), (hB.setCell (by show w.heap.size ≤ w.heap.size + 1; omega) _).drew⟩
          · go_wp2
            all_goals
              refine wp_region_tail 8 (by kernel_rfl) (by kernel_rfl) ?_
              (simp only [List.take_succ_cons, List.take_zero, List.drop_succ_cons, List.drop_zero])
              repeat (refine wpStill_step (fun K hK => ?_); go_simp; (try (simp only [↓IntWalk.iteOmega]; go_simp)); (try go_bits); refine hK _ ?_; clear hK K)
              refine wpStill_nil ?_
              go_wp2
              go_roundg (gk - 1)
              case measure => have := hk'.out; omega
              case rel =>
                have hk'' := hk'.out
                exact ⟨k + 1, by omega, by omega, by go_num, keep_arr g0 _ _ (by omega), blk_congr (set_arr g2 _ _) (fun q _ => midO_step b m k q _ (midO_high b hb'.out m k (by omega) (by omega) (by omega))), (hB.setCell (by show w.heap.size ≤ w.heap.size + 1; omega) _).drew⟩
        · obtain rfl : k = K := by have := hk'.out; omega
          have c0 := cell_arr g2 m (by omega)
          have fz := free_arr g2 m
          have sm := kv_small b m k (kvN_lt b 32 hb'.out k hK2) (by omega)
          have e1 : midO b m k m = kvN b k / 2 ^ (51 * m) := by unfold midO; rw [if_pos rfl]
          rw [e1] at c0
          go_wp2
          all_goals
            go_roundg (go1 - 1)
            case measure => have := hm'.out; omega
            case rel =>
              have hm'' := hm'.out
              refine ⟨m + 1, by omega, by go_num, keep_arr g0 _ _ (by omega), blk_congr (set_arr g2 _ _) (fun q _ => ?_), hB.setCell (by show w.heap.size ≤ w.heap.size + 1; omega) _⟩
              exact midO_end b hb'.out m k q hlt hK3 hK2 sm
    · obtain rfl : m = 5 := by have := hm'.out; omega
      have g2 := blk_congr g1 (f' := fun q => ((ofN b q : Nat) : Int)) (fun q hq => by rw [if_pos hq])
      clear g1
      go_wp2_with (first | (refine wpList_load_arr rfl rfl rfl RTFe g2 ?_) | (refine wpList_store_arr rfl rfl rfl rfl RTFe g2 ?_))
      exact bodyPost_ret (results_arr rfl rfl RTFe (row_self g2)) rfl ⟨rfl, row_below hB (by omega) _⟩
end Go.Proofs.Ythgjhipfgdlbnaa
