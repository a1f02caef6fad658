/- The walks of layer 5: a number's bytes. -/
import Derived.Test.YthgjhipfgdlbnaaFeL
import Derived.Test.YthgjhipfgdlbnaaFeB
namespace Go.Proofs.Ythgjhipfgdlbnaa
set_option linter.unusedSimpArgs false
set_option linter.unusedVariables false
open Go.RowKit

theorem RTKey : RowT Try.prog 23 32 := ⟨_, Try.underlying23, rfl, by kernel_rfl⟩
theorem ZTKey : ZeroT Try.prog 23 .u8 32 := by unfold ZeroT; kernel_rfl
def midN (X : Nat → Nat) (m k q : Nat) : Nat := if q < k then byteN (valN X (m + 1)) q else byteN (valN X m) q
theorem midN_start (X : Nat → Nat) (m q : Nat) : byteN (valN X m) q = midN X m (51 * m / 8) q := by
  unfold midN
  by_cases h : q < 51 * m / 8
  · rw [if_pos h, valN_succ, byte_below _ _ _ _ (by omega)]
  · rw [if_neg h]
theorem midN_done (X : Nat → Nat) (hX : ∀ i, i < 5 → X i < 2251799813685248) (m k q : Nat) (hm : m < 5) (hq : q < 32) (hk : 51 * m / 8 + 8 ≤ k ∨ 32 ≤ k) : midN X m k q = byteN (valN X (m + 1)) q := by
  unfold midN
  by_cases h : q < k
  · rw [if_pos h]
  · rw [if_neg h, byte_above, byte_above]
    · exact Nat.lt_of_lt_of_le (valN_lt X 5 hX (m + 1) (by omega)) (Nat.pow_le_pow_right (by omega) (by omega))
    · exact Nat.lt_of_lt_of_le (valN_lt X 5 hX m (by omega)) (Nat.pow_le_pow_right (by omega) (by omega))
theorem bits_or_u8_nat (a b : Nat) (ha : a < 256) (hb : b < 256) : bits .or .u8 (a : Int) (b : Int) = ((a ||| b : Nat) : Int) := by
  have hx : a ||| b < 2 ^ 8 := Nat.or_lt_two_pow (by omega) (by omega)
  have h1 : (BitVec.ofInt 8 (a : Int)).toNat = a := by
    rw [BitVec.ofInt_natCast, BitVec.toNat_ofNat]; exact Nat.mod_eq_of_lt (by omega)
  have h2 : (BitVec.ofInt 8 (b : Int)).toNat = b := by
    rw [BitVec.ofInt_natCast, BitVec.toNat_ofNat]; exact Nat.mod_eq_of_lt (by omega)
  show IntKind.u8.wrap ((BitVec.ofInt 8 (a : Int) ||| BitVec.ofInt 8 (b : Int)).toNat : Int) = _
  rw [BitVec.toNat_or, h1, h2, IntKind.wrap_u8]
  omega
theorem byteN_lt (v k : Nat) : byteN v k < 256 := Nat.mod_lt _ (by omega)
theorem mid_low (X : Nat → Nat) (hX : ∀ i, X i < 2251799813685248) (m k : Nat) (hm : m < 5) (h : 8 * k < 51 * m) (h2 : 51 * m / 8 ≤ k) :
    bits .or .u8 ((midN X m k k : Nat) : Int) (IntKind.u64.wrap (((X m : Nat) : Int) * 2 ^ (-(8 * (k : Int) - 51 * (m : Int))).toNat) % 256) = ((byteN (valN X (m + 1)) k : Nat) : Int) := by
  have e1 : midN X m k k = byteN (valN X m) k := by unfold midN; rw [if_neg (by omega)]
  have e2 : (-(8 * (k : Int) - 51 * (m : Int))).toNat = 51 * m - 8 * k := by omega
  have e3 : IntKind.u64.wrap (((X m : Nat) : Int) * 2 ^ (51 * m - 8 * k)) % 256 = ((X m * 2 ^ (51 * m - 8 * k) % 256 : Nat) : Int) := by
    rw [show ((X m : Nat) : Int) * 2 ^ (51 * m - 8 * k) = ((X m * 2 ^ (51 * m - 8 * k) : Nat) : Int) from by rw [Int.natCast_mul, Int.natCast_pow]; rfl]
    generalize X m * 2 ^ (51 * m - 8 * k) = y
    rw [IntKind.wrap_u64]
    omega
  rw [e1, e2, e3, bits_or_u8_nat _ _ (byteN_lt _ _) (Nat.mod_lt _ (by omega)), byte_low _ _ _ _ (valN_lt X 5 (fun i _ => hX i) m (by omega)) h (by omega), valN_succ]
theorem mid_high (X : Nat → Nat) (hX : ∀ i, X i < 2251799813685248) (m k : Nat) (hm : m < 5) (h : 51 * m ≤ 8 * k) :
    bits .or .u8 ((midN X m k k : Nat) : Int) (((X m : Nat) : Int) / 2 ^ (8 * k - 51 * m) % 256) = ((byteN (valN X (m + 1)) k : Nat) : Int) := by
  have e1 : midN X m k k = byteN (valN X m) k := by unfold midN; rw [if_neg (by omega)]
  obtain ⟨b1, b2⟩ := byte_high (valN X m) (X m) m k (valN_lt X 5 (fun i _ => hX i) m (by omega)) h
  have e3 : (((X m : Nat) : Int) / 2 ^ (8 * k - 51 * m) % 256) = ((X m / 2 ^ (8 * k - 51 * m) % 256 : Nat) : Int) := by
    rw [Int.natCast_emod, Int.natCast_ediv, Int.natCast_pow]; rfl
  rw [e1, b1, e3, bits_or_u8_nat _ _ (by omega) (Nat.mod_lt _ (by omega)), Nat.zero_or, b2, valN_succ]
theorem mid_step (X : Nat → Nat) (m k q : Nat) (v : Int) (hv : v = ((byteN (valN X (m + 1)) k : Nat) : Int)) : upd (fun q => ((midN X m k q : Nat) : Int)) k v q = ((midN X m (k + 1) q : Nat) : Int) := by
  unfold upd midN
  by_cases h : q = k
  · rw [if_pos h, hv, h, if_pos (by omega)]
  · rw [if_neg h]
    dsimp only
    by_cases h2 : q < k
    · rw [if_pos h2, if_pos (by omega)]
    · rw [if_neg h2, if_neg (by omega)]
attribute [local irreducible] leastN valN byteN

set_option maxRecDepth 100000 in
set_option maxHeartbeats 1000000 in
theorem bytes_any (F : Nat → Nat) (hF : ∀ i, i < 5 → F i < 9223372036854775808) (w : World) :
    Calls Try.prog 32 #[.agg (arr .u64 5 fun i => ((F i : Nat) : Int))] w fun e w' => e = .returned (.agg (arr .u8 32 fun k => ((byteN (valN (leastN F) 5) k : Nat) : Int))) ∧ Below w.heap.size w w' := by
  go_enter Try.func32, Try.ntmps32
  obtain ⟨h0, h1, hsz, hb⟩ := alloc2 w (.cells (arr .u64 5 fun i => ((F i : Nat) : Int)) 34) (.cells (arr .u8 32 fun _ => 0) 23)
  go_wp2_with (first | (refine wpList_alloc_arr rfl rfl ZTKey ?_) | (refine wpList_load_arr rfl rfl rfl RTFe h0 ?_) | (go_at_call 46; fail))
  refine (least_any F hF _).mono ?_
  rintro e w1 ⟨rfl, b1⟩
  have hX := leastN_lt F
  generalize hXe : leastN F = X at hX ⊢
  have hXe' := Lib.hid hXe
  have hX' := Lib.hid hX
  clear hXe hF
  have g0 := keep_below b1 (by omega) h0
  have g1 := keep_below b1 (by omega) h1
  have hB := hb.trans (b1.mono (by omega))
  clear h0 h1 b1 hb hsz
  go_upto_region 2 with (refine wpList_store_arr rfl rfl rfl rfl RTFe g0 ?_)
  have q0 := row_self (w := w1) (c' := arr .u64 5 fun i => ((X i : Nat) : Int)) g0
  have q1 := row_keep (w := w1) (c' := arr .u64 5 fun i => ((X i : Nat) : Int)) (g := w.heap.size) g1 (by omega)
  have hBq := row_below hB (g := w.heap.size) (by omega) (arr .u64 5 fun i => ((X i : Nat) : Int))
  clear g0 g1 hB hX
  generalize w1.setRow w.heap.size (arr .u64 5 fun i => ((X i : Nat) : Int)) = w3 at *
  (try simp only [Act.put, List.setIfInBounds_toArray, List.set_cons_zero, List.set_cons_succ])
  go_wp2_with (refine wpList_load_arr rfl rfl rfl RTFe q0 ?_)
  go_loopg [11] 5 (fun n i wr => ∃ m : Nat, m + n = 5 ∧ i = .int .i64 m ∧ wr.heap[w.heap.size + 1]? = some (.cells (arr .u8 32 fun k => ((byteN (valN X m) k : Nat) : Int)) 23 (0, 0)) ∧ Below w.heap.size w wr)
  case atStart => exact ⟨0, rfl, rfl, blk_congr q1 (fun k _ => by rw [byte_above _ _ (by unfold valN; exact Nat.two_pow_pos _)]; rfl), hBq⟩
  case round =>
    clear q0 q1 hBq
    obtain ⟨m, hm, rfl, g1, hB⟩ := hrel
    obtain ⟨go1, rfl⟩ : ∃ x, x = gk := ⟨_, rfl⟩
    have hm' := Lib.hid hm
    clear hm
    by_cases hlt : m < 5
    · have xb := hX'.out m
      have g2 := blk_congr g1 (f' := fun q => ((midN X m (51 * m / 8) q : Nat) : Int)) (fun q _ => by rw [midN_start X m q])
      clear g1
      obtain ⟨K, hK1, hK2, hK3⟩ : ∃ K, K ≤ 51 * m / 8 + 8 ∧ K ≤ 32 ∧ (51 * m / 8 + 8 ≤ K ∨ 32 ≤ K) := ⟨min (51 * m / 8 + 8) 32, by omega, by omega, by omega⟩
      go_upto_region 5 with (refine wpList_index_cell rfl rfl Try.underlying34 Try.underlying32 rfl SZU64 rfl rfl (by omega) (by omega) (by omega) ?_)
      (try simp only [Act.put, List.setIfInBounds_toArray, List.set_cons_zero, List.set_cons_succ])
      try rw [show decide ((m : Int) < 5) = true from decide_eq_true (by omega)]
      go_wp2
      go_loopg [6] (K - 51 * m / 8) (fun n i wr => ∃ k : Nat, k + n = K ∧ 51 * m / 8 ≤ k ∧ i = .int .i64 k ∧ wr.heap[w.heap.size + 1]? = some (.cells (arr .u8 32 fun q => ((midN X m k q : Nat) : Int)) 23 (0, 0)) ∧ Below w.heap.size w wr)
      case atStart => exact ⟨51 * m / 8, by omega, by omega, by go_num, g2, hB⟩
      case round =>
        clear g2 hB
        obtain ⟨k, hk, hkm, rfl, g2, hB⟩ := hrel
        have hk' := Lib.hid hk
        clear hk
        by_cases hlk : k < K
        · have c0 := cell_arr g2 k (by omega)
          have fz := free_arr g2 k
          by_cases hs : 8 * k < 51 * m
          · go_wp2
            all_goals
              refine wp_region_tail 10 (by kernel_rfl) (by kernel_rfl) ?_
              (simp only [List.take_succ_cons, List.take_zero, List.drop_succ_cons, List.drop_zero])
              repeat (refine wpStill_step (fun K hK => ?_); go_simp; (try (simp only [↓IntWalk.iteOmega]; go_simp)); (try go_bits); refine hK _ ?_; clear hK K)
              refine wpStill_nil ?_
              go_wp2
              go_roundg (gk - 1)
              case measure => have := hk'.out; omega
              case rel =>
                have hk'' := hk'.out
                exact ⟨k + 1, by omega, by omega, by go_num, blk_congr (set_arr g2 _ _) (fun q _ => mid_step X m k q _ (mid_low X hX'.out m k hlt hs hkm)), (hB.setCell (by show w.heap.size ≤ w.heap.size + 1; omega) _).drew⟩
          · go_wp2
            all_goals
              refine wp_region_tail 9 (by kernel_rfl) (by kernel_rfl) ?_
              (simp only [List.take_succ_cons, List.take_zero, List.drop_succ_cons, List.drop_zero])
              repeat (refine wpStill_step (fun K hK => ?_); go_simp; (try (simp only [↓IntWalk.iteOmega]; go_simp)); (try go_bits); refine hK _ ?_; clear hK K)
              refine wpStill_nil ?_
              go_wp2
              go_roundg (gk - 1)
              case measure => have := hk'.out; omega
              case rel =>
                have hk'' := hk'.out
                exact ⟨k + 1, by omega, by omega, by go_num, blk_congr (set_arr g2 _ _) (fun q _ => mid_step X m k q _ (mid_high X hX'.out m k hlt (by omega))), (hB.setCell (by show w.heap.size ≤ w.heap.size + 1; omega) _).drew⟩
        · obtain rfl : k = K := by have := hk'.out; omega
          have g3 := blk_congr g2 (f' := fun q => ((byteN (valN X (m + 1)) q : Nat) : Int)) (fun q hq => by rw [midN_done X (fun i _ => hX'.out i) m k q hlt hq hK3])
          go_wp2
          all_goals
            go_roundg (go1 - 1)
            case measure => have := hm'.out; omega
            case rel =>
              have hm'' := hm'.out
              exact ⟨m + 1, by omega, by go_num, g3, hB⟩
    · obtain rfl : m = 5 := by have := hm'.out; omega
      go_wp2_with (first | (refine wpList_load_arr rfl rfl rfl RTKey g1 ?_) | (refine wpList_store_arr rfl rfl rfl rfl RTKey g1 ?_))
      exact bodyPost_ret (results_arr rfl rfl RTKey (row_self g1)) rfl ⟨by rw [hXe'.out], row_below hB (by omega) _⟩
end Go.Proofs.Ythgjhipfgdlbnaa
