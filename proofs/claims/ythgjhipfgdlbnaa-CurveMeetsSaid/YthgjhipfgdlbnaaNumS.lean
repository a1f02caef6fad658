/- The walks of layer 5's reference: powers, bytes, and what numbers and bytes stand for. -/
import Derived.Test.YthgjhipfgdlbnaaNumR
import Derived.Test.YthgjhipfgdlbnaaFeK
namespace Go.Proofs.Ythgjhipfgdlbnaa
set_option linter.unusedSimpArgs false
set_option linter.unusedVariables false
open Go.RowKit
attribute [local irreducible] val16 ovR loR partN boN passN pN plusL accR valN byteN

/-- A number, so often squared. -/
def sqM (v : Nat) : Nat → Nat
  | 0 => v
  | n + 1 => sqM v n * sqM v n % pN
theorem sqM_succ (v n : Nat) : sqM v (n + 1) = sqM v n * sqM v n % pN := rfl
theorem pN_lt : pN < 2 ^ 256 := by unfold pN; decide +kernel
theorem sqM_lt (v : Nat) (hv : v < pN) : ∀ n, sqM v n < pN
  | 0 => hv
  | n + 1 => by rw [sqM_succ]; exact Nat.mod_lt _ pN_pos
theorem sqM_val (v : Nat) : ∀ n, sqM v n % pN = v ^ 2 ^ n % pN
  | 0 => by rw [Nat.pow_zero, Nat.pow_one]; rfl
  | n + 1 => by rw [sqM_succ, Nat.mod_mod, Nat.mul_mod, sqM_val v n, ← Nat.mul_mod, Nat.pow_succ 2 n, Nat.mul_two, Nat.pow_add]
attribute [local irreducible] sqM

/-- To the power of the prime less 2, bit by bit: k bits. -/
def invM (a : Nat) : Nat → Nat
  | 0 => 1
  | k + 1 => if k = 252 ∨ k = 250 then invM a k * invM a k % pN else invM a k * invM a k % pN * a % pN
theorem invM_succ (a k : Nat) : invM a (k + 1) = if k = 252 ∨ k = 250 then invM a k * invM a k % pN else invM a k * invM a k % pN * a % pN := rfl
theorem bits_of : ∀ k, k < 255 → (pN - 2) / 2 ^ (255 - (k + 1)) = 2 * ((pN - 2) / 2 ^ (255 - k)) + if k = 252 ∨ k = 250 then 0 else 1 := by unfold pN; decide +kernel
theorem invM_lt (a : Nat) : ∀ k, invM a k < pN
  | 0 => by unfold invM pN; omega
  | k + 1 => by rw [invM_succ]; split <;> exact Nat.mod_lt _ pN_pos
theorem invM_val (a : Nat) : ∀ k, k ≤ 255 → invM a k % pN = powN a ((pN - 2) / 2 ^ (255 - k)) % pN
  | 0, _ => by
    rw [show (pN - 2) / 2 ^ (255 - 0) = 0 from by unfold pN; decide +kernel]
    unfold invM powN
    rw [Nat.pow_zero]
  | k + 1, h => by
    have ih := invM_val a k (by omega)
    rw [invM_succ, bits_of k (by omega)]
    generalize (pN - 2) / 2 ^ (255 - k) = e at *
    have sq : invM a k * invM a k % pN = powN a (e * 2) % pN := by
      rw [Nat.mul_mod, ih, ← Nat.mul_mod, Nat.mul_two, ← powN_add]
    split
    · rw [Nat.mod_mod, sq, Nat.add_zero, Nat.mul_comm]
    · rw [Nat.mod_mod, Nat.mul_mod, Nat.mod_mod, sq, ← Nat.mul_mod, Nat.mul_comm 2, ← powN_add, powN_one]
theorem invM_all (a : Nat) : invM a 255 % pN = powN a (pN - 2) % pN := by
  have := invM_val a 255 (Nat.le_refl _)
  rwa [Nat.sub_self, Nat.pow_zero, Nat.div_one] at this
attribute [local irreducible] invM powN
theorem built_one16 : Try.prog.built 51 [(0, .int .u64 1)] = some (arr .u64 16 fun i => ((partN 1 i : Nat) : Int)) := by kernel_rfl

set_option maxRecDepth 100000 in
set_option maxHeartbeats 2000000 in
theorem RInvert_any (a : Nat) (ha : a < pN) (w : World) :
    Calls Try.prog 30 #[.agg (arr .u64 16 fun i => ((partN a i : Nat) : Int))] w fun e w' => e = .returned (.agg (arr .u64 16 fun i => ((partN (invM a 255) i : Nat) : Int))) ∧ Below w.heap.size w w' := by
  go_enter Try.func30, Try.ntmps30
  obtain ⟨h0, h1, hsz, hb⟩ := alloc2 w (.cells (arr .u64 16 fun i => ((partN a i : Nat) : Int)) 51) (.cells (arr .u64 16 fun _ => 0) 51)
  go_upto_region 1 with (refine wpList_alloc_arr rfl rfl ZTNum ?_)
  generalize (w.alloc (.cells (arr .u64 16 fun i => ((partN a i : Nat) : Int)) 51)).alloc (.cells (arr .u64 16 fun _ => 0) 51) = wa at *
  (try simp only [Act.put, List.setIfInBounds_toArray, List.set_cons_zero, List.set_cons_succ])
  try simp only [World.size_alloc]
  have ha' := Lib.hid (Nat.lt_trans ha pN_lt)
  clear ha
  go_upto_region 2 with (first | (refine wpList_val' rfl (run_op_build rfl (by simp [Act.eval, Act.put]) built_one16) ?_) | (refine wpList_new_arr rfl rfl rfl rfl ZTNum RTNum rfl rfl ?_; intro w8 h2 b8 hs8))
  replace h0 := keep_below b8 (by omega) h0
  replace h1 := keep_below b8 (by omega) h1
  replace hb := hb.trans (b8.mono (by omega))
  rw [hsz] at h2 ⊢
  clear b8 hs8 hsz
  (try simp only [Act.put, List.setIfInBounds_toArray, List.set_cons_zero, List.set_cons_succ])
  go_wp2
  go_loopg [4] 255 (fun n i wr => i = .int .i64 ((n : Int) - 1) ∧ n ≤ 255 ∧ wr.heap[w.heap.size]? = some (.cells (arr .u64 16 fun i => ((partN a i : Nat) : Int)) 51 (0, 0)) ∧ wr.heap[w.heap.size + 1]? = some (.cells (arr .u64 16 fun _ => 0) 51 (0, 0)) ∧
    wr.heap[w.heap.size + 2]? = some (.cells (arr .u64 16 fun i => ((partN (invM a (255 - n)) i : Nat) : Int)) 51 (0, 0)) ∧ Below w.heap.size w wr)
  case atStart => exact ⟨rfl, Nat.le_refl _, h0, h1, (by rw [Nat.sub_self]; unfold invM; exact h2), hb⟩
  case round =>
    clear h0 h1 h2 hb
    obtain ⟨rfl, hn, h0, h1, h2, hB⟩ := hrel
    rcases Nat.eq_zero_or_pos gk with hz | hz
    · subst hz
      rw [Nat.sub_zero] at h2
      go_wp2_with (first | (refine wpList_load_arr rfl rfl rfl RTNum h2 ?_) | (refine wpList_store_arr rfl rfl rfl rfl RTNum h1 ?_))
      exact bodyPost_ret (results_arr rfl rfl RTNum (row_self h1)) rfl ⟨rfl, row_below hB (by omega) _⟩
    · obtain ⟨k, rfl⟩ : ∃ k, gk = k + 1 := ⟨gk - 1, by omega⟩
      have ek : ((k + 1 : Nat) : Int) - 1 = (k : Int) := by omega
      rw [ek]
      obtain ⟨t, ht⟩ : ∃ t, t = 255 - (k + 1) := ⟨_, rfl⟩
      rw [← ht] at h2
      have ht2 : 255 - k = t + 1 := by omega
      have HT := Lib.hid ht
      have HT2 := Lib.hid ht2
      have ok := Lib.hid (Nat.lt_trans (invM_lt a t) pN_lt)
      have ok2 := Lib.hid (mod_lt' (invM a t * invM a t))
      clear ek hz ht ht2
      by_cases hk2 : k = 2
      · subst hk2
        have st : invM a (t + 1) = invM a t * invM a t % pN := by rw [invM_succ, if_pos (.inl (by have := HT.out; omega))]
        have ST := Lib.hid st
        clear st
        go_wp2_with (first | (refine wpList_load_arr rfl rfl rfl RTNum h2 ?_) | (go_at_call 29; fail))
        refine (RMul_any _ _ ok.out ok.out _).mono ?_
        rintro e w4 ⟨rfl, b4⟩
        replace h0 := keep_below b4 (lt_of_block h0) h0
        replace h1 := keep_below b4 (lt_of_block h1) h1
        replace h2 := keep_below b4 (lt_of_block h2) h2
        replace hB := hB.trans (b4.mono hB.size)
        clear b4
        go_wp2_with (refine wpList_store_arr rfl rfl rfl rfl RTNum h2 ?_)
        go_roundg 2
        case measure => omega
        case rel => exact ⟨by go_num, by omega, row_keep h0 (by omega), row_keep h1 (by omega), (by rw [HT2.out, ST.out]; exact row_self h2), row_below hB (by omega) _⟩
      · by_cases hk4 : k = 4
        · subst hk4
          have st : invM a (t + 1) = invM a t * invM a t % pN := by rw [invM_succ, if_pos (.inr (by have := HT.out; omega))]
          have ST := Lib.hid st
          clear st hk2
          go_wp2_with (first | (refine wpList_load_arr rfl rfl rfl RTNum h2 ?_) | (go_at_call 29; fail))
          refine (RMul_any _ _ ok.out ok.out _).mono ?_
          rintro e w4 ⟨rfl, b4⟩
          replace h0 := keep_below b4 (lt_of_block h0) h0
          replace h1 := keep_below b4 (lt_of_block h1) h1
          replace h2 := keep_below b4 (lt_of_block h2) h2
          replace hB := hB.trans (b4.mono hB.size)
          clear b4
          go_wp2_with (refine wpList_store_arr rfl rfl rfl rfl RTNum h2 ?_)
          go_roundg 4
          case measure => omega
          case rel => exact ⟨by go_num, by omega, row_keep h0 (by omega), row_keep h1 (by omega), (by rw [HT2.out, ST.out]; exact row_self h2), row_below hB (by omega) _⟩
        · have e2 : ((k : Int) != 2) = true := by rw [bne_iff_ne]; omega
          have e4 : ((k : Int) != 4) = true := by rw [bne_iff_ne]; omega
          have st : invM a (t + 1) = invM a t * invM a t * a % pN := by rw [invM_succ, if_neg (by have := HT.out; omega), Nat.mod_mul_mod]
          have ST := Lib.hid st
          clear st hk2 hk4
          go_wp2_with (first | (refine wpList_load_arr rfl rfl rfl RTNum h2 ?_) | (go_at_call 29; fail))
          refine (RMul_any _ _ ok.out ok.out _).mono ?_
          rintro e w4 ⟨rfl, b4⟩
          replace h0 := keep_below b4 (lt_of_block h0) h0
          replace h1 := keep_below b4 (lt_of_block h1) h1
          replace h2 := keep_below b4 (lt_of_block h2) h2
          replace hB := hB.trans (b4.mono hB.size)
          clear b4
          go_upto_region 6 with (refine wpList_store_arr rfl rfl rfl rfl RTNum h2 ?_)
          have lB : w.heap.size ≤ w.heap.size + 2 := by omega
          replace h0 := row_keep (c' := arr .u64 16 fun i => ((partN (invM a t * invM a t % pN) i : Nat) : Int)) h0 (show w.heap.size ≠ w.heap.size + 2 by omega)
          replace h1 := row_keep (c' := arr .u64 16 fun i => ((partN (invM a t * invM a t % pN) i : Nat) : Int)) h1 (show w.heap.size + 1 ≠ w.heap.size + 2 by omega)
          replace hB := row_below hB lB (arr .u64 16 fun i => ((partN (invM a t * invM a t % pN) i : Nat) : Int))
          replace h2 := row_self (c' := arr .u64 16 fun i => ((partN (invM a t * invM a t % pN) i : Nat) : Int)) h2
          generalize w4.setRow (w.heap.size + 2) (arr .u64 16 fun i => ((partN (invM a t * invM a t % pN) i : Nat) : Int)) = w5 at *
          (try simp only [Act.put, List.setIfInBounds_toArray, List.set_cons_zero, List.set_cons_succ])
          go_wp2_with (first | (refine wpList_load_arr rfl rfl rfl RTNum h2 ?_) | (refine wpList_load_arr rfl rfl rfl RTNum h0 ?_) | (go_at_call 29; fail))
          refine (RMul_any _ _ ok2.out ha'.out _).mono ?_
          rintro e w4 ⟨rfl, b4⟩
          replace h0 := keep_below b4 (lt_of_block h0) h0
          replace h1 := keep_below b4 (lt_of_block h1) h1
          replace h2 := keep_below b4 (lt_of_block h2) h2
          replace hB := hB.trans (b4.mono hB.size)
          clear b4
          go_wp2_with (refine wpList_store_arr rfl rfl rfl rfl RTNum h2 ?_)
          go_roundg k
          case measure => omega
          case rel => exact ⟨by go_num, by omega, row_keep h0 (by omega), row_keep h1 (by omega), (by rw [HT2.out, ST.out]; exact row_self h2), row_below hB lB _⟩

/-- A number's byte, out of its parts. -/
theorem part_low (v i : Nat) : partN v i % 256 = byteN v (2 * i) := by rw [(part_bytes v i).1]; unfold byteN; rfl
theorem part_high (v i : Nat) : partN v i / 256 = byteN v (2 * i + 1) := by rw [(part_bytes v i).2]; unfold byteN; rfl
set_option maxRecDepth 100000 in
set_option maxHeartbeats 1000000 in
theorem RBytes_any (v : Nat) (w : World) :
    Calls Try.prog 28 #[.agg (arr .u64 16 fun i => ((partN v i : Nat) : Int))] w fun e w' => e = .returned (.agg (arr .u8 32 fun k => ((byteN v k : Nat) : Int))) ∧ Below w.heap.size w w' := by
  go_enter Try.func28, Try.ntmps28
  obtain ⟨h0, h1, hsz, hb⟩ := alloc2 w (.cells (arr .u64 16 fun i => ((partN v i : Nat) : Int)) 51) (.cells (arr .u8 32 fun _ => 0) 23)
  go_upto_region 1 with (refine wpList_alloc_arr rfl rfl ZTKey ?_)
  generalize (w.alloc (.cells (arr .u64 16 fun i => ((partN v i : Nat) : Int)) 51)).alloc (.cells (arr .u8 32 fun _ => 0) 23) = wa at *
  (try simp only [Act.put, List.setIfInBounds_toArray, List.set_cons_zero, List.set_cons_succ])
  try simp only [World.size_alloc]
  obtain ⟨h2, hz3, bl⟩ := alloc1 wa (.cells (arr .u8 32 fun _ => 0) 23)
  go_upto_region 2 with (refine wpList_alloc_arr rfl rfl ZTKey ?_)
  replace h0 := keep_below bl (by omega) h0
  replace h1 := keep_below bl (by omega) h1
  replace hb := hb.trans (bl.mono (by omega))
  rw [hsz] at h2 ⊢
  generalize wa.alloc (.cells (arr .u8 32 fun _ => 0) 23) = wb at *
  clear hz3 bl hsz
  (try simp only [Act.put, List.setIfInBounds_toArray, List.set_cons_zero, List.set_cons_succ])
  go_wp2_with (refine wpList_load_arr rfl rfl rfl RTNum h0 ?_)
  go_loopg [7] 16 (fun n i wr => ∃ m : Nat, m + n = 16 ∧ i = .int .i64 m ∧ wr.heap[w.heap.size + 1]? = some (.cells (arr .u8 32 fun _ => 0) 23 (0, 0)) ∧ wr.heap[w.heap.size + 2]? = some (.cells (arr .u8 32 fun q => ((if q < 2 * m then byteN v q else 0 : Nat) : Int)) 23 (0, 0)) ∧ Below w.heap.size w wr)
  case atStart => exact ⟨0, rfl, rfl, h1, blk_congr h2 (fun q _ => by rw [if_neg (by omega)]; rfl), hb⟩
  case round =>
    clear h0 h1 h2 hb
    obtain ⟨m, hm, rfl, h1, h2, hB⟩ := hrel
    have hm' := Lib.hid hm
    clear hm
    by_cases hlt : m < 16
    · have b0 := part_lt v m
      have c0 := cell_arr h2 (2 * m) (by omega)
      have c1 := cell_arr h2 (2 * m + 1) (by omega)
      have fz0 := free_arr h2 (2 * m)
      have fz1 := free_arr h2 (2 * m + 1)
      have q1 : partN v m % 256 < 256 := Nat.mod_lt _ (by omega)
      have q2 : partN v m / 256 < 256 := by omega
      go_wp2_with (refine wpList_index_cell rfl rfl Try.underlying51 Try.underlying32 rfl SZU64 rfl rfl (by omega) (by omega) (by omega) ?_)
      go_roundg (gk - 1)
      case measure => have := hm'.out; omega
      case rel =>
        have hm'' := hm'.out
        refine ⟨m + 1, by omega, by go_num, keep_arr (keep_arr h1 _ _ (by omega)) _ _ (by omega), blk_congr (set_arr (set_arr h2 (2 * m) _) (2 * m + 1) _) (fun q _ => ?_), (hB.setCell (by show w.heap.size ≤ w.heap.size + 2; omega) _).setCell (by show w.heap.size ≤ w.heap.size + 2; omega) _⟩
        unfold upd
        by_cases e1 : q = 2 * m + 1
        · rw [if_pos e1, if_pos (by omega), e1, ← part_high]; omega
        · rw [if_neg e1]
          by_cases e0 : q = 2 * m
          · rw [if_pos e0, if_pos (by omega), e0, ← part_low]; omega
          · rw [if_neg e0]
            dsimp only
            by_cases e2 : q < 2 * m
            · rw [if_pos e2, if_pos (by omega)]
            · rw [if_neg e2, if_neg (by omega)]
    · obtain rfl : m = 16 := by have := hm'.out; omega
      replace h2 := blk_congr (f' := fun k => ((byteN v k : Nat) : Int)) h2 (fun q hq => by rw [if_pos (by omega)])
      go_wp2_with (first | (refine wpList_load_arr rfl rfl rfl RTKey h2 ?_) | (refine wpList_store_arr rfl rfl rfl rfl RTKey h1 ?_))
      exact bodyPost_ret (results_arr rfl rfl RTKey (row_self h1)) rfl ⟨rfl, row_below hB (by omega) _⟩

theorem hi8 (x m : Nat) (h : m % 2 = 1) : 256 * x * 2 ^ (16 * (m / 2)) = x * 2 ^ (8 * m) := by
  rw [show 8 * m = 16 * (m / 2) + 8 from by omega, Nat.pow_add]
  generalize 2 ^ (16 * (m / 2)) = z
  rw [show (2 : Nat) ^ 8 = 256 from rfl, Nat.mul_comm 256 x, Nat.mul_assoc, Nat.mul_comm 256 z]
theorem SZU8 : (Try.prog.info? 5).map (·.size) = some 1 := by kernel_rfl
/-- One part more: what it comes to. -/
theorem put_val (L : Nat → Nat) (c t v : Nat) (hc : c < 32) (h : val16 L 32 + t * 2 ^ (16 * c) = v) : val16 (fun j => L j + if c = j then t else 0) 32 = v := by
  rw [val16_put, if_pos hc, h]
set_option maxRecDepth 100000 in
set_option maxHeartbeats 2000000 in
theorem RFromKey_any (k : Nat → Nat) (hk : ∀ i, i < 32 → k i < 256) (w : World) :
    Calls Try.prog 25 #[.agg (arr .u8 32 fun i => ((k i : Nat) : Int))] w fun e w' => e = .returned (.agg (arr .u64 16 fun i => ((partN (kvN (cutB k) 32 % pN) i : Nat) : Int))) ∧ Below w.heap.size w w' := by
  go_enter Try.func25, Try.ntmps25
  obtain ⟨h0, h1, hsz, hb⟩ := alloc2 w (.cells (arr .u8 32 fun i => ((k i : Nat) : Int)) 23) (.cells (arr .u64 16 fun _ => 0) 51)
  go_upto_region 1 with (refine wpList_alloc_arr rfl rfl ZTNum ?_)
  generalize (w.alloc (.cells (arr .u8 32 fun i => ((k i : Nat) : Int)) 23)).alloc (.cells (arr .u64 16 fun _ => 0) 51) = wa at *
  (try simp only [Act.put, List.setIfInBounds_toArray, List.set_cons_zero, List.set_cons_succ])
  try simp only [World.size_alloc]
  obtain ⟨h2, hz3, bl⟩ := alloc1 wa (.cells (arr .u64 32 fun _ => 0) 66)
  go_upto_region 2 with (refine wpList_alloc_arr rfl rfl ZT32 ?_)
  replace h0 := keep_below bl (by omega) h0
  replace h1 := keep_below bl (by omega) h1
  replace hb := hb.trans (bl.mono (by omega))
  rw [hsz] at h2 ⊢
  generalize wa.alloc (.cells (arr .u64 32 fun _ => 0) 66) = wb at *
  clear hz3 bl hsz
  (try simp only [Act.put, List.setIfInBounds_toArray, List.set_cons_zero, List.set_cons_succ])
  have hk' := Lib.hid hk
  clear hk
  go_wp2_with (refine wpList_load_arr rfl rfl rfl RTKey h0 ?_)
  go_loopg [8] 32 (fun n i wr => ∃ (m : Nat) (L : Nat → Nat), m + n = 32 ∧ i = .int .i64 m ∧ (∀ c, L c ≤ m * 65280) ∧ val16 L 32 = kvN (cutB k) m ∧ wr.heap[w.heap.size + 1]? = some (.cells (arr .u64 16 fun _ => 0) 51 (0, 0)) ∧ wr.heap[w.heap.size + 2]? = some (.cells (arr .u64 32 fun q => ((L q : Nat) : Int)) 66 (0, 0)) ∧ Below w.heap.size w wr)
  case atStart => exact ⟨0, fun _ => 0, rfl, rfl, (fun _ => Nat.zero_le _), val16_none _ (fun _ => rfl) 32, h1, h2, hb⟩
  case round =>
    clear h0 h1 h2 hb
    obtain ⟨m, L, hm, rfl, hLl, hLv, h1, h2, hB⟩ := hrel
    have hm' := Lib.hid hm
    have HL := Lib.hid hLl
    have HV := Lib.hid hLv
    clear hm hLl hLv
    by_cases hlt : m < 32
    · have b0 := hk'.out m hlt
      have lb := HL.out (m / 2)
      have c0 := cell_arr h2 (m / 2) (by omega)
      have fz := free_arr h2 (m / 2)
      have hodd : m % 2 = 0 ∨ (m % 2 = 1 ∧ m ≠ 31) ∨ m = 31 := by omega
      rcases hodd with ho | ⟨ho, h31⟩ | h31
      · have e31 : ((m : Int) == 31) = false := by rw [beq_eq_false_iff_ne]; omega
        have eo : ((m : Int) % 2 == 1) = false := by rw [beq_eq_false_iff_ne]; omega
        have et : cutB k m = k m := by unfold cutB; rw [if_neg (by omega)]
        have ET := Lib.hid et
        have HO := Lib.hid ho
        clear ho et
        go_wp2_with (refine wpList_index_cell rfl rfl Try.underlying23 Try.underlying5 rfl SZU8 rfl rfl (by omega) (by omega) (by omega) ?_)
        go_roundg (gk - 1)
        case measure => have := hm'.out; omega
        case rel =>
          have hm'' := hm'.out
          have ho := HO.out
          refine ⟨m + 1, fun j => L j + if m / 2 = j then k m else 0, by omega, by go_num, fun c => ?_, put_val L (m / 2) (k m) _ (by omega) ?_, keep_arr h1 _ _ (by omega), blk_congr (set_arr h2 (m / 2) _) (fun q _ => ?_), hB.setCell (by show w.heap.size ≤ w.heap.size + 2; omega) _⟩
          · have h1 := HL.out c
            dsimp only
            rw [Nat.succ_mul m 65280]
            refine Nat.add_le_add h1 ?_
            split
            · omega
            · exact Nat.zero_le _
          · rw [HV.out, kvN_succ, ET.out, show 8 * m = 16 * (m / 2) from by omega]
          · unfold upd
            dsimp only
            by_cases h : q = m / 2
            · rw [if_pos h, if_pos h.symm, h]; omega
            · rw [if_neg h, if_neg (fun e => h e.symm)]; rfl
      · have e31 : ((m : Int) == 31) = false := by rw [beq_eq_false_iff_ne]; omega
        have eo : ((m : Int) % 2 == 1) = true := by rw [beq_iff_eq]; omega
        have et : cutB k m = k m := by unfold cutB; rw [if_neg h31]
        have ET := Lib.hid et
        have HO := Lib.hid ho
        clear ho et h31
        go_wp2_with (refine wpList_index_cell rfl rfl Try.underlying23 Try.underlying5 rfl SZU8 rfl rfl (by omega) (by omega) (by omega) ?_)
        go_roundg (gk - 1)
        case measure => have := hm'.out; omega
        case rel =>
          have hm'' := hm'.out
          have ho := HO.out
          refine ⟨m + 1, fun j => L j + if m / 2 = j then 256 * k m else 0, by omega, by go_num, fun c => ?_, put_val L (m / 2) (256 * k m) _ (by omega) ?_, keep_arr h1 _ _ (by omega), blk_congr (set_arr h2 (m / 2) _) (fun q _ => ?_), hB.setCell (by show w.heap.size ≤ w.heap.size + 2; omega) _⟩
          · have h1 := HL.out c
            dsimp only
            rw [Nat.succ_mul m 65280]
            refine Nat.add_le_add h1 ?_
            split
            · omega
            · exact Nat.zero_le _
          · exact (by rw [hi8 (k m) m ho, HV.out, kvN_succ, ← ET.out])
          · unfold upd
            dsimp only
            by_cases h : q = m / 2
            · rw [if_pos h, if_pos h.symm, h]; omega
            · rw [if_neg h, if_neg (fun e => h e.symm)]; rfl
      · subst h31
        clear lb c0 fz
        have lb := HL.out 15
        have c0 := cell_arr h2 15 (by omega)
        have fz := free_arr h2 15
        have et : cutB k 31 = k 31 % 128 := by unfold cutB; rw [if_pos rfl]
        have ET := Lib.hid et
        clear et
        go_wp2_with (refine wpList_index_cell rfl rfl Try.underlying23 Try.underlying5 rfl SZU8 rfl rfl (by omega) (by omega) (by omega) ?_)
        go_roundg (gk - 1)
        case measure => have := hm'.out; omega
        case rel =>
          have hm'' := hm'.out
          refine ⟨32, fun j => L j + if 15 = j then 256 * (k 31 % 128) else 0, by omega, by go_num, fun c => ?_, put_val L 15 (256 * (k 31 % 128)) _ (by omega) ?_, keep_arr h1 _ _ (by omega), blk_congr (set_arr h2 15 _) (fun q _ => ?_), hB.setCell (by show w.heap.size ≤ w.heap.size + 2; omega) _⟩
          · have h1 := HL.out c
            dsimp only
            rw [show 32 * 65280 = 31 * 65280 + 65280 from rfl]
            refine Nat.add_le_add h1 ?_
            split
            · omega
            · exact Nat.zero_le _
          · rw [HV.out, show kvN (cutB k) 32 = kvN (cutB k) 31 + cutB k 31 * 2 ^ (8 * 31) from rfl, ET.out, ← hi8 _ 31 rfl]
          · unfold upd
            dsimp only
            by_cases h : q = 15
            · rw [if_pos h, if_pos h.symm, h]; omega
            · rw [if_neg h, if_neg (fun e => h e.symm)]; rfl
    · obtain rfl : m = 32 := by have := hm'.out; omega
      go_wp2_with (first | (refine wpList_load_arr rfl rfl rfl RT32 h2 ?_) | (go_at_call 40; fail))
      refine (Fold_is L (fun i _ => by have := HL.out i; omega) _ HV.out _).mono ?_
      rintro e w4 ⟨rfl, b4⟩
      replace h1 := keep_below b4 (lt_of_block h1) h1
      replace hB := hB.trans (b4.mono hB.size)
      go_wp2_with (refine wpList_store_arr rfl rfl rfl rfl RTNum h1 ?_)
      exact bodyPost_ret (results_arr rfl rfl RTNum (row_self h1)) rfl ⟨rfl, row_below hB (by omega) _⟩

/-- A number's bit, out of its part. -/
theorem bit_up (x b : Nat) : x % 2 ^ (b + 1) = x % 2 ^ b + x / 2 ^ b % 2 * 2 ^ b := by rw [Nat.pow_succ, Nat.mod_mul, Nat.mul_comm (2 ^ b)]
theorem at_pow (i b : Nat) : 2 ^ ((51 * i + b) % 16) * 2 ^ (16 * ((51 * i + b) / 16)) = 2 ^ b * 2 ^ (51 * i) := by
  rw [← Nat.pow_add, ← Nat.pow_add]
  congr 1
  omega
end Go.Proofs.Ythgjhipfgdlbnaa
