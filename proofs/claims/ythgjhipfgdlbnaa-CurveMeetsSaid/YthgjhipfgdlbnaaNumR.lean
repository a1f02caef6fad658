/- The walks of layer 5's reference: sums, differences, products. -/
import Derived.Test.YthgjhipfgdlbnaaNumW
namespace Go.Proofs.Ythgjhipfgdlbnaa
set_option linter.unusedSimpArgs false
set_option linter.unusedVariables false
open Go.RowKit
theorem zero_up (L : Nat → Nat) (h : ∀ i, 16 ≤ i → L i = 0) : val16 L 32 = val16 L 16 := by
  rw [val16_split L 16 16, val16_congr (fun i => L (16 + i)) (fun _ => 0) 16 (fun i _ => h _ (by omega))]
  have : ∀ n, val16 (fun _ => 0) n = 0 := by
    intro n
    induction n with
    | zero => rfl
    | succ n ih => rw [val16_succ, ih, Nat.zero_mul]
  rw [this, Nat.mul_zero, Nat.add_zero]
theorem val16_plus (A B : Nat → Nat) (n : Nat) : val16 (fun i => A i + B i) n = val16 A n + val16 B n := by
  have := val16_add A B 1 n
  rw [Nat.one_mul] at this
  rw [← this]
  exact val16_congr _ _ n (fun i _ => by rw [Nat.one_mul])
/-- What two numbers' parts come to, one by one. -/
def plusL (a b : Nat) (i : Nat) : Nat := if i < 16 then partN a i + partN b i else 0
theorem plus_val (a b : Nat) (ha : a < 2 ^ 256) (hb : b < 2 ^ 256) : val16 (plusL a b) 32 = a + b := by
  rw [zero_up _ (fun i hi => by unfold plusL; rw [if_neg (by omega)]), val16_congr (plusL a b) (fun i => partN a i + partN b i) 16 (fun i hi => by unfold plusL; rw [if_pos hi]), val16_plus, part_val, part_val, Nat.mod_eq_of_lt ha, Nat.mod_eq_of_lt hb]
theorem plus_lt (a b i : Nat) : plusL a b i < 1099511627776 := by
  have := part_lt a i
  have := part_lt b i
  unfold plusL
  split <;> omega
theorem val16_put (X : Nat → Nat) (c t : Nat) : ∀ n, val16 (fun j => X j + if c = j then t else 0) n = val16 X n + if c < n then t * 2 ^ (16 * c) else 0
  | 0 => rfl
  | n + 1 => by
    rw [val16_succ, val16_put X c t n, val16_succ, Nat.add_mul]
    by_cases h : c = n
    · subst h
      rw [if_pos rfl, if_neg (by omega), if_pos (by omega)]
      omega
    · rw [if_neg h, Nat.zero_mul]
      by_cases h2 : c < n
      · rw [if_pos h2, if_pos (by omega)]; omega
      · rw [if_neg h2, if_neg (by omega)]; omega
/-- Products, part by part. -/
def accR (A B : Nat → Nat) : Nat → Nat → Nat
  | 0, _ => 0
  | n + 1, c => accR A B n c + if n / 16 + n % 16 = c then A (n / 16) * B (n % 16) else 0
theorem accR_succ (A B : Nat → Nat) (n c : Nat) : accR A B (n + 1) c = accR A B n c + if n / 16 + n % 16 = c then A (n / 16) * B (n % 16) else 0 := rfl
theorem accR_le (A B : Nat → Nat) (hA : ∀ i, i < 16 → A i < 65536) (hB : ∀ i, i < 16 → B i < 65536) (c : Nat) : ∀ n, n ≤ 256 → accR A B n c ≤ n * 4294836225
  | 0, _ => by unfold accR; omega
  | n + 1, h => by
    have h1 := accR_le A B hA hB c n (by omega)
    have ha := hA (n / 16) (by omega)
    have hb := hB (n % 16) (by omega)
    rw [accR_succ]
    have h2 : A (n / 16) * B (n % 16) ≤ 4294836225 := Nat.le_trans (Nat.mul_le_mul (show A (n / 16) ≤ 65535 by omega) (show B (n % 16) ≤ 65535 by omega)) (by decide)
    rw [Nat.succ_mul]
    refine Nat.add_le_add h1 ?_
    split
    · exact h2
    · exact Nat.zero_le _
theorem val16_zero (X : Nat → Nat) : val16 X 0 = 0 := rfl
theorem val16_none (X : Nat → Nat) (h : ∀ i, X i = 0) : ∀ n, val16 X n = 0
  | 0 => rfl
  | n + 1 => by rw [val16_succ, val16_none X h n, h n, Nat.zero_mul]
theorem accR_val (A B : Nat → Nat) (N : Nat) (hN : 32 ≤ N) : ∀ i, i ≤ 16 → ∀ k, k ≤ 16 → i * 16 + k ≤ 256 → val16 (accR A B (16 * i + k)) N = val16 A i * val16 B 16 + A i * 2 ^ (16 * i) * val16 B k := by
  have step : ∀ i k, i < 16 → k < 16 → val16 (accR A B (16 * i + (k + 1))) N = val16 (accR A B (16 * i + k)) N + A i * B k * 2 ^ (16 * (i + k)) := by
    intro i k hi hk
    have e : ∀ c, accR A B (16 * i + (k + 1)) c = accR A B (16 * i + k) c + if i + k = c then A i * B k else 0 := by
      intro c
      rw [← Nat.add_assoc, accR_succ]
      rw [show (16 * i + k) / 16 = i from by omega, show (16 * i + k) % 16 = k from by omega]
    rw [val16_congr _ _ N (fun c _ => e c), val16_put, if_pos (by omega)]
  have row : ∀ i, i < 16 → ∀ v, val16 (accR A B (16 * i)) N = v → ∀ k, k ≤ 16 → val16 (accR A B (16 * i + k)) N = v + A i * 2 ^ (16 * i) * val16 B k := by
    intro i hi v hv k
    induction k with
    | zero => intro _; rw [Nat.add_zero, hv, val16_zero, Nat.mul_zero, Nat.add_zero]
    | succ k ih =>
      intro hk
      rw [step i k hi (by omega), ih (by omega), val16_succ B k, Nat.mul_add 16 i k, Nat.pow_add, Nat.mul_add, Nat.mul_mul_mul_comm, Nat.add_assoc]
  have heads : ∀ i, i ≤ 16 → val16 (accR A B (16 * i)) N = val16 A i * val16 B 16 := by
    intro i
    induction i with
    | zero => intro _; rw [Nat.mul_zero, val16_none (accR A B 0) (fun _ => rfl), val16_zero, Nat.zero_mul]
    | succ i ih =>
      intro hi
      rw [show 16 * (i + 1) = 16 * i + 16 from by omega, row i (by omega) _ (ih (by omega)) 16 (Nat.le_refl _), val16_succ A i, Nat.add_mul]
  intro i hi k hk h
  by_cases h16 : i = 16
  · obtain rfl : k = 0 := by omega
    rw [Nat.add_zero, heads i hi, val16_zero, Nat.mul_zero, Nat.add_zero]
  · exact row i (by omega) _ (heads i hi) k hk
theorem acc_all (a b : Nat) (ha : a < 2 ^ 256) (hb : b < 2 ^ 256) : val16 (accR (partN a) (partN b) 256) 32 = a * b := by
  have := accR_val (partN a) (partN b) 32 (by omega) 16 (by omega) 0 (by omega) (by omega)
  rw [part_val, part_val, Nat.mod_eq_of_lt ha, Nat.mod_eq_of_lt hb, val16_zero, Nat.mul_zero, Nat.add_zero] at this
  exact this
theorem part_bytes (v i : Nat) : partN v i % 256 = v / 2 ^ (8 * (2 * i)) % 256 ∧ partN v i / 256 = v / 2 ^ (8 * (2 * i + 1)) % 256 := by
  unfold partN
  rw [show 8 * (2 * i) = 16 * i from by omega, show 8 * (2 * i + 1) = 16 * i + 8 from by omega, Nat.pow_add, ← Nat.div_div_eq_div_mul]
  constructor <;> omega

attribute [local irreducible] val16 ovR loR partN boN passN pN plusL accR
theorem Fold_is (L : Nat → Nat) (hL : ∀ i, i < 32 → L i < 1099511627776) (v : Nat) (hv : val16 L 32 = v) (w : World) :
    Calls Try.prog 40 #[.agg (arr .u64 32 fun i => ((L i : Nat) : Int))] w fun e w' => e = .returned (.agg (arr .u64 16 fun i => ((partN (v % pN) i : Nat) : Int))) ∧ Below w.heap.size w w' := by
  subst hv
  exact Fold_any L hL w
theorem mod_lt' (v : Nat) : v % pN < 2 ^ 256 := Nat.lt_trans (Nat.mod_lt _ pN_pos) (by unfold pN; decide +kernel)
set_option maxRecDepth 100000 in
set_option maxHeartbeats 4000000 in
theorem RAdd_any (a b : Nat) (ha : a < 2 ^ 256) (hb : b < 2 ^ 256) (w : World) :
    Calls Try.prog 42 #[.agg (arr .u64 16 fun i => ((partN a i : Nat) : Int)), .agg (arr .u64 16 fun i => ((partN b i : Nat) : Int))] w fun e w' => e = .returned (.agg (arr .u64 16 fun i => ((partN ((a + b) % pN) i : Nat) : Int))) ∧ Below w.heap.size w w' := by
  have ha' := Lib.hid ha
  have hb' := Lib.hid hb
  clear ha hb
  go_enter Try.func42, Try.ntmps42
  obtain ⟨h0, h1, h2, hsz, hB⟩ := alloc3 w (.cells (arr .u64 16 fun i => ((partN a i : Nat) : Int)) 51) (.cells (arr .u64 16 fun i => ((partN b i : Nat) : Int)) 51) (.cells (arr .u64 16 fun _ => 0) 51)
  go_upto_region 1 with (refine wpList_alloc_arr rfl rfl ZTNum ?_)
  generalize ((w.alloc (.cells (arr .u64 16 fun i => ((partN a i : Nat) : Int)) 51)).alloc (.cells (arr .u64 16 fun i => ((partN b i : Nat) : Int)) 51)).alloc (.cells (arr .u64 16 fun _ => 0) 51) = wa at *
  (try simp only [Act.put, List.setIfInBounds_toArray, List.set_cons_zero, List.set_cons_succ])
  try simp only [World.size_alloc]
  obtain ⟨h3, hz3, bl⟩ := alloc1 wa (.cells (arr .u64 32 fun _ => 0) 66)
  go_upto_region 2 with (refine wpList_alloc_arr rfl rfl ZT32 ?_)
  replace h0 := keep_below bl (by omega) h0
  replace h1 := keep_below bl (by omega) h1
  replace h2 := keep_below bl (by omega) h2
  replace hB := hB.trans (bl.mono (by omega))
  rw [hsz] at h3 ⊢
  generalize wa.alloc (.cells (arr .u64 32 fun _ => 0) 66) = wb at *
  clear hz3 bl hsz
  (try simp only [Act.put, List.setIfInBounds_toArray, List.set_cons_zero, List.set_cons_succ])
  go_wp2
  go_loopg [7] 16 (fun n i wr => ∃ m : Nat, m + n = 16 ∧ i = .int .i64 m ∧ wr.heap[w.heap.size]? = some (.cells (arr .u64 16 fun i => ((partN a i : Nat) : Int)) 51 (0, 0)) ∧ wr.heap[w.heap.size + 1]? = some (.cells (arr .u64 16 fun i => ((partN b i : Nat) : Int)) 51 (0, 0)) ∧ wr.heap[w.heap.size + 1 + 1]? = some (.cells (arr .u64 16 fun _ => 0) 51 (0, 0)) ∧
    wr.heap[w.heap.size + 3]? = some (.cells (arr .u64 32 fun i => ((if i < m then partN a i + partN b i else 0 : Nat) : Int)) 66 (0, 0)) ∧ Below w.heap.size w wr)
  case atStart => exact ⟨0, rfl, rfl, h0, h1, h2, blk_congr h3 (fun i _ => by rw [if_neg (Nat.not_lt_zero i)]; rfl), hB⟩
  case round =>
    clear h0 h1 h2 h3 hB
    obtain ⟨m, hm, rfl, h0, h1, h2, h3, hB⟩ := hrel
    have hm' := Lib.hid hm
    clear hm
    by_cases hlt : m < 16
    · have b0 := part_lt a m
      have b1 := part_lt b m
      have c0 := cell_arr h0 m (by omega)
      have c1 := cell_arr h1 m (by omega)
      have c3 := cell_arr h3 m (by omega)
      have fz := free_arr h3 m
      go_wp2
      refine wp_region_tail 9 (by kernel_rfl) (by kernel_rfl) ?_
      (simp only [List.take_succ_cons, List.take_zero, List.drop_succ_cons, List.drop_zero])
      repeat (refine wpStill_step (fun K hK => ?_); go_simp; (try (simp only [↓IntWalk.iteOmega]; go_simp)); (try go_bits); refine hK _ ?_; clear hK K)
      refine wpStill_nil ?_
      go_wp2
      go_roundg (gk - 1)
      case measure => have := hm'.out; omega
      case rel =>
        have hm'' := hm'.out
        refine ⟨m + 1, by omega, by go_num, keep_arr h0 _ _ (by omega), keep_arr h1 _ _ (by omega), keep_arr h2 _ _ (by omega), blk_congr (set_arr h3 m _) (fun i _ => ?_), (hB.setCell (by show w.heap.size ≤ w.heap.size + 3; omega) _).drew⟩
        unfold upd
        by_cases h : i = m
        · rw [if_pos h, h, if_pos (by omega)]; omega
        · rw [if_neg h]
          dsimp only
          by_cases h2 : i < m
          · rw [if_pos h2, if_pos (by omega)]
          · rw [if_neg h2, if_neg (by omega)]
    · obtain rfl : m = 16 := by have := hm'.out; omega
      replace h3 := blk_congr (f' := fun i => ((plusL a b i : Nat) : Int)) h3 (fun i _ => by unfold plusL; rfl)
      go_wp2_with (first | (refine wpList_load_arr rfl rfl rfl RT32 h3 ?_) | (go_at_call 40; fail))
      refine (Fold_is (plusL a b) (fun i _ => plus_lt a b i) (a + b) (plus_val a b ha'.out hb'.out) _).mono ?_
      rintro e w4 ⟨rfl, b4⟩
      replace h2 := keep_below b4 (lt_of_block h2) h2
      replace hB := hB.trans (b4.mono hB.size)
      go_wp2_with (refine wpList_store_arr rfl rfl rfl rfl RTNum h2 ?_)
      exact bodyPost_ret (results_arr rfl rfl RTNum (row_self h2)) rfl ⟨rfl, row_below hB (by omega) _⟩
set_option maxRecDepth 100000 in
set_option maxHeartbeats 4000000 in
theorem RSub_any (a b : Nat) (ha : a < 2 ^ 256) (hb : b < pN) (w : World) :
    Calls Try.prog 41 #[.agg (arr .u64 16 fun i => ((partN a i : Nat) : Int)), .agg (arr .u64 16 fun i => ((partN b i : Nat) : Int))] w fun e w' => e = .returned (.agg (arr .u64 16 fun i => ((partN ((a + (pN - b)) % pN) i : Nat) : Int))) ∧ Below w.heap.size w w' := by
  have ha' := Lib.hid ha
  have hb' := Lib.hid hb
  clear ha hb
  go_enter Try.func41, Try.ntmps41
  obtain ⟨h0, h1, h2, hsz, hB⟩ := alloc3 w (.cells (arr .u64 16 fun i => ((partN a i : Nat) : Int)) 51) (.cells (arr .u64 16 fun i => ((partN b i : Nat) : Int)) 51) (.cells (arr .u64 16 fun _ => 0) 51)
  go_upto_region 1 with (refine wpList_alloc_arr rfl rfl ZTNum ?_)
  generalize ((w.alloc (.cells (arr .u64 16 fun i => ((partN a i : Nat) : Int)) 51)).alloc (.cells (arr .u64 16 fun i => ((partN b i : Nat) : Int)) 51)).alloc (.cells (arr .u64 16 fun _ => 0) 51) = wa at *
  (try simp only [Act.put, List.setIfInBounds_toArray, List.set_cons_zero, List.set_cons_succ])
  try simp only [World.size_alloc]
  obtain ⟨h3, hz3, bl⟩ := alloc1 wa (.cells (arr .u64 32 fun _ => 0) 66)
  go_upto_region 2 with (refine wpList_alloc_arr rfl rfl ZT32 ?_)
  replace h0 := keep_below bl (by omega) h0
  replace h1 := keep_below bl (by omega) h1
  replace h2 := keep_below bl (by omega) h2
  replace hB := hB.trans (bl.mono (by omega))
  rw [hsz] at h3 ⊢
  generalize wa.alloc (.cells (arr .u64 32 fun _ => 0) 66) = wb at *
  clear hz3 bl hsz
  (try simp only [Act.put, List.setIfInBounds_toArray, List.set_cons_zero, List.set_cons_succ])
  go_wp2
  go_loopg [6, 9] 16 (fun n u i wr => ∃ m : Nat, m + n = 16 ∧ i = .int .i64 m ∧ u = .int .u64 ((boN pN b m : Nat) : Int) ∧ wr.heap[w.heap.size]? = some (.cells (arr .u64 16 fun i => ((partN a i : Nat) : Int)) 51 (0, 0)) ∧ wr.heap[w.heap.size + 1]? = some (.cells (arr .u64 16 fun i => ((partN b i : Nat) : Int)) 51 (0, 0)) ∧ wr.heap[w.heap.size + 1 + 1]? = some (.cells (arr .u64 16 fun _ => 0) 51 (0, 0)) ∧
    wr.heap[w.heap.size + 3]? = some (.cells (arr .u64 32 fun i => ((if i < m then partN a i + partN (pN - b) i else 0 : Nat) : Int)) 66 (0, 0)) ∧ Below w.heap.size w wr)
  case atStart => exact ⟨0, rfl, rfl, (by rw [bo_zero]; rfl), h0, h1, h2, blk_congr h3 (fun i _ => by rw [if_neg (Nat.not_lt_zero i)]; rfl), hB⟩
  case round =>
    clear h0 h1 h2 h3 hB
    obtain ⟨m, hm, rfl, rfl, h0, h1, h2, h3, hB⟩ := hrel
    have hm' := Lib.hid hm
    clear hm
    by_cases hlt : m < 16
    · have b0 := part_lt a m
      have pv := part_lt pN m
      have pp := part_lt b m
      have ub : boN pN b m ≤ 1 := by unfold boN; split <;> omega
      have ss := Lib.hid (sub_step pN b m (Nat.le_of_lt hb'.out))
      have c0 := cell_arr h0 m (by omega)
      have c1 := cell_arr h1 m (by omega)
      have c3 := cell_arr h3 m (by omega)
      have fz := free_arr h3 m
      have hl := lt_of_block h1
      go_wp2
      refine wp_region_can wr.heap.size 9 [(0, false), (3, false), (4, false), (5, false), (7, false), (1, true), (2, false), (6, false), (8, false)] (by kernel_rfl) (by kernel_rfl) ?_
      (simp only [canOps, List.getElem?_cons_zero, List.getElem?_cons_succ, List.drop_succ_cons, List.drop_zero])
      iterate 5 (first | (refine wpCan_move rfl rfl (fun _ _ _ _ h => h) ?_; (simp only [Act.put, Act.eval, Array.getD_eq_getD_getElem?, List.getElem?_toArray, List.getElem?_cons_zero, List.getElem?_cons_succ, Option.getD_some, List.setIfInBounds_toArray, List.set_cons_zero, List.set_cons_succ])) | (refine wpCan_assign rfl rfl (fun _ _ _ _ h => h) ?_; (simp only [Act.put, Act.eval, Array.getD_eq_getD_getElem?, List.getElem?_toArray, List.getElem?_cons_zero, List.getElem?_cons_succ, Option.getD_some, List.setIfInBounds_toArray, List.set_cons_zero, List.set_cons_succ])) | (refine wpCan_nilCheck rfl rfl rfl (fun _ _ _ _ h => h) ?_; (simp only [Act.put, List.setIfInBounds_toArray, List.set_cons_zero, List.set_cons_succ])) | (refine wpCan_q rfl rfl (fun _ _ _ _ h => h) (by first | exact .bin rfl rfl rfl | exact .indexAddr rfl | exact .un rfl | exact .extract rfl | exact .index rfl | exact .field rfl | exact .slice rfl | exact .load rfl rfl hl h1) (fun K hK => ?_); go_simp; (try (simp only [↓IntWalk.iteOmega]; go_simp)); (try go_bits); refine hK _ ?_; clear hK K))
      refine wpCan_e rfl (fun K hK => ?_)
      go_simp
      refine (p_any m hlt _).mono ?_
      rintro e w4 ⟨rfl, rfl⟩
      refine hK _ _ (Keep.refl _ _) ?_
      clear hK K
      (try simp only [Act.put, List.setIfInBounds_toArray, List.set_cons_zero, List.set_cons_succ])
      iterate 3 (first | (refine wpCan_move rfl rfl (fun _ _ _ _ h => h) ?_; (simp only [Act.put, Act.eval, Array.getD_eq_getD_getElem?, List.getElem?_toArray, List.getElem?_cons_zero, List.getElem?_cons_succ, Option.getD_some, List.setIfInBounds_toArray, List.set_cons_zero, List.set_cons_succ])) | (refine wpCan_assign rfl rfl (fun _ _ _ _ h => h) ?_; (simp only [Act.put, Act.eval, Array.getD_eq_getD_getElem?, List.getElem?_toArray, List.getElem?_cons_zero, List.getElem?_cons_succ, Option.getD_some, List.setIfInBounds_toArray, List.set_cons_zero, List.set_cons_succ])) | (refine wpCan_nilCheck rfl rfl rfl (fun _ _ _ _ h => h) ?_; (simp only [Act.put, List.setIfInBounds_toArray, List.set_cons_zero, List.set_cons_succ])) | (refine wpCan_q rfl rfl (fun _ _ _ _ h => h) (by first | exact .bin rfl rfl rfl | exact .indexAddr rfl | exact .un rfl | exact .extract rfl | exact .index rfl | exact .field rfl | exact .slice rfl) (fun K hK => ?_); go_simp; (try (simp only [↓IntWalk.iteOmega]; go_simp)); (try go_bits); refine hK _ ?_; clear hK K))
      refine wpCan_nil ?_
      go_wp2
      go_roundg (gk - 1)
      case measure => have := hm'.out; omega
      case rel =>
        have hm'' := hm'.out
        obtain ⟨s1, s2⟩ := ss.out
        refine ⟨m + 1, by omega, by go_num, ?_, keep_arr h0 _ _ (by omega), keep_arr h1 _ _ (by omega), keep_arr h2 _ _ (by omega), blk_congr (set_arr h3 m _) (fun i _ => ?_), hB.drew.setCell (by show w.heap.size ≤ w.heap.size + 3; omega) _⟩
        · rw [← s2]; congr 1; omega
        · unfold upd
          by_cases h : i = m
          · rw [if_pos h, h, if_pos (by omega)]; rw [← s1]; omega
          · rw [if_neg h]
            dsimp only
            by_cases h2 : i < m
            · rw [if_pos h2, if_pos (by omega)]
            · rw [if_neg h2, if_neg (by omega)]
    · obtain rfl : m = 16 := by have := hm'.out; omega
      replace h3 := blk_congr (f' := fun i => ((plusL a (pN - b) i : Nat) : Int)) h3 (fun i _ => by unfold plusL; rfl)
      have hs : pN - b < 2 ^ 256 := Nat.lt_of_le_of_lt (Nat.sub_le _ _) (by unfold pN; decide +kernel)
      have HS := Lib.hid hs
      clear hs
      go_wp2_with (first | (refine wpList_load_arr rfl rfl rfl RT32 h3 ?_) | (go_at_call 40; fail))
      refine (Fold_is (plusL a (pN - b)) (fun i _ => plus_lt a _ i) (a + (pN - b)) (plus_val a _ ha'.out HS.out) _).mono ?_
      rintro e w4 ⟨rfl, b4⟩
      replace h2 := keep_below b4 (lt_of_block h2) h2
      replace hB := hB.trans (b4.mono hB.size)
      go_wp2_with (refine wpList_store_arr rfl rfl rfl rfl RTNum h2 ?_)
      exact bodyPost_ret (results_arr rfl rfl RTNum (row_self h2)) rfl ⟨rfl, row_below hB (by omega) _⟩
set_option maxRecDepth 100000 in
set_option maxHeartbeats 4000000 in
theorem RMul_any (a b : Nat) (ha : a < 2 ^ 256) (hb : b < 2 ^ 256) (w : World) :
    Calls Try.prog 29 #[.agg (arr .u64 16 fun i => ((partN a i : Nat) : Int)), .agg (arr .u64 16 fun i => ((partN b i : Nat) : Int))] w fun e w' => e = .returned (.agg (arr .u64 16 fun i => ((partN (a * b % pN) i : Nat) : Int))) ∧ Below w.heap.size w w' := by
  have ha' := Lib.hid ha
  have hb' := Lib.hid hb
  clear ha hb
  go_enter Try.func29, Try.ntmps29
  obtain ⟨h0, h1, h2, hsz, hB⟩ := alloc3 w (.cells (arr .u64 16 fun i => ((partN a i : Nat) : Int)) 51) (.cells (arr .u64 16 fun i => ((partN b i : Nat) : Int)) 51) (.cells (arr .u64 16 fun _ => 0) 51)
  go_upto_region 1 with (refine wpList_alloc_arr rfl rfl ZTNum ?_)
  generalize ((w.alloc (.cells (arr .u64 16 fun i => ((partN a i : Nat) : Int)) 51)).alloc (.cells (arr .u64 16 fun i => ((partN b i : Nat) : Int)) 51)).alloc (.cells (arr .u64 16 fun _ => 0) 51) = wa at *
  (try simp only [Act.put, List.setIfInBounds_toArray, List.set_cons_zero, List.set_cons_succ])
  try simp only [World.size_alloc]
  obtain ⟨h3, hz3, bl⟩ := alloc1 wa (.cells (arr .u64 32 fun _ => 0) 66)
  go_upto_region 2 with (refine wpList_alloc_arr rfl rfl ZT32 ?_)
  replace h0 := keep_below bl (by omega) h0
  replace h1 := keep_below bl (by omega) h1
  replace h2 := keep_below bl (by omega) h2
  replace hB := hB.trans (bl.mono (by omega))
  rw [hsz] at h3 ⊢
  generalize wa.alloc (.cells (arr .u64 32 fun _ => 0) 66) = wb at *
  clear hz3 bl hsz
  (try simp only [Act.put, List.setIfInBounds_toArray, List.set_cons_zero, List.set_cons_succ])
  have al := Lib.hid (accR_le (partN a) (partN b) (fun i _ => part_lt a i) (fun i _ => part_lt b i))
  go_wp2_with (refine wpList_load_arr rfl rfl rfl RTNum h0 ?_)
  go_loopg [11] 16 (fun n i wr => ∃ m : Nat, m + n = 16 ∧ i = .int .i64 m ∧ wr.heap[w.heap.size]? = some (.cells (arr .u64 16 fun i => ((partN a i : Nat) : Int)) 51 (0, 0)) ∧ wr.heap[w.heap.size + 1]? = some (.cells (arr .u64 16 fun i => ((partN b i : Nat) : Int)) 51 (0, 0)) ∧ wr.heap[w.heap.size + 1 + 1]? = some (.cells (arr .u64 16 fun _ => 0) 51 (0, 0)) ∧
    wr.heap[w.heap.size + 3]? = some (.cells (arr .u64 32 fun i => ((accR (partN a) (partN b) (16 * m) i : Nat) : Int)) 66 (0, 0)) ∧ Below w.heap.size w wr)
  case atStart => exact ⟨0, rfl, rfl, h0, h1, h2, blk_congr h3 (fun i _ => by unfold accR; rfl), hB⟩
  case round =>
    clear h0 h1 h2 h3 hB
    obtain ⟨m, hm, rfl, h0, h1, h2, h3, hB⟩ := hrel
    obtain ⟨go1, rfl⟩ : ∃ x, x = gk := ⟨_, rfl⟩
    have hm' := Lib.hid hm
    clear hm
    by_cases hlt : m < 16
    · have b0 := part_lt a m
      go_wp2_with (first | (refine wpList_index_cell rfl rfl Try.underlying51 Try.underlying32 rfl SZU64 rfl rfl (by omega) (by omega) (by omega) ?_) | (refine wpList_load_arr rfl rfl rfl RTNum h1 ?_))
      go_loopg [16] 16 (fun n i wr => ∃ j : Nat, j + n = 16 ∧ i = .int .i64 j ∧ wr.heap[w.heap.size]? = some (.cells (arr .u64 16 fun i => ((partN a i : Nat) : Int)) 51 (0, 0)) ∧ wr.heap[w.heap.size + 1]? = some (.cells (arr .u64 16 fun i => ((partN b i : Nat) : Int)) 51 (0, 0)) ∧ wr.heap[w.heap.size + 1 + 1]? = some (.cells (arr .u64 16 fun _ => 0) 51 (0, 0)) ∧
    wr.heap[w.heap.size + 3]? = some (.cells (arr .u64 32 fun i => ((accR (partN a) (partN b) (16 * m + j) i : Nat) : Int)) 66 (0, 0)) ∧ Below w.heap.size w wr)
      case atStart => exact ⟨0, rfl, rfl, h0, h1, h2, h3, hB⟩
      case round =>
        clear h0 h1 h2 h3 hB
        obtain ⟨j, hj, rfl, h0, h1, h2, h3, hB⟩ := hrel
        have hj' := Lib.hid hj
        clear hj
        by_cases hlj : j < 16
        · have b1 := part_lt b j
          have c3 := cell_arr h3 (m + j) (by omega)
          have fz := free_arr h3 (m + j)
          have ab := al.out (m + j) (16 * m + j) (by omega)
          have pm : partN a m * partN b j ≤ 4294836225 := Nat.le_trans (Nat.mul_le_mul (show partN a m ≤ 65535 by omega) (show partN b j ≤ 65535 by omega)) (by decide)
          have d1 : (16 * m + j) / 16 = m := by omega
          have d2 : (16 * m + j) % 16 = j := by omega
          have st : ∀ i, accR (partN a) (partN b) (16 * m + (j + 1)) i = accR (partN a) (partN b) (16 * m + j) i + if m + j = i then partN a m * partN b j else 0 := by
            intro i
            rw [← Nat.add_assoc, accR_succ, d1, d2]
          obtain ⟨pr, hpr⟩ : ∃ v : Nat, v = partN a m * partN b j := ⟨_, rfl⟩
          have ep : (partN a m : Int) * (partN b j : Int) = (pr : Int) := by rw [hpr, Int.natCast_mul]
          rw [← hpr] at pm st
          have ab2 : accR (partN a) (partN b) (16 * m + j) (m + j) ≤ 1099478073600 := by omega
          have ST := Lib.hid st
          clear ab d1 d2 st hpr
          go_wp2_with (refine wpList_index_cell rfl rfl Try.underlying51 Try.underlying32 rfl SZU64 rfl rfl (by omega) (by omega) (by omega) ?_)
          go_roundg (gk - 1)
          case measure => have := hj'.out; omega
          case rel =>
            have hj'' := hj'.out
            refine ⟨j + 1, by omega, by go_num, keep_arr h0 _ _ (by omega), keep_arr h1 _ _ (by omega), keep_arr h2 _ _ (by omega), blk_congr (set_arr h3 (m + j) _) (fun i _ => ?_), hB.setCell (by show w.heap.size ≤ w.heap.size + 3; omega) _⟩
            rw [ST.out i]
            unfold upd
            by_cases h : i = m + j
            · rw [if_pos h, if_pos h.symm, h]; omega
            · rw [if_neg h, if_neg (fun e => h e.symm)]; rfl
        · obtain rfl : j = 16 := by have := hj'.out; omega
          go_wp2
          go_roundg (go1 - 1)
          case measure => have := hm'.out; omega
          case rel =>
            have hm'' := hm'.out
            exact ⟨m + 1, by omega, by go_num, h0, h1, h2, h3, hB⟩
    · obtain rfl : m = 16 := by have := hm'.out; omega
      go_wp2_with (first | (refine wpList_load_arr rfl rfl rfl RT32 h3 ?_) | (go_at_call 40; fail))
      refine (Fold_is (accR (partN a) (partN b) 256) (fun i _ => by have := al.out i 256 (by omega); omega) (a * b) (acc_all a b ha'.out hb'.out) _).mono ?_
      rintro e w4 ⟨rfl, b4⟩
      replace h2 := keep_below b4 (lt_of_block h2) h2
      replace hB := hB.trans (b4.mono hB.size)
      go_wp2_with (refine wpList_store_arr rfl rfl rfl rfl RTNum h2 ?_)
      exact bodyPost_ret (results_arr rfl rfl RTNum (row_self h2)) rfl ⟨rfl, row_below hB (by omega) _⟩
end Go.Proofs.Ythgjhipfgdlbnaa
