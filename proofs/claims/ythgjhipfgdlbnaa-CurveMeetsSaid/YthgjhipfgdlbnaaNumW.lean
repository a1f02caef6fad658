/- The walks of layer 5's reference: the prime's parts, which is less, and folding. -/
import Derived.Test.YthgjhipfgdlbnaaNumF
import Derived.Test.YthgjhipfgdlbnaaFeU
namespace Go.Proofs.Ythgjhipfgdlbnaa
set_option linter.unusedSimpArgs false
set_option linter.unusedVariables false
open Go.RowKit
attribute [local irreducible] val16 ovR loR partN boN passN pN
theorem RTNum : RowT Try.prog 51 16 := ⟨_, Try.underlying51, rfl, by kernel_rfl⟩
theorem ZTNum : ZeroT Try.prog 51 .u64 16 := by unfold ZeroT; kernel_rfl
theorem RT32 : RowT Try.prog 66 32 := ⟨_, Try.underlying66, rfl, by kernel_rfl⟩
theorem ZT32 : ZeroT Try.prog 66 .u64 32 := by unfold ZeroT; kernel_rfl

theorem p_any (i : Nat) (hi : i < 16) (w : World) :
    Calls Try.prog 52 #[.int .i64 i] w fun e w' => e = .returned (.int .u64 ((partN pN i : Nat) : Int)) ∧ w = w' := by
  rw [p_part i hi]
  by_cases h0 : i = 0
  · subst h0
    go_enter Try.func52, Try.ntmps52
    go_wp2
    go_ret
    exact ⟨rfl, rfl⟩
  · by_cases h15 : i = 15
    · subst h15
      go_enter Try.func52, Try.ntmps52
      go_wp2
      go_ret
      exact ⟨rfl, rfl⟩
    · rw [if_neg h0, if_neg h15]
      have e0 : ((i : Int) == 0) = false := by rw [beq_eq_false_iff_ne]; omega
      have e1 : ((i : Int) == 15) = false := by rw [beq_eq_false_iff_ne]; omega
      clear h0 h15
      go_enter Try.func52, Try.ntmps52
      go_wp2
      go_ret
      exact ⟨rfl, rfl⟩

theorem less_bool {v p i : Nat} (h : v / 2 ^ (16 * (i + 1)) = p / 2 ^ (16 * (i + 1))) (hne : partN v i ≠ partN p i) : decide ((partN v i : Int) < (partN p i : Int)) = decide (v < p) := by
  rw [less_part v p i h hne]
  exact decide_eq_decide.2 (by omega)
theorem ne_bool {a b : Nat} (h : a ≠ b) : ((a : Int) != (b : Int)) = true := by rw [bne_iff_ne]; omega
theorem eq_bool {a b : Nat} (h : a = b) : ((a : Int) != (b : Int)) = false := by subst h; simp
set_option maxRecDepth 100000 in
set_option maxHeartbeats 1000000 in
theorem below_any (v : Nat) (hv : v < 2 ^ 256) (w : World) :
    Calls Try.prog 51 #[.agg (arr .u64 16 fun i => ((partN v i : Nat) : Int))] w fun e w' => e = .returned (.bool (decide (v < pN))) ∧ Below w.heap.size w w' := by
  have hv0 : v / 2 ^ (16 * 16) = pN / 2 ^ (16 * 16) := by rw [Nat.div_eq_of_lt hv, Nat.div_eq_of_lt (by unfold pN; decide +kernel)]
  have hv' := Lib.hid hv
  have HV0 := Lib.hid hv0
  clear hv hv0
  go_enter Try.func51, Try.ntmps51
  obtain ⟨g0, hz, hb⟩ := alloc1 w (.cells (arr .u64 16 fun i => ((partN v i : Nat) : Int)) 51)
  go_wp2
  clear hz
  go_loopg [3] 16 (fun n i wr => i = .int .i64 ((n : Int) - 1) ∧ n ≤ 16 ∧ v / 2 ^ (16 * n) = pN / 2 ^ (16 * n) ∧ wr.heap[w.heap.size]? = some (.cells (arr .u64 16 fun i => ((partN v i : Nat) : Int)) 51 (0, 0)) ∧ Below w.heap.size w wr)
  case atStart => exact ⟨rfl, Nat.le_refl _, HV0.out, g0, hb⟩
  case round =>
    clear g0 hb
    obtain ⟨rfl, hn, heq, g0, hB⟩ := hrel
    have heq' := Lib.hid heq
    clear heq
    rcases Nat.eq_zero_or_pos gk with hz | hz
    · subst hz
      have ef : decide (v < pN) = false := by
        have := heq'.out
        simp only [Nat.mul_zero, Nat.pow_zero, Nat.div_one] at this
        exact decide_eq_false (by omega)
      have EF := Lib.hid ef
      clear ef
      go_wp2
      go_ret
      refine ⟨?_, hB⟩
      rw [EF.out]
      rfl
    · obtain ⟨k, rfl⟩ : ∃ k, gk = k + 1 := ⟨gk - 1, by omega⟩
      have ek : ((k + 1 : Nat) : Int) - 1 = (k : Int) := by omega
      rw [ek]
      have c0 := cell_arr g0 k (by omega)
      have hl := lt_of_block g0
      clear hz ek
      by_cases hne : partN v k = partN pN k
      · have en := eq_bool hne
        have HN := Lib.hid hne
        clear hne
        go_wp2
        refine wp_region_can wr.heap.size 5 [(0, false), (1, false), (2, false), (3, false), (4, true)] (by kernel_rfl) (by kernel_rfl) ?_
        (simp only [canOps, List.getElem?_cons_zero, List.getElem?_cons_succ, List.drop_succ_cons, List.drop_zero])
        iterate 4 (first | (refine wpCan_move rfl rfl (fun _ _ _ _ h => h) ?_; (simp only [Act.put, Act.eval, Array.getD_eq_getD_getElem?, List.getElem?_toArray, List.getElem?_cons_zero, List.getElem?_cons_succ, Option.getD_some, List.setIfInBounds_toArray, List.set_cons_zero, List.set_cons_succ])) | (refine wpCan_assign rfl rfl (fun _ _ _ _ h => h) ?_; (simp only [Act.put, Act.eval, Array.getD_eq_getD_getElem?, List.getElem?_toArray, List.getElem?_cons_zero, List.getElem?_cons_succ, Option.getD_some, List.setIfInBounds_toArray, List.set_cons_zero, List.set_cons_succ])) | (refine wpCan_nilCheck rfl rfl rfl (fun _ _ _ _ h => h) ?_; (simp only [Act.put, List.setIfInBounds_toArray, List.set_cons_zero, List.set_cons_succ])) | (refine wpCan_q rfl rfl (fun _ _ _ _ h => h) (by first | exact .bin rfl rfl rfl | exact .indexAddr rfl | exact .un rfl | exact .extract rfl | exact .index rfl | exact .field rfl | exact .slice rfl | exact .load rfl rfl hl g0) (fun K hK => ?_); go_simp; (try (simp only [↓IntWalk.iteOmega]; go_simp)); (try go_bits); refine hK _ ?_; clear hK K))
        refine wpCan_e rfl (fun K hK => ?_)
        go_simp
        refine (p_any k (by omega) _).mono ?_
        rintro e w4 ⟨rfl, rfl⟩
        refine hK _ _ (Keep.refl _ _) ?_
        clear hK K
        (try simp only [Act.put, List.setIfInBounds_toArray, List.set_cons_zero, List.set_cons_succ])
        refine wpCan_nil ?_
        go_wp2
        go_roundg k
        case rel =>
          have heq := heq'.out
          refine ⟨by go_num, by omega, ?_, g0, hB.drew⟩
          rw [div_up v k, div_up pN k, heq, HN.out]
        case measure => omega
      · have en := ne_bool hne
        have lb := less_part v pN k heq'.out hne
        have LB := Lib.hid lb
        clear hne lb
        go_wp2
        refine wp_region_can wr.heap.size 5 [(0, false), (1, false), (2, false), (3, false), (4, true)] (by kernel_rfl) (by kernel_rfl) ?_
        (simp only [canOps, List.getElem?_cons_zero, List.getElem?_cons_succ, List.drop_succ_cons, List.drop_zero])
        iterate 4 (first | (refine wpCan_move rfl rfl (fun _ _ _ _ h => h) ?_; (simp only [Act.put, Act.eval, Array.getD_eq_getD_getElem?, List.getElem?_toArray, List.getElem?_cons_zero, List.getElem?_cons_succ, Option.getD_some, List.setIfInBounds_toArray, List.set_cons_zero, List.set_cons_succ])) | (refine wpCan_assign rfl rfl (fun _ _ _ _ h => h) ?_; (simp only [Act.put, Act.eval, Array.getD_eq_getD_getElem?, List.getElem?_toArray, List.getElem?_cons_zero, List.getElem?_cons_succ, Option.getD_some, List.setIfInBounds_toArray, List.set_cons_zero, List.set_cons_succ])) | (refine wpCan_nilCheck rfl rfl rfl (fun _ _ _ _ h => h) ?_; (simp only [Act.put, List.setIfInBounds_toArray, List.set_cons_zero, List.set_cons_succ])) | (refine wpCan_q rfl rfl (fun _ _ _ _ h => h) (by first | exact .bin rfl rfl rfl | exact .indexAddr rfl | exact .un rfl | exact .extract rfl | exact .index rfl | exact .field rfl | exact .slice rfl | exact .load rfl rfl hl g0) (fun K hK => ?_); go_simp; (try (simp only [↓IntWalk.iteOmega]; go_simp)); (try go_bits); refine hK _ ?_; clear hK K))
        refine wpCan_e rfl (fun K hK => ?_)
        go_simp
        refine (p_any k (by omega) _).mono ?_
        rintro e w4 ⟨rfl, rfl⟩
        refine hK _ _ (Keep.refl _ _) ?_
        clear hK K
        (try simp only [Act.put, List.setIfInBounds_toArray, List.set_cons_zero, List.set_cons_succ])
        refine wpCan_nil ?_
        go_wp2
        refine wp_region_can wr.heap.size 6 [(0, false), (1, false), (2, false), (3, false), (4, true), (5, false)] (by kernel_rfl) (by kernel_rfl) ?_
        (simp only [canOps, List.getElem?_cons_zero, List.getElem?_cons_succ, List.drop_succ_cons, List.drop_zero])
        iterate 4 (first | (refine wpCan_move rfl rfl (fun _ _ _ _ h => h) ?_; (simp only [Act.put, Act.eval, Array.getD_eq_getD_getElem?, List.getElem?_toArray, List.getElem?_cons_zero, List.getElem?_cons_succ, Option.getD_some, List.setIfInBounds_toArray, List.set_cons_zero, List.set_cons_succ])) | (refine wpCan_assign rfl rfl (fun _ _ _ _ h => h) ?_; (simp only [Act.put, Act.eval, Array.getD_eq_getD_getElem?, List.getElem?_toArray, List.getElem?_cons_zero, List.getElem?_cons_succ, Option.getD_some, List.setIfInBounds_toArray, List.set_cons_zero, List.set_cons_succ])) | (refine wpCan_nilCheck rfl rfl rfl (fun _ _ _ _ h => h) ?_; (simp only [Act.put, List.setIfInBounds_toArray, List.set_cons_zero, List.set_cons_succ])) | (refine wpCan_q rfl rfl (fun _ _ _ _ h => h) (by first | exact .bin rfl rfl rfl | exact .indexAddr rfl | exact .un rfl | exact .extract rfl | exact .index rfl | exact .field rfl | exact .slice rfl | exact .load rfl rfl hl g0) (fun K hK => ?_); go_simp; (try (simp only [↓IntWalk.iteOmega]; go_simp)); (try go_bits); refine hK _ ?_; clear hK K))
        refine wpCan_e rfl (fun K hK => ?_)
        go_simp
        refine (p_any k (by omega) _).mono ?_
        rintro e w4 ⟨rfl, rfl⟩
        refine hK _ _ (Keep.refl _ _) ?_
        clear hK K
        (try simp only [Act.put, List.setIfInBounds_toArray, List.set_cons_zero, List.set_cons_succ])
        iterate 1 (first | (refine wpCan_move rfl rfl (fun _ _ _ _ h => h) ?_; (simp only [Act.put, Act.eval, Array.getD_eq_getD_getElem?, List.getElem?_toArray, List.getElem?_cons_zero, List.getElem?_cons_succ, Option.getD_some, List.setIfInBounds_toArray, List.set_cons_zero, List.set_cons_succ])) | (refine wpCan_assign rfl rfl (fun _ _ _ _ h => h) ?_; (simp only [Act.put, Act.eval, Array.getD_eq_getD_getElem?, List.getElem?_toArray, List.getElem?_cons_zero, List.getElem?_cons_succ, Option.getD_some, List.setIfInBounds_toArray, List.set_cons_zero, List.set_cons_succ])) | (refine wpCan_nilCheck rfl rfl rfl (fun _ _ _ _ h => h) ?_; (simp only [Act.put, List.setIfInBounds_toArray, List.set_cons_zero, List.set_cons_succ])) | (refine wpCan_q rfl rfl (fun _ _ _ _ h => h) (by first | exact .bin rfl rfl rfl | exact .indexAddr rfl | exact .un rfl | exact .extract rfl | exact .index rfl | exact .field rfl | exact .slice rfl) (fun K hK => ?_); go_simp; (try (simp only [↓IntWalk.iteOmega]; go_simp)); (try go_bits); refine hK _ ?_; clear hK K))
        refine wpCan_nil ?_
        go_wp2
        go_ret
        refine ⟨?_, hB.drew.drew⟩
        rw [LB.out]
        rfl
theorem pN_pos : 0 < pN := by unfold pN; omega
set_option maxRecDepth 100000 in
set_option maxHeartbeats 4000000 in
theorem Fold_any (L : Nat → Nat) (hL : ∀ i, i < 32 → L i < 1099511627776) (w : World) :
    Calls Try.prog 40 #[.agg (arr .u64 32 fun i => ((L i : Nat) : Int))] w fun e w' => e = .returned (.agg (arr .u64 16 fun i => ((partN (val16 L 32 % pN) i : Nat) : Int))) ∧ Below w.heap.size w w' := by
  go_enter Try.func40, Try.ntmps40
  obtain ⟨h0, h1, hsz, hb⟩ := alloc2 w (.cells (arr .u64 32 fun i => ((L i : Nat) : Int)) 66) (.cells (arr .u64 16 fun _ => 0) 51)
  go_upto_region 1 with (refine wpList_alloc_arr rfl rfl ZTNum ?_)
  generalize (w.alloc (.cells (arr .u64 32 fun i => ((L i : Nat) : Int)) 66)).alloc (.cells (arr .u64 16 fun _ => 0) 51) = wa at *
  (try simp only [Act.put, List.setIfInBounds_toArray, List.set_cons_zero, List.set_cons_succ])
  try simp only [World.size_alloc]
  obtain ⟨h2, hz3, bl⟩ := alloc1 wa (.cells (arr .u64 16 fun _ => 0) 51)
  go_upto_region 2 with (refine wpList_alloc_arr rfl rfl ZTNum ?_)
  replace h0 := keep_below bl (by omega) h0
  replace h1 := keep_below bl (by omega) h1
  replace hb := hb.trans (bl.mono (by omega))
  rw [hsz] at h2 ⊢
  generalize wa.alloc (.cells (arr .u64 16 fun _ => 0) 51) = wb at *
  clear hz3 bl hsz
  (try simp only [Act.put, List.setIfInBounds_toArray, List.set_cons_zero, List.set_cons_succ])
  have hL' := Lib.hid hL
  clear hL
  go_wp2
  go_loopg [10] 16 (fun n i wr => ∃ m : Nat, m + n = 16 ∧ i = .int .i64 m ∧ wr.heap[w.heap.size]? = some (.cells (arr .u64 32 fun i => ((L i : Nat) : Int)) 66 (0, 0)) ∧ wr.heap[w.heap.size + 1]? = some (.cells (arr .u64 16 fun _ => 0) 51 (0, 0)) ∧
    wr.heap[w.heap.size + 2]? = some (.cells (arr .u64 16 fun i => ((if i < m then L i + 38 * L (16 + i) else 0 : Nat) : Int)) 51 (0, 0)) ∧ Below w.heap.size w wr)
  case atStart => exact ⟨0, rfl, rfl, h0, h1, blk_congr h2 (fun i _ => by rw [if_neg (Nat.not_lt_zero i)]; rfl), hb⟩
  case round =>
    clear h0 h1 h2 hb
    obtain ⟨m, hm, rfl, h0, h1, h2, hB⟩ := hrel
    have hm' := Lib.hid hm
    clear hm
    by_cases hlt : m < 16
    · have b0 := hL'.out m (by omega)
      have b1 := hL'.out (16 + m) (by omega)
      have c0 := cell_arr h0 m (by omega)
      have c1 := cell_arr h0 (16 + m) (by omega)
      have c2 := cell_arr h2 m hlt
      have fz := free_arr h2 m
      go_wp2
      refine wp_region_tail 11 (by kernel_rfl) (by kernel_rfl) ?_
      (simp only [List.take_succ_cons, List.take_zero, List.drop_succ_cons, List.drop_zero])
      repeat (refine wpStill_step (fun K hK => ?_); go_simp; (try (simp only [↓IntWalk.iteOmega]; go_simp)); (try go_bits); refine hK _ ?_; clear hK K)
      refine wpStill_nil ?_
      go_wp2
      go_roundg (gk - 1)
      case measure => have := hm'.out; omega
      case rel =>
        have hm'' := hm'.out
        refine ⟨m + 1, by omega, by go_num, keep_arr h0 _ _ (by omega), keep_arr h1 _ _ (by omega), blk_congr (set_arr h2 m _) (fun i _ => ?_), (hB.setCell (by show w.heap.size ≤ w.heap.size + 2; omega) _).drew⟩
        unfold upd
        by_cases h : i = m
        · rw [if_pos h, h, if_pos (by omega)]; omega
        · rw [if_neg h]
          dsimp only
          by_cases h2 : i < m
          · rw [if_pos h2, if_pos (by omega)]
          · rw [if_neg h2, if_neg (by omega)]
    · obtain rfl : m = 16 := by have := hm'.out; omega
      obtain ⟨X, hX⟩ : ∃ X : Nat → Nat, X = fun i => L i + 38 * L (16 + i) := ⟨_, rfl⟩
      have xb : ∀ i, i < 16 → X i < 70368744177664 := fun i hi => by
        have := hL'.out i (by omega)
        have := hL'.out (16 + i) (by omega)
        rw [hX]; dsimp only; omega
      have xv : val16 X 16 % pN = val16 L 32 % pN := by rw [hX]; exact fold_start L
      have g2 := blk_congr (f' := fun i => ((X i : Nat) : Int)) h2 (fun i hi => by rw [if_pos hi, hX])
      have XB := Lib.hid xb
      have XV := Lib.hid xv
      clear h2 h0 hX xb xv hm' hL'
      go_wp2
      go_loopg [5] (val16 X 16 + 1) (fun n o wr => ∃ (X : Nat → Nat) (ov : Nat), o = .int .u64 ov ∧ (∀ i, i < 16 → X i < 70368744177664) ∧ val16 X 16 % pN = val16 L 32 % pN ∧ (ov = 0 → ∀ i, i < 16 → X i < 65536) ∧ (ov ≠ 0 → n = val16 X 16 + 1) ∧
        wr.heap[w.heap.size + 1]? = some (.cells (arr .u64 16 fun _ => 0) 51 (0, 0)) ∧ wr.heap[w.heap.size + 2]? = some (.cells (arr .u64 16 fun i => ((X i : Nat) : Int)) 51 (0, 0)) ∧ Below w.heap.size w wr)
      case atStart => exact ⟨X, 1, rfl, XB.out, XV.out, (fun h => by cases h), (fun _ => rfl), h1, g2, hB⟩
      case round =>
        clear XB XV g2 h1 hB X
        obtain ⟨X, ov, rfl, xb, xv, x0, xn, h1, g2, hB⟩ := hrel
        obtain ⟨go1, rfl⟩ : ∃ x, x = gk := ⟨_, rfl⟩
        have XB := Lib.hid xb
        have XV := Lib.hid xv
        have X0 := Lib.hid x0
        have XN := Lib.hid xn
        clear xb xv x0 xn
        by_cases hz : ov = 0
        · subst hz
          have bound := Lib.hid (val16_lt X 16 (X0.out rfl))
          obtain ⟨V, hV⟩ : ∃ V, V = val16 X 16 := ⟨_, rfl⟩
          have g3 := blk_congr (f' := fun i => ((partN V i : Nat) : Int)) g2 (fun i hi => by rw [hV, val_part X 16 (X0.out rfl) i hi])
          have vv : V % pN = val16 L 32 % pN := by rw [hV]; exact XV.out
          have vl : V < 2 ^ 256 := by rw [hV]; exact bound.out
          have VV := Lib.hid vv
          have VL := Lib.hid vl
          clear g2 XB XV X0 XN bound hV vv vl
          go_wp2
          go_loopg [7] V (fun n o wr => ∃ V : Nat, n = V ∧ V < 2 ^ 256 ∧ V % pN = val16 L 32 % pN ∧ wr.heap[w.heap.size + 1]? = some (.cells (arr .u64 16 fun _ => 0) 51 (0, 0)) ∧
            wr.heap[w.heap.size + 2]? = some (.cells (arr .u64 16 fun i => ((partN V i : Nat) : Int)) 51 (0, 0)) ∧ Below w.heap.size w wr)
          case atStart => exact ⟨V, rfl, VL.out, VV.out, h1, g3, hB⟩
          case round =>
            clear VL VV h1 g3 hB V X
            obtain ⟨V, hn, vl, vv, h1, g3, hB⟩ := hrel
            obtain ⟨go2, rfl⟩ : ∃ x, x = gk := ⟨_, rfl⟩
            have HN := Lib.hid hn
            have VV := Lib.hid vv
            have VL := Lib.hid vl
            clear vv vl hn
            go_wp2_with (first | (refine wpList_load_arr rfl rfl rfl RTNum g3 ?_) | (go_at_call 51; fail))
            refine (below_any V VL.out _).mono ?_
            rintro e w4 ⟨rfl, b4⟩
            replace h1 := keep_below b4 (lt_of_block h1) h1
            replace g3 := keep_below b4 (lt_of_block g3) g3
            replace hB := hB.trans (b4.mono hB.size)
            clear b4
            by_cases hp : V < pN
            · rw [decide_eq_true hp]
              have fin : V = val16 L 32 % pN := by rw [← VV.out, Nat.mod_eq_of_lt hp]
              have FIN := Lib.hid fin
              clear hp fin
              go_wp2_with (first | (refine wpList_load_arr rfl rfl rfl RTNum g3 ?_) | (refine wpList_store_arr rfl rfl rfl rfl RTNum h1 ?_))
              refine bodyPost_ret (results_arr rfl rfl RTNum (row_self h1)) rfl ⟨?_, row_below hB (by omega) _⟩
              rw [← FIN.out]
            · rw [decide_eq_false hp]
              have hle : pN ≤ V := by omega
              have HLE := Lib.hid hle
              clear hp hle
              go_wp2
              go_loopg [7, 51] 16 (fun n u i wr => ∃ m : Nat, m + n = 16 ∧ i = .int .i64 m ∧ u = .int .u64 ((boN V pN m : Nat) : Int) ∧ wr.heap[w.heap.size + 1]? = some (.cells (arr .u64 16 fun _ => 0) 51 (0, 0)) ∧
                wr.heap[w.heap.size + 2]? = some (.cells (arr .u64 16 fun i => ((if i < m then partN (V - pN) i else partN V i : Nat) : Int)) 51 (0, 0)) ∧ Below w.heap.size w wr)
              case atStart => exact ⟨0, rfl, rfl, (by rw [bo_zero]; rfl), h1, blk_congr g3 (fun i _ => by rw [if_neg (Nat.not_lt_zero i)]), hB⟩
              case round =>
                clear h1 g3 hB
                obtain ⟨m, hm, rfl, rfl, h1, g3, hB⟩ := hrel
                have hm' := Lib.hid hm
                clear hm
                by_cases hlt : m < 16
                · have c0 := cell_arr g3 m hlt
                  simp only [Nat.lt_irrefl, if_false] at c0
                  have fz := free_arr g3 m
                  have pv := part_lt V m
                  have pp := part_lt pN m
                  have ub : boN V pN m ≤ 1 := by unfold boN; split <;> omega
                  have hl := lt_of_block g3
                  have ss := Lib.hid (sub_step V pN m HLE.out)
                  go_wp2
                  refine wp_region_can wr.heap.size 9 [(0, false), (1, false), (2, false), (3, false), (4, false), (7, false), (5, true), (6, false), (8, false)] (by kernel_rfl) (by kernel_rfl) ?_
                  (simp only [canOps, List.getElem?_cons_zero, List.getElem?_cons_succ, List.drop_succ_cons, List.drop_zero])
                  iterate 6 (first | (refine wpCan_move rfl rfl (fun _ _ _ _ h => h) ?_; (simp only [Act.put, Act.eval, Array.getD_eq_getD_getElem?, List.getElem?_toArray, List.getElem?_cons_zero, List.getElem?_cons_succ, Option.getD_some, List.setIfInBounds_toArray, List.set_cons_zero, List.set_cons_succ])) | (refine wpCan_assign rfl rfl (fun _ _ _ _ h => h) ?_; (simp only [Act.put, Act.eval, Array.getD_eq_getD_getElem?, List.getElem?_toArray, List.getElem?_cons_zero, List.getElem?_cons_succ, Option.getD_some, List.setIfInBounds_toArray, List.set_cons_zero, List.set_cons_succ])) | (refine wpCan_nilCheck rfl rfl rfl (fun _ _ _ _ h => h) ?_; (simp only [Act.put, List.setIfInBounds_toArray, List.set_cons_zero, List.set_cons_succ])) | (refine wpCan_q rfl rfl (fun _ _ _ _ h => h) (by first | exact .bin rfl rfl rfl | exact .indexAddr rfl | exact .un rfl | exact .extract rfl | exact .index rfl | exact .field rfl | exact .slice rfl | exact .load rfl rfl hl g3) (fun K hK => ?_); go_simp; (try (simp only [↓IntWalk.iteOmega]; go_simp)); (try go_bits); refine hK _ ?_; clear hK K))
                  refine wpCan_e rfl (fun K hK => ?_)
                  go_simp
                  refine (p_any m hlt _).mono ?_
                  rintro e w4 ⟨rfl, rfl⟩
                  refine hK _ _ (Keep.refl _ _) ?_
                  clear hK K
                  (try simp only [Act.put, List.setIfInBounds_toArray, List.set_cons_zero, List.set_cons_succ])
                  iterate 2 (first | (refine wpCan_move rfl rfl (fun _ _ _ _ h => h) ?_; (simp only [Act.put, Act.eval, Array.getD_eq_getD_getElem?, List.getElem?_toArray, List.getElem?_cons_zero, List.getElem?_cons_succ, Option.getD_some, List.setIfInBounds_toArray, List.set_cons_zero, List.set_cons_succ])) | (refine wpCan_assign rfl rfl (fun _ _ _ _ h => h) ?_; (simp only [Act.put, Act.eval, Array.getD_eq_getD_getElem?, List.getElem?_toArray, List.getElem?_cons_zero, List.getElem?_cons_succ, Option.getD_some, List.setIfInBounds_toArray, List.set_cons_zero, List.set_cons_succ])) | (refine wpCan_nilCheck rfl rfl rfl (fun _ _ _ _ h => h) ?_; (simp only [Act.put, List.setIfInBounds_toArray, List.set_cons_zero, List.set_cons_succ])) | (refine wpCan_q rfl rfl (fun _ _ _ _ h => h) (by first | exact .bin rfl rfl rfl | exact .indexAddr rfl | exact .un rfl | exact .extract rfl | exact .index rfl | exact .field rfl | exact .slice rfl) (fun K hK => ?_); go_simp; (try (simp only [↓IntWalk.iteOmega]; go_simp)); (try go_bits); refine hK _ ?_; clear hK K))
                  refine wpCan_nil ?_
                  go_wp2
                  go_roundg (gk - 1)
                  case measure => have := hm'.out; omega
                  case rel =>
                    have hm'' := hm'.out
                    obtain ⟨s1, s2⟩ := ss.out
                    refine ⟨m + 1, by omega, by go_num, ?_, keep_arr h1 _ _ (by omega), blk_congr (set_arr g3 m _) (fun i _ => ?_), (hB.drew.setCell (by show w.heap.size ≤ w.heap.size + 2; omega) _)⟩
                    · rw [← s2]; congr 1; omega
                    · unfold upd
                      by_cases h : i = m
                      · rw [if_pos h, h, if_pos (by omega), ← s1]; omega
                      · rw [if_neg h]
                        dsimp only
                        by_cases h2 : i < m
                        · rw [if_pos h2, if_pos (by omega)]
                        · rw [if_neg h2, if_neg (by omega)]
                · obtain rfl : m = 16 := by have := hm'.out; omega
                  have g4 := blk_congr (f' := fun i => ((partN (V - pN) i : Nat) : Int)) g3 (fun i hi => by rw [if_pos hi])
                  clear g3
                  go_wp2
                  go_roundg (V - pN)
                  case measure => have := HLE.out; have := HN.out; have := pN_pos; omega
                  case rel => exact ⟨V - pN, rfl, Nat.lt_of_le_of_lt (Nat.sub_le _ _) VL.out, by rw [← VV.out, ← Nat.mod_eq_sub_mod HLE.out], h1, g4, hB⟩
        · have op : 0 < ov := by omega
          have HZ := Lib.hid hz
          clear hz
          go_wp2
          go_loopg [5, 27] 16 (fun n o i wr => ∃ m : Nat, m + n = 16 ∧ i = .int .i64 m ∧ o = .int .u64 ((ovR X m : Nat) : Int) ∧ wr.heap[w.heap.size + 1]? = some (.cells (arr .u64 16 fun _ => 0) 51 (0, 0)) ∧
            wr.heap[w.heap.size + 2]? = some (.cells (arr .u64 16 fun i => ((if i < m then loR X i else X i : Nat) : Int)) 51 (0, 0)) ∧ Below w.heap.size w wr)
          case atStart => exact ⟨0, rfl, rfl, (by unfold ovR; rfl), h1, blk_congr g2 (fun i _ => by rw [if_neg (Nat.not_lt_zero i)]), hB⟩
          case round =>
            clear h1 g2 hB op
            obtain ⟨m, hm, rfl, rfl, h1, g2, hB⟩ := hrel
            have hm' := Lib.hid hm
            clear hm
            by_cases hlt : m < 16
            · have c0 := cell_arr g2 m hlt
              simp only [Nat.lt_irrefl, if_false] at c0
              have fz := free_arr g2 m
              have xb := XB.out m hlt
              have ob := ovR_lt X XB.out m (by omega)
              go_wp2
              go_roundg (gk - 1)
              case measure => have := hm'.out; omega
              case rel =>
                have hm'' := hm'.out
                refine ⟨m + 1, by omega, by go_num, ?_, keep_arr h1 _ _ (by omega), blk_congr (set_arr g2 m _) (fun i _ => ?_), (hB.setCell (by show w.heap.size ≤ w.heap.size + 2; omega) _)⟩
                · rw [ovR_succ]; congr 1; omega
                · unfold upd
                  by_cases h : i = m
                  · rw [if_pos h, h, if_pos (by omega)]; unfold loR; omega
                  · rw [if_neg h]
                    dsimp only
                    by_cases h2 : i < m
                    · rw [if_pos h2, if_pos (by omega)]
                    · rw [if_neg h2, if_neg (by omega)]
            · obtain rfl : m = 16 := by have := hm'.out; omega
              have g3 := blk_congr (f' := fun i => ((loR X i : Nat) : Int)) g2 (fun i hi => by rw [if_pos hi])
              have c0 := cell_arr g3 0 (by omega)
              have fz := free_arr g3 0
              have ob := ovR_lt X XB.out 16 (by omega)
              have lb := loR_lt X 0
              clear g2
              go_wp2
              go_roundg (if ovR X 16 = 0 then 0 else val16 (passN X) 16 + 1)
              case measure =>
                have h3 := pass_val X
                have h4 := XN.out HZ.out
                have h5 := pN_pos
                split
                · omega
                · rename_i h6
                  have : 1 ≤ ovR X 16 * (pN * 2) := Nat.mul_pos (by omega) (by omega)
                  omega
              case rel =>
                refine ⟨passN X, ovR X 16, rfl, pass_lt X XB.out, ?_, fun h i _ => pass_done X h i, fun h => by rw [if_neg h], keep_arr h1 _ _ (by omega), blk_congr (set_arr g3 0 _) (fun i _ => ?_), (hB.setCell (by show w.heap.size ≤ w.heap.size + 2; omega) _)⟩
                · rw [← XV.out, ← pass_val X, Nat.mul_left_comm, Nat.mul_comm, Nat.add_mul_mod_self_right]
                · unfold upd passN
                  by_cases h : i = 0
                  · rw [if_pos h, if_pos h]; omega
                  · rw [if_neg h, if_neg h]
end Go.Proofs.Ythgjhipfgdlbnaa
