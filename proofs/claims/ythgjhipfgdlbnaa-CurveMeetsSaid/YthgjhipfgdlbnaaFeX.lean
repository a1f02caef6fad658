/- The walks of layer 5: products. -/
import Derived.Test.YthgjhipfgdlbnaaFeM
import Derived.Test.YthgjhipfgdlbnaaFeA
namespace Go.Proofs.Ythgjhipfgdlbnaa
set_option linter.unusedSimpArgs false
set_option linter.unusedVariables false
open Go.RowKit
attribute [local irreducible] accN leastN byteN
theorem ZTWides : ZeroT Try.prog 75 .u64 10 := by unfold ZeroT; kernel_rfl
theorem RTWides : RowT Try.prog 75 10 := ⟨_, Try.underlying75, rfl, by kernel_rfl⟩
/-- Five numbers of 128 bits, in ten parts. -/
def wideN (V : Nat → Nat) (i : Nat) : Nat := hlN (V (i / 2)) (i % 2)
theorem wide_at (V : Nat → Nat) (c off j : Nat) (ho : off = c * 2) (hj : j < 2) : wideN V (off + j) = hlN (V c) j := by
  unfold wideN
  rw [show (off + j) / 2 = c from by omega, show (off + j) % 2 = j from by omega]
theorem wide_put (F G : Nat → Nat) (n c off v : Nat) (ho : off = c * 2) (hc : (n / 5 + n % 5) % 5 = c) (hv : v = accN F G n c + F (n / 5) * (if 5 ≤ n / 5 + n % 5 then 19 * G (n % 5) else G (n % 5))) (i : Nat) :
    patch (fun i => ((wideN (accN F G n) i : Nat) : Int)) off 2 (fun j => ((hlN v j : Nat) : Int)) i = ((wideN (accN F G (n + 1)) i : Nat) : Int) := by
  unfold patch
  by_cases h : off ≤ i ∧ i < off + 2
  · rw [if_pos h]
    unfold wideN
    rw [show i / 2 = c from by omega, show i % 2 = i - off from by omega, accN_succ, hv]
    unfold termN
    rw [if_pos hc]
  · rw [if_neg h]
    unfold wideN
    rw [accN_succ]
    unfold termN
    rw [if_neg (by omega), Nat.add_zero]

theorem or_hilo (hi lo : Nat) (h : hi < 1125899906842624) (hl : lo < 18446744073709551616) : bits .or .u64 ((hi : Int) * 8192) ((lo : Int) / 2251799813685248) = ((hi * 8192 + lo / 2251799813685248 : Nat) : Int) := by
  have h1 := bits_or_u64_nat (hi * 8192) (lo / 2251799813685248) (by omega) (by omega)
  have e : hi * 8192 ||| lo / 2251799813685248 = hi * 8192 + lo / 2251799813685248 := by
    have := or_low (lo / 2251799813685248) hi 13 (by omega)
    rw [Nat.or_comm, show (8192 : Nat) = 2 ^ 13 from rfl, this, Nat.add_comm]
  rw [e] at h1
  rw [← h1]
  congr 1
set_option maxRecDepth 100000 in
set_option maxHeartbeats 2000000 in
theorem mul_any (F G : Nat → Nat) (hF : okF F 5) (hG : okF G 5) (w : World) :
    Calls Try.prog 38 #[.agg (arr .u64 5 fun i => ((F i : Nat) : Int)), .agg (arr .u64 5 fun i => ((G i : Nat) : Int))] w fun e w' => e = .returned (.agg (arr .u64 5 fun k => ((prodN F G k : Nat) : Int))) ∧ Below w.heap.size w w' := by
  go_enter Try.func38, Try.ntmps38
  obtain ⟨h0, h1, h2, hsz, hb⟩ := alloc3 w (.cells (arr .u64 5 fun i => ((F i : Nat) : Int)) 34) (.cells (arr .u64 5 fun i => ((G i : Nat) : Int)) 34) (.cells (arr .u64 5 fun _ => 0) 34)
  go_upto_region 1 with (refine wpList_alloc_arr rfl rfl ZTFe ?_)
  generalize ((w.alloc (.cells (arr .u64 5 fun i => ((F i : Nat) : Int)) 34)).alloc (.cells (arr .u64 5 fun i => ((G i : Nat) : Int)) 34)).alloc (.cells (arr .u64 5 fun _ => 0) 34) = wa at *
  (try simp only [Act.put, List.setIfInBounds_toArray, List.set_cons_zero, List.set_cons_succ])
  obtain ⟨h3, hz3, bl⟩ := alloc1 wa (.cells (arr .u64 10 fun _ => 0) 75)
  go_upto_region 2 with (refine wpList_alloc_arr rfl rfl ZTWides ?_)
  replace h0 := keep_below bl (by omega) h0
  replace h1 := keep_below bl (by omega) h1
  replace h2 := keep_below bl (by omega) h2
  replace hb := hb.trans (bl.mono (by omega))
  rw [hsz] at h3 ⊢
  generalize wa.alloc (.cells (arr .u64 10 fun _ => 0) 75) = wb at *
  clear hz3 bl hsz
  (try simp only [Act.put, List.setIfInBounds_toArray, List.set_cons_zero, List.set_cons_succ])
  go_wp2_with (refine wpList_load_arr rfl rfl rfl RTFe h0 ?_)
  have hF' := Lib.hid hF
  have hG' := Lib.hid hG
  have al := Lib.hid (acc_lt F G hF hG)
  clear hF hG
  go_loopg [18] 5 (fun n i wr => ∃ m : Nat, m + n = 5 ∧ i = .int .i64 m ∧ wr.heap[w.heap.size + 1]? = some (.cells (arr .u64 5 fun i => ((G i : Nat) : Int)) 34 (0, 0)) ∧ wr.heap[w.heap.size + 1 + 1]? = some (.cells (arr .u64 5 fun _ => 0) 34 (0, 0)) ∧
    wr.heap[w.heap.size + 3]? = some (.cells (arr .u64 10 fun i => ((wideN (accN F G (5 * m)) i : Nat) : Int)) 75 (0, 0)) ∧ Below w.heap.size w wr)
  case atStart => exact ⟨0, rfl, rfl, h1, h2, blk_congr h3 (fun i _ => by unfold wideN hlN accN; split <;> rfl), hb⟩
  case round =>
    clear h0 h1 h2 h3 hb
    obtain ⟨m, hm, rfl, h1, h2, h3, hB⟩ := hrel
    obtain ⟨go1, rfl⟩ : ∃ x, x = gk := ⟨_, rfl⟩
    have hm' := Lib.hid hm
    clear hm
    by_cases hlt : m < 5
    · go_wp2_with (first | (refine wpList_index_cell rfl rfl Try.underlying34 Try.underlying32 rfl SZU64 rfl rfl (by omega) (by omega) (by omega) ?_) | (refine wpList_load_arr rfl rfl rfl RTFe h1 ?_))
      go_loopg [23] 5 (fun n i wr => ∃ j : Nat, j + n = 5 ∧ i = .int .i64 j ∧ wr.heap[w.heap.size + 1]? = some (.cells (arr .u64 5 fun i => ((G i : Nat) : Int)) 34 (0, 0)) ∧ wr.heap[w.heap.size + 1 + 1]? = some (.cells (arr .u64 5 fun _ => 0) 34 (0, 0)) ∧
        wr.heap[w.heap.size + 3]? = some (.cells (arr .u64 10 fun i => ((wideN (accN F G (5 * m + j)) i : Nat) : Int)) 75 (0, 0)) ∧ Below w.heap.size w wr)
      case atStart => exact ⟨0, rfl, rfl, h1, h2, h3, hB⟩
      case round =>
        clear h1 h2 h3 hB
        obtain ⟨j, hj, rfl, h1, h2, h3, hB⟩ := hrel
        have hj' := Lib.hid hj
        clear hj
        by_cases hlj : j < 5
        · have fb := hF'.out m hlt
          have gb := hG'.out j hlj
          by_cases hge : 5 ≤ m + j
          · have vb := al.out (5 * m + j) (m + j - 5) (by omega)
            have pb : F m * (19 * G j) ≤ 4503599627370496 * (19 * 4503599627370496) := Nat.mul_le_mul (by omega) (by omega)
            go_wp2_with (first | (refine wpList_index_cell rfl rfl Try.underlying34 Try.underlying32 rfl SZU64 rfl rfl (by omega) (by omega) (by omega) ?_) | (refine wpList_load_as (off := (m + j - 5) * 2) (fun i => ((hlN (accN F G (5 * m + j) (m + j - 5)) i : Nat) : Int)) rfl rfl rfl RTWide h3 (by omega) (fun i hi => by rw [wide_at _ (m + j - 5) _ i rfl hi]) ?_) | (go_at_call 48; fail))
            rw [show (19 * ((G j : Nat) : Int)) = ((19 * G j : Nat) : Int) from by omega]
            refine (plus_any (accN F G (5 * m + j) (m + j - 5)) (F m) (19 * G j) (by omega) (by omega) (by omega) _).mono ?_
            rintro e w4 ⟨rfl, b4⟩
            replace h1 := keep_below b4 (lt_of_block h1) h1
            replace h2 := keep_below b4 (lt_of_block h2) h2
            replace h3 := keep_below b4 (lt_of_block h3) h3
            replace hB := hB.trans (b4.mono hB.size)
            clear b4
            go_wp2_with (refine wpList_store_sub rfl rfl rfl rfl RTWide h3 (by omega) ?_)
            go_roundg (gk - 1)
            case measure => have := hj'.out; omega
            case rel =>
              have hj'' := hj'.out
              have d1 : (5 * m + j) / 5 = m := by omega
              have d2 : (5 * m + j) % 5 = j := by omega
              exact ⟨j + 1, by omega, by go_num, row_keep h1 (by omega), row_keep h2 (by omega), blk_congr (row_self h3) (fun i _ => wide_put F G (5 * m + j) (m + j - 5) _ _ rfl (by rw [d1, d2]; omega) (by rw [d1, d2, if_pos hge]) i), row_below hB (by omega) _⟩
          · have vb := al.out (5 * m + j) (m + j) (by omega)
            have pb : F m * (G j) ≤ 4503599627370496 * (19 * 4503599627370496) := Nat.mul_le_mul (by omega) (by omega)
            go_wp2_with (first | (refine wpList_index_cell rfl rfl Try.underlying34 Try.underlying32 rfl SZU64 rfl rfl (by omega) (by omega) (by omega) ?_) | (refine wpList_load_as (off := (m + j) * 2) (fun i => ((hlN (accN F G (5 * m + j) (m + j)) i : Nat) : Int)) rfl rfl rfl RTWide h3 (by omega) (fun i hi => by rw [wide_at _ (m + j) _ i rfl hi]) ?_) | (go_at_call 48; fail))
            refine (plus_any (accN F G (5 * m + j) (m + j)) (F m) (G j) (by omega) (by omega) (by omega) _).mono ?_
            rintro e w4 ⟨rfl, b4⟩
            replace h1 := keep_below b4 (lt_of_block h1) h1
            replace h2 := keep_below b4 (lt_of_block h2) h2
            replace h3 := keep_below b4 (lt_of_block h3) h3
            replace hB := hB.trans (b4.mono hB.size)
            clear b4
            go_wp2_with (refine wpList_store_sub rfl rfl rfl rfl RTWide h3 (by omega) ?_)
            go_roundg (gk - 1)
            case measure => have := hj'.out; omega
            case rel =>
              have hj'' := hj'.out
              have d1 : (5 * m + j) / 5 = m := by omega
              have d2 : (5 * m + j) % 5 = j := by omega
              exact ⟨j + 1, by omega, by go_num, row_keep h1 (by omega), row_keep h2 (by omega), blk_congr (row_self h3) (fun i _ => wide_put F G (5 * m + j) (m + j) _ _ rfl (by rw [d1, d2]; omega) (by rw [d1, d2, if_neg hge]) i), row_below hB (by omega) _⟩
        · obtain rfl : j = 5 := by have := hj'.out; omega
          go_wp2
          go_roundg (go1 - 1)
          case measure => have := hm'.out; omega
          case rel =>
            have hm'' := hm'.out
            exact ⟨m + 1, by omega, by go_num, h1, h2, h3, hB⟩
    · obtain rfl : m = 5 := by have := hm'.out; omega
      have vl : ∀ c, c < 5 → accN F G 25 c < 10384593717069655257060992658440192 := fun c _ => al.out 25 c (by omega)
      have h3' : wr.heap[w.heap.size + 3]? = some (.cells (arr .u64 10 fun i => ((wideN (accN F G 25) i : Nat) : Int)) 75 (0, 0)) := h3
      have ob := ov_big (accN F G 25) vl
      obtain ⟨V, hV⟩ : ∃ V, V = accN F G 25 := ⟨_, rfl⟩
      rw [← hV] at vl h3' ob
      have hV' := Lib.hid hV
      clear h3 al hm' hV
      go_wp2_with (refine wpList_load_arr rfl rfl rfl RTWides h3' ?_)
      have vl' := Lib.hid vl
      have ob' := Lib.hid ob
      clear h3' vl ob h1
      go_loopg [11, 47] 5 (fun n o i wr => ∃ m : Nat, m + n = 5 ∧ i = .int .i64 m ∧ o = .int .u64 ((ovN V m : Nat) : Int) ∧ wr.heap[w.heap.size + 1 + 1]? = some (.cells (arr .u64 5 fun i => ((if i < m then loN V i else 0 : Nat) : Int)) 34 (0, 0)) ∧ Below w.heap.size w wr)
      case atStart => exact ⟨0, rfl, rfl, (by unfold ovN; rfl), blk_congr h2 (fun i _ => by rw [if_neg (Nat.not_lt_zero i)]; rfl), hB⟩
      case round =>
        clear h2 hB
        obtain ⟨m, hm, rfl, rfl, h2, hB⟩ := hrel
        have hm' := Lib.hid hm
        clear hm
        by_cases hlt : m < 5
        · have vb := vl'.out m hlt
          have ob := ob'.out m (by omega)
          obtain ⟨ga, hza, bla⟩ := alloc1 wr (.cells (arr .u64 2 fun _ => 0) 74)
          go_upto_region 18 with (first | (refine wpList_index_row rfl rfl Try.underlying75 RTWide rfl rfl (by omega) (by omega) (by omega) (fun i => ((hlN (V m) i : Nat) : Int)) (fun i hi => by rw [wide_at V m _ i (by omega) hi]) ?_) | (refine wpList_alloc_arr rfl rfl ZTWide ?_) | (refine wpList_store_arr rfl rfl rfl rfl RTWide ga ?_))
          have q13 := row_self (c' := arr .u64 2 fun i => ((hlN (V m) i : Nat) : Int)) ga
          have l2 := lt_of_block h2
          replace h2 := row_keep (g := wr.heap.size) (c' := arr .u64 2 fun i => ((hlN (V m) i : Nat) : Int)) (keep_below bla l2 h2) (Nat.ne_of_lt l2)
          have lB := hB.size
          replace hB := row_below (hB.trans (bla.mono hB.size)) hB.size (arr .u64 2 fun i => ((hlN (V m) i : Nat) : Int))
          clear ga hza bla
          generalize (wr.alloc (.cells (arr .u64 2 fun _ => 0) 74)).setRow wr.heap.size (arr .u64 2 fun i => ((hlN (V m) i : Nat) : Int)) = wq at *
          generalize wr.heap.size = BW at *
          (try simp only [Act.put, List.setIfInBounds_toArray, List.set_cons_zero, List.set_cons_succ])
          go_wp2_with (first | (refine wpList_load_arr rfl rfl rfl RTWide q13 ?_) | (go_at_call 48; fail))
          refine (plus_any (V m) (ovN V m) 1 (by omega) (by omega) (by omega) _).mono ?_
          rintro e w4 ⟨rfl, b4⟩
          rw [Nat.mul_one]
          replace h2 := keep_below b4 (lt_of_block h2) h2
          replace q13 := keep_below b4 (lt_of_block q13) q13
          replace hB := hB.trans (b4.mono hB.size)
          clear b4
          go_upto_region 19 with (refine wpList_store_arr rfl rfl rfl rfl RTWide q13 ?_)
          replace h2 := row_keep (g := BW) (c' := arr .u64 2 fun i => ((hlN (V m + ovN V m) i : Nat) : Int)) h2 (Nat.ne_of_lt l2)
          replace hB := row_below hB lB (arr .u64 2 fun i => ((hlN (V m + ovN V m) i : Nat) : Int))
          replace q13 := row_self (c' := arr .u64 2 fun i => ((hlN (V m + ovN V m) i : Nat) : Int)) q13
          generalize w4.setRow BW (arr .u64 2 fun i => ((hlN (V m + ovN V m) i : Nat) : Int)) = w5 at *
          (try simp only [Act.put, List.setIfInBounds_toArray, List.set_cons_zero, List.set_cons_succ])
          obtain ⟨hi, hhi⟩ : ∃ x, x = (V m + ovN V m) / 18446744073709551616 := ⟨_, rfl⟩
          obtain ⟨lo, hlo⟩ : ∃ x, x = (V m + ovN V m) % 18446744073709551616 := ⟨_, rfl⟩
          have c0 : w5.cell? ⟨BW, 0, none⟩ = some (.int .u64 (hi : Int)) := by rw [hhi]; exact cell_arr q13 0 (by omega)
          have c1 : w5.cell? ⟨BW, 1, none⟩ = some (.int .u64 (lo : Int)) := by rw [hlo]; exact cell_arr q13 1 (by omega)
          have am := and_mask1 lo (by omega)
          have hib : hi < 1125899906842624 := by omega
          have lob : lo < 18446744073709551616 := by omega
          have hhi' := Lib.hid hhi
          have hlo' := Lib.hid hlo
          clear hhi hlo vb
          have l13 := lt_of_block q13
          have c2 := cell_arr h2 m hlt
          have fz := free_arr h2 m
          have orf := or_hilo hi lo hib lob
          obtain ⟨ov1, ho1⟩ : ∃ x, x = hi * 8192 + lo / 2251799813685248 := ⟨_, rfl⟩
          rw [← ho1] at orf
          have ho1' := Lib.hid ho1
          clear ho1
          go_region
          go_wp2
          go_roundg (gk - 1)
          case measure => have := hm'.out; omega
          case rel =>
            have hm'' := hm'.out
            have e1 := hhi'.out
            have e2 := hlo'.out
            have e3 := ho1'.out
            refine ⟨m + 1, by omega, by go_num, ?_, blk_congr (set_arr h2 m _) (fun i _ => ?_), (hB.setCell (by show w.heap.size ≤ w.heap.size + 1 + 1; omega) _).drew⟩
            · rw [ovN_succ, e3, e1, e2]; congr 2; omega
            · unfold upd
              by_cases h : i = m
              · rw [if_pos h, h, if_pos (by omega)]
                unfold loN
                omega
              · rw [if_neg h]
                dsimp only
                by_cases h2 : i < m
                · rw [if_pos h2, if_pos (by omega)]
                · rw [if_neg h2, if_neg (by omega)]
        · obtain rfl : m = 5 := by have := hm'.out; omega
          have ob := ob'.out 5 (by omega)
          have fl := Lib.hid (fold_lt V vl'.out)
          replace h2 := blk_congr (f' := fun i => ((loN V i : Nat) : Int)) h2 (fun i hi => by rw [if_pos hi])
          have lb0 : loN V 0 < 2251799813685248 := Nat.mod_lt _ (by omega)
          have lb1 : loN V 1 < 2251799813685248 := Nat.mod_lt _ (by omega)
          obtain ⟨ov, hov⟩ : ∃ x, x = ovN V 5 := ⟨_, rfl⟩
          rw [← hov] at ob ⊢
          have hov' := Lib.hid hov
          clear hov
          go_wp2_with (go_at_call 49; fail)
          refine (Mul64_any ov 19 (by omega) (by omega) _).mono ?_
          rintro e w4 ⟨rfl, rfl⟩
          obtain ⟨mh, hmh⟩ : ∃ x, x = ov * 19 / 18446744073709551616 := ⟨_, rfl⟩
          obtain ⟨ml, hml⟩ : ∃ x, x = ov * 19 % 18446744073709551616 := ⟨_, rfl⟩
          obtain ⟨lz, hlz⟩ : ∃ x, x = loN V 0 := ⟨_, rfl⟩
          have c0 : wr.cell? ⟨w.heap.size + 1 + 1, 0, none⟩ = some (.int .u64 (lz : Int)) := by rw [hlz]; exact cell_arr h2 0 (by omega)
          have c1 := cell_arr h2 1 (by omega)
          have fz0 := free_arr h2 0
          have fz1 := free_arr h2 1
          rw [← hlz] at lb0
          rw [← hmh, ← hml]
          have ra := run_Add64 ml lz
          obtain ⟨al, hal⟩ : ∃ x, x = (ml + lz) % 18446744073709551616 := ⟨_, rfl⟩
          obtain ⟨ac, hac⟩ : ∃ x, x = (ml + lz) / 18446744073709551616 := ⟨_, rfl⟩
          rw [← hal, ← hac] at ra
          have am := and_mask1 al (by omega)
          have hs : mh + ac < 1125899906842624 := by omega
          have orf := or_hilo (mh + ac) al hs (by omega)
          rw [Int.natCast_add] at orf
          obtain ⟨rr, hrr⟩ : ∃ x, x = (mh + ac) * 8192 + al / 2251799813685248 := ⟨_, rfl⟩
          rw [← hrr] at orf
          have rb : rr < 1125899906842624 := by omega
          have alb : al < 18446744073709551616 := by omega
          have t0 : al % 2251799813685248 = (19 * ov + lz) % 2251799813685248 := by omega
          have t1 : rr = (19 * ov + lz) / 2251799813685248 := by omega
          have T0 := Lib.hid t0
          have T1 := Lib.hid t1
          have HLZ := Lib.hid hlz
          clear hlz hmh hml hal hac hrr t0 t1
          go_upto_region 25 with (fail)
          have k2 := blk_congr (f' := fun i => ((foldN V i : Nat) : Int)) (set_arr (set_arr h2 0 (((al : Nat) : Int) % 2251799813685248)) 1 (((loN V 1 : Nat) : Int) + ((rr : Nat) : Int))) (fun i _ => by
            have e0 := T0.out
            have e1 := T1.out
            rw [HLZ.out, hov'.out] at e0 e1
            unfold upd foldN
            by_cases h1 : i = 1
            · rw [if_pos h1, if_neg (by omega), if_pos h1, e1]; omega
            · rw [if_neg h1, if_neg h1]
              by_cases h0 : i = 0
              · rw [if_pos h0, if_pos h0, ← e0]; omega
              · rw [if_neg h0, if_neg h0])
          have lB : w.heap.size ≤ w.heap.size + 1 + 1 := by omega
          have hBk := (hB.setCell (p := ⟨w.heap.size + 1 + 1, 0, none⟩) lB (.int .u64 (((al : Nat) : Int) % 2251799813685248))).setCell (p := ⟨w.heap.size + 1 + 1, 1, none⟩) lB (.int .u64 (((loN V 1 : Nat) : Int) + ((rr : Nat) : Int)))
          clear c0 c1 fz0 fz1 h2 hB
          go_wp2_with (first | (refine wpList_load_arr rfl rfl rfl RTFe k2 ?_) | (go_at_call 47; fail))
          refine (carry_any (foldN V) fl.out _).mono ?_
          rintro e w4 ⟨rfl, b4⟩
          have e2 := keep_below b4 (lt_of_block k2) k2
          have hBe := hBk.trans (b4.mono hBk.size)
          go_wp2_with (refine wpList_store_arr rfl rfl rfl rfl RTFe e2 ?_)
          refine bodyPost_ret (results_arr rfl rfl RTFe (row_self e2)) rfl ⟨?_, row_below hBe (by omega) _⟩
          rw [hV'.out]
          rfl
end Go.Proofs.Ythgjhipfgdlbnaa
