/- The walk of layer 6's reference: a point multiplied by a number. -/
import Derived.Test.YthgjhipfgdlbnaaRLad
import Derived.Test.YthgjhipfgdlbnaaClamp
namespace Go.Proofs.Ythgjhipfgdlbnaa
set_option linter.unusedSimpArgs false
set_option linter.unusedVariables false
open Go.RowKit
attribute [local irreducible] val16 ovR loR boN passN pN plusL accR valN byteN bytesN sqM invM accN prodN carN diffN sqN sumN difN oneF invN sameN powN kvN two16 clampN dblP addP

theorem built_pair1 (F : Nat → Nat) : Try.prog.built 54 [(0, .agg (arr .u64 16 fun i => ((F i : Nat) : Int)))] = some (arr .u64 32 fun i => ((two16 F (partN 0) i : Nat) : Int)) := by
  unfold two16
  kernel_rfl
attribute [local irreducible] partN
def PairIs (w : World) (B : Nat) (q : Pt) : Prop := w.heap[B]? = some (.cells (arr .u64 32 fun i => ((two16 (partN q.x) (partN q.z) i : Nat) : Int)) 54 (0, 0))

set_option maxRecDepth 100000 in
set_option maxHeartbeats 2000000 in
theorem RMult_any (k u : Nat → Nat) (hk : ∀ i, i < 32 → k i < 256) (hu : ∀ i, i < 32 → u i < 256) (w : World) :
    Calls Try.prog 12 #[.agg (arr .u8 32 fun i => ((k i : Nat) : Int)), .agg (arr .u8 32 fun i => ((u i : Nat) : Int))] w fun e w' => e = .returned (.agg (arr .u8 32 fun i => ((byteN (multV k (keyU u)) i : Nat) : Int))) ∧ Below w.heap.size w w' := by
  have hK := Lib.hid (clamp_lt hk)
  have HKK := Lib.hid hk
  have HU := Lib.hid hu
  clear hk hu
  go_enter Try.func12, Try.ntmps12
  obtain ⟨h0, h1, h2, hsz, hb⟩ := alloc3 w (.cells (arr .u8 32 fun i => ((k i : Nat) : Int)) 23) (.cells (arr .u8 32 fun i => ((u i : Nat) : Int)) 23) (.cells (arr .u8 32 fun _ => 0) 23)
  go_upto_region 1 with (refine wpList_alloc_arr rfl rfl ZTKey ?_)
  generalize ((w.alloc (.cells (arr .u8 32 fun i => ((k i : Nat) : Int)) 23)).alloc (.cells (arr .u8 32 fun i => ((u i : Nat) : Int)) 23)).alloc (.cells (arr .u8 32 fun _ => 0) 23) = wa at *
  (try simp only [Act.put, List.setIfInBounds_toArray, List.set_cons_zero, List.set_cons_succ])
  simp only [World.size_alloc]
  clear hsz
  go_wp2_with (first | (refine wpList_load_arr rfl rfl rfl RTKey h0 ?_) | (go_at_call 10; fail))
  refine (RClamp_any k HKK.out _).mono ?_
  rintro e w4 ⟨rfl, b4⟩
  replace h0 := keep_below b4 (lt_of_block h0) h0
  replace h1 := keep_below b4 (lt_of_block h1) h1
  replace h2 := keep_below b4 (lt_of_block h2) h2
  replace hb := hb.trans (b4.mono hb.size)
  clear b4
  go_upto_region 2 with (first | (refine wpList_store_arr rfl rfl rfl rfl RTKey h0 ?_))
  replace h1 := row_keep (g := w.heap.size) (c' := arr .u8 32 fun i => ((clampN k i : Nat) : Int)) h1 (by omega)
  replace h2 := row_keep (g := w.heap.size) (c' := arr .u8 32 fun i => ((clampN k i : Nat) : Int)) h2 (by omega)
  replace h0 := row_self (c' := arr .u8 32 fun i => ((clampN k i : Nat) : Int)) h0
  replace hb := row_below hb (Nat.le_refl _) (arr .u8 32 fun i => ((clampN k i : Nat) : Int))
  generalize w4.setRow w.heap.size (arr .u8 32 fun i => ((clampN k i : Nat) : Int)) = wb at *
  (try simp only [Act.put, List.setIfInBounds_toArray, List.set_cons_zero, List.set_cons_succ])
  go_wp2_with (first | (refine wpList_load_arr rfl rfl rfl RTKey h1 ?_) | (go_at_call 25; fail))
  refine (RFromKey_any u HU.out _).mono ?_
  rintro e w4 ⟨rfl, b4⟩
  replace h0 := keep_below b4 (lt_of_block h0) h0
  replace h1 := keep_below b4 (lt_of_block h1) h1
  replace h2 := keep_below b4 (lt_of_block h2) h2
  replace hb := hb.trans (b4.mono hb.size)
  clear b4
  rw [show kvN (cutB u) 32 % pN = keyU u from rfl]
  go_upto_region 3 with (refine wpList_new_arr rfl rfl rfl rfl ZTNum RTNum rfl rfl ?_; intro w8 hx b8 hs8)
  have l0 := lt_of_block h0
  replace h0 := keep_below b8 (lt_of_block h0) h0
  replace h1 := keep_below b8 (lt_of_block h1) h1
  replace h2 := keep_below b8 (lt_of_block h2) h2
  replace hb := hb.trans (b8.mono hb.size)
  clear b8 hs8
  obtain ⟨Bhx, hBhx⟩ : ∃ B, B = w4.heap.size := ⟨_, rfl⟩
  rw [← hBhx] at l0 hx ⊢
  clear hBhx
  (try simp only [Act.put, List.setIfInBounds_toArray, List.set_cons_zero, List.set_cons_succ])
  clear h1
  go_upto_region 4 with (first | (refine wpList_val' rfl (run_op_build rfl (by simp [Act.eval, Act.put]) built_one16) ?_) | (refine wpList_new_arr rfl rfl rfl rfl ZTNum RTNum rfl rfl ?_; intro w9 ho b9 hs9))
  have l_ho := lt_of_block h0
  obtain ⟨Bho, hBho⟩ : ∃ B, B = w8.heap.size := ⟨_, rfl⟩
  replace h0 := keep_below b9 (lt_of_block h0) h0
  replace h2 := keep_below b9 (lt_of_block h2) h2
  replace hx := keep_below b9 (lt_of_block hx) hx
  replace hb := hb.trans (b9.mono hb.size)
  clear b9 hs9
  rw [← hBho] at l_ho ho ⊢
  clear hBho
  obtain ⟨w8, rfl⟩ : ∃ x, x = w9 := ⟨_, rfl⟩
  (try simp only [Act.put, List.setIfInBounds_toArray, List.set_cons_zero, List.set_cons_succ])
  go_upto_region 5 with (first | (refine wpList_load_arr rfl rfl rfl RTNum ho ?_) | (refine wpList_val' rfl (run_op_build rfl (by simp [Act.eval, Act.put]) (built_pair1 (partN 1))) ?_) | (refine wpList_new_arr rfl rfl rfl rfl ZTPair RTPair rfl rfl ?_; intro w9 hq b9 hs9))
  have l_hq := lt_of_block h0
  obtain ⟨Bhq, hBhq⟩ : ∃ B, B = w8.heap.size := ⟨_, rfl⟩
  replace h0 := keep_below b9 (lt_of_block h0) h0
  replace h2 := keep_below b9 (lt_of_block h2) h2
  replace hx := keep_below b9 (lt_of_block hx) hx
  replace ho := keep_below b9 (lt_of_block ho) ho
  replace hb := hb.trans (b9.mono hb.size)
  clear b9 hs9
  rw [← hBhq] at l_hq hq ⊢
  clear hBhq
  obtain ⟨w8, rfl⟩ : ∃ x, x = w9 := ⟨_, rfl⟩
  (try simp only [Act.put, List.setIfInBounds_toArray, List.set_cons_zero, List.set_cons_succ])
  go_upto_region 6 with (first | (refine wpList_load_arr rfl rfl rfl RTNum hx ?_) | (refine wpList_load_arr rfl rfl rfl RTNum ho ?_) | (refine wpList_val' rfl (run_op_build rfl (by simp [Act.eval, Act.put]) (built_pair (partN (keyU u)) (partN 1))) ?_) | (refine wpList_new_arr rfl rfl rfl rfl ZTPair RTPair rfl rfl ?_; intro w9 hs b9 hs9))
  have l_hs := lt_of_block h0
  have lqs := lt_of_block hq
  obtain ⟨Bhs, hBhs⟩ : ∃ B, B = w8.heap.size := ⟨_, rfl⟩
  replace h0 := keep_below b9 (lt_of_block h0) h0
  replace h2 := keep_below b9 (lt_of_block h2) h2
  replace hx := keep_below b9 (lt_of_block hx) hx
  replace ho := keep_below b9 (lt_of_block ho) ho
  replace hq := keep_below b9 (lt_of_block hq) hq
  replace hb := hb.trans (b9.mono hb.size)
  clear b9 hs9
  rw [← hBhs] at l_hs hs lqs ⊢
  clear hBhs
  obtain ⟨w8, rfl⟩ : ∃ x, x = w9 := ⟨_, rfl⟩
  (try simp only [Act.put, List.setIfInBounds_toArray, List.set_cons_zero, List.set_cons_succ])
  replace hq : PairIs w8 Bhq ⟨1, 0⟩ := hq
  replace hs : PairIs w8 Bhs ⟨keyU u, 1⟩ := hs
  have oU : keyU u < pN := Nat.mod_lt _ zero_lt_p
  have OU := Lib.hid oU
  have n1 := Lib.hid (ne_of_type h0 hq (by decide))
  have n2 := Lib.hid (ne_of_type h2 hq (by decide))
  have n3 := Lib.hid (ne_of_type hx hq (by decide))
  have n4 := Lib.hid (ne_of_type h0 hs (by decide))
  have n5 := Lib.hid (ne_of_type h2 hs (by decide))
  have n6 := Lib.hid (ne_of_type hx hs (by decide))
  have NQ := Lib.hid (show Bhq ≠ Bhs from Nat.ne_of_lt lqs)
  have LQ := Lib.hid (show w.heap.size ≤ Bhq from Nat.le_of_lt l_hq)
  have LS := Lib.hid (show w.heap.size ≤ Bhs from Nat.le_of_lt l_hs)
  clear oU ho lqs l_ho l_hq l_hs
  go_wp2
  go_loopg [9] 255 (fun n i wr => ∃ m : Nat, m + n = 255 ∧ i = .int .i64 (254 - (m : Int)) ∧ wr.heap[w.heap.size]? = some (.cells (arr .u8 32 fun i => ((clampN k i : Nat) : Int)) 23 (0, 0)) ∧
    wr.heap[w.heap.size + 1 + 1]? = some (.cells (arr .u8 32 fun _ => 0) 23 (0, 0)) ∧ wr.heap[Bhx]? = some (.cells (arr .u64 16 fun i => ((partN (keyU u) i : Nat) : Int)) 51 (0, 0)) ∧
    PairIs wr Bhq (ladP (keyU u) (clampN k) m).1 ∧ PairIs wr Bhs (ladP (keyU u) (clampN k) m).2 ∧ Below w.heap.size w wr)
  case atStart => exact ⟨0, rfl, by simp, h0, h2, hx, hq, hs, hb⟩
  case round =>
    clear h0 h2 hx hq hs hb
    obtain ⟨m, hm, rfl, h0, h2, hx, hq, hs, hb⟩ := hrel
    have hm' := Lib.hid hm
    have ok := Lib.hid (lad_ok (keyU u) OU.out (clampN k) m)
    clear hm
    by_cases hlt : m < 255
    · obtain ⟨at_, hat⟩ : ∃ a : Nat, a = 254 - m := ⟨_, rfl⟩
      obtain ⟨q, hq8⟩ : ∃ a : Nat, a = at_ / 8 := ⟨_, rfl⟩
      obtain ⟨r, hr8⟩ : ∃ a : Nat, a = at_ % 8 := ⟨_, rfl⟩
      have a1 : (254 : Int) - (m : Int) = (at_ : Int) := by omega
      rw [a1]
      have a2 : (at_ : Int) / 8 = (q : Int) := by omega
      have a3 : (at_ : Int) % 8 = (r : Int) := by omega
      have ql : q < 32 := by omega
      have rl : r < 8 := by omega
      have al : at_ < 255 := by omega
      obtain ⟨x, hx8⟩ : ∃ x, clampN k q = x := ⟨_, rfl⟩
      have xl : x < 256 := hx8 ▸ hK.out q ql
      have c0 : wr.cell? ⟨w.heap.size, q, none⟩ = some (.int .u8 (x : Int)) := by rw [cell_arr h0 q ql, hx8]
      have eb : bitN (clampN k) m = x / 2 ^ r % 2 := by unfold bitN; rw [← hat, ← hq8, ← hr8, hx8]
      have e2 : ((x : Int) / 2 ^ r).tmod 2 = ((bitN (clampN k) m : Nat) : Int) := by
        have h : (x : Int) / 2 ^ r = ((x / 2 ^ r : Nat) : Int) := by
          rw [Int.natCast_ediv, Int.natCast_pow]
          rfl
        rw [h, Int.tmod_eq_emod_of_nonneg (Int.natCast_nonneg _), eb, Int.natCast_emod]
        rfl
      have A1 := Lib.hid a1
      clear eb hat hq8 hr8 hx8 a1
      have e0 : bitN (clampN k) m = 0 ∨ bitN (clampN k) m = 1 := bitN_lt _ _
      rcases e0 with hbit | hbit
      · have HB := Lib.hid hbit
        replace e2 : ((x : Int) / 2 ^ r).tmod 2 = 0 := by rw [e2, hbit]; rfl
        clear hbit
        go_upto_region 11 with (fail)
        (try simp only [Act.put, List.setIfInBounds_toArray, List.set_cons_zero, List.set_cons_succ])
        clear c0 a2 a3 ql rl xl e2
        unfold PairIs at hq hs
        refine wp_region_can wr.heap.size 6 [(0, false), (2, false), (3, false), (4, false), (1, true), (5, true)] (by kernel_rfl) (by kernel_rfl) ?_
        (simp only [canOps, List.getElem?_cons_zero, List.getElem?_cons_succ, List.drop_succ_cons, List.drop_zero])
        refine wpCan_load_arr rfl rfl rfl (fun _ _ _ _ h => h) RTPair (lt_of_block (w := wr) hq) hq ?_
        (try simp only [Act.put, List.setIfInBounds_toArray, List.set_cons_zero, List.set_cons_succ])
        refine wpCan_load_arr rfl rfl rfl (fun _ _ _ _ h => h) RTNum (lt_of_block (w := wr) hx) hx ?_
        (try simp only [Act.put, List.setIfInBounds_toArray, List.set_cons_zero, List.set_cons_succ])
        refine wpCan_load_arr rfl rfl rfl (fun _ _ _ _ h => h) RTPair (lt_of_block (w := wr) hq) hq ?_
        (try simp only [Act.put, List.setIfInBounds_toArray, List.set_cons_zero, List.set_cons_succ])
        refine wpCan_load_arr rfl rfl rfl (fun _ _ _ _ h => h) RTPair (lt_of_block (w := wr) hs) hs ?_
        (try simp only [Act.put, List.setIfInBounds_toArray, List.set_cons_zero, List.set_cons_succ])
        refine wpCan_e rfl (fun K hK => ?_)
        go_simp
        refine (RDouble_yes (ladP (keyU u) (clampN k) m).1 ok.out.1 _).mono ?_
        rintro e v1 ⟨rfl, b1⟩
        refine hK _ _ (Keep.of_below b1 (Nat.le_refl _)) ?_
        clear hK K
        (try simp only [Act.put, List.setIfInBounds_toArray, List.set_cons_zero, List.set_cons_succ])
        have cb := b1
        clear b1
        refine wpCan_e rfl (fun K hK => ?_)
        go_simp
        refine (RAddP_yes (keyU u) OU.out (ladP (keyU u) (clampN k) m).1 (ladP (keyU u) (clampN k) m).2 ok.out.1 ok.out.2 _).mono ?_
        rintro e v2 ⟨rfl, b2⟩
        refine hK _ _ (Keep.of_below b2 cb.size) ?_
        clear hK K
        (try simp only [Act.put, List.setIfInBounds_toArray, List.set_cons_zero, List.set_cons_succ])
        replace cb := cb.trans (b2.mono cb.size)
        clear b2
        refine wpCan_nil ?_
        replace h0 := keep_below (w := wr.drew) cb (lt_of_block (w := wr) h0) h0
        replace h2 := keep_below (w := wr.drew) cb (lt_of_block (w := wr) h2) h2
        replace hx := keep_below (w := wr.drew) cb (lt_of_block (w := wr) hx) hx
        replace hq := keep_below (w := wr.drew) cb (lt_of_block (w := wr) hq) hq
        replace hs := keep_below (w := wr.drew) cb (lt_of_block (w := wr) hs) hs
        replace hb := hb.drew.trans (cb.mono hb.size)
        clear cb
        go_upto_region 8 with (first | (refine wpList_store_arr rfl rfl rfl rfl RTPair hq ?_) | (refine wpList_store_arr rfl rfl rfl rfl RTPair (row_keep hs (Ne.symm NQ.out)) ?_))
        replace h0 := row_keep (g := Bhq) (c' := (arr .u64 32 fun i => ((two16 (partN (dblP (ladP (keyU u) (clampN k) m).1).x) (partN (dblP (ladP (keyU u) (clampN k) m).1).z) i : Nat) : Int))) h0 n1.out
        replace h2 := row_keep (g := Bhq) (c' := (arr .u64 32 fun i => ((two16 (partN (dblP (ladP (keyU u) (clampN k) m).1).x) (partN (dblP (ladP (keyU u) (clampN k) m).1).z) i : Nat) : Int))) h2 n2.out
        replace hx := row_keep (g := Bhq) (c' := (arr .u64 32 fun i => ((two16 (partN (dblP (ladP (keyU u) (clampN k) m).1).x) (partN (dblP (ladP (keyU u) (clampN k) m).1).z) i : Nat) : Int))) hx n3.out
        replace hs := row_keep (g := Bhq) (c' := (arr .u64 32 fun i => ((two16 (partN (dblP (ladP (keyU u) (clampN k) m).1).x) (partN (dblP (ladP (keyU u) (clampN k) m).1).z) i : Nat) : Int))) hs (Ne.symm NQ.out)
        replace hq := row_self (c' := (arr .u64 32 fun i => ((two16 (partN (dblP (ladP (keyU u) (clampN k) m).1).x) (partN (dblP (ladP (keyU u) (clampN k) m).1).z) i : Nat) : Int))) hq
        replace hb := row_below hb LQ.out (arr .u64 32 fun i => ((two16 (partN (dblP (ladP (keyU u) (clampN k) m).1).x) (partN (dblP (ladP (keyU u) (clampN k) m).1).z) i : Nat) : Int))
        replace h0 := row_keep (g := Bhs) (c' := (arr .u64 32 fun i => ((two16 (partN (addP (keyU u) (ladP (keyU u) (clampN k) m).1 (ladP (keyU u) (clampN k) m).2).x) (partN (addP (keyU u) (ladP (keyU u) (clampN k) m).1 (ladP (keyU u) (clampN k) m).2).z) i : Nat) : Int))) h0 n4.out
        replace h2 := row_keep (g := Bhs) (c' := (arr .u64 32 fun i => ((two16 (partN (addP (keyU u) (ladP (keyU u) (clampN k) m).1 (ladP (keyU u) (clampN k) m).2).x) (partN (addP (keyU u) (ladP (keyU u) (clampN k) m).1 (ladP (keyU u) (clampN k) m).2).z) i : Nat) : Int))) h2 n5.out
        replace hx := row_keep (g := Bhs) (c' := (arr .u64 32 fun i => ((two16 (partN (addP (keyU u) (ladP (keyU u) (clampN k) m).1 (ladP (keyU u) (clampN k) m).2).x) (partN (addP (keyU u) (ladP (keyU u) (clampN k) m).1 (ladP (keyU u) (clampN k) m).2).z) i : Nat) : Int))) hx n6.out
        replace hq := row_keep (g := Bhs) (c' := (arr .u64 32 fun i => ((two16 (partN (addP (keyU u) (ladP (keyU u) (clampN k) m).1 (ladP (keyU u) (clampN k) m).2).x) (partN (addP (keyU u) (ladP (keyU u) (clampN k) m).1 (ladP (keyU u) (clampN k) m).2).z) i : Nat) : Int))) hq NQ.out
        replace hs := row_self (c' := (arr .u64 32 fun i => ((two16 (partN (addP (keyU u) (ladP (keyU u) (clampN k) m).1 (ladP (keyU u) (clampN k) m).2).x) (partN (addP (keyU u) (ladP (keyU u) (clampN k) m).1 (ladP (keyU u) (clampN k) m).2).z) i : Nat) : Int))) hs
        replace hb := row_below hb LS.out (arr .u64 32 fun i => ((two16 (partN (addP (keyU u) (ladP (keyU u) (clampN k) m).1 (ladP (keyU u) (clampN k) m).2).x) (partN (addP (keyU u) (ladP (keyU u) (clampN k) m).1 (ladP (keyU u) (clampN k) m).2).z) i : Nat) : Int))
        generalize (v2.setRow Bhq (arr .u64 32 fun i => ((two16 (partN (dblP (ladP (keyU u) (clampN k) m).1).x) (partN (dblP (ladP (keyU u) (clampN k) m).1).z) i : Nat) : Int))).setRow Bhs (arr .u64 32 fun i => ((two16 (partN (addP (keyU u) (ladP (keyU u) (clampN k) m).1 (ladP (keyU u) (clampN k) m).2).x) (partN (addP (keyU u) (ladP (keyU u) (clampN k) m).1 (ladP (keyU u) (clampN k) m).2).z) i : Nat) : Int)) = wn at *
        go_wp2
        go_roundg (gk - 1)
        case measure => have := hm'.out; omega
        case rel =>
          have hm'' := hm'.out
          have A1' := A1.out
          have es : ladP (keyU u) (clampN k) (m + 1) = ((dblP (ladP (keyU u) (clampN k) m).1), (addP (keyU u) (ladP (keyU u) (clampN k) m).1 (ladP (keyU u) (clampN k) m).2)) := by
            rw [show ladP (keyU u) (clampN k) (m + 1) = stepP (keyU u) (bitN (clampN k) m) (ladP (keyU u) (clampN k) m).1 (ladP (keyU u) (clampN k) m).2 from rfl]
            unfold stepP
            rw [if_neg (by rw [HB.out]; decide)]
          refine ⟨m + 1, by omega, by go_num, h0, h2, hx, ?_, ?_, hb⟩
          · rw [es]; exact hq
          · rw [es]; exact hs
      · have HB := Lib.hid hbit
        replace e2 : ((x : Int) / 2 ^ r).tmod 2 = 1 := by rw [e2, hbit]; rfl
        clear hbit
        go_upto_region 10 with (fail)
        (try simp only [Act.put, List.setIfInBounds_toArray, List.set_cons_zero, List.set_cons_succ])
        clear c0 a2 a3 ql rl xl e2
        unfold PairIs at hq hs
        refine wp_region_can wr.heap.size 6 [(0, false), (1, false), (2, false), (4, false), (3, true), (5, true)] (by kernel_rfl) (by kernel_rfl) ?_
        (simp only [canOps, List.getElem?_cons_zero, List.getElem?_cons_succ, List.drop_succ_cons, List.drop_zero])
        refine wpCan_load_arr rfl rfl rfl (fun _ _ _ _ h => h) RTNum (lt_of_block (w := wr) hx) hx ?_
        (try simp only [Act.put, List.setIfInBounds_toArray, List.set_cons_zero, List.set_cons_succ])
        refine wpCan_load_arr rfl rfl rfl (fun _ _ _ _ h => h) RTPair (lt_of_block (w := wr) hs) hs ?_
        (try simp only [Act.put, List.setIfInBounds_toArray, List.set_cons_zero, List.set_cons_succ])
        refine wpCan_load_arr rfl rfl rfl (fun _ _ _ _ h => h) RTPair (lt_of_block (w := wr) hq) hq ?_
        (try simp only [Act.put, List.setIfInBounds_toArray, List.set_cons_zero, List.set_cons_succ])
        refine wpCan_load_arr rfl rfl rfl (fun _ _ _ _ h => h) RTPair (lt_of_block (w := wr) hs) hs ?_
        (try simp only [Act.put, List.setIfInBounds_toArray, List.set_cons_zero, List.set_cons_succ])
        refine wpCan_e rfl (fun K hK => ?_)
        go_simp
        refine (RAddP_yes (keyU u) OU.out (ladP (keyU u) (clampN k) m).2 (ladP (keyU u) (clampN k) m).1 ok.out.2 ok.out.1 _).mono ?_
        rintro e v1 ⟨rfl, b1⟩
        refine hK _ _ (Keep.of_below b1 (Nat.le_refl _)) ?_
        clear hK K
        (try simp only [Act.put, List.setIfInBounds_toArray, List.set_cons_zero, List.set_cons_succ])
        have cb := b1
        clear b1
        refine wpCan_e rfl (fun K hK => ?_)
        go_simp
        refine (RDouble_yes (ladP (keyU u) (clampN k) m).2 ok.out.2 _).mono ?_
        rintro e v2 ⟨rfl, b2⟩
        refine hK _ _ (Keep.of_below b2 cb.size) ?_
        clear hK K
        (try simp only [Act.put, List.setIfInBounds_toArray, List.set_cons_zero, List.set_cons_succ])
        replace cb := cb.trans (b2.mono cb.size)
        clear b2
        refine wpCan_nil ?_
        replace h0 := keep_below (w := wr.drew) cb (lt_of_block (w := wr) h0) h0
        replace h2 := keep_below (w := wr.drew) cb (lt_of_block (w := wr) h2) h2
        replace hx := keep_below (w := wr.drew) cb (lt_of_block (w := wr) hx) hx
        replace hq := keep_below (w := wr.drew) cb (lt_of_block (w := wr) hq) hq
        replace hs := keep_below (w := wr.drew) cb (lt_of_block (w := wr) hs) hs
        replace hb := hb.drew.trans (cb.mono hb.size)
        clear cb
        go_upto_region 8 with (first | (refine wpList_store_arr rfl rfl rfl rfl RTPair hq ?_) | (refine wpList_store_arr rfl rfl rfl rfl RTPair (row_keep hs (Ne.symm NQ.out)) ?_))
        replace h0 := row_keep (g := Bhq) (c' := (arr .u64 32 fun i => ((two16 (partN (addP (keyU u) (ladP (keyU u) (clampN k) m).2 (ladP (keyU u) (clampN k) m).1).x) (partN (addP (keyU u) (ladP (keyU u) (clampN k) m).2 (ladP (keyU u) (clampN k) m).1).z) i : Nat) : Int))) h0 n1.out
        replace h2 := row_keep (g := Bhq) (c' := (arr .u64 32 fun i => ((two16 (partN (addP (keyU u) (ladP (keyU u) (clampN k) m).2 (ladP (keyU u) (clampN k) m).1).x) (partN (addP (keyU u) (ladP (keyU u) (clampN k) m).2 (ladP (keyU u) (clampN k) m).1).z) i : Nat) : Int))) h2 n2.out
        replace hx := row_keep (g := Bhq) (c' := (arr .u64 32 fun i => ((two16 (partN (addP (keyU u) (ladP (keyU u) (clampN k) m).2 (ladP (keyU u) (clampN k) m).1).x) (partN (addP (keyU u) (ladP (keyU u) (clampN k) m).2 (ladP (keyU u) (clampN k) m).1).z) i : Nat) : Int))) hx n3.out
        replace hs := row_keep (g := Bhq) (c' := (arr .u64 32 fun i => ((two16 (partN (addP (keyU u) (ladP (keyU u) (clampN k) m).2 (ladP (keyU u) (clampN k) m).1).x) (partN (addP (keyU u) (ladP (keyU u) (clampN k) m).2 (ladP (keyU u) (clampN k) m).1).z) i : Nat) : Int))) hs (Ne.symm NQ.out)
        replace hq := row_self (c' := (arr .u64 32 fun i => ((two16 (partN (addP (keyU u) (ladP (keyU u) (clampN k) m).2 (ladP (keyU u) (clampN k) m).1).x) (partN (addP (keyU u) (ladP (keyU u) (clampN k) m).2 (ladP (keyU u) (clampN k) m).1).z) i : Nat) : Int))) hq
        replace hb := row_below hb LQ.out (arr .u64 32 fun i => ((two16 (partN (addP (keyU u) (ladP (keyU u) (clampN k) m).2 (ladP (keyU u) (clampN k) m).1).x) (partN (addP (keyU u) (ladP (keyU u) (clampN k) m).2 (ladP (keyU u) (clampN k) m).1).z) i : Nat) : Int))
        replace h0 := row_keep (g := Bhs) (c' := (arr .u64 32 fun i => ((two16 (partN (dblP (ladP (keyU u) (clampN k) m).2).x) (partN (dblP (ladP (keyU u) (clampN k) m).2).z) i : Nat) : Int))) h0 n4.out
        replace h2 := row_keep (g := Bhs) (c' := (arr .u64 32 fun i => ((two16 (partN (dblP (ladP (keyU u) (clampN k) m).2).x) (partN (dblP (ladP (keyU u) (clampN k) m).2).z) i : Nat) : Int))) h2 n5.out
        replace hx := row_keep (g := Bhs) (c' := (arr .u64 32 fun i => ((two16 (partN (dblP (ladP (keyU u) (clampN k) m).2).x) (partN (dblP (ladP (keyU u) (clampN k) m).2).z) i : Nat) : Int))) hx n6.out
        replace hq := row_keep (g := Bhs) (c' := (arr .u64 32 fun i => ((two16 (partN (dblP (ladP (keyU u) (clampN k) m).2).x) (partN (dblP (ladP (keyU u) (clampN k) m).2).z) i : Nat) : Int))) hq NQ.out
        replace hs := row_self (c' := (arr .u64 32 fun i => ((two16 (partN (dblP (ladP (keyU u) (clampN k) m).2).x) (partN (dblP (ladP (keyU u) (clampN k) m).2).z) i : Nat) : Int))) hs
        replace hb := row_below hb LS.out (arr .u64 32 fun i => ((two16 (partN (dblP (ladP (keyU u) (clampN k) m).2).x) (partN (dblP (ladP (keyU u) (clampN k) m).2).z) i : Nat) : Int))
        generalize (v2.setRow Bhq (arr .u64 32 fun i => ((two16 (partN (addP (keyU u) (ladP (keyU u) (clampN k) m).2 (ladP (keyU u) (clampN k) m).1).x) (partN (addP (keyU u) (ladP (keyU u) (clampN k) m).2 (ladP (keyU u) (clampN k) m).1).z) i : Nat) : Int))).setRow Bhs (arr .u64 32 fun i => ((two16 (partN (dblP (ladP (keyU u) (clampN k) m).2).x) (partN (dblP (ladP (keyU u) (clampN k) m).2).z) i : Nat) : Int)) = wn at *
        go_wp2
        go_roundg (gk - 1)
        case measure => have := hm'.out; omega
        case rel =>
          have hm'' := hm'.out
          have A1' := A1.out
          have es : ladP (keyU u) (clampN k) (m + 1) = ((addP (keyU u) (ladP (keyU u) (clampN k) m).2 (ladP (keyU u) (clampN k) m).1), (dblP (ladP (keyU u) (clampN k) m).2)) := by
            rw [show ladP (keyU u) (clampN k) (m + 1) = stepP (keyU u) (bitN (clampN k) m) (ladP (keyU u) (clampN k) m).1 (ladP (keyU u) (clampN k) m).2 from rfl]
            unfold stepP
            rw [if_pos HB.out]
          refine ⟨m + 1, by omega, by go_num, h0, h2, hx, ?_, ?_, hb⟩
          · rw [es]; exact hq
          · rw [es]; exact hs
    · obtain rfl : m = 255 := by have := hm'.out; omega
      rw [show (254 : Int) - ((255 : Nat) : Int) = -1 from by omega]
      unfold PairIs at hq
      clear hs hx
      obtain ⟨X, hX⟩ : ∃ x, x = (ladP (keyU u) (clampN k) 255).1.x := ⟨_, rfl⟩
      obtain ⟨Z, hZ⟩ : ∃ x, x = (ladP (keyU u) (clampN k) 255).1.z := ⟨_, rfl⟩
      have oX : X < pN := hX ▸ ok.out.1.1
      have oZ : Z < pN := hZ ▸ ok.out.1.2
      have oI : invM Z 255 < pN := invM_lt Z 255
      have ev : fM X (invM Z 255) = multV k (keyU u) := by
        unfold multV
        rw [← hX, ← hZ]
        show X * invM Z 255 % pN = X * powN Z 57896044618658097711785492504343953926634992332820282019728792003956564819947 % pN
        rw [Nat.mul_mod, invM_all Z, show pN - 2 = 57896044618658097711785492504343953926634992332820282019728792003956564819947 from by unfold pN; rfl, ← Nat.mul_mod]
      rw [← hX, ← hZ] at hq
      have EV := Lib.hid ev
      have OX := Lib.hid oX
      have OZ := Lib.hid oZ
      have OI := Lib.hid oI
      clear hX hZ ev oX oZ oI
      go_upto_region 12 with (fail)
      (try simp only [Act.put, List.setIfInBounds_toArray, List.set_cons_zero, List.set_cons_succ])
      refine wp_region_can wr.heap.size 7 [(0, false), (1, false), (2, false), (3, false), (4, true), (5, true), (6, true)] (by kernel_rfl) (by kernel_rfl) ?_
      (simp only [canOps, List.getElem?_cons_zero, List.getElem?_cons_succ, List.drop_succ_cons, List.drop_zero])
      iterate 1 (first | (refine wpCan_move rfl rfl (fun _ _ _ _ h => h) ?_; (simp only [Act.put, Act.eval, Array.getD_eq_getD_getElem?, List.getElem?_toArray, List.getElem?_cons_zero, List.getElem?_cons_succ, Option.getD_some, List.setIfInBounds_toArray, List.set_cons_zero, List.set_cons_succ])) | (refine wpCan_assign rfl rfl (fun _ _ _ _ h => h) ?_; (simp only [Act.put, Act.eval, Array.getD_eq_getD_getElem?, List.getElem?_toArray, List.getElem?_cons_zero, List.getElem?_cons_succ, Option.getD_some, List.setIfInBounds_toArray, List.set_cons_zero, List.set_cons_succ])) | (refine wpCan_nilCheck rfl rfl rfl (fun _ _ _ _ h => h) ?_; (simp only [Act.put, List.setIfInBounds_toArray, List.set_cons_zero, List.set_cons_succ])) | (refine wpCan_q rfl rfl (fun _ _ _ _ h => h) (by first | exact .bin rfl rfl rfl | exact .indexAddr rfl | exact .un rfl | exact .extract rfl | exact .index rfl | exact .field rfl | exact .slice rfl | exact .fieldT rfl FTPair0 | exact .fieldT rfl FTPair1) (fun K hK => ?_); go_simp; (try (simp only [↓IntWalk.iteOmega]; go_simp)); (try go_bits); refine hK _ ?_; clear hK K))
      refine wpCan_load_as (fun i => ((partN X i : Nat) : Int)) rfl rfl rfl (fun _ _ _ _ h => h) RTNum (lt_of_block (w := wr) hq) hq (by omega) (fun i hi => t16_lo _ _ i hi) ?_
      (try simp only [Act.put, List.setIfInBounds_toArray, List.set_cons_zero, List.set_cons_succ])
      iterate 1 (first | (refine wpCan_move rfl rfl (fun _ _ _ _ h => h) ?_; (simp only [Act.put, Act.eval, Array.getD_eq_getD_getElem?, List.getElem?_toArray, List.getElem?_cons_zero, List.getElem?_cons_succ, Option.getD_some, List.setIfInBounds_toArray, List.set_cons_zero, List.set_cons_succ])) | (refine wpCan_assign rfl rfl (fun _ _ _ _ h => h) ?_; (simp only [Act.put, Act.eval, Array.getD_eq_getD_getElem?, List.getElem?_toArray, List.getElem?_cons_zero, List.getElem?_cons_succ, Option.getD_some, List.setIfInBounds_toArray, List.set_cons_zero, List.set_cons_succ])) | (refine wpCan_nilCheck rfl rfl rfl (fun _ _ _ _ h => h) ?_; (simp only [Act.put, List.setIfInBounds_toArray, List.set_cons_zero, List.set_cons_succ])) | (refine wpCan_q rfl rfl (fun _ _ _ _ h => h) (by first | exact .bin rfl rfl rfl | exact .indexAddr rfl | exact .un rfl | exact .extract rfl | exact .index rfl | exact .field rfl | exact .slice rfl | exact .fieldT rfl FTPair0 | exact .fieldT rfl FTPair1) (fun K hK => ?_); go_simp; (try (simp only [↓IntWalk.iteOmega]; go_simp)); (try go_bits); refine hK _ ?_; clear hK K))
      refine wpCan_load_as (fun i => ((partN Z i : Nat) : Int)) rfl rfl rfl (fun _ _ _ _ h => h) RTNum (lt_of_block (w := wr) hq) hq (by omega) (fun i hi => t16_hi _ _ i hi) ?_
      (try simp only [Act.put, List.setIfInBounds_toArray, List.set_cons_zero, List.set_cons_succ])
      refine wpCan_e rfl (fun K hK => ?_)
      go_simp
      refine (RInvert_any Z OZ.out _).mono ?_
      rintro e v1 ⟨rfl, b1⟩
      refine hK _ _ (Keep.of_below b1 (Nat.le_refl _)) ?_
      clear hK K
      (try simp only [Act.put, List.setIfInBounds_toArray, List.set_cons_zero, List.set_cons_succ])
      have cb := b1
      clear b1
      refine wpCan_e rfl (fun K hK => ?_)
      go_simp
      refine (RM_yes X (invM Z 255) OX.out OI.out _).mono ?_
      rintro e v2 ⟨rfl, b2⟩
      refine hK _ _ (Keep.of_below b2 cb.size) ?_
      clear hK K
      (try simp only [Act.put, List.setIfInBounds_toArray, List.set_cons_zero, List.set_cons_succ])
      replace cb := cb.trans (b2.mono cb.size)
      clear b2
      refine wpCan_e rfl (fun K hK => ?_)
      go_simp
      refine (RBytes_any (fM X (invM Z 255)) _).mono ?_
      rintro e v3 ⟨rfl, b3⟩
      refine hK _ _ (Keep.of_below b3 cb.size) ?_
      clear hK K
      (try simp only [Act.put, List.setIfInBounds_toArray, List.set_cons_zero, List.set_cons_succ])
      replace cb := cb.trans (b3.mono cb.size)
      clear b3
      refine wpCan_nil ?_
      replace h2 := keep_below (w := wr.drew) cb (lt_of_block (w := wr) h2) h2
      replace hb := hb.drew.trans (cb.mono hb.size)
      clear cb
      rw [EV.out]
      go_wp2_with (first | (refine wpList_store_arr rfl rfl rfl rfl RTKey h2 ?_))
      exact bodyPost_ret (results_arr rfl rfl RTKey (row_self h2)) rfl ⟨rfl, row_below hb (by omega) _⟩
end Go.Proofs.Ythgjhipfgdlbnaa
