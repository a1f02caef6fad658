/- The law AesBack: whatever the key, the nonce, the counter, the text and the cut, it answers true. -/
import Derived.Test.YtnckddjlpmkkgaaCtr
import Derived.Test.YtnckddjlpmkkgaaCtrY
import Derived.Test.YtnckddjlpmkkgaaCut
import Derived.Test.YtnckddjlpmkkgaaAesI
namespace Go.Proofs.Ytnckddjlpmkkgaa
set_option linter.unusedSimpArgs false
set_option linter.unusedVariables false
open Go.RowKit
/-! ### Plain -/
theorem bx_bx (a b : Int) (ha : 0 ≤ a ∧ a < 256) : bits .xor .u8 (bits .xor .u8 a b) b = a := by
  refine b8_inj (bits_u8 _ _ _) ha ?_
  rw [b8_bx, b8_bx, BitVec.xor_assoc, BitVec.xor_self, BitVec.xor_zero]
theorem ctrL_get (k m : Nat → Int) (F : Nat) (l : List Nat) (x : Nat) : (ctrL k m F l)[x]? = if x < l.length then some (ctrI k m F l x).toNat else none := by
  unfold ctrL
  rw [List.getElem?_map]
  by_cases h : x < l.length
  · rw [List.getElem?_range h, if_pos h]; rfl
  · rw [if_neg h, List.getElem?_eq_none (by simp; omega)]; rfl
theorem ctr_back (k m : Nat → Int) (F : Nat) (l : List Nat) (hl : ∀ x ∈ l, x < 256) : ctrL k m F (ctrL k m F l) = l := by
  apply List.ext_getElem?
  intro x
  rw [ctrL_get, ctrL_len]
  by_cases h : x < l.length
  · rw [if_pos h, List.getElem?_eq_getElem h]
    congr 1
    unfold ctrI
    rw [ctrL_at k m F l x h]
    unfold ctrI
    have hb := hl _ (List.getElem_mem h)
    rw [List.getD_eq_getElem?_getD, List.getElem?_eq_getElem h, Option.getD_some, bx_bx _ _ (by omega)]
    exact Int.toNat_natCast _
  · rw [if_neg h, List.getElem?_eq_none (by omega)]
theorem ctrI_of (k m : Nat → Int) (F F' : Nat) (l l' : List Nat) (x y : Nat) (h1 : l[x]? = l'[y]?) (h2 : F + x / 16 = F' + y / 16) (h3 : x % 16 = y % 16) : ctrI k m F l x = ctrI k m F' l' y := by
  unfold ctrI
  rw [List.getD_eq_getElem?_getD, List.getD_eq_getElem?_getD, h1, h2, h3]
theorem ctr_take (k m : Nat → Int) (F : Nat) (l : List Nat) (t : Nat) : ctrL k m F (l.take t) = (ctrL k m F l).take t := by
  apply List.ext_getElem?
  intro x
  rw [ctrL_get, List.getElem?_take, ctrL_get, List.length_take]
  by_cases h : x < t
  · rw [if_pos h]
    by_cases h2 : x < l.length
    · rw [if_pos (by omega), if_pos h2, ctrI_of k m F F _ l x x (by rw [List.getElem?_take, if_pos h]) rfl rfl]
    · rw [if_neg (by omega), if_neg h2]
  · rw [if_neg h, if_neg (by omega)]
theorem ctr_drop (k m : Nat → Int) (F b : Nat) (l : List Nat) : ctrL k m (F + b) (l.drop (16 * b)) = (ctrL k m F l).drop (16 * b) := by
  apply List.ext_getElem?
  intro x
  rw [ctrL_get, List.getElem?_drop, ctrL_get, List.length_drop]
  by_cases h : 16 * b + x < l.length
  · rw [if_pos (by omega), if_pos h, ctrI_of k m (F + b) F _ l x (16 * b + x) (by rw [List.getElem?_drop]) (by omega) (by omega)]
  · rw [if_neg (by omega), if_neg h]
attribute [local irreducible] sboxI mulN encI ctrL ctrI

set_option maxRecDepth 100000 in
set_option maxHeartbeats 2000000 in
theorem AesBack_long (k m : Nat → Int) (F : Nat) (A : Option Addr) (n c : Nat) (cut : Int) (h1 : 1000 < n) (h2 : n ≤ 140737488355328) (w : World) :
    Calls Try.prog 7 #[.agg (arr .u8 16 k), .agg (arr .u8 12 m), .int .u32 F, .slice A n c, .int .u8 cut] w fun e w' => e = .returned (.bool true) ∧ Below w.heap.size w w' := by
  go_enter Try.func7, Try.ntmps7
  obtain ⟨g0, g1, hz, hb0⟩ := alloc2 w (.cells (arr .u8 16 k) 23) (.cells (arr .u8 12 m) 34)
  go_wp2_with (go_at_call 9; (with_reducible refine (live_any _).mono ?_); rintro e w1 ⟨rfl, hb1⟩)
  go_ret
  exact ⟨rfl, hb0.trans (hb1.mono (by omega))⟩

set_option maxRecDepth 100000 in
set_option maxHeartbeats 2000000 in
theorem AesBack_no (k m : Nat → Int) (F : Nat) (h3 : F < 4294967296) (A : Option Addr) (n c : Nat) (cut : Int) (h1 : n ≤ 1000) (h2 : 4294967296 < F + (n + 15) / 16) (w : World) :
    Calls Try.prog 7 #[.agg (arr .u8 16 k), .agg (arr .u8 12 m), .int .u32 F, .slice A n c, .int .u8 cut] w fun e w' => e = .returned (.bool true) ∧ Below w.heap.size w w' := by
  have hC := fun w => Ctr_arg k m F A n c (by omega) (by omega) (by omega) (by omega) w
  clear h2 h3
  go_enter Try.func7, Try.ntmps7
  obtain ⟨g0, g1, hz, hb0⟩ := alloc2 w (.cells (arr .u8 16 k) 23) (.cells (arr .u8 12 m) 34)
  go_upto_region 2 with (go_at_call 9; (with_reducible refine (live_any _).mono ?_); rintro e w1 ⟨rfl, hb1⟩)
  replace g0 := keep_below hb1 (by omega) g0
  replace g1 := keep_below hb1 (by omega) g1
  have hB := hb0.trans (hb1.mono (by omega))
  clear hz hb0 hb1
  go_wp2_with (first | (refine wpList_load_arr (g := w.heap.size) rfl rfl rfl RTBlock g0 ?_) | (refine wpList_load_arr (g := w.heap.size + 1) rfl rfl rfl RTNonce g1 ?_) | (go_at_call 18; (with_reducible refine (hC _).mono ?_); rintro e w3 ⟨rfl, b3⟩))
  go_ret
  exact ⟨rfl, hB.trans (b3.mono hB.size)⟩

set_option maxRecDepth 100000 in
set_option maxHeartbeats 2000000 in
theorem AesBack_yes (k m : Nat → Int) (hk : ∀ i, i < 16 → 0 ≤ k i ∧ k i < 256) (hm : ∀ i, i < 12 → 0 ≤ m i ∧ m i < 256) (F : Nat) (h3 : F < 4294967296) (A : Option Addr) (n c : Nat) (hnc : n ≤ c) (l : List Nat) (cut : Int) (hcut : 0 ≤ cut ∧ cut < 256)
    (h1 : n ≤ 1000) (h2 : F + (n + 15) / 16 ≤ 4294967296) (w : World) (h : Txt w w.heap.size A n c l) (hl : ∀ x ∈ l, x < 256) :
    Calls Try.prog 7 #[.agg (arr .u8 16 k), .agg (arr .u8 12 m), .int .u32 F, .slice A n c, .int .u8 cut] w fun e w' => e = .returned (.bool true) ∧ Below w.heap.size w w' := by
  have H0 := Lib.hid h
  have HL := Lib.hid hl
  have HK := Lib.hid hk
  have HM := Lib.hid hm
  have H3 := Lib.hid h3
  have H2 := Lib.hid h2
  have HC := Lib.hid hnc
  have hc0 := hcut.1
  have hc1 := hcut.2
  clear h hl hk hm h3 h2 hnc hcut
  go_enter Try.func7, Try.ntmps7
  obtain ⟨g0, g1, hz, hb0⟩ := alloc2 w (.cells (arr .u8 16 k) 23) (.cells (arr .u8 12 m) 34)
  go_upto_region 2 with (go_at_call 9; (with_reducible refine (live_any _).mono ?_); rintro e w1 ⟨rfl, hb1⟩)
  replace g0 := keep_below hb1 (by omega) g0
  replace g1 := keep_below hb1 (by omega) g1
  have hB := hb0.trans (hb1.mono (by omega))
  clear hz hb0 hb1
  have hn2 : n ≤ 1048576 := by omega
  have hT := (H0.out.below hB).more hB.size
  go_upto_region 7 with (first | (refine wpList_load_arr (g := w.heap.size) rfl rfl rfl RTBlock g0 ?_) | (refine wpList_load_arr (g := w.heap.size + 1) rfl rfl rfl RTNonce g1 ?_) | (go_at_call 18; (with_reducible refine (Ctr_yes k m HK.out HM.out F H3.out A n c l _ hT HL.out hn2 H2.out).mono ?_); rintro e w3 ⟨X, rfl, hX, b3⟩))
  replace g0 := keep_below b3 (by have := lt_of_block g0; omega) g0
  replace g1 := keep_below b3 (by have := lt_of_block g1; omega) g1
  replace hX := hX.mono hB.size
  replace hB := hB.trans (b3.mono hB.size)
  clear b3 hT
  obtain ⟨Ax, cx, rfl, hxt⟩ := hX.txt
  have hcl : (ctrL k m F l).length = n := by rw [ctrL_len]; exact H0.out.len
  simp only [hcl] at hX hxt ⊢
  have hnx := hX.cap
  have hXL := ctrL_lt k m F l
  go_upto_region 9 with (fail)
  go_upto_region 10 with (first | (refine wpList_load_arr (g := w.heap.size) rfl rfl rfl RTBlock g0 ?_) | (refine wpList_load_arr (g := w.heap.size + 1) rfl rfl rfl RTNonce g1 ?_) | (go_at_call 18; (with_reducible refine (Ctr_yes k m HK.out HM.out F H3.out Ax n cx _ _ hxt hXL hn2 H2.out).mono ?_); rintro e w4 ⟨Y, rfl, hY, b4⟩))
  replace g0 := keep_below b4 (by have := lt_of_block g0; omega) g0
  replace g1 := keep_below b4 (by have := lt_of_block g1; omega) g1
  replace hX := hX.below b4 hX.lt'
  replace hB := hB.trans (b4.mono hB.size)
  clear b4 hxt
  rw [ctr_back k m F l HL.out] at hY
  obtain ⟨Ay, cy, rfl, hyt⟩ := hY.txt
  have hln : l.length = n := H0.out.len
  simp only [hln] at hyt ⊢
  have hT := (H0.out.below hB).more hB.size
  go_upto_region 12 with (go_at_call 20; (with_reducible refine (Same_txt Ay n cy l A n c l _ _ hyt hT HL.out HL.out).mono ?_); rintro e w5 ⟨rfl, rfl⟩)
  clear hyt hY hT
  go_upto_region 13 with (fail)
  obtain ⟨bl, hbl, hble⟩ : ∃ bl : Nat, cut % ((n : Int) / 16 + 1) = bl ∧ bl ≤ n / 16 := by
    have e1 := Int.emod_nonneg cut (b := (n : Int) / 16 + 1) (by omega)
    have e2 := Int.emod_lt_of_pos cut (b := (n : Int) / 16 + 1) (by omega)
    exact ⟨(cut % ((n : Int) / 16 + 1)).toNat, by omega, by omega⟩
  simp only [hbl]
  clear hbl hc0 hc1
  obtain ⟨t, ht, hti⟩ : ∃ t : Nat, t = 16 * bl ∧ 16 * (bl : Int) = t := ⟨16 * bl, rfl, by omega⟩
  have htn : t ≤ n := by omega
  have HTT := Lib.hid ht
  have HTI := Lib.hid hti
  clear ht hti
  have hl0 := lt_of_block g0
  have hl1 := lt_of_block g1
  have hT := ((H0.out.below hB).more hB.size).drew
  have hT1 := hT.take HC.out htn
  have hL1 : ∀ x ∈ l.take t, x < 256 := fun x hx => HL.out x (List.mem_of_mem_take hx)
  (try simp only [Act.put, List.setIfInBounds_toArray, List.set_cons_zero, List.set_cons_succ])
  refine wp_region_can w4.heap.size 12 [(0, false), (1, false), (2, false), (3, false), (4, false), (5, false), (6, false), (7, true), (8, false), (9, false), (10, false), (11, false)] (by kernel_rfl) (by kernel_rfl) ?_
  (simp only [canOps, List.getElem?_cons_zero, List.getElem?_cons_succ, List.drop_succ_cons, List.drop_zero])
  refine wpCan_load_arr rfl rfl rfl (fun _ _ _ _ h => h) RTBlock hl0 g0 ?_
  (try simp only [Act.put, List.setIfInBounds_toArray, List.set_cons_zero, List.set_cons_succ])
  refine wpCan_load_arr rfl rfl rfl (fun _ _ _ _ h => h) RTNonce hl1 g1 ?_
  (try simp only [Act.put, List.setIfInBounds_toArray, List.set_cons_zero, List.set_cons_succ])
  iterate 4 (first | (refine wpCan_move rfl rfl (fun _ _ _ _ h => h) ?_; (simp only [Act.put, Act.eval, Array.getD_eq_getD_getElem?, List.getElem?_toArray, List.getElem?_cons_zero, List.getElem?_cons_succ, Option.getD_some, List.setIfInBounds_toArray, List.set_cons_zero, List.set_cons_succ])) | (refine wpCan_assign rfl rfl (fun _ _ _ _ h => h) ?_; (simp only [Act.put, Act.eval, Array.getD_eq_getD_getElem?, List.getElem?_toArray, List.getElem?_cons_zero, List.getElem?_cons_succ, Option.getD_some, List.setIfInBounds_toArray, List.set_cons_zero, List.set_cons_succ])) | (refine wpCan_nilCheck rfl rfl rfl (fun _ _ _ _ h => h) ?_; (simp only [Act.put, List.setIfInBounds_toArray, List.set_cons_zero, List.set_cons_succ])) | (refine wpCan_q rfl rfl (fun _ _ _ _ h => h) (by first | exact .bin rfl rfl rfl | exact .indexAddr rfl | exact .un rfl | exact .extract rfl | exact .index rfl | exact .field rfl | exact .slice rfl) (fun K hK => ?_); go_simp; (try (simp only [↓IntWalk.iteOmega]; go_simp)); (try go_bits); refine hK _ ?_; clear hK K))
  rw [HTI.out]
  refine wpCan_v rfl (fun _ _ _ _ h => h) (.slice rfl) (run_op_cut_h BT rfl rfl rfl (by have := HC.out; omega)) ?_
  (try simp only [Act.put, List.setIfInBounds_toArray, List.set_cons_zero, List.set_cons_succ])
  refine wpCan_e rfl (fun K hK => ?_)
  go_simp
  refine (Ctr_yes k m HK.out HM.out F H3.out A t c (l.take t) _ hT1 hL1 (by omega) (by have := H2.out; have := HTT.out; omega)).mono ?_
  rintro e w5 ⟨X1, rfl, hX1, b5⟩
  refine hK _ _ (Keep.of_below b5 (Nat.le_refl _)) ?_
  clear hK K
  (try simp only [Act.put, List.setIfInBounds_toArray, List.set_cons_zero, List.set_cons_succ])
  iterate 4 (first | (refine wpCan_move rfl rfl (fun _ _ _ _ h => h) ?_; (simp only [Act.put, Act.eval, Array.getD_eq_getD_getElem?, List.getElem?_toArray, List.getElem?_cons_zero, List.getElem?_cons_succ, Option.getD_some, List.setIfInBounds_toArray, List.set_cons_zero, List.set_cons_succ])) | (refine wpCan_assign rfl rfl (fun _ _ _ _ h => h) ?_; (simp only [Act.put, Act.eval, Array.getD_eq_getD_getElem?, List.getElem?_toArray, List.getElem?_cons_zero, List.getElem?_cons_succ, Option.getD_some, List.setIfInBounds_toArray, List.set_cons_zero, List.set_cons_succ])) | (refine wpCan_nilCheck rfl rfl rfl (fun _ _ _ _ h => h) ?_; (simp only [Act.put, List.setIfInBounds_toArray, List.set_cons_zero, List.set_cons_succ])) | (refine wpCan_q rfl rfl (fun _ _ _ _ h => h) (by first | exact .bin rfl rfl rfl | exact .indexAddr rfl | exact .un rfl | exact .extract rfl | exact .index rfl | exact .field rfl | exact .slice rfl) (fun K hK => ?_); go_simp; (try (simp only [↓IntWalk.iteOmega]; go_simp)); (try go_bits); refine hK _ ?_; clear hK K))
  refine wpCan_nil ?_
  go_upto_region 14 with (fail)
  have hBlk : ∀ a b, (Value.slice Ax n cx).ownBlock = some a → X1.ownBlock = some b → a ≠ b := fun a b ha hb => by
    have h1 := hX.lt' a ha
    have h2 := (hX1.lt b hb).1
    have h3 : w4.drew.heap.size = w4.heap.size := rfl
    omega
  replace g0 := keep_below (w := w4.drew) b5 hl0 g0
  replace g1 := keep_below (w := w4.drew) b5 hl1 g1
  replace hX := hX.drew.below b5 hX.lt'
  replace hX1 := hX1.mono (show w.heap.size ≤ w4.drew.heap.size from hB.size)
  replace hB := hB.drew.trans (b5.mono hB.size)
  clear hT hT1 hL1 hl0 hl1 b5
  have hl0 := lt_of_block g0
  have hl1 := lt_of_block g1
  have hT := ((H0.out.below hB).more hB.size).drew
  have hT2 := hT.from HC.out htn
  have hL2 : ∀ x ∈ l.drop t, x < 256 := fun x hx => HL.out x (List.mem_of_mem_drop hx)
  have u32 : Try.prog.underlying 35 = some (.int .u32) := Try.underlying35
  have hF0 := H3.out
  have hble2 : bl ≤ 62 := by omega
  by_cases hw : F + bl < 4294967296
  · refine wp_region_can w5.heap.size 15 [(0, false), (1, false), (2, false), (3, false), (4, false), (5, false), (6, false), (7, false), (8, false), (9, false), (10, true), (11, false), (12, false), (13, false), (14, false)] (by kernel_rfl) (by kernel_rfl) ?_
    (simp only [canOps, List.getElem?_cons_zero, List.getElem?_cons_succ, List.drop_succ_cons, List.drop_zero])
    refine wpCan_load_arr rfl rfl rfl (fun _ _ _ _ h => h) RTBlock hl0 g0 ?_
    (try simp only [Act.put, List.setIfInBounds_toArray, List.set_cons_zero, List.set_cons_succ])
    refine wpCan_load_arr rfl rfl rfl (fun _ _ _ _ h => h) RTNonce hl1 g1 ?_
    (try simp only [Act.put, List.setIfInBounds_toArray, List.set_cons_zero, List.set_cons_succ])
    iterate 7 (first | (refine wpCan_move rfl rfl (fun _ _ _ _ h => h) ?_; (simp only [Act.put, Act.eval, Array.getD_eq_getD_getElem?, List.getElem?_toArray, List.getElem?_cons_zero, List.getElem?_cons_succ, Option.getD_some, List.setIfInBounds_toArray, List.set_cons_zero, List.set_cons_succ])) | (refine wpCan_assign rfl rfl (fun _ _ _ _ h => h) ?_; (simp only [Act.put, Act.eval, Array.getD_eq_getD_getElem?, List.getElem?_toArray, List.getElem?_cons_zero, List.getElem?_cons_succ, Option.getD_some, List.setIfInBounds_toArray, List.set_cons_zero, List.set_cons_succ])) | (refine wpCan_nilCheck rfl rfl rfl (fun _ _ _ _ h => h) ?_; (simp only [Act.put, List.setIfInBounds_toArray, List.set_cons_zero, List.set_cons_succ])) | (refine wpCan_q rfl rfl (fun _ _ _ _ h => h) (by first | exact .bin rfl rfl rfl | exact .indexAddr rfl | exact .un rfl | exact .extract rfl | exact .index rfl | exact .field rfl | exact .slice rfl | exact .conv rfl rfl u32) (fun K hK => ?_); go_simp; (try (simp only [↓IntWalk.iteOmega]; go_simp)); (try go_bits); refine hK _ ?_; clear hK K))
    rw [HTI.out]
    refine wpCan_v rfl (fun _ _ _ _ h => h) (.slice rfl) (run_op_cut_l BT rfl rfl rfl htn) ?_
    (try simp only [Act.put, List.setIfInBounds_toArray, List.set_cons_zero, List.set_cons_succ])
    refine wpCan_e rfl (fun K hK => ?_)
    go_simp
    rw [show (F : Int) + bl = ((F + bl : Nat) : Int) from by omega]
    refine (Ctr_yes k m HK.out HM.out (F + bl) hw (cutA A t c) (n - t) (c - t) (l.drop t) _ hT2 hL2 (by omega) (by have := H2.out; have := HTT.out; omega)).mono ?_
    rintro e w6 ⟨X2, rfl, hX2, b6⟩
    refine hK _ _ (Keep.of_below b6 (Nat.le_refl _)) ?_
    clear hK K
    (try simp only [Act.put, List.setIfInBounds_toArray, List.set_cons_zero, List.set_cons_succ])
    iterate 4 (first | (refine wpCan_move rfl rfl (fun _ _ _ _ h => h) ?_; (simp only [Act.put, Act.eval, Array.getD_eq_getD_getElem?, List.getElem?_toArray, List.getElem?_cons_zero, List.getElem?_cons_succ, Option.getD_some, List.setIfInBounds_toArray, List.set_cons_zero, List.set_cons_succ])) | (refine wpCan_assign rfl rfl (fun _ _ _ _ h => h) ?_; (simp only [Act.put, Act.eval, Array.getD_eq_getD_getElem?, List.getElem?_toArray, List.getElem?_cons_zero, List.getElem?_cons_succ, Option.getD_some, List.setIfInBounds_toArray, List.set_cons_zero, List.set_cons_succ])) | (refine wpCan_nilCheck rfl rfl rfl (fun _ _ _ _ h => h) ?_; (simp only [Act.put, List.setIfInBounds_toArray, List.set_cons_zero, List.set_cons_succ])) | (refine wpCan_q rfl rfl (fun _ _ _ _ h => h) (by first | exact .bin rfl rfl rfl | exact .indexAddr rfl | exact .un rfl | exact .extract rfl | exact .index rfl | exact .field rfl | exact .slice rfl) (fun K hK => ?_); go_simp; (try (simp only [↓IntWalk.iteOmega]; go_simp)); (try go_bits); refine hK _ ?_; clear hK K))
    refine wpCan_nil ?_
    rw [HTT.out, ctr_drop] at hX2
    replace hX := hX.drew.below b6 hX.lt'
    replace hX1 := hX1.drew.below b6 hX1.lt'
    replace hB := hB.drew.trans (b6.mono hB.size)
    obtain ⟨A2, c2, rfl, hx2⟩ := hX2.txt
    obtain ⟨A3, c3, he3, hxt⟩ := hX.txt
    rw [hcl] at he3 hxt
    injection he3 with e1 _ e2
    subst e1 e2
    rw [ctr_take, HTT.out] at hX1
    clear hT hT2 b6 g0 g1
    go_wp2_with (first | (refine wpList_append_g rfl rfl BT rfl rfl hX1 hx2 (by simp; omega) hB.size ?_; intro v7 w7 hown hg hat))
    have hB7 := own_below hB hX1 hg (Nat.le_refl _) hB.size
    have hX7 := hX.kept hg (by
      by_cases hq : (Value.slice Ax n cx).ownBlock = none
      · exact .inl hq
      · obtain ⟨a, ha⟩ := Option.ne_none_iff_exists'.1 hq
        exact .inr fun he => hBlk a a ha (he ▸ ha) rfl)
    rw [List.take_append_drop] at hown
    obtain ⟨A7, c7, rfl, h7⟩ := hown.txt
    obtain ⟨A8, c8, he8, h8⟩ := hX7.txt
    rw [hcl] at he8 h8
    injection he8 with e1 _ e2
    subst e1 e2
    refine (Same_txt Ax n cx _ A7 _ c7 _ _ _ h8 h7 (ctrL_lt k m F l) (ctrL_lt k m F l)).mono ?_
    rintro e w8 ⟨rfl, rfl⟩
    go_wp2
    go_ret
    exact ⟨by simp, hB7⟩
  · refine wp_region_can w5.heap.size 15 [(0, false), (1, false), (2, false), (3, false), (4, false), (5, false), (6, false), (7, false), (8, false), (9, false), (10, true), (11, false), (12, false), (13, false), (14, false)] (by kernel_rfl) (by kernel_rfl) ?_
    (simp only [canOps, List.getElem?_cons_zero, List.getElem?_cons_succ, List.drop_succ_cons, List.drop_zero])
    refine wpCan_load_arr rfl rfl rfl (fun _ _ _ _ h => h) RTBlock hl0 g0 ?_
    (try simp only [Act.put, List.setIfInBounds_toArray, List.set_cons_zero, List.set_cons_succ])
    refine wpCan_load_arr rfl rfl rfl (fun _ _ _ _ h => h) RTNonce hl1 g1 ?_
    (try simp only [Act.put, List.setIfInBounds_toArray, List.set_cons_zero, List.set_cons_succ])
    iterate 7 (first | (refine wpCan_move rfl rfl (fun _ _ _ _ h => h) ?_; (simp only [Act.put, Act.eval, Array.getD_eq_getD_getElem?, List.getElem?_toArray, List.getElem?_cons_zero, List.getElem?_cons_succ, Option.getD_some, List.setIfInBounds_toArray, List.set_cons_zero, List.set_cons_succ])) | (refine wpCan_assign rfl rfl (fun _ _ _ _ h => h) ?_; (simp only [Act.put, Act.eval, Array.getD_eq_getD_getElem?, List.getElem?_toArray, List.getElem?_cons_zero, List.getElem?_cons_succ, Option.getD_some, List.setIfInBounds_toArray, List.set_cons_zero, List.set_cons_succ])) | (refine wpCan_nilCheck rfl rfl rfl (fun _ _ _ _ h => h) ?_; (simp only [Act.put, List.setIfInBounds_toArray, List.set_cons_zero, List.set_cons_succ])) | (refine wpCan_q rfl rfl (fun _ _ _ _ h => h) (by first | exact .bin rfl rfl rfl | exact .indexAddr rfl | exact .un rfl | exact .extract rfl | exact .index rfl | exact .field rfl | exact .slice rfl | exact .conv rfl rfl u32) (fun K hK => ?_); go_simp; (try (simp only [↓IntWalk.iteOmega]; go_simp)); (try go_bits); refine hK _ ?_; clear hK K))
    rw [HTI.out]
    refine wpCan_v rfl (fun _ _ _ _ h => h) (.slice rfl) (run_op_cut_l BT rfl rfl rfl htn) ?_
    (try simp only [Act.put, List.setIfInBounds_toArray, List.set_cons_zero, List.set_cons_succ])
    refine wpCan_e rfl (fun K hK => ?_)
    go_simp
    have hF1 : F + bl = 4294967296 := by have := H2.out; omega
    have hnt : n - t = 0 := by have := H2.out; have := HTT.out; omega
    rw [show ((F : Int) + bl) % 4294967296 = ((0 : Nat) : Int) from by omega]
    refine (Ctr_yes k m HK.out HM.out 0 (by omega) (cutA A t c) (n - t) (c - t) (l.drop t) _ hT2 hL2 (by omega) (by omega)).mono ?_
    rintro e w6 ⟨X2, rfl, hX2, b6⟩
    refine hK _ _ (Keep.of_below b6 (Nat.le_refl _)) ?_
    clear hK K
    (try simp only [Act.put, List.setIfInBounds_toArray, List.set_cons_zero, List.set_cons_succ])
    iterate 4 (first | (refine wpCan_move rfl rfl (fun _ _ _ _ h => h) ?_; (simp only [Act.put, Act.eval, Array.getD_eq_getD_getElem?, List.getElem?_toArray, List.getElem?_cons_zero, List.getElem?_cons_succ, Option.getD_some, List.setIfInBounds_toArray, List.set_cons_zero, List.set_cons_succ])) | (refine wpCan_assign rfl rfl (fun _ _ _ _ h => h) ?_; (simp only [Act.put, Act.eval, Array.getD_eq_getD_getElem?, List.getElem?_toArray, List.getElem?_cons_zero, List.getElem?_cons_succ, Option.getD_some, List.setIfInBounds_toArray, List.set_cons_zero, List.set_cons_succ])) | (refine wpCan_nilCheck rfl rfl rfl (fun _ _ _ _ h => h) ?_; (simp only [Act.put, List.setIfInBounds_toArray, List.set_cons_zero, List.set_cons_succ])) | (refine wpCan_q rfl rfl (fun _ _ _ _ h => h) (by first | exact .bin rfl rfl rfl | exact .indexAddr rfl | exact .un rfl | exact .extract rfl | exact .index rfl | exact .field rfl | exact .slice rfl) (fun K hK => ?_); go_simp; (try (simp only [↓IntWalk.iteOmega]; go_simp)); (try go_bits); refine hK _ ?_; clear hK K))
    refine wpCan_nil ?_
    replace hX := hX.drew.below b6 hX.lt'
    replace hX1 := hX1.drew.below b6 hX1.lt'
    replace hB := hB.drew.trans (b6.mono hB.size)
    clear hX2 hT hT2 b6 g0 g1
    rw [ctr_take] at hX1
    obtain ⟨A3, c3, he3, hxt⟩ := hX.txt
    rw [hcl] at he3 hxt
    injection he3 with e1 _ e2
    subst e1 e2
    have hx3 := hxt.take hX.cap htn
    obtain ⟨A4, c4, rfl, h4⟩ := hX1.txt
    have hl4 : ((ctrL k m F l).take t).length = t := by rw [List.length_take, hcl]; omega
    simp only [hl4] at h4 ⊢
    have hL3 : ∀ x ∈ (ctrL k m F l).take t, x < 256 := fun x hx => hXL x (List.mem_of_mem_take hx)
    go_wp2_with (first | (refine wpList_valg rfl (run_op_cut_h BT rfl rfl (congrArg (Value.int .i64) HTI.out) (by have := hX.cap; omega)) ?_) | (go_at_call 20; (with_reducible refine (Same_txt Ax t cx _ A4 t c4 _ _ _ hx3 h4 hL3 hL3).mono ?_); rintro e w8 ⟨rfl, rfl⟩))
    go_ret
    exact ⟨by simp, hB⟩

theorem AesBack_any (w : World) (k : Nat → Int) (hk : ∀ i, i < 16 → 0 ≤ k i ∧ k i < 256) (m : Nat → Int) (hm : ∀ i, i < 12 → 0 ≤ m i ∧ m i < 256) (fr : Int) (hf : 0 ≤ fr ∧ fr < 4294967296) (A : Option Addr) (n c : Nat) (l : List Nat) (hn : n ≤ 140737488355328 ∧ n ≤ c) (h : Txt w w.heap.size A n c l) (hl : ∀ x ∈ l, x < 256) (cut : Int) (hcut : 0 ≤ cut ∧ cut < 256) :
    Calls Try.prog 7 #[.agg (arr .u8 16 k), .agg (arr .u8 12 m), .int .u32 fr, .slice A n c, .int .u8 cut] w fun e w' => e = .returned (.bool true) ∧ Below w.heap.size w w' := by
  obtain ⟨F, rfl⟩ : ∃ F : Nat, fr = F := ⟨fr.toNat, by omega⟩
  by_cases h1 : n ≤ 1000
  · by_cases h3 : F + (n + 15) / 16 ≤ 4294967296
    · exact AesBack_yes k m hk hm F (by omega) A n c hn.2 l cut hcut h1 h3 w h hl
    · exact AesBack_no k m F (by omega) A n c cut h1 (by omega) w
  · exact AesBack_long k m F A n c cut (by omega) hn.1 w
end Go.Proofs.Ytnckddjlpmkkgaa
