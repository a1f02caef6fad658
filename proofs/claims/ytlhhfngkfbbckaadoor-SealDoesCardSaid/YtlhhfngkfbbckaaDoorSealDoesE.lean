/- The walk of the reference for layer 4: a block encrypted. The walk of the reference's Ctr where there is a text. Arguments that come in, opened: rows of integers by value. No program is in sight. Arguments that come in, opened: texts, and structs of four with texts. No program is in sight. Arguments that come in, opened: whatever is made of integers, texts, keys, structs and slices. No program is in sight. Arguments opened; the variables that are laid. -/
import Derived.Test.YtlhhfngkfbbckaaDoorSealDoesD
import Derived.WalkKit
import Derived.WalkSpells
import Derived.WalkLawsBesides
import Derived.Deep.QuietTactic
import Derived.BigQuiet
import Derived.StillTailTactics
import Derived.Lib.Hide
import Derived.Deep.LoopGhost
import Derived.Outline
import Derived.Deep.DeepFit
import Derived.Deep.RegionHeld3
import Derived.Deep.RegionLaw
import Derived.Maps.AppendAt
import Derived.Deep.AppendLies
import Derived.Deep.Draws
import Derived.Laws.OwnMore
import Derived.Laws.AppendOwnNone
import Derived.OwnWalk
import Derived.Below
import Derived.OrdersHeld
import Derived.Laws.StructEq
import Derived.Test.YtlhhfngkfbbckaaDoorRows
import Derived.Lib.SliceRun
import Derived.Laws.IdiomStrings
import Derived.Deep.Cut
import Derived.Deep.CutBlock
import Derived.Deep.CutRange
import Derived.DataElems
import Derived.Great.BuildSlice
import Derived.Laws.Entries
import Derived.Laws.Tables
import Derived.SizedLaws
import Derived.Laws.Small
import Derived.Laws.MakeOwn
import Derived.Laws.CopyRow
import Derived.Laws.IdiomCopy
import Derived.Test.YtlhhfngkfbbckaaDoorChecked
import Derived.Lib.Tables
import Derived.Lib.BitFns
import Derived.KernelRfl
import Derived.Deep.OwnRows
import Derived.Great.Walk
import Derived.ProofKit
import Derived.OpenShut
import Derived.ShutString
import Derived.ChangeOld
import Derived.ChangeSlices
import Derived.Lib.SmallJoins
import Derived.Lib.LaidU8
import Derived.LaidHandle
import Derived.LaidLaws
import Derived.Handed
import Derived.Deep.DeepLaidRun
namespace Go.Proofs.YtlhhfngkfbbckaaDoor
set_option linter.unusedSimpArgs false
set_option linter.unusedVariables false
open Go.RowKit
attribute [local irreducible] sboxI mulN
theorem round_ref (s : Nat → Int) (hs : ∀ i, i < 16 → 0 ≤ s i ∧ s i < 256) (q : Nat) (hq : q < 16) : bmixI (bturnI s) q = roundI s false q := by
  unfold bmixI
  rw [mix_col (rowI s (q / 4)) (bturnI s) (q / 4) (fun i hi => rowI_byte s hs _ _ hi) (fun i hi => by unfold bturnI; rw [show (4 * (q / 4) + i) / 4 = q / 4 from by omega, show (4 * (q / 4) + i) % 4 = i from by omega]) (q % 4) (by omega)]
  unfold roundI
  rw [if_neg Bool.false_ne_true]
theorem bturnI_byte (s : Nat → Int) (hs : ∀ i, i < 16 → 0 ≤ s i ∧ s i < 256) (q : Nat) : 0 ≤ bturnI s q ∧ bturnI s q < 256 := rowI_byte s hs _ _ (by omega)
theorem encJ_succ (k s : Nat → Int) (j : Nat) : encJ k s (j + 1) = xorI (roundI (encJ k s j) (decide (j + 1 = 10))) (keyK k (j + 1)) := rfl
theorem encJ_mid (k s : Nat → Int) (j i : Nat) (hj : j + 1 < 10) (hi : i < 16) : xorI (bmixI (bturnI (encJ k s j))) (keyK k (j + 1)) i = encJ k s (j + 1) i := by
  rw [encJ_succ]
  unfold xorI
  rw [round_ref _ (fun i _ => encJ_byte k s j i) i hi, show decide (j + 1 = 10) = false from decide_eq_false (by omega)]
theorem encJ_last (k s : Nat → Int) (j i : Nat) (hj : ¬ j + 1 < 10) (hj' : j < 10) : xorI (bturnI (encJ k s j)) (keyK k (j + 1)) i = encJ k s (j + 1) i := by
  rw [encJ_succ]
  unfold xorI
  rw [show decide (j + 1 = 10) = true from decide_eq_true (by omega)]
  rfl

set_option maxRecDepth 100000 in
set_option maxHeartbeats 1000000 in
theorem refEncrypt_any (k s : Nat → Int) (hk : ∀ i, i < 16 → 0 ≤ k i ∧ k i < 256) (hs : ∀ i, i < 16 → 0 ≤ s i ∧ s i < 256) (w : World) :
    Calls Tryd.prog 49 #[.agg (arr .u8 16 k), .agg (arr .u8 16 s)] w fun e w' => e = .returned (.agg (arr .u8 16 (encI k s))) ∧ Below w.heap.size w w' := by
  go_enter Tryd.func49, Tryd.ntmps49
  obtain ⟨h0, h1, h2, hsz, hb⟩ := alloc3 w (.cells (arr .u8 16 k) 41) (.cells (arr .u8 16 s) 41) (.cells (arr .u8 16 fun _ => 0) 41)
  go_wp2_with (first | (refine wpList_alloc_arr rfl rfl ZTBlock ?_) | (refine wpList_load_arr rfl rfl rfl RTBlock h0 ?_) | (go_at_call 63; fail))
  refine (refKeys_any k hk _).mono ?_
  rintro e w1 ⟨rfl, b1⟩
  have g1 := keep_below b1 (by omega) h1
  have g2 := keep_below b1 (by omega) h2
  have hB1 := hb.trans (b1.mono (by omega))
  clear h0 h1 h2 hsz hb b1
  go_upto_region 2 with (refine wpList_new_arr rfl rfl rfl rfl ZTKeys RTKeys rfl rfl ?_; intro w2 g3 b2 hs2)
  have f1 := keep_below b2 (lt_of_block g1) g1
  have f2 := keep_below b2 (lt_of_block g2) g2
  have hB2 := hB1.trans (b2.mono hB1.size)
  have l2 := lt_of_block g2
  clear g1 g2 b2 hs2 hB1
  generalize w1.heap.size = BK at *
  (try simp only [Act.put, List.setIfInBounds_toArray, List.set_cons_zero, List.set_cons_succ])
  go_wp2_with (first | (refine wpList_load_arr rfl rfl rfl RTBlock f1 ?_) | (refine wpList_load_as (off := 0 * 16) (keyK k 0) rfl rfl rfl RTBlock g3 (by omega) (fun i hi => keys_at k 0 i hi) ?_) | (go_at_call 64; fail))
  refine (refXor_any _ _ _).mono ?_
  rintro e w3 ⟨rfl, b3⟩
  have m2 := keep_below b3 (lt_of_block f2) f2
  have m3 := keep_below b3 (lt_of_block g3) g3
  have hB3 := hB2.trans (b3.mono hB2.size)
  have l3 := lt_of_block m3
  clear f1 f2 g3 b3 hB2
  go_upto_region 3 with (refine wpList_new_arr rfl rfl rfl rfl ZTBlock RTBlock rfl rfl ?_; intro w4 m4 b4 hs4)
  have q2 := keep_below b4 (lt_of_block m2) m2
  have q3 := keep_below b4 l3 m3
  have hB4 := hB3.trans (b4.mono hB3.size)
  clear m2 m3 b4 hs4 hB3
  generalize w3.heap.size = BX at *
  (try simp only [Act.put, List.setIfInBounds_toArray, List.set_cons_zero, List.set_cons_succ])
  go_wp2
  go_loopg [7] 10 (fun n i wr => ∃ j : Nat, j + n = 10 ∧ i = .int .i64 ((j : Int) + 1) ∧ wr.heap[w.heap.size + 1 + 1]? = some (.cells (arr .u8 16 fun _ => 0) 41 (0, 0)) ∧
      wr.heap[BK]? = some (.cells (arr .u8 176 fun i => keyK k (i / 16) (i % 16)) 67 (0, 0)) ∧ wr.heap[BX]? = some (.cells (arr .u8 16 (encJ k s j)) 41 (0, 0)) ∧ Below w.heap.size w wr)
  case atStart => exact ⟨0, rfl, rfl, q2, q3, m4, hB4⟩
  case round =>
    clear q2 q3 m4 hB4
    obtain ⟨j, hj, rfl, g2, g3, g4, hB⟩ := hrel
    have hj' := Lib.hid hj
    clear hj
    by_cases hlt : j < 10
    · go_upto_region 7 with (first | (refine wpList_load_arr rfl rfl rfl RTBlock g4 ?_) | (go_at_call 65; refine (turned_any _ (fun i _ => encJ_byte k s j i) _).mono ?_; rintro e w5 ⟨rfl, b5⟩; have e4 := keep_below b5 (lt_of_block g4) g4) | (refine wpList_store_arr rfl rfl rfl rfl RTBlock e4 ?_))
      have q2 := row_keep (w := w5) (c' := arr .u8 16 (bturnI (encJ k s j))) (g := BX) (keep_below b5 (lt_of_block g2) g2) (by omega)
      have q3 := row_keep (w := w5) (c' := arr .u8 16 (bturnI (encJ k s j))) (g := BX) (keep_below b5 (lt_of_block g3) g3) (by omega)
      have q4 := row_self (w := w5) (c' := arr .u8 16 (bturnI (encJ k s j))) e4
      have hBq := row_below (hB.trans (b5.mono hB.size)) (g := BX) (by omega) (arr .u8 16 (bturnI (encJ k s j)))
      clear e4 b5 g2 g3 g4 hB
      generalize w5.setRow BX (arr .u8 16 (bturnI (encJ k s j))) = wz at *
      (try simp only [Act.put, List.setIfInBounds_toArray, List.set_cons_zero, List.set_cons_succ])
      by_cases hc : j + 1 < 10
      · go_upto_region 9 with (first | (refine wpList_load_arr rfl rfl rfl RTBlock q4 ?_) | (go_at_call 66; refine (mixed_any _ (fun i _ => bturnI_byte _ (fun i _ => encJ_byte k s j i) i) _).mono ?_; rintro e w6 ⟨rfl, b6⟩; have e4 := keep_below b6 (lt_of_block q4) q4) | (refine wpList_store_arr rfl rfl rfl rfl RTBlock e4 ?_))
        have e2 := row_keep (w := w6) (c' := arr .u8 16 (bmixI (bturnI (encJ k s j)))) (g := BX) (keep_below b6 (lt_of_block q2) q2) (by omega)
        have e3 := row_keep (w := w6) (c' := arr .u8 16 (bmixI (bturnI (encJ k s j)))) (g := BX) (keep_below b6 (lt_of_block q3) q3) (by omega)
        have e5 := row_self (w := w6) (c' := arr .u8 16 (bmixI (bturnI (encJ k s j)))) e4
        have hBe := row_below (hBq.trans (b6.mono hBq.size)) (g := BX) (by omega) (arr .u8 16 (bmixI (bturnI (encJ k s j))))
        clear e4 b6 q2 q3 q4 hBq
        generalize w6.setRow BX (arr .u8 16 (bmixI (bturnI (encJ k s j)))) = wz at *
        have q2 := e2
        have q3 := e3
        have q4 := e5
        have hBq := hBe
        clear e2 e3 e5 hBe
        (try simp only [Act.put, List.setIfInBounds_toArray, List.set_cons_zero, List.set_cons_succ])
        refine wp_region_can wz.heap.size 5 [(0, false), (1, false), (2, false), (3, false), (4, true)] (by kernel_rfl) (by kernel_rfl) ?_
        (simp only [canOps, List.getElem?_cons_zero, List.getElem?_cons_succ, List.drop_succ_cons, List.drop_zero])
        refine wpCan_load_arr rfl rfl rfl (fun _ _ _ _ h => h) RTBlock (lt_of_block q4) q4 ?_
        (try simp only [Act.put, List.setIfInBounds_toArray, List.set_cons_zero, List.set_cons_succ])
        iterate 2 (first | (refine wpCan_move rfl rfl (fun _ _ _ _ h => h) ?_; (simp only [Act.put, Act.eval, Array.getD_eq_getD_getElem?, List.getElem?_toArray, List.getElem?_cons_zero, List.getElem?_cons_succ, Option.getD_some, List.setIfInBounds_toArray, List.set_cons_zero, List.set_cons_succ])) | (refine wpCan_assign rfl rfl (fun _ _ _ _ h => h) ?_; (simp only [Act.put, Act.eval, Array.getD_eq_getD_getElem?, List.getElem?_toArray, List.getElem?_cons_zero, List.getElem?_cons_succ, Option.getD_some, List.setIfInBounds_toArray, List.set_cons_zero, List.set_cons_succ])) | (refine wpCan_nilCheck rfl rfl rfl (fun _ _ _ _ h => h) ?_; (simp only [Act.put, List.setIfInBounds_toArray, List.set_cons_zero, List.set_cons_succ])) | (refine wpCan_q rfl rfl (fun _ _ _ _ h => h) (by first | exact .bin rfl rfl rfl | exact .indexAddr rfl | exact .un rfl | exact .extract rfl | exact .index rfl | exact .field rfl | exact .slice rfl) (fun K hK => ?_); go_simp; (try (simp only [↓IntWalk.iteOmega]; go_simp)); (try go_bits); refine hK _ ?_; clear hK K))
        refine wpCan_load_as (off := (j + 1) * 16) (keyK k (j + 1)) rfl rfl rfl (fun _ _ _ _ h => h) RTBlock (lt_of_block q3) q3 (by omega) (fun i hi => keys_at k (j + 1) i hi) ?_
        (try simp only [Act.put, List.setIfInBounds_toArray, List.set_cons_zero, List.set_cons_succ])
        refine wpCan_e rfl (fun K hK => ?_)
        go_simp
        refine (refXor_any _ _ _).mono ?_
        rintro e w9 ⟨rfl, b9⟩
        refine hK _ _ (Keep.of_below b9 (Nat.le_refl _)) ?_
        clear hK K
        (try simp only [Act.put, List.setIfInBounds_toArray, List.set_cons_zero, List.set_cons_succ])
        refine wpCan_nil ?_
        have e2 := keep_below (w := wz.drew) b9 (lt_of_block q2) q2
        have e3 := keep_below (w := wz.drew) b9 (lt_of_block q3) q3
        have e4 := keep_below (w := wz.drew) b9 (lt_of_block q4) q4
        have hBe := hBq.drew.trans (b9.mono hBq.size)
        clear q2 q3 q4 hBq b9
        go_wp2_with (refine wpList_store_arr rfl rfl rfl rfl RTBlock e4 ?_)
        go_roundg (gk - 1)
        case measure => have := hj'.out; omega
        case rel =>
          have hj'' := hj'.out
          refine ⟨j + 1, by omega, by go_num, row_keep e2 (by omega), row_keep e3 (by omega), blk_congr (row_self e4) (fun i hi => ?_), row_below hBe (by omega) _⟩
          exact encJ_mid k s j i hc hi
      · go_upto_region 9 with (fail)
        (try simp only [Act.put, List.setIfInBounds_toArray, List.set_cons_zero, List.set_cons_succ])
        refine wp_region_can wz.heap.size 5 [(0, false), (1, false), (2, false), (3, false), (4, true)] (by kernel_rfl) (by kernel_rfl) ?_
        (simp only [canOps, List.getElem?_cons_zero, List.getElem?_cons_succ, List.drop_succ_cons, List.drop_zero])
        refine wpCan_load_arr rfl rfl rfl (fun _ _ _ _ h => h) RTBlock (lt_of_block q4) q4 ?_
        (try simp only [Act.put, List.setIfInBounds_toArray, List.set_cons_zero, List.set_cons_succ])
        iterate 2 (first | (refine wpCan_move rfl rfl (fun _ _ _ _ h => h) ?_; (simp only [Act.put, Act.eval, Array.getD_eq_getD_getElem?, List.getElem?_toArray, List.getElem?_cons_zero, List.getElem?_cons_succ, Option.getD_some, List.setIfInBounds_toArray, List.set_cons_zero, List.set_cons_succ])) | (refine wpCan_assign rfl rfl (fun _ _ _ _ h => h) ?_; (simp only [Act.put, Act.eval, Array.getD_eq_getD_getElem?, List.getElem?_toArray, List.getElem?_cons_zero, List.getElem?_cons_succ, Option.getD_some, List.setIfInBounds_toArray, List.set_cons_zero, List.set_cons_succ])) | (refine wpCan_nilCheck rfl rfl rfl (fun _ _ _ _ h => h) ?_; (simp only [Act.put, List.setIfInBounds_toArray, List.set_cons_zero, List.set_cons_succ])) | (refine wpCan_q rfl rfl (fun _ _ _ _ h => h) (by first | exact .bin rfl rfl rfl | exact .indexAddr rfl | exact .un rfl | exact .extract rfl | exact .index rfl | exact .field rfl | exact .slice rfl) (fun K hK => ?_); go_simp; (try (simp only [↓IntWalk.iteOmega]; go_simp)); (try go_bits); refine hK _ ?_; clear hK K))
        refine wpCan_load_as (off := (j + 1) * 16) (keyK k (j + 1)) rfl rfl rfl (fun _ _ _ _ h => h) RTBlock (lt_of_block q3) q3 (by omega) (fun i hi => keys_at k (j + 1) i hi) ?_
        (try simp only [Act.put, List.setIfInBounds_toArray, List.set_cons_zero, List.set_cons_succ])
        refine wpCan_e rfl (fun K hK => ?_)
        go_simp
        refine (refXor_any _ _ _).mono ?_
        rintro e w9 ⟨rfl, b9⟩
        refine hK _ _ (Keep.of_below b9 (Nat.le_refl _)) ?_
        clear hK K
        (try simp only [Act.put, List.setIfInBounds_toArray, List.set_cons_zero, List.set_cons_succ])
        refine wpCan_nil ?_
        have e2 := keep_below (w := wz.drew) b9 (lt_of_block q2) q2
        have e3 := keep_below (w := wz.drew) b9 (lt_of_block q3) q3
        have e4 := keep_below (w := wz.drew) b9 (lt_of_block q4) q4
        have hBe := hBq.drew.trans (b9.mono hBq.size)
        clear q2 q3 q4 hBq b9
        go_wp2_with (refine wpList_store_arr rfl rfl rfl rfl RTBlock e4 ?_)
        go_roundg (gk - 1)
        case measure => have := hj'.out; omega
        case rel =>
          have hj'' := hj'.out
          refine ⟨j + 1, by omega, by go_num, row_keep e2 (by omega), row_keep e3 (by omega), blk_congr (row_self e4) (fun i hi => ?_), row_below hBe (by omega) _⟩
          exact encJ_last k s j i hc hlt
    · obtain rfl : j = 10 := by have := hj'.out; omega
      go_wp2_with (first | (refine wpList_load_arr rfl rfl rfl RTBlock g4 ?_) | (refine wpList_store_arr rfl rfl rfl rfl RTBlock g2 ?_))
      exact bodyPost_ret (results_arr rfl rfl RTBlock (row_self g2)) rfl ⟨rfl, row_below hB (by omega) _⟩
end Go.Proofs.YtlhhfngkfbbckaaDoor
namespace Go.Proofs.YtlhhfngkfbbckaaDoor
set_option linter.unusedSimpArgs false
set_option linter.unusedVariables false
open Go.RowKit
attribute [local irreducible] sboxI beL beK encI mulN
/-- The first y bytes of what a stream comes to. -/
def ctrP (k m : Nat → Int) (F : Nat) (l : List Nat) (y : Nat) : List Nat := (List.range y).map fun x => (ctrI k m F l x).toNat
theorem ctrP_len (k m : Nat → Int) (F : Nat) (l : List Nat) (y : Nat) : (ctrP k m F l y).length = y := by unfold ctrP; simp
theorem ctrP_succ (k m : Nat → Int) (F : Nat) (l : List Nat) (y : Nat) : ctrP k m F l (y + 1) = ctrP k m F l y ++ [(ctrI k m F l y).toNat] := by unfold ctrP; rw [List.range_succ, List.map_append]; rfl
theorem ctrP_all (k m : Nat → Int) (F : Nat) (l : List Nat) : ctrP k m F l l.length = ctrL k m F l := rfl
theorem ctrI_eq (k m : Nat → Int) (F : Nat) (l : List Nat) (x : Nat) : ctrI k m F l x = bits .xor .u8 ((l.getD x 0 : Nat) : Int) (encI k (inI m (F + x / 16)) (x % 16)) := rfl
attribute [local irreducible] ctrP ctrI
theorem beL4_at (t i : Nat) (hi : i < 4) : (beL 4 t)[i]? = some (t / 2 ^ (8 * (3 - i)) % 256) := by
  unfold beL beK
  rw [List.getElem?_map, List.getElem?_range hi]
  rfl

set_option maxRecDepth 100000 in
set_option maxHeartbeats 4000000 in
theorem RCtr_yes (k m : Nat → Int) (hk : ∀ i, i < 16 → 0 ≤ k i ∧ k i < 256) (hm : ∀ i, i < 12 → 0 ≤ m i ∧ m i < 256) (F : Nat) (h3 : F < 4294967296) (A : Option Addr) (n c : Nat) (l : List Nat) (w : World) (h : Txt w w.heap.size A n c l) (hl : ∀ x ∈ l, x < 256) (h1 : n ≤ 1048576) (h2 : F + (n + 15) / 16 ≤ 4294967296) :
    Calls Tryd.prog 31 #[.agg (arr .u8 16 k), .agg (arr .u8 12 m), .int .u32 F, .slice A n c] w (RetYes w (ctrL k m F l)) := by
  go_enter Tryd.func31, Tryd.ntmps31
  obtain ⟨g0, g1, hz, hb⟩ := alloc2 w (.cells (arr .u8 16 k) 41) (.cells (arr .u8 12 m) 43)
  have H0 := Lib.hid h
  have HL := Lib.hid hl
  have HM := Lib.hid hm
  have HK := Lib.hid hk
  clear h hl hm hk
  go_upto_region 6 with (fail)
  generalize ((w.alloc (.cells (arr .u8 16 k) 41)).alloc (.cells (arr .u8 12 m) 43)) = wa at *
  (try simp only [Act.put, List.setIfInBounds_toArray, List.set_cons_zero, List.set_cons_succ])
  obtain ⟨bl, hbl⟩ : ∃ bl : Nat, ((n : Int) + 15) / 16 = bl := ⟨(n + 15) / 16, by omega⟩
  simp only [hbl]
  have hb1 : F + bl ≤ 4294967296 := by omega
  have hb2 : n ≤ 16 * bl := by omega
  have hb3 : 16 * bl ≤ n + 15 := by omega
  clear h2 hbl
  go_wp2
  go_loopg [34, 11] bl (fun r i v wr => ∃ (j : Nat) (y : Nat), j + r = bl ∧ i = .int .u64 j ∧ (y = 16 * j ∨ y = n) ∧ y ≤ 16 * j ∧ y ≤ n ∧ wr.heap[w.heap.size]? = some (.cells (arr .u8 16 k) 41 (0, 0)) ∧ wr.heap[w.heap.size + 1]? = some (.cells (arr .u8 12 m) 43 (0, 0)) ∧ Own wr (w.heap.size + 2) 5 v (ctrP k m F l y) ∧ Below w.heap.size w wr)
  case atStart => exact ⟨0, 0, by omega, rfl, by omega, by omega, by omega, g0, g1, by unfold ctrP; exact Own.nil_, hb⟩
  case round =>
    obtain ⟨go1, rfl⟩ : ∃ x, x = gk := ⟨_, rfl⟩
    clear g0 g1 hz hb
    obtain ⟨j, y, hj, rfl, hy1, hy2, hy3, g0, g1, ho, hB⟩ := hrel
    have HJ := Lib.hid hj
    have HO := Lib.hid ho
    have HY := Lib.hid (And.intro hy1 (And.intro hy2 hy3))
    clear hj ho hy1 hy2 hy3
    by_cases hlt : j < bl
    · go_upto_region 11 with (refine wpList_alloc_arr rfl rfl ZTBlock ?_)
      obtain ⟨hI0, hIs, hIb⟩ := alloc1 wr (.cells (arr .u8 16 fun _ => 0) 41)
      have l1 := lt_of_block g1
      replace g0 := keep_below hIb (lt_of_block g0) g0
      replace g1 := keep_below hIb l1 g1
      have hlt' := HO.out.lt
      have HO := Lib.hid (HO.out.alloc (.cells (arr .u8 16 fun _ => 0) 41))
      replace hB := hB.trans (hIb.mono hB.size)
      generalize wr.alloc (.cells (arr .u8 16 fun _ => 0) 41) = wb at *
      generalize wr.heap.size = I at *
      have hI' : w.heap.size + 1 < I := l1
      have HLT := Lib.hid hlt'
      clear hIb hlt' l1
      go_wp2_with (refine wpList_load_arr rfl rfl rfl RTNonce g1 ?_)
      go_loopg [38] 12 (fun r x wq => ∃ p : Nat, p + r = 12 ∧ x = .int .i64 p ∧ wq.heap[I]? = some (.cells (arr .u8 16 fun x => if x < p then m x else 0) 41 (0, 0)) ∧ wq.heap[w.heap.size]? = some (.cells (arr .u8 16 k) 41 (0, 0)) ∧ wq.heap[w.heap.size + 1]? = some (.cells (arr .u8 12 m) 43 (0, 0)) ∧ Own wq (w.heap.size + 2) 5 u11 (ctrP k m F l y) ∧ Below w.heap.size w wq)
      case atStart => exact ⟨0, by omega, rfl, hI0, g0, g1, HO.out, hB⟩
      case round =>
        clear g0 g1 HO hB hI0 hIs
        obtain ⟨p, hp, rfl, gI, g0, g1, ho, hB⟩ := hrel
        have HP := Lib.hid hp
        have HO := Lib.hid ho
        clear hp ho
        by_cases hlp : p < 12
        · have cI := cell_arr gI p (by omega)
          have fz := free_arr gI p
          go_wp2_with (refine wpList_index_cell rfl rfl Tryd.underlying43 Tryd.underlying5 rfl SZByte rfl rfl (by omega) (by omega) (by omega) ?_)
          go_roundg (gk - 1)
          case measure => have := HP.out; omega
          case rel =>
            have hP := HP.out
            exact ⟨p + 1, by omega, by go_num, blk_congr (set_arr gI p _) (fun i _ => fill_grow _ _ _ i rfl), keep_arr g0 _ _ (by omega), keep_arr g1 _ _ (by omega), HO.out.setCell (p := ⟨I, p, none⟩) (fun k hk => by have := HLT.out k hk; show k ≠ I; omega) _, hB.setCell (p := ⟨I, p, none⟩) (by show w.heap.size ≤ I; omega) _⟩
        · obtain rfl : p = 12 := by have := HP.out; omega
          have hat : F + j < 4294967296 := by omega
          go_wp2_with (go_at_call 33; fail)
          obtain ⟨T, hT, hTi⟩ : ∃ T : Nat, T = F + j ∧ (F : Int) + j = T := ⟨F + j, rfl, by omega⟩
          have hTb : T < 4294967296 := by omega
          rw [hTi]
          have HT := Lib.hid hT
          clear hT hTi
          have lI := lt_of_block gI
          refine (Bytes_any 4 T (by omega) (by omega) _).mono ?_
          rintro e w2 ⟨V, rfl, hV, b2⟩
          replace gI := keep_below b2 lI gI
          replace g0 := keep_below b2 (by omega) g0
          replace g1 := keep_below b2 (by omega) g1
          have HO := Lib.hid (HO.out.below b2 HO.out.lt')
          replace hB := hB.trans (b2.mono hB.size)
          replace hV := hV.mono (show I + 1 ≤ _ by omega)
          obtain ⟨Ab, cb, rfl, htb⟩ := hV.txt
          simp only [beL_len] at hV htb ⊢
          obtain ⟨ad, rfl, -, -⟩ := htb.cell (k := 0) (by omega)
          clear b2 htb
          go_wp2
          have gI2 := blk_congr (f' := fun x => if x < 12 + 0 then inI m T x else 0) gI (fun i _ => by
            by_cases h : i < 12
            · simp only [if_pos h, Nat.add_zero]; unfold inI; rw [if_pos h]
            · simp only [if_neg h, Nat.add_zero])
          clear gI
          go_loopg [52] 4 (fun r x wq => ∃ p : Nat, p + r = 4 ∧ x = .int .i64 p ∧ wq.heap[I]? = some (.cells (arr .u8 16 fun x => if x < 12 + p then inI m T x else 0) 41 (0, 0)) ∧ wq.heap[w.heap.size]? = some (.cells (arr .u8 16 k) 41 (0, 0)) ∧ wq.heap[w.heap.size + 1]? = some (.cells (arr .u8 12 m) 43 (0, 0)) ∧ Own wq (I + 1) 5 (.slice (some ad) 4 cb) (beL 4 T) ∧ Own wq (w.heap.size + 2) 5 u11 (ctrP k m F l y) ∧ Below w.heap.size w wq)
          case atStart => exact ⟨0, by omega, rfl, gI2, g0, g1, hV, HO.out, hB⟩
          case round =>
            clear gI2 g0 g1 hV HO hB
            obtain ⟨p, hp, rfl, gI, g0, g1, hV, ho, hB⟩ := hrel
            have HP2 := Lib.hid hp
            have HO := Lib.hid ho
            have HV := Lib.hid hV
            clear hp ho hV
            by_cases hlp : p < 4
            · have cI := cell_arr gI (12 + p) (by omega)
              have fz := free_arr gI (12 + p)
              have cV : wr.cell? (ad.add p) = some (.int .u8 ((T / 2 ^ (8 * (3 - p)) % 256 : Nat) : Int)) := by
                obtain ⟨A2, c2, he, ht⟩ := HV.out.txt
                injection he with he
                subst he
                obtain ⟨ad', he, _, hc⟩ := ht.at_ (by rw [beL_len]; omega)
                injection he with he
                subst he
                exact hc p _ (beL4_at T p hlp)
              have cb2 : T / 2 ^ (8 * (3 - p)) % 256 < 256 := Nat.mod_lt _ (by omega)
              generalize hbt : T / 2 ^ (8 * (3 - p)) % 256 = bt at cV cb2
              have HBT := Lib.hid hbt
              clear hbt
              go_wp2
              go_roundg (gk - 1)
              case measure => have := HP2.out; omega
              case rel =>
                have hP := HP2.out
                refine ⟨p + 1, by omega, by go_num, blk_congr (set_arr gI (12 + p) _) (fun i _ => ?_), keep_arr g0 _ _ (by omega), keep_arr g1 _ _ (by omega), HV.out.setCell (p := ⟨I, 12 + p, none⟩) (fun k hk => by have := (HV.out.lt k hk).1; show k ≠ I; omega) _, HO.out.setCell (p := ⟨I, 12 + p, none⟩) (fun k hk => by have := HLT.out k hk; show k ≠ I; omega) _, hB.setCell (p := ⟨I, 12 + p, none⟩) (by show w.heap.size ≤ I; omega) _⟩
                refine fill_grow (inI m T) (12 + p) _ i ?_
                unfold inI
                rw [if_neg (by omega), show 15 - (12 + p) = 3 - p from by omega, HBT.out]
            · obtain rfl : p = 4 := by have := HP2.out; omega
              replace gI := blk_congr (f' := inI m T) gI (fun i hi => if_pos hi)
              have lI := lt_of_block gI
              clear HV
              go_upto_region 21 with (fail)
              (try simp only [Act.put, List.setIfInBounds_toArray, List.set_cons_zero, List.set_cons_succ])
              refine wp_region_lit ?_
              refine wpList_load_arr (g := w.heap.size) rfl rfl rfl RTBlock g0 ?_
              (try simp only [Act.put, List.setIfInBounds_toArray, List.set_cons_zero, List.set_cons_succ])
              refine wpList_load_arr (g := I) rfl rfl rfl RTBlock gI ?_
              (try simp only [Act.put, List.setIfInBounds_toArray, List.set_cons_zero, List.set_cons_succ])
              go_wp2_with (first | (go_at_call 49; (with_reducible refine (refEncrypt_any k _ HK.out (fun i _ => inI_byte m HM.out T i) _).mono ?_); rintro e w2 ⟨rfl, b2⟩) | (refine wpList_new_arr rfl rfl rfl rfl ZTBlock RTBlock rfl rfl ?_; intro w3 gS b3 hs3))
              replace g0 := keep_below b2 (by omega) g0
              replace g1 := keep_below b2 (by omega) g1
              have HO := Lib.hid (HO.out.below b2 HO.out.lt')
              replace hB := hB.trans (b2.mono hB.size)
              clear b2 gI lI
              have hS0 : w.heap.size + 1 < w2.heap.size := lt_of_block g1
              replace g0 := keep_below b3 (by omega) g0
              replace g1 := keep_below b3 (by omega) g1
              have hSO : ∀ k, u11.ownBlock = some k → k ≠ w2.heap.size := fun k hk => by have := HO.out.lt' k hk; omega
              have HO := Lib.hid (HO.out.below b3 HO.out.lt')
              replace hB := hB.trans (b3.mono hB.size)
              clear b3 hs3
              generalize w2.heap.size = S at *
              (try simp only [Act.put, List.setIfInBounds_toArray, List.set_cons_zero, List.set_cons_succ])
              have hyj : y = 16 * j := by have := HY.out; omega
              subst hyj
              have hjn : 16 * j < n := by omega
              clear HLT HY
              go_loopg [19, 11] 16 (fun r x v wq => ∃ p : Nat, p + r = 16 ∧ x = .int .i64 p ∧ 16 * j + p ≤ n ∧ wq.heap[S]? = some (.cells (arr .u8 16 (encI k (inI m T))) 41 (0, 0)) ∧ wq.heap[w.heap.size]? = some (.cells (arr .u8 16 k) 41 (0, 0)) ∧ wq.heap[w.heap.size + 1]? = some (.cells (arr .u8 12 m) 43 (0, 0)) ∧ Own wq (w.heap.size + 2) 5 v (ctrP k m F l (16 * j + p)) ∧ (∀ k, v.ownBlock = some k → k ≠ S) ∧ Below w.heap.size w wq)
              case atStart => exact ⟨0, by omega, rfl, by omega, gS, g0, g1, HO.out, hSO, hB⟩
              case round =>
                clear gS g0 g1 HO hB hSO
                obtain ⟨p, hp, rfl, hpn, gS, g0, g1, ho, hSO, hB⟩ := hrel
                have HP3 := Lib.hid hp
                have HO := Lib.hid ho
                have HSO := Lib.hid hSO
                clear hp ho hSO
                by_cases hlp : p < 16
                · by_cases hln : 16 * j + p < n
                  · obtain ⟨ad2, rfl, hab, hac⟩ := (H0.out.below hB).cell hln
                    replace hac : wr.cell? (ad2.add (16 * j + p)) = some (.int .u8 ((l.getD (16 * j + p) 0 : Nat) : Int)) := hac
                    have hbd := HL.out _ (show l.getD (16 * j + p) 0 ∈ l from by rw [List.getD_eq_getElem?_getD, List.getElem?_eq_getElem (by rw [H0.out.len]; exact hln)]; exact List.getElem_mem _)
                    have hS := cell_arr gS p hlp
                    obtain ⟨z, hz⟩ : ∃ z : Nat, z = (ctrI k m F l (16 * j + p)).toNat := ⟨_, rfl⟩
                    have hv : bits .xor .u8 ((l[j * 16 + p]?.getD 0 : Nat) : Int) (encI k (inI m T) p) = ((z : Nat) : Int) := by
                      rw [hz, Int.toNat_of_nonneg (ctrI_byte k m F l (16 * j + p)).1, ctrI_eq, HT.out, List.getD_eq_getElem?_getD, show (16 * j + p) / 16 = j from by omega, show (16 * j + p) % 16 = p from by omega, Nat.mul_comm 16 j]
                    have HV := Lib.hid hv
                    have HZ := Lib.hid hz
                    clear hv hz
                    go_wp2
                    (try simp only [Act.put, List.setIfInBounds_toArray, List.set_cons_zero, List.set_cons_succ])
                    refine wp_region_can w.heap.size 15 [(0, false), (1, false), (2, false), (3, false), (4, false), (5, false), (6, false), (7, false), (8, false), (9, false), (10, false), (11, true), (12, false), (13, true), (14, true)] (by kernel_rfl) (by kernel_rfl) ?_
                    (simp only [canOps, List.getElem?_cons_zero, List.getElem?_cons_succ, List.drop_succ_cons, List.drop_zero])
                    have uI : Tryd.prog.underlying 3 = some (.int .i64) := Tryd.underlying3
                    iterate 8 (first | (refine wpCan_move rfl rfl (fun _ _ _ _ h => h) ?_; (simp only [Act.put, Act.eval, Array.getD_eq_getD_getElem?, List.getElem?_toArray, List.getElem?_cons_zero, List.getElem?_cons_succ, Option.getD_some, List.setIfInBounds_toArray, List.set_cons_zero, List.set_cons_succ])) | (refine wpCan_assign rfl rfl (fun _ _ _ _ h => h) ?_; (simp only [Act.put, Act.eval, Array.getD_eq_getD_getElem?, List.getElem?_toArray, List.getElem?_cons_zero, List.getElem?_cons_succ, Option.getD_some, List.setIfInBounds_toArray, List.set_cons_zero, List.set_cons_succ])) | (refine wpCan_nilCheck rfl rfl rfl (fun _ _ _ _ h => h) ?_; (simp only [Act.put, List.setIfInBounds_toArray, List.set_cons_zero, List.set_cons_succ])) | (refine wpCan_q rfl rfl (fun _ _ _ _ h => h) (by first | exact .bin rfl rfl rfl | exact .indexAddr rfl | exact .un rfl | exact .extract rfl | exact .index rfl | exact .field rfl | exact .slice rfl | exact .conv rfl rfl uI) (fun K hK => ?_); go_simp; (try (simp only [↓IntWalk.iteOmega]; go_simp)); (try go_bits); refine hK _ ?_; clear hK K))
                    rw [Nat.mul_comm 16 j, List.getD_eq_getElem?_getD] at hac
                    have hac' : wr.drew.cell? (ad2.add (j * 16 + p)) = _ := hac
                    refine wpCan_v rfl (fun _ _ _ _ h => h) (Framed.loadC rfl Tryd.underlying5 rfl (by rw [add_block]; exact hab) hac') (run_load_u8 rfl Tryd.underlying5 rfl hac') ?_
                    (try simp only [Act.put, List.setIfInBounds_toArray, List.set_cons_zero, List.set_cons_succ])
                    iterate 2 (first | (refine wpCan_move rfl rfl (fun _ _ _ _ h => h) ?_; (simp only [Act.put, Act.eval, Array.getD_eq_getD_getElem?, List.getElem?_toArray, List.getElem?_cons_zero, List.getElem?_cons_succ, Option.getD_some, List.setIfInBounds_toArray, List.set_cons_zero, List.set_cons_succ])) | (refine wpCan_assign rfl rfl (fun _ _ _ _ h => h) ?_; (simp only [Act.put, Act.eval, Array.getD_eq_getD_getElem?, List.getElem?_toArray, List.getElem?_cons_zero, List.getElem?_cons_succ, Option.getD_some, List.setIfInBounds_toArray, List.set_cons_zero, List.set_cons_succ])) | (refine wpCan_nilCheck rfl rfl rfl (fun _ _ _ _ h => h) ?_; (simp only [Act.put, List.setIfInBounds_toArray, List.set_cons_zero, List.set_cons_succ])) | (refine wpCan_q rfl rfl (fun _ _ _ _ h => h) (by first | exact .bin rfl rfl rfl | exact .indexAddr rfl | exact .un rfl | exact .extract rfl | exact .index rfl | exact .field rfl | exact .slice rfl) (fun K hK => ?_); go_simp; (try (simp only [↓IntWalk.iteOmega]; go_simp)); (try go_bits); refine hK _ ?_; clear hK K))
                    refine wpCan_e rfl (fun K hK => ?_)
                    go_simp
                    refine hK _ _ (Keep.refl _ _) ?_
                    clear hK K
                    (try simp only [Act.put, List.setIfInBounds_toArray, List.set_cons_zero, List.set_cons_succ])
                    (first | (refine wpCan_move rfl rfl (fun _ _ _ _ h => h) ?_; (simp only [Act.put, Act.eval, Array.getD_eq_getD_getElem?, List.getElem?_toArray, List.getElem?_cons_zero, List.getElem?_cons_succ, Option.getD_some, List.setIfInBounds_toArray, List.set_cons_zero, List.set_cons_succ])) | (refine wpCan_assign rfl rfl (fun _ _ _ _ h => h) ?_; (simp only [Act.put, Act.eval, Array.getD_eq_getD_getElem?, List.getElem?_toArray, List.getElem?_cons_zero, List.getElem?_cons_succ, Option.getD_some, List.setIfInBounds_toArray, List.set_cons_zero, List.set_cons_succ])) | (refine wpCan_nilCheck rfl rfl rfl (fun _ _ _ _ h => h) ?_; (simp only [Act.put, List.setIfInBounds_toArray, List.set_cons_zero, List.set_cons_succ])) | (refine wpCan_q rfl rfl (fun _ _ _ _ h => h) (by first | exact .bin rfl rfl rfl | exact .indexAddr rfl | exact .un rfl | exact .extract rfl | exact .index rfl | exact .field rfl | exact .slice rfl) (fun K hK => ?_); go_simp; (try (simp only [↓IntWalk.iteOmega]; go_simp)); (try go_bits); refine hK _ ?_; clear hK K))
                    rw [HV.out]
                    refine wpCan_e rfl (fun K hK => ?_)
                    go_simp
                    refine hK _ _ (Keep.alloc _ _ hB.size) ?_
                    clear hK K
                    (try simp only [Act.put, List.setIfInBounds_toArray, List.set_cons_zero, List.set_cons_succ])
                    refine wpCan_e rfl (fun K hK => ?_)
                    have hO := HO.out
                    have hsz := hB.size
                    have hSl := lt_of_block gS
                    have hal := (Below.refl wr.heap.size wr).alloc (Nat.le_refl _) (.cells #[bv z] 5)
                    refine oper_append_txt (v := u11) (A := some ⟨wr.heap.size, 0, none⟩) (n := 1) (c := 1) (m := [z]) (base := w.heap.size + 2) (l := ctrP k m F l (16 * j + p)) rfl BT rfl rfl (hO.alloc _).drew (txt_one wr 5 z).drew (by rw [ctrP_len]; omega) (by simp; omega) ?_
                    intro v1 w1 hown hg hat
                    have hB1 : Below w.heap.size w w1 := own_below (hB.alloc hB.size (.cells #[bv z] 5)).drew (hO.alloc _).drew hg (by omega) (by simp; omega)
                    refine hK _ _ (Keep.of_below (own_below (B := w.heap.size) (Below.refl _ _) (hO.alloc _).drew hg (by omega) (by simp; omega)) (Nat.le_refl _)) ?_
                    clear hK K
                    (try simp only [Act.put, List.setIfInBounds_toArray, List.set_cons_zero, List.set_cons_succ])
                    refine wpCan_nil ?_
                    go_wp2
                    go_roundg (gk - 1)
                    case measure => have := HP3.out; omega
                    case rel =>
                      have hP := HP3.out
                      have kb : ∀ b, b < wr.heap.size → (∀ k, u11.ownBlock = some k → k ≠ b) → w1.heap[b]? = wr.heap[b]? := fun b hb hne => by
                        rw [hg.block b (by simp; omega) (fun h => hne b h.symm rfl)]
                        exact Below.heap_alloc _ _ _ (by omega)
                      have hlo := hO.lt
                      refine ⟨p + 1, by omega, by go_num, by omega, (kb S hSl HSO.out).trans gS, (kb _ (by omega) (fun k hk => by have := (hlo k hk).1; omega)).trans g0, (kb _ (by omega) (fun k hk => by have := (hlo k hk).1; omega)).trans g1, ?_, (fun k hk => ?_), hB1⟩
                      · rw [show 16 * j + (p + 1) = 16 * j + p + 1 from by omega, ctrP_succ, ← HZ.out]
                        exact hown
                      · rcases hat with h | h
                        · exact HSO.out k (h ▸ hk)
                        · rw [h] at hk
                          injection hk with hk
                          simp at hk
                          omega
                  · go_wp2
                    go_roundg (go1 - 1)
                    case measure => have := HJ.out; omega
                    case rel =>
                      have hJ := HJ.out
                      exact ⟨j + 1, 16 * j + p, by omega, by go_num, by omega, by omega, by omega, g0, g1, HO.out, hB⟩
                · obtain rfl : p = 16 := by have := HP3.out; omega
                  go_wp2
                  go_roundg (go1 - 1)
                  case measure => have := HJ.out; omega
                  case rel =>
                    have hJ := HJ.out
                    exact ⟨j + 1, 16 * j + 16, by omega, by go_num, by omega, by omega, by omega, g0, g1, HO.out, hB⟩
    · obtain rfl : j = bl := by have := HJ.out; omega
      go_wp2
      go_ret2
      have hy : y = n := by have := HY.out; omega
      subst hy
      have hl := H0.out.len
      refine ⟨_, rfl, ?_, hB⟩
      rw [← ctrP_all, hl]
      exact HO.out.mono (by omega)
end Go.Proofs.YtlhhfngkfbbckaaDoor
namespace Go.Proofs.YtlhhfngkfbbckaaDoor
set_option linter.unusedSimpArgs false
set_option linter.unusedVariables false
open Go.ChangeShapes Go.WideShapes Go.ChangeAt Go.RowKit

section
variable {H : Type} {enc : TypeId × Value → H} {P : Program} {w : World} {base : Nat} {spare : Nat → Bool} {held : Bool} {t e : TypeId} {v : Value} {d : DataW H} {p : List MemPlace} {r : Reach}
theorem okWide_array {n : Nat} (ht : P.underlying t = some (.array n e)) (h : Value.okWide P w r base t v) : ∃ cs, v = .agg cs ∧ cs.size = P.cellsOf t := by
  simp only [Value.okWide, ht] at h
  obtain ⟨cs, h1, h2, _⟩ := h
  exact ⟨cs, h1, h2⟩
end
theorem wfb_u8 {n : Int} (h : (Lit.int .u8 n).wf = true) : 0 ≤ n ∧ n < 256 := by
  simp [Lit.wf, IntKind.min, IntKind.max, IntKind.signed, IntKind.bits] at h
  omega
theorem wfb_i64 {n : Int} (h : (Lit.int .i64 n).wf = true) : -9223372036854775808 ≤ n ∧ n < 9223372036854775808 := by
  simp [Lit.wf, IntKind.min, IntKind.max, IntKind.signed, IntKind.bits] at h
  omega
end Go.Proofs.YtlhhfngkfbbckaaDoor
namespace Go.Proofs.YtlhhfngkfbbckaaDoor
set_option linter.unusedSimpArgs false
set_option linter.unusedVariables false
open Go.ChangeShapes Go.WideShapes Go.ChangeAt Go.RowKit

section
variable {H : Type} {enc : TypeId × Value → H} {P : Program} {w : World} {base : Nat} {spare : Nat → Bool} {held : Bool} {t e : TypeId} {v : Value} {fuel : Nat} {x : DataW H × List MemPlace}
/-- A text that comes in. -/
theorem open_txt (hT : ByteT P t e) (hc : P.cellsOf e = 1) (h : DataW.trod enc P w base spare held fuel t [v] = some x) :
    ∃ (A : Option Addr) (n c : Nat) (m : List Nat), v = .slice A n c ∧ n ≤ 9223372036854775807 ∧ Txt w w.heap.size A n c m ∧ ∀ y ∈ m, y < 256 := by
  rcases Go.ChangeShapes.open_ints hT.sl hT.el hc h with ⟨h1, _⟩ | ⟨a, len, cap, zs, h1, hb, hl, hm, hz, _, hcell, hwf⟩
  · exact ⟨none, 0, 0, [], by simpa using h1, by omega, Txt.nil_, by simp⟩
  · have hle : len ≤ zs.length := by rw [hz]; split <;> omega
    have hw : ∀ n ∈ zs, 0 ≤ n ∧ n < 256 := fun n hn => wfb_u8 (hwf n hn)
    have hm' : cap ≤ 9223372036854775807 := hm
    refine ⟨some a, len, cap, (zs.take len).map Int.toNat, by simpa using h1, by omega, ⟨by simp; omega, (fun he => by cases he), fun hn => ?_⟩, ?_⟩
    · refine ⟨a, rfl, ?_, fun i y hy => ?_⟩
      · have h0 := World.block_lt_of_cell? _ _ (hcell 0 (by omega))
        rwa [add_block] at h0
      · rw [List.getElem?_map, Option.map_eq_some_iff] at hy
        obtain ⟨z, hz1, rfl⟩ := hy
        have hi : i < len := by
          have := (List.getElem?_eq_some_iff.1 hz1).1
          simp at this
          omega
        rw [List.getElem?_take_of_lt hi] at hz1
        have hz2 := hw z (List.mem_of_getElem? hz1)
        rw [hcell i (by omega), List.getD_eq_getElem?_getD, hz1]
        unfold bv
        rw [Int.toNat_of_nonneg hz2.1]
        rfl
    · intro y hy
      obtain ⟨z, hz1, rfl⟩ := List.mem_map.1 hy
      have := hw z (List.mem_of_mem_take hz1)
      omega
end
end Go.Proofs.YtlhhfngkfbbckaaDoor
namespace Go.Proofs.YtlhhfngkfbbckaaDoor
set_option linter.unusedSimpArgs false
set_option linter.unusedVariables false
open Go.ChangeShapes Go.WideShapes Go.ChangeAt Go.RowKit

/-- No part weighs more than memory holds. -/
def Light {H : Type} (P : Program) (t : TypeId) (d : DataW H) : Prop := ∀ n ∈ d.weights P t, n ≤ reachBytes
theorem light_of {H : Type} {P : Program} {ts : List TypeId} {ds : List (DataW H)} (hz : (DataW.weightsEach P ts ds).all (· ≤ reachBytes) = true) {j : Nat} {t : TypeId} {d : DataW H} (ht : ts[j]? = some t) (hd : ds[j]? = some d) : Light P t d := fun n hn => by
  have := List.all_eq_true.1 hz n (DataW.weights_mem_each ht hd n hn)
  simpa using this
/-- What a type's data come to. -/
def Opn (P : Program) (t : TypeId) (φ : List Value → World → Prop) : Prop :=
  ∀ (H : Type) (enc : TypeId × Value → H) (w : World) (base : Nat) (spare : Nat → Bool) (held : Bool) (fuel : Nat) (x : DataW H × List MemPlace) (cs : List Value), DataW.trod enc P w base spare held fuel t cs = some x → Light P t x.1 → φ cs w
theorem Opn.imp {P : Program} {t : TypeId} {φ ψ : List Value → World → Prop} (o : Opn P t φ) (h : ∀ cs w, φ cs w → ψ cs w) : Opn P t ψ := fun H enc w base spare held fuel x cs h1 h2 => h cs w (o H enc w base spare held fuel x cs h1 h2)
theorem weights_mem_all {H : Type} {P : Program} {e : TypeId} : ∀ {ds : List (DataW H)} {d : DataW H}, d ∈ ds → ∀ n ∈ d.weights P e, n ∈ DataW.weightsAll P e ds
  | d0 :: ds, d, hd, n, hn => by
    rw [DataW.weightsAll, List.mem_append]
    rcases List.mem_cons.1 hd with rfl | hd
    · exact .inl hn
    · exact .inr (weights_mem_all hd n hn)
theorem cell_keep {w w' : World} {p : Addr} {u : Value} (hk : ∀ k, k < w.heap.size → k ∉ ([] : List Nat) → w'.heap[k]? = w.heap[k]?) (h : w.cell? p = some u) : w'.cell? p = some u := by
  rw [← h]
  have := hk _ (World.block_lt_of_cell? _ _ h) (by simp)
  unfold World.cell?
  rw [this]
section
variable {P : Program} {t e : TypeId}
theorem opn_txt (hT : ByteT P t e) (hc : P.cellsOf e = 1) (hbt : P.bytesOf e = 1) : Opn P t fun cs w => ∃ A c l, cs = [.slice A l.length c] ∧ St (TxF A c l) w [] := fun H enc w base spare held fuel x cs h hl => by
  obtain ⟨v, rfl⟩ : ∃ v, cs = [v] := by
    rcases DataW.trod_slice hT.sl h with ⟨h1, _⟩ | ⟨a, len, cap, elems, rest, n, _, h1, _⟩
    · exact ⟨_, h1⟩
    · exact ⟨_, h1⟩
  obtain ⟨A, n, c, m, rfl, _, htx, hm⟩ := open_txt hT hc h
  have hn := htx.len
  subst hn
  refine ⟨A, c, m, rfl, txF_of htx ?_ ?_ hm⟩
  · rcases DataW.trod_slice hT.sl h with ⟨h1, _⟩ | ⟨a, len, cap, elems, rest, n, _, h1, _, _, h2, _⟩
    · injection h1 with h1
      injection h1 with _ h1 h3
      omega
    · injection h1 with h1
      injection h1 with _ h1 h3
      omega
  · rcases DataW.trod_slice hT.sl h with ⟨h1, _⟩ | ⟨a, len, cap, elems, rest, n, _, h1, hx, _, h2, _, hlen, _⟩
    · injection h1 with h1
      injection h1 with _ h1 h3
      omega
    · injection h1 with h1
      injection h1 with _ h1 h3
      have := hl ((elems.length + rest.length) * P.bytesOf e) (by rw [hx]; simp [DataW.weights, hT.sl])
      rw [hbt] at this
      have hr : reachBytes < 140737488355328 := by decide
      omega
/-- A key. -/
theorem opn_key (ht : P.underlying t = some (.array 32 e)) (he : P.underlying e = some (.int .u8)) (hce : P.cellsOf e = 1) (hct : P.cellsOf t = 32) : Opn P t fun cs w => ∃ l : List Nat, l.length = 32 ∧ (∀ x ∈ l, x < 256) ∧ cs = cl [.key l] := fun H enc w base spare held fuel x cs h hl => by
  obtain ⟨xs, m, _, _, hcl, hxl, hall⟩ := DataW.trod_array ht h
  have key : ∀ i : Fin 32, ∃ z : Nat, cs[i.1]? = some (bv z) ∧ z < 256 := fun i => by
    have h1 := hall i.1 i.2
    rw [hce, Nat.mul_one, List.getElem?_eq_getElem (by omega)] at h1
    obtain ⟨n, h2, _, hw⟩ := DataW.trod_int he h1
    have hb := wfb_u8 hw
    refine ⟨n.toNat, ?_, by omega⟩
    have : ((cs.drop i.1).take 1)[0]? = some (.int .u8 n) := by rw [h2]; rfl
    rw [List.getElem?_take_of_lt (by omega), List.getElem?_drop] at this
    rw [Nat.add_zero] at this
    rw [this]
    unfold bv
    rw [Int.toNat_of_nonneg hb.1]
  obtain ⟨f, hf⟩ := Classical.axiomOfChoice key
  refine ⟨List.ofFn f, by simp, fun y hy => ?_, ?_⟩
  · obtain ⟨i, rfl⟩ := List.mem_ofFn.1 hy
    exact (hf i).2
  · show cs = keyC (List.ofFn f) ++ []
    rw [List.append_nil]
    unfold keyC
    apply List.ext_getElem?
    intro i
    by_cases hi : i < 32
    · rw [(hf ⟨i, hi⟩).1, List.getElem?_map, List.getElem?_range hi]
      show _ = some (bv ((List.ofFn f).getD i 0))
      rw [List.getD_eq_getElem?_getD, List.getElem?_ofFn, dif_pos hi]
      rfl
    · rw [List.getElem?_eq_none (by omega), List.getElem?_eq_none (by simp; omega)]
/-- A slice. -/
theorem opn_slice {α : Type} (T : Ty α) (good : α → Prop) (ht : P.underlying t = some (.slice e)) (hc : P.cellsOf e = T.sz) (o : Opn P e fun cs w => cs.length = T.sz → ∃ v m, cs = cl (T.ch v m) ∧ St (T.nest v m) w [] ∧ good v) :
    Opn P t fun cs w => ∃ A c xs m, cs = [.slice A xs.length c] ∧ St (LiF T A c xs m) w [] ∧ ∀ x ∈ xs, good x := fun H enc w base spare held fuel x cs h hl => by
  rcases DataW.trod_slice ht h with ⟨h1, _⟩ | ⟨a, len, cap, elems, rest, n, _, h1, hx, hb, h2, hm, hlen, hel, _⟩
  · exact ⟨none, 0, [], fun _ => T.dft, h1, liF_nil, fun x hx => by cases hx⟩
  · have key : ∀ i : Fin len, ∃ vm : α × T.μ, (∀ j u, (cl (T.ch vm.1 vm.2))[j]? = some u → w.cell? ((a.add (i.1 * T.sz)).add j) = some u) ∧ St (T.nest vm.1 vm.2) w [] ∧ good vm.1 := fun i => by
      have h3 := hel i.1 i.2
      rw [hc, List.getElem?_eq_getElem (by omega)] at h3
      obtain ⟨c, hcs, htr⟩ := Option.bind_eq_some_iff.1 h3
      obtain ⟨_, hcl, hcell⟩ := World.cells?_some hcs
      obtain ⟨v, m, e1, e2, e3⟩ := o H enc w base spare held n _ _ htr (fun k hk => hl k (by
        rw [hx]
        simp only [DataW.weights, ht, List.mem_cons, List.mem_append]
        exact .inr (.inl (weights_mem_all (List.mem_map.2 ⟨_, List.getElem_mem _, rfl⟩) k hk)))) hcl
      refine ⟨(v, m), fun j u hu => ?_, e2, e3⟩
      have hu' : c[j]? = some u := by rw [e1]; exact hu
      have hj : j < T.sz := by rw [← hcl]; exact (List.getElem?_eq_some_iff.1 hu').1
      rw [← hu']
      exact hcell j hj
    obtain ⟨f, hf⟩ := Classical.axiomOfChoice key
    have hm' : cap ≤ 9223372036854775807 := hm
    refine ⟨some a, cap, List.ofFn fun i => (f i).1, fun i => if h : i < len then (f ⟨i, h⟩).2 else T.dft, by rw [List.length_ofFn]; exact h1, fun w' hk => ?_, fun y hy => ?_⟩
    · refine ⟨by rw [List.length_ofFn]; exact h2, by rw [List.length_ofFn]; omega, fun h => (by cases h), fun ad hA i y hy => ?_⟩
      obtain rfl := Option.some.inj hA
      have hi : i < len := by
        have := (List.getElem?_eq_some_iff.1 hy).1
        rwa [List.length_ofFn] at this
      rw [List.getElem?_ofFn, dif_pos hi] at hy
      obtain rfl := Option.some.inj hy
      rw [dif_pos hi]
      obtain ⟨g1, g2, _⟩ := hf ⟨i, hi⟩
      exact ⟨fun j u hu => cell_keep hk (g1 j u hu), g2 w' hk⟩
    · obtain ⟨i, rfl⟩ := List.mem_ofFn.1 hy
      exact (hf i).2.2
/-- An argument. -/
theorem opn_arg {φ : List Value → World → Prop} (o : Opn P t φ) {H : Type} {enc : TypeId × Value → H} {w : World} {base : Nat} {spare : Nat → Bool} {held : Bool} {v : Value} {d : DataW H} {p : List MemPlace} (h : DataW.Trod enc P w base spare held t v d p) (hl : Light P t d) : φ v.cells.toList w := by
  obtain ⟨fuel, hf⟩ := h
  exact o H enc w base spare held fuel _ _ hf hl
theorem agg_of {cs : Array Value} {X : List Chunk} (e : (Value.agg cs).cells.toList = cl X) : cs = ca X := by
  have e' : cs.toList = cl X := e
  exact Array.ext' (by rw [e']; rfl)
theorem slice_of {A A' : Option Addr} {n n' c c' : Nat} (e : (Value.slice A n c).cells.toList = [.slice A' n' c']) : A = A' ∧ n = n' ∧ c = c' := by
  have e' : [Value.slice A n c] = [.slice A' n' c'] := e
  injection e' with e'
  injection e' with h1 h2 h3
  exact ⟨h1, h2, h3⟩
end
end Go.Proofs.YtlhhfngkfbbckaaDoor
namespace Go.Proofs.YtlhhfngkfbbckaaDoor
set_option linter.unusedSimpArgs false
set_option linter.unusedVariables false
open Go.ChangeShapes Go.WideShapes Go.ChangeAt Go.RowKit

theorem opn_bytes : Opn Tryd.prog 24 fun cs w => ∃ A c l, cs = [.slice A l.length c] ∧ St (TxF A c l) w [] := opn_txt ⟨Tryd.underlying24, Tryd.underlying5, by kernel_rfl⟩ (by kernel_rfl) (by kernel_rfl)
theorem opn_k : Opn Tryd.prog 23 fun cs w => ∃ l : List Nat, l.length = 32 ∧ (∀ x ∈ l, x < 256) ∧ cs = cl [.key l] := opn_key Tryd.underlying23 Tryd.underlying5 (by kernel_rfl) (by kernel_rfl)
theorem opn_texts : Opn Tryd.prog 30 fun cs w => ∃ A c xs m, cs = [.slice A xs.length c] ∧ St (LiF TextT A c xs m) w [] ∧ ∀ x ∈ xs, True :=
  opn_slice TextT (fun _ => True) Tryd.underlying30 (by kernel_rfl) (opn_bytes.imp fun cs w ⟨A, c, l, e, s⟩ _ => ⟨l, (A, c), e, s, trivial⟩)
/-- The words that are added. -/
def addsL : List Int := [1116352408, 1899447441, 3049323471, 3921009573, 961987163, 1508970993, 2453635748, 2870763221, 3624381080, 310598401, 607225278, 1426881987, 1925078388, 2162078206, 2614888103, 3248222580, 3835390401, 4022224774, 264347078, 604807628, 770255983, 1249150122, 1555081692, 1996064986, 2554220882, 2821834349, 2952996808, 3210313671, 3336571891, 3584528711, 113926993, 338241895, 666307205, 773529912, 1294757372, 1396182291, 1695183700, 1986661051, 2177026350, 2456956037, 2730485921, 2820302411, 3259730800, 3345764771, 3516065817, 3600352804, 4094571909, 275423344, 430227734, 506948616, 659060556, 883997877, 958139571, 1322822218, 1537002063, 1747873779, 1955562222, 2024104815, 2227730452, 2361852424, 2428436474, 2756734187, 3204031479, 3329325298]
def gtab (i : Nat) : Nat := (addsL.getD i 0).toNat
theorem gtab_cells : cl [.row 64 fun i => u32 (gtab i)] = addsL.map fun z => Value.int .u32 z := by kernel_rfl
theorem adds_of {LL : List (String × DataW Unit)} (hm : ("coterie/sha.adds", Rows.laid_coterie_sha_adds) ∈ LL) {W : World} (h : laidMet Tryd.prog LL W) : St (AtC ⟨2, 0, none⟩ [.row 64 fun i => u32 (gtab i)]) W [] := by
  obtain ⟨g, t, cs, fuel, p, hg, hty, hvar, hd⟩ := Lib.laidMet.reads h (n := "coterie/sha.adds") (d := Rows.laid_coterie_sha_adds) hm
  obtain rfl := Option.some.inj ((show Tryd.prog.globalNamed "coterie/sha.adds" = some 2 by kernel_rfl).symm.trans hg)
  obtain rfl := Option.some.inj ((show (Tryd.prog.globals[2 ]?).map (·.type) = some 119 by kernel_rfl).symm.trans hty)
  have hcs := Lib.cells_of_tab (zs := addsL) (k := .u32) Tryd.underlying119 Tryd.underlying49 (by kernel_rfl) (by kernel_rfl) hd
  rw [← gtab_cells] at hcs
  intro w' hk j u hu
  rw [← hcs] at hu
  have h1 := World.var?_cell hg hvar j
  have h2 : cs[j]? = some u := by rw [← Array.getElem?_toList]; exact hu
  rw [h2] at h1
  rw [addr_add, Nat.zero_add, ← h1]
  exact World.cell?_of_block (hk _ (World.block_lt_of_cell? _ _ h1) (by simp))
theorem refk_of {LL : List (String × DataW Unit)} (hm : ("coterie/coterieref02.k", Rows.laid_coterie_coterieref02_k) ∈ LL) {W : World} (h : laidMet Tryd.prog LL W) : St (AtC ⟨1, 0, none⟩ [.row 64 fun i => u32 (gtab i)]) W [] := by
  obtain ⟨g, t, cs, fuel, p, hg, hty, hvar, hd⟩ := Lib.laidMet.reads h (n := "coterie/coterieref02.k") (d := Rows.laid_coterie_coterieref02_k) hm
  obtain rfl := Option.some.inj ((show Tryd.prog.globalNamed "coterie/coterieref02.k" = some 1 by kernel_rfl).symm.trans hg)
  obtain rfl := Option.some.inj ((show (Tryd.prog.globals[1 ]?).map (·.type) = some 119 by kernel_rfl).symm.trans hty)
  have hcs := Lib.cells_of_tab (zs := addsL) (k := .u32) Tryd.underlying119 Tryd.underlying49 (by kernel_rfl) (by kernel_rfl) hd
  rw [← gtab_cells] at hcs
  intro w' hk j u hu
  rw [← hcs] at hu
  have h1 := World.var?_cell hg hvar j
  have h2 : cs[j]? = some u := by rw [← Array.getElem?_toList]; exact hu
  rw [h2] at h1
  rw [addr_add, Nat.zero_add, ← h1]
  exact World.cell?_of_block (hk _ (World.block_lt_of_cell? _ _ h1) (by simp))
/-- A world that meets what is laid. -/
def errS : ByteArray := { data := #[98, 121, 116, 101, 115, 46, 66, 117, 102, 102, 101, 114, 58, 32, 116, 111, 111, 32, 108, 97, 114, 103, 101] }
noncomputable def lowB : Nat := (World.holding Tryd.prog default ⟨#[], #[], []⟩).heap.size
noncomputable def laidW (os : Os) : World :=
  let w0 := World.holding Tryd.prog os ⟨#[.cells #[.string errS] 141 ], #[], []⟩
  { w0 with heap := ((w0.heap.modify 0 fun
      | .cells _ t frozen => .cells #[.iface 125 (.pointer (some ⟨lowB, 0, none⟩))] t frozen
      | o => o).modify 2 fun
      | .cells _ t frozen => .cells (addsL.map fun z => Value.int .u32 z).toArray t frozen
      | o => o).modify 1 fun
      | .cells _ t frozen => .cells (addsL.map fun z => Value.int .u32 z).toArray t frozen
      | o => o }
end Go.Proofs.YtlhhfngkfbbckaaDoor
