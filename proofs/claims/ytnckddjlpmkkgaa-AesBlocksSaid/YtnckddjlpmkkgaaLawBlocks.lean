/- The law AesBlocks: whatever the key, the block and the byte, it answers true. -/
import Derived.Test.YtnckddjlpmkkgaaRefE
import Derived.Test.YtnckddjlpmkkgaaEqR
namespace Go.Proofs.Ytnckddjlpmkkgaa
open Go.RowKit
attribute [local irreducible] sboxI mulN

theorem RTKeysRows : RowsT Try.prog 25 .u8 11 16 := ⟨_, Try.underlying25, ITBlock, RTBlock, by kernel_rfl⟩

set_option maxRecDepth 100000 in
set_option maxHeartbeats 2000000 in
theorem AesBlocks_any (k : Nat → Int) (hk : ∀ i, i < 16 → 0 ≤ k i ∧ k i < 256) (s : Nat → Int) (hs : ∀ i, i < 16 → 0 ≤ s i ∧ s i < 256) (x : Int) (hx : 0 ≤ x ∧ x < 256) (w : World) :
    Calls Try.prog 5 #[.agg (arr .u8 16 k), .agg (arr .u8 16 s), .int .u8 x] w fun e w' => e = .returned (.bool true) ∧ Below w.heap.size w w' := by
  go_enter Try.func5, Try.ntmps5
  obtain ⟨g0, g1, hz, hb0⟩ := alloc2 w (.cells (arr .u8 16 k) 23) (.cells (arr .u8 16 s) 23)
  go_wp2_with fail
  refine (live_any _).mono ?_
  rintro e w1 ⟨rfl, hb1⟩
  have h0 := keep_below hb1 (by omega) g0
  have h1 := keep_below hb1 (by omega) g1
  have hB := hb0.trans (hb1.mono (by omega))
  have hl0 := lt_of_block h0
  have hl1 := lt_of_block h1
  clear g0 g1 hz hb0 hb1
  go_upto_region 4 with (fail)
  (try simp only [Act.put, List.setIfInBounds_toArray, List.set_cons_zero, List.set_cons_succ])
  refine wp_region_can w1.heap.size 24 [(0, false), (1, false), (2, false), (4, false), (3, true), (5, true), (6, false), (7, false), (8, false), (9, false), (11, false), (10, true), (12, true), (13, false), (14, false), (15, false), (16, false), (17, false), (19, false), (20, false), (18, true), (21, true), (22, false), (23, false)] (by kernel_rfl) (by kernel_rfl) ?_
  (simp only [canOps, List.getElem?_cons_zero, List.getElem?_cons_succ, List.drop_succ_cons, List.drop_zero])
  iterate 4 (first | (refine wpCan_move rfl rfl (fun _ _ _ _ h => h) ?_; (simp only [Act.put, Act.eval, Array.getD_eq_getD_getElem?, List.getElem?_toArray, List.getElem?_cons_zero, List.getElem?_cons_succ, Option.getD_some, List.setIfInBounds_toArray, List.set_cons_zero, List.set_cons_succ])) | (refine wpCan_assign rfl rfl (fun _ _ _ _ h => h) ?_; (simp only [Act.put, Act.eval, Array.getD_eq_getD_getElem?, List.getElem?_toArray, List.getElem?_cons_zero, List.getElem?_cons_succ, Option.getD_some, List.setIfInBounds_toArray, List.set_cons_zero, List.set_cons_succ])) | (refine wpCan_nilCheck rfl rfl rfl (fun _ _ _ _ h => h) ?_; (simp only [Act.put, List.setIfInBounds_toArray, List.set_cons_zero, List.set_cons_succ])) | (refine wpCan_q rfl rfl (fun _ _ _ _ h => h) (by first | exact .bin rfl rfl rfl | exact .indexAddr rfl | exact .un rfl | exact .extract rfl | exact .index rfl | exact .field rfl | exact .slice rfl) (fun K hK => ?_); go_simp; (try (simp only [↓IntWalk.iteOmega]; go_simp)); (try go_bits); refine hK _ ?_; clear hK K))
  refine wpCan_e rfl (fun K hK => ?_)
  go_simp
  refine (Box_any _ hx.1 hx.2 _).mono ?_
  rintro e w3 ⟨rfl, b3⟩
  refine hK _ _ (Keep.of_below b3 (Nat.le_refl _)) ?_
  clear hK K
  (try simp only [Act.put, List.setIfInBounds_toArray, List.set_cons_zero, List.set_cons_succ])
  refine wpCan_e rfl (fun K hK => ?_)
  go_simp
  refine (refBox_any _ hx.1 hx.2 _).mono ?_
  rintro e w4 ⟨rfl, b4⟩
  refine hK _ _ (Keep.of_below b4 b3.size) ?_
  clear hK K
  (try simp only [Act.put, List.setIfInBounds_toArray, List.set_cons_zero, List.set_cons_succ])
  have b34 := b3.trans (b4.mono b3.size)
  have f0 := keep_below (w := w1.drew) b34 hl0 h0
  have f1 := keep_below (w := w1.drew) b34 hl1 h1
  (first | (refine wpCan_move rfl rfl (fun _ _ _ _ h => h) ?_; (simp only [Act.put, Act.eval, Array.getD_eq_getD_getElem?, List.getElem?_toArray, List.getElem?_cons_zero, List.getElem?_cons_succ, Option.getD_some, List.setIfInBounds_toArray, List.set_cons_zero, List.set_cons_succ])) | (refine wpCan_assign rfl rfl (fun _ _ _ _ h => h) ?_; (simp only [Act.put, Act.eval, Array.getD_eq_getD_getElem?, List.getElem?_toArray, List.getElem?_cons_zero, List.getElem?_cons_succ, Option.getD_some, List.setIfInBounds_toArray, List.set_cons_zero, List.set_cons_succ])) | (refine wpCan_nilCheck rfl rfl rfl (fun _ _ _ _ h => h) ?_; (simp only [Act.put, List.setIfInBounds_toArray, List.set_cons_zero, List.set_cons_succ])) | (refine wpCan_q rfl rfl (fun _ _ _ _ h => h) (by first | exact .bin rfl rfl rfl | exact .indexAddr rfl | exact .un rfl | exact .extract rfl | exact .index rfl | exact .field rfl | exact .slice rfl) (fun K hK => ?_); go_simp; (try (simp only [↓IntWalk.iteOmega]; go_simp)); (try go_bits); refine hK _ ?_; clear hK K))
  try rw [beq_self_eq_true]
  refine wpCan_pick rfl rfl rfl (fun _ _ _ _ h => h) ?_
  simp only [if_true]
  (try simp only [Act.put, List.setIfInBounds_toArray, List.set_cons_zero, List.set_cons_succ])
  (first | (refine wpCan_move rfl rfl (fun _ _ _ _ h => h) ?_; (simp only [Act.put, Act.eval, Array.getD_eq_getD_getElem?, List.getElem?_toArray, List.getElem?_cons_zero, List.getElem?_cons_succ, Option.getD_some, List.setIfInBounds_toArray, List.set_cons_zero, List.set_cons_succ])) | (refine wpCan_assign rfl rfl (fun _ _ _ _ h => h) ?_; (simp only [Act.put, Act.eval, Array.getD_eq_getD_getElem?, List.getElem?_toArray, List.getElem?_cons_zero, List.getElem?_cons_succ, Option.getD_some, List.setIfInBounds_toArray, List.set_cons_zero, List.set_cons_succ])) | (refine wpCan_nilCheck rfl rfl rfl (fun _ _ _ _ h => h) ?_; (simp only [Act.put, List.setIfInBounds_toArray, List.set_cons_zero, List.set_cons_succ])) | (refine wpCan_q rfl rfl (fun _ _ _ _ h => h) (by first | exact .bin rfl rfl rfl | exact .indexAddr rfl | exact .un rfl | exact .extract rfl | exact .index rfl | exact .field rfl | exact .slice rfl) (fun K hK => ?_); go_simp; (try (simp only [↓IntWalk.iteOmega]; go_simp)); (try go_bits); refine hK _ ?_; clear hK K))
  refine wpCan_load_arr rfl rfl rfl (fun _ _ _ _ h => h) RTBlock hl0 f0 ?_
  (try simp only [Act.put, List.setIfInBounds_toArray, List.set_cons_zero, List.set_cons_succ])
  refine wpCan_load_arr rfl rfl rfl (fun _ _ _ _ h => h) RTBlock hl0 f0 ?_
  (try simp only [Act.put, List.setIfInBounds_toArray, List.set_cons_zero, List.set_cons_succ])
  refine wpCan_e rfl (fun K hK => ?_)
  go_simp
  refine (Keys_any k hk _).mono ?_
  rintro e w5 ⟨rfl, b5⟩
  refine hK _ _ (Keep.of_below b5 b34.size) ?_
  clear hK K
  (try simp only [Act.put, List.setIfInBounds_toArray, List.set_cons_zero, List.set_cons_succ])
  have b35 := b34.trans (b5.mono b34.size)
  refine wpCan_e rfl (fun K hK => ?_)
  go_simp
  refine (refKeys_any k hk _).mono ?_
  rintro e w6 ⟨rfl, b6⟩
  refine hK _ _ (Keep.of_below b6 b35.size) ?_
  clear hK K
  (try simp only [Act.put, List.setIfInBounds_toArray, List.set_cons_zero, List.set_cons_succ])
  have b36 := b35.trans (b6.mono b35.size)
  have e0 := keep_below (w := w1.drew) b36 hl0 h0
  have e1 := keep_below (w := w1.drew) b36 hl1 h1
  refine wpCan_all rfl (fun _ _ _ _ h => h) (fun w' => run_op_eqRows (N := 11) (n := 16) rfl RTKeysRows rfl rfl) ?_
  (try simp only [Act.put, List.setIfInBounds_toArray, List.set_cons_zero, List.set_cons_succ])
  refine wpCan_pick rfl rfl rfl (fun _ _ _ _ h => h) ?_
  simp only [if_true]
  (try simp only [Act.put, List.setIfInBounds_toArray, List.set_cons_zero, List.set_cons_succ])
  (first | (refine wpCan_move rfl rfl (fun _ _ _ _ h => h) ?_; (simp only [Act.put, Act.eval, Array.getD_eq_getD_getElem?, List.getElem?_toArray, List.getElem?_cons_zero, List.getElem?_cons_succ, Option.getD_some, List.setIfInBounds_toArray, List.set_cons_zero, List.set_cons_succ])) | (refine wpCan_assign rfl rfl (fun _ _ _ _ h => h) ?_; (simp only [Act.put, Act.eval, Array.getD_eq_getD_getElem?, List.getElem?_toArray, List.getElem?_cons_zero, List.getElem?_cons_succ, Option.getD_some, List.setIfInBounds_toArray, List.set_cons_zero, List.set_cons_succ])) | (refine wpCan_nilCheck rfl rfl rfl (fun _ _ _ _ h => h) ?_; (simp only [Act.put, List.setIfInBounds_toArray, List.set_cons_zero, List.set_cons_succ])) | (refine wpCan_q rfl rfl (fun _ _ _ _ h => h) (by first | exact .bin rfl rfl rfl | exact .indexAddr rfl | exact .un rfl | exact .extract rfl | exact .index rfl | exact .field rfl | exact .slice rfl) (fun K hK => ?_); go_simp; (try (simp only [↓IntWalk.iteOmega]; go_simp)); (try go_bits); refine hK _ ?_; clear hK K))
  refine wpCan_load_arr rfl rfl rfl (fun _ _ _ _ h => h) RTBlock hl0 e0 ?_
  (try simp only [Act.put, List.setIfInBounds_toArray, List.set_cons_zero, List.set_cons_succ])
  refine wpCan_load_arr rfl rfl rfl (fun _ _ _ _ h => h) RTBlock hl1 e1 ?_
  (try simp only [Act.put, List.setIfInBounds_toArray, List.set_cons_zero, List.set_cons_succ])
  refine wpCan_load_arr rfl rfl rfl (fun _ _ _ _ h => h) RTBlock hl0 e0 ?_
  (try simp only [Act.put, List.setIfInBounds_toArray, List.set_cons_zero, List.set_cons_succ])
  refine wpCan_load_arr rfl rfl rfl (fun _ _ _ _ h => h) RTBlock hl1 e1 ?_
  (try simp only [Act.put, List.setIfInBounds_toArray, List.set_cons_zero, List.set_cons_succ])
  refine wpCan_e rfl (fun K hK => ?_)
  go_simp
  refine (Encrypt_any _ _ hk hs _).mono ?_
  rintro e w7 ⟨rfl, b7⟩
  refine hK _ _ (Keep.of_below b7 b36.size) ?_
  clear hK K
  (try simp only [Act.put, List.setIfInBounds_toArray, List.set_cons_zero, List.set_cons_succ])
  have b37 := b36.trans (b7.mono b36.size)
  refine wpCan_e rfl (fun K hK => ?_)
  go_simp
  refine (refEncrypt_any _ _ hk hs _).mono ?_
  rintro e w8 ⟨rfl, b8w⟩
  refine hK _ _ (Keep.of_below b8w b37.size) ?_
  clear hK K
  (try simp only [Act.put, List.setIfInBounds_toArray, List.set_cons_zero, List.set_cons_succ])
  have b38 := b37.trans (b8w.mono b37.size)
  refine wpCan_all rfl (fun _ _ _ _ h => h) (fun w' => run_op_eqArr (op := .eql) rfl ITBlock rfl rfl) ?_
  rw [sameTo_true (fun _ _ => rfl)]
  (try simp only [Act.put, List.setIfInBounds_toArray, List.set_cons_zero, List.set_cons_succ])
  refine wpCan_pick rfl rfl rfl (fun _ _ _ _ h => h) ?_
  simp only [if_true]
  (try simp only [Act.put, List.setIfInBounds_toArray, List.set_cons_zero, List.set_cons_succ])
  refine wpCan_nil ?_
  go_wp2
  go_ret
  exact ⟨rfl, hB.drew.trans (b38.mono hB.size)⟩
end Go.Proofs.Ytnckddjlpmkkgaa
