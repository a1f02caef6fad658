/- The law CurveBase: whatever the number, it answers true. -/
import Derived.Test.YthgjhipfgdlbnaaCurB
namespace Go.Proofs.Ythgjhipfgdlbnaa
set_option linter.unusedSimpArgs false
set_option linter.unusedVariables false
open Go.RowKit
attribute [local irreducible] pN valN byteN bytesN invN ofN powN kvN clampN multV keyU topN
set_option maxRecDepth 100000 in
set_option maxHeartbeats 1000000 in
theorem CurveBase_nat (k : Nat → Nat) (hk : ∀ i, i < 32 → k i < 256) (w : World) :
    Calls Try.prog 6 #[.agg (arr .u8 32 fun i => ((k i : Nat) : Int))] w fun e w' => e = .returned (.bool true) ∧ Below w.heap.size w w' := by
  have Hk := Lib.hid hk
  clear hk
  go_enter Try.func6, Try.ntmps6
  obtain ⟨h0, hsz, hb⟩ := alloc1 w (.cells (arr .u8 32 fun i => ((k i : Nat) : Int)) 23)
  go_wp2_with (go_at_call 8; fail)
  refine (live06_any _).mono ?_
  rintro e w4 ⟨rfl, b4⟩
  replace h0 := keep_below b4 (by omega) h0
  replace hb := hb.trans (b4.mono (by omega))
  clear b4 hsz
  go_upto_region 4 with (fail)
  (try simp only [Act.put, List.setIfInBounds_toArray, List.set_cons_zero, List.set_cons_succ])
  obtain ⟨wr, rfl⟩ : ∃ x, x = w4 := ⟨_, rfl⟩
  refine wp_region_can wr.heap.size 16 [(0, false), (1, false), (2, false), (4, false), (3, true), (5, true), (6, false), (7, false), (8, false), (9, false), (11, false), (12, false), (10, true), (13, true), (14, false), (15, false)] (by kernel_rfl) (by kernel_rfl) ?_
  (simp only [canOps, List.getElem?_cons_zero, List.getElem?_cons_succ, List.drop_succ_cons, List.drop_zero])
  iterate 2 (first | (refine wpCan_move rfl rfl (fun _ _ _ _ h => h) ?_; (simp only [Act.put, Act.eval, Array.getD_eq_getD_getElem?, List.getElem?_toArray, List.getElem?_cons_zero, List.getElem?_cons_succ, Option.getD_some, List.setIfInBounds_toArray, List.set_cons_zero, List.set_cons_succ])) | (refine wpCan_assign rfl rfl (fun _ _ _ _ h => h) ?_; (simp only [Act.put, Act.eval, Array.getD_eq_getD_getElem?, List.getElem?_toArray, List.getElem?_cons_zero, List.getElem?_cons_succ, Option.getD_some, List.setIfInBounds_toArray, List.set_cons_zero, List.set_cons_succ])) | (refine wpCan_nilCheck rfl rfl rfl (fun _ _ _ _ h => h) ?_; (simp only [Act.put, List.setIfInBounds_toArray, List.set_cons_zero, List.set_cons_succ])) | (refine wpCan_q rfl rfl (fun _ _ _ _ h => h) (by first | exact .bin rfl rfl rfl | exact .indexAddr rfl | exact .un rfl | exact .extract rfl | exact .index rfl | exact .field rfl | exact .slice rfl) (fun K hK => ?_); go_simp; (try (simp only [↓IntWalk.iteOmega]; go_simp)); (try go_bits); refine hK _ ?_; clear hK K))
  refine wpCan_load_arr rfl rfl rfl (fun _ _ _ _ h => h) RTKey (lt_of_block (w := wr) h0) h0 ?_
  (try simp only [Act.put, List.setIfInBounds_toArray, List.set_cons_zero, List.set_cons_succ])
  refine wpCan_load_arr rfl rfl rfl (fun _ _ _ _ h => h) RTKey (lt_of_block (w := wr) h0) h0 ?_
  (try simp only [Act.put, List.setIfInBounds_toArray, List.set_cons_zero, List.set_cons_succ])
  refine wpCan_e rfl (fun K hK => ?_)
  go_simp
  refine (Base_any k Hk.out _).mono ?_
  rintro e v1 ⟨rfl, b1⟩
  refine hK _ _ (Keep.of_below b1 (Nat.le_refl _)) ?_
  clear hK K
  (try simp only [Act.put, List.setIfInBounds_toArray, List.set_cons_zero, List.set_cons_succ])
  have cb := b1
  clear b1
  refine wpCan_e rfl (fun K hK => ?_)
  go_simp
  refine (RBase_any k Hk.out _).mono ?_
  rintro e v2 ⟨rfl, b2⟩
  refine hK _ _ (Keep.of_below b2 cb.size) ?_
  clear hK K
  (try simp only [Act.put, List.setIfInBounds_toArray, List.set_cons_zero, List.set_cons_succ])
  replace cb := cb.trans (b2.mono cb.size)
  clear b2
  refine wpCan_all rfl (fun _ _ _ _ h => h) (fun w' => run_op_eqArr (op := .eql) rfl ITKey rfl rfl) ?_
  rw [sameTo_true (fun _ _ => rfl)]
  (try simp only [Act.put, List.setIfInBounds_toArray, List.set_cons_zero, List.set_cons_succ])
  refine wpCan_pick rfl rfl rfl (fun _ _ _ _ h => h) ?_
  simp only [if_true]
  (try simp only [Act.put, List.setIfInBounds_toArray, List.set_cons_zero, List.set_cons_succ])
  iterate 1 (first | (refine wpCan_move rfl rfl (fun _ _ _ _ h => h) ?_; (simp only [Act.put, Act.eval, Array.getD_eq_getD_getElem?, List.getElem?_toArray, List.getElem?_cons_zero, List.getElem?_cons_succ, Option.getD_some, List.setIfInBounds_toArray, List.set_cons_zero, List.set_cons_succ])) | (refine wpCan_assign rfl rfl (fun _ _ _ _ h => h) ?_; (simp only [Act.put, Act.eval, Array.getD_eq_getD_getElem?, List.getElem?_toArray, List.getElem?_cons_zero, List.getElem?_cons_succ, Option.getD_some, List.setIfInBounds_toArray, List.set_cons_zero, List.set_cons_succ])) | (refine wpCan_nilCheck rfl rfl rfl (fun _ _ _ _ h => h) ?_; (simp only [Act.put, List.setIfInBounds_toArray, List.set_cons_zero, List.set_cons_succ])) | (refine wpCan_q rfl rfl (fun _ _ _ _ h => h) (by first | exact .bin rfl rfl rfl | exact .indexAddr rfl | exact .un rfl | exact .extract rfl | exact .index rfl | exact .field rfl | exact .slice rfl) (fun K hK => ?_); go_simp; (try (simp only [↓IntWalk.iteOmega]; go_simp)); (try go_bits); refine hK _ ?_; clear hK K))
  refine wpCan_load_arr rfl rfl rfl (fun _ _ _ _ h => h) RTKey (lt_of_block (w := wr) h0) (keep_below (w := wr.drew) cb (lt_of_block (w := wr) h0) h0) ?_
  (try simp only [Act.put, List.setIfInBounds_toArray, List.set_cons_zero, List.set_cons_succ])
  refine wpCan_load_arr rfl rfl rfl (fun _ _ _ _ h => h) RTKey (lt_of_block (w := wr) h0) (keep_below (w := wr.drew) cb (lt_of_block (w := wr) h0) h0) ?_
  (try simp only [Act.put, List.setIfInBounds_toArray, List.set_cons_zero, List.set_cons_succ])
  refine wpCan_all rfl (fun _ _ _ _ h => h) (fun w' => run_op_build rfl (by simp [Act.eval, Act.put]) built_nine) ?_
  (try simp only [Act.put, List.setIfInBounds_toArray, List.set_cons_zero, List.set_cons_succ])
  refine wpCan_e rfl (fun K hK => ?_)
  go_simp
  refine (Base_any k Hk.out _).mono ?_
  rintro e v3 ⟨rfl, b3⟩
  refine hK _ _ (Keep.of_below b3 cb.size) ?_
  clear hK K
  (try simp only [Act.put, List.setIfInBounds_toArray, List.set_cons_zero, List.set_cons_succ])
  replace cb := cb.trans (b3.mono cb.size)
  clear b3
  refine wpCan_e rfl (fun K hK => ?_)
  go_simp
  refine (Mult_any k nineN Hk.out nine_lt _).mono ?_
  rintro e v4 ⟨rfl, b4⟩
  refine hK _ _ (Keep.of_below b4 cb.size) ?_
  clear hK K
  (try simp only [Act.put, List.setIfInBounds_toArray, List.set_cons_zero, List.set_cons_succ])
  replace cb := cb.trans (b4.mono cb.size)
  clear b4
  refine wpCan_all rfl (fun _ _ _ _ h => h) (fun w' => run_op_eqArr (op := .eql) rfl ITKey rfl rfl) ?_
  rw [sameTo_true (fun _ _ => rfl)]
  (try simp only [Act.put, List.setIfInBounds_toArray, List.set_cons_zero, List.set_cons_succ])
  refine wpCan_pick rfl rfl rfl (fun _ _ _ _ h => h) ?_
  simp only [if_true]
  (try simp only [Act.put, List.setIfInBounds_toArray, List.set_cons_zero, List.set_cons_succ])
  refine wpCan_nil ?_
  go_wp2
  go_ret
  exact ⟨rfl, hb.drew.trans (cb.mono hb.size)⟩
theorem CurveBase_any (k : Nat → Int) (hk : ∀ i, i < 32 → 0 ≤ k i ∧ k i < 256) (w : World) :
    Calls Try.prog 6 #[.agg (arr .u8 32 k)] w fun e w' => e = .returned (.bool true) ∧ Below w.heap.size w w' := by
  rw [show arr .u8 32 k = arr .u8 32 fun i => (((fun i => (k i).toNat) i : Nat) : Int) from arr_ext fun i hi => by have := hk i hi; dsimp only; omega]
  exact CurveBase_nat (fun i => (k i).toNat) (fun i hi => by have := hk i hi; show (k i).toNat < 256; omega) w
end Go.Proofs.Ythgjhipfgdlbnaa
