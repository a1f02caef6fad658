/- The law CurveMeets: whatever the numbers, it answers true. -/
import Derived.Test.YthgjhipfgdlbnaaCurB
import Derived.Test.YthgjhipfgdlbnaaGrp
namespace Go.Proofs.Ythgjhipfgdlbnaa
set_option linter.unusedSimpArgs false
set_option linter.unusedVariables false
open Go.RowKit
attribute [local irreducible] pN valN byteN bytesN invN ofN powN kvN clampN multV keyU topN
set_option maxRecDepth 100000 in
set_option maxHeartbeats 1000000 in
theorem CurveMeets_nat (a : Nat → Nat) (ha : ∀ i, i < 32 → a i < 256) (b : Nat → Nat) (hb : ∀ i, i < 32 → b i < 256) (w : World) :
    Calls Try.prog 7 #[.agg (arr .u8 32 fun i => ((a i : Nat) : Int)), .agg (arr .u8 32 fun i => ((b i : Nat) : Int))] w fun e w' => e = .returned (.bool true) ∧ Below w.heap.size w w' := by
  have Ha := Lib.hid ha
  have Hb := Lib.hid hb
  clear ha hb
  go_enter Try.func7, Try.ntmps7
  obtain ⟨h0, h1, hsz, hb⟩ := alloc2 w (.cells (arr .u8 32 fun i => ((a i : Nat) : Int)) 23) (.cells (arr .u8 32 fun i => ((b i : Nat) : Int)) 23)
  go_wp2_with (go_at_call 8; fail)
  refine (live06_any _).mono ?_
  rintro e w4 ⟨rfl, b4⟩
  replace h0 := keep_below b4 (by omega) h0
  replace h1 := keep_below b4 (by omega) h1
  replace hb := hb.trans (b4.mono (by omega))
  clear b4 hsz
  go_upto_region 4 with (fail)
  (try simp only [Act.put, List.setIfInBounds_toArray, List.set_cons_zero, List.set_cons_succ])
  obtain ⟨wr, rfl⟩ : ∃ x, x = w4 := ⟨_, rfl⟩
  refine wp_region_can wr.heap.size 12 [(0, false), (1, false), (2, false), (3, false), (6, false), (7, false), (4, true), (5, true), (8, true), (9, true), (10, false), (11, false)] (by kernel_rfl) (by kernel_rfl) ?_
  (simp only [canOps, List.getElem?_cons_zero, List.getElem?_cons_succ, List.drop_succ_cons, List.drop_zero])
  iterate 2 (first | (refine wpCan_move rfl rfl (fun _ _ _ _ h => h) ?_; (simp only [Act.put, Act.eval, Array.getD_eq_getD_getElem?, List.getElem?_toArray, List.getElem?_cons_zero, List.getElem?_cons_succ, Option.getD_some, List.setIfInBounds_toArray, List.set_cons_zero, List.set_cons_succ])) | (refine wpCan_assign rfl rfl (fun _ _ _ _ h => h) ?_; (simp only [Act.put, Act.eval, Array.getD_eq_getD_getElem?, List.getElem?_toArray, List.getElem?_cons_zero, List.getElem?_cons_succ, Option.getD_some, List.setIfInBounds_toArray, List.set_cons_zero, List.set_cons_succ])) | (refine wpCan_nilCheck rfl rfl rfl (fun _ _ _ _ h => h) ?_; (simp only [Act.put, List.setIfInBounds_toArray, List.set_cons_zero, List.set_cons_succ])) | (refine wpCan_q rfl rfl (fun _ _ _ _ h => h) (by first | exact .bin rfl rfl rfl | exact .indexAddr rfl | exact .un rfl | exact .extract rfl | exact .index rfl | exact .field rfl | exact .slice rfl) (fun K hK => ?_); go_simp; (try (simp only [↓IntWalk.iteOmega]; go_simp)); (try go_bits); refine hK _ ?_; clear hK K))
  refine wpCan_load_arr rfl rfl rfl (fun _ _ _ _ h => h) RTKey (lt_of_block (w := wr) h0) h0 ?_
  (try simp only [Act.put, List.setIfInBounds_toArray, List.set_cons_zero, List.set_cons_succ])
  refine wpCan_load_arr rfl rfl rfl (fun _ _ _ _ h => h) RTKey (lt_of_block (w := wr) h1) h1 ?_
  (try simp only [Act.put, List.setIfInBounds_toArray, List.set_cons_zero, List.set_cons_succ])
  refine wpCan_load_arr rfl rfl rfl (fun _ _ _ _ h => h) RTKey (lt_of_block (w := wr) h1) h1 ?_
  (try simp only [Act.put, List.setIfInBounds_toArray, List.set_cons_zero, List.set_cons_succ])
  refine wpCan_load_arr rfl rfl rfl (fun _ _ _ _ h => h) RTKey (lt_of_block (w := wr) h0) h0 ?_
  (try simp only [Act.put, List.setIfInBounds_toArray, List.set_cons_zero, List.set_cons_succ])
  refine wpCan_e rfl (fun K hK => ?_)
  go_simp
  refine (Base_any b Hb.out _).mono ?_
  rintro e v1 ⟨rfl, b1⟩
  refine hK _ _ (Keep.of_below b1 (Nat.le_refl _)) ?_
  clear hK K
  (try simp only [Act.put, List.setIfInBounds_toArray, List.set_cons_zero, List.set_cons_succ])
  have cb := b1
  clear b1
  refine wpCan_e rfl (fun K hK => ?_)
  go_simp
  refine (Mult_any a (byteN (multV b (keyU nineN))) Ha.out (fun i _ => byteN_lt _ i) _).mono ?_
  rintro e v2 ⟨rfl, b2⟩
  refine hK _ _ (Keep.of_below b2 cb.size) ?_
  clear hK K
  (try simp only [Act.put, List.setIfInBounds_toArray, List.set_cons_zero, List.set_cons_succ])
  replace cb := cb.trans (b2.mono cb.size)
  clear b2
  refine wpCan_e rfl (fun K hK => ?_)
  go_simp
  refine (Base_any a Ha.out _).mono ?_
  rintro e v3 ⟨rfl, b3⟩
  refine hK _ _ (Keep.of_below b3 cb.size) ?_
  clear hK K
  (try simp only [Act.put, List.setIfInBounds_toArray, List.set_cons_zero, List.set_cons_succ])
  replace cb := cb.trans (b3.mono cb.size)
  clear b3
  refine wpCan_e rfl (fun K hK => ?_)
  go_simp
  refine (Mult_any b (byteN (multV a (keyU nineN))) Hb.out (fun i _ => byteN_lt _ i) _).mono ?_
  rintro e v4 ⟨rfl, b4⟩
  refine hK _ _ (Keep.of_below b4 cb.size) ?_
  clear hK K
  (try simp only [Act.put, List.setIfInBounds_toArray, List.set_cons_zero, List.set_cons_succ])
  replace cb := cb.trans (b4.mono cb.size)
  clear b4
  refine wpCan_all rfl (fun _ _ _ _ h => h) (fun w' => run_op_eqArr (op := .eql) rfl ITKey rfl rfl) ?_
  rw [sameTo_true (fun i _ => by rw [keyU_byte _ (mult_lt _ _), keyU_byte _ (mult_lt _ _), mult_turn _ _ _ (keyU_lt _)])]
  (try simp only [Act.put, List.setIfInBounds_toArray, List.set_cons_zero, List.set_cons_succ])
  refine wpCan_pick rfl rfl rfl (fun _ _ _ _ h => h) ?_
  simp only [if_true]
  (try simp only [Act.put, List.setIfInBounds_toArray, List.set_cons_zero, List.set_cons_succ])
  refine wpCan_nil ?_
  go_wp2
  go_ret
  exact ⟨rfl, hb.drew.trans (cb.mono hb.size)⟩
theorem CurveMeets_any (a : Nat → Int) (ha : ∀ i, i < 32 → 0 ≤ a i ∧ a i < 256) (b : Nat → Int) (hb : ∀ i, i < 32 → 0 ≤ b i ∧ b i < 256) (w : World) :
    Calls Try.prog 7 #[.agg (arr .u8 32 a), .agg (arr .u8 32 b)] w fun e w' => e = .returned (.bool true) ∧ Below w.heap.size w w' := by
  rw [show arr .u8 32 a = arr .u8 32 fun i => (((fun i => (a i).toNat) i : Nat) : Int) from arr_ext fun i hi => by have := ha i hi; dsimp only; omega]
  rw [show arr .u8 32 b = arr .u8 32 fun i => (((fun i => (b i).toNat) i : Nat) : Int) from arr_ext fun i hi => by have := hb i hi; dsimp only; omega]
  exact CurveMeets_nat (fun i => (a i).toNat) (fun i hi => by have := ha i hi; show (a i).toNat < 256; omega) (fun i => (b i).toNat) (fun i hi => by have := hb i hi; show (b i).toNat < 256; omega) w
end Go.Proofs.Ythgjhipfgdlbnaa
