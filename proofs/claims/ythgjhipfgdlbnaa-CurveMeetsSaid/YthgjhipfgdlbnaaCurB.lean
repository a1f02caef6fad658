/- The walks of layer 6: the point 9, multiplied, by the program and by the reference; the chapter's example. -/
import Derived.Test.YthgjhipfgdlbnaaLadG
import Derived.Test.YthgjhipfgdlbnaaMult
import Derived.Test.YthgjhipfgdlbnaaRMult
namespace Go.Proofs.Ythgjhipfgdlbnaa
set_option linter.unusedSimpArgs false
set_option linter.unusedVariables false
open Go.RowKit
section
variable {P : Program} {o : Oper} {a : Act} {w : World}
theorem run_built_nil {ty : TypeId} {c : Array Value} (ho : o.op = .build ty #[]) (hb : P.built ty [] = some c) : (execOp a.eval o).run P w = .ok (.value (.agg c)) w := run_op_build (l := []) ho (by simp) hb
theorem run_built_one {ty : TypeId} {c : Array Value} {i : Nat} {x : Operand} {v : Value} (ho : o.op = .build ty #[(i, x)]) (hx : a.eval x = v) (hb : P.built ty [(i, v)] = some c) : (execOp a.eval o).run P w = .ok (.value (.agg c)) w := run_op_build ho (by simp [hx]) hb
end
def nineN (i : Nat) : Nat := if i = 0 then 9 else 0
theorem nine_lt (i : Nat) (hi : i < 32) : nineN i < 256 := by unfold nineN; split <;> omega
theorem built_nine : Try.prog.built 23 [(0, .int .u8 9)] = some (arr .u8 32 fun i => ((nineN i : Nat) : Int)) := by kernel_rfl
theorem built_nil : Try.prog.built 23 [] = some (arr .u8 32 fun _ => 0) := by kernel_rfl
def topK (i : Nat) : Nat := if i = 31 then 64 else 0
theorem built_top : Try.prog.built 23 [(31, .int .u8 64)] = some (arr .u8 32 fun i => ((topK i : Nat) : Int)) := by kernel_rfl
theorem clamp0 (i : Nat) : clampN (fun _ => 0) i = topK i := by
  unfold clampN topK
  dsimp only
  by_cases h : i = 0
  · rw [if_pos h, if_neg (by omega)]
  · rw [if_neg h]
theorem Clamp_zero (w : World) : Calls Try.prog 9 #[.agg (arr .u8 32 fun _ => 0)] w fun e w' => e = .returned (.agg (arr .u8 32 fun i => ((topK i : Nat) : Int))) ∧ Below w.heap.size w w' :=
  (Clamp_any (fun _ => 0) (fun _ _ => by omega) w).mono fun e w' h => by
    rw [show (arr .u8 32 fun i => ((topK i : Nat) : Int)) = arr .u8 32 fun i => ((clampN (fun _ => 0) i : Nat) : Int) from arr_ext fun i _ => by rw [clamp0]]
    exact h
theorem keyU_zero : keyU (fun _ => 0) = 0 := by unfold keyU pN; decide +kernel
theorem Mult_zero (w : World) : Calls Try.prog 11 #[.agg (arr .u8 32 fun i => ((topK i : Nat) : Int)), .agg (arr .u8 32 fun _ => 0)] w fun e w' => e = .returned (.agg (arr .u8 32 fun _ => 0)) ∧ Below w.heap.size w w' :=
  (Mult_any topK (fun _ => 0) (fun i _ => by unfold topK; split <;> omega) (fun _ _ => by omega) w).mono fun e w' h => by
    rw [keyU_zero, mult_zero, show (arr .u8 32 fun i => ((byteN 0 i : Nat) : Int)) = arr .u8 32 fun _ => 0 from arr_ext fun i _ => by rw [byteN_zero]; rfl] at h
    exact h
attribute [local irreducible] pN valN byteN bytesN invN ofN powN kvN clampN multV keyU topN nineN topK
set_option maxRecDepth 100000 in
set_option maxHeartbeats 1000000 in
theorem Base_any (k : Nat → Nat) (hk : ∀ i, i < 32 → k i < 256) (w : World) :
    Calls Try.prog 15 #[.agg (arr .u8 32 fun i => ((k i : Nat) : Int))] w fun e w' => e = .returned (.agg (arr .u8 32 fun i => (((byteN (multV k (keyU nineN))) i : Nat) : Int))) ∧ Below w.heap.size w w' := by
  have hK := Lib.hid hk
  clear hk
  go_enter Try.func15, Try.ntmps15
  obtain ⟨h0, h1, hsz, hb⟩ := alloc2 w (.cells (arr .u8 32 fun i => ((k i : Nat) : Int)) 23) (.cells (arr .u8 32 fun _ => 0) 23)
  go_upto_region 1 with (refine wpList_alloc_arr rfl rfl ZTKey ?_)
  generalize (w.alloc (.cells (arr .u8 32 fun i => ((k i : Nat) : Int)) 23)).alloc (.cells (arr .u8 32 fun _ => 0) 23) = wa at *
  (try simp only [Act.put, List.setIfInBounds_toArray, List.set_cons_zero, List.set_cons_succ])
  simp only [World.size_alloc]
  clear hsz
  go_wp2_with (first | (refine wpList_load_arr rfl rfl rfl RTKey h0 ?_) | (refine wpList_val' rfl (run_op_build rfl (by simp [Act.eval, Act.put]) built_nine) ?_) | (go_at_call 11; fail))
  refine (Mult_any k nineN hK.out nine_lt _).mono ?_
  rintro e w4 ⟨rfl, b4⟩
  replace h1 := keep_below b4 (lt_of_block h1) h1
  replace hb := hb.trans (b4.mono hb.size)
  go_wp2_with (first | (refine wpList_store_arr rfl rfl rfl rfl RTKey h1 ?_))
  exact bodyPost_ret (results_arr rfl rfl RTKey (row_self h1)) rfl ⟨rfl, row_below hb (by omega) _⟩
set_option maxRecDepth 100000 in
set_option maxHeartbeats 1000000 in
theorem RBase_any (k : Nat → Nat) (hk : ∀ i, i < 32 → k i < 256) (w : World) :
    Calls Try.prog 16 #[.agg (arr .u8 32 fun i => ((k i : Nat) : Int))] w fun e w' => e = .returned (.agg (arr .u8 32 fun i => (((byteN (multV k (keyU nineN))) i : Nat) : Int))) ∧ Below w.heap.size w w' := by
  have hK := Lib.hid hk
  clear hk
  go_enter Try.func16, Try.ntmps16
  obtain ⟨h0, h1, hsz, hb⟩ := alloc2 w (.cells (arr .u8 32 fun i => ((k i : Nat) : Int)) 23) (.cells (arr .u8 32 fun _ => 0) 23)
  go_upto_region 1 with (refine wpList_alloc_arr rfl rfl ZTKey ?_)
  generalize (w.alloc (.cells (arr .u8 32 fun i => ((k i : Nat) : Int)) 23)).alloc (.cells (arr .u8 32 fun _ => 0) 23) = wa at *
  (try simp only [Act.put, List.setIfInBounds_toArray, List.set_cons_zero, List.set_cons_succ])
  simp only [World.size_alloc]
  clear hsz
  go_wp2_with (first | (refine wpList_load_arr rfl rfl rfl RTKey h0 ?_) | (refine wpList_val' rfl (run_op_build rfl (by simp [Act.eval, Act.put]) built_nine) ?_) | (go_at_call 12; fail))
  refine (RMult_any k nineN hK.out nine_lt _).mono ?_
  rintro e w4 ⟨rfl, b4⟩
  replace h1 := keep_below b4 (lt_of_block h1) h1
  replace hb := hb.trans (b4.mono hb.size)
  go_wp2_with (first | (refine wpList_store_arr rfl rfl rfl rfl RTKey h1 ?_))
  exact bodyPost_ret (results_arr rfl rfl RTKey (row_self h1)) rfl ⟨rfl, row_below hb (by omega) _⟩
set_option maxRecDepth 100000 in
set_option maxHeartbeats 1000000 in
theorem live06_any (w : World) :
    Calls Try.prog 8 #[] w fun e w' => e = .returned (.bool true) ∧ Below w.heap.size w w' := by
  go_enter Try.func8, Try.ntmps8
  have hb : Below w.heap.size w w := Below.refl _ _
  go_wp2_with (first | (refine wpList_val_w rfl (run_built_nil rfl built_nil) ?_) | (go_at_call 9; fail))
  refine (Clamp_zero _).mono ?_
  rintro e w4 ⟨rfl, b4⟩
  replace hb := hb.trans (b4.mono hb.size)
  clear b4
  go_upto_region 2 with (refine wpList_new_arr rfl rfl rfl rfl ZTKey RTKey rfl rfl ?_; intro w8 h0 b8 hs8)
  replace hb := hb.trans (b8.mono hb.size)
  clear b8 hs8
  obtain ⟨B, hB⟩ : ∃ B, B = w4.heap.size := ⟨_, rfl⟩
  rw [← hB] at h0 ⊢
  clear hB
  (try simp only [Act.put, List.setIfInBounds_toArray, List.set_cons_zero, List.set_cons_succ])
  go_wp2_with (first | (refine wpList_val_w rfl (run_op_load rfl rfl (run_loadVar_arr0 RTKey h0)) ?_) | (refine wpList_val_w rfl (run_built_nil rfl built_nil) ?_) | (refine wpList_val_w rfl (run_built_one rfl rfl built_top) ?_) | (refine wpList_val_w rfl (run_op_eqArr (op := .eql) rfl ITKey rfl rfl) ?_; rw [sameTo_true (fun _ _ => rfl)]) | (go_at_call 11; fail))
  refine (Mult_zero _).mono ?_
  rintro e w4 ⟨rfl, b4⟩
  replace h0 := keep_below b4 (lt_of_block h0) h0
  replace hb := hb.trans (b4.mono hb.size)
  clear b4
  go_wp2_with (first | (refine wpList_val_w rfl (run_op_load rfl rfl (run_loadVar_arr0 RTKey h0)) ?_) | (refine wpList_val_w rfl (run_built_nil rfl built_nil) ?_) | (refine wpList_val_w rfl (run_op_eqArr (op := .eql) rfl ITKey rfl rfl) ?_; rw [sameTo_true (fun _ _ => rfl)]))
  go_ret
  exact ⟨rfl, hb⟩
end Go.Proofs.Ythgjhipfgdlbnaa
