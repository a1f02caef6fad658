/- The walks of layer 5: the laws' beginning. -/
import Derived.Test.YthgjhipfgdlbnaaFeS
namespace Go.Proofs.Ythgjhipfgdlbnaa
set_option linter.unusedSimpArgs false
set_option linter.unusedVariables false
open Go.RowKit

def k0 (i : Nat) : Nat := if i = 0 then 236 else if i = 31 then 127 else 255
def k1 (i : Nat) : Nat := if i = 0 then 235 else if i = 31 then 127 else 255
def f0 (i : Nat) : Nat := if i = 0 then 2251799813685228 else 2251799813685247
def f1 (i : Nat) : Nat := if i = 0 then 2251799813685227 else 2251799813685247
theorem all_of {p : Nat → Bool} {n : Nat} (h : (List.range n).all p = true) (i : Nat) (hi : i < n) : p i = true := List.all_eq_true.1 h i (List.mem_range.2 hi)
theorem k0_lt (i : Nat) (_ : i < 32) : k0 i < 256 := by unfold k0; split; omega; split <;> omega
theorem f0_lt (i : Nat) (_ : i < 5) : f0 i < 18446744073709551616 := by unfold f0; split <;> omega
theorem f1_lt (i : Nat) (_ : i < 5) : f1 i < 18446744073709551616 := by unfold f1; split <;> omega
theorem f0_ok : okF f0 5 ∧ okF f0 5 := ⟨fun i _ => by unfold f0; split <;> omega, fun i _ => by unfold f0; split <;> omega⟩
theorem f1_ok : okF f1 5 := fun i _ => by unfold f1; split <;> omega
theorem of_k0_ok : (List.range 5).all (fun i => decide (ofN k0 i = f0 i)) = true := by kernel_rfl
theorem of_k0 : (arr .u64 5 fun i => ((ofN k0 i : Nat) : Int)) = arr .u64 5 fun i => ((f0 i : Nat) : Int) := arr_ext fun i hi => by rw [of_decide_eq_true (all_of of_k0_ok i hi)]
theorem add_f0_ok : (List.range 5).all (fun i => decide (carN (fun i => f0 i + f0 i) i = f1 i)) = true := by kernel_rfl
theorem add_f0 : (arr .u64 5 fun i => ((addN f0 f0 i : Nat) : Int)) = arr .u64 5 fun i => ((f1 i : Nat) : Int) := arr_ext fun i hi => by unfold addN; rw [if_pos f0_ok, of_decide_eq_true (all_of add_f0_ok i hi)]
theorem least_f1_ok : (List.range 5).all (fun i => decide (leastN f1 i = f1 i)) = true := by kernel_rfl
theorem val_congr (X Y : Nat → Nat) : ∀ n, (∀ i, i < n → X i = Y i) → valN X n = valN Y n
  | 0, _ => rfl
  | n + 1, h => by rw [valN_succ, valN_succ, val_congr X Y n (fun i hi => h i (by omega)), h n (by omega)]
theorem bytes_f1_ok : (List.range 32).all (fun k => decide (byteN (valN f1 5) k = k1 k)) = true := by kernel_rfl
theorem bytes_f1 : (arr .u8 32 fun k => ((bytesN f1 k : Nat) : Int)) = arr .u8 32 fun k => ((k1 k : Nat) : Int) := arr_ext fun k hk => by
  unfold bytesN
  rw [if_pos f1_ok, val_congr (leastN f1) f1 5 (fun i hi => of_decide_eq_true (all_of least_f1_ok i hi)), of_decide_eq_true (all_of bytes_f1_ok k hk)]
theorem fill_zero (f : Nat → Int) (m i : Nat) : upd (fun i => if i < m then f i else 0) m (f m) i = if i < m + 1 then f i else 0 := fill_step (fun _ => 0) f m i
theorem k0_k1 (i : Nat) : upd (fun i => ((k0 i : Nat) : Int)) 0 235 i = ((k1 i : Nat) : Int) := by
  unfold upd k0 k1
  by_cases h : i = 0
  · rw [if_pos h, if_pos h]; rfl
  · rw [if_neg h, if_neg h]; dsimp only; rw [if_neg h]
theorem wpList_val_w {P : Program} {ops : Array Oper} {Q : Exit → Act → World → Prop} {a : Act} {w : World} {rest : List Oper} {o : Oper} {v : Value} (hw : Region.wanted o (yielded ops a.tmps) = true) (hr : (execOp a.eval o).run P w = .ok (.value v) w) (h : wpList P ops Q rest (a.put o.dst v) w) : wpList P ops Q (o :: rest) a w := by
  unfold wpList
  rw [if_pos hw]
  left
  unfold Oper.wp
  rw [hr]
  exact h
attribute [local irreducible] leastN valN byteN bytesN addN carN ofN kvN k0 k1 f0 f1

end Go.Proofs.Ythgjhipfgdlbnaa
