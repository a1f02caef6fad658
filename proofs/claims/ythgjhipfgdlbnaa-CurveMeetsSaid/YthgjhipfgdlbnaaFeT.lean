/- The walks of layer 5: what the laws ask of the reference. -/
import Derived.Test.YthgjhipfgdlbnaaNumS
namespace Go.Proofs.Ythgjhipfgdlbnaa
set_option linter.unusedSimpArgs false
set_option linter.unusedVariables false
open Go.RowKit
theorem stands_same {F : Nat → Nat} (hF : okF F 5) {v : Nat} (h : valN F 5 % pN = v) (i : Nat) : ((bytesN F i : Nat) : Int) = ((byteN v i : Nat) : Int) := by
  rw [bytesN_ok F hF i, least_val F (fun i hi => okF_wide hF i hi), h]
attribute [local irreducible] val16 ovR loR partN boN passN pN plusL accR valN byteN bytesN sqM invM accN prodN carN diffN sqN sumN difN oneF invN sameN powN
theorem ITNum : IntsT Try.prog 51 .u64 16 := ⟨_, Try.underlying51, Try.underlying32, by kernel_rfl, by kernel_rfl⟩
theorem ITFe : IntsT Try.prog 34 .u64 5 := ⟨_, Try.underlying34, Try.underlying32, by kernel_rfl, by kernel_rfl⟩
theorem Bytes_yes (F : Nat → Nat) (hF : okF F 5) (w : World) : Calls Try.prog 13 #[.agg (arr .u64 5 fun i => ((F i : Nat) : Int))] w fun e w' => e = .returned (.tuple #[.agg (arr .u8 32 fun k => ((bytesN F k : Nat) : Int)), .int .i64 0]) ∧ Below w.heap.size w w' :=
  (Bytes_any F (ok_big hF) w).mono fun e w' h => by rw [if_pos hF] at h; exact h
end Go.Proofs.Ythgjhipfgdlbnaa
