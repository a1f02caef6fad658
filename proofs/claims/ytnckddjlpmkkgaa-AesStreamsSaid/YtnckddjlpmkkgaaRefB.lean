/- Plain law of layer 4's reference: the box out of the inverse. -/
import Derived.Test.YtnckddjlpmkkgaaAesM
import Derived.Test.YtnckddjlpmkkgaaAesP
namespace Go.Proofs.Ytnckddjlpmkkgaa
set_option linter.unusedSimpArgs false
set_option linter.unusedVariables false
open Go.RowKit
def powN (x : Nat) : Nat → Nat
  | 0 => 1
  | n + 1 => mulN (powN x n) x
theorem powN_lt (x n : Nat) : powN x n < 256 := by
  cases n with
  | zero => unfold powN; omega
  | succ n => unfold powN mulN; exact Nat.mod_lt _ (by omega)

theorem powN_succ (x n : Nat) : powN x (n + 1) = mulN (powN x n) x := rfl
theorem powN_zero (x : Nat) : powN x 0 = 1 := rfl
def bitR (y : Int) (m : Nat) : Int := bits .xor .u8 (bits .xor .u8 (bits .xor .u8 (bits .xor .u8 (bits .xor .u8 (99 / 2 ^ m) (y / 2 ^ m)) (y / 2 ^ ((m + 4) % 8))) (y / 2 ^ ((m + 5) % 8))) (y / 2 ^ ((m + 6) % 8))) (y / 2 ^ ((m + 7) % 8))
def boxR (y : Int) : Nat → Int
  | 0 => 0
  | m + 1 => (boxR y m + (bitR y m).tmod 2 * 2 ^ m % 256) % 256
theorem boxR_zero (y : Int) : boxR y 0 = 0 := rfl
theorem boxR_succ (y : Int) (m : Nat) : boxR y (m + 1) = (boxR y m + (bitR y m).tmod 2 * 2 ^ m % 256) % 256 := rfl
def okR (x : Nat) : Bool := decide (boxR (powN x 254) 8 = sboxI x)
theorem okR0 : (List.range 8).all (fun j => okR (0 + j)) = true := by kernel_rfl
theorem okR1 : (List.range 8).all (fun j => okR (8 + j)) = true := by kernel_rfl
theorem okR2 : (List.range 8).all (fun j => okR (16 + j)) = true := by kernel_rfl
theorem okR3 : (List.range 8).all (fun j => okR (24 + j)) = true := by kernel_rfl
theorem okR4 : (List.range 8).all (fun j => okR (32 + j)) = true := by kernel_rfl
theorem okR5 : (List.range 8).all (fun j => okR (40 + j)) = true := by kernel_rfl
theorem okR6 : (List.range 8).all (fun j => okR (48 + j)) = true := by kernel_rfl
theorem okR7 : (List.range 8).all (fun j => okR (56 + j)) = true := by kernel_rfl
theorem okR8 : (List.range 8).all (fun j => okR (64 + j)) = true := by kernel_rfl
theorem okR9 : (List.range 8).all (fun j => okR (72 + j)) = true := by kernel_rfl
theorem okR10 : (List.range 8).all (fun j => okR (80 + j)) = true := by kernel_rfl
theorem okR11 : (List.range 8).all (fun j => okR (88 + j)) = true := by kernel_rfl
theorem okR12 : (List.range 8).all (fun j => okR (96 + j)) = true := by kernel_rfl
theorem okR13 : (List.range 8).all (fun j => okR (104 + j)) = true := by kernel_rfl
theorem okR14 : (List.range 8).all (fun j => okR (112 + j)) = true := by kernel_rfl
theorem okR15 : (List.range 8).all (fun j => okR (120 + j)) = true := by kernel_rfl
theorem okR16 : (List.range 8).all (fun j => okR (128 + j)) = true := by kernel_rfl
theorem okR17 : (List.range 8).all (fun j => okR (136 + j)) = true := by kernel_rfl
theorem okR18 : (List.range 8).all (fun j => okR (144 + j)) = true := by kernel_rfl
theorem okR19 : (List.range 8).all (fun j => okR (152 + j)) = true := by kernel_rfl
theorem okR20 : (List.range 8).all (fun j => okR (160 + j)) = true := by kernel_rfl
theorem okR21 : (List.range 8).all (fun j => okR (168 + j)) = true := by kernel_rfl
theorem okR22 : (List.range 8).all (fun j => okR (176 + j)) = true := by kernel_rfl
theorem okR23 : (List.range 8).all (fun j => okR (184 + j)) = true := by kernel_rfl
theorem okR24 : (List.range 8).all (fun j => okR (192 + j)) = true := by kernel_rfl
theorem okR25 : (List.range 8).all (fun j => okR (200 + j)) = true := by kernel_rfl
theorem okR26 : (List.range 8).all (fun j => okR (208 + j)) = true := by kernel_rfl
theorem okR27 : (List.range 8).all (fun j => okR (216 + j)) = true := by kernel_rfl
theorem okR28 : (List.range 8).all (fun j => okR (224 + j)) = true := by kernel_rfl
theorem okR29 : (List.range 8).all (fun j => okR (232 + j)) = true := by kernel_rfl
theorem okR30 : (List.range 8).all (fun j => okR (240 + j)) = true := by kernel_rfl
theorem okR31 : (List.range 8).all (fun j => okR (248 + j)) = true := by kernel_rfl
theorem okR_all (x : Nat) (hx : x < 256) : boxR (powN x 254) 8 = sboxI x := by
  have key : okR x = true := by
    have hq : x = 8 * (x / 8) + x % 8 := by omega
    have hr : x % 8 < 8 := by omega
    have hd : x / 8 < 32 := by omega
    rw [hq]
    generalize x % 8 = r at *
    generalize x / 8 = q at *
    clear hq hx
    have pick : ∀ b, (List.range 8).all (fun j => okR (b + j)) = true → okR (b + r) = true := fun b h => List.all_eq_true.1 h r (List.mem_range.2 hr)
    match q, hd with
    | 0, _ => exact pick _ okR0
    | 1, _ => exact pick _ okR1
    | 2, _ => exact pick _ okR2
    | 3, _ => exact pick _ okR3
    | 4, _ => exact pick _ okR4
    | 5, _ => exact pick _ okR5
    | 6, _ => exact pick _ okR6
    | 7, _ => exact pick _ okR7
    | 8, _ => exact pick _ okR8
    | 9, _ => exact pick _ okR9
    | 10, _ => exact pick _ okR10
    | 11, _ => exact pick _ okR11
    | 12, _ => exact pick _ okR12
    | 13, _ => exact pick _ okR13
    | 14, _ => exact pick _ okR14
    | 15, _ => exact pick _ okR15
    | 16, _ => exact pick _ okR16
    | 17, _ => exact pick _ okR17
    | 18, _ => exact pick _ okR18
    | 19, _ => exact pick _ okR19
    | 20, _ => exact pick _ okR20
    | 21, _ => exact pick _ okR21
    | 22, _ => exact pick _ okR22
    | 23, _ => exact pick _ okR23
    | 24, _ => exact pick _ okR24
    | 25, _ => exact pick _ okR25
    | 26, _ => exact pick _ okR26
    | 27, _ => exact pick _ okR27
    | 28, _ => exact pick _ okR28
    | 29, _ => exact pick _ okR29
    | 30, _ => exact pick _ okR30
    | 31, _ => exact pick _ okR31
    | n + 32, h => omega
  exact of_decide_eq_true key
end Go.Proofs.Ytnckddjlpmkkgaa
