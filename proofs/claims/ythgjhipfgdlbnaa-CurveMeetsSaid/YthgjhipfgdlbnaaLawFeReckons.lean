/- The law FeReckons: whatever the numbers and the bytes, it answers true. -/
import Derived.Test.YthgjhipfgdlbnaaFeT
namespace Go.Proofs.Ythgjhipfgdlbnaa
set_option linter.unusedSimpArgs false
set_option linter.unusedVariables false
open Go.RowKit
theorem cut_val (k : Nat → Nat) (hk : ∀ i, i < 32 → k i < 256) : kvN (cutB k) 32 = kvN k 32 % 57896044618658097711785492504343953926634992332820282019728792003956564819968 := by
  have e1 : kvN (cutB k) 31 = kvN k 31 := kvN_congr _ _ 31 (fun i hi => by unfold cutB; rw [if_neg (by omega)])
  have e2 : kvN (cutB k) 32 = kvN (cutB k) 31 + cutB k 31 * 2 ^ (8 * 31) := rfl
  have e3 : kvN k 32 = kvN k 31 + k 31 * 2 ^ (8 * 31) := rfl
  have h1 := kvN_lt k 31 (fun i hi => hk i (by omega)) 31 (Nat.le_refl _)
  have h2 : cutB k 31 = k 31 % 128 := by unfold cutB; rw [if_pos rfl]
  rw [e2, e3, e1, h2]
  generalize kvN k 31 = v at *
  generalize k 31 = x at *
  rw [show (2 : Nat) ^ (8 * 31) = 452312848583266388373324160190187140051835877600158453279131187530910662656 from rfl] at *
  omega
theorem of_fits (k : Nat → Nat) (hk : ∀ i, i < 32 → k i < 256) : valN (ofN k) 5 % pN = kvN (cutB k) 32 % pN := by
  have e : valN (ofN k) 5 = valN (digN (kvN k 32)) 5 := by
    rw [valN_five, valN_five]
    simp only [ofN_dig]
  rw [e, val_dig, cut_val k hk]
theorem num_same (a b : Nat) (ha : a < 2 ^ 256) (hb : b < 2 ^ 256) : sameTo (fun i => ((partN a i : Nat) : Int)) (fun i => ((partN b i : Nat) : Int)) 16 0 = decide (a = b) := by
  by_cases h : a = b
  · rw [h, decide_eq_true rfl]
    exact sameTo_true fun _ _ => rfl
  · rw [decide_eq_false h]
    rw [← Bool.not_eq_true]
    intro hs
    have h1 := sameTo_all hs
    apply h
    have h2 : val16 (partN a) 16 = val16 (partN b) 16 := val16_congr _ _ 16 (fun i hi => by have := h1 i hi; omega)
    rwa [part_val, part_val, Nat.mod_eq_of_lt ha, Nat.mod_eq_of_lt hb] at h2
attribute [local irreducible] val16 ovR loR partN boN passN pN plusL accR valN byteN bytesN sqM invM accN prodN carN diffN sqN sumN difN oneF invN sameN powN ofN kvN cutB

theorem zero_arr {H : Nat → Nat} (h : ∀ i, H i = 0) : (arr .u64 5 fun k => ((H k : Nat) : Int)) = arr .u64 5 fun _ => 0 := arr_ext fun i _ => by rw [h i]; rfl
theorem Add_no (F G : Nat → Nat) (hF : ∀ i, i < 5 → F i < 18446744073709551616) (hG : ∀ i, i < 5 → G i < 18446744073709551616) (h : ¬ (okF F 5 ∧ okF G 5)) (w : World) : Calls Try.prog 33 #[.agg (arr .u64 5 fun i => ((F i : Nat) : Int)), .agg (arr .u64 5 fun i => ((G i : Nat) : Int))] w fun e w' => e = .returned (.tuple #[.agg (arr .u64 5 fun _ => 0), .int .i64 1]) ∧ Below w.heap.size w w' :=
  (Add_any F G hF hG w).mono fun e w' hh => by
    rw [if_neg h, zero_arr (H := addN F G) (fun i => by unfold addN; rw [if_neg h])] at hh
    exact hh
theorem Mul_no (F G : Nat → Nat) (hF : ∀ i, i < 5 → F i < 18446744073709551616) (hG : ∀ i, i < 5 → G i < 18446744073709551616) (h : ¬ (okF F 5 ∧ okF G 5)) (w : World) : Calls Try.prog 35 #[.agg (arr .u64 5 fun i => ((F i : Nat) : Int)), .agg (arr .u64 5 fun i => ((G i : Nat) : Int))] w fun e w' => e = .returned (.tuple #[.agg (arr .u64 5 fun _ => 0), .int .i64 1]) ∧ Below w.heap.size w w' :=
  (Mul_any F G hF hG w).mono fun e w' hh => by
    unfold mulN at hh
    rw [if_neg h, told2_no h] at hh
    exact hh
theorem Sub_no (F G : Nat → Nat) (hF : ∀ i, i < 5 → F i < 18446744073709551616) (hG : ∀ i, i < 5 → G i < 18446744073709551616) (h : ¬ (okF F 5 ∧ okF G 5)) (w : World) : Calls Try.prog 34 #[.agg (arr .u64 5 fun i => ((F i : Nat) : Int)), .agg (arr .u64 5 fun i => ((G i : Nat) : Int))] w fun e w' => e = .returned (.tuple #[.agg (arr .u64 5 fun _ => 0), .int .i64 1]) ∧ Below w.heap.size w w' :=
  (Sub_any F G hF hG w).mono fun e w' hh => by
    unfold subN at hh
    rw [if_neg h, told2_no h] at hh
    exact hh
end Go.Proofs.Ythgjhipfgdlbnaa
