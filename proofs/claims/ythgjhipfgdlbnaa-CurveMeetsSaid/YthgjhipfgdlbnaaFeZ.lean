/- The walks of layer 5: what the laws ask, of numbers that may be. -/
import Derived.Test.YthgjhipfgdlbnaaFeJ
import Derived.Test.YthgjhipfgdlbnaaFeV
import Derived.Test.YthgjhipfgdlbnaaFeR
namespace Go.Proofs.Ythgjhipfgdlbnaa
set_option linter.unusedSimpArgs false
set_option linter.unusedVariables false
open Go.RowKit
attribute [local irreducible] accN byteN prodN carN diffN sqN

/-- A number's parts stand for a number. -/
def Fits (X : Nat → Nat) (v : Nat) : Prop := okF X 5 ∧ valN X 5 % pN = v % pN
theorem same_iff (F G : Nat → Nat) (hF : okF F 5) (hG : okF G 5) : sameN F G = true ↔ valN F 5 % pN = valN G 5 % pN := by
  have a := kv_bytesN F hF
  have b := kv_bytesN G hG
  constructor
  · intro h
    unfold sameN at h
    rw [Bool.and_eq_true] at h
    have h2 := sameTo_all h.2
    rw [← a, ← b]
    refine kvN_congr _ _ 32 (fun k hk => ?_)
    rw [bytesN_ok F hF k, bytesN_ok G hG k]
    have := h2 k hk
    omega
  · intro h
    unfold sameN
    rw [decide_eq_true ⟨hF, hG⟩, Bool.true_and]
    rw [← least_val F (fun i hi => okF_wide hF i hi), ← least_val G (fun i hi => okF_wide hG i hi)] at h
    rw [h]
    exact sameTo_true fun _ _ => rfl
/-- What numbers are, summed; taken away. -/
def sumN (F G : Nat → Nat) : Nat → Nat := carN fun i => F i + G i
def difN (F G : Nat → Nat) : Nat → Nat := carN (diffN F G)
theorem sum_ok {F G : Nat → Nat} (hF : okF F 5) (hG : okF G 5) : okF (sumN F G) 5 := car_ok _ fun i hi => by have := hF i hi; have := hG i hi; show F i + G i < _; omega
theorem dif_ok {F G : Nat → Nat} (hF : okF F 5) : okF (difN F G) 5 := car_ok _ fun i hi => diff_lt F G hF i hi
theorem sum_fits {F G : Nat → Nat} {a b : Nat} (hF : Fits F a) (hG : Fits G b) : Fits (sumN F G) (a + b) :=
  ⟨sum_ok hF.1 hG.1, by unfold sumN; rw [sum_val, Nat.add_mod, hF.2, hG.2, ← Nat.add_mod]⟩
theorem prod_fits {F G : Nat → Nat} {a b : Nat} (hF : Fits F a) (hG : Fits G b) : Fits (prodN F G) (a * b) :=
  ⟨prod_ok F G hF.1 hG.1, by rw [prod_val, Nat.mul_mod, hF.2, hG.2, ← Nat.mul_mod]⟩
/-- What is taken away, and added again. -/
theorem dif_fits {F G : Nat → Nat} {a b c : Nat} (hF : Fits F a) (hG : Fits G b) (h : (c + b) % pN = a % pN) : Fits (difN F G) c := by
  refine ⟨dif_ok hF.1, ?_⟩
  have h1 := sub_val F G hG.1
  have e : valN (difN F G) 5 = valN (carN (diffN F G)) 5 := rfl
  rw [e]
  generalize valN (carN (diffN F G)) 5 = x at *
  have h2 : (x + b) % pN = (c + b) % pN := by
    rw [h, ← hF.2, ← h1, Nat.add_mod, ← hG.2, ← Nat.add_mod]
  generalize hp : pN = p at h2 ⊢
  have hp0 : 0 < p := by rw [← hp]; unfold pN; omega
  clear h1 e h hF hG
  have h3 : (x + b + (p - b % p)) % p = (c + b + (p - b % p)) % p := by rw [Nat.add_mod, h2, ← Nat.add_mod]
  have e1 : ∀ y, (y + b + (p - b % p)) % p = y % p := by
    intro y
    have hb := Nat.div_add_mod b p
    have hl := Nat.mod_lt b hp0
    have : y + b + (p - b % p) = y + p * (b / p + 1) := by rw [Nat.mul_add]; omega
    rw [this, Nat.add_mul_mod_self_left]
  rwa [e1, e1] at h3
theorem own_fits {F : Nat → Nat} (hF : okF F 5) : Fits F (valN F 5) := ⟨hF, rfl⟩
theorem sq_fits {F : Nat → Nat} {a : Nat} (hF : Fits F a) : ∀ n, Fits (sqN F n) (a ^ 2 ^ n)
  | 0 => by unfold sqN; simpa using hF
  | n + 1 => by
    rw [sqN_succ, Nat.pow_succ, Nat.mul_two, Nat.pow_add]
    exact prod_fits (sq_fits hF n) (sq_fits hF n)
theorem fits_same {F G : Nat → Nat} {a b : Nat} (hF : Fits F a) (hG : Fits G b) (h : a % pN = b % pN) : sameN F G = true := by
  rw [same_iff F G hF.1 hG.1, hF.2, hG.2, h]
def oneF (x : Nat) (i : Nat) : Nat := if i = 0 then x else 0
theorem one_ok {x : Nat} (h : x < 4503599627370496) : okF (oneF x) 5 := fun i _ => by unfold oneF; split <;> omega
theorem one_val (x : Nat) : valN (oneF x) 5 = x := by rw [valN_five]; unfold oneF; simp
theorem one_fits {x : Nat} (h : x < 4503599627370496) : Fits (oneF x) x := ⟨one_ok h, by rw [one_val]⟩
theorem built_fe1 (x : Nat) : Try.prog.built 34 [(0, .int .u64 (x : Int))] = some (arr .u64 5 fun i => ((oneF x i : Nat) : Int)) := by kernel_rfl
theorem built_fe0 : Try.prog.built 34 [] = some (arr .u64 5 fun i => ((oneF 0 i : Nat) : Int)) := by kernel_rfl
theorem one_lit (x : Nat) : #[Value.int .u64 (x : Int), Value.int .u64 0, Value.int .u64 0, Value.int .u64 0, Value.int .u64 0] = arr .u64 5 fun i => ((oneF x i : Nat) : Int) := rfl
attribute [local irreducible] sumN difN oneF valN

theorem ok_big {F : Nat → Nat} (hF : okF F 5) (i : Nat) (hi : i < 5) : F i < 18446744073709551616 := by have := hF i hi; omega
theorem Add_yes (F G : Nat → Nat) (hF : okF F 5) (hG : okF G 5) (w : World) : Calls Try.prog 33 #[.agg (arr .u64 5 fun i => ((F i : Nat) : Int)), .agg (arr .u64 5 fun i => ((G i : Nat) : Int))] w fun e w' => e = .returned (.tuple #[.agg (arr .u64 5 fun k => ((sumN F G k : Nat) : Int)), .int .i64 0]) ∧ Below w.heap.size w w' :=
  (Add_any F G (ok_big hF) (ok_big hG) w).mono fun e w' h => by
    rw [if_pos ⟨hF, hG⟩] at h
    rw [show (arr .u64 5 fun k => ((sumN F G k : Nat) : Int)) = arr .u64 5 fun k => ((addN F G k : Nat) : Int) from arr_ext fun k _ => by unfold addN sumN; rw [if_pos ⟨hF, hG⟩]]
    exact h
theorem Mul_yes (F G : Nat → Nat) (hF : okF F 5) (hG : okF G 5) (w : World) : Calls Try.prog 35 #[.agg (arr .u64 5 fun i => ((F i : Nat) : Int)), .agg (arr .u64 5 fun i => ((G i : Nat) : Int))] w fun e w' => e = .returned (.tuple #[.agg (arr .u64 5 fun k => ((prodN F G k : Nat) : Int)), .int .i64 0]) ∧ Below w.heap.size w w' :=
  (Mul_any F G (ok_big hF) (ok_big hG) w).mono fun e w' h => by
    rw [if_pos ⟨hF, hG⟩] at h
    unfold mulN at h
    rw [told2_yes ⟨hF, hG⟩] at h
    exact h
theorem Sub_yes (F G : Nat → Nat) (hF : okF F 5) (hG : okF G 5) (w : World) : Calls Try.prog 34 #[.agg (arr .u64 5 fun i => ((F i : Nat) : Int)), .agg (arr .u64 5 fun i => ((G i : Nat) : Int))] w fun e w' => e = .returned (.tuple #[.agg (arr .u64 5 fun k => ((difN F G k : Nat) : Int)), .int .i64 0]) ∧ Below w.heap.size w w' :=
  (Sub_any F G (ok_big hF) (ok_big hG) w).mono fun e w' h => by
    rw [if_pos ⟨hF, hG⟩] at h
    unfold subN at h
    rw [told2_yes ⟨hF, hG⟩] at h
    rw [show (fun k => ((difN F G k : Nat) : Int)) = fun k => ((carN (diffN F G) k : Nat) : Int) from by unfold difN; rfl]
    exact h
theorem Invert_yes (F : Nat → Nat) (hF : okF F 5) (w : World) : Calls Try.prog 24 #[.agg (arr .u64 5 fun i => ((F i : Nat) : Int))] w fun e w' => e = .returned (.tuple #[.agg (arr .u64 5 fun k => ((invN F k : Nat) : Int)), .int .i64 0]) ∧ Below w.heap.size w w' :=
  (Invert_any F (ok_big hF) w).mono fun e w' h => by
    rw [if_pos hF, told1_yes hF] at h
    exact h

theorem arr_nat {k : IntKind} {n : Nat} {f : Nat → Int} {b : Nat} (h : ∀ i, i < n → 0 ≤ f i ∧ f i < b) : arr k n f = arr k n fun i => (((f i).toNat : Nat) : Int) :=
  arr_ext fun i hi => by have := h i hi; omega
theorem nat_lt {n : Nat} {f : Nat → Int} {b : Nat} (h : ∀ i, i < n → 0 ≤ f i ∧ f i < b) (i : Nat) (hi : i < n) : (f i).toNat < b := by have := h i hi; omega
end Go.Proofs.Ythgjhipfgdlbnaa
