/- Two blocks that are not the same are not encrypted to the same; no program is in sight. -/
import Derived.Test.YtnckddjlpmkkgaaAesP
namespace Go.Proofs.Ytnckddjlpmkkgaa
set_option linter.unusedSimpArgs false
set_option linter.unusedVariables false
open Go.RowKit

def b8 (x : Int) : BitVec 8 := BitVec.ofInt 8 x
theorem b8_inj {x y : Int} (hx : 0 ≤ x ∧ x < 256) (hy : 0 ≤ y ∧ y < 256) (h : b8 x = b8 y) : x = y := by
  obtain ⟨m, rfl⟩ := Int.eq_ofNat_of_zero_le hx.1
  obtain ⟨n, rfl⟩ := Int.eq_ofNat_of_zero_le hy.1
  have h1 := congrArg BitVec.toNat h
  simp only [b8, BitVec.ofInt_natCast, BitVec.toNat_ofNat] at h1
  omega
theorem b8_bx (a b : Int) : b8 (bits .xor .u8 a b) = b8 a ^^^ b8 b := ofInt_bx a b
/-- A byte, times two. -/
def T8 (v : BitVec 8) : BitVec 8 := (v <<< 1) ^^^ (if v.msb then 27#8 else 0#8)
theorem T8_xor (u v : BitVec 8) : T8 (u ^^^ v) = T8 u ^^^ T8 v := by
  unfold T8
  rw [BitVec.shiftLeft_xor_distrib, BitVec.msb_xor]
  have h : (if (u.msb ^^ v.msb) then 27#8 else 0#8) = (if u.msb then 27#8 else 0#8) ^^^ (if v.msb then 27#8 else 0#8) := by
    cases u.msb <;> cases v.msb <;> decide
  rw [h]
  generalize (if u.msb then 27#8 else 0#8) = p
  generalize (if v.msb then 27#8 else 0#8) = q
  rw [BitVec.xor_assoc, BitVec.xor_assoc, ← BitVec.xor_assoc (v <<< 1) p q, BitVec.xor_comm (v <<< 1) p, BitVec.xor_assoc]
theorem T8_ok : (List.range 256).all (fun x => decide (b8 (twiceI x) = T8 (b8 x))) = true := by kernel_rfl
theorem b8_twice {x : Int} (hx : 0 ≤ x ∧ x < 256) : b8 (twiceI x) = T8 (b8 x) := by
  obtain ⟨m, rfl⟩ := Int.eq_ofNat_of_zero_le hx.1
  exact of_decide_eq_true (List.all_eq_true.1 T8_ok m (List.mem_range.2 (by omega)))

/-- A column, mixed: on bits. -/
def C8 (y : Nat → BitVec 8) (i : Nat) : BitVec 8 := (y i ^^^ (((y 0 ^^^ y 1) ^^^ y 2) ^^^ y 3)) ^^^ T8 (y i ^^^ y ((i + 1) % 4))
theorem b8_col (x : Nat → Int) (i : Nat) : b8 (colI x i) = C8 (fun i => b8 (x i)) i := by
  unfold colI C8
  rw [b8_bx, b8_bx, b8_bx, b8_bx, b8_bx, b8_twice (bits_u8 _ _ _), b8_bx]
theorem C8_twice (y : Nat → BitVec 8) (i : Nat) (hi : i < 4) : C8 (C8 y) i = y i ^^^ T8 (T8 (y i ^^^ y ((i + 2) % 4))) := by
  have h : i = 0 ∨ i = 1 ∨ i = 2 ∨ i = 3 := by omega
  unfold C8
  simp only [T8_xor]
  rcases h with rfl | rfl | rfl | rfl
  all_goals
    simp only [Nat.reduceAdd, Nat.reduceMod]
    generalize T8 (T8 (y 0)) = P
    generalize T8 (T8 (y 1)) = Q
    generalize T8 (T8 (y 2)) = R
    generalize T8 (T8 (y 3)) = S
    generalize T8 (y 0) = A
    generalize T8 (y 1) = B
    generalize T8 (y 2) = C
    generalize T8 (y 3) = D
    generalize y 0 = a
    generalize y 1 = b
    generalize y 2 = c
    generalize y 3 = d
    ext j hj
    simp only [BitVec.getElem_xor]
    generalize a[j] = a
    generalize b[j] = b
    generalize c[j] = c
    generalize d[j] = d
    generalize A[j] = A
    generalize B[j] = B
    generalize C[j] = C
    generalize D[j] = D
    generalize P[j] = P
    generalize Q[j] = Q
    generalize R[j] = R
    generalize S[j] = S
    revert a b c d A B C D P Q R S
    decide +kernel
theorem C8_four (y : Nat → BitVec 8) (i : Nat) (hi : i < 4) : C8 (C8 (C8 (C8 y))) i = y i := by
  rw [C8_twice _ i hi, C8_twice _ i hi, C8_twice _ _ (by omega), show ((i + 2) % 4 + 2) % 4 = i from by omega]
  generalize y ((i + 2) % 4) = q
  generalize y i = p
  simp only [T8_xor]
  generalize T8 (T8 p) = P
  generalize T8 (T8 q) = R
  generalize T8 (T8 P) = PP
  generalize T8 (T8 R) = RR
  ext j hj
  simp only [BitVec.getElem_xor]
  generalize p[j] = p
  generalize P[j] = P
  generalize R[j] = R
  generalize PP[j] = PP
  generalize RR[j] = RR
  revert p P R PP RR
  decide +kernel
theorem C8_congr {y z : Nat → BitVec 8} (h : ∀ i, i < 4 → y i = z i) (i : Nat) (hi : i < 4) : C8 y i = C8 z i := by
  unfold C8
  rw [h i hi, h 0 (by omega), h 1 (by omega), h 2 (by omega), h 3 (by omega), h ((i + 1) % 4) (by omega)]
theorem C8_inj {y z : Nat → BitVec 8} (h : ∀ i, i < 4 → C8 y i = C8 z i) (i : Nat) (hi : i < 4) : y i = z i := by
  rw [← C8_four y i hi, ← C8_four z i hi]
  exact C8_congr (C8_congr (C8_congr h)) i hi
theorem colI_inj {x x' : Nat → Int} (hx : ∀ i, i < 4 → 0 ≤ x i ∧ x i < 256) (hx' : ∀ i, i < 4 → 0 ≤ x' i ∧ x' i < 256) (h : ∀ i, i < 4 → colI x i = colI x' i) (i : Nat) (hi : i < 4) : x i = x' i := by
  refine b8_inj (hx i hi) (hx' i hi) (C8_inj (y := fun i => b8 (x i)) (z := fun i => b8 (x' i)) (fun j hj => ?_) i hi)
  rw [← b8_col, ← b8_col, h j hj]
theorem sbox_back : (List.range 256).all (fun x => decide (sboxL.idxOf (sboxI x) = x)) = true := by kernel_rfl
theorem sbox_inj {x y : Nat} (hx : x < 256) (hy : y < 256) (h : sboxI x = sboxI y) : x = y := by
  have h1 := of_decide_eq_true (List.all_eq_true.1 sbox_back x (List.mem_range.2 hx))
  have h2 := of_decide_eq_true (List.all_eq_true.1 sbox_back y (List.mem_range.2 hy))
  rw [← h1, ← h2, h]
theorem roundI_inj {s s' : Nat → Int} (hs : ∀ i, i < 16 → 0 ≤ s i ∧ s i < 256) (hs' : ∀ i, i < 16 → 0 ≤ s' i ∧ s' i < 256) (last : Bool) (h : ∀ q, q < 16 → roundI s last q = roundI s' last q) (p : Nat) (hp : p < 16) : s p = s' p := by
  have rows : ∀ i, i < 4 → ∀ r, r < 4 → rowI s i r = rowI s' i r := by
    intro i hi
    cases last with
    | true => exact fun r hr => by rw [roundI_last s i r hr, roundI_last s' i r hr]; exact h _ (by omega)
    | false =>
      exact colI_inj (fun r hr => rowI_byte s hs i r hr) (fun r hr => rowI_byte s' hs' i r hr) (fun r hr => by rw [roundI_at s i r hr, roundI_at s' i r hr]; exact h _ (by omega))
  have h1 := rows ((p / 4 + 4 - p % 4) % 4) (by omega) (p % 4) (by omega)
  unfold rowI at h1
  rw [show 4 * (((p / 4 + 4 - p % 4) % 4 + p % 4) % 4) + p % 4 = p from by omega] at h1
  have b := hs p hp
  have b' := hs' p hp
  have h2 := sbox_inj (by omega) (by omega) h1
  omega
theorem xorI_inj {f f' g : Nat → Int} {i : Nat} (hf : 0 ≤ f i ∧ f i < 256) (hf' : 0 ≤ f' i ∧ f' i < 256) (h : xorI f g i = xorI f' g i) : f i = f' i := by
  refine b8_inj hf hf' ?_
  have h1 : b8 (xorI f g i) = b8 (xorI f' g i) := by rw [h]
  unfold xorI at h1
  rw [b8_bx, b8_bx] at h1
  have h2 := congrArg (· ^^^ b8 (g i)) h1
  simpa [BitVec.xor_assoc] using h2
theorem encJ_inj (k : Nat → Int) {s s' : Nat → Int} (hs : ∀ i, i < 16 → 0 ≤ s i ∧ s i < 256) (hs' : ∀ i, i < 16 → 0 ≤ s' i ∧ s' i < 256) : ∀ j, (∀ i, i < 16 → encJ k s j i = encJ k s' j i) → ∀ i, i < 16 → s i = s' i
  | 0, h, i, hi => xorI_inj (g := keyK k 0) (hs i hi) (hs' i hi) (h i hi)
  | j + 1, h, i, hi => by
    refine encJ_inj k hs hs' j (fun q hq => ?_) i hi
    refine roundI_inj (fun i _ => encJ_byte k s j i) (fun i _ => encJ_byte k s' j i) (decide (j + 1 = 10)) (fun r hr => ?_) q hq
    exact xorI_inj (g := keyK k (j + 1)) (roundI_byte _ (fun i _ => encJ_byte k s j i) _ _) (roundI_byte _ (fun i _ => encJ_byte k s' j i) _ _) (h r hr)
theorem roundI_congr {s s' : Nat → Int} (h : ∀ i, i < 16 → s i = s' i) (last : Bool) (q : Nat) (_hq : q < 16) : roundI s last q = roundI s' last q := by
  have hr : ∀ i r, r < 4 → rowI s i r = rowI s' i r := fun i r hr => by unfold rowI; rw [h _ (by omega)]
  unfold roundI
  split
  · exact hr _ _ (by omega)
  · unfold colI
    rw [hr _ (q % 4) (by omega), hr _ 0 (by omega), hr _ 1 (by omega), hr _ 2 (by omega), hr _ 3 (by omega), hr _ ((q % 4 + 1) % 4) (by omega)]
theorem encI_congr (k : Nat → Int) {s s' : Nat → Int} (h : ∀ i, i < 16 → s i = s' i) : ∀ i, i < 16 → encI k s i = encI k s' i := by
  have key : ∀ j i, i < 16 → encJ k s j i = encJ k s' j i := by
    intro j
    induction j with
    | zero => intro i hi; unfold encJ xorI; rw [h i hi]
    | succ j ih =>
      intro i hi
      unfold encJ xorI
      rw [roundI_congr ih _ i hi]
  exact key 10
/-- Two blocks that are not the same are not encrypted to the same. -/
theorem apart_blocks (k : Nat → Int) {s s' : Nat → Int} (hs : ∀ i, i < 16 → 0 ≤ s i ∧ s i < 256) (hs' : ∀ i, i < 16 → 0 ≤ s' i ∧ s' i < 256) : (∀ i, i < 16 → encI k s i = encI k s' i) → ∀ i, i < 16 → s i = s' i := encJ_inj k hs hs' 10
end Go.Proofs.Ytnckddjlpmkkgaa
