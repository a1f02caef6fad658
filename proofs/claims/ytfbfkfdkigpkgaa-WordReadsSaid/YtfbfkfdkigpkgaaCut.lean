/- Parts of slices. No program is in sight. -/
import Derived.Test.YtfbfkfdkigpkgaaRow
import Derived.Test.YtfbfkfdkigpkgaaElt
import Derived.DataElems
namespace Go.Proofs.Ytfbfkfdkigpkgaa
set_option linter.unusedSimpArgs false
set_option linter.unusedVariables false
open Go.RowKit
/-- Where a part begins. -/
def cutA (A : Option Addr) (lo c : Nat) : Option Addr := if c = lo then A else A.map (·.add lo)
theorem cutA_zero (A : Option Addr) (c : Nat) : cutA A 0 c = A := by
  unfold cutA
  split
  · rfl
  · cases A with
    | none => rfl
    | some a => simp [addr_add_zero]
theorem Txt.cut {w : World} {B n c : Nat} {A : Option Addr} {l : List Nat} (h : Txt w B A n c l) (hnc : n ≤ c) {lo hi : Nat} (h1 : lo ≤ hi) (h2 : hi ≤ n) : Txt w B (cutA A lo c) (hi - lo) (c - lo) ((l.take hi).drop lo) := by
  refine ⟨by rw [List.length_drop, List.length_take, h.len]; omega, fun he => ?_, fun hn => ?_⟩
  · cases A with
    | none =>
      obtain ⟨rfl, rfl⟩ := h.nil rfl
      omega
    | some a =>
      unfold cutA at he
      split at he <;> cases he
  · obtain ⟨ad, rfl, hb, hc⟩ := h.at_ (by omega)
    refine ⟨ad.add lo, ?_, by rw [add_block]; exact hb, fun i x hx => ?_⟩
    · unfold cutA
      rw [if_neg (by omega)]
      rfl
    · rw [Addr.add_add]
      refine hc (lo + i) x ?_
      rw [List.getElem?_drop, List.getElem?_take] at hx
      split at hx
      · exact hx
      · cases hx
theorem Txt.take {w : World} {B n c : Nat} {A : Option Addr} {l : List Nat} (h : Txt w B A n c l) (hnc : n ≤ c) {hi : Nat} (h2 : hi ≤ n) : Txt w B A hi c (l.take hi) := by
  have := h.cut hnc (Nat.zero_le hi) h2
  rwa [cutA_zero, Nat.sub_zero, Nat.sub_zero, List.drop_zero] at this
theorem Txt.from {w : World} {B n c : Nat} {A : Option Addr} {l : List Nat} (h : Txt w B A n c l) (hnc : n ≤ c) {lo : Nat} (h2 : lo ≤ n) : Txt w B (cutA A lo c) (n - lo) (c - lo) (l.drop lo) := by
  have := h.cut hnc h2 (Nat.le_refl n)
  rwa [List.take_of_length_le (by rw [h.len]; exact Nat.le_refl _)] at this
theorem Own.cap {w : World} {base n c : Nat} {e : TypeId} {A : Option Addr} {l : List Nat} (h : Own w base e (.slice A n c) l) : n ≤ c := by
  rcases h.2 with ⟨he, h0⟩ | ⟨g, cap, cur, he, _, _, h4, _⟩
  · injection he with _ e1 e2; omega
  · injection he with _ e1 e2; omega
theorem Own.setRow {w : World} {base g : Nat} {e : TypeId} {v : Value} {l : List Nat} (h : Own w base e v l) (hne : ∀ k, v.ownBlock = some k → k ≠ g) (cs : Array Value) : Own (w.setRow g cs) base e v l := by
  refine ⟨h.1, ?_⟩
  rcases h.2 with h2 | ⟨b, cap, cur, rfl, h3, hh, h4⟩
  · exact .inl h2
  · exact .inr ⟨b, cap, cur, rfl, h3, by rw [setRow_other _ _ _ _ (hne b rfl)]; exact hh, h4⟩
section
variable {P : Program} {w : World} {o : Oper} {a : Act}
theorem run_size1 {t e : TypeId} (hT : ByteT P t e) : (sizeOf e).run P w = .ok 1 w := by
  have hinfo := hT.info
  cases hi : P.info? e with
  | none => rw [hi] at hinfo; cases hinfo
  | some i =>
    rw [hi] at hinfo
    simp only [Option.map_some, Option.some.injEq, Prod.mk.injEq] at hinfo
    simp [sizeOf, typeInfo, hi, hinfo.2.1]
theorem run_op_cut_lh {t e : TypeId} (hT : ByteT P t e) {x y z : Operand} {A : Option Addr} {n c lo hi : Nat} (ho : o.op = .slice t x (some y) (some z) none) (hx : a.eval x = .slice A n c) (hy : a.eval y = .int .i64 lo) (hz : a.eval z = .int .i64 hi) (h1 : lo ≤ hi) (h2 : hi ≤ c) :
    (execOp a.eval o).run P w = .ok (.value (.slice (cutA A lo c) (hi - lo) (c - lo))) w := by
  have hb : (Instr.sliceBounds true n c (some (.int .i64 lo)) (some (.int .i64 hi)) none).run P w = .ok (lo, hi, c) w := by
    simp [Instr.sliceBounds, Instr.sliceBound, asIntOf, h1, h2, show (lo : Int) ≤ hi from by omega, show (hi : Int) ≤ c from by omega]
  unfold execOp
  simp only [ho, hx, hy, hz, Option.map_some, Option.map_none]
  unfold Instr.sliceAt
  simp only [Sem.run_bind, run_underlying hT.sl, Result.andThen_ok, Instr.slice, hb, run_size1 hT, Sem.run_pure, Nat.mul_one]
  rfl
theorem run_op_cut_l {t e : TypeId} {k : IntKind} (hT : ByteT P t e) {x y : Operand} {A : Option Addr} {n c lo : Nat} (ho : o.op = .slice t x (some y) none none) (hx : a.eval x = .slice A n c) (hy : a.eval y = .int k lo) (h1 : lo ≤ n) :
    (execOp a.eval o).run P w = .ok (.value (.slice (cutA A lo c) (n - lo) (c - lo))) w := by
  have hb : (Instr.sliceBounds true n c (some (.int k lo)) none none).run P w = .ok (lo, n, c) w := by
    simp [Instr.sliceBounds, Instr.sliceBound, asIntOf, h1, show (lo : Int) ≤ n from by omega]
  unfold execOp
  simp only [ho, hx, hy, Option.map_some, Option.map_none]
  unfold Instr.sliceAt
  simp only [Sem.run_bind, run_underlying hT.sl, Result.andThen_ok, Instr.slice, hb, run_size1 hT, Sem.run_pure, Nat.mul_one]
  rfl
theorem run_op_cut_h {t e : TypeId} {k : IntKind} (hT : ByteT P t e) {x z : Operand} {A : Option Addr} {n c hi : Nat} (ho : o.op = .slice t x none (some z) none) (hx : a.eval x = .slice A n c) (hz : a.eval z = .int k hi) (h2 : hi ≤ c) :
    (execOp a.eval o).run P w = .ok (.value (.slice A hi c)) w := by
  have hb : (Instr.sliceBounds true n c none (some (.int k hi)) none).run P w = .ok (0, hi, c) w := by
    simp [Instr.sliceBounds, Instr.sliceBound, asIntOf, h2, show (hi : Int) ≤ c from by omega]
  unfold execOp
  simp only [ho, hx, hz, Option.map_some, Option.map_none]
  unfold Instr.sliceAt
  simp only [Sem.run_bind, run_underlying hT.sl, Result.andThen_ok, Instr.slice, hb, run_size1 hT, Sem.run_pure, Nat.mul_one]
  have := cutA_zero A c
  unfold cutA at this
  rw [this]
  simp
end
end Go.Proofs.Ytfbfkfdkigpkgaa
