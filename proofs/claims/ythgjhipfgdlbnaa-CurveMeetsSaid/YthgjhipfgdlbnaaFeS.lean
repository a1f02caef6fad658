/- The walks of layer 5: whether two numbers stand for the same. -/
import Derived.Test.YthgjhipfgdlbnaaFeP
namespace Go.Proofs.Ythgjhipfgdlbnaa
set_option linter.unusedSimpArgs false
set_option linter.unusedVariables false
open Go.RowKit

section
variable {P : Program} {ops : Array Oper} {Q : Exit → Act → World → Prop} {N : Nat} {T : Act → World → Prop} {p : List (Oper × Bool)} {o : Oper} {a : Act} {w : World}
/-- A slice of given values, in an order of the prover's. -/
theorem wpCan_bslice {t e len : Nat} {parts : Array (Nat × Operand)} {c : Array Value} {l : List (Nat × Value)} (hgd : Region.wanted o (yielded ops a.tmps) = true) (ho : o.op = .buildSlice t len parts) (hu : P.underlying t = some (.slice e)) (hl : (parts.map fun (i, x) => (i, a.eval x)).toList = l) (hb : P.builtSlice e len l = some c) (hN : N ≤ w.heap.size)
    (h : wpCan P ops Q N T p (a.put o.dst (.slice (some ⟨w.heap.size, 0, none⟩) len len)) (w.alloc (.cells c e))) : wpCan P ops Q N T ((o, true) :: p) a w := by
  subst hl
  refine wpCan_e hgd fun K hK => ?_
  unfold Program.builtSlice at hb
  cases hie : P.info? e with
  | none => simp [hie] at hb
  | some ie =>
    simp only [hie] at hb
    cases hz : ie.zero with
    | none => simp [hz] at hb
    | some z =>
      simp only [hz] at hb
      by_cases hc : len * ie.size > 2 ^ 24 ∨ len * ie.size = 0
      · simp [hc] at hb
      · rw [if_neg hc] at hb
        exact wp_buildSlice t e len parts ho c ie z hu hie hz (fun h' => hc (Or.inl h')) (fun h' => hc (Or.inr h')) hb (hK _ _ (Keep.alloc _ _ hN) h)
end
attribute [local irreducible] leastN valN byteN
theorem ITKey : IntsT Try.prog 23 .u8 32 := ⟨_, Try.underlying23, Try.underlying5, by kernel_rfl, by kernel_rfl⟩
/-- What Same tells. -/
def sameN (F G : Nat → Nat) : Bool := decide (okF F 5 ∧ okF G 5) && sameTo (fun k => ((byteN (valN (leastN F) 5) k : Nat) : Int)) (fun k => ((byteN (valN (leastN G) 5) k : Nat) : Int)) 32 0

end Go.Proofs.Ythgjhipfgdlbnaa
