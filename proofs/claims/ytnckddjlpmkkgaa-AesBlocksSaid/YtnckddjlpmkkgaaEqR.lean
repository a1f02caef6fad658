/- A row of rows held against itself; no program is in sight. -/
import Derived.Test.YtnckddjlpmkkgaaIdx
import Derived.Test.YtnckddjlpmkkgaaEq
namespace Go.Proofs.Ytnckddjlpmkkgaa
open Go.RowKit
/-- A type of N rows of n integers of a kind. -/
def RowsT (P : Program) (t : TypeId) (k : IntKind) (N n : Nat) : Prop := ∃ e, P.underlying t = some (.array N e) ∧ IntsT P e k n ∧ RowT P e n ∧ P.eqGuardType P.depth t = false
section
variable {P : Program} {ops : Array Oper} {rest : List Oper} {o : Oper} {a : Act} {w : World} {Q : Exit → Act → World → Prop}
theorem run_part_row {e : TypeId} {k : IntKind} {n N off : Nat} {f : Nat → Int} (hT : RowT P e n) (hle : off + n ≤ N) : (part e (arr k N f) off).run P w = .ok (.agg (arr k n fun j => f (off + j))) w := by
  have hs := hT
  obtain ⟨_, _, _, hs⟩ := hs
  unfold part
  simp [Sem.run_bind, run_isAgg_row hT, run_sizeOf_of hs, arr_extract k N f off n hle]
theorem run_equalIn_rows {d t : TypeId} {k : IntKind} {N n : Nat} {f : Nat → Int} (hT : RowsT P t k N n) :
    (Op.equalIn (d + 3) t (.agg (arr k (N * n) f)) (.agg (arr k (N * n) f))).run P w = .ok true w := by
  obtain ⟨e, ht, ⟨e', he, he', hs', _⟩, hR, _⟩ := hT
  have hs := hR
  obtain ⟨_, _, _, hs⟩ := hs
  have hsz : (sizeOf e).run P w = .ok n w := run_sizeOf_of hs
  obtain ⟨D, hD⟩ : ∃ D, D = d + 2 := ⟨_, rfl⟩
  rw [show d + 3 = D + 1 from by rw [hD]]
  simp only [Op.equalIn, Sem.run_bind, run_underlying ht, Result.andThen_ok, hsz]
  rw [Std.Legacy.Range.forIn_eq_forIn_range']
  simp only [Std.Legacy.Range.size, Nat.sub_zero, Nat.add_sub_cancel, Nat.div_one]
  have key : ∀ m s, s + m ≤ N → ((forIn (List.range' s m) (none, ()) fun i (_ : Option Bool × Unit) => do
      let x ← part e (arr k (N * n) f) (i * n)
      let y ← part e (arr k (N * n) f) (i * n)
      let r ← Op.equalIn D e x y
      if (!r) = true then pure (ForInStep.done (some false, ())) else pure (ForInStep.yield (none, ())) : Sem (Option Bool × Unit))).run P w = .ok (none, ()) w := by
    intro m
    induction m with
    | zero => intro s _; simp
    | succ m ih =>
      intro s hs
      have hle : s * n + n ≤ N * n := by
        have : (s + 1) * n ≤ N * n := Nat.mul_le_mul_right n (by omega)
        rw [Nat.succ_mul] at this; exact this
      rw [List.range'_succ, List.forIn_cons]
      have hq : (Op.equalIn D e (.agg (arr k n fun j => f (s * n + j))) (.agg (arr k n fun j => f (s * n + j)))).run P w = .ok true w := by
        rw [hD, run_equalIn_arr he he' hs', sameTo_true (fun _ _ => rfl)]
      simp only [Sem.run_bind, run_part_row hR hle, Result.andThen_ok, hq]
      have := ih (s + 1) (by omega)
      simpa using this
  rw [key N 0 (by omega)]
  simp
theorem run_op_eqRows {t u : TypeId} {x y : Operand} {k : IntKind} {N n : Nat} {f : Nat → Int} (ho : o.op = .binOp .eql t x y u) (hT : RowsT P t k N n) (hx : a.eval x = .agg (arr k (N * n) f)) (hy : a.eval y = .agg (arr k (N * n) f)) :
    (execOp a.eval o).run P w = .ok (.value (.bool true)) w := by
  have h4 := hT
  obtain ⟨e, h1, h2, h3, h4⟩ := h4
  unfold execOp
  simp only [ho, hx, hy, Sem.run_bind, run_eqGuard_agg w _ t x y _ _ h4, Result.andThen_ok, run_eql_struct, run_equalIn_rows (d := 9997) hT, Sem.run_pure]
end
end Go.Proofs.Ytnckddjlpmkkgaa
