/- WordOthers: for every input the law answers true, and the input reads as it did. No condition. -/
import Derived.Test.YtfbfkfdkigpkgaaOthW
import Derived.Test.YtfbfkfdkigpkgaaLiftT
namespace Go.Proofs.Ytfbfkfdkigpkgaa.lawWordOthers
set_option linter.unusedSimpArgs false
set_option linter.unusedVariables false
open Go.ChangeShapes Go.WideShapes Go.ChangeAt Go.RowKit Go.Joins

theorem own : ownKnob Try.prog.godebug = none := by kernel_rfl
theorem laidOut : laidOutB Try.prog = true := by kernel_rfl

set_option maxRecDepth 100000 in
theorem lifted (os : Os) (started : os.Started) (H : Type) (enc : TypeId × Value → H) :
    ReturnsInHanded {} Try.checked os 3 .any (Rows.wordOthersSpec.pre6 enc Try.prog Try.f3 Rows.wordOthersRow.domain false) (Rows.wordOthersSpec.post enc Try.prog Try.f3 false true false false) := by
  refine returnsInHanded_of_change (C := Try.checked) own started (by kernel_rfl) Try.func3
    (ChangeSpec.witness6 (enc := enc) (C := Try.checked) false ⟨#[], #[.agg #[.int .i64 0, .slice none 0 0, .slice none 0 0, .slice none 0 0], .agg #[.int .u64 0, .int .i64 0, .int .u64 0, .slice none 0 0]], []⟩ 8 (by kernel_rfl) (by kernel_rfl) (by kernel_rfl) (by kernel_rfl)) ?_
  intro W base args ds gs before hval0 hW hcnd _
  have hval : ∀ (j : Nat) t v, Try.f3.params[j]? = some t → args[j]? = some v → Value.okWide Try.prog W .any base t v := hval0
  have hW' := hW
  obtain ⟨p, q, hA0, hV, rfl, hfz, hnd⟩ := hW
  have hA : DataW.TrodAll enc Try.prog W 0 (fun _ => true) true Try.f3.params.toList args.toList ds p := hA0
  rw [Try.params3] at hA hval
  obtain ⟨v0, vs0, d0, ds0, p0, q0, hargs, rfl, rfl, h0, r0⟩ := trodAll_cons hA
  obtain ⟨v1, vs1, d1, ds1, p1, q1, rfl, rfl, rfl, h1, r1⟩ := trodAll_cons r0
  obtain ⟨rfl, rfl, rfl⟩ := trodAll_nil r1
  obtain rfl : args = #[v0, v1] := by cases args; simp_all
  obtain ⟨rfl, rfl⟩ := trodVars_none hV
  have k0 := h0
  have lt0 : ∀ x ∈ p0, x.block < W.heap.size := by obtain ⟨m, hm⟩ := k0; exact DataW.trod_lt m _ _ _ hm
  obtain ⟨u0_0, u0_1, u0_2, u0_3, y0_0, y0_1, y0_2, y0_3, fu0, rfl, rfl, rfl, e0_0, e0_1, e0_2, e0_3⟩ := open_agg4 Try.underlying24 (by kernel_rfl) (by kernel_rfl) (hval 0 24 v0 rfl rfl) h0
  obtain ⟨x0_0, rfl, w0_0⟩ := open_num Try.underlying3 e0_0
  obtain ⟨a0_1, n0_1, c0_1, m0_1, rfl, bn0_1, tx0_1, lx0_1⟩ := open_txt BT (by kernel_rfl) e0_1
  obtain ⟨a0_2, n0_2, c0_2, m0_2, rfl, bn0_2, tx0_2, lx0_2⟩ := open_txt BT (by kernel_rfl) e0_2
  obtain ⟨a0_3, n0_3, c0_3, m0_3, rfl, bn0_3, tx0_3, lx0_3⟩ := open_txt BT (by kernel_rfl) e0_3
  have k1 := h1
  have lt1 : ∀ x ∈ p1, x.block < W.heap.size := by obtain ⟨m, hm⟩ := k1; exact DataW.trod_lt m _ _ _ hm
  obtain ⟨u1_0, u1_1, u1_2, u1_3, y1_0, y1_1, y1_2, y1_3, fu1, rfl, rfl, rfl, e1_0, e1_1, e1_2, e1_3⟩ := open_agg4 Try.underlying27 (by kernel_rfl) (by kernel_rfl) (hval 1 27 v1 rfl rfl) h1
  obtain ⟨x1_0, rfl, w1_0⟩ := open_num Try.underlying25 e1_0
  obtain ⟨x1_1, rfl, w1_1⟩ := open_num Try.underlying3 e1_1
  obtain ⟨x1_2, rfl, w1_2⟩ := open_num Try.underlying25 e1_2
  obtain ⟨a1_3, n1_3, c1_3, m1_3, rfl, bn1_3, tx1_3, lx1_3⟩ := open_txt BT (by kernel_rfl) e1_3
  clear hA0 hval0
  refine (WordOthers_w W x0_0 (wfb_i64 w0_0) a0_1 n0_1 c0_1 m0_1 bn0_1 tx0_1 lx0_1 a0_2 n0_2 c0_2 m0_2 bn0_2 tx0_2 lx0_2 a0_3 n0_3 c0_3 m0_3 bn0_3 tx0_3 lx0_3 x1_0 (wfb_u64 w1_0) x1_1 (wfb_i64 w1_1) x1_2 (wfb_u64 w1_2) a1_3 n1_3 c1_3 m1_3 bn1_3 tx1_3 lx1_3).mono fun e W' ⟨he, bel⟩ => ?_
  subst he
  exact ⟨_, rfl, _, _, _, [], _, [], hW', trodAll_mk1 (shut_bool Try.underlying4 _), (trodAll_cons_mk (Below.trod laidOut (by kernel_rfl) (of_decide_eq_true (by kernel_rfl)) k0 bel lt0) (trodAll_cons_mk (Below.trod laidOut (by kernel_rfl) (of_decide_eq_true (by kernel_rfl)) k1 bel lt1) trodAll_mk0)), rfl, bel.frame _, fun h => by cases h⟩

theorem proved : Rows.WordOthersSaid :=
  OpenClaim.holds_of_wide 3 Try.f3 rfl rfl rfl rfl rfl rfl rfl ⟨rfl, rfl, rfl, rfl, rfl⟩ rfl rfl rfl rfl rfl (by kernel_rfl) Try.func3 (by kernel_rfl)
    (of_decide_eq_true (by kernel_rfl)) (by unfold Func.isWrapper; first | (rw [if_pos (by decide +kernel)]; kernel_rfl) | (rw [if_neg (by decide +kernel)]; exact ⟨rfl, rfl⟩))
    (fun os started H enc _ => lifted os started H enc)
#print axioms proved
end Go.Proofs.Ytfbfkfdkigpkgaa.lawWordOthers
