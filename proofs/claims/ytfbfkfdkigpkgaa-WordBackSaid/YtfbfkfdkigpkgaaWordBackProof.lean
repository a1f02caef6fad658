/- WordBack: for every input the law answers true, and the input reads as it did. No condition. -/
import Derived.Test.YtfbfkfdkigpkgaaLawWback
import Derived.Test.YtfbfkfdkigpkgaaLiftC
namespace Go.Proofs.Ytfbfkfdkigpkgaa.lawWordBack
set_option linter.unusedSimpArgs false
set_option linter.unusedVariables false
open Go.ChangeShapes Go.WideShapes Go.ChangeAt Go.RowKit Go.Joins

theorem own : ownKnob Try.prog.godebug = none := by kernel_rfl
theorem laidOut : laidOutB Try.prog = true := by kernel_rfl

set_option maxRecDepth 100000 in
theorem lifted (os : Os) (started : os.Started) (H : Type) (enc : TypeId × Value → H) :
    ReturnsInHanded {} Try.checked os 7 .any (Rows.wordBackSpec.pre6 enc Try.prog Try.f7 Rows.wordBackRow.domain false) (Rows.wordBackSpec.post enc Try.prog Try.f7 false true false false) := by
  refine returnsInHanded_of_change (C := Try.checked) own started (by kernel_rfl) Try.func7
    (ChangeSpec.witness6 (enc := enc) (C := Try.checked) false ⟨#[], #[.agg (arrV 70 (comV ⟨0, 0, none, 0, 0, fun _ => 0, fun _ => 0, fun _ _ => 0, fun _ => 0, none, 0, 0, fun _ => 0, fun _ => 0, fun _ => none, fun _ => 0, fun _ => 0, fun _ _ => 0, none, 0, 0, fun _ _ => 0, none, 0, 0, fun _ => none, fun _ => 0, fun _ => 0, fun _ => []⟩ fun _ => 0)), .agg #[.int .i64 0, .slice none 0 0, .slice none 0 0, .slice none 0 0], .agg #[.int .u64 0, .int .i64 0, .int .u64 0, .slice none 0 0]], []⟩ 8 (by kernel_rfl) (by kernel_rfl) (by kernel_rfl) (by kernel_rfl)) ?_
  intro W base args ds gs before hval0 hW hcnd _
  have hval : ∀ (j : Nat) t v, Try.f7.params[j]? = some t → args[j]? = some v → Value.okWide Try.prog W .any base t v := hval0
  have hW' := hW
  obtain ⟨p, q, hA0, hV, rfl, hfz, hnd⟩ := hW
  have hA : DataW.TrodAll enc Try.prog W 0 (fun _ => true) true Try.f7.params.toList args.toList ds p := hA0
  rw [Try.params7] at hA hval
  obtain ⟨v0, vs0, d0, ds0, p0, q0, hargs, rfl, rfl, h0, r0⟩ := trodAll_cons hA
  obtain ⟨v1, vs1, d1, ds1, p1, q1, rfl, rfl, rfl, h1, r1⟩ := trodAll_cons r0
  obtain ⟨v2, vs2, d2, ds2, p2, q2, rfl, rfl, rfl, h2, r2⟩ := trodAll_cons r1
  obtain ⟨rfl, rfl, rfl⟩ := trodAll_nil r2
  obtain rfl : args = #[v0, v1, v2] := by cases args; simp_all
  obtain ⟨rfl, rfl⟩ := trodVars_none hV
  have k0 := h0
  have lt0 : ∀ x ∈ p0, x.block < W.heap.size := by obtain ⟨m, hm⟩ := k0; exact DataW.trod_lt m _ _ _ hm
  obtain ⟨cm0, tg0, rfl, oc0, cb0, bs0, bb0, bt0⟩ := open_comV CT (hval 0 42 v0 rfl rfl) h0
  have k1 := h1
  have lt1 : ∀ x ∈ p1, x.block < W.heap.size := by obtain ⟨m, hm⟩ := k1; exact DataW.trod_lt m _ _ _ hm
  obtain ⟨u1_0, u1_1, u1_2, u1_3, y1_0, y1_1, y1_2, y1_3, fu1, rfl, rfl, rfl, e1_0, e1_1, e1_2, e1_3⟩ := open_agg4 Try.underlying24 (by kernel_rfl) (by kernel_rfl) (hval 1 24 v1 rfl rfl) h1
  obtain ⟨x1_0, rfl, w1_0⟩ := open_num Try.underlying3 e1_0
  obtain ⟨a1_1, n1_1, c1_1, m1_1, rfl, bn1_1, tx1_1, lx1_1⟩ := open_txt BT (by kernel_rfl) e1_1
  obtain ⟨a1_2, n1_2, c1_2, m1_2, rfl, bn1_2, tx1_2, lx1_2⟩ := open_txt BT (by kernel_rfl) e1_2
  obtain ⟨a1_3, n1_3, c1_3, m1_3, rfl, bn1_3, tx1_3, lx1_3⟩ := open_txt BT (by kernel_rfl) e1_3
  have k2 := h2
  have lt2 : ∀ x ∈ p2, x.block < W.heap.size := by obtain ⟨m, hm⟩ := k2; exact DataW.trod_lt m _ _ _ hm
  obtain ⟨u2_0, u2_1, u2_2, u2_3, y2_0, y2_1, y2_2, y2_3, fu2, rfl, rfl, rfl, e2_0, e2_1, e2_2, e2_3⟩ := open_agg4 Try.underlying27 (by kernel_rfl) (by kernel_rfl) (hval 2 27 v2 rfl rfl) h2
  obtain ⟨x2_0, rfl, w2_0⟩ := open_num Try.underlying25 e2_0
  obtain ⟨x2_1, rfl, w2_1⟩ := open_num Try.underlying3 e2_1
  obtain ⟨x2_2, rfl, w2_2⟩ := open_num Try.underlying25 e2_2
  obtain ⟨a2_3, n2_3, c2_3, m2_3, rfl, bn2_3, tx2_3, lx2_3⟩ := open_txt BT (by kernel_rfl) e2_3
  clear hA0 hval0
  refine (WordBack_law W cm0 tg0 oc0 cb0 bs0 bb0 bt0 x1_0 (wfb_i64 w1_0) a1_1 n1_1 c1_1 m1_1 bn1_1 tx1_1 lx1_1 a1_2 n1_2 c1_2 m1_2 bn1_2 tx1_2 lx1_2 a1_3 n1_3 c1_3 m1_3 bn1_3 tx1_3 lx1_3 x2_0 (wfb_u64 w2_0) x2_1 (wfb_i64 w2_1) x2_2 (wfb_u64 w2_2) a2_3 n2_3 c2_3 m2_3 bn2_3 tx2_3 lx2_3).mono fun e W' ⟨he, bel⟩ => ?_
  subst he
  exact ⟨_, rfl, _, _, _, [], _, [], hW', trodAll_mk1 (shut_bool Try.underlying4 _), (trodAll_cons_mk (Below.trod laidOut (by kernel_rfl) (of_decide_eq_true (by kernel_rfl)) k0 bel lt0) (trodAll_cons_mk (Below.trod laidOut (by kernel_rfl) (of_decide_eq_true (by kernel_rfl)) k1 bel lt1) (trodAll_cons_mk (Below.trod laidOut (by kernel_rfl) (of_decide_eq_true (by kernel_rfl)) k2 bel lt2) trodAll_mk0))), rfl, bel.frame _, fun h => by cases h⟩

theorem proved : Rows.WordBackSaid :=
  OpenClaim.holds_of_wide 7 Try.f7 rfl rfl rfl rfl rfl rfl rfl ⟨rfl, rfl, rfl, rfl, rfl⟩ rfl rfl rfl rfl rfl (by kernel_rfl) Try.func7 (by kernel_rfl)
    (of_decide_eq_true (by kernel_rfl)) (by unfold Func.isWrapper; first | (rw [if_pos (by decide +kernel)]; kernel_rfl) | (rw [if_neg (by decide +kernel)]; exact ⟨rfl, rfl⟩))
    (fun os started H enc _ => lifted os started H enc)
#print axioms proved
end Go.Proofs.Ytfbfkfdkigpkgaa.lawWordBack
