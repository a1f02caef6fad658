/- StateSecrets: for every input the law answers true, and the input reads as it did. The package variables that it reads start as the program lays them (the card ties them). -/
import Derived.Test.YtcmmpiaogfnmoaaGreatDoorStateSecretsI
import Derived.Test.YtcmmpiaogfnmoaaGreatDoorTie
import Derived.Test.YtcmmpiaogfnmoaaGreatDoorCards
import Derived.SevenTiedAt
import Derived.Stop.Joined
namespace Go.Proofs.YtcmmpiaogfnmoaaGreatDoor.lawStateSecrets
set_option linter.unusedSimpArgs false
set_option linter.unusedVariables false
open Go.ChangeShapes Go.WideShapes Go.ChangeAt Go.RowKit

theorem own : ownKnob Tryz.prog.godebug = none := by kernel_rfl
theorem laidOut : laidOutB Tryz.prog = true := by kernel_rfl

theorem laidW_met (os : Os) (args : Array Value) : laidMet Tryz.prog [("coterie/coterieref02.k", Rows.laid_coterie_coterieref02_k), ("bytes.ErrTooLarge", Rows.laid_bytes_ErrTooLarge), ("coterie/sha.adds", Rows.laid_coterie_sha_adds)] ((zFk os).forCall (fun _ _ => 0) ⟨#[], args, []⟩).memory :=
  laidMet_of_run3 80 (by kernel_rfl) (by kernel_rfl) (by kernel_rfl)
set_option maxRecDepth 100000 in
theorem lifted (os : Os) (started : os.Started) (H : Type) (enc : TypeId × Value → H) :
    ReturnsInHanded {} Tryz.checked os 5 .any (fun w args => (Rows.stateSecretsSpec.pre enc Tryz.prog Tryz.f5 [] false w args ∧ laidMetH Tryz.prog Rows.stateSecretsRow.laid w) ∧ sizedMet enc Tryz.prog Tryz.f5 (OpenSpec.ofChange Rows.stateSecretsSpec) false w args) (Rows.stateSecretsSpec.post enc Tryz.prog Tryz.f5 false true false false) := by
  refine returnsInHanded_of_change_and (C := Tryz.checked) (X := fun w _ => laidMetH Tryz.prog Rows.stateSecretsRow.laid w) (fun _ _ _ hh h => h.of_heap hh) own started (by kernel_rfl) Tryz.func5
    (ChangeSpec.witness_at (enc := enc) (C := Tryz.checked) (os := os) (X := fun w _ => laidMetH Tryz.prog Rows.stateSecretsRow.laid w) false (zFk os) #[.agg (Array.replicate 32 (.int .u8 0))] 8 rfl (by kernel_rfl) (by kernel_rfl) (by kernel_rfl) (by kernel_rfl) (by kernel_rfl) (laidW_met os _)) ?_
  intro W base args ds gs before hval0 hW hcnd hsz hLd _
  have hval : ∀ (j : Nat) t v, Tryz.f5.params[j]? = some t → args[j]? = some v → Value.okWide Tryz.prog W .any base t v := hval0
  have hW' := hW
  obtain ⟨p, q, hA0, hV, rfl, hfz, hnd⟩ := hW
  have hA : DataW.TrodAll enc Tryz.prog W 0 (fun _ => true) true Tryz.f5.params.toList args.toList ds p := hA0
  rw [Tryz.params5 ] at hA hval
  obtain ⟨v0, vs0, d0, ds0, p0, q0, hargs, rfl, rfl, h0, r0⟩ := trodAll_cons hA
  obtain ⟨rfl, rfl, rfl⟩ := trodAll_nil r0
  obtain rfl : args = #[v0] := by cases args; simp_all
  obtain ⟨rfl, rfl⟩ := trodVars_none hV
  have k0 := h0
  have lt0 : ∀ x ∈ p0, x.block < W.heap.size := by obtain ⟨m, hm⟩ := k0; exact DataW.trod_lt m _ _ _ hm
  have g0 : zzp Tryz.prog 23 d0 := zzq hsz (j := 0) (by rw [Tryz.params5 ]; rfl) rfl
  obtain ⟨cs0, rfl, _⟩ := zor Tryz.underlying23 (hval 0 23 v0 rfl rfl)
  obtain ⟨ka, hla, hba, e0⟩ := zC3 zGC h0 g0
  obtain rfl := zFj e0
  clear hA0 hval0
  refine (zhM (X := []) hla hba (fun _ h => by cases h) (zC4 (List.mem_cons_of_mem _ (List.mem_cons_of_mem _ (List.mem_cons_self ..))) hLd) (zC5 (List.mem_cons_self ..) hLd)).mono fun e W' ⟨he, hS⟩ => ?_
  subst he
  have bel := hS.frm.below
  exact ⟨_, rfl, _, _, _, [], _, [], hW', trodAll_mk1 (shut_bool Tryz.underlying4 _), (trodAll_cons_mk (Below.trod laidOut (by kernel_rfl) (of_decide_eq_true (by kernel_rfl)) k0 bel lt0) trodAll_mk0), rfl, bel.frame _, fun h => by cases h⟩

theorem said : Rows.StateSecretsSaid :=
  OpenClaim.holds_of_wide 5 Tryz.f5 rfl rfl rfl rfl rfl rfl rfl ⟨rfl, rfl, rfl, rfl, rfl⟩ rfl rfl rfl rfl rfl (by kernel_rfl) Tryz.func5 (by kernel_rfl)
    (of_decide_eq_true (by kernel_rfl)) (by unfold Func.isWrapper; first | (rw [if_pos (by decide +kernel)]; kernel_rfl) | (rw [if_neg (by decide +kernel)]; exact ⟨rfl, rfl⟩))
    (fun os started H enc _ => lifted os started H enc)
theorem proved : Rows.StateSecretsCardSaid :=
  Claim7.holds_tied_plain_at .later [] [.data, .sentinel, .data] true (true, "4d0f52748e7c045346fd04f208a91d1629f7d5d6baef66951782b7fb012c971d") false
    said (fun _ h => by cases h) (by kernel_rfl) (fun _ h => by cases h) stateSecrets_row_tie rfl ⟨rfl, rfl⟩ (by kernel_rfl) rfl
    (fun f fn hf hfn => by
      obtain rfl : f = 5 := Option.some.inj ((show Tryz.prog.funcNamed "coterie/coterielaw17.StateSecrets" = some 5 by kernel_rfl).symm.trans hf) |>.symm
      obtain rfl : fn = Tryz.f5 := (Option.some.inj (Tryz.func5.symm.trans hfn)).symm
      refine ⟨by kernel_rfl, fun j t ht => ?_⟩
      rw [Tryz.params5 ] at ht
      have h3 : t ∈ [23 ] := by have := Array.mem_of_getElem? ht; simpa using this
      have h4 : [23 ].all (fun t => Tryz.prog.wantsStandIn t == false) = true := by kernel_rfl
      exact eq_of_beq (List.all_eq_true.1 h4 t h3))
    (by kernel_rfl)
#print axioms proved
end Go.Proofs.YtcmmpiaogfnmoaaGreatDoor.lawStateSecrets
