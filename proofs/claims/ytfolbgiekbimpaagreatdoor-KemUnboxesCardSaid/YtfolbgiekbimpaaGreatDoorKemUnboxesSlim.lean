/- KemUnboxes: for every input the law answers true, and the input reads as it did. The package variables that it reads start as the program lays them (the card ties them). -/
import Derived.Test.YtfolbgiekbimpaaGreatDoorKemUnboxesJ
import Derived.Test.YtfolbgiekbimpaaGreatDoorTie
import Derived.Test.YtfolbgiekbimpaaGreatDoorCards
import Derived.SevenTiedAt
import Derived.Stop.Joined
namespace Go.Proofs.YtfolbgiekbimpaaGreatDoor.lawKemUnboxes
set_option linter.unusedSimpArgs false
set_option linter.unusedVariables false
open Go.ChangeShapes Go.WideShapes Go.ChangeAt Go.RowKit

theorem own : ownKnob Tryz.prog.godebug = none := by kernel_rfl
theorem laidOut : laidOutB Tryz.prog = true := by kernel_rfl

theorem laidW_met (os : Os) (args : Array Value) : laidMet Tryz.prog [("coterie/coterieref02.k", Rows.laid_coterie_coterieref02_k), ("bytes.ErrTooLarge", Rows.laid_bytes_ErrTooLarge), ("coterie/sha.adds", Rows.laid_coterie_sha_adds)] ((zA1 os).forCall (fun _ _ => 0) ⟨#[], args, []⟩).memory :=
  laidMet_of_run3 80 (by kernel_rfl) (by kernel_rfl) (by kernel_rfl)
set_option maxRecDepth 100000 in
theorem lifted (os : Os) (started : os.Started) (H : Type) (enc : TypeId × Value → H) :
    ReturnsInHanded {} Tryz.checked os 4 .any (fun w args => (Rows.kemUnboxesSpec.pre enc Tryz.prog Tryz.f4 [] false w args ∧ laidMetH Tryz.prog Rows.kemUnboxesRow.laid w) ∧ sizedMet enc Tryz.prog Tryz.f4 (OpenSpec.ofChange Rows.kemUnboxesSpec) false w args) (Rows.kemUnboxesSpec.post enc Tryz.prog Tryz.f4 false true false false) := by
  refine returnsInHanded_of_change_and (C := Tryz.checked) (X := fun w _ => laidMetH Tryz.prog Rows.kemUnboxesRow.laid w) (fun _ _ _ hh h => h.of_heap hh) own started (by kernel_rfl) Tryz.func4
    (ChangeSpec.witness_at (enc := enc) (C := Tryz.checked) (os := os) (X := fun w _ => laidMetH Tryz.prog Rows.kemUnboxesRow.laid w) false (zA1 os) #[.agg (Array.replicate 32 (.int .u8 0)), .slice none 0 0, .slice none 0 0, .agg (Array.replicate 32 (.int .u8 0)), .agg (Array.replicate 32 (.int .u8 0)), .agg (Array.replicate 32 (.int .u8 0))] 8 rfl (by kernel_rfl) (by kernel_rfl) (by kernel_rfl) (by kernel_rfl) (by kernel_rfl) (laidW_met os _)) ?_
  intro W base args ds gs before hval0 hW hcnd hsz hLd _
  have hval : ∀ (j : Nat) t v, Tryz.f4.params[j]? = some t → args[j]? = some v → Value.okWide Tryz.prog W .any base t v := hval0
  have hW' := hW
  obtain ⟨p, q, hA0, hV, rfl, hfz, hnd⟩ := hW
  have hA : DataW.TrodAll enc Tryz.prog W 0 (fun _ => true) true Tryz.f4.params.toList args.toList ds p := hA0
  rw [Tryz.params4 ] at hA hval
  obtain ⟨v0, vs0, d0, ds0, p0, q0, hargs, rfl, rfl, h0, r0⟩ := trodAll_cons hA
  obtain ⟨v1, vs1, d1, ds1, p1, q1, rfl, rfl, rfl, h1, r1⟩ := trodAll_cons r0
  obtain ⟨v2, vs2, d2, ds2, p2, q2, rfl, rfl, rfl, h2, r2⟩ := trodAll_cons r1
  obtain ⟨v3, vs3, d3, ds3, p3, q3, rfl, rfl, rfl, h3, r3⟩ := trodAll_cons r2
  obtain ⟨v4, vs4, d4, ds4, p4, q4, rfl, rfl, rfl, h4, r4⟩ := trodAll_cons r3
  obtain ⟨v5, vs5, d5, ds5, p5, q5, rfl, rfl, rfl, h5, r5⟩ := trodAll_cons r4
  obtain ⟨rfl, rfl, rfl⟩ := trodAll_nil r5
  obtain rfl : args = #[v0, v1, v2, v3, v4, v5] := by cases args; simp_all
  obtain ⟨rfl, rfl⟩ := trodVars_none hV
  have k0 := h0
  have lt0 : ∀ x ∈ p0, x.block < W.heap.size := by obtain ⟨m, hm⟩ := k0; exact DataW.trod_lt m _ _ _ hm
  have g0 : zmA Tryz.prog 23 d0 := zgi hsz (j := 0) (by rw [Tryz.params4 ]; rfl) rfl
  obtain ⟨cs0, rfl, _⟩ := zeL Tryz.underlying23 (hval 0 23 v0 rfl rfl)
  obtain ⟨ks, hls, hbs, e0⟩ := zhM zwh h0 g0
  obtain rfl := zqs e0
  have k1 := h1
  have lt1 : ∀ x ∈ p1, x.block < W.heap.size := by obtain ⟨m, hm⟩ := k1; exact DataW.trod_lt m _ _ _ hm
  have g1 : zmA Tryz.prog 24 d1 := zgi hsz (j := 1) (by rw [Tryz.params4 ]; rfl) rfl
  obtain ⟨aa1, nn1, cc1, rfl⟩ := okWide_slice Tryz.underlying24 (hval 1 24 v1 rfl rfl)
  obtain ⟨Aa, ca, ta, e1, sa⟩ := zhM znV h1 g1
  obtain ⟨rfl, rfl, rfl⟩ := zqt e1
  have k2 := h2
  have lt2 : ∀ x ∈ p2, x.block < W.heap.size := by obtain ⟨m, hm⟩ := k2; exact DataW.trod_lt m _ _ _ hm
  have g2 : zmA Tryz.prog 25 d2 := zgi hsz (j := 2) (by rw [Tryz.params4 ]; rfl) rfl
  obtain ⟨aa2, nn2, cc2, rfl⟩ := okWide_slice Tryz.underlying25 (hval 2 25 v2 rfl rfl)
  obtain ⟨Ab, cb, tb, mb, e2, sb, _⟩ := zhM zuf h2 g2
  obtain ⟨rfl, rfl, rfl⟩ := zqt e2
  have k3 := h3
  have lt3 : ∀ x ∈ p3, x.block < W.heap.size := by obtain ⟨m, hm⟩ := k3; exact DataW.trod_lt m _ _ _ hm
  have g3 : zmA Tryz.prog 23 d3 := zgi hsz (j := 3) (by rw [Tryz.params4 ]; rfl) rfl
  obtain ⟨cs3, rfl, _⟩ := zeL Tryz.underlying23 (hval 3 23 v3 rfl rfl)
  obtain ⟨ko, hlo, hbo, e3⟩ := zhM zwh h3 g3
  obtain rfl := zqs e3
  have k4 := h4
  have lt4 : ∀ x ∈ p4, x.block < W.heap.size := by obtain ⟨m, hm⟩ := k4; exact DataW.trod_lt m _ _ _ hm
  have g4 : zmA Tryz.prog 23 d4 := zgi hsz (j := 4) (by rw [Tryz.params4 ]; rfl) rfl
  obtain ⟨cs4, rfl, _⟩ := zeL Tryz.underlying23 (hval 4 23 v4 rfl rfl)
  obtain ⟨km, hlm, hbm, e4⟩ := zhM zwh h4 g4
  obtain rfl := zqs e4
  have k5 := h5
  have lt5 : ∀ x ∈ p5, x.block < W.heap.size := by obtain ⟨m, hm⟩ := k5; exact DataW.trod_lt m _ _ _ hm
  have g5 : zmA Tryz.prog 23 d5 := zgi hsz (j := 5) (by rw [Tryz.params4 ]; rfl) rfl
  obtain ⟨cs5, rfl, _⟩ := zeL Tryz.underlying23 (hval 5 23 v5 rfl rfl)
  obtain ⟨kt, hlt, hbt, e5⟩ := zhM zwh h5 g5
  obtain rfl := zqs e5
  clear hA0 hval0
  refine (zkb (X := []) hls hbs hlo hbo hlm hbm hlt hbt (fun _ h => by cases h) sa sb (zzy (List.mem_cons_of_mem _ (List.mem_cons_of_mem _ (List.mem_cons_self ..))) hLd) (zzz (List.mem_cons_self ..) hLd)).mono fun e W' ⟨he, hS⟩ => ?_
  subst he
  have bel := hS.frm.below
  exact ⟨_, rfl, _, _, _, [], _, [], hW', trodAll_mk1 (shut_bool Tryz.underlying4 _), (trodAll_cons_mk (Below.trod laidOut (by kernel_rfl) (of_decide_eq_true (by kernel_rfl)) k0 bel lt0) (trodAll_cons_mk (Below.trod laidOut (by kernel_rfl) (of_decide_eq_true (by kernel_rfl)) k1 bel lt1) (trodAll_cons_mk (Below.trod laidOut (by kernel_rfl) (of_decide_eq_true (by kernel_rfl)) k2 bel lt2) (trodAll_cons_mk (Below.trod laidOut (by kernel_rfl) (of_decide_eq_true (by kernel_rfl)) k3 bel lt3) (trodAll_cons_mk (Below.trod laidOut (by kernel_rfl) (of_decide_eq_true (by kernel_rfl)) k4 bel lt4) (trodAll_cons_mk (Below.trod laidOut (by kernel_rfl) (of_decide_eq_true (by kernel_rfl)) k5 bel lt5) trodAll_mk0)))))), rfl, bel.frame _, fun h => by cases h⟩

theorem said : Rows.KemUnboxesSaid :=
  OpenClaim.holds_of_wide 4 Tryz.f4 rfl rfl rfl rfl rfl rfl rfl ⟨rfl, rfl, rfl, rfl, rfl⟩ rfl rfl rfl rfl rfl (by kernel_rfl) Tryz.func4 (by kernel_rfl)
    (of_decide_eq_true (by kernel_rfl)) (by unfold Func.isWrapper; first | (rw [if_pos (by decide +kernel)]; kernel_rfl) | (rw [if_neg (by decide +kernel)]; exact ⟨rfl, rfl⟩))
    (fun os started H enc _ => lifted os started H enc)
theorem proved : Rows.KemUnboxesCardSaid :=
  Claim7.holds_tied_plain_at .later [] [.data, .sentinel, .data] true (true, "e3c2118598fe1cef8bc7b0360ef0ee1df65e364efa6809534430d811e60ede43") false
    said (fun _ h => by cases h) (by kernel_rfl) (fun _ h => by cases h) kemUnboxes_row_tie rfl ⟨rfl, rfl⟩ (by kernel_rfl) rfl
    (fun f fn hf hfn => by
      obtain rfl : f = 4 := Option.some.inj ((show Tryz.prog.funcNamed "coterie/coterielaw08.KemUnboxes" = some 4 by kernel_rfl).symm.trans hf) |>.symm
      obtain rfl : fn = Tryz.f4 := (Option.some.inj (Tryz.func4.symm.trans hfn)).symm
      refine ⟨by kernel_rfl, fun j t ht => ?_⟩
      rw [Tryz.params4 ] at ht
      have h3 : t ∈ [23, 24, 25, 23, 23, 23 ] := by have := Array.mem_of_getElem? ht; simpa using this
      have h4 : [23, 24, 25, 23, 23, 23 ].all (fun t => Tryz.prog.wantsStandIn t == false) = true := by kernel_rfl
      exact eq_of_beq (List.all_eq_true.1 h4 t h3))
    (by kernel_rfl)
#print axioms proved
end Go.Proofs.YtfolbgiekbimpaaGreatDoor.lawKemUnboxes
