/- The law ServerPosts: whatever the servers, the text and the members, it answers true. Arguments that come in, opened: rows of integers by value. No program is in sight. Arguments that come in, opened: texts, and structs of four with texts. No program is in sight. Arguments that come in, opened: whatever is made of integers, texts, keys, structs and slices. No program is in sight. Layer 22's arguments, opened. -/
import Derived.Test.YteefhbpmeajbfaaServerPostsG
import Derived.WalkKit
import Derived.WalkSpells
import Derived.WalkLawsBesides
import Derived.Deep.QuietTactic
import Derived.BigQuiet
import Derived.StillTailTactics
import Derived.Lib.Hide
import Derived.Deep.LoopGhost
import Derived.Outline
import Derived.Deep.DeepFit
import Derived.Deep.RegionHeld3
import Derived.Deep.RegionLaw
import Derived.OrdersHeld
import Derived.Laws.StructEq
import Derived.Maps.AppendAt
import Derived.Deep.AppendLies
import Derived.Deep.Draws
import Derived.Laws.OwnMore
import Derived.Laws.AppendOwnNone
import Derived.OwnWalk
import Derived.Below
import Derived.Deep.Cut
import Derived.Deep.CutBlock
import Derived.Deep.CutRange
import Derived.DataElems
import Derived.Great.BuildSlice
import Derived.Laws.Entries
import Derived.Laws.Tables
import Derived.SizedLaws
import Derived.Lib.SliceRun
import Derived.Laws.Small
import Derived.Great.Walk
import Derived.Test.YteefhbpmeajbfaaRows
import Derived.Laws.IdiomStrings
import Derived.Lib.Tables
import Derived.Lib.BitFns
import Derived.Laws.Bits64b
import Derived.ProofKit
import Derived.OpenShut
import Derived.ShutString
import Derived.ChangeOld
import Derived.ChangeSlices
import Derived.Lib.SmallJoins
namespace Go.Proofs.Yteefhbpmeajbfaa
set_option linter.unusedSimpArgs false
set_option linter.unusedVariables false
open Go.RowKit
attribute [local irreducible] farB oddB cmV wlV frV exL
set_option maxRecDepth 100000 in
set_option maxHeartbeats 4000000 in
theorem Post_own {ep nx : Int} {LA WA : Option Addr} {lc wc : Nat} {log : List (List Nat)} {wait : List Ltr} {lm : Nat → TextT.μ} {wm : Nat → LtrT.μ} {TA OA : Option Addr} {tc oc : Nat} {text : List Nat} {tos : List Int} {om : Nat → IntT.μ} {X : List Nat} {w0 : World} (hX : ∀ k ∈ X, k < w0.heap.size) (hL : St (LiF TextT LA lc log lm) w0 X) (hW : St (LiF LtrT WA wc wait wm) w0 X) (hT : St (TxF TA tc text) w0 X) (hO : St (LiF IntT OA oc tos om) w0 X) :
    Calls Try.prog 11 #[.agg (ca [.one (.int .u64 ep), .one (.slice LA log.length lc), .one (.slice WA wait.length wc), .one (.int .i64 nx)]), .slice TA text.length tc, .slice OA tos.length oc] w0 fun e w' => ∃ LA' lc' lm' WA' wc' es, es.map Prod.fst = (postV ⟨ep, log, wait, nx⟩ text tos).1.wait ∧ e = .returned (.tuple #[.agg (ca [.one (.int .u64 (postV ⟨ep, log, wait, nx⟩ text tos).1.ep), .one (.slice LA' (postV ⟨ep, log, wait, nx⟩ text tos).1.log.length lc'), .one (.slice WA' es.length wc'), .one (.int .i64 (postV ⟨ep, log, wait, nx⟩ text tos).1.nx)]), .int .i64 (postV ⟨ep, log, wait, nx⟩ text tos).2]) ∧ Sep X [] w0 w' [.row (.slice WA' es.length wc') 49 3 es.length (rowC LtrT (es))] [LiF TextT LA' lc' (postV ⟨ep, log, wait, nx⟩ text tos).1.log lm', NestF LtrT es] := by
  have hLb := hL.now.big
  have hWb := hW.now.big
  have hOb := hO.now.big
  have hkr := kindV_ran text
  refine calls_env Try.ntmps11 Try.func11 rfl rfl fun a E => ?_; replace E : Env a _ [(0, _), (1, _), (2, _)] := E
  have H : Sep X [] w0 w0 [] [(LiF TextT LA lc log lm), (LiF LtrT WA wc wait wm), (TxF TA tc text), (LiF IntT OA oc tos om)] := Sep.start hX (List.forall_mem_cons.2 ⟨hL, List.forall_mem_cons.2 ⟨hW, List.forall_mem_cons.2 ⟨hT, List.forall_mem_cons.2 ⟨hO, fun _ h => by cases h⟩⟩⟩⟩)
  refine wp_seq_k fun K0 hK0 => ?_; refine S_region ?_; refine S_eff E rfl (fun K hK => ?_); refine eff_box E H rfl rfl rfl ?_; clear H; intro b3 w H _; refine hK _ _ ?_; clear hK K; refine S_put E rfl rfl ?_; clear E a; intro a E; refine S_eff E rfl (fun K hK => ?_); refine eff_alloc (z := [.one (.int .u64 0), .one (.slice none 0 0), .one (.slice none 0 0), .one (.int .i64 0)]) H rfl (by kernel_rfl) ?_; clear H; intro b6 w H _; refine hK _ _ ?_; clear hK K; refine S_put E rfl rfl ?_; clear E a; intro a E; refine S_val E (pk_assign rfl rfl) rfl rfl rfl ?_; clear E a; intro a E; refine hK0 _ _ ?_; refine wp_seq_k fun K1 hK1 => ?_; refine wp_seq_k fun K2 hK2 => ?_; refine S_region ?_; refine S_val E (pk_load (n := 4) H 1 rfl rfl rfl trivial rfl (by kernel_rfl)) rfl rfl rfl ?_; clear E a; intro a E; refine S_eff E rfl (fun K hK => ?_); refine eff_call E rfl rfl rfl (by kernel_rfl) ?_
  refine (Check_any H.xk (H.fact 0 rfl) (H.fact 1 rfl)).mono ?_; rintro e w ⟨rfl, H1⟩
  replace H := H.call H1
  clear H1; replace H : Sep _ _ _ _ [_, _] [_, _, _, _] := H; refine hK _ _ ?_; clear hK K; refine S_put E rfl rfl ?_; clear E a; intro a E; refine S_val E (pk_int rfl rfl rfl rfl) rfl rfl rfl ?_; clear E a; intro a E; refine S_val E (pk_move rfl rfl) rfl rfl rfl ?_; clear E a; intro a E; refine env_split (d := 16) E rfl ?_ ?_
  · skip
    clear E; intro c16 E
    have hok : okS ⟨ep, log, wait, nx⟩ = false := by simpa using ok_ne c16
    refine S_skip E rfl rfl rfl ?_; clear E a; intro a E; refine S_skip E rfl rfl rfl ?_; clear E a; intro a E; refine S_val E (pk_pick rfl rfl rfl) rfl rfl rfl ?_; clear E a; intro a E; refine hK2 _ _ ?_; refine S_then E rfl ?_; refine wp_seq_k fun K3 hK3 => ?_; refine S_region ?_; refine S_val E (pk_build (z := [.one (.int .u64 0), .one (.slice none 0 0), .one (.slice none 0 0), .one (.int .i64 0)]) rfl (by kernel_rfl) (by kernel_rfl) rfl) rfl rfl rfl ?_; clear E a; intro a E; refine S_eff E rfl (fun K hK => ?_); refine eff_store 0 E H rfl rfl rfl rfl rfl (by repeat (first | exact trivial | refine ⟨rfl, ?_⟩ | refine ⟨fun _ _ => rfl, ?_⟩)) rfl (by kernel_rfl) rfl ?_; clear H; intro w H _; replace H : Sep _ _ _ _ [_, _] _ := H; refine hK _ _ ?_; clear hK K; refine S_put0 rfl ?_; refine S_val E (pk_assign rfl rfl) rfl rfl rfl ?_; clear E a; intro a E; refine hK3 _ _ ?_; refine wp_ret ?_
    repeat (first | refine then_ret ?_ | refine block_ret ?_)
    refine ret2 rfl E (by exact resC (n := 4) H 0 rfl rfl rfl (by kernel_rfl)) (resT rfl) ?_
    have hP : postV ⟨ep, log, wait, nx⟩ text tos = (noSrv, 1) := by
      unfold postV; exact if_pos (Or.inl hok)
    rw [hP]
    exact ⟨none, 0, fun _ => TextT.dft, none, 0, [], rfl, rfl, (((H.keepLR (L := []) (R := [])).know nest_nil).know liF_nil).rownil _ _⟩
  · skip
    clear E; intro c16 E
    have hok : okS ⟨ep, log, wait, nx⟩ = true := by simpa using ok_ne c16
    obtain ⟨k1, k2, k3, k4, k5, k6⟩ := okS_of hok
    simp only at k1 k2 k3 k4 k5 k6
    refine S_val E (pk_move rfl rfl) rfl rfl rfl ?_; clear E a; intro a E; refine S_eff E rfl (fun K hK => ?_); refine eff_call E rfl rfl rfl (by kernel_rfl) ?_; refine (ContainsInt_any (f := 34) (cs := #[]) (pb := farB) (r := fun _ => True) (by kernel_rfl) hOb (fun x mm X w0 hX _ _ => far_sep hX) H.xk (H.fact 3 rfl) (fun _ _ => trivial)).mono ?_; rintro e w ⟨rfl, H1⟩
    replace H := H.call H1
    clear H1; replace H : Sep _ _ _ _ [_, _] [_, _, _, _] := H; refine hK _ _ ?_; clear hK K; refine S_put E rfl rfl ?_; clear E a; intro a E; refine S_val E (pk_pick rfl rfl rfl) rfl rfl rfl ?_; clear E a; intro a E; refine hK2 _ _ ?_; refine env_split (d := 19) E rfl ?_ ?_
    · skip
      clear E; intro c19 E; refine S_then E rfl ?_; refine wp_seq_k fun K4 hK4 => ?_; refine S_region ?_; refine S_val E (pk_build (z := [.one (.int .u64 0), .one (.slice none 0 0), .one (.slice none 0 0), .one (.int .i64 0)]) rfl (by kernel_rfl) (by kernel_rfl) rfl) rfl rfl rfl ?_; clear E a; intro a E; refine S_eff E rfl (fun K hK => ?_); refine eff_store 0 E H rfl rfl rfl rfl rfl (by repeat (first | exact trivial | refine ⟨rfl, ?_⟩ | refine ⟨fun _ _ => rfl, ?_⟩)) rfl (by kernel_rfl) rfl ?_; clear H; intro w H _; replace H : Sep _ _ _ _ [_, _] _ := H; refine hK _ _ ?_; clear hK K; refine S_put0 rfl ?_; refine S_val E (pk_assign rfl rfl) rfl rfl rfl ?_; clear E a; intro a E; refine hK4 _ _ ?_; refine wp_ret ?_
      repeat (first | refine then_ret ?_ | refine block_ret ?_)
      refine ret2 rfl E (by exact resC (n := 4) H 0 rfl rfl rfl (by kernel_rfl)) (resT rfl) ?_
      have hP : postV ⟨ep, log, wait, nx⟩ text tos = (noSrv, 1) := by
        unfold postV; exact if_pos (Or.inr c19)
      rw [hP]
      exact ⟨none, 0, fun _ => TextT.dft, none, 0, [], rfl, rfl, (((H.keepLR (L := []) (R := [])).know nest_nil).know liF_nil).rownil _ _⟩
    · skip
      clear E; intro c19 E
      have hfar : tos.any farB = false := c19
      refine S_else E rfl ?_; refine wp_skip ?_; refine hK1 _ _ ?_; refine wp_seq_k fun K5 hK5 => ?_; refine S_region ?_; refine S_val E (pk_move rfl rfl) rfl rfl rfl ?_; clear E a; intro a E; refine S_eff E rfl (fun K hK => ?_); refine eff_call E rfl rfl rfl (by kernel_rfl) ?_; refine (read_any H.xk (H.fact 2 rfl)).mono ?_; rintro e w ⟨rfl, H1⟩
      replace H := H.call H1
      clear H1; replace H : Sep _ _ _ _ [_, _] [_, _, _, _] := H; refine hK _ _ ?_; clear hK K; refine S_put E rfl rfl ?_; clear E a; intro a E; refine S_val E (pk_move rfl rfl) rfl rfl rfl ?_; clear E a; intro a E; refine S_val E (pk_extract rfl rfl rfl) rfl rfl rfl ?_; clear E a; intro a E; refine S_val E (pk_extract rfl rfl rfl) rfl rfl rfl ?_; clear E a; intro a E; refine S_val E (pk_assign rfl rfl) rfl rfl rfl ?_; clear E a; intro a E; refine S_val E (pk_assign rfl rfl) rfl rfl rfl ?_; clear E a; intro a E; refine hK5 _ _ ?_; refine wp_seq_k fun K6 hK6 => ?_; refine S_region ?_; refine S_val E (pk_move rfl rfl) rfl rfl rfl ?_; clear E a; intro a E; refine S_val E (pk_int rfl rfl rfl rfl) rfl rfl rfl ?_; clear E a; intro a E; refine S_val E (pk_assign rfl rfl) rfl rfl rfl ?_; clear E a; intro a E; refine env_split (d := 10) E rfl ?_ ?_
      · skip
        clear E; intro c10 E
        have hcm : kindV text = 1 := eq_of_beq c10
        refine hK6 _ _ ?_; refine wp_seq_k fun K7 hK7 => ?_; refine wp_block ?_; refine wp_seq_k fun K8 hK8 => ?_; refine S_region ?_; refine S_val E (pk_move rfl rfl) rfl rfl rfl ?_; clear E a; intro a E; refine S_val E (pk_int rfl rfl rfl rfl) rfl rfl rfl ?_; clear E a; intro a E; refine S_val E (pk_assign rfl rfl) rfl rfl rfl ?_; clear E a; intro a E; refine hK8 _ _ ?_; refine env_split (d := 28) E rfl ?_ ?_
        · skip
          clear E; intro c28 E
          have hk0 : kindV text = 0 := eq_of_beq c28
          refine S_then E rfl ?_; refine wp_seq_k fun K9 hK9 => ?_; refine S_region ?_; refine S_val E (pk_build (z := [.one (.int .u64 0), .one (.slice none 0 0), .one (.slice none 0 0), .one (.int .i64 0)]) rfl (by kernel_rfl) (by kernel_rfl) rfl) rfl rfl rfl ?_; clear E a; intro a E; refine S_eff E rfl (fun K hK => ?_); refine eff_store 0 E H rfl rfl rfl rfl rfl (by repeat (first | exact trivial | refine ⟨rfl, ?_⟩ | refine ⟨fun _ _ => rfl, ?_⟩)) rfl (by kernel_rfl) rfl ?_; clear H; intro w H _; replace H : Sep _ _ _ _ [_, _] _ := H; refine hK _ _ ?_; clear hK K; refine S_put0 rfl ?_; refine S_val E (pk_assign rfl rfl) rfl rfl rfl ?_; clear E a; intro a E; refine hK9 _ _ ?_; refine wp_ret ?_
          repeat (first | refine then_ret ?_ | refine block_ret ?_)
          refine ret2 rfl E (by exact resC (n := 4) H 0 rfl rfl rfl (by kernel_rfl)) (resT rfl) ?_
          have hP : postV ⟨ep, log, wait, nx⟩ text tos = (noSrv, 3) := by
            unfold postV; rw [if_neg (show ¬(okS ⟨ep, log, wait, nx⟩ = false ∨ tos.any farB = true) by rw [hok, hfar]; simp)]; exact if_pos hk0
          rw [hP]
          exact ⟨none, 0, fun _ => TextT.dft, none, 0, [], rfl, rfl, (((H.keepLR (L := []) (R := [])).know nest_nil).know liF_nil).rownil _ _⟩
        · skip
          clear E; intro c28 E
          have hk0 : ¬ kindV text = 0 := ne_of_beq_false c28
          refine S_else E rfl ?_; refine wp_seq_k fun K10 hK10 => ?_; refine S_region ?_; refine S_val E (pk_move rfl rfl) rfl rfl rfl ?_; clear E a; intro a E; refine S_val E (pk_move rfl rfl) rfl rfl rfl ?_; clear E a; intro a E; refine S_val E (pk_move rfl rfl) rfl rfl rfl ?_; clear E a; intro a E; refine S_val E (pk_fieldAddr (off := 0) rfl rfl (by kernel_rfl)) rfl rfl rfl ?_; clear E a; intro a E; refine S_val E (pk_load1 H 1 rfl rfl rfl trivial rfl (by kernel_rfl)) rfl rfl rfl ?_; clear E a; intro a E; refine S_val E (pk_int rfl rfl rfl rfl) rfl rfl rfl ?_; clear E a; intro a E; refine S_val E (pk_pick rfl rfl rfl) rfl rfl rfl ?_; clear E a; intro a E; refine S_val E (pk_assign rfl rfl) rfl rfl rfl ?_; clear E a; intro a E; refine hK10 _ _ ?_; refine env_split (d := 32) E rfl ?_ ?_
          · skip
            clear E; intro c32 E
            have hne : epV text ≠ ep := by simpa using c32
            refine S_then E rfl ?_; refine wp_seq_k fun K11 hK11 => ?_; refine S_region ?_; refine S_val E (pk_build (z := [.one (.int .u64 0), .one (.slice none 0 0), .one (.slice none 0 0), .one (.int .i64 0)]) rfl (by kernel_rfl) (by kernel_rfl) rfl) rfl rfl rfl ?_; clear E a; intro a E; refine S_eff E rfl (fun K hK => ?_); refine eff_store 0 E H rfl rfl rfl rfl rfl (by repeat (first | exact trivial | refine ⟨rfl, ?_⟩ | refine ⟨fun _ _ => rfl, ?_⟩)) rfl (by kernel_rfl) rfl ?_; clear H; intro w H _; replace H : Sep _ _ _ _ [_, _] _ := H; refine hK _ _ ?_; clear hK K; refine S_put0 rfl ?_; refine S_val E (pk_assign rfl rfl) rfl rfl rfl ?_; clear E a; intro a E; refine hK11 _ _ ?_; refine wp_ret ?_
            repeat (first | refine then_ret ?_ | refine block_ret ?_)
            refine ret2 rfl E (by exact resC (n := 4) H 0 rfl rfl rfl (by kernel_rfl)) (resT rfl) ?_
            have hP : postV ⟨ep, log, wait, nx⟩ text tos = (noSrv, 9) := by
              unfold postV; rw [if_neg (show ¬(okS ⟨ep, log, wait, nx⟩ = false ∨ tos.any farB = true) by rw [hok, hfar]; simp)]; rw [if_neg hk0]; exact if_pos ⟨hcm, hne⟩
            rw [hP]
            exact ⟨none, 0, fun _ => TextT.dft, none, 0, [], rfl, rfl, (((H.keepLR (L := []) (R := [])).know nest_nil).know liF_nil).rownil _ _⟩
          · skip
            clear E; intro c32 E
            have hee : epV text = ep := by simpa using c32
            refine S_else E rfl ?_; refine wp_seq_k fun K12 hK12 => ?_; refine wp_seq_k fun K13 hK13 => ?_; refine S_region ?_; refine S_val E (pk_move rfl rfl) rfl rfl rfl ?_; clear E a; intro a E; refine S_val E (pk_move rfl rfl) rfl rfl rfl ?_; clear E a; intro a E; refine S_val E (pk_fieldAddr (off := 1) rfl rfl (by kernel_rfl)) rfl rfl rfl ?_; clear E a; intro a E; refine S_val E (pk_load1 H 1 rfl rfl rfl trivial rfl (by kernel_rfl)) rfl rfl rfl ?_; clear E a; intro a E; refine S_val E (pk_len rfl rfl (by kernel_rfl)) rfl rfl rfl ?_; clear E a; intro a E; refine S_val E (pk_int rfl rfl rfl rfl) rfl rfl rfl ?_; clear E a; intro a E; refine S_val E (pk_pick rfl rfl rfl) rfl rfl rfl ?_; clear E a; intro a E; refine S_val E (pk_assign rfl rfl) rfl rfl rfl ?_; clear E a; intro a E; refine hK13 _ _ ?_; refine env_split (d := 41) E rfl ?_ ?_
            · skip
              clear E; intro c41 E; refine S_then E rfl ?_; refine wp_skip ?_; refine hK12 _ _ ?_; refine S_then E rfl ?_; refine wp_seq_k fun K14 hK14 => ?_; refine S_region ?_; refine S_val E (pk_build (z := [.one (.int .u64 0), .one (.slice none 0 0), .one (.slice none 0 0), .one (.int .i64 0)]) rfl (by kernel_rfl) (by kernel_rfl) rfl) rfl rfl rfl ?_; clear E a; intro a E; refine S_eff E rfl (fun K hK => ?_); refine eff_store 0 E H rfl rfl rfl rfl rfl (by repeat (first | exact trivial | refine ⟨rfl, ?_⟩ | refine ⟨fun _ _ => rfl, ?_⟩)) rfl (by kernel_rfl) rfl ?_; clear H; intro w H _; replace H : Sep _ _ _ _ [_, _] _ := H; refine hK _ _ ?_; clear hK K; refine S_put0 rfl ?_; refine S_val E (pk_assign rfl rfl) rfl rfl rfl ?_; clear E a; intro a E; refine hK14 _ _ ?_; refine wp_ret ?_
              repeat (first | refine then_ret ?_ | refine block_ret ?_)
              refine ret2 rfl E (by exact resC (n := 4) H 0 rfl rfl rfl (by kernel_rfl)) (resT rfl) ?_
              have hP : postV ⟨ep, log, wait, nx⟩ text tos = (noSrv, 8) := by
                unfold postV; rw [if_neg (show ¬(okS ⟨ep, log, wait, nx⟩ = false ∨ tos.any farB = true) by rw [hok, hfar]; simp)]; rw [if_neg hk0]; rw [if_neg (show ¬(kindV text = 1 ∧ epV text ≠ (⟨ep, log, wait, nx⟩ : Srv).ep) by rintro ⟨_, h⟩; exact h hee)]; exact if_pos (by simp only; simp only [decide_eq_true_eq, beq_iff_eq] at *; omega)
              rw [hP]
              exact ⟨none, 0, fun _ => TextT.dft, none, 0, [], rfl, rfl, (((H.keepLR (L := []) (R := [])).know nest_nil).know liF_nil).rownil _ _⟩
            · skip
              clear E; intro c41 E; refine S_else E rfl ?_; refine wp_seq_k fun K15 hK15 => ?_; refine S_region ?_; refine S_val E (pk_move rfl rfl) rfl rfl rfl ?_; clear E a; intro a E; refine S_val E (pk_len rfl rfl (by kernel_rfl)) rfl rfl rfl ?_; clear E a; intro a E; refine S_val E (pk_fieldAddr (off := 2) rfl rfl (by kernel_rfl)) rfl rfl rfl ?_; clear E a; intro a E; refine S_val E (pk_load1 H 1 rfl rfl rfl trivial rfl (by kernel_rfl)) rfl rfl rfl ?_; clear E a; intro a E; refine S_val E (pk_len rfl rfl (by kernel_rfl)) rfl rfl rfl ?_; clear E a; intro a E; refine S_val E (pk_intw rfl rfl rfl rfl (wI64 (by omega) (by omega))) rfl rfl rfl ?_; clear E a; intro a E; refine S_val E (pk_int rfl rfl rfl rfl) rfl rfl rfl ?_; clear E a; intro a E; refine S_val E (pk_assign rfl rfl) rfl rfl rfl ?_; clear E a; intro a E; refine hK15 _ _ ?_; refine env_split (d := 41) E rfl ?_ ?_
              · skip
                clear E; intro c41 E; refine S_then E rfl ?_; refine wp_skip ?_; refine hK12 _ _ ?_; refine S_then E rfl ?_; refine wp_seq_k fun K16 hK16 => ?_; refine S_region ?_; refine S_val E (pk_build (z := [.one (.int .u64 0), .one (.slice none 0 0), .one (.slice none 0 0), .one (.int .i64 0)]) rfl (by kernel_rfl) (by kernel_rfl) rfl) rfl rfl rfl ?_; clear E a; intro a E; refine S_eff E rfl (fun K hK => ?_); refine eff_store 0 E H rfl rfl rfl rfl rfl (by repeat (first | exact trivial | refine ⟨rfl, ?_⟩ | refine ⟨fun _ _ => rfl, ?_⟩)) rfl (by kernel_rfl) rfl ?_; clear H; intro w H _; replace H : Sep _ _ _ _ [_, _] _ := H; refine hK _ _ ?_; clear hK K; refine S_put0 rfl ?_; refine S_val E (pk_assign rfl rfl) rfl rfl rfl ?_; clear E a; intro a E; refine hK16 _ _ ?_; refine wp_ret ?_
                repeat (first | refine then_ret ?_ | refine block_ret ?_)
                refine ret2 rfl E (by exact resC (n := 4) H 0 rfl rfl rfl (by kernel_rfl)) (resT rfl) ?_
                have hP : postV ⟨ep, log, wait, nx⟩ text tos = (noSrv, 8) := by
                  unfold postV; rw [if_neg (show ¬(okS ⟨ep, log, wait, nx⟩ = false ∨ tos.any farB = true) by rw [hok, hfar]; simp)]; rw [if_neg hk0]; rw [if_neg (show ¬(kindV text = 1 ∧ epV text ≠ (⟨ep, log, wait, nx⟩ : Srv).ep) by rintro ⟨_, h⟩; exact h hee)]; exact if_pos (by simp only; simp only [decide_eq_true_eq, beq_iff_eq] at *; omega)
                rw [hP]
                exact ⟨none, 0, fun _ => TextT.dft, none, 0, [], rfl, rfl, (((H.keepLR (L := []) (R := [])).know nest_nil).know liF_nil).rownil _ _⟩
              · skip
                clear E; intro c41 E; refine S_else E rfl ?_; refine S_region ?_; refine S_val E (pk_move rfl rfl) rfl rfl rfl ?_; clear E a; intro a E; refine S_val E (pk_len rfl rfl (by kernel_rfl)) rfl rfl rfl ?_; clear E a; intro a E; refine S_val E (pk_fieldAddr (off := 3) rfl rfl (by kernel_rfl)) rfl rfl rfl ?_; clear E a; intro a E; refine S_val E (pk_load1 H 1 rfl rfl rfl trivial rfl (by kernel_rfl)) rfl rfl rfl ?_; clear E a; intro a E; refine S_val E (pk_intw rfl rfl rfl rfl (wI64 (by omega) (by omega))) rfl rfl rfl ?_; clear E a; intro a E; refine S_val E (pk_int rfl rfl rfl rfl) rfl rfl rfl ?_; clear E a; intro a E; refine S_val E (pk_assign rfl rfl) rfl rfl rfl ?_; clear E a; intro a E; refine hK12 _ _ ?_; refine env_split (d := 41) E rfl ?_ ?_
                · skip
                  clear E; intro c41 E; refine S_then E rfl ?_; refine wp_seq_k fun K17 hK17 => ?_; refine S_region ?_; refine S_val E (pk_build (z := [.one (.int .u64 0), .one (.slice none 0 0), .one (.slice none 0 0), .one (.int .i64 0)]) rfl (by kernel_rfl) (by kernel_rfl) rfl) rfl rfl rfl ?_; clear E a; intro a E; refine S_eff E rfl (fun K hK => ?_); refine eff_store 0 E H rfl rfl rfl rfl rfl (by repeat (first | exact trivial | refine ⟨rfl, ?_⟩ | refine ⟨fun _ _ => rfl, ?_⟩)) rfl (by kernel_rfl) rfl ?_; clear H; intro w H _; replace H : Sep _ _ _ _ [_, _] _ := H; refine hK _ _ ?_; clear hK K; refine S_put0 rfl ?_; refine S_val E (pk_assign rfl rfl) rfl rfl rfl ?_; clear E a; intro a E; refine hK17 _ _ ?_; refine wp_ret ?_
                  repeat (first | refine then_ret ?_ | refine block_ret ?_)
                  refine ret2 rfl E (by exact resC (n := 4) H 0 rfl rfl rfl (by kernel_rfl)) (resT rfl) ?_
                  have hP : postV ⟨ep, log, wait, nx⟩ text tos = (noSrv, 8) := by
                    unfold postV; rw [if_neg (show ¬(okS ⟨ep, log, wait, nx⟩ = false ∨ tos.any farB = true) by rw [hok, hfar]; simp)]; rw [if_neg hk0]; rw [if_neg (show ¬(kindV text = 1 ∧ epV text ≠ (⟨ep, log, wait, nx⟩ : Srv).ep) by rintro ⟨_, h⟩; exact h hee)]; exact if_pos (by simp only; simp only [decide_eq_true_eq, beq_iff_eq] at *; omega)
                  rw [hP]
                  exact ⟨none, 0, fun _ => TextT.dft, none, 0, [], rfl, rfl, (((H.keepLR (L := []) (R := [])).know nest_nil).know liF_nil).rownil _ _⟩
                · skip
                  clear E; intro c41 E; refine S_else E rfl ?_; refine wp_skip ?_; refine hK7 _ _ ?_; refine wp_seq_k fun K18 hK18 => ?_
                  have hold : ¬(kindV text = 1 ∧ epV text ≠ (⟨ep, log, wait, nx⟩ : Srv).ep) := by rintro ⟨_, h⟩; exact h hee
                  have hfull : ¬((kindV text = 1 ∧ (⟨ep, log, wait, nx⟩ : Srv).log.length = 2000) ∨ 20000 < (⟨ep, log, wait, nx⟩ : Srv).wait.length + tos.length ∨ 1099511627776 < (⟨ep, log, wait, nx⟩ : Srv).nx + (tos.length : Int)) := by
                    simp only
                    simp only [decide_eq_false_iff_not, beq_eq_false_iff_ne, ne_eq] at *
                    omega
                  refine S_region ?_; refine S_val E (pk_load (n := 4) H 1 rfl rfl rfl trivial rfl (by kernel_rfl)) rfl rfl rfl ?_; clear E a; intro a E; refine S_eff E rfl (fun K hK => ?_); refine eff_call E rfl rfl rfl (by kernel_rfl) ?_; refine (own_any (by omega) (by omega) H.xk (H.fact 0 rfl) (H.fact 1 rfl)).mono ?_; rintro e w ⟨LA9, lc9, WA9, wc9, ds, es, hds, hes, rfl, H1⟩
                  replace H := H.call H1
                  clear H1; replace H : Sep _ _ _ _ [_, _, _, _] [_, _, _, _, _, _] := H; refine hK _ _ ?_; clear hK K; refine S_put E rfl rfl ?_; clear E a; intro a E
                  have hds2 : ds.length = log.length := by rw [← hds, List.length_map]
                  have hes2 : es.length = wait.length := by rw [← hes, List.length_map]
                  refine S_eff E rfl (fun K hK => ?_); refine eff_store 3 E H rfl rfl rfl rfl rfl (by repeat (first | exact trivial | refine ⟨rfl, ?_⟩ | refine ⟨fun _ _ => rfl, ?_⟩)) rfl (by kernel_rfl) rfl ?_; clear H; intro w H _; replace H : Sep _ _ _ _ [_, _, _, _] _ := H; refine hK _ _ ?_; clear hK K; refine S_put0 rfl ?_; refine hK18 _ _ ?_; refine wp_seq_k fun K19 hK19 => ?_; refine wp_seq_k fun K20 hK20 => ?_; refine S_region ?_; refine S_val E (pk_move rfl rfl) rfl rfl rfl ?_; clear E a; intro a E; refine hK20 _ _ ?_; refine S_then E rfl ?_; refine wp_seq_k fun K21 hK21 => ?_; refine C_region E H [] 5 [(0, false), (1, false), (2, false), (3, true), (4, true)] (by kernel_rfl) (by kernel_rfl) (fun w HS => ?_)
                  (simp only [canOps, List.getElem?_cons_zero, List.getElem?_cons_succ, List.drop_succ_cons, List.drop_zero])
                  clear H
                  have H := HS
                  have hsz : w.heap.size ≤ w.heap.size := Nat.le_refl _
                  have HK : CanB.Keep (fun k => k < w.heap.size ∧ k ∉ []) w w := CanB.Keep.refl _ _
                  refine C_val E HK (pk_fieldAddr (off := 1) rfl rfl (by kernel_rfl)) rfl rfl rfl (fun _ _ _ _ h => h) ?_; clear E a; intro a E; refine C_val E HK (pk_load1 HS 3 rfl rfl rfl (HS.inS 3 rfl (by simp)) rfl (by kernel_rfl)) rfl rfl rfl (fun _ _ _ _ h => h) ?_; clear E a; intro a E; refine C_val E HK (pk_move rfl rfl) rfl rfl rfl (fun _ _ _ _ h => h) ?_; clear E a; intro a E; refine C_eff E rfl (fun K hK => ?_); refine eff_call E rfl rfl rfl (by kernel_rfl) ?_; refine (clone_sep H.xk (H.fact 4 rfl)).mono ?_; rintro e w ⟨A69, c69, rfl, H1⟩
                  have F := H1.frm
                  replace H := H.call H1
                  clear H1; replace H : Sep _ _ _ _ [_, _, _, _] [_, _, _, _, _, _, _] := H
                  have hk := keep_frm (D := []) F hsz (by simp)
                  refine hK _ _ hk ?_; clear hK K
                  replace HK := HK.trans hk
                  replace hsz := Nat.le_trans hsz (F).size
                  clear hk; refine C_put E rfl rfl ?_; clear E a; intro a E; clear F; refine C_eff E rfl (fun K hK => ?_); refine eff_bslice (sz := 1) (z := [.one (.slice none 0 0)]) E H rfl Try.underlying22 (by kernel_rfl) (by decide) (by kernel_rfl) ⟨_, [.one _], 0, _, rfl, rfl, rfl, rfl, rfl⟩ ?_; clear H; intro b70 w H F
                  have hk := keep_frm (D := []) F hsz (by simp)
                  refine hK _ _ hk ?_; clear hK K
                  replace HK := HK.trans hk
                  replace hsz := Nat.le_trans hsz (F).size
                  clear hk; refine C_put E rfl rfl ?_; clear E a; intro a E; clear F; refine CanB.wpCan_nil ?_
                  try (simp only [List.take_succ_cons, List.take_zero, List.drop_succ_cons, List.drop_zero])
                  clear HS HK hsz; refine S_eff E rfl (fun K hK => ?_); refine eff_app1 (T := TextT) (q := ((text, (A69, c69)) : List Nat × TextT.μ)) (its := ds) 2 0 (by_ := 24) E H rfl rfl rfl rfl rfl rfl ⟨Try.underlying22, by kernel_rfl⟩ (by omega) (by omega) ?_; clear H; intro A71 c71 w hcap71 H F; replace H : Sep _ _ _ _ [_, _, _, _, _] _ := H; refine hK _ _ ?_; clear hK K; refine S_put E rfl rfl ?_; clear E a; intro a E; clear F; refine S_val E (pk_fieldAddr (off := 1) rfl rfl (by kernel_rfl)) rfl rfl rfl ?_; clear E a; intro a E; refine S_eff E rfl (fun K hK => ?_); refine eff_store 4 (new := [.one _]) E H rfl rfl rfl rfl rfl (by repeat (first | exact trivial | refine ⟨rfl, ?_⟩ | refine ⟨fun _ _ => rfl, ?_⟩)) rfl (by kernel_rfl) rfl ?_; clear H; intro w H _; replace H : Sep _ _ _ _ [_, _, _, _, _] _ := H; refine hK _ _ ?_; clear hK K; refine S_put0 rfl ?_
                  refine hK21 _ _ ?_; refine S_region ?_; refine S_val E (pk_fieldAddr (off := 0) rfl rfl (by kernel_rfl)) rfl rfl rfl ?_; clear E a; intro a E; refine S_val E (pk_load1 H 4 rfl rfl rfl trivial rfl (by kernel_rfl)) rfl rfl rfl ?_; clear E a; intro a E; refine S_val E (pk_intw rfl rfl rfl rfl (wU64 (by omega) (by omega))) rfl rfl rfl ?_; clear E a; intro a E; refine S_val E (pk_fieldAddr (off := 0) rfl rfl (by kernel_rfl)) rfl rfl rfl ?_; clear E a; intro a E; refine S_eff E rfl (fun K hK => ?_); refine eff_store 4 (new := [.one _]) E H rfl rfl rfl rfl rfl (by repeat (first | exact trivial | refine ⟨rfl, ?_⟩ | refine ⟨fun _ _ => rfl, ?_⟩)) rfl (by kernel_rfl) rfl ?_; clear H; intro w H _; replace H : Sep _ _ _ _ [_, _, _, _, _] _ := H; refine hK _ _ ?_; clear hK K; refine S_put0 rfl ?_
                  replace H := H.popL
                  refine hK19 _ _ ?_; refine wp_seq_k fun K22 hK22 => ?_; refine wp_seq_k fun K23 hK23 => ?_; refine S_region ?_; refine S_val E (pk_move rfl rfl) rfl rfl rfl ?_; clear E a; intro a E; refine S_val E (pk_len rfl rfl (by kernel_rfl)) rfl rfl rfl ?_; clear E a; intro a E; refine S_val E (pk_move rfl rfl) rfl rfl rfl ?_; clear E a; intro a E; refine hK23 _ _ ?_; refine wp_block ?_
                  have H0 : Sep X [] w0 w [.row (.slice WA9 (es).length wc9) 49 3 (es).length (rowC LtrT (es)), .row (.slice A71 (ds ++ [((text, (A69, c69)) : List Nat × TextT.μ)]).length c71) 23 1 (ds ++ [((text, (A69, c69)) : List Nat × TextT.μ)]).length (rowC TextT ((ds ++ [((text, (A69, c69)) : List Nat × TextT.μ)]))), .blk b6 (ca [.one (.int .u64 0), .one (.slice none 0 0), .one (.slice none 0 0), .one (.int .i64 0)]) 30, .blk b3 (ca [.one (.int .u64 (ep + 1)), .one (.slice A71 (ds ++ [((text, (A69, c69)) : List Nat × TextT.μ)]).length c71), .one (.slice WA9 (es).length wc9), .one (.int .i64 nx)]) 30] [NestF LtrT (es), NestF TextT (ds ++ [((text, (A69, c69)) : List Nat × TextT.μ)]), LiF TextT LA lc log lm, LiF LtrT WA wc wait wm, TxF TA tc text, LiF IntT OA oc tos om] := H.refacts (List.forall_mem_cons.2 ⟨H.fact 1 rfl, List.forall_mem_cons.2 ⟨nest_snoc (q := ((text, (A69, c69)) : List Nat × TextT.μ)) (H.fact 2 rfl) (H.fact 0 rfl), List.forall_mem_cons.2 ⟨H.fact 3 rfl, List.forall_mem_cons.2 ⟨H.fact 4 rfl, List.forall_mem_cons.2 ⟨H.fact 5 rfl, List.forall_mem_cons.2 ⟨H.fact 6 rfl, List.forall_mem_nil _⟩⟩⟩⟩⟩⟩)
                  refine S_loopI (γ := Option Addr × Nat × List (Ltr × LtrT.μ)) [1, 3, 6, 77, 78] (fun g => [(79, .int .i64 (g.2.2.length : Int))]) (fun g => [.row (.slice g.1 (es ++ g.2.2).length g.2.1) 49 3 (es ++ g.2.2).length (rowC LtrT (es ++ g.2.2)), .row (.slice A71 (ds ++ [((text, (A69, c69)) : List Nat × TextT.μ)]).length c71) 23 1 (ds ++ [((text, (A69, c69)) : List Nat × TextT.μ)]).length (rowC TextT ((ds ++ [((text, (A69, c69)) : List Nat × TextT.μ)]))), .blk b6 (ca [.one (.int .u64 0), .one (.slice none 0 0), .one (.slice none 0 0), .one (.int .i64 0)]) 30, .blk b3 (ca [.one (.int .u64 (ep + 1)), .one (.slice A71 (ds ++ [((text, (A69, c69)) : List Nat × TextT.μ)]).length c71), .one (.slice g.1 (es ++ g.2.2).length g.2.1), .one (.int .i64 (nx + (g.2.2.length : Int)))]) 30]) (fun g => [NestF LtrT (es ++ g.2.2), NestF TextT (ds ++ [((text, (A69, c69)) : List Nat × TextT.μ)]), LiF TextT LA lc log lm, LiF LtrT WA wc wait wm, TxF TA tc text, LiF IntT OA oc tos om]) (fun g => g.2.2.length ≤ tos.length ∧ g.2.2.map Prod.fst = (lettersV nx tos text).take g.2.2.length) (fun g => tos.length - g.2.2.length) ((WA9, wc9, [])) E (by simpa using H0) (by repeat (first | exact trivial | refine ⟨rfl, ?_⟩)) (⟨Nat.zero_le _, rfl⟩) ?_
                  clear E H; intro g a w E H hφ; replace E : Env a _ [(79, _), (1, _), (3, _), (6, _), (77, _), (78, _)] := E; replace H : Sep _ _ _ _ [_, _, _, _] [_, _, _, _, _, _] := H
                  obtain ⟨gA, gc, ns⟩ := g
                  simp only at E H hφ ⊢
                  refine wp_seq_k fun K24 hK24 => ?_; refine S_region ?_; refine S_val E (pk_int rfl rfl rfl rfl) rfl rfl rfl ?_; clear E a; intro a E; refine hK24 _ _ ?_; refine wp_seq_k fun K25 hK25 => ?_; refine env_split (d := 80) E rfl ?_ ?_
                  · skip
                    clear E; intro c80 E
                    have hk : ns.length < tos.length := by simpa using c80
                    have hx0 : tos[ns.length]? = some tos[ns.length] := List.getElem?_eq_getElem hk
                    have hx1 : (lettersV nx tos text)[ns.length]? = some ⟨nx + (ns.length : Int), tos[ns.length], text⟩ := by simp [lettersV, hx0]
                    refine S_then E rfl ?_; refine wp_skip ?_; refine hK25 _ _ ?_; refine wp_seq_k fun K26 hK26 => ?_; refine wp_block ?_; refine wp_seq_k fun K27 hK27 => ?_; refine S_region ?_
                    obtain ⟨ad81, hA81, hc81, hn81⟩ := LiF.get (A := OA) (T := IntT) (i := ns.length) (x := tos[ns.length]) (by exact H.fact 5 rfl) hx0
                    refine S_val E (pk_elA (sz := 1) hA81 rfl (by kernel_rfl) rfl rfl rfl (by omega)) rfl rfl rfl ?_; clear E a; intro a E
                    replace H := (H.know hn81).know hc81
                    clear hn81 hc81; replace H : Sep _ _ _ _ _ [_, _, _, _, _, _, _, _] := H; refine S_val E (pk_loadE1 (H.fact 0 rfl) (fun _ _ _ => trivial) rfl rfl rfl (by kernel_rfl)) rfl rfl rfl ?_; clear E a; intro a E; refine S_val E (pk_assign rfl rfl) rfl rfl rfl ?_; clear E a; intro a E; refine hK27 _ _ ?_; refine wp_seq_k fun K28 hK28 => ?_; refine C_region E H [] 9 [(0, false), (1, false), (2, false), (3, false), (4, false), (5, false), (6, true), (7, false), (8, true)] (by kernel_rfl) (by kernel_rfl) (fun w HS => ?_)
                    (simp only [canOps, List.getElem?_cons_zero, List.getElem?_cons_succ, List.drop_succ_cons, List.drop_zero])
                    clear H
                    have H := HS
                    have hsz : w.heap.size ≤ w.heap.size := Nat.le_refl _
                    have HK : CanB.Keep (fun k => k < w.heap.size ∧ k ∉ []) w w := CanB.Keep.refl _ _
                    refine C_val E HK (pk_fieldAddr (off := 2) rfl rfl (by kernel_rfl)) rfl rfl rfl (fun _ _ _ _ h => h) ?_; clear E a; intro a E; refine C_val E HK (pk_load1 HS 3 rfl rfl rfl (HS.inS 3 rfl (by simp)) rfl (by kernel_rfl)) rfl rfl rfl (fun _ _ _ _ h => h) ?_; clear E a; intro a E; refine C_val E HK (pk_fieldAddr (off := 3) rfl rfl (by kernel_rfl)) rfl rfl rfl (fun _ _ _ _ h => h) ?_; clear E a; intro a E; refine C_val E HK (pk_load1 HS 3 rfl rfl rfl (HS.inS 3 rfl (by simp)) rfl (by kernel_rfl)) rfl rfl rfl (fun _ _ _ _ h => h) ?_; clear E a; intro a E; refine C_val E HK (pk_move rfl rfl) rfl rfl rfl (fun _ _ _ _ h => h) ?_; clear E a; intro a E; refine C_val E HK (pk_move rfl rfl) rfl rfl rfl (fun _ _ _ _ h => h) ?_; clear E a; intro a E; refine C_eff E rfl (fun K hK => ?_); refine eff_call E rfl rfl rfl (by kernel_rfl) ?_; refine (clone_sep H.xk (H.fact 6 rfl)).mono ?_
                    rintro e w ⟨A89, c89, rfl, H1⟩
                    have F := H1.frm
                    replace H := H.call H1
                    clear H1; replace H : Sep _ _ _ _ [_, _, _, _] [_, _, _, _, _, _, _, _, _] := H
                    have hk := keep_frm (D := []) F hsz (by simp)
                    refine hK _ _ hk ?_; clear hK K
                    replace HK := HK.trans hk
                    replace hsz := Nat.le_trans hsz (F).size
                    clear hk; refine C_put E rfl rfl ?_; clear E a; intro a E; clear F; refine C_val E HK (pk_build (z := [.one (.int .i64 0), .one (.int .i64 0), .one (.slice none 0 0)]) rfl (by kernel_rfl) (by kernel_rfl) ⟨_, [.one _], 0, _, rfl, rfl, (by kernel_rfl), rfl, ⟨_, [.one _], 1, _, rfl, rfl, (by kernel_rfl), rfl, ⟨_, [.one _], 2, _, rfl, rfl, (by kernel_rfl), rfl, rfl⟩⟩⟩) rfl rfl rfl (fun _ _ _ _ h => h) ?_; clear E a; intro a E; refine C_eff E rfl (fun K hK => ?_); refine eff_bslice (sz := 3) (z := [.one (.int .i64 0), .one (.int .i64 0), .one (.slice none 0 0)]) E H rfl Try.underlying28 (by kernel_rfl) (by decide) (by kernel_rfl) ⟨_, _, 0, _, rfl, rfl, rfl, rfl, rfl⟩ ?_; clear H; intro b91 w H F
                    have hk := keep_frm (D := []) F hsz (by simp)
                    refine hK _ _ hk ?_; clear hK K
                    replace HK := HK.trans hk
                    replace hsz := Nat.le_trans hsz (F).size
                    clear hk; refine C_put E rfl rfl ?_; clear E a; intro a E; clear F; refine CanB.wpCan_nil ?_
                    try (simp only [List.take_succ_cons, List.take_zero, List.drop_succ_cons, List.drop_zero])
                    clear HS HK hsz; refine S_eff E rfl (fun K hK => ?_); refine eff_app1 (T := LtrT) (q := (((⟨nx + (ns.length : Int), tos[ns.length], text⟩ : Ltr), (A89, c89)) : Ltr × LtrT.μ)) (its := es ++ ns) 1 0 (by_ := 40) E H rfl rfl rfl rfl rfl rfl ⟨Try.underlying28, by kernel_rfl⟩ (by simp only [List.length_append]; omega) (by simp only [List.length_append]; omega) ?_; clear H; intro A92 c92 w hcap92 H F; replace H : Sep _ _ _ _ [_, _, _, _, _] _ := H; refine hK _ _ ?_; clear hK K; refine S_put E rfl rfl ?_; clear E a; intro a E; clear F; refine S_val E (pk_fieldAddr (off := 2) rfl rfl (by kernel_rfl)) rfl rfl rfl ?_; clear E a; intro a E; refine S_eff E rfl (fun K hK => ?_); refine eff_store 4 (new := [.one _]) E H rfl rfl rfl rfl rfl (by repeat (first | exact trivial | refine ⟨rfl, ?_⟩ | refine ⟨fun _ _ => rfl, ?_⟩)) rfl (by kernel_rfl) rfl ?_; clear H
                    intro w H _; replace H : Sep _ _ _ _ [_, _, _, _, _] _ := H; refine hK _ _ ?_; clear hK K; refine S_put0 rfl ?_; refine hK28 _ _ ?_; refine S_region ?_; refine S_val E (pk_fieldAddr (off := 3) rfl rfl (by kernel_rfl)) rfl rfl rfl ?_; clear E a; intro a E; refine S_val E (pk_load1 H 4 rfl rfl rfl trivial rfl (by kernel_rfl)) rfl rfl rfl ?_; clear E a; intro a E; refine S_val E (pk_intw rfl rfl rfl rfl (wI64 (by omega) (by omega))) rfl rfl rfl ?_; clear E a; intro a E; refine S_val E (pk_fieldAddr (off := 3) rfl rfl (by kernel_rfl)) rfl rfl rfl ?_; clear E a; intro a E; refine S_eff E rfl (fun K hK => ?_); refine eff_store 4 (new := [.one _]) E H rfl rfl rfl rfl rfl (by repeat (first | exact trivial | refine ⟨rfl, ?_⟩ | refine ⟨fun _ _ => rfl, ?_⟩)) rfl (by kernel_rfl) rfl ?_; clear H; intro w H _; replace H : Sep _ _ _ _ [_, _, _, _, _] _ := H; refine hK _ _ ?_
                    clear hK K; refine S_put0 rfl ?_; refine hK26 _ _ ?_; refine S_region ?_; refine S_val E (pk_intw rfl rfl rfl rfl (wI64 (by omega) (by omega))) rfl rfl rfl ?_; clear E a; intro a E; refine S_val E (pk_move rfl rfl) rfl rfl rfl ?_; clear E a; intro a E
                    replace H := (H.refacts (List.forall_mem_cons.2 ⟨nest_snoc (q := (((⟨nx + (ns.length : Int), tos[ns.length], text⟩ : Ltr), (A89, c89)) : Ltr × LtrT.μ)) (H.fact 3 rfl) (H.fact 0 rfl), List.forall_mem_cons.2 ⟨H.fact 4 rfl, List.forall_mem_cons.2 ⟨H.fact 5 rfl, List.forall_mem_cons.2 ⟨H.fact 6 rfl, List.forall_mem_cons.2 ⟨H.fact 7 rfl, List.forall_mem_cons.2 ⟨H.fact 8 rfl, List.forall_mem_nil _⟩⟩⟩⟩⟩⟩)).popL
                    rw [List.append_assoc, show nx + (ns.length : Int) + 1 = nx + ((ns ++ [(((⟨nx + (ns.length : Int), tos[ns.length], text⟩ : Ltr), (A89, c89)) : Ltr × LtrT.μ)]).length : Int) by rw [List.length_append]; simp; omega] at H
                    refine loop_end ?_
                    exact ⟨(A92, c92, ns ++ [(((⟨nx + (ns.length : Int), tos[ns.length], text⟩ : Ltr), (A89, c89)) : Ltr × LtrT.μ)]), ⟨E.to (by simp only [List.length_append, List.length_singleton]; repeat (first | exact trivial | refine ⟨rfl, ?_⟩)), H, ⟨by simp only [List.length_append, List.length_singleton]; omega, take_done hφ.2 hx1⟩⟩, by simp only [List.length_append, List.length_singleton]; omega⟩
                  · skip
                    clear E; intro c80 E
                    have hk : ¬ ns.length < tos.length := by simpa using c80
                    refine S_else E rfl ?_; refine wp_exit ?_
                    repeat (first | refine then_exit ?_ | refine block_hit ?_ | refine block_miss (by decide) ?_)
                    refine hK22 _ _ ?_; refine wp_seq_k fun K29 hK29 => ?_; refine S_region ?_; refine S_val E (pk_load (n := 4) H 3 rfl rfl rfl trivial rfl (by kernel_rfl)) rfl rfl rfl ?_; clear E a; intro a E; refine S_eff E rfl (fun K hK => ?_); refine eff_store 2 E H rfl rfl rfl rfl rfl (by repeat (first | exact trivial | refine ⟨rfl, ?_⟩ | refine ⟨fun _ _ => rfl, ?_⟩)) rfl (by kernel_rfl) rfl ?_; clear H; intro w H _; replace H : Sep _ _ _ _ [_, _, _, _] _ := H; refine hK _ _ ?_; clear hK K; refine S_put0 rfl ?_; refine S_val E (pk_assign rfl rfl) rfl rfl rfl ?_; clear E a; intro a E; refine hK29 _ _ ?_; refine wp_ret ?_
                    repeat (first | refine then_ret ?_ | refine block_ret ?_)
                    refine ret2 rfl E (by exact resC (n := 4) H 2 rfl rfl rfl (by kernel_rfl)) (resT rfl) ?_
                    have hns : ns.length = tos.length := by omega
                    have hnm : ns.map Prod.fst = lettersV nx tos text := by rw [hφ.2, hns, show tos.length = (lettersV nx tos text).length by simp [lettersV], List.take_length]
                    have hP : postV ⟨ep, log, wait, nx⟩ text tos = (⟨ep + 1, log ++ [text], wait ++ lettersV nx tos text, nx + (tos.length : Int)⟩, 0) := by
                      unfold postV; rw [if_neg (show ¬(okS ⟨ep, log, wait, nx⟩ = false ∨ tos.any farB = true) by rw [hok, hfar]; simp)]; rw [if_neg hk0]; rw [if_neg hold]; rw [if_neg hfull]; rw [if_pos hcm, if_pos hcm]
                    obtain ⟨lm2, HL⟩ := (H.at_ 1 _ rfl).freezeL (xs := log ++ [text]) rfl (by simp) (by rw [List.map_append, hds]; rfl)
                    have e1 : (ds ++ [((text, (A69, c69)) : List Nat × TextT.μ)]).length = (log ++ [text]).length := by rw [List.length_append, List.length_append, ← hds, List.length_map]; rfl
                    have e2 : (es ++ ns).length = (wait ++ lettersV nx tos text).length := by rw [← hes, ← hnm, ← List.map_append, List.length_map]
                    rw [hP]
                    refine ⟨A71, c71, lm2, gA, gc, es ++ ns, by rw [List.map_append, hes, hnm], ?_, HL.keepLR (L := [_]) (R := [_, _])⟩
                    rw [e1, hns]
      · skip
        clear E; intro c10 E
        have hcm : ¬ kindV text = 1 := ne_of_beq_false c10
        refine hK6 _ _ ?_; refine wp_seq_k fun K30 hK30 => ?_; refine wp_block ?_; refine wp_seq_k fun K31 hK31 => ?_; refine S_region ?_; refine S_val E (pk_move rfl rfl) rfl rfl rfl ?_; clear E a; intro a E; refine S_val E (pk_int rfl rfl rfl rfl) rfl rfl rfl ?_; clear E a; intro a E; refine S_val E (pk_assign rfl rfl) rfl rfl rfl ?_; clear E a; intro a E; refine hK31 _ _ ?_; refine env_split (d := 28) E rfl ?_ ?_
        · skip
          clear E; intro c28 E
          have hk0 : kindV text = 0 := eq_of_beq c28
          refine S_then E rfl ?_; refine wp_seq_k fun K32 hK32 => ?_; refine S_region ?_; refine S_val E (pk_build (z := [.one (.int .u64 0), .one (.slice none 0 0), .one (.slice none 0 0), .one (.int .i64 0)]) rfl (by kernel_rfl) (by kernel_rfl) rfl) rfl rfl rfl ?_; clear E a; intro a E; refine S_eff E rfl (fun K hK => ?_); refine eff_store 0 E H rfl rfl rfl rfl rfl (by repeat (first | exact trivial | refine ⟨rfl, ?_⟩ | refine ⟨fun _ _ => rfl, ?_⟩)) rfl (by kernel_rfl) rfl ?_; clear H; intro w H _; replace H : Sep _ _ _ _ [_, _] _ := H; refine hK _ _ ?_; clear hK K; refine S_put0 rfl ?_; refine S_val E (pk_assign rfl rfl) rfl rfl rfl ?_; clear E a; intro a E; refine hK32 _ _ ?_; refine wp_ret ?_
          repeat (first | refine then_ret ?_ | refine block_ret ?_)
          refine ret2 rfl E (by exact resC (n := 4) H 0 rfl rfl rfl (by kernel_rfl)) (resT rfl) ?_
          have hP : postV ⟨ep, log, wait, nx⟩ text tos = (noSrv, 3) := by
            unfold postV; rw [if_neg (show ¬(okS ⟨ep, log, wait, nx⟩ = false ∨ tos.any farB = true) by rw [hok, hfar]; simp)]; exact if_pos hk0
          rw [hP]
          exact ⟨none, 0, fun _ => TextT.dft, none, 0, [], rfl, rfl, (((H.keepLR (L := []) (R := [])).know nest_nil).know liF_nil).rownil _ _⟩
        · skip
          clear E; intro c28 E
          have hk0 : ¬ kindV text = 0 := ne_of_beq_false c28
          refine S_else E rfl ?_; refine wp_seq_k fun K33 hK33 => ?_; refine S_region ?_; refine S_val E (pk_move rfl rfl) rfl rfl rfl ?_; clear E a; intro a E; refine S_val E (pk_move rfl rfl) rfl rfl rfl ?_; clear E a; intro a E; refine S_skip E rfl rfl rfl ?_; clear E a; intro a E; refine S_skip E rfl rfl rfl ?_; clear E a; intro a E; refine S_skip E rfl rfl rfl ?_; clear E a; intro a E; refine S_skip E rfl rfl rfl ?_; clear E a; intro a E; refine S_val E (pk_pick rfl rfl rfl) rfl rfl rfl ?_; clear E a; intro a E; refine S_val E (pk_assign rfl rfl) rfl rfl rfl ?_; clear E a; intro a E; refine hK33 _ _ ?_; refine S_else E rfl ?_; refine wp_seq_k fun K34 hK34 => ?_; refine wp_seq_k fun K35 hK35 => ?_; refine S_region ?_; refine S_val E (pk_move rfl rfl) rfl rfl rfl ?_; clear E a; intro a E; refine S_val E (pk_move rfl rfl) rfl rfl rfl ?_; clear E a; intro a E
          refine S_skip E rfl rfl rfl ?_; clear E a; intro a E; refine S_skip E rfl rfl rfl ?_; clear E a; intro a E; refine S_skip E rfl rfl rfl ?_; clear E a; intro a E; refine S_skip E rfl rfl rfl ?_; clear E a; intro a E; refine S_val E (pk_pick rfl rfl rfl) rfl rfl rfl ?_; clear E a; intro a E; refine S_val E (pk_assign rfl rfl) rfl rfl rfl ?_; clear E a; intro a E; refine hK35 _ _ ?_; refine S_else E rfl ?_; refine wp_seq_k fun K36 hK36 => ?_; refine S_region ?_; refine S_val E (pk_move rfl rfl) rfl rfl rfl ?_; clear E a; intro a E; refine S_val E (pk_len rfl rfl (by kernel_rfl)) rfl rfl rfl ?_; clear E a; intro a E; refine S_val E (pk_fieldAddr (off := 2) rfl rfl (by kernel_rfl)) rfl rfl rfl ?_; clear E a; intro a E; refine S_val E (pk_load1 H 1 rfl rfl rfl trivial rfl (by kernel_rfl)) rfl rfl rfl ?_; clear E a; intro a E
          refine S_val E (pk_len rfl rfl (by kernel_rfl)) rfl rfl rfl ?_; clear E a; intro a E; refine S_val E (pk_intw rfl rfl rfl rfl (wI64 (by omega) (by omega))) rfl rfl rfl ?_; clear E a; intro a E; refine S_val E (pk_int rfl rfl rfl rfl) rfl rfl rfl ?_; clear E a; intro a E; refine S_val E (pk_assign rfl rfl) rfl rfl rfl ?_; clear E a; intro a E; refine hK36 _ _ ?_; refine env_split (d := 41) E rfl ?_ ?_
          · skip
            clear E; intro c41 E; refine S_then E rfl ?_; refine wp_skip ?_; refine hK34 _ _ ?_; refine S_then E rfl ?_; refine wp_seq_k fun K37 hK37 => ?_; refine S_region ?_; refine S_val E (pk_build (z := [.one (.int .u64 0), .one (.slice none 0 0), .one (.slice none 0 0), .one (.int .i64 0)]) rfl (by kernel_rfl) (by kernel_rfl) rfl) rfl rfl rfl ?_; clear E a; intro a E; refine S_eff E rfl (fun K hK => ?_); refine eff_store 0 E H rfl rfl rfl rfl rfl (by repeat (first | exact trivial | refine ⟨rfl, ?_⟩ | refine ⟨fun _ _ => rfl, ?_⟩)) rfl (by kernel_rfl) rfl ?_; clear H; intro w H _; replace H : Sep _ _ _ _ [_, _] _ := H; refine hK _ _ ?_; clear hK K; refine S_put0 rfl ?_; refine S_val E (pk_assign rfl rfl) rfl rfl rfl ?_; clear E a; intro a E; refine hK37 _ _ ?_; refine wp_ret ?_
            repeat (first | refine then_ret ?_ | refine block_ret ?_)
            refine ret2 rfl E (by exact resC (n := 4) H 0 rfl rfl rfl (by kernel_rfl)) (resT rfl) ?_
            have hP : postV ⟨ep, log, wait, nx⟩ text tos = (noSrv, 8) := by
              unfold postV; rw [if_neg (show ¬(okS ⟨ep, log, wait, nx⟩ = false ∨ tos.any farB = true) by rw [hok, hfar]; simp)]; rw [if_neg hk0]; rw [if_neg (show ¬(kindV text = 1 ∧ epV text ≠ (⟨ep, log, wait, nx⟩ : Srv).ep) by rintro ⟨h, _⟩; exact hcm h)]; exact if_pos (by simp only; simp only [decide_eq_true_eq, beq_iff_eq] at *; omega)
            rw [hP]
            exact ⟨none, 0, fun _ => TextT.dft, none, 0, [], rfl, rfl, (((H.keepLR (L := []) (R := [])).know nest_nil).know liF_nil).rownil _ _⟩
          · skip
            clear E; intro c41 E; refine S_else E rfl ?_; refine S_region ?_; refine S_val E (pk_move rfl rfl) rfl rfl rfl ?_; clear E a; intro a E; refine S_val E (pk_len rfl rfl (by kernel_rfl)) rfl rfl rfl ?_; clear E a; intro a E; refine S_val E (pk_fieldAddr (off := 3) rfl rfl (by kernel_rfl)) rfl rfl rfl ?_; clear E a; intro a E; refine S_val E (pk_load1 H 1 rfl rfl rfl trivial rfl (by kernel_rfl)) rfl rfl rfl ?_; clear E a; intro a E; refine S_val E (pk_intw rfl rfl rfl rfl (wI64 (by omega) (by omega))) rfl rfl rfl ?_; clear E a; intro a E; refine S_val E (pk_int rfl rfl rfl rfl) rfl rfl rfl ?_; clear E a; intro a E; refine S_val E (pk_assign rfl rfl) rfl rfl rfl ?_; clear E a; intro a E; refine hK34 _ _ ?_; refine env_split (d := 41) E rfl ?_ ?_
            · skip
              clear E; intro c41 E; refine S_then E rfl ?_; refine wp_seq_k fun K38 hK38 => ?_; refine S_region ?_; refine S_val E (pk_build (z := [.one (.int .u64 0), .one (.slice none 0 0), .one (.slice none 0 0), .one (.int .i64 0)]) rfl (by kernel_rfl) (by kernel_rfl) rfl) rfl rfl rfl ?_; clear E a; intro a E; refine S_eff E rfl (fun K hK => ?_); refine eff_store 0 E H rfl rfl rfl rfl rfl (by repeat (first | exact trivial | refine ⟨rfl, ?_⟩ | refine ⟨fun _ _ => rfl, ?_⟩)) rfl (by kernel_rfl) rfl ?_; clear H; intro w H _; replace H : Sep _ _ _ _ [_, _] _ := H; refine hK _ _ ?_; clear hK K; refine S_put0 rfl ?_; refine S_val E (pk_assign rfl rfl) rfl rfl rfl ?_; clear E a; intro a E; refine hK38 _ _ ?_; refine wp_ret ?_
              repeat (first | refine then_ret ?_ | refine block_ret ?_)
              refine ret2 rfl E (by exact resC (n := 4) H 0 rfl rfl rfl (by kernel_rfl)) (resT rfl) ?_
              have hP : postV ⟨ep, log, wait, nx⟩ text tos = (noSrv, 8) := by
                unfold postV; rw [if_neg (show ¬(okS ⟨ep, log, wait, nx⟩ = false ∨ tos.any farB = true) by rw [hok, hfar]; simp)]; rw [if_neg hk0]; rw [if_neg (show ¬(kindV text = 1 ∧ epV text ≠ (⟨ep, log, wait, nx⟩ : Srv).ep) by rintro ⟨h, _⟩; exact hcm h)]; exact if_pos (by simp only; simp only [decide_eq_true_eq, beq_iff_eq] at *; omega)
              rw [hP]
              exact ⟨none, 0, fun _ => TextT.dft, none, 0, [], rfl, rfl, (((H.keepLR (L := []) (R := [])).know nest_nil).know liF_nil).rownil _ _⟩
            · skip
              clear E; intro c41 E; refine S_else E rfl ?_; refine wp_skip ?_; refine hK30 _ _ ?_; refine wp_seq_k fun K39 hK39 => ?_
              have hold : ¬(kindV text = 1 ∧ epV text ≠ (⟨ep, log, wait, nx⟩ : Srv).ep) := by rintro ⟨h, _⟩; exact hcm h
              have hfull : ¬((kindV text = 1 ∧ (⟨ep, log, wait, nx⟩ : Srv).log.length = 2000) ∨ 20000 < (⟨ep, log, wait, nx⟩ : Srv).wait.length + tos.length ∨ 1099511627776 < (⟨ep, log, wait, nx⟩ : Srv).nx + (tos.length : Int)) := by
                simp only
                simp only [decide_eq_false_iff_not, beq_eq_false_iff_ne, ne_eq] at *
                omega
              refine S_region ?_; refine S_val E (pk_load (n := 4) H 1 rfl rfl rfl trivial rfl (by kernel_rfl)) rfl rfl rfl ?_; clear E a; intro a E; refine S_eff E rfl (fun K hK => ?_); refine eff_call E rfl rfl rfl (by kernel_rfl) ?_; refine (own_any (by omega) (by omega) H.xk (H.fact 0 rfl) (H.fact 1 rfl)).mono ?_; rintro e w ⟨LA9, lc9, WA9, wc9, ds, es, hds, hes, rfl, H1⟩
              replace H := H.call H1
              clear H1; replace H : Sep _ _ _ _ [_, _, _, _] [_, _, _, _, _, _] := H; refine hK _ _ ?_; clear hK K; refine S_put E rfl rfl ?_; clear E a; intro a E
              have hds2 : ds.length = log.length := by rw [← hds, List.length_map]
              have hes2 : es.length = wait.length := by rw [← hes, List.length_map]
              refine S_eff E rfl (fun K hK => ?_); refine eff_store 3 E H rfl rfl rfl rfl rfl (by repeat (first | exact trivial | refine ⟨rfl, ?_⟩ | refine ⟨fun _ _ => rfl, ?_⟩)) rfl (by kernel_rfl) rfl ?_; clear H; intro w H _; replace H : Sep _ _ _ _ [_, _, _, _] _ := H; refine hK _ _ ?_; clear hK K; refine S_put0 rfl ?_; refine hK39 _ _ ?_; refine wp_seq_k fun K40 hK40 => ?_; refine wp_seq_k fun K41 hK41 => ?_; refine S_region ?_; refine S_val E (pk_move rfl rfl) rfl rfl rfl ?_; clear E a; intro a E; refine hK41 _ _ ?_; refine S_else E rfl ?_; refine wp_skip ?_; refine hK40 _ _ ?_; refine wp_seq_k fun K42 hK42 => ?_; refine wp_seq_k fun K43 hK43 => ?_; refine S_region ?_; refine S_val E (pk_move rfl rfl) rfl rfl rfl ?_; clear E a; intro a E; refine S_val E (pk_len rfl rfl (by kernel_rfl)) rfl rfl rfl ?_; clear E a; intro a E; refine S_val E (pk_move rfl rfl) rfl rfl rfl ?_; clear E a
              intro a E; refine hK43 _ _ ?_; refine wp_block ?_
              have H0 : Sep X [] w0 w [.row (.slice WA9 (es).length wc9) 49 3 (es).length (rowC LtrT (es)), .row (.slice LA9 ds.length lc9) 23 1 ds.length (rowC TextT (ds)), .blk b6 (ca [.one (.int .u64 0), .one (.slice none 0 0), .one (.slice none 0 0), .one (.int .i64 0)]) 30, .blk b3 (ca [.one (.int .u64 ep), .one (.slice LA9 ds.length lc9), .one (.slice WA9 (es).length wc9), .one (.int .i64 nx)]) 30] [NestF LtrT (es), NestF TextT ds, LiF TextT LA lc log lm, LiF LtrT WA wc wait wm, TxF TA tc text, LiF IntT OA oc tos om] := H
              refine S_loopI (γ := Option Addr × Nat × List (Ltr × LtrT.μ)) [1, 3, 6, 77, 78] (fun g => [(79, .int .i64 (g.2.2.length : Int))]) (fun g => [.row (.slice g.1 (es ++ g.2.2).length g.2.1) 49 3 (es ++ g.2.2).length (rowC LtrT (es ++ g.2.2)), .row (.slice LA9 ds.length lc9) 23 1 ds.length (rowC TextT (ds)), .blk b6 (ca [.one (.int .u64 0), .one (.slice none 0 0), .one (.slice none 0 0), .one (.int .i64 0)]) 30, .blk b3 (ca [.one (.int .u64 ep), .one (.slice LA9 ds.length lc9), .one (.slice g.1 (es ++ g.2.2).length g.2.1), .one (.int .i64 (nx + (g.2.2.length : Int)))]) 30]) (fun g => [NestF LtrT (es ++ g.2.2), NestF TextT ds, LiF TextT LA lc log lm, LiF LtrT WA wc wait wm, TxF TA tc text, LiF IntT OA oc tos om]) (fun g => g.2.2.length ≤ tos.length ∧ g.2.2.map Prod.fst = (lettersV nx tos text).take g.2.2.length) (fun g => tos.length - g.2.2.length) ((WA9, wc9, [])) E (by simpa using H0) (by repeat (first | exact trivial | refine ⟨rfl, ?_⟩)) (⟨Nat.zero_le _, rfl⟩) ?_
              clear E H; intro g a w E H hφ; replace E : Env a _ [(79, _), (1, _), (3, _), (6, _), (77, _), (78, _)] := E; replace H : Sep _ _ _ _ [_, _, _, _] [_, _, _, _, _, _] := H
              obtain ⟨gA, gc, ns⟩ := g
              simp only at E H hφ ⊢
              refine wp_seq_k fun K44 hK44 => ?_; refine S_region ?_; refine S_val E (pk_int rfl rfl rfl rfl) rfl rfl rfl ?_; clear E a; intro a E; refine hK44 _ _ ?_; refine wp_seq_k fun K45 hK45 => ?_; refine env_split (d := 80) E rfl ?_ ?_
              · skip
                clear E; intro c80 E
                have hk : ns.length < tos.length := by simpa using c80
                have hx0 : tos[ns.length]? = some tos[ns.length] := List.getElem?_eq_getElem hk
                have hx1 : (lettersV nx tos text)[ns.length]? = some ⟨nx + (ns.length : Int), tos[ns.length], text⟩ := by simp [lettersV, hx0]
                refine S_then E rfl ?_; refine wp_skip ?_; refine hK45 _ _ ?_; refine wp_seq_k fun K46 hK46 => ?_; refine wp_block ?_; refine wp_seq_k fun K47 hK47 => ?_; refine S_region ?_
                obtain ⟨ad81, hA81, hc81, hn81⟩ := LiF.get (A := OA) (T := IntT) (i := ns.length) (x := tos[ns.length]) (by exact H.fact 5 rfl) hx0
                refine S_val E (pk_elA (sz := 1) hA81 rfl (by kernel_rfl) rfl rfl rfl (by omega)) rfl rfl rfl ?_; clear E a; intro a E
                replace H := (H.know hn81).know hc81
                clear hn81 hc81; replace H : Sep _ _ _ _ _ [_, _, _, _, _, _, _, _] := H; refine S_val E (pk_loadE1 (H.fact 0 rfl) (fun _ _ _ => trivial) rfl rfl rfl (by kernel_rfl)) rfl rfl rfl ?_; clear E a; intro a E; refine S_val E (pk_assign rfl rfl) rfl rfl rfl ?_; clear E a; intro a E; refine hK47 _ _ ?_; refine wp_seq_k fun K48 hK48 => ?_; refine C_region E H [] 9 [(0, false), (1, false), (2, false), (3, false), (4, false), (5, false), (6, true), (7, false), (8, true)] (by kernel_rfl) (by kernel_rfl) (fun w HS => ?_)
                (simp only [canOps, List.getElem?_cons_zero, List.getElem?_cons_succ, List.drop_succ_cons, List.drop_zero])
                clear H
                have H := HS
                have hsz : w.heap.size ≤ w.heap.size := Nat.le_refl _
                have HK : CanB.Keep (fun k => k < w.heap.size ∧ k ∉ []) w w := CanB.Keep.refl _ _
                refine C_val E HK (pk_fieldAddr (off := 2) rfl rfl (by kernel_rfl)) rfl rfl rfl (fun _ _ _ _ h => h) ?_; clear E a; intro a E; refine C_val E HK (pk_load1 HS 3 rfl rfl rfl (HS.inS 3 rfl (by simp)) rfl (by kernel_rfl)) rfl rfl rfl (fun _ _ _ _ h => h) ?_; clear E a; intro a E; refine C_val E HK (pk_fieldAddr (off := 3) rfl rfl (by kernel_rfl)) rfl rfl rfl (fun _ _ _ _ h => h) ?_; clear E a; intro a E; refine C_val E HK (pk_load1 HS 3 rfl rfl rfl (HS.inS 3 rfl (by simp)) rfl (by kernel_rfl)) rfl rfl rfl (fun _ _ _ _ h => h) ?_; clear E a; intro a E; refine C_val E HK (pk_move rfl rfl) rfl rfl rfl (fun _ _ _ _ h => h) ?_; clear E a; intro a E; refine C_val E HK (pk_move rfl rfl) rfl rfl rfl (fun _ _ _ _ h => h) ?_; clear E a; intro a E; refine C_eff E rfl (fun K hK => ?_); refine eff_call E rfl rfl rfl (by kernel_rfl) ?_; refine (clone_sep H.xk (H.fact 6 rfl)).mono ?_
                rintro e w ⟨A89, c89, rfl, H1⟩
                have F := H1.frm
                replace H := H.call H1
                clear H1; replace H : Sep _ _ _ _ [_, _, _, _] [_, _, _, _, _, _, _, _, _] := H
                have hk := keep_frm (D := []) F hsz (by simp)
                refine hK _ _ hk ?_; clear hK K
                replace HK := HK.trans hk
                replace hsz := Nat.le_trans hsz (F).size
                clear hk; refine C_put E rfl rfl ?_; clear E a; intro a E; clear F; refine C_val E HK (pk_build (z := [.one (.int .i64 0), .one (.int .i64 0), .one (.slice none 0 0)]) rfl (by kernel_rfl) (by kernel_rfl) ⟨_, [.one _], 0, _, rfl, rfl, (by kernel_rfl), rfl, ⟨_, [.one _], 1, _, rfl, rfl, (by kernel_rfl), rfl, ⟨_, [.one _], 2, _, rfl, rfl, (by kernel_rfl), rfl, rfl⟩⟩⟩) rfl rfl rfl (fun _ _ _ _ h => h) ?_; clear E a; intro a E; refine C_eff E rfl (fun K hK => ?_); refine eff_bslice (sz := 3) (z := [.one (.int .i64 0), .one (.int .i64 0), .one (.slice none 0 0)]) E H rfl Try.underlying28 (by kernel_rfl) (by decide) (by kernel_rfl) ⟨_, _, 0, _, rfl, rfl, rfl, rfl, rfl⟩ ?_; clear H; intro b91 w H F
                have hk := keep_frm (D := []) F hsz (by simp)
                refine hK _ _ hk ?_; clear hK K
                replace HK := HK.trans hk
                replace hsz := Nat.le_trans hsz (F).size
                clear hk; refine C_put E rfl rfl ?_; clear E a; intro a E; clear F; refine CanB.wpCan_nil ?_
                try (simp only [List.take_succ_cons, List.take_zero, List.drop_succ_cons, List.drop_zero])
                clear HS HK hsz; refine S_eff E rfl (fun K hK => ?_); refine eff_app1 (T := LtrT) (q := (((⟨nx + (ns.length : Int), tos[ns.length], text⟩ : Ltr), (A89, c89)) : Ltr × LtrT.μ)) (its := es ++ ns) 1 0 (by_ := 40) E H rfl rfl rfl rfl rfl rfl ⟨Try.underlying28, by kernel_rfl⟩ (by simp only [List.length_append]; omega) (by simp only [List.length_append]; omega) ?_; clear H; intro A92 c92 w hcap92 H F; replace H : Sep _ _ _ _ [_, _, _, _, _] _ := H; refine hK _ _ ?_; clear hK K; refine S_put E rfl rfl ?_; clear E a; intro a E; clear F; refine S_val E (pk_fieldAddr (off := 2) rfl rfl (by kernel_rfl)) rfl rfl rfl ?_; clear E a; intro a E; refine S_eff E rfl (fun K hK => ?_); refine eff_store 4 (new := [.one _]) E H rfl rfl rfl rfl rfl (by repeat (first | exact trivial | refine ⟨rfl, ?_⟩ | refine ⟨fun _ _ => rfl, ?_⟩)) rfl (by kernel_rfl) rfl ?_; clear H
                intro w H _; replace H : Sep _ _ _ _ [_, _, _, _, _] _ := H; refine hK _ _ ?_; clear hK K; refine S_put0 rfl ?_; refine hK48 _ _ ?_; refine S_region ?_; refine S_val E (pk_fieldAddr (off := 3) rfl rfl (by kernel_rfl)) rfl rfl rfl ?_; clear E a; intro a E; refine S_val E (pk_load1 H 4 rfl rfl rfl trivial rfl (by kernel_rfl)) rfl rfl rfl ?_; clear E a; intro a E; refine S_val E (pk_intw rfl rfl rfl rfl (wI64 (by omega) (by omega))) rfl rfl rfl ?_; clear E a; intro a E; refine S_val E (pk_fieldAddr (off := 3) rfl rfl (by kernel_rfl)) rfl rfl rfl ?_; clear E a; intro a E; refine S_eff E rfl (fun K hK => ?_); refine eff_store 4 (new := [.one _]) E H rfl rfl rfl rfl rfl (by repeat (first | exact trivial | refine ⟨rfl, ?_⟩ | refine ⟨fun _ _ => rfl, ?_⟩)) rfl (by kernel_rfl) rfl ?_; clear H; intro w H _; replace H : Sep _ _ _ _ [_, _, _, _, _] _ := H; refine hK _ _ ?_; clear hK K
                refine S_put0 rfl ?_; refine hK46 _ _ ?_; refine S_region ?_; refine S_val E (pk_intw rfl rfl rfl rfl (wI64 (by omega) (by omega))) rfl rfl rfl ?_; clear E a; intro a E; refine S_val E (pk_move rfl rfl) rfl rfl rfl ?_; clear E a; intro a E
                replace H := (H.refacts (List.forall_mem_cons.2 ⟨nest_snoc (q := (((⟨nx + (ns.length : Int), tos[ns.length], text⟩ : Ltr), (A89, c89)) : Ltr × LtrT.μ)) (H.fact 3 rfl) (H.fact 0 rfl), List.forall_mem_cons.2 ⟨H.fact 4 rfl, List.forall_mem_cons.2 ⟨H.fact 5 rfl, List.forall_mem_cons.2 ⟨H.fact 6 rfl, List.forall_mem_cons.2 ⟨H.fact 7 rfl, List.forall_mem_cons.2 ⟨H.fact 8 rfl, List.forall_mem_nil _⟩⟩⟩⟩⟩⟩)).popL
                rw [List.append_assoc, show nx + (ns.length : Int) + 1 = nx + ((ns ++ [(((⟨nx + (ns.length : Int), tos[ns.length], text⟩ : Ltr), (A89, c89)) : Ltr × LtrT.μ)]).length : Int) by rw [List.length_append]; simp; omega] at H
                refine loop_end ?_
                exact ⟨(A92, c92, ns ++ [(((⟨nx + (ns.length : Int), tos[ns.length], text⟩ : Ltr), (A89, c89)) : Ltr × LtrT.μ)]), ⟨E.to (by simp only [List.length_append, List.length_singleton]; repeat (first | exact trivial | refine ⟨rfl, ?_⟩)), H, ⟨by simp only [List.length_append, List.length_singleton]; omega, take_done hφ.2 hx1⟩⟩, by simp only [List.length_append, List.length_singleton]; omega⟩
              · skip
                clear E; intro c80 E
                have hk : ¬ ns.length < tos.length := by simpa using c80
                refine S_else E rfl ?_; refine wp_exit ?_
                repeat (first | refine then_exit ?_ | refine block_hit ?_ | refine block_miss (by decide) ?_)
                refine hK42 _ _ ?_; refine wp_seq_k fun K49 hK49 => ?_; refine S_region ?_; refine S_val E (pk_load (n := 4) H 3 rfl rfl rfl trivial rfl (by kernel_rfl)) rfl rfl rfl ?_; clear E a; intro a E; refine S_eff E rfl (fun K hK => ?_); refine eff_store 2 E H rfl rfl rfl rfl rfl (by repeat (first | exact trivial | refine ⟨rfl, ?_⟩ | refine ⟨fun _ _ => rfl, ?_⟩)) rfl (by kernel_rfl) rfl ?_; clear H; intro w H _; replace H : Sep _ _ _ _ [_, _, _, _] _ := H; refine hK _ _ ?_; clear hK K; refine S_put0 rfl ?_; refine S_val E (pk_assign rfl rfl) rfl rfl rfl ?_; clear E a; intro a E; refine hK49 _ _ ?_; refine wp_ret ?_
                repeat (first | refine then_ret ?_ | refine block_ret ?_)
                refine ret2 rfl E (by exact resC (n := 4) H 2 rfl rfl rfl (by kernel_rfl)) (resT rfl) ?_
                have hns : ns.length = tos.length := by omega
                have hnm : ns.map Prod.fst = lettersV nx tos text := by rw [hφ.2, hns, show tos.length = (lettersV nx tos text).length by simp [lettersV], List.take_length]
                have hP : postV ⟨ep, log, wait, nx⟩ text tos = (⟨ep, log, wait ++ lettersV nx tos text, nx + (tos.length : Int)⟩, 0) := by
                  unfold postV; rw [if_neg (show ¬(okS ⟨ep, log, wait, nx⟩ = false ∨ tos.any farB = true) by rw [hok, hfar]; simp)]; rw [if_neg hk0]; rw [if_neg hold]; rw [if_neg hfull]; rw [if_neg hcm, if_neg hcm]
                obtain ⟨lm2, HL⟩ := (H.at_ 1 _ rfl).freezeL (xs := log) rfl (by simp) (by exact hds)
                have e1 : ds.length = (log).length := by rw [← hds, List.length_map]
                have e2 : (es ++ ns).length = (wait ++ lettersV nx tos text).length := by rw [← hes, ← hnm, ← List.map_append, List.length_map]
                rw [hP]
                refine ⟨LA9, lc9, lm2, gA, gc, es ++ ns, by rw [List.map_append, hes, hnm], ?_, HL.keepLR (L := [_]) (R := [_, _])⟩
                rw [e1, hns]

set_option maxRecDepth 100000 in
set_option maxHeartbeats 4000000 in
theorem ServerPosts_any {ep nx : Int} {LA WA : Option Addr} {lc wc : Nat} {log : List (List Nat)} {wait : List Ltr} {lm : Nat → TextT.μ} {wm : Nat → LtrT.μ} {ep2 nx2 : Int} {LA2 WA2 : Option Addr} {lc2 wc2 : Nat} {log2 : List (List Nat)} {wait2 : List Ltr} {lm2 : Nat → TextT.μ} {wm2 : Nat → LtrT.μ} {TA OA : Option Addr} {tc oc : Nat} {text : List Nat} {tos : List Int} {om : Nat → IntT.μ} {X : List Nat} {w0 : World} (hX : ∀ k ∈ X, k < w0.heap.size) (hL : St (LiF TextT LA lc log lm) w0 X) (hW : St (LiF LtrT WA wc wait wm) w0 X) (hL2 : St (LiF TextT LA2 lc2 log2 lm2) w0 X) (hW2 : St (LiF LtrT WA2 wc2 wait2 wm2) w0 X) (hT : St (TxF TA tc text) w0 X) (hO : St (LiF IntT OA oc tos om) w0 X) :
    Calls Try.prog 4 #[.agg (ca [.one (.int .u64 ep), .one (.slice LA log.length lc), .one (.slice WA wait.length wc), .one (.int .i64 nx)]), .agg (ca [.one (.int .u64 ep2), .one (.slice LA2 log2.length lc2), .one (.slice WA2 wait2.length wc2), .one (.int .i64 nx2)]), .slice TA text.length tc, .slice OA tos.length oc] w0 fun e w' => e = .returned (.bool true) ∧ Sep X [] w0 w' [] [] := by
  refine calls_env Try.ntmps4 Try.func4 rfl rfl fun a E => ?_; replace E : Env a _ [(0, _), (1, _), (2, _), (3, _)] := E
  have H : Sep X [] w0 w0 [] [(LiF TextT LA lc log lm), (LiF LtrT WA wc wait wm), (LiF TextT LA2 lc2 log2 lm2), (LiF LtrT WA2 wc2 wait2 wm2), (TxF TA tc text), (LiF IntT OA oc tos om)] := Sep.start hX (List.forall_mem_cons.2 ⟨hL, List.forall_mem_cons.2 ⟨hW, List.forall_mem_cons.2 ⟨hL2, List.forall_mem_cons.2 ⟨hW2, List.forall_mem_cons.2 ⟨hT, List.forall_mem_cons.2 ⟨hO, fun _ h => by cases h⟩⟩⟩⟩⟩⟩)
  refine wp_seq_k fun K0 hK0 => ?_; refine S_region ?_; refine S_eff E rfl (fun K hK => ?_); refine eff_box E H rfl rfl rfl ?_; clear H; intro b4 w H _; refine hK _ _ ?_; clear hK K; refine S_put E rfl rfl ?_; clear E a; intro a E; refine S_eff E rfl (fun K hK => ?_); refine eff_box E H rfl rfl rfl ?_; clear H; intro b5 w H _; refine hK _ _ ?_; clear hK K; refine S_put E rfl rfl ?_; clear E a; intro a E; refine S_val E (pk_assign rfl rfl) rfl rfl rfl ?_; clear E a; intro a E; refine hK0 _ _ ?_; refine wp_seq_k fun K1 hK1 => ?_; refine S_region ?_; refine S_eff E rfl (fun K hK => ?_); refine eff_call E rfl rfl rfl (by kernel_rfl) ?_; refine (liveS_any H.xk).mono ?_; rintro e w ⟨rfl, H1⟩
  replace H := H.call H1
  clear H1; replace H : Sep _ _ _ _ [_, _] [_, _, _, _, _, _] := H; refine hK _ _ ?_; clear hK K; refine S_put E rfl rfl ?_; clear E a; intro a E; refine S_val E (pk_assign rfl rfl) rfl rfl rfl ?_; clear E a; intro a E; refine hK1 _ _ ?_; refine wp_seq_k fun K2 hK2 => ?_; refine wp_seq_k fun K3 hK3 => ?_; refine S_region ?_; refine S_val E (pk_load (n := 4) H 1 rfl rfl rfl trivial rfl (by kernel_rfl)) rfl rfl rfl ?_; clear E a; intro a E; refine S_eff E rfl (fun K hK => ?_); refine eff_call E rfl rfl rfl (by kernel_rfl) ?_; refine (RFew_any H.xk (by exact H.fact 0 rfl) (by exact H.fact 1 rfl)).mono ?_; rintro e w ⟨rfl, H1⟩
  replace H := H.call H1
  clear H1; replace H : Sep _ _ _ _ [_, _] [_, _, _, _, _, _] := H; refine hK _ _ ?_; clear hK K; refine S_put E rfl rfl ?_; clear E a; intro a E; refine S_val E (pk_not rfl rfl) rfl rfl rfl ?_; clear E a; intro a E; refine S_val E (pk_move rfl rfl) rfl rfl rfl ?_; clear E a; intro a E; refine env_split (d := 21) E rfl ?_ ?_
  · skip
    clear E; intro c21 E; refine S_skip E rfl rfl rfl ?_; clear E a; intro a E; refine S_skip E rfl rfl rfl ?_; clear E a; intro a E; refine S_skip E rfl rfl rfl ?_; clear E a; intro a E; refine S_val E (pk_pick rfl rfl rfl) rfl rfl rfl ?_; clear E a; intro a E; refine S_val E (pk_move rfl rfl) rfl rfl rfl ?_; clear E a; intro a E; refine S_skip E rfl rfl rfl ?_; clear E a; intro a E; refine S_skip E rfl rfl rfl ?_; clear E a; intro a E; refine S_skip E rfl rfl rfl ?_; clear E a; intro a E; refine S_val E (pk_pick rfl rfl rfl) rfl rfl rfl ?_; clear E a; intro a E; refine S_val E (pk_move rfl rfl) rfl rfl rfl ?_; clear E a; intro a E; refine S_skip E rfl rfl rfl ?_; clear E a; intro a E; refine S_skip E rfl rfl rfl ?_; clear E a; intro a E; refine S_skip E rfl rfl rfl ?_; clear E a; intro a E; refine S_val E (pk_pick rfl rfl rfl) rfl rfl rfl ?_; clear E a; intro a E; refine hK3 _ _ ?_
    refine S_then E rfl ?_; refine wp_seq_k fun K4 hK4 => ?_; refine S_region ?_; refine S_val E (pk_move rfl rfl) rfl rfl rfl ?_; clear E a; intro a E; refine S_val E (pk_assign rfl rfl) rfl rfl rfl ?_; clear E a; intro a E; refine hK4 _ _ ?_; refine wp_ret ?_
    repeat (first | refine then_ret ?_ | refine block_ret ?_)
    refine ret1 rfl E (resT rfl) ?_
    exact ⟨rfl, H.keepLR (L := []) (R := [])⟩
  · skip
    clear E; intro c21 E; refine S_val E (pk_load (n := 4) H 0 rfl rfl rfl trivial rfl (by kernel_rfl)) rfl rfl rfl ?_; clear E a; intro a E; refine S_eff E rfl (fun K hK => ?_); refine eff_call E rfl rfl rfl (by kernel_rfl) ?_; refine (RFew_any H.xk (by exact H.fact 2 rfl) (by exact H.fact 3 rfl)).mono ?_; rintro e w ⟨rfl, H1⟩
    replace H := H.call H1
    clear H1; replace H : Sep _ _ _ _ [_, _] [_, _, _, _, _, _] := H; refine hK _ _ ?_; clear hK K; refine S_put E rfl rfl ?_; clear E a; intro a E; refine S_val E (pk_not rfl rfl) rfl rfl rfl ?_; clear E a; intro a E; refine S_val E (pk_pick rfl rfl rfl) rfl rfl rfl ?_; clear E a; intro a E; refine S_val E (pk_move rfl rfl) rfl rfl rfl ?_; clear E a; intro a E; refine env_split (d := 26) E rfl ?_ ?_
    · skip
      clear E; intro c26 E; refine S_skip E rfl rfl rfl ?_; clear E a; intro a E; refine S_skip E rfl rfl rfl ?_; clear E a; intro a E; refine S_skip E rfl rfl rfl ?_; clear E a; intro a E; refine S_val E (pk_pick rfl rfl rfl) rfl rfl rfl ?_; clear E a; intro a E; refine S_val E (pk_move rfl rfl) rfl rfl rfl ?_; clear E a; intro a E; refine S_skip E rfl rfl rfl ?_; clear E a; intro a E; refine S_skip E rfl rfl rfl ?_; clear E a; intro a E; refine S_skip E rfl rfl rfl ?_; clear E a; intro a E; refine S_val E (pk_pick rfl rfl rfl) rfl rfl rfl ?_; clear E a; intro a E; refine hK3 _ _ ?_; refine S_then E rfl ?_; refine wp_seq_k fun K5 hK5 => ?_; refine S_region ?_; refine S_val E (pk_move rfl rfl) rfl rfl rfl ?_; clear E a; intro a E; refine S_val E (pk_assign rfl rfl) rfl rfl rfl ?_; clear E a; intro a E; refine hK5 _ _ ?_; refine wp_ret ?_
      repeat (first | refine then_ret ?_ | refine block_ret ?_)
      refine ret1 rfl E (resT rfl) ?_
      exact ⟨rfl, H.keepLR (L := []) (R := [])⟩
    · skip
      clear E; intro c26 E; refine S_val E (pk_move rfl rfl) rfl rfl rfl ?_; clear E a; intro a E; refine S_val E (pk_len rfl rfl (by kernel_rfl)) rfl rfl rfl ?_; clear E a; intro a E; refine S_val E (pk_int rfl rfl rfl rfl) rfl rfl rfl ?_; clear E a; intro a E; refine S_val E (pk_pick rfl rfl rfl) rfl rfl rfl ?_; clear E a; intro a E; refine S_val E (pk_move rfl rfl) rfl rfl rfl ?_; clear E a; intro a E; refine env_split (d := 31) E rfl ?_ ?_
      · skip
        clear E; intro c31 E; refine S_skip E rfl rfl rfl ?_; clear E a; intro a E; refine S_skip E rfl rfl rfl ?_; clear E a; intro a E; refine S_skip E rfl rfl rfl ?_; clear E a; intro a E; refine S_val E (pk_pick rfl rfl rfl) rfl rfl rfl ?_; clear E a; intro a E; refine hK3 _ _ ?_; refine S_then E rfl ?_; refine wp_seq_k fun K6 hK6 => ?_; refine S_region ?_; refine S_val E (pk_move rfl rfl) rfl rfl rfl ?_; clear E a; intro a E; refine S_val E (pk_assign rfl rfl) rfl rfl rfl ?_; clear E a; intro a E; refine hK6 _ _ ?_; refine wp_ret ?_
        repeat (first | refine then_ret ?_ | refine block_ret ?_)
        refine ret1 rfl E (resT rfl) ?_
        exact ⟨rfl, H.keepLR (L := []) (R := [])⟩
      · skip
        clear E; intro c31 E; refine S_val E (pk_move rfl rfl) rfl rfl rfl ?_; clear E a; intro a E; refine S_val E (pk_len rfl rfl (by kernel_rfl)) rfl rfl rfl ?_; clear E a; intro a E; refine S_val E (pk_int rfl rfl rfl rfl) rfl rfl rfl ?_; clear E a; intro a E; refine S_val E (pk_pick rfl rfl rfl) rfl rfl rfl ?_; clear E a; intro a E; refine hK3 _ _ ?_; refine env_split (d := 35) E rfl ?_ ?_
        · skip
          clear E; intro c35 E; refine S_then E rfl ?_; refine wp_seq_k fun K7 hK7 => ?_; refine S_region ?_; refine S_val E (pk_move rfl rfl) rfl rfl rfl ?_; clear E a; intro a E; refine S_val E (pk_assign rfl rfl) rfl rfl rfl ?_; clear E a; intro a E; refine hK7 _ _ ?_; refine wp_ret ?_
          repeat (first | refine then_ret ?_ | refine block_ret ?_)
          refine ret1 rfl E (resT rfl) ?_
          exact ⟨rfl, H.keepLR (L := []) (R := [])⟩
        · skip
          clear E; intro c35 E
          have hT3 : text.length ≤ 3000 := by have := c31; simp only [decide_eq_false_iff_not] at this; omega
          have hO5 : tos.length ≤ 50 := by have := c35; simp only [decide_eq_false_iff_not] at this; omega
          obtain ⟨q1, q2⟩ := fewS_of (by simpa using c21)
          simp only at q1 q2
          refine S_else E rfl ?_; refine wp_skip ?_; refine hK2 _ _ ?_; refine wp_seq_k fun K8 hK8 => ?_; refine S_region ?_; refine S_val E (pk_load (n := 4) H 1 rfl rfl rfl trivial rfl (by kernel_rfl)) rfl rfl rfl ?_; clear E a; intro a E; refine S_eff E rfl (fun K hK => ?_); refine eff_call E rfl rfl rfl (by kernel_rfl) ?_; refine (RCopy_fz (by omega) (by omega) H.xk (by exact H.fact 0 rfl) (by exact H.fact 1 rfl)).mono ?_; rintro e w ⟨LA9, lc9, lm9, WA9, wc9, wm9, rfl, H1⟩
          replace H := H.call H1
          clear H1; replace H : Sep _ _ _ _ [_, _] [_, _, _, _, _, _, _, _] := H; refine hK _ _ ?_; clear hK K; refine S_put E rfl rfl ?_; clear E a; intro a E; refine S_eff E rfl (fun K hK => ?_); refine eff_alloc (z := [.one (.int .u64 0), .one (.slice none 0 0), .one (.slice none 0 0), .one (.int .i64 0)]) H rfl (by kernel_rfl) ?_; clear H; intro b10 w H _; refine hK _ _ ?_; clear hK K; refine S_put E rfl rfl ?_; clear E a; intro a E; refine S_eff E rfl (fun K hK => ?_); refine eff_store 0 E H rfl rfl rfl rfl rfl (by repeat (first | exact trivial | refine ⟨rfl, ?_⟩ | refine ⟨fun _ _ => rfl, ?_⟩)) rfl (by kernel_rfl) rfl ?_; clear H; intro w H _; replace H : Sep _ _ _ _ [_, _, _] _ := H; refine hK _ _ ?_; clear hK K; refine S_put0 rfl ?_; refine hK8 _ _ ?_; refine wp_seq_k fun K9 hK9 => ?_; refine S_region ?_
          refine S_val E (pk_load (n := 4) H 2 rfl rfl rfl trivial rfl (by kernel_rfl)) rfl rfl rfl ?_; clear E a; intro a E; refine S_val E (pk_move rfl rfl) rfl rfl rfl ?_; clear E a; intro a E; refine S_val E (pk_move rfl rfl) rfl rfl rfl ?_; clear E a; intro a E; refine S_eff E rfl (fun K hK => ?_); refine eff_call E rfl rfl rfl (by kernel_rfl) ?_; refine (Post_own H.xk (by exact H.fact 2 rfl) (by exact H.fact 3 rfl) (by exact H.fact 6 rfl) (by exact H.fact 7 rfl)).mono ?_; rintro e w ⟨LA1, lc1, lm1, WA1, wc1, es, hes, rfl, H1⟩
          replace H := H.call H1
          clear H1; replace H : Sep _ _ _ _ [_, _, _, _] [_, _, _, _, _, _, _, _, _, _] := H; refine hK _ _ ?_; clear hK K; refine S_put E rfl rfl ?_; clear E a; intro a E
          obtain ⟨⟨⟨ep1, log1, wait1, nx1⟩, er1⟩, hP1⟩ : ∃ P, postV ⟨ep, log, wait, nx⟩ text tos = P := ⟨_, rfl⟩
          rw [hP1] at E H hes
          dsimp only at E H hes
          have hes2 : es.length = wait1.length := by rw [← hes, List.length_map]
          rw [hes2] at E H
          refine S_val E (pk_move rfl rfl) rfl rfl rfl ?_; clear E a; intro a E; refine S_val E (pk_extract rfl rfl rfl) rfl rfl rfl ?_; clear E a; intro a E; refine S_val E (pk_extract rfl rfl rfl) rfl rfl rfl ?_; clear E a; intro a E; refine S_eff E rfl (fun K hK => ?_); refine eff_alloc (z := [.one (.int .u64 0), .one (.slice none 0 0), .one (.slice none 0 0), .one (.int .i64 0)]) H rfl (by kernel_rfl) ?_; clear H; intro b11 w H _; refine hK _ _ ?_; clear hK K; refine S_put E rfl rfl ?_; clear E a; intro a E; refine S_eff E rfl (fun K hK => ?_); refine eff_store 0 E H rfl rfl rfl rfl rfl (by repeat (first | exact trivial | refine ⟨rfl, ?_⟩ | refine ⟨fun _ _ => rfl, ?_⟩)) rfl (by kernel_rfl) rfl ?_; clear H; intro w H _; replace H : Sep _ _ _ _ [_, _, _, _, _] _ := H; refine hK _ _ ?_; clear hK K; refine S_put0 rfl ?_; refine S_val E (pk_assign rfl rfl) rfl rfl rfl ?_; clear E a
          intro a E; refine hK9 _ _ ?_; refine wp_seq_k fun K10 hK10 => ?_; refine S_region ?_; refine S_val E (pk_load (n := 4) H 4 rfl rfl rfl trivial rfl (by kernel_rfl)) rfl rfl rfl ?_; clear E a; intro a E; refine S_val E (pk_move rfl rfl) rfl rfl rfl ?_; clear E a; intro a E; refine S_val E (pk_move rfl rfl) rfl rfl rfl ?_; clear E a; intro a E; refine S_eff E rfl (fun K hK => ?_); refine eff_call E rfl rfl rfl (by kernel_rfl) ?_; refine (RPost_any (by omega) (by omega) H.xk (by exact H.fact 4 rfl) (by exact H.fact 5 rfl) (by exact H.fact 8 rfl) (by exact H.fact 9 rfl)).mono ?_; rintro e w ⟨LA3, lc3, lm3, WA3, wc3, wm3, rfl, H1⟩
          replace H := H.call H1
          clear H1; replace H : Sep _ _ _ _ [_, _, _, _, _] [_, _, _, _, _, _, _, _, _, _, _, _] := H; refine hK _ _ ?_; clear hK K; refine S_put E rfl rfl ?_; clear E a; intro a E
          rw [hP1] at E H
          dsimp only at E H
          refine S_val E (pk_move rfl rfl) rfl rfl rfl ?_; clear E a; intro a E; refine S_val E (pk_extract rfl rfl rfl) rfl rfl rfl ?_; clear E a; intro a E; refine S_val E (pk_extract rfl rfl rfl) rfl rfl rfl ?_; clear E a; intro a E; refine S_eff E rfl (fun K hK => ?_); refine eff_alloc (z := [.one (.int .u64 0), .one (.slice none 0 0), .one (.slice none 0 0), .one (.int .i64 0)]) H rfl (by kernel_rfl) ?_; clear H; intro b13 w H _; refine hK _ _ ?_; clear hK K; refine S_put E rfl rfl ?_; clear E a; intro a E; refine S_eff E rfl (fun K hK => ?_); refine eff_store 0 E H rfl rfl rfl rfl rfl (by repeat (first | exact trivial | refine ⟨rfl, ?_⟩ | refine ⟨fun _ _ => rfl, ?_⟩)) rfl (by kernel_rfl) rfl ?_; clear H; intro w H _; replace H : Sep _ _ _ _ [_, _, _, _, _, _] _ := H; refine hK _ _ ?_; clear hK K; refine S_put0 rfl ?_; refine S_val E (pk_assign rfl rfl) rfl rfl rfl ?_; clear E a
          intro a E; refine hK10 _ _ ?_; refine wp_seq_k fun K11 hK11 => ?_; refine C_region E H [] 28 [(0, false), (1, false), (2, true), (3, false), (4, false), (5, false), (6, false), (7, false), (8, false), (9, false), (11, false), (10, true), (12, true), (13, false), (14, false), (15, false), (16, false), (18, false), (17, true), (19, true), (20, false), (21, false), (22, false), (23, false), (24, false), (26, false), (27, false), (25, true)] (by kernel_rfl) (by kernel_rfl) (fun w HS => ?_)
          (simp only [canOps, List.getElem?_cons_zero, List.getElem?_cons_succ, List.drop_succ_cons, List.drop_zero])
          clear H
          have H := HS
          have hsz : w.heap.size ≤ w.heap.size := Nat.le_refl _
          have HK : CanB.Keep (fun k => k < w.heap.size ∧ k ∉ []) w w := CanB.Keep.refl _ _
          refine C_val E HK (pk_load (n := 4) HS 1 rfl rfl rfl (HS.inS 1 rfl (by simp)) rfl (by kernel_rfl)) rfl rfl rfl (fun _ _ _ _ h => h) ?_; clear E a; intro a E; refine C_val E HK (pk_load (n := 4) HS 0 rfl rfl rfl (HS.inS 0 rfl (by simp)) rfl (by kernel_rfl)) rfl rfl rfl (fun _ _ _ _ h => h) ?_; clear E a; intro a E; refine C_eff E rfl (fun K hK => ?_); refine eff_call E rfl rfl rfl (by kernel_rfl) ?_
          obtain ⟨mz, HZ⟩ := (H.at_ 2 _ rfl).freezeL (xs := wait1) hes2.symm (by simp) hes
          refine (RSame_self HZ.xk (by first | exact HZ.fact 0 rfl | exact HZ.fact 1 rfl | exact HZ.fact 2 rfl | exact HZ.fact 3 rfl | exact HZ.fact 4 rfl | exact HZ.fact 5 rfl | exact HZ.fact 6 rfl | exact HZ.fact 7 rfl | exact HZ.fact 8 rfl | exact HZ.fact 9 rfl | exact HZ.fact 10 rfl | exact HZ.fact 11 rfl | exact HZ.fact 12 rfl) (by first | exact HZ.fact 0 rfl | exact HZ.fact 1 rfl | exact HZ.fact 2 rfl | exact HZ.fact 3 rfl | exact HZ.fact 4 rfl | exact HZ.fact 5 rfl | exact HZ.fact 6 rfl | exact HZ.fact 7 rfl | exact HZ.fact 8 rfl | exact HZ.fact 9 rfl | exact HZ.fact 10 rfl | exact HZ.fact 11 rfl | exact HZ.fact 12 rfl) (by first | exact HZ.fact 0 rfl | exact HZ.fact 1 rfl | exact HZ.fact 2 rfl | exact HZ.fact 3 rfl | exact HZ.fact 4 rfl | exact HZ.fact 5 rfl | exact HZ.fact 6 rfl | exact HZ.fact 7 rfl | exact HZ.fact 8 rfl | exact HZ.fact 9 rfl | exact HZ.fact 10 rfl | exact HZ.fact 11 rfl | exact HZ.fact 12 rfl) (by first | exact HZ.fact 0 rfl | exact HZ.fact 1 rfl | exact HZ.fact 2 rfl | exact HZ.fact 3 rfl | exact HZ.fact 4 rfl | exact HZ.fact 5 rfl | exact HZ.fact 6 rfl | exact HZ.fact 7 rfl | exact HZ.fact 8 rfl | exact HZ.fact 9 rfl | exact HZ.fact 10 rfl | exact HZ.fact 11 rfl | exact HZ.fact 12 rfl)).mono ?_
          rintro e w ⟨rfl, H1⟩
          have F := H1.frm
          replace H := H.grow F
          have hk := keep_frm (D := []) F hsz (by simp)
          refine hK _ _ hk ?_; clear hK K
          replace HK := HK.trans hk
          replace hsz := Nat.le_trans hsz (F).size
          clear hk; refine C_put E rfl rfl ?_; clear E a; intro a E; clear F; clear HZ; refine C_val E HK (pk_move rfl rfl) rfl rfl rfl (fun _ _ _ _ h => h) ?_; clear E a; intro a E; refine C_val E HK (pk_move rfl rfl) rfl rfl rfl (fun _ _ _ _ h => h) ?_; clear E a; intro a E; refine C_val E HK (pk_move rfl rfl) rfl rfl rfl (fun _ _ _ _ h => h) ?_; clear E a; intro a E; refine C_val E HK (pk_int rfl rfl rfl rfl) rfl rfl rfl (fun _ _ _ _ h => h) ?_; clear E a; intro a E
          simp only [beq_self_eq_true, decide_true] at E
          refine C_val E HK (pk_pick rfl rfl rfl) rfl rfl rfl (fun _ _ _ _ h => h) ?_; clear E a; intro a E; refine C_val E HK (pk_move rfl rfl) rfl rfl rfl (fun _ _ _ _ h => h) ?_; clear E a; intro a E; refine C_val E HK (pk_move rfl rfl) rfl rfl rfl (fun _ _ _ _ h => h) ?_; clear E a; intro a E; refine C_val E HK (pk_move rfl rfl) rfl rfl rfl (fun _ _ _ _ h => h) ?_; clear E a; intro a E; refine C_eff E rfl (fun K hK => ?_); refine eff_call E rfl rfl rfl (by kernel_rfl) ?_; refine (Kind_any H.xk (by exact H.fact 10 rfl)).mono ?_; rintro e w ⟨rfl, H1⟩
          have F := H1.frm
          replace H := H.call H1
          clear H1; replace H : Sep _ _ _ _ [_, _, _, _, _, _] [_, _, _, _, _, _, _, _, _, _, _, _] := H
          have hk := keep_frm (D := []) F hsz (by simp)
          refine hK _ _ hk ?_; clear hK K
          replace HK := HK.trans hk
          replace hsz := Nat.le_trans hsz (F).size
          clear hk; refine C_put E rfl rfl ?_; clear E a; intro a E; clear F; refine C_eff E rfl (fun K hK => ?_); refine eff_call E rfl rfl rfl (by kernel_rfl) ?_; refine (RKind_any (by omega) H.xk (by exact H.fact 10 rfl)).mono ?_; rintro e w ⟨rfl, H1⟩
          have F := H1.frm
          replace H := H.call H1
          clear H1; replace H : Sep _ _ _ _ [_, _, _, _, _, _] [_, _, _, _, _, _, _, _, _, _, _, _] := H
          have hk := keep_frm (D := []) F hsz (by simp)
          refine hK _ _ hk ?_; clear hK K
          replace HK := HK.trans hk
          replace hsz := Nat.le_trans hsz (F).size
          clear hk; refine C_put E rfl rfl ?_; clear E a; intro a E; clear F; refine C_val E HK (pk_int rfl rfl rfl rfl) rfl rfl rfl (fun _ _ _ _ h => h) ?_; clear E a; intro a E
          simp only [beq_self_eq_true, decide_true] at E
          refine C_val E HK (pk_pick rfl rfl rfl) rfl rfl rfl (fun _ _ _ _ h => h) ?_; clear E a; intro a E; refine C_val E HK (pk_move rfl rfl) rfl rfl rfl (fun _ _ _ _ h => h) ?_; clear E a; intro a E; refine C_val E HK (pk_load (n := 4) HS 5 rfl rfl rfl (HS.inS 5 rfl (by simp)) rfl (by kernel_rfl)) rfl rfl rfl (fun _ _ _ _ h => h) ?_; clear E a; intro a E; refine C_val E HK (pk_load (n := 4) HS 5 rfl rfl rfl (HS.inS 5 rfl (by simp)) rfl (by kernel_rfl)) rfl rfl rfl (fun _ _ _ _ h => h) ?_; clear E a; intro a E; refine C_eff E rfl (fun K hK => ?_); refine eff_call E rfl rfl rfl (by kernel_rfl) ?_; refine (Check_any H.xk (by exact H.fact 6 rfl) (by exact H.fact 7 rfl)).mono ?_; rintro e w ⟨rfl, H1⟩
          have F := H1.frm
          replace H := H.call H1
          clear H1; replace H : Sep _ _ _ _ [_, _, _, _, _, _] [_, _, _, _, _, _, _, _, _, _, _, _] := H
          have hk := keep_frm (D := []) F hsz (by simp)
          refine hK _ _ hk ?_; clear hK K
          replace HK := HK.trans hk
          replace hsz := Nat.le_trans hsz (F).size
          clear hk; refine C_put E rfl rfl ?_; clear E a; intro a E; clear F; refine C_eff E rfl (fun K hK => ?_); refine eff_call E rfl rfl rfl (by kernel_rfl) ?_; refine (RSCheck_any H.xk (by exact H.fact 6 rfl) (by exact H.fact 7 rfl)).mono ?_; rintro e w ⟨rfl, H1⟩
          have F := H1.frm
          replace H := H.call H1
          clear H1; replace H : Sep _ _ _ _ [_, _, _, _, _, _] [_, _, _, _, _, _, _, _, _, _, _, _] := H
          have hk := keep_frm (D := []) F hsz (by simp)
          refine hK _ _ hk ?_; clear hK K
          replace HK := HK.trans hk
          replace hsz := Nat.le_trans hsz (F).size
          clear hk; refine C_put E rfl rfl ?_; clear E a; intro a E; clear F; refine C_val E HK (pk_int rfl rfl rfl rfl) rfl rfl rfl (fun _ _ _ _ h => h) ?_; clear E a; intro a E
          simp only [beq_self_eq_true, decide_true] at E
          refine C_val E HK (pk_pick rfl rfl rfl) rfl rfl rfl (fun _ _ _ _ h => h) ?_; clear E a; intro a E; refine C_val E HK (pk_move rfl rfl) rfl rfl rfl (fun _ _ _ _ h => h) ?_; clear E a; intro a E; refine C_val E HK (pk_load (n := 4) HS 5 rfl rfl rfl (HS.inS 5 rfl (by simp)) rfl (by kernel_rfl)) rfl rfl rfl (fun _ _ _ _ h => h) ?_; clear E a; intro a E; refine C_val E HK (pk_load (n := 4) HS 4 rfl rfl rfl (HS.inS 4 rfl (by simp)) rfl (by kernel_rfl)) rfl rfl rfl (fun _ _ _ _ h => h) ?_; clear E a; intro a E; refine C_val E HK (pk_load (n := 4) HS 5 rfl rfl rfl (HS.inS 5 rfl (by simp)) rfl (by kernel_rfl)) rfl rfl rfl (fun _ _ _ _ h => h) ?_; clear E a; intro a E; refine C_val E HK (pk_load (n := 4) HS 4 rfl rfl rfl (HS.inS 4 rfl (by simp)) rfl (by kernel_rfl)) rfl rfl rfl (fun _ _ _ _ h => h) ?_; clear E a; intro a E; refine C_eff E rfl (fun K hK => ?_)
          refine eff_call E rfl rfl rfl (by kernel_rfl) ?_; refine (Same_any H.xk (by exact H.fact 6 rfl) (by exact H.fact 7 rfl) (by exact H.fact 8 rfl) (by exact H.fact 9 rfl)).mono ?_; rintro e w ⟨rfl, H1⟩
          have F := H1.frm
          replace H := H.call H1
          clear H1; replace H : Sep _ _ _ _ [_, _, _, _, _, _] [_, _, _, _, _, _, _, _, _, _, _, _] := H
          have hk := keep_frm (D := []) F hsz (by simp)
          refine hK _ _ hk ?_; clear hK K
          replace HK := HK.trans hk
          replace hsz := Nat.le_trans hsz (F).size
          clear hk; refine C_put E rfl rfl ?_; clear E a; intro a E; clear F; refine CanB.wpCan_nil ?_
          try (simp only [List.take_succ_cons, List.take_zero, List.drop_succ_cons, List.drop_zero])
          clear HS HK hsz; refine S_eff E rfl (fun K hK => ?_); refine eff_call E rfl rfl rfl (by kernel_rfl) ?_; refine (RSame_any H.xk (by exact H.fact 6 rfl) (by exact H.fact 7 rfl) (by exact H.fact 8 rfl) (by exact H.fact 9 rfl)).mono ?_; rintro e w ⟨rfl, H1⟩
          replace H := H.call H1
          clear H1; replace H : Sep _ _ _ _ [_, _, _, _, _, _] [_, _, _, _, _, _, _, _, _, _, _, _] := H; refine hK _ _ ?_; clear hK K; refine S_put E rfl rfl ?_; clear E a; intro a E; refine S_val E (pk_eqbool rfl rfl rfl (by kernel_rfl)) rfl rfl rfl ?_; clear E a; intro a E
          simp only [beq_self_eq_true, decide_true] at E
          refine S_val E (pk_pick rfl rfl rfl) rfl rfl rfl ?_; clear E a; intro a E; refine S_val E (pk_assign rfl rfl) rfl rfl rfl ?_; clear E a; intro a E; refine hK11 _ _ ?_; refine wp_seq_k fun K12 hK12 => ?_; refine wp_seq_k fun K13 hK13 => ?_; refine S_region ?_; refine S_val E (pk_fieldAddr (off := 2) rfl rfl (by kernel_rfl)) rfl rfl rfl ?_; clear E a; intro a E; refine S_val E (pk_load1 H 1 rfl rfl rfl trivial rfl (by kernel_rfl)) rfl rfl rfl ?_; clear E a; intro a E; refine S_val E (pk_len rfl rfl (by kernel_rfl)) rfl rfl rfl ?_; clear E a; intro a E; refine S_val E (pk_move rfl rfl) rfl rfl rfl ?_; clear E a; intro a E; refine hK13 _ _ ?_; refine wp_block ?_
          have hWb1 := (H.fact 1 rfl).now.big
          have H0 : Sep X [] w0 w [.blk b13 (ca [.one (.int .u64 ep1), .one (.slice LA3 log1.length lc3), .one (.slice WA3 wait1.length wc3), .one (.int .i64 nx1)]) 30, .blk b11 (ca [.one (.int .u64 ep1), .one (.slice LA1 log1.length lc1), .one (.slice WA1 wait1.length wc1), .one (.int .i64 nx1)]) 30, .row (.slice WA1 wait1.length wc1) 49 3 wait1.length (rowC LtrT es), .blk b10 (ca [.one (.int .u64 ep), .one (.slice LA9 log.length lc9), .one (.slice WA9 wait.length wc9), .one (.int .i64 nx)]) 30, .blk b5 (ca [.one (.int .u64 ep2), .one (.slice LA2 log2.length lc2), .one (.slice WA2 wait2.length wc2), .one (.int .i64 nx2)]) 30, .blk b4 (ca [.one (.int .u64 ep), .one (.slice LA log.length lc), .one (.slice WA wait.length wc), .one (.int .i64 nx)]) 30] [LiF TextT LA9 lc9 log lm9, LiF LtrT WA9 wc9 wait wm9, LiF TextT LA lc log lm, LiF LtrT WA wc wait wm] := H.refacts (List.forall_mem_cons.2 ⟨H.fact 4 rfl, List.forall_mem_cons.2 ⟨H.fact 5 rfl, List.forall_mem_cons.2 ⟨H.fact 6 rfl, List.forall_mem_cons.2 ⟨H.fact 7 rfl, List.forall_mem_nil _⟩⟩⟩⟩)
          refine S_loopI (γ := Nat × List (Ltr × LtrT.μ)) [4, 9, 10, 11, 15, 86] (fun g => [(87, .int .i64 (g.1 : Int))]) (fun g => [.blk b13 (ca [.one (.int .u64 ep1), .one (.slice LA3 log1.length lc3), .one (.slice WA3 wait1.length wc3), .one (.int .i64 nx1)]) 30, .blk b11 (ca [.one (.int .u64 ep1), .one (.slice LA1 log1.length lc1), .one (.slice WA1 wait1.length wc1), .one (.int .i64 nx1)]) 30, .row (.slice WA1 wait1.length wc1) 49 3 wait1.length (rowC LtrT g.2), .blk b10 (ca [.one (.int .u64 ep), .one (.slice LA9 log.length lc9), .one (.slice WA9 wait.length wc9), .one (.int .i64 nx)]) 30, .blk b5 (ca [.one (.int .u64 ep2), .one (.slice LA2 log2.length lc2), .one (.slice WA2 wait2.length wc2), .one (.int .i64 nx2)]) 30, .blk b4 (ca [.one (.int .u64 ep), .one (.slice LA log.length lc), .one (.slice WA wait.length wc), .one (.int .i64 nx)]) 30]) (fun g => [LiF TextT LA9 lc9 log lm9, LiF LtrT WA9 wc9 wait wm9, LiF TextT LA lc log lm, LiF LtrT WA wc wait wm]) (fun g => g.1 ≤ wait1.length ∧ g.2.length = wait1.length) (fun g => wait1.length - g.1) ((0, es)) E H0 (by repeat (first | exact trivial | refine ⟨rfl, ?_⟩)) (⟨Nat.zero_le _, hes2⟩) ?_
          clear E H; intro g a w E H hφ; replace E : Env a _ [(87, _), (4, _), (9, _), (10, _), (11, _), (15, _), (86, _)] := E; replace H : Sep _ _ _ _ [_, _, _, _, _, _] [_, _, _, _] := H
          obtain ⟨gk, its⟩ := g
          simp only at E H hφ ⊢
          refine wp_seq_k fun K14 hK14 => ?_; refine S_region ?_; refine S_val E (pk_int rfl rfl rfl rfl) rfl rfl rfl ?_; clear E a; intro a E; refine hK14 _ _ ?_; refine wp_seq_k fun K15 hK15 => ?_; refine env_split (d := 88) E rfl ?_ ?_
          · skip
            clear E; intro c88 E
            have hk : gk < wait1.length := by simpa using c88
            have hkg : gk < its.length := by omega
            have hek : its[gk]? = some its[gk] := List.getElem?_eq_getElem hkg
            obtain ⟨gw, hgw⟩ := row_addr (H.holds _ (List.mem_of_getElem? (i := 2) rfl)) (by omega)
            refine S_then E rfl ?_; refine wp_skip ?_; refine hK15 _ _ ?_; refine wp_seq_k fun K16 hK16 => ?_; refine wp_block ?_; refine wp_seq_k fun K17 hK17 => ?_; refine S_region ?_; refine S_val E (pk_move rfl rfl) rfl rfl rfl ?_; clear E a; intro a E; refine S_val E (pk_assign rfl rfl) rfl rfl rfl ?_; clear E a; intro a E; refine hK17 _ _ ?_; refine S_region ?_; refine S_val E (pk_fieldAddr (off := 2) rfl rfl (by kernel_rfl)) rfl rfl rfl ?_; clear E a; intro a E; refine S_val E (pk_load1 H 1 rfl rfl rfl trivial rfl (by kernel_rfl)) rfl rfl rfl ?_; clear E a; intro a E; refine S_val E (pk_move rfl rfl) rfl rfl rfl ?_; clear E a; intro a E; refine S_val E (pk_elA (sz := 3) hgw rfl (by kernel_rfl) rfl rfl rfl (by omega)) rfl rfl rfl ?_; clear E a; intro a E; refine S_val E (pk_fieldAddr (off := 0) rfl rfl (by kernel_rfl)) rfl rfl rfl ?_; clear E a; intro a E
            refine S_val E (pk_loadR1 (T := LtrT) (off := 0) H 2 rfl hgw hek trivial rfl rfl (by first | rfl | exact (addr_add_zero _).symm) rfl (by kernel_rfl)) rfl rfl rfl ?_; clear E a; intro a E; refine S_val E (pk_int rfl rfl rfl rfl) rfl rfl rfl ?_; clear E a; intro a E; refine S_val E (pk_elA (sz := 3) hgw rfl (by kernel_rfl) rfl rfl rfl (by omega)) rfl rfl rfl ?_; clear E a; intro a E; refine S_val E (pk_fieldAddr (off := 0) rfl rfl (by kernel_rfl)) rfl rfl rfl ?_; clear E a; intro a E; refine S_eff E rfl (fun K hK => ?_); refine eff_storeR (T := LtrT) (off := 0) (new := [.one _]) ((⟨IntKind.i64.wrap (its[gk].1.no + 1), its[gk].1.rc, its[gk].1.text⟩ : Ltr), its[gk].2) 2 E H rfl hgw hφ.2.symm hek rfl rfl (by first | rfl | exact (addr_add_zero _).symm) rfl rfl (by repeat (first | exact trivial | refine ⟨rfl, ?_⟩ | refine ⟨fun _ _ => rfl, ?_⟩)) rfl (by kernel_rfl) ?_; clear H
            intro w H F; replace H : Sep _ _ _ _ [_, _, _, _, _, _] _ := H; refine hK _ _ ?_; clear hK K; refine S_put0 rfl ?_; clear F; refine hK16 _ _ ?_; refine S_region ?_; refine S_val E (pk_intw rfl rfl rfl rfl (wI64 (by omega) (by omega))) rfl rfl rfl ?_; clear E a; intro a E; refine S_val E (pk_move rfl rfl) rfl rfl rfl ?_; clear E a; intro a E; refine loop_end ?_
            exact ⟨(gk + 1, its.set gk ((⟨IntKind.i64.wrap (its[gk].1.no + 1), its[gk].1.rc, its[gk].1.text⟩ : Ltr), its[gk].2)), ⟨E.to (by repeat (first | exact trivial | refine ⟨rfl, ?_⟩)), H, ⟨by simp only; omega, by rw [List.length_set]; exact hφ.2⟩⟩, by simp only; omega⟩
          · skip
            clear E; intro c88 E
            have hk : ¬ gk < wait1.length := by simpa using c88
            refine S_else E rfl ?_; refine wp_exit ?_
            repeat (first | refine then_exit ?_ | refine block_hit ?_ | refine block_miss (by decide) ?_)
            refine hK12 _ _ ?_; refine wp_seq_k fun K18 hK18 => ?_; refine S_region ?_; refine S_val E (pk_move rfl rfl) rfl rfl rfl ?_; clear E a; intro a E; refine S_val E (pk_move rfl rfl) rfl rfl rfl ?_; clear E a; intro a E; refine S_val E (pk_move rfl rfl) rfl rfl rfl ?_; clear E a; intro a E; refine S_val E (pk_pick rfl rfl rfl) rfl rfl rfl ?_; clear E a; intro a E; refine S_val E (pk_move rfl rfl) rfl rfl rfl ?_; clear E a; intro a E; refine S_val E (pk_load (n := 4) H 5 rfl rfl rfl trivial rfl (by kernel_rfl)) rfl rfl rfl ?_; clear E a; intro a E; refine S_val E (pk_load (n := 4) H 3 rfl rfl rfl trivial rfl (by kernel_rfl)) rfl rfl rfl ?_; clear E a; intro a E; refine S_eff E rfl (fun K hK => ?_); refine eff_call E rfl rfl rfl (by kernel_rfl) ?_; refine (RSame_self H.xk (by exact H.fact 2 rfl) (by exact H.fact 3 rfl) (by exact H.fact 0 rfl) (by exact H.fact 1 rfl)).mono ?_
            rintro e w ⟨rfl, H1⟩
            replace H := H.call H1
            clear H1; replace H : Sep _ _ _ _ [_, _, _, _, _, _] [_, _, _, _] := H; refine hK _ _ ?_; clear hK K; refine S_put E rfl rfl ?_; clear E a; intro a E; refine S_val E (pk_pick rfl rfl rfl) rfl rfl rfl ?_; clear E a; intro a E; refine S_val E (pk_assign rfl rfl) rfl rfl rfl ?_; clear E a; intro a E; refine hK18 _ _ ?_; refine wp_ret ?_
            repeat (first | refine then_ret ?_ | refine block_ret ?_)
            refine ret1 rfl E (resT rfl) ?_
            exact ⟨rfl, H.keepLR (L := []) (R := [])⟩
end Go.Proofs.Yteefhbpmeajbfaa
namespace Go.Proofs.Yteefhbpmeajbfaa
set_option linter.unusedSimpArgs false
set_option linter.unusedVariables false
open Go.ChangeShapes Go.WideShapes Go.ChangeAt Go.RowKit

section
variable {H : Type} {enc : TypeId × Value → H} {P : Program} {w : World} {base : Nat} {spare : Nat → Bool} {held : Bool} {t e : TypeId} {v : Value} {d : DataW H} {p : List MemPlace} {r : Reach}
end
theorem wfb_u8 {n : Int} (h : (Lit.int .u8 n).wf = true) : 0 ≤ n ∧ n < 256 := by
  simp [Lit.wf, IntKind.min, IntKind.max, IntKind.signed, IntKind.bits] at h
  omega
end Go.Proofs.Yteefhbpmeajbfaa
namespace Go.Proofs.Yteefhbpmeajbfaa
set_option linter.unusedSimpArgs false
set_option linter.unusedVariables false
open Go.ChangeShapes Go.WideShapes Go.ChangeAt Go.RowKit

section
variable {H : Type} {enc : TypeId × Value → H} {P : Program} {w : World} {base : Nat} {spare : Nat → Bool} {held : Bool} {t e : TypeId} {v : Value} {fuel : Nat} {x : DataW H × List MemPlace}
/-- A text that comes in. -/
theorem open_txt (hT : ByteT P t e) (hc : P.cellsOf e = 1) (h : DataW.trod enc P w base spare held fuel t [v] = some x) :
    ∃ (A : Option Addr) (n c : Nat) (m : List Nat), v = .slice A n c ∧ n ≤ 9223372036854775807 ∧ Txt w w.heap.size A n c m ∧ ∀ y ∈ m, y < 256 := by
  rcases Go.ChangeShapes.open_ints hT.sl hT.el hc h with ⟨h1, _⟩ | ⟨a, len, cap, zs, h1, hb, hl, hm, hz, _, hcell, hwf⟩
  · exact ⟨none, 0, 0, [], by simpa using h1, by omega, Txt.nil_, by simp⟩
  · have hle : len ≤ zs.length := by rw [hz]; split <;> omega
    have hw : ∀ n ∈ zs, 0 ≤ n ∧ n < 256 := fun n hn => wfb_u8 (hwf n hn)
    have hm' : cap ≤ 9223372036854775807 := hm
    refine ⟨some a, len, cap, (zs.take len).map Int.toNat, by simpa using h1, by omega, ⟨by simp; omega, (fun he => by cases he), fun hn => ?_⟩, ?_⟩
    · refine ⟨a, rfl, ?_, fun i y hy => ?_⟩
      · have h0 := World.block_lt_of_cell? _ _ (hcell 0 (by omega))
        rwa [add_block] at h0
      · rw [List.getElem?_map, Option.map_eq_some_iff] at hy
        obtain ⟨z, hz1, rfl⟩ := hy
        have hi : i < len := by
          have := (List.getElem?_eq_some_iff.1 hz1).1
          simp at this
          omega
        rw [List.getElem?_take_of_lt hi] at hz1
        have hz2 := hw z (List.mem_of_getElem? hz1)
        rw [hcell i (by omega), List.getD_eq_getElem?_getD, hz1]
        unfold bv
        rw [Int.toNat_of_nonneg hz2.1]
        rfl
    · intro y hy
      obtain ⟨z, hz1, rfl⟩ := List.mem_map.1 hy
      have := hw z (List.mem_of_mem_take hz1)
      omega
end
end Go.Proofs.Yteefhbpmeajbfaa
namespace Go.Proofs.Yteefhbpmeajbfaa
set_option linter.unusedSimpArgs false
set_option linter.unusedVariables false
open Go.ChangeShapes Go.WideShapes Go.ChangeAt Go.RowKit

/-- No part weighs more than memory holds. -/
def Light {H : Type} (P : Program) (t : TypeId) (d : DataW H) : Prop := ∀ n ∈ d.weights P t, n ≤ reachBytes
theorem light_of {H : Type} {P : Program} {ts : List TypeId} {ds : List (DataW H)} (hz : (DataW.weightsEach P ts ds).all (· ≤ reachBytes) = true) {j : Nat} {t : TypeId} {d : DataW H} (ht : ts[j]? = some t) (hd : ds[j]? = some d) : Light P t d := fun n hn => by
  have := List.all_eq_true.1 hz n (DataW.weights_mem_each ht hd n hn)
  simpa using this
/-- What a type's data come to. -/
def Opn (P : Program) (t : TypeId) (φ : List Value → World → Prop) : Prop :=
  ∀ (H : Type) (enc : TypeId × Value → H) (w : World) (base : Nat) (spare : Nat → Bool) (held : Bool) (fuel : Nat) (x : DataW H × List MemPlace) (cs : List Value), DataW.trod enc P w base spare held fuel t cs = some x → Light P t x.1 → φ cs w
theorem Opn.imp {P : Program} {t : TypeId} {φ ψ : List Value → World → Prop} (o : Opn P t φ) (h : ∀ cs w, φ cs w → ψ cs w) : Opn P t ψ := fun H enc w base spare held fuel x cs h1 h2 => h cs w (o H enc w base spare held fuel x cs h1 h2)
theorem weights_mem_all {H : Type} {P : Program} {e : TypeId} : ∀ {ds : List (DataW H)} {d : DataW H}, d ∈ ds → ∀ n ∈ d.weights P e, n ∈ DataW.weightsAll P e ds
  | d0 :: ds, d, hd, n, hn => by
    rw [DataW.weightsAll, List.mem_append]
    rcases List.mem_cons.1 hd with rfl | hd
    · exact .inl hn
    · exact .inr (weights_mem_all hd n hn)
theorem cell_keep {w w' : World} {p : Addr} {u : Value} (hk : ∀ k, k < w.heap.size → k ∉ ([] : List Nat) → w'.heap[k]? = w.heap[k]?) (h : w.cell? p = some u) : w'.cell? p = some u := by
  rw [← h]
  have := hk _ (World.block_lt_of_cell? _ _ h) (by simp)
  unfold World.cell?
  rw [this]
section
variable {P : Program} {t e : TypeId}
theorem opn_int {k : IntKind} (ht : P.underlying t = some (.int k)) : Opn P t fun cs w => ∃ z : Int, cs = [.int k z] ∧ (Lit.int k z).wf = true := fun H enc w base spare held fuel x cs h _ => by
  obtain ⟨n, h1, _, hw⟩ := DataW.trod_int ht h
  exact ⟨n, h1, hw⟩
theorem opn_txt (hT : ByteT P t e) (hc : P.cellsOf e = 1) (hbt : P.bytesOf e = 1) : Opn P t fun cs w => ∃ A c l, cs = [.slice A l.length c] ∧ St (TxF A c l) w [] := fun H enc w base spare held fuel x cs h hl => by
  obtain ⟨v, rfl⟩ : ∃ v, cs = [v] := by
    rcases DataW.trod_slice hT.sl h with ⟨h1, _⟩ | ⟨a, len, cap, elems, rest, n, _, h1, _⟩
    · exact ⟨_, h1⟩
    · exact ⟨_, h1⟩
  obtain ⟨A, n, c, m, rfl, _, htx, hm⟩ := open_txt hT hc h
  have hn := htx.len
  subst hn
  refine ⟨A, c, m, rfl, txF_of htx ?_ ?_ hm⟩
  · rcases DataW.trod_slice hT.sl h with ⟨h1, _⟩ | ⟨a, len, cap, elems, rest, n, _, h1, _, _, h2, _⟩
    · injection h1 with h1
      injection h1 with _ h1 h3
      omega
    · injection h1 with h1
      injection h1 with _ h1 h3
      omega
  · rcases DataW.trod_slice hT.sl h with ⟨h1, _⟩ | ⟨a, len, cap, elems, rest, n, _, h1, hx, _, h2, _, hlen, _⟩
    · injection h1 with h1
      injection h1 with _ h1 h3
      omega
    · injection h1 with h1
      injection h1 with _ h1 h3
      have := hl ((elems.length + rest.length) * P.bytesOf e) (by rw [hx]; simp [DataW.weights, hT.sl])
      rw [hbt] at this
      have hr : reachBytes < 140737488355328 := by decide
      omega
/-- A struct's part. -/
theorem opn_field {fs : Array Field} {H : Type} {enc : TypeId × Value → H} {w : World} {base : Nat} {spare : Nat → Bool} {held : Bool} {fuel : Nat} {x : DataW H × List MemPlace} {cs : List Value} (ht : P.underlying t = some (.struct fs)) (h : DataW.trod enc P w base spare held fuel t cs = some x) (hl : Light P t x.1) (i : Nat) {ty off n : Nat}
    (hf : (fs[i]?).map (fun f => (f.type, f.offset)) = some (ty, off)) (hn : P.cellsOf ty = n) {φ : List Value → World → Prop} (o : Opn P ty φ) : φ ((cs.drop off).take n) w := by
  obtain ⟨xs, m, _, hx, _, hxl, hall⟩ := DataW.trod_struct ht h
  obtain ⟨f, hff, he⟩ := Option.map_eq_some_iff.1 hf
  injection he with h1 h2
  have h3 := hall i f hff
  rw [h1, h2, hn] at h3
  have hi : i < xs.length := by
    rw [hxl]
    rcases Nat.lt_or_ge i fs.size with h | h
    · exact h
    · rw [Array.getElem?_eq_none h] at hff; cases hff
  rw [List.getElem?_eq_getElem hi] at h3
  refine o H enc w base spare held m _ _ h3 fun k hk => hl k ?_
  rw [hx]
  simp only [DataW.weights, ht]
  refine DataW.weights_mem_each (j := i) (t := ty) (d := xs[i].1) ?_ ?_ k hk
  · rw [List.getElem?_map, Array.getElem?_toList, hff]; simp [h1]
  · rw [List.getElem?_map, List.getElem?_eq_getElem hi]; rfl
theorem cut_one (off n : Nat) (cs : List Value) : cs.drop off = (cs.drop off).take n ++ cs.drop (off + n) := by
  rw [← List.drop_drop, List.take_append_drop]
theorem cut_end {off : Nat} {cs : List Value} (h : cs.length = off) : cs.drop off = [] := by rw [← h]; exact List.drop_length
theorem opn_len {fs : Array Field} {H : Type} {enc : TypeId × Value → H} {w : World} {base : Nat} {spare : Nat → Bool} {held : Bool} {fuel : Nat} {x : DataW H × List MemPlace} {cs : List Value} (ht : P.underlying t = some (.struct fs)) (h : DataW.trod enc P w base spare held fuel t cs = some x) {n : Nat} (hn : P.cellsOf t = n) : cs.length = n := by
  obtain ⟨xs, m, _, _, hl, _, _⟩ := DataW.trod_struct ht h
  rw [hl, hn]
/-- A slice. -/
theorem opn_slice {α : Type} (T : Ty α) (good : α → Prop) (ht : P.underlying t = some (.slice e)) (hc : P.cellsOf e = T.sz) (o : Opn P e fun cs w => cs.length = T.sz → ∃ v m, cs = cl (T.ch v m) ∧ St (T.nest v m) w [] ∧ good v) :
    Opn P t fun cs w => ∃ A c xs m, cs = [.slice A xs.length c] ∧ St (LiF T A c xs m) w [] ∧ ∀ x ∈ xs, good x := fun H enc w base spare held fuel x cs h hl => by
  rcases DataW.trod_slice ht h with ⟨h1, _⟩ | ⟨a, len, cap, elems, rest, n, _, h1, hx, hb, h2, hm, hlen, hel, _⟩
  · exact ⟨none, 0, [], fun _ => T.dft, h1, liF_nil, fun x hx => by cases hx⟩
  · have key : ∀ i : Fin len, ∃ vm : α × T.μ, (∀ j u, (cl (T.ch vm.1 vm.2))[j]? = some u → w.cell? ((a.add (i.1 * T.sz)).add j) = some u) ∧ St (T.nest vm.1 vm.2) w [] ∧ good vm.1 := fun i => by
      have h3 := hel i.1 i.2
      rw [hc, List.getElem?_eq_getElem (by omega)] at h3
      obtain ⟨c, hcs, htr⟩ := Option.bind_eq_some_iff.1 h3
      obtain ⟨_, hcl, hcell⟩ := World.cells?_some hcs
      obtain ⟨v, m, e1, e2, e3⟩ := o H enc w base spare held n _ _ htr (fun k hk => hl k (by
        rw [hx]
        simp only [DataW.weights, ht, List.mem_cons, List.mem_append]
        exact .inr (.inl (weights_mem_all (List.mem_map.2 ⟨_, List.getElem_mem _, rfl⟩) k hk)))) hcl
      refine ⟨(v, m), fun j u hu => ?_, e2, e3⟩
      have hu' : c[j]? = some u := by rw [e1]; exact hu
      have hj : j < T.sz := by rw [← hcl]; exact (List.getElem?_eq_some_iff.1 hu').1
      rw [← hu']
      exact hcell j hj
    obtain ⟨f, hf⟩ := Classical.axiomOfChoice key
    have hm' : cap ≤ 9223372036854775807 := hm
    refine ⟨some a, cap, List.ofFn fun i => (f i).1, fun i => if h : i < len then (f ⟨i, h⟩).2 else T.dft, by rw [List.length_ofFn]; exact h1, fun w' hk => ?_, fun y hy => ?_⟩
    · refine ⟨by rw [List.length_ofFn]; exact h2, by rw [List.length_ofFn]; omega, fun h => (by cases h), fun ad hA i y hy => ?_⟩
      obtain rfl := Option.some.inj hA
      have hi : i < len := by
        have := (List.getElem?_eq_some_iff.1 hy).1
        rwa [List.length_ofFn] at this
      rw [List.getElem?_ofFn, dif_pos hi] at hy
      obtain rfl := Option.some.inj hy
      rw [dif_pos hi]
      obtain ⟨g1, g2, _⟩ := hf ⟨i, hi⟩
      exact ⟨fun j u hu => cell_keep hk (g1 j u hu), g2 w' hk⟩
    · obtain ⟨i, rfl⟩ := List.mem_ofFn.1 hy
      exact (hf i).2.2
/-- An argument. -/
theorem opn_arg {φ : List Value → World → Prop} (o : Opn P t φ) {H : Type} {enc : TypeId × Value → H} {w : World} {base : Nat} {spare : Nat → Bool} {held : Bool} {v : Value} {d : DataW H} {p : List MemPlace} (h : DataW.Trod enc P w base spare held t v d p) (hl : Light P t d) : φ v.cells.toList w := by
  obtain ⟨fuel, hf⟩ := h
  exact o H enc w base spare held fuel _ _ hf hl
theorem agg_of {cs : Array Value} {X : List Chunk} (e : (Value.agg cs).cells.toList = cl X) : cs = ca X := by
  have e' : cs.toList = cl X := e
  exact Array.ext' (by rw [e']; rfl)
theorem slice_of {A A' : Option Addr} {n n' c c' : Nat} (e : (Value.slice A n c).cells.toList = [.slice A' n' c']) : A = A' ∧ n = n' ∧ c = c' := by
  have e' : [Value.slice A n c] = [.slice A' n' c'] := e
  injection e' with e'
  injection e' with h1 h2 h3
  exact ⟨h1, h2, h3⟩
end
end Go.Proofs.Yteefhbpmeajbfaa
namespace Go.Proofs.Yteefhbpmeajbfaa
set_option linter.unusedSimpArgs false
set_option linter.unusedVariables false
open Go.ChangeShapes Go.WideShapes Go.ChangeAt Go.RowKit

theorem opn_bytes : Opn Try.prog 23 fun cs w => ∃ A c l, cs = [.slice A l.length c] ∧ St (TxF A c l) w [] := opn_txt ⟨Try.underlying23, Try.underlying5, by kernel_rfl⟩ (by kernel_rfl) (by kernel_rfl)
theorem opn_texts : Opn Try.prog 22 fun cs w => ∃ A c xs m, cs = [.slice A xs.length c] ∧ St (LiF TextT A c xs m) w [] ∧ ∀ x ∈ xs, True :=
  opn_slice TextT (fun _ => True) Try.underlying22 (by kernel_rfl) (opn_bytes.imp fun cs w ⟨A, c, l, e, s⟩ _ => ⟨l, (A, c), e, s, trivial⟩)
theorem opn_ints : Opn Try.prog 24 fun cs w => ∃ A c xs m, cs = [.slice A xs.length c] ∧ St (LiF IntT A c xs m) w [] ∧ ∀ x ∈ xs, True :=
  opn_slice IntT (fun _ => True) Try.underlying24 (by kernel_rfl) ((opn_int Try.underlying3).imp fun cs w ⟨z, e, _⟩ _ => ⟨z, (), e, fun _ _ => trivial, trivial⟩)
theorem opn_ltr : Opn Try.prog 49 fun cs w => cs.length = LtrT.sz → ∃ v m, cs = cl (LtrT.ch v m) ∧ St (LtrT.nest v m) w [] ∧ True := fun H enc w base spare held fuel x cs h hl hn => by
  obtain ⟨z0, e0, _⟩ := opn_field (off := 0) (n := 1) Try.underlying49 h hl 0 rfl (by kernel_rfl) (opn_int Try.underlying3)
  have q0 := cut_one 0 1 cs
  obtain ⟨z1, e1, _⟩ := opn_field (off := 1) (n := 1) Try.underlying49 h hl 1 rfl (by kernel_rfl) (opn_int Try.underlying3)
  have q1 := cut_one 1 1 cs
  obtain ⟨A2, c2, l2, e2, s2⟩ := opn_field (off := 2) (n := 1) Try.underlying49 h hl 2 rfl (by kernel_rfl) opn_bytes
  have q2 := cut_one 2 1 cs
  have qe := cut_end (off := 3) hn
  refine ⟨⟨z0, z1, l2⟩, (A2, c2), ?_, s2, trivial⟩
  show cs.drop 0 = _
  rw [q0, e0, q1, e1, q2, e2, qe]
  rfl
theorem opn_ltrs : Opn Try.prog 28 fun cs w => ∃ A c xs m, cs = [.slice A xs.length c] ∧ St (LiF LtrT A c xs m) w [] ∧ ∀ x ∈ xs, True :=
  opn_slice LtrT (fun _ => True) Try.underlying28 (by kernel_rfl) opn_ltr
theorem opn_srv : Opn Try.prog 30 fun cs w => ∃ ep nx : Int, ∃ LA lc log lm WA wc wait wm, cs = cl [.one (.int .u64 ep), .one (.slice LA log.length lc), .one (.slice WA wait.length wc), .one (.int .i64 nx)] ∧ St (LiF TextT LA lc log lm) w [] ∧ St (LiF LtrT WA wc wait wm) w [] ∧ (Lit.int .u64 ep).wf = true ∧ (Lit.int .i64 nx).wf = true := fun H enc w base spare held fuel x cs h hl => by
  obtain ⟨ep, e0, w0⟩ := opn_field (off := 0) (n := 1) Try.underlying30 h hl 0 rfl (by kernel_rfl) (opn_int Try.underlying27)
  have q0 := cut_one 0 1 cs
  obtain ⟨LA, lc, log, lm, e1, sL, _⟩ := opn_field (off := 1) (n := 1) Try.underlying30 h hl 1 rfl (by kernel_rfl) opn_texts
  have q1 := cut_one 1 1 cs
  obtain ⟨WA, wc, wait, wm, e2, sW, _⟩ := opn_field (off := 2) (n := 1) Try.underlying30 h hl 2 rfl (by kernel_rfl) opn_ltrs
  have q2 := cut_one 2 1 cs
  obtain ⟨nx, e3, w3⟩ := opn_field (off := 3) (n := 1) Try.underlying30 h hl 3 rfl (by kernel_rfl) (opn_int Try.underlying3)
  have q3 := cut_one 3 1 cs
  have qe := cut_end (off := 4) (opn_len Try.underlying30 h (by kernel_rfl))
  refine ⟨ep, nx, LA, lc, log, lm, WA, wc, wait, wm, ?_, sL, sW, w0, w3⟩
  show cs.drop 0 = _
  rw [q0, e0, q1, e1, q2, e2, q3, e3, qe]
  rfl
end Go.Proofs.Yteefhbpmeajbfaa
