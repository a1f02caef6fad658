/- The walks of layer 22: what a text is; a text is posted. The walks of the reference's reader: bytes are cut off; a number, a key is read. The walk of the reference's reader: a commit's parts. The walks of layer 22: whether two servers are the same; the reference's functions. The walks of layer 22's reference. The walks of layer 22's reference: a text is posted, a letter taken; whether there are few enough. The walks of layer 22's reference: a letter is taken; whether there are few enough. What layer 22's laws share: a commit that is written; its example. The law ServerDrains: whatever the server, it answers true. The law ServerBack: whatever the server and the number, it answers true. The law ServerOrder: whatever the texts, the epochs and the members, it answers true. Arguments that come in, opened: rows of integers by value. No program is in sight. Arguments that come in, opened: texts, and structs of four with texts. No program is in sight. Arguments that come in, opened: whatever is made of integers, texts, keys, structs and slices. No program is in sight. Layer 22's arguments, opened. -/
import Derived.Test.YteefhbpmeajbfaaServerOrderD
import Derived.WalkKit
import Derived.WalkSpells
import Derived.WalkLawsBesides
import Derived.Deep.QuietTactic
import Derived.BigQuiet
import Derived.StillTailTactics
import Derived.Lib.Hide
import Derived.Deep.LoopGhost
import Derived.Outline
import Derived.Deep.DeepFit
import Derived.Deep.RegionHeld3
import Derived.Deep.RegionLaw
import Derived.OrdersHeld
import Derived.Laws.StructEq
import Derived.Maps.AppendAt
import Derived.Deep.AppendLies
import Derived.Deep.Draws
import Derived.Laws.OwnMore
import Derived.Laws.AppendOwnNone
import Derived.OwnWalk
import Derived.Below
import Derived.Deep.Cut
import Derived.Deep.CutBlock
import Derived.Deep.CutRange
import Derived.DataElems
import Derived.Great.BuildSlice
import Derived.Laws.Entries
import Derived.Laws.Tables
import Derived.SizedLaws
import Derived.Lib.SliceRun
import Derived.Laws.Small
import Derived.Great.Walk
import Derived.Test.YteefhbpmeajbfaaRows
import Derived.Laws.IdiomStrings
import Derived.Lib.Tables
import Derived.Lib.BitFns
import Derived.Laws.Bits64b
import Derived.ProofKit
import Derived.OpenShut
import Derived.ShutString
import Derived.ChangeOld
import Derived.ChangeSlices
import Derived.Lib.SmallJoins
namespace Go.Proofs.Yteefhbpmeajbfaa
set_option linter.unusedSimpArgs false
set_option linter.unusedVariables false
open Go.RowKit
attribute [local irreducible] farB oddB cmV wlV frV
/-- A text's kind, and its epoch. -/
def kindV (t : List Nat) : Int := if (cmV t).2 = 0 then 1 else if (wlV t).2 = 0 then 2 else if (frV t).2 = 0 then 3 else 0
def epV (t : List Nat) : Int := if (cmV t).2 = 0 then (((cmV t).1.ep : Nat) : Int) else 0
def noSrv : Srv := ⟨0, [], [], 0⟩
/-- Letters of a text, numbered. -/
def lettersV (nx : Int) (tos : List Int) (text : List Nat) : List Ltr := tos.mapIdx fun i id => ⟨nx + (i : Int), id, text⟩
/-- What a text that is posted comes to. -/
def postV (s : Srv) (text : List Nat) (tos : List Int) : Srv × Int :=
  if okS s = false ∨ tos.any farB = true then (noSrv, 1)
  else if kindV text = 0 then (noSrv, 3)
  else if kindV text = 1 ∧ epV text ≠ s.ep then (noSrv, 9)
  else if (kindV text = 1 ∧ s.log.length = 2000) ∨ 20000 < s.wait.length + tos.length ∨ 1099511627776 < s.nx + (tos.length : Int) then (noSrv, 8)
  else (⟨if kindV text = 1 then s.ep + 1 else s.ep, if kindV text = 1 then s.log ++ [text] else s.log, s.wait ++ lettersV s.nx tos text, s.nx + (tos.length : Int)⟩, 0)
theorem kindV_ran (t : List Nat) : 0 ≤ kindV t ∧ kindV t ≤ 3 := by
  unfold kindV
  repeat' split
  all_goals omega
theorem okS_of {s : Srv} (h : okS s = true) : s.ep = (s.log.length : Int) ∧ s.log.length ≤ 2000 ∧ s.wait.length ≤ 20000 ∧ 0 ≤ s.nx ∧ s.nx ≤ 1099511627776 ∧ (s.wait.any fun x => oddB s.nx x.no x.rc) = false := by
  simp only [okS, Bool.and_eq_true, decide_eq_true_eq, Bool.not_eq_true'] at h
  obtain ⟨⟨⟨⟨⟨h1, h2⟩, h3⟩, h4⟩, h5⟩, h6⟩ := h
  exact ⟨h1, h2, h3, h4, h5, h6⟩
theorem ok_ne {s : Srv} {b : Bool} (h : ((if okS s then (0 : Int) else 1) != 0) = b) : okS s = !b := by
  cases hq : okS s <;> rw [hq] at h <;> revert h <;> cases b <;> simp
theorem far_sep {x : Int} {X : List Nat} {w0 : World} (hX : ∀ k ∈ X, k < w0.heap.size) : Calls Try.prog 34 #[.int .i64 x] w0 fun e w' => e = .returned (.bool (farB x)) ∧ Sep X [] w0 w' [] [] :=
  (far_any hX).mono fun e w' ⟨h1, h2⟩ => ⟨h1, h2 ▸ Sep.start hX (fun _ h => by cases h)⟩
set_option maxRecDepth 100000 in
set_option maxHeartbeats 4000000 in
theorem read_any {TA : Option Addr} {tc : Nat} {text : List Nat} {X : List Nat} {w0 : World} (hX : ∀ k ∈ X, k < w0.heap.size) (hT : St (TxF TA tc text) w0 X) :
    Calls Try.prog 35 #[.slice TA text.length tc] w0 fun e w' => e = .returned (.tuple #[.int .i64 (kindV text), .int .u64 (epV text)]) ∧ Sep X [] w0 w' [] [] := by
  refine calls_env Try.ntmps35 Try.func35 rfl rfl fun a E => ?_; replace E : Env a _ [(0, _)] := E
  have H : Sep X [] w0 w0 [] [(TxF TA tc text)] := Sep.start hX (List.forall_mem_cons.2 ⟨hT, fun _ h => by cases h⟩)
  refine wp_seq_k fun K0 hK0 => ?_; refine S_region ?_; refine S_val E (pk_assign rfl rfl) rfl rfl rfl ?_; clear E a; intro a E; refine S_val E (pk_assign rfl rfl) rfl rfl rfl ?_; clear E a; intro a E; refine hK0 _ _ ?_; refine wp_seq_k fun K1 hK1 => ?_; refine wp_seq_k fun K2 hK2 => ?_; refine S_region ?_; refine S_val E (pk_move rfl rfl) rfl rfl rfl ?_; clear E a; intro a E; refine S_eff E rfl (fun K hK => ?_); refine eff_call E rfl rfl rfl (by kernel_rfl) ?_; refine (readCommit_sep H.xk (H.fact 0 rfl)).mono ?_; rintro e w ⟨at4, rfl, hok, H1⟩
  replace H := H.call H1
  clear H1; replace H : Sep _ _ _ _ [] [_] := H; refine hK _ _ ?_; clear hK K; refine S_put E rfl rfl ?_; clear E a; intro a E; refine S_val E (pk_move rfl rfl) rfl rfl rfl ?_; clear E a; intro a E; refine S_val E (pk_extract rfl rfl rfl) rfl rfl rfl ?_; clear E a; intro a E; refine S_val E (pk_extract rfl rfl rfl) rfl rfl rfl ?_; clear E a; intro a E; refine S_eff E rfl (fun K hK => ?_); refine eff_alloc (z := [.one (.int .u64 0), .one (.int .i64 0), .one (.slice none 0 0), .key [], .one (.slice none 0 0), .one (.slice none 0 0), .one (.slice none 0 0), .key []]) H rfl (by kernel_rfl) ?_; clear H; intro b4 w H _; refine hK _ _ ?_; clear hK K; refine S_put E rfl rfl ?_; clear E a; intro a E; refine S_eff E rfl (fun K hK => ?_); refine eff_store 0 E H rfl rfl rfl rfl rfl (by repeat (first | exact trivial | refine ⟨rfl, ?_⟩ | refine ⟨fun _ _ => rfl, ?_⟩)) rfl (by kernel_rfl) rfl ?_; clear H
  intro w H _; replace H : Sep _ _ _ _ [_] _ := H; refine hK _ _ ?_; clear hK K; refine S_put0 rfl ?_; refine S_val E (pk_assign rfl rfl) rfl rfl rfl ?_; clear E a; intro a E; refine hK2 _ _ ?_; refine wp_seq_k fun K3 hK3 => ?_; refine S_region ?_; refine S_val E (pk_move rfl rfl) rfl rfl rfl ?_; clear E a; intro a E; refine S_val E (pk_int rfl rfl rfl rfl) rfl rfl rfl ?_; clear E a; intro a E; refine hK3 _ _ ?_; refine env_split (d := 16) E rfl ?_ ?_
  · skip
    clear E; intro c16 E; refine S_then E rfl ?_; refine wp_seq_k fun K4 hK4 => ?_; refine C_region E H [] 3 [(0, false), (1, false), (2, false)] (by kernel_rfl) (by kernel_rfl) (fun w HS => ?_)
    (simp only [canOps, List.getElem?_cons_zero, List.getElem?_cons_succ, List.drop_succ_cons, List.drop_zero])
    clear H
    have H := HS
    have hsz : w.heap.size ≤ w.heap.size := Nat.le_refl _
    have HK : CanB.Keep (fun k => k < w.heap.size ∧ k ∉ []) w w := CanB.Keep.refl _ _
    refine C_val E HK (pk_fieldAddr (off := 0) rfl rfl (by kernel_rfl)) rfl rfl rfl (fun _ _ _ _ h => h) ?_; clear E a; intro a E; refine C_val E HK (pk_load1 HS 0 rfl rfl rfl (HS.inS 0 rfl (by simp)) rfl (by kernel_rfl)) rfl rfl rfl (fun _ _ _ _ h => h) ?_; clear E a; intro a E; refine C_val E HK (pk_assign rfl rfl) rfl rfl rfl (fun _ _ _ _ h => h) ?_; clear E a; intro a E; refine CanB.wpCan_nil ?_
    try (simp only [List.take_succ_cons, List.take_zero, List.drop_succ_cons, List.drop_zero])
    clear HS HK hsz; refine S_val E (pk_assign rfl rfl) rfl rfl rfl ?_; clear E a; intro a E; refine hK4 _ _ ?_; refine wp_ret ?_
    repeat (first | refine then_ret ?_ | refine block_ret ?_)
    refine ret2 rfl E (resT rfl) (resT rfl) ?_
    have c := eq_of_beq c16
    exact ⟨by unfold kindV epV; rw [if_pos c, if_pos c]; rfl, H.keepLR (L := []) (R := [])⟩
  · skip
    clear E; intro c16 E; refine S_else E rfl ?_; refine wp_skip ?_; refine hK1 _ _ ?_; refine wp_seq_k fun K5 hK5 => ?_; refine wp_seq_k fun K6 hK6 => ?_; refine S_region ?_; refine S_val E (pk_move rfl rfl) rfl rfl rfl ?_; clear E a; intro a E; refine S_eff E rfl (fun K hK => ?_); refine eff_call E rfl rfl rfl (by kernel_rfl) ?_; refine (readWelcome_sep H.xk (H.fact 0 rfl)).mono ?_; rintro e w ⟨wA, wc, rfl, H1⟩
    replace H := H.call H1
    clear H1; replace H : Sep _ _ _ _ [_] [_] := H; refine hK _ _ ?_; clear hK K; refine S_put E rfl rfl ?_; clear E a; intro a E; refine S_val E (pk_move rfl rfl) rfl rfl rfl ?_; clear E a; intro a E; refine S_val E (pk_extract rfl rfl rfl) rfl rfl rfl ?_; clear E a; intro a E; refine S_val E (pk_extract rfl rfl rfl) rfl rfl rfl ?_; clear E a; intro a E; refine S_eff E rfl (fun K hK => ?_); refine eff_alloc (z := [.one (.int .i64 0), .one (.slice none 0 0), .one (.slice none 0 0), .one (.slice none 0 0)]) H rfl (by kernel_rfl) ?_; clear H; intro b6 w H _; refine hK _ _ ?_; clear hK K; refine S_put E rfl rfl ?_; clear E a; intro a E; refine S_eff E rfl (fun K hK => ?_); refine eff_store 0 E H rfl rfl rfl rfl rfl (by repeat (first | exact trivial | refine ⟨rfl, ?_⟩ | refine ⟨fun _ _ => rfl, ?_⟩)) rfl (by kernel_rfl) rfl ?_; clear H; intro w H _; replace H : Sep _ _ _ _ [_, _] _ := H
    refine hK _ _ ?_; clear hK K; refine S_put0 rfl ?_; refine S_val E (pk_assign rfl rfl) rfl rfl rfl ?_; clear E a; intro a E; refine hK6 _ _ ?_; refine wp_seq_k fun K7 hK7 => ?_; refine S_region ?_; refine S_val E (pk_move rfl rfl) rfl rfl rfl ?_; clear E a; intro a E; refine S_val E (pk_int rfl rfl rfl rfl) rfl rfl rfl ?_; clear E a; intro a E; refine hK7 _ _ ?_; refine env_split (d := 25) E rfl ?_ ?_
    · skip
      clear E; intro c25 E; refine S_then E rfl ?_; refine wp_seq_k fun K8 hK8 => ?_; refine S_region ?_; refine S_val E (pk_assign rfl rfl) rfl rfl rfl ?_; clear E a; intro a E; refine S_val E (pk_assign rfl rfl) rfl rfl rfl ?_; clear E a; intro a E; refine hK8 _ _ ?_; refine wp_ret ?_
      repeat (first | refine then_ret ?_ | refine block_ret ?_)
      refine ret2 rfl E (resT rfl) (resT rfl) ?_
      have c := ne_of_beq_false c16
      have d := eq_of_beq c25
      exact ⟨by unfold kindV epV; rw [if_neg c, if_pos d, if_neg c], H.keepLR (L := []) (R := [])⟩
    · skip
      clear E; intro c25 E; refine S_else E rfl ?_; refine wp_skip ?_; refine hK5 _ _ ?_; refine wp_seq_k fun K9 hK9 => ?_; refine wp_seq_k fun K10 hK10 => ?_; refine S_region ?_; refine S_val E (pk_move rfl rfl) rfl rfl rfl ?_; clear E a; intro a E; refine S_eff E rfl (fun K hK => ?_); refine eff_call E rfl rfl rfl (by kernel_rfl) ?_; refine (readFrame_sep H.xk (H.fact 0 rfl)).mono ?_; rintro e w ⟨fA, fc, rfl, H1⟩
      replace H := H.call H1
      clear H1; replace H : Sep _ _ _ _ [_, _] [_] := H; refine hK _ _ ?_; clear hK K; refine S_put E rfl rfl ?_; clear E a; intro a E; refine S_val E (pk_move rfl rfl) rfl rfl rfl ?_; clear E a; intro a E; refine S_val E (pk_extract rfl rfl rfl) rfl rfl rfl ?_; clear E a; intro a E; refine S_val E (pk_extract rfl rfl rfl) rfl rfl rfl ?_; clear E a; intro a E; refine S_eff E rfl (fun K hK => ?_); refine eff_alloc (z := [.one (.int .u64 0), .one (.int .i64 0), .one (.int .u64 0), .one (.slice none 0 0)]) H rfl (by kernel_rfl) ?_; clear H; intro b8 w H _; refine hK _ _ ?_; clear hK K; refine S_put E rfl rfl ?_; clear E a; intro a E; refine S_eff E rfl (fun K hK => ?_); refine eff_store 0 E H rfl rfl rfl rfl rfl (by repeat (first | exact trivial | refine ⟨rfl, ?_⟩ | refine ⟨fun _ _ => rfl, ?_⟩)) rfl (by kernel_rfl) rfl ?_; clear H; intro w H _; replace H : Sep _ _ _ _ [_, _, _] _ := H
      refine hK _ _ ?_; clear hK K; refine S_put0 rfl ?_; refine S_val E (pk_assign rfl rfl) rfl rfl rfl ?_; clear E a; intro a E; refine hK10 _ _ ?_; refine wp_seq_k fun K11 hK11 => ?_; refine S_region ?_; refine S_val E (pk_move rfl rfl) rfl rfl rfl ?_; clear E a; intro a E; refine S_val E (pk_int rfl rfl rfl rfl) rfl rfl rfl ?_; clear E a; intro a E; refine hK11 _ _ ?_; refine env_split (d := 32) E rfl ?_ ?_
      · skip
        clear E; intro c32 E; refine S_then E rfl ?_; refine wp_seq_k fun K12 hK12 => ?_; refine S_region ?_; refine S_val E (pk_assign rfl rfl) rfl rfl rfl ?_; clear E a; intro a E; refine S_val E (pk_assign rfl rfl) rfl rfl rfl ?_; clear E a; intro a E; refine hK12 _ _ ?_; refine wp_ret ?_
        repeat (first | refine then_ret ?_ | refine block_ret ?_)
        refine ret2 rfl E (resT rfl) (resT rfl) ?_
        have c := ne_of_beq_false c16
        have d := ne_of_beq_false c25
        have f := eq_of_beq c32
        exact ⟨by unfold kindV epV; rw [if_neg c, if_neg d, if_pos f, if_neg c], H.keepLR (L := []) (R := [])⟩
      · skip
        clear E; intro c32 E; refine S_else E rfl ?_; refine wp_skip ?_; refine hK9 _ _ ?_; refine wp_seq_k fun K13 hK13 => ?_; refine S_region ?_; refine S_val E (pk_assign rfl rfl) rfl rfl rfl ?_; clear E a; intro a E; refine S_val E (pk_assign rfl rfl) rfl rfl rfl ?_; clear E a; intro a E; refine hK13 _ _ ?_; refine wp_ret ?_
        repeat (first | refine then_ret ?_ | refine block_ret ?_)
        refine ret2 rfl E (resT rfl) (resT rfl) ?_
        have c := ne_of_beq_false c16
        have d := ne_of_beq_false c25
        have f := ne_of_beq_false c32
        exact ⟨by unfold kindV epV; rw [if_neg c, if_neg d, if_neg f, if_neg c], H.keepLR (L := []) (R := [])⟩
set_option maxRecDepth 100000 in
set_option maxHeartbeats 4000000 in
theorem Kind_any {TA : Option Addr} {tc : Nat} {text : List Nat} {X : List Nat} {w0 : World} (hX : ∀ k ∈ X, k < w0.heap.size) (hT : St (TxF TA tc text) w0 X) :
    Calls Try.prog 12 #[.slice TA text.length tc] w0 fun e w' => e = .returned (.int .i64 (kindV text)) ∧ Sep X [] w0 w' [] [] := by
  refine calls_env Try.ntmps12 Try.func12 rfl rfl fun a E => ?_; replace E : Env a _ [(0, _)] := E
  have H : Sep X [] w0 w0 [] [(TxF TA tc text)] := Sep.start hX (List.forall_mem_cons.2 ⟨hT, fun _ h => by cases h⟩)
  refine wp_seq_k fun K0 hK0 => ?_; refine S_region ?_; refine S_val E (pk_assign rfl rfl) rfl rfl rfl ?_; clear E a; intro a E; refine hK0 _ _ ?_; refine wp_seq_k fun K1 hK1 => ?_; refine S_region ?_; refine S_val E (pk_move rfl rfl) rfl rfl rfl ?_; clear E a; intro a E; refine S_eff E rfl (fun K hK => ?_); refine eff_call E rfl rfl rfl (by kernel_rfl) ?_; refine (read_any H.xk (H.fact 0 rfl)).mono ?_; rintro e w ⟨rfl, H1⟩
  replace H := H.call H1
  clear H1; replace H : Sep _ _ _ _ [] [_] := H; refine hK _ _ ?_; clear hK K; refine S_put E rfl rfl ?_; clear E a; intro a E; refine S_val E (pk_move rfl rfl) rfl rfl rfl ?_; clear E a; intro a E; refine S_val E (pk_extract rfl rfl rfl) rfl rfl rfl ?_; clear E a; intro a E; refine S_val E (pk_extract rfl rfl rfl) rfl rfl rfl ?_; clear E a; intro a E; refine S_val E (pk_assign rfl rfl) rfl rfl rfl ?_; clear E a; intro a E; refine S_val E (pk_assign rfl rfl) rfl rfl rfl ?_; clear E a; intro a E; refine hK1 _ _ ?_; refine wp_seq_k fun K2 hK2 => ?_; refine S_region ?_; refine S_val E (pk_move rfl rfl) rfl rfl rfl ?_; clear E a; intro a E; refine S_val E (pk_assign rfl rfl) rfl rfl rfl ?_; clear E a; intro a E; refine hK2 _ _ ?_; refine wp_ret ?_
  repeat (first | refine then_ret ?_ | refine block_ret ?_)
  refine ret1 rfl E (resT rfl) ?_
  exact ⟨rfl, H.keepLR (L := []) (R := [])⟩
set_option maxRecDepth 100000 in
set_option maxHeartbeats 4000000 in
theorem Post_any {ep nx : Int} {LA WA : Option Addr} {lc wc : Nat} {log : List (List Nat)} {wait : List Ltr} {lm : Nat → TextT.μ} {wm : Nat → LtrT.μ} {TA OA : Option Addr} {tc oc : Nat} {text : List Nat} {tos : List Int} {om : Nat → IntT.μ} {X : List Nat} {w0 : World} (hX : ∀ k ∈ X, k < w0.heap.size) (hL : St (LiF TextT LA lc log lm) w0 X) (hW : St (LiF LtrT WA wc wait wm) w0 X) (hT : St (TxF TA tc text) w0 X) (hO : St (LiF IntT OA oc tos om) w0 X) :
    Calls Try.prog 11 #[.agg (ca [.one (.int .u64 ep), .one (.slice LA log.length lc), .one (.slice WA wait.length wc), .one (.int .i64 nx)]), .slice TA text.length tc, .slice OA tos.length oc] w0 fun e w' => ∃ LA' lc' lm' WA' wc' wm', e = .returned (.tuple #[.agg (ca [.one (.int .u64 (postV ⟨ep, log, wait, nx⟩ text tos).1.ep), .one (.slice LA' (postV ⟨ep, log, wait, nx⟩ text tos).1.log.length lc'), .one (.slice WA' (postV ⟨ep, log, wait, nx⟩ text tos).1.wait.length wc'), .one (.int .i64 (postV ⟨ep, log, wait, nx⟩ text tos).1.nx)]), .int .i64 (postV ⟨ep, log, wait, nx⟩ text tos).2]) ∧ Sep X [] w0 w' [] [LiF TextT LA' lc' (postV ⟨ep, log, wait, nx⟩ text tos).1.log lm', LiF LtrT WA' wc' (postV ⟨ep, log, wait, nx⟩ text tos).1.wait wm'] := by
  have hLb := hL.now.big
  have hWb := hW.now.big
  have hOb := hO.now.big
  have hkr := kindV_ran text
  refine calls_env Try.ntmps11 Try.func11 rfl rfl fun a E => ?_; replace E : Env a _ [(0, _), (1, _), (2, _)] := E
  have H : Sep X [] w0 w0 [] [(LiF TextT LA lc log lm), (LiF LtrT WA wc wait wm), (TxF TA tc text), (LiF IntT OA oc tos om)] := Sep.start hX (List.forall_mem_cons.2 ⟨hL, List.forall_mem_cons.2 ⟨hW, List.forall_mem_cons.2 ⟨hT, List.forall_mem_cons.2 ⟨hO, fun _ h => by cases h⟩⟩⟩⟩)
  refine wp_seq_k fun K0 hK0 => ?_; refine S_region ?_; refine S_eff E rfl (fun K hK => ?_); refine eff_box E H rfl rfl rfl ?_; clear H; intro b3 w H _; refine hK _ _ ?_; clear hK K; refine S_put E rfl rfl ?_; clear E a; intro a E; refine S_eff E rfl (fun K hK => ?_); refine eff_alloc (z := [.one (.int .u64 0), .one (.slice none 0 0), .one (.slice none 0 0), .one (.int .i64 0)]) H rfl (by kernel_rfl) ?_; clear H; intro b6 w H _; refine hK _ _ ?_; clear hK K; refine S_put E rfl rfl ?_; clear E a; intro a E; refine S_val E (pk_assign rfl rfl) rfl rfl rfl ?_; clear E a; intro a E; refine hK0 _ _ ?_; refine wp_seq_k fun K1 hK1 => ?_; refine wp_seq_k fun K2 hK2 => ?_; refine S_region ?_; refine S_val E (pk_load (n := 4) H 1 rfl rfl rfl trivial rfl (by kernel_rfl)) rfl rfl rfl ?_; clear E a; intro a E; refine S_eff E rfl (fun K hK => ?_); refine eff_call E rfl rfl rfl (by kernel_rfl) ?_
  refine (Check_any H.xk (H.fact 0 rfl) (H.fact 1 rfl)).mono ?_; rintro e w ⟨rfl, H1⟩
  replace H := H.call H1
  clear H1; replace H : Sep _ _ _ _ [_, _] [_, _, _, _] := H; refine hK _ _ ?_; clear hK K; refine S_put E rfl rfl ?_; clear E a; intro a E; refine S_val E (pk_int rfl rfl rfl rfl) rfl rfl rfl ?_; clear E a; intro a E; refine S_val E (pk_move rfl rfl) rfl rfl rfl ?_; clear E a; intro a E; refine env_split (d := 16) E rfl ?_ ?_
  · skip
    clear E; intro c16 E
    have hok : okS ⟨ep, log, wait, nx⟩ = false := by simpa using ok_ne c16
    refine S_skip E rfl rfl rfl ?_; clear E a; intro a E; refine S_skip E rfl rfl rfl ?_; clear E a; intro a E; refine S_val E (pk_pick rfl rfl rfl) rfl rfl rfl ?_; clear E a; intro a E; refine hK2 _ _ ?_; refine S_then E rfl ?_; refine wp_seq_k fun K3 hK3 => ?_; refine S_region ?_; refine S_val E (pk_build (z := [.one (.int .u64 0), .one (.slice none 0 0), .one (.slice none 0 0), .one (.int .i64 0)]) rfl (by kernel_rfl) (by kernel_rfl) rfl) rfl rfl rfl ?_; clear E a; intro a E; refine S_eff E rfl (fun K hK => ?_); refine eff_store 0 E H rfl rfl rfl rfl rfl (by repeat (first | exact trivial | refine ⟨rfl, ?_⟩ | refine ⟨fun _ _ => rfl, ?_⟩)) rfl (by kernel_rfl) rfl ?_; clear H; intro w H _; replace H : Sep _ _ _ _ [_, _] _ := H; refine hK _ _ ?_; clear hK K; refine S_put0 rfl ?_; refine S_val E (pk_assign rfl rfl) rfl rfl rfl ?_; clear E a; intro a E; refine hK3 _ _ ?_; refine wp_ret ?_
    repeat (first | refine then_ret ?_ | refine block_ret ?_)
    refine ret2 rfl E (by exact resC (n := 4) H 0 rfl rfl rfl (by kernel_rfl)) (resT rfl) ?_
    have hP : postV ⟨ep, log, wait, nx⟩ text tos = (noSrv, 1) := by
      unfold postV; exact if_pos (Or.inl hok)
    rw [hP]
    exact ⟨none, 0, fun _ => TextT.dft, none, 0, fun _ => LtrT.dft, rfl, ((H.keepLR (L := []) (R := [])).know liF_nil).know liF_nil⟩
  · skip
    clear E; intro c16 E
    have hok : okS ⟨ep, log, wait, nx⟩ = true := by simpa using ok_ne c16
    obtain ⟨k1, k2, k3, k4, k5, k6⟩ := okS_of hok
    simp only at k1 k2 k3 k4 k5 k6
    refine S_val E (pk_move rfl rfl) rfl rfl rfl ?_; clear E a; intro a E; refine S_eff E rfl (fun K hK => ?_); refine eff_call E rfl rfl rfl (by kernel_rfl) ?_; refine (ContainsInt_any (f := 34) (cs := #[]) (pb := farB) (r := fun _ => True) (by kernel_rfl) hOb (fun x mm X w0 hX _ _ => far_sep hX) H.xk (H.fact 3 rfl) (fun _ _ => trivial)).mono ?_; rintro e w ⟨rfl, H1⟩
    replace H := H.call H1
    clear H1; replace H : Sep _ _ _ _ [_, _] [_, _, _, _] := H; refine hK _ _ ?_; clear hK K; refine S_put E rfl rfl ?_; clear E a; intro a E; refine S_val E (pk_pick rfl rfl rfl) rfl rfl rfl ?_; clear E a; intro a E; refine hK2 _ _ ?_; refine env_split (d := 19) E rfl ?_ ?_
    · skip
      clear E; intro c19 E; refine S_then E rfl ?_; refine wp_seq_k fun K4 hK4 => ?_; refine S_region ?_; refine S_val E (pk_build (z := [.one (.int .u64 0), .one (.slice none 0 0), .one (.slice none 0 0), .one (.int .i64 0)]) rfl (by kernel_rfl) (by kernel_rfl) rfl) rfl rfl rfl ?_; clear E a; intro a E; refine S_eff E rfl (fun K hK => ?_); refine eff_store 0 E H rfl rfl rfl rfl rfl (by repeat (first | exact trivial | refine ⟨rfl, ?_⟩ | refine ⟨fun _ _ => rfl, ?_⟩)) rfl (by kernel_rfl) rfl ?_; clear H; intro w H _; replace H : Sep _ _ _ _ [_, _] _ := H; refine hK _ _ ?_; clear hK K; refine S_put0 rfl ?_; refine S_val E (pk_assign rfl rfl) rfl rfl rfl ?_; clear E a; intro a E; refine hK4 _ _ ?_; refine wp_ret ?_
      repeat (first | refine then_ret ?_ | refine block_ret ?_)
      refine ret2 rfl E (by exact resC (n := 4) H 0 rfl rfl rfl (by kernel_rfl)) (resT rfl) ?_
      have hP : postV ⟨ep, log, wait, nx⟩ text tos = (noSrv, 1) := by
        unfold postV; exact if_pos (Or.inr c19)
      rw [hP]
      exact ⟨none, 0, fun _ => TextT.dft, none, 0, fun _ => LtrT.dft, rfl, ((H.keepLR (L := []) (R := [])).know liF_nil).know liF_nil⟩
    · skip
      clear E; intro c19 E
      have hfar : tos.any farB = false := c19
      refine S_else E rfl ?_; refine wp_skip ?_; refine hK1 _ _ ?_; refine wp_seq_k fun K5 hK5 => ?_; refine S_region ?_; refine S_val E (pk_move rfl rfl) rfl rfl rfl ?_; clear E a; intro a E; refine S_eff E rfl (fun K hK => ?_); refine eff_call E rfl rfl rfl (by kernel_rfl) ?_; refine (read_any H.xk (H.fact 2 rfl)).mono ?_; rintro e w ⟨rfl, H1⟩
      replace H := H.call H1
      clear H1; replace H : Sep _ _ _ _ [_, _] [_, _, _, _] := H; refine hK _ _ ?_; clear hK K; refine S_put E rfl rfl ?_; clear E a; intro a E; refine S_val E (pk_move rfl rfl) rfl rfl rfl ?_; clear E a; intro a E; refine S_val E (pk_extract rfl rfl rfl) rfl rfl rfl ?_; clear E a; intro a E; refine S_val E (pk_extract rfl rfl rfl) rfl rfl rfl ?_; clear E a; intro a E; refine S_val E (pk_assign rfl rfl) rfl rfl rfl ?_; clear E a; intro a E; refine S_val E (pk_assign rfl rfl) rfl rfl rfl ?_; clear E a; intro a E; refine hK5 _ _ ?_; refine wp_seq_k fun K6 hK6 => ?_; refine S_region ?_; refine S_val E (pk_move rfl rfl) rfl rfl rfl ?_; clear E a; intro a E; refine S_val E (pk_int rfl rfl rfl rfl) rfl rfl rfl ?_; clear E a; intro a E; refine S_val E (pk_assign rfl rfl) rfl rfl rfl ?_; clear E a; intro a E; refine env_split (d := 10) E rfl ?_ ?_
      · skip
        clear E; intro c10 E
        have hcm : kindV text = 1 := eq_of_beq c10
        refine hK6 _ _ ?_; refine wp_seq_k fun K7 hK7 => ?_; refine wp_block ?_; refine wp_seq_k fun K8 hK8 => ?_; refine S_region ?_; refine S_val E (pk_move rfl rfl) rfl rfl rfl ?_; clear E a; intro a E; refine S_val E (pk_int rfl rfl rfl rfl) rfl rfl rfl ?_; clear E a; intro a E; refine S_val E (pk_assign rfl rfl) rfl rfl rfl ?_; clear E a; intro a E; refine hK8 _ _ ?_; refine env_split (d := 28) E rfl ?_ ?_
        · skip
          clear E; intro c28 E
          have hk0 : kindV text = 0 := eq_of_beq c28
          refine S_then E rfl ?_; refine wp_seq_k fun K9 hK9 => ?_; refine S_region ?_; refine S_val E (pk_build (z := [.one (.int .u64 0), .one (.slice none 0 0), .one (.slice none 0 0), .one (.int .i64 0)]) rfl (by kernel_rfl) (by kernel_rfl) rfl) rfl rfl rfl ?_; clear E a; intro a E; refine S_eff E rfl (fun K hK => ?_); refine eff_store 0 E H rfl rfl rfl rfl rfl (by repeat (first | exact trivial | refine ⟨rfl, ?_⟩ | refine ⟨fun _ _ => rfl, ?_⟩)) rfl (by kernel_rfl) rfl ?_; clear H; intro w H _; replace H : Sep _ _ _ _ [_, _] _ := H; refine hK _ _ ?_; clear hK K; refine S_put0 rfl ?_; refine S_val E (pk_assign rfl rfl) rfl rfl rfl ?_; clear E a; intro a E; refine hK9 _ _ ?_; refine wp_ret ?_
          repeat (first | refine then_ret ?_ | refine block_ret ?_)
          refine ret2 rfl E (by exact resC (n := 4) H 0 rfl rfl rfl (by kernel_rfl)) (resT rfl) ?_
          have hP : postV ⟨ep, log, wait, nx⟩ text tos = (noSrv, 3) := by
            unfold postV; rw [if_neg (show ¬(okS ⟨ep, log, wait, nx⟩ = false ∨ tos.any farB = true) by rw [hok, hfar]; simp)]; exact if_pos hk0
          rw [hP]
          exact ⟨none, 0, fun _ => TextT.dft, none, 0, fun _ => LtrT.dft, rfl, ((H.keepLR (L := []) (R := [])).know liF_nil).know liF_nil⟩
        · skip
          clear E; intro c28 E
          have hk0 : ¬ kindV text = 0 := ne_of_beq_false c28
          refine S_else E rfl ?_; refine wp_seq_k fun K10 hK10 => ?_; refine S_region ?_; refine S_val E (pk_move rfl rfl) rfl rfl rfl ?_; clear E a; intro a E; refine S_val E (pk_move rfl rfl) rfl rfl rfl ?_; clear E a; intro a E; refine S_val E (pk_move rfl rfl) rfl rfl rfl ?_; clear E a; intro a E; refine S_val E (pk_fieldAddr (off := 0) rfl rfl (by kernel_rfl)) rfl rfl rfl ?_; clear E a; intro a E; refine S_val E (pk_load1 H 1 rfl rfl rfl trivial rfl (by kernel_rfl)) rfl rfl rfl ?_; clear E a; intro a E; refine S_val E (pk_int rfl rfl rfl rfl) rfl rfl rfl ?_; clear E a; intro a E; refine S_val E (pk_pick rfl rfl rfl) rfl rfl rfl ?_; clear E a; intro a E; refine S_val E (pk_assign rfl rfl) rfl rfl rfl ?_; clear E a; intro a E; refine hK10 _ _ ?_; refine env_split (d := 32) E rfl ?_ ?_
          · skip
            clear E; intro c32 E
            have hne : epV text ≠ ep := by simpa using c32
            refine S_then E rfl ?_; refine wp_seq_k fun K11 hK11 => ?_; refine S_region ?_; refine S_val E (pk_build (z := [.one (.int .u64 0), .one (.slice none 0 0), .one (.slice none 0 0), .one (.int .i64 0)]) rfl (by kernel_rfl) (by kernel_rfl) rfl) rfl rfl rfl ?_; clear E a; intro a E; refine S_eff E rfl (fun K hK => ?_); refine eff_store 0 E H rfl rfl rfl rfl rfl (by repeat (first | exact trivial | refine ⟨rfl, ?_⟩ | refine ⟨fun _ _ => rfl, ?_⟩)) rfl (by kernel_rfl) rfl ?_; clear H; intro w H _; replace H : Sep _ _ _ _ [_, _] _ := H; refine hK _ _ ?_; clear hK K; refine S_put0 rfl ?_; refine S_val E (pk_assign rfl rfl) rfl rfl rfl ?_; clear E a; intro a E; refine hK11 _ _ ?_; refine wp_ret ?_
            repeat (first | refine then_ret ?_ | refine block_ret ?_)
            refine ret2 rfl E (by exact resC (n := 4) H 0 rfl rfl rfl (by kernel_rfl)) (resT rfl) ?_
            have hP : postV ⟨ep, log, wait, nx⟩ text tos = (noSrv, 9) := by
              unfold postV; rw [if_neg (show ¬(okS ⟨ep, log, wait, nx⟩ = false ∨ tos.any farB = true) by rw [hok, hfar]; simp)]; rw [if_neg hk0]; exact if_pos ⟨hcm, hne⟩
            rw [hP]
            exact ⟨none, 0, fun _ => TextT.dft, none, 0, fun _ => LtrT.dft, rfl, ((H.keepLR (L := []) (R := [])).know liF_nil).know liF_nil⟩
          · skip
            clear E; intro c32 E
            have hee : epV text = ep := by simpa using c32
            refine S_else E rfl ?_; refine wp_seq_k fun K12 hK12 => ?_; refine wp_seq_k fun K13 hK13 => ?_; refine S_region ?_; refine S_val E (pk_move rfl rfl) rfl rfl rfl ?_; clear E a; intro a E; refine S_val E (pk_move rfl rfl) rfl rfl rfl ?_; clear E a; intro a E; refine S_val E (pk_fieldAddr (off := 1) rfl rfl (by kernel_rfl)) rfl rfl rfl ?_; clear E a; intro a E; refine S_val E (pk_load1 H 1 rfl rfl rfl trivial rfl (by kernel_rfl)) rfl rfl rfl ?_; clear E a; intro a E; refine S_val E (pk_len rfl rfl (by kernel_rfl)) rfl rfl rfl ?_; clear E a; intro a E; refine S_val E (pk_int rfl rfl rfl rfl) rfl rfl rfl ?_; clear E a; intro a E; refine S_val E (pk_pick rfl rfl rfl) rfl rfl rfl ?_; clear E a; intro a E; refine S_val E (pk_assign rfl rfl) rfl rfl rfl ?_; clear E a; intro a E; refine hK13 _ _ ?_; refine env_split (d := 41) E rfl ?_ ?_
            · skip
              clear E; intro c41 E; refine S_then E rfl ?_; refine wp_skip ?_; refine hK12 _ _ ?_; refine S_then E rfl ?_; refine wp_seq_k fun K14 hK14 => ?_; refine S_region ?_; refine S_val E (pk_build (z := [.one (.int .u64 0), .one (.slice none 0 0), .one (.slice none 0 0), .one (.int .i64 0)]) rfl (by kernel_rfl) (by kernel_rfl) rfl) rfl rfl rfl ?_; clear E a; intro a E; refine S_eff E rfl (fun K hK => ?_); refine eff_store 0 E H rfl rfl rfl rfl rfl (by repeat (first | exact trivial | refine ⟨rfl, ?_⟩ | refine ⟨fun _ _ => rfl, ?_⟩)) rfl (by kernel_rfl) rfl ?_; clear H; intro w H _; replace H : Sep _ _ _ _ [_, _] _ := H; refine hK _ _ ?_; clear hK K; refine S_put0 rfl ?_; refine S_val E (pk_assign rfl rfl) rfl rfl rfl ?_; clear E a; intro a E; refine hK14 _ _ ?_; refine wp_ret ?_
              repeat (first | refine then_ret ?_ | refine block_ret ?_)
              refine ret2 rfl E (by exact resC (n := 4) H 0 rfl rfl rfl (by kernel_rfl)) (resT rfl) ?_
              have hP : postV ⟨ep, log, wait, nx⟩ text tos = (noSrv, 8) := by
                unfold postV; rw [if_neg (show ¬(okS ⟨ep, log, wait, nx⟩ = false ∨ tos.any farB = true) by rw [hok, hfar]; simp)]; rw [if_neg hk0]; rw [if_neg (show ¬(kindV text = 1 ∧ epV text ≠ (⟨ep, log, wait, nx⟩ : Srv).ep) by rintro ⟨_, h⟩; exact h hee)]; exact if_pos (by simp only; simp only [decide_eq_true_eq, beq_iff_eq] at *; omega)
              rw [hP]
              exact ⟨none, 0, fun _ => TextT.dft, none, 0, fun _ => LtrT.dft, rfl, ((H.keepLR (L := []) (R := [])).know liF_nil).know liF_nil⟩
            · skip
              clear E; intro c41 E; refine S_else E rfl ?_; refine wp_seq_k fun K15 hK15 => ?_; refine S_region ?_; refine S_val E (pk_move rfl rfl) rfl rfl rfl ?_; clear E a; intro a E; refine S_val E (pk_len rfl rfl (by kernel_rfl)) rfl rfl rfl ?_; clear E a; intro a E; refine S_val E (pk_fieldAddr (off := 2) rfl rfl (by kernel_rfl)) rfl rfl rfl ?_; clear E a; intro a E; refine S_val E (pk_load1 H 1 rfl rfl rfl trivial rfl (by kernel_rfl)) rfl rfl rfl ?_; clear E a; intro a E; refine S_val E (pk_len rfl rfl (by kernel_rfl)) rfl rfl rfl ?_; clear E a; intro a E; refine S_val E (pk_intw rfl rfl rfl rfl (wI64 (by omega) (by omega))) rfl rfl rfl ?_; clear E a; intro a E; refine S_val E (pk_int rfl rfl rfl rfl) rfl rfl rfl ?_; clear E a; intro a E; refine S_val E (pk_assign rfl rfl) rfl rfl rfl ?_; clear E a; intro a E; refine hK15 _ _ ?_; refine env_split (d := 41) E rfl ?_ ?_
              · skip
                clear E; intro c41 E; refine S_then E rfl ?_; refine wp_skip ?_; refine hK12 _ _ ?_; refine S_then E rfl ?_; refine wp_seq_k fun K16 hK16 => ?_; refine S_region ?_; refine S_val E (pk_build (z := [.one (.int .u64 0), .one (.slice none 0 0), .one (.slice none 0 0), .one (.int .i64 0)]) rfl (by kernel_rfl) (by kernel_rfl) rfl) rfl rfl rfl ?_; clear E a; intro a E; refine S_eff E rfl (fun K hK => ?_); refine eff_store 0 E H rfl rfl rfl rfl rfl (by repeat (first | exact trivial | refine ⟨rfl, ?_⟩ | refine ⟨fun _ _ => rfl, ?_⟩)) rfl (by kernel_rfl) rfl ?_; clear H; intro w H _; replace H : Sep _ _ _ _ [_, _] _ := H; refine hK _ _ ?_; clear hK K; refine S_put0 rfl ?_; refine S_val E (pk_assign rfl rfl) rfl rfl rfl ?_; clear E a; intro a E; refine hK16 _ _ ?_; refine wp_ret ?_
                repeat (first | refine then_ret ?_ | refine block_ret ?_)
                refine ret2 rfl E (by exact resC (n := 4) H 0 rfl rfl rfl (by kernel_rfl)) (resT rfl) ?_
                have hP : postV ⟨ep, log, wait, nx⟩ text tos = (noSrv, 8) := by
                  unfold postV; rw [if_neg (show ¬(okS ⟨ep, log, wait, nx⟩ = false ∨ tos.any farB = true) by rw [hok, hfar]; simp)]; rw [if_neg hk0]; rw [if_neg (show ¬(kindV text = 1 ∧ epV text ≠ (⟨ep, log, wait, nx⟩ : Srv).ep) by rintro ⟨_, h⟩; exact h hee)]; exact if_pos (by simp only; simp only [decide_eq_true_eq, beq_iff_eq] at *; omega)
                rw [hP]
                exact ⟨none, 0, fun _ => TextT.dft, none, 0, fun _ => LtrT.dft, rfl, ((H.keepLR (L := []) (R := [])).know liF_nil).know liF_nil⟩
              · skip
                clear E; intro c41 E; refine S_else E rfl ?_; refine S_region ?_; refine S_val E (pk_move rfl rfl) rfl rfl rfl ?_; clear E a; intro a E; refine S_val E (pk_len rfl rfl (by kernel_rfl)) rfl rfl rfl ?_; clear E a; intro a E; refine S_val E (pk_fieldAddr (off := 3) rfl rfl (by kernel_rfl)) rfl rfl rfl ?_; clear E a; intro a E; refine S_val E (pk_load1 H 1 rfl rfl rfl trivial rfl (by kernel_rfl)) rfl rfl rfl ?_; clear E a; intro a E; refine S_val E (pk_intw rfl rfl rfl rfl (wI64 (by omega) (by omega))) rfl rfl rfl ?_; clear E a; intro a E; refine S_val E (pk_int rfl rfl rfl rfl) rfl rfl rfl ?_; clear E a; intro a E; refine S_val E (pk_assign rfl rfl) rfl rfl rfl ?_; clear E a; intro a E; refine hK12 _ _ ?_; refine env_split (d := 41) E rfl ?_ ?_
                · skip
                  clear E; intro c41 E; refine S_then E rfl ?_; refine wp_seq_k fun K17 hK17 => ?_; refine S_region ?_; refine S_val E (pk_build (z := [.one (.int .u64 0), .one (.slice none 0 0), .one (.slice none 0 0), .one (.int .i64 0)]) rfl (by kernel_rfl) (by kernel_rfl) rfl) rfl rfl rfl ?_; clear E a; intro a E; refine S_eff E rfl (fun K hK => ?_); refine eff_store 0 E H rfl rfl rfl rfl rfl (by repeat (first | exact trivial | refine ⟨rfl, ?_⟩ | refine ⟨fun _ _ => rfl, ?_⟩)) rfl (by kernel_rfl) rfl ?_; clear H; intro w H _; replace H : Sep _ _ _ _ [_, _] _ := H; refine hK _ _ ?_; clear hK K; refine S_put0 rfl ?_; refine S_val E (pk_assign rfl rfl) rfl rfl rfl ?_; clear E a; intro a E; refine hK17 _ _ ?_; refine wp_ret ?_
                  repeat (first | refine then_ret ?_ | refine block_ret ?_)
                  refine ret2 rfl E (by exact resC (n := 4) H 0 rfl rfl rfl (by kernel_rfl)) (resT rfl) ?_
                  have hP : postV ⟨ep, log, wait, nx⟩ text tos = (noSrv, 8) := by
                    unfold postV; rw [if_neg (show ¬(okS ⟨ep, log, wait, nx⟩ = false ∨ tos.any farB = true) by rw [hok, hfar]; simp)]; rw [if_neg hk0]; rw [if_neg (show ¬(kindV text = 1 ∧ epV text ≠ (⟨ep, log, wait, nx⟩ : Srv).ep) by rintro ⟨_, h⟩; exact h hee)]; exact if_pos (by simp only; simp only [decide_eq_true_eq, beq_iff_eq] at *; omega)
                  rw [hP]
                  exact ⟨none, 0, fun _ => TextT.dft, none, 0, fun _ => LtrT.dft, rfl, ((H.keepLR (L := []) (R := [])).know liF_nil).know liF_nil⟩
                · skip
                  clear E; intro c41 E; refine S_else E rfl ?_; refine wp_skip ?_; refine hK7 _ _ ?_; refine wp_seq_k fun K18 hK18 => ?_
                  have hold : ¬(kindV text = 1 ∧ epV text ≠ (⟨ep, log, wait, nx⟩ : Srv).ep) := by rintro ⟨_, h⟩; exact h hee
                  have hfull : ¬((kindV text = 1 ∧ (⟨ep, log, wait, nx⟩ : Srv).log.length = 2000) ∨ 20000 < (⟨ep, log, wait, nx⟩ : Srv).wait.length + tos.length ∨ 1099511627776 < (⟨ep, log, wait, nx⟩ : Srv).nx + (tos.length : Int)) := by
                    simp only
                    simp only [decide_eq_false_iff_not, beq_eq_false_iff_ne, ne_eq] at *
                    omega
                  refine S_region ?_; refine S_val E (pk_load (n := 4) H 1 rfl rfl rfl trivial rfl (by kernel_rfl)) rfl rfl rfl ?_; clear E a; intro a E; refine S_eff E rfl (fun K hK => ?_); refine eff_call E rfl rfl rfl (by kernel_rfl) ?_; refine (own_any (by omega) (by omega) H.xk (H.fact 0 rfl) (H.fact 1 rfl)).mono ?_; rintro e w ⟨LA9, lc9, WA9, wc9, ds, es, hds, hes, rfl, H1⟩
                  replace H := H.call H1
                  clear H1; replace H : Sep _ _ _ _ [_, _, _, _] [_, _, _, _, _, _] := H; refine hK _ _ ?_; clear hK K; refine S_put E rfl rfl ?_; clear E a; intro a E
                  have hds2 : ds.length = log.length := by rw [← hds, List.length_map]
                  have hes2 : es.length = wait.length := by rw [← hes, List.length_map]
                  refine S_eff E rfl (fun K hK => ?_); refine eff_store 3 E H rfl rfl rfl rfl rfl (by repeat (first | exact trivial | refine ⟨rfl, ?_⟩ | refine ⟨fun _ _ => rfl, ?_⟩)) rfl (by kernel_rfl) rfl ?_; clear H; intro w H _; replace H : Sep _ _ _ _ [_, _, _, _] _ := H; refine hK _ _ ?_; clear hK K; refine S_put0 rfl ?_; refine hK18 _ _ ?_; refine wp_seq_k fun K19 hK19 => ?_; refine wp_seq_k fun K20 hK20 => ?_; refine S_region ?_; refine S_val E (pk_move rfl rfl) rfl rfl rfl ?_; clear E a; intro a E; refine hK20 _ _ ?_; refine S_then E rfl ?_; refine wp_seq_k fun K21 hK21 => ?_; refine C_region E H [] 5 [(0, false), (1, false), (2, false), (3, true), (4, true)] (by kernel_rfl) (by kernel_rfl) (fun w HS => ?_)
                  (simp only [canOps, List.getElem?_cons_zero, List.getElem?_cons_succ, List.drop_succ_cons, List.drop_zero])
                  clear H
                  have H := HS
                  have hsz : w.heap.size ≤ w.heap.size := Nat.le_refl _
                  have HK : CanB.Keep (fun k => k < w.heap.size ∧ k ∉ []) w w := CanB.Keep.refl _ _
                  refine C_val E HK (pk_fieldAddr (off := 1) rfl rfl (by kernel_rfl)) rfl rfl rfl (fun _ _ _ _ h => h) ?_; clear E a; intro a E; refine C_val E HK (pk_load1 HS 3 rfl rfl rfl (HS.inS 3 rfl (by simp)) rfl (by kernel_rfl)) rfl rfl rfl (fun _ _ _ _ h => h) ?_; clear E a; intro a E; refine C_val E HK (pk_move rfl rfl) rfl rfl rfl (fun _ _ _ _ h => h) ?_; clear E a; intro a E; refine C_eff E rfl (fun K hK => ?_); refine eff_call E rfl rfl rfl (by kernel_rfl) ?_; refine (clone_sep H.xk (H.fact 4 rfl)).mono ?_; rintro e w ⟨A69, c69, rfl, H1⟩
                  have F := H1.frm
                  replace H := H.call H1
                  clear H1; replace H : Sep _ _ _ _ [_, _, _, _] [_, _, _, _, _, _, _] := H
                  have hk := keep_frm (D := []) F hsz (by simp)
                  refine hK _ _ hk ?_; clear hK K
                  replace HK := HK.trans hk
                  replace hsz := Nat.le_trans hsz (F).size
                  clear hk; refine C_put E rfl rfl ?_; clear E a; intro a E; clear F; refine C_eff E rfl (fun K hK => ?_); refine eff_bslice (sz := 1) (z := [.one (.slice none 0 0)]) E H rfl Try.underlying22 (by kernel_rfl) (by decide) (by kernel_rfl) ⟨_, [.one _], 0, _, rfl, rfl, rfl, rfl, rfl⟩ ?_; clear H; intro b70 w H F
                  have hk := keep_frm (D := []) F hsz (by simp)
                  refine hK _ _ hk ?_; clear hK K
                  replace HK := HK.trans hk
                  replace hsz := Nat.le_trans hsz (F).size
                  clear hk; refine C_put E rfl rfl ?_; clear E a; intro a E; clear F; refine CanB.wpCan_nil ?_
                  try (simp only [List.take_succ_cons, List.take_zero, List.drop_succ_cons, List.drop_zero])
                  clear HS HK hsz; refine S_eff E rfl (fun K hK => ?_); refine eff_app1 (T := TextT) (q := ((text, (A69, c69)) : List Nat × TextT.μ)) (its := ds) 2 0 (by_ := 24) E H rfl rfl rfl rfl rfl rfl ⟨Try.underlying22, by kernel_rfl⟩ (by omega) (by omega) ?_; clear H; intro A71 c71 w hcap71 H F; replace H : Sep _ _ _ _ [_, _, _, _, _] _ := H; refine hK _ _ ?_; clear hK K; refine S_put E rfl rfl ?_; clear E a; intro a E; clear F; refine S_val E (pk_fieldAddr (off := 1) rfl rfl (by kernel_rfl)) rfl rfl rfl ?_; clear E a; intro a E; refine S_eff E rfl (fun K hK => ?_); refine eff_store 4 (new := [.one _]) E H rfl rfl rfl rfl rfl (by repeat (first | exact trivial | refine ⟨rfl, ?_⟩ | refine ⟨fun _ _ => rfl, ?_⟩)) rfl (by kernel_rfl) rfl ?_; clear H; intro w H _; replace H : Sep _ _ _ _ [_, _, _, _, _] _ := H; refine hK _ _ ?_; clear hK K; refine S_put0 rfl ?_
                  refine hK21 _ _ ?_; refine S_region ?_; refine S_val E (pk_fieldAddr (off := 0) rfl rfl (by kernel_rfl)) rfl rfl rfl ?_; clear E a; intro a E; refine S_val E (pk_load1 H 4 rfl rfl rfl trivial rfl (by kernel_rfl)) rfl rfl rfl ?_; clear E a; intro a E; refine S_val E (pk_intw rfl rfl rfl rfl (wU64 (by omega) (by omega))) rfl rfl rfl ?_; clear E a; intro a E; refine S_val E (pk_fieldAddr (off := 0) rfl rfl (by kernel_rfl)) rfl rfl rfl ?_; clear E a; intro a E; refine S_eff E rfl (fun K hK => ?_); refine eff_store 4 (new := [.one _]) E H rfl rfl rfl rfl rfl (by repeat (first | exact trivial | refine ⟨rfl, ?_⟩ | refine ⟨fun _ _ => rfl, ?_⟩)) rfl (by kernel_rfl) rfl ?_; clear H; intro w H _; replace H : Sep _ _ _ _ [_, _, _, _, _] _ := H; refine hK _ _ ?_; clear hK K; refine S_put0 rfl ?_
                  replace H := H.popL
                  refine hK19 _ _ ?_; refine wp_seq_k fun K22 hK22 => ?_; refine wp_seq_k fun K23 hK23 => ?_; refine S_region ?_; refine S_val E (pk_move rfl rfl) rfl rfl rfl ?_; clear E a; intro a E; refine S_val E (pk_len rfl rfl (by kernel_rfl)) rfl rfl rfl ?_; clear E a; intro a E; refine S_val E (pk_move rfl rfl) rfl rfl rfl ?_; clear E a; intro a E; refine hK23 _ _ ?_; refine wp_block ?_
                  have H0 : Sep X [] w0 w [.row (.slice WA9 (es).length wc9) 49 3 (es).length (rowC LtrT (es)), .row (.slice A71 (ds ++ [((text, (A69, c69)) : List Nat × TextT.μ)]).length c71) 23 1 (ds ++ [((text, (A69, c69)) : List Nat × TextT.μ)]).length (rowC TextT ((ds ++ [((text, (A69, c69)) : List Nat × TextT.μ)]))), .blk b6 (ca [.one (.int .u64 0), .one (.slice none 0 0), .one (.slice none 0 0), .one (.int .i64 0)]) 30, .blk b3 (ca [.one (.int .u64 (ep + 1)), .one (.slice A71 (ds ++ [((text, (A69, c69)) : List Nat × TextT.μ)]).length c71), .one (.slice WA9 (es).length wc9), .one (.int .i64 nx)]) 30] [NestF LtrT (es), NestF TextT (ds ++ [((text, (A69, c69)) : List Nat × TextT.μ)]), LiF TextT LA lc log lm, LiF LtrT WA wc wait wm, TxF TA tc text, LiF IntT OA oc tos om] := H.refacts (List.forall_mem_cons.2 ⟨H.fact 1 rfl, List.forall_mem_cons.2 ⟨nest_snoc (q := ((text, (A69, c69)) : List Nat × TextT.μ)) (H.fact 2 rfl) (H.fact 0 rfl), List.forall_mem_cons.2 ⟨H.fact 3 rfl, List.forall_mem_cons.2 ⟨H.fact 4 rfl, List.forall_mem_cons.2 ⟨H.fact 5 rfl, List.forall_mem_cons.2 ⟨H.fact 6 rfl, List.forall_mem_nil _⟩⟩⟩⟩⟩⟩)
                  refine S_loopI (γ := Option Addr × Nat × List (Ltr × LtrT.μ)) [1, 3, 6, 77, 78] (fun g => [(79, .int .i64 (g.2.2.length : Int))]) (fun g => [.row (.slice g.1 (es ++ g.2.2).length g.2.1) 49 3 (es ++ g.2.2).length (rowC LtrT (es ++ g.2.2)), .row (.slice A71 (ds ++ [((text, (A69, c69)) : List Nat × TextT.μ)]).length c71) 23 1 (ds ++ [((text, (A69, c69)) : List Nat × TextT.μ)]).length (rowC TextT ((ds ++ [((text, (A69, c69)) : List Nat × TextT.μ)]))), .blk b6 (ca [.one (.int .u64 0), .one (.slice none 0 0), .one (.slice none 0 0), .one (.int .i64 0)]) 30, .blk b3 (ca [.one (.int .u64 (ep + 1)), .one (.slice A71 (ds ++ [((text, (A69, c69)) : List Nat × TextT.μ)]).length c71), .one (.slice g.1 (es ++ g.2.2).length g.2.1), .one (.int .i64 (nx + (g.2.2.length : Int)))]) 30]) (fun g => [NestF LtrT (es ++ g.2.2), NestF TextT (ds ++ [((text, (A69, c69)) : List Nat × TextT.μ)]), LiF TextT LA lc log lm, LiF LtrT WA wc wait wm, TxF TA tc text, LiF IntT OA oc tos om]) (fun g => g.2.2.length ≤ tos.length ∧ g.2.2.map Prod.fst = (lettersV nx tos text).take g.2.2.length) (fun g => tos.length - g.2.2.length) ((WA9, wc9, [])) E (by simpa using H0) (by repeat (first | exact trivial | refine ⟨rfl, ?_⟩)) (⟨Nat.zero_le _, rfl⟩) ?_
                  clear E H; intro g a w E H hφ; replace E : Env a _ [(79, _), (1, _), (3, _), (6, _), (77, _), (78, _)] := E; replace H : Sep _ _ _ _ [_, _, _, _] [_, _, _, _, _, _] := H
                  obtain ⟨gA, gc, ns⟩ := g
                  simp only at E H hφ ⊢
                  refine wp_seq_k fun K24 hK24 => ?_; refine S_region ?_; refine S_val E (pk_int rfl rfl rfl rfl) rfl rfl rfl ?_; clear E a; intro a E; refine hK24 _ _ ?_; refine wp_seq_k fun K25 hK25 => ?_; refine env_split (d := 80) E rfl ?_ ?_
                  · skip
                    clear E; intro c80 E
                    have hk : ns.length < tos.length := by simpa using c80
                    have hx0 : tos[ns.length]? = some tos[ns.length] := List.getElem?_eq_getElem hk
                    have hx1 : (lettersV nx tos text)[ns.length]? = some ⟨nx + (ns.length : Int), tos[ns.length], text⟩ := by simp [lettersV, hx0]
                    refine S_then E rfl ?_; refine wp_skip ?_; refine hK25 _ _ ?_; refine wp_seq_k fun K26 hK26 => ?_; refine wp_block ?_; refine wp_seq_k fun K27 hK27 => ?_; refine S_region ?_
                    obtain ⟨ad81, hA81, hc81, hn81⟩ := LiF.get (A := OA) (T := IntT) (i := ns.length) (x := tos[ns.length]) (by exact H.fact 5 rfl) hx0
                    refine S_val E (pk_elA (sz := 1) hA81 rfl (by kernel_rfl) rfl rfl rfl (by omega)) rfl rfl rfl ?_; clear E a; intro a E
                    replace H := (H.know hn81).know hc81
                    clear hn81 hc81; replace H : Sep _ _ _ _ _ [_, _, _, _, _, _, _, _] := H; refine S_val E (pk_loadE1 (H.fact 0 rfl) (fun _ _ _ => trivial) rfl rfl rfl (by kernel_rfl)) rfl rfl rfl ?_; clear E a; intro a E; refine S_val E (pk_assign rfl rfl) rfl rfl rfl ?_; clear E a; intro a E; refine hK27 _ _ ?_; refine wp_seq_k fun K28 hK28 => ?_; refine C_region E H [] 9 [(0, false), (1, false), (2, false), (3, false), (4, false), (5, false), (6, true), (7, false), (8, true)] (by kernel_rfl) (by kernel_rfl) (fun w HS => ?_)
                    (simp only [canOps, List.getElem?_cons_zero, List.getElem?_cons_succ, List.drop_succ_cons, List.drop_zero])
                    clear H
                    have H := HS
                    have hsz : w.heap.size ≤ w.heap.size := Nat.le_refl _
                    have HK : CanB.Keep (fun k => k < w.heap.size ∧ k ∉ []) w w := CanB.Keep.refl _ _
                    refine C_val E HK (pk_fieldAddr (off := 2) rfl rfl (by kernel_rfl)) rfl rfl rfl (fun _ _ _ _ h => h) ?_; clear E a; intro a E; refine C_val E HK (pk_load1 HS 3 rfl rfl rfl (HS.inS 3 rfl (by simp)) rfl (by kernel_rfl)) rfl rfl rfl (fun _ _ _ _ h => h) ?_; clear E a; intro a E; refine C_val E HK (pk_fieldAddr (off := 3) rfl rfl (by kernel_rfl)) rfl rfl rfl (fun _ _ _ _ h => h) ?_; clear E a; intro a E; refine C_val E HK (pk_load1 HS 3 rfl rfl rfl (HS.inS 3 rfl (by simp)) rfl (by kernel_rfl)) rfl rfl rfl (fun _ _ _ _ h => h) ?_; clear E a; intro a E; refine C_val E HK (pk_move rfl rfl) rfl rfl rfl (fun _ _ _ _ h => h) ?_; clear E a; intro a E; refine C_val E HK (pk_move rfl rfl) rfl rfl rfl (fun _ _ _ _ h => h) ?_; clear E a; intro a E; refine C_eff E rfl (fun K hK => ?_); refine eff_call E rfl rfl rfl (by kernel_rfl) ?_; refine (clone_sep H.xk (H.fact 6 rfl)).mono ?_
                    rintro e w ⟨A89, c89, rfl, H1⟩
                    have F := H1.frm
                    replace H := H.call H1
                    clear H1; replace H : Sep _ _ _ _ [_, _, _, _] [_, _, _, _, _, _, _, _, _] := H
                    have hk := keep_frm (D := []) F hsz (by simp)
                    refine hK _ _ hk ?_; clear hK K
                    replace HK := HK.trans hk
                    replace hsz := Nat.le_trans hsz (F).size
                    clear hk; refine C_put E rfl rfl ?_; clear E a; intro a E; clear F; refine C_val E HK (pk_build (z := [.one (.int .i64 0), .one (.int .i64 0), .one (.slice none 0 0)]) rfl (by kernel_rfl) (by kernel_rfl) ⟨_, [.one _], 0, _, rfl, rfl, (by kernel_rfl), rfl, ⟨_, [.one _], 1, _, rfl, rfl, (by kernel_rfl), rfl, ⟨_, [.one _], 2, _, rfl, rfl, (by kernel_rfl), rfl, rfl⟩⟩⟩) rfl rfl rfl (fun _ _ _ _ h => h) ?_; clear E a; intro a E; refine C_eff E rfl (fun K hK => ?_); refine eff_bslice (sz := 3) (z := [.one (.int .i64 0), .one (.int .i64 0), .one (.slice none 0 0)]) E H rfl Try.underlying28 (by kernel_rfl) (by decide) (by kernel_rfl) ⟨_, _, 0, _, rfl, rfl, rfl, rfl, rfl⟩ ?_; clear H; intro b91 w H F
                    have hk := keep_frm (D := []) F hsz (by simp)
                    refine hK _ _ hk ?_; clear hK K
                    replace HK := HK.trans hk
                    replace hsz := Nat.le_trans hsz (F).size
                    clear hk; refine C_put E rfl rfl ?_; clear E a; intro a E; clear F; refine CanB.wpCan_nil ?_
                    try (simp only [List.take_succ_cons, List.take_zero, List.drop_succ_cons, List.drop_zero])
                    clear HS HK hsz; refine S_eff E rfl (fun K hK => ?_); refine eff_app1 (T := LtrT) (q := (((⟨nx + (ns.length : Int), tos[ns.length], text⟩ : Ltr), (A89, c89)) : Ltr × LtrT.μ)) (its := es ++ ns) 1 0 (by_ := 40) E H rfl rfl rfl rfl rfl rfl ⟨Try.underlying28, by kernel_rfl⟩ (by simp only [List.length_append]; omega) (by simp only [List.length_append]; omega) ?_; clear H; intro A92 c92 w hcap92 H F; replace H : Sep _ _ _ _ [_, _, _, _, _] _ := H; refine hK _ _ ?_; clear hK K; refine S_put E rfl rfl ?_; clear E a; intro a E; clear F; refine S_val E (pk_fieldAddr (off := 2) rfl rfl (by kernel_rfl)) rfl rfl rfl ?_; clear E a; intro a E; refine S_eff E rfl (fun K hK => ?_); refine eff_store 4 (new := [.one _]) E H rfl rfl rfl rfl rfl (by repeat (first | exact trivial | refine ⟨rfl, ?_⟩ | refine ⟨fun _ _ => rfl, ?_⟩)) rfl (by kernel_rfl) rfl ?_; clear H
                    intro w H _; replace H : Sep _ _ _ _ [_, _, _, _, _] _ := H; refine hK _ _ ?_; clear hK K; refine S_put0 rfl ?_; refine hK28 _ _ ?_; refine S_region ?_; refine S_val E (pk_fieldAddr (off := 3) rfl rfl (by kernel_rfl)) rfl rfl rfl ?_; clear E a; intro a E; refine S_val E (pk_load1 H 4 rfl rfl rfl trivial rfl (by kernel_rfl)) rfl rfl rfl ?_; clear E a; intro a E; refine S_val E (pk_intw rfl rfl rfl rfl (wI64 (by omega) (by omega))) rfl rfl rfl ?_; clear E a; intro a E; refine S_val E (pk_fieldAddr (off := 3) rfl rfl (by kernel_rfl)) rfl rfl rfl ?_; clear E a; intro a E; refine S_eff E rfl (fun K hK => ?_); refine eff_store 4 (new := [.one _]) E H rfl rfl rfl rfl rfl (by repeat (first | exact trivial | refine ⟨rfl, ?_⟩ | refine ⟨fun _ _ => rfl, ?_⟩)) rfl (by kernel_rfl) rfl ?_; clear H; intro w H _; replace H : Sep _ _ _ _ [_, _, _, _, _] _ := H; refine hK _ _ ?_
                    clear hK K; refine S_put0 rfl ?_; refine hK26 _ _ ?_; refine S_region ?_; refine S_val E (pk_intw rfl rfl rfl rfl (wI64 (by omega) (by omega))) rfl rfl rfl ?_; clear E a; intro a E; refine S_val E (pk_move rfl rfl) rfl rfl rfl ?_; clear E a; intro a E
                    replace H := (H.refacts (List.forall_mem_cons.2 ⟨nest_snoc (q := (((⟨nx + (ns.length : Int), tos[ns.length], text⟩ : Ltr), (A89, c89)) : Ltr × LtrT.μ)) (H.fact 3 rfl) (H.fact 0 rfl), List.forall_mem_cons.2 ⟨H.fact 4 rfl, List.forall_mem_cons.2 ⟨H.fact 5 rfl, List.forall_mem_cons.2 ⟨H.fact 6 rfl, List.forall_mem_cons.2 ⟨H.fact 7 rfl, List.forall_mem_cons.2 ⟨H.fact 8 rfl, List.forall_mem_nil _⟩⟩⟩⟩⟩⟩)).popL
                    rw [List.append_assoc, show nx + (ns.length : Int) + 1 = nx + ((ns ++ [(((⟨nx + (ns.length : Int), tos[ns.length], text⟩ : Ltr), (A89, c89)) : Ltr × LtrT.μ)]).length : Int) by rw [List.length_append]; simp; omega] at H
                    refine loop_end ?_
                    exact ⟨(A92, c92, ns ++ [(((⟨nx + (ns.length : Int), tos[ns.length], text⟩ : Ltr), (A89, c89)) : Ltr × LtrT.μ)]), ⟨E.to (by simp only [List.length_append, List.length_singleton]; repeat (first | exact trivial | refine ⟨rfl, ?_⟩)), H, ⟨by simp only [List.length_append, List.length_singleton]; omega, take_done hφ.2 hx1⟩⟩, by simp only [List.length_append, List.length_singleton]; omega⟩
                  · skip
                    clear E; intro c80 E
                    have hk : ¬ ns.length < tos.length := by simpa using c80
                    refine S_else E rfl ?_; refine wp_exit ?_
                    repeat (first | refine then_exit ?_ | refine block_hit ?_ | refine block_miss (by decide) ?_)
                    refine hK22 _ _ ?_; refine wp_seq_k fun K29 hK29 => ?_; refine S_region ?_; refine S_val E (pk_load (n := 4) H 3 rfl rfl rfl trivial rfl (by kernel_rfl)) rfl rfl rfl ?_; clear E a; intro a E; refine S_eff E rfl (fun K hK => ?_); refine eff_store 2 E H rfl rfl rfl rfl rfl (by repeat (first | exact trivial | refine ⟨rfl, ?_⟩ | refine ⟨fun _ _ => rfl, ?_⟩)) rfl (by kernel_rfl) rfl ?_; clear H; intro w H _; replace H : Sep _ _ _ _ [_, _, _, _] _ := H; refine hK _ _ ?_; clear hK K; refine S_put0 rfl ?_; refine S_val E (pk_assign rfl rfl) rfl rfl rfl ?_; clear E a; intro a E; refine hK29 _ _ ?_; refine wp_ret ?_
                    repeat (first | refine then_ret ?_ | refine block_ret ?_)
                    refine ret2 rfl E (by exact resC (n := 4) H 2 rfl rfl rfl (by kernel_rfl)) (resT rfl) ?_
                    have hns : ns.length = tos.length := by omega
                    have hnm : ns.map Prod.fst = lettersV nx tos text := by rw [hφ.2, hns, show tos.length = (lettersV nx tos text).length by simp [lettersV], List.take_length]
                    have hP : postV ⟨ep, log, wait, nx⟩ text tos = (⟨ep + 1, log ++ [text], wait ++ lettersV nx tos text, nx + (tos.length : Int)⟩, 0) := by
                      unfold postV; rw [if_neg (show ¬(okS ⟨ep, log, wait, nx⟩ = false ∨ tos.any farB = true) by rw [hok, hfar]; simp)]; rw [if_neg hk0]; rw [if_neg hold]; rw [if_neg hfull]; rw [if_pos hcm, if_pos hcm]
                    obtain ⟨wm2, HW⟩ := (H.at_ 0 _ rfl).freezeL (xs := wait ++ lettersV nx tos text) rfl (by simp) (by rw [List.map_append, hes, hnm])
                    obtain ⟨lm2, HL⟩ := (HW.at_ 0 _ rfl).freezeL (xs := log ++ [text]) rfl (by simp) (by rw [List.map_append, hds]; rfl)
                    have e1 : (ds ++ [((text, (A69, c69)) : List Nat × TextT.μ)]).length = (log ++ [text]).length := by rw [List.length_append, List.length_append, ← hds, List.length_map]; rfl
                    have e2 : (es ++ ns).length = (wait ++ lettersV nx tos text).length := by rw [← hes, ← hnm, ← List.map_append, List.length_map]
                    rw [hP]
                    refine ⟨A71, c71, lm2, gA, gc, wm2, ?_, HL.keepLR (L := []) (R := [_, _])⟩
                    rw [e1, e2, hns]
      · skip
        clear E; intro c10 E
        have hcm : ¬ kindV text = 1 := ne_of_beq_false c10
        refine hK6 _ _ ?_; refine wp_seq_k fun K30 hK30 => ?_; refine wp_block ?_; refine wp_seq_k fun K31 hK31 => ?_; refine S_region ?_; refine S_val E (pk_move rfl rfl) rfl rfl rfl ?_; clear E a; intro a E; refine S_val E (pk_int rfl rfl rfl rfl) rfl rfl rfl ?_; clear E a; intro a E; refine S_val E (pk_assign rfl rfl) rfl rfl rfl ?_; clear E a; intro a E; refine hK31 _ _ ?_; refine env_split (d := 28) E rfl ?_ ?_
        · skip
          clear E; intro c28 E
          have hk0 : kindV text = 0 := eq_of_beq c28
          refine S_then E rfl ?_; refine wp_seq_k fun K32 hK32 => ?_; refine S_region ?_; refine S_val E (pk_build (z := [.one (.int .u64 0), .one (.slice none 0 0), .one (.slice none 0 0), .one (.int .i64 0)]) rfl (by kernel_rfl) (by kernel_rfl) rfl) rfl rfl rfl ?_; clear E a; intro a E; refine S_eff E rfl (fun K hK => ?_); refine eff_store 0 E H rfl rfl rfl rfl rfl (by repeat (first | exact trivial | refine ⟨rfl, ?_⟩ | refine ⟨fun _ _ => rfl, ?_⟩)) rfl (by kernel_rfl) rfl ?_; clear H; intro w H _; replace H : Sep _ _ _ _ [_, _] _ := H; refine hK _ _ ?_; clear hK K; refine S_put0 rfl ?_; refine S_val E (pk_assign rfl rfl) rfl rfl rfl ?_; clear E a; intro a E; refine hK32 _ _ ?_; refine wp_ret ?_
          repeat (first | refine then_ret ?_ | refine block_ret ?_)
          refine ret2 rfl E (by exact resC (n := 4) H 0 rfl rfl rfl (by kernel_rfl)) (resT rfl) ?_
          have hP : postV ⟨ep, log, wait, nx⟩ text tos = (noSrv, 3) := by
            unfold postV; rw [if_neg (show ¬(okS ⟨ep, log, wait, nx⟩ = false ∨ tos.any farB = true) by rw [hok, hfar]; simp)]; exact if_pos hk0
          rw [hP]
          exact ⟨none, 0, fun _ => TextT.dft, none, 0, fun _ => LtrT.dft, rfl, ((H.keepLR (L := []) (R := [])).know liF_nil).know liF_nil⟩
        · skip
          clear E; intro c28 E
          have hk0 : ¬ kindV text = 0 := ne_of_beq_false c28
          refine S_else E rfl ?_; refine wp_seq_k fun K33 hK33 => ?_; refine S_region ?_; refine S_val E (pk_move rfl rfl) rfl rfl rfl ?_; clear E a; intro a E; refine S_val E (pk_move rfl rfl) rfl rfl rfl ?_; clear E a; intro a E; refine S_skip E rfl rfl rfl ?_; clear E a; intro a E; refine S_skip E rfl rfl rfl ?_; clear E a; intro a E; refine S_skip E rfl rfl rfl ?_; clear E a; intro a E; refine S_skip E rfl rfl rfl ?_; clear E a; intro a E; refine S_val E (pk_pick rfl rfl rfl) rfl rfl rfl ?_; clear E a; intro a E; refine S_val E (pk_assign rfl rfl) rfl rfl rfl ?_; clear E a; intro a E; refine hK33 _ _ ?_; refine S_else E rfl ?_; refine wp_seq_k fun K34 hK34 => ?_; refine wp_seq_k fun K35 hK35 => ?_; refine S_region ?_; refine S_val E (pk_move rfl rfl) rfl rfl rfl ?_; clear E a; intro a E; refine S_val E (pk_move rfl rfl) rfl rfl rfl ?_; clear E a; intro a E
          refine S_skip E rfl rfl rfl ?_; clear E a; intro a E; refine S_skip E rfl rfl rfl ?_; clear E a; intro a E; refine S_skip E rfl rfl rfl ?_; clear E a; intro a E; refine S_skip E rfl rfl rfl ?_; clear E a; intro a E; refine S_val E (pk_pick rfl rfl rfl) rfl rfl rfl ?_; clear E a; intro a E; refine S_val E (pk_assign rfl rfl) rfl rfl rfl ?_; clear E a; intro a E; refine hK35 _ _ ?_; refine S_else E rfl ?_; refine wp_seq_k fun K36 hK36 => ?_; refine S_region ?_; refine S_val E (pk_move rfl rfl) rfl rfl rfl ?_; clear E a; intro a E; refine S_val E (pk_len rfl rfl (by kernel_rfl)) rfl rfl rfl ?_; clear E a; intro a E; refine S_val E (pk_fieldAddr (off := 2) rfl rfl (by kernel_rfl)) rfl rfl rfl ?_; clear E a; intro a E; refine S_val E (pk_load1 H 1 rfl rfl rfl trivial rfl (by kernel_rfl)) rfl rfl rfl ?_; clear E a; intro a E
          refine S_val E (pk_len rfl rfl (by kernel_rfl)) rfl rfl rfl ?_; clear E a; intro a E; refine S_val E (pk_intw rfl rfl rfl rfl (wI64 (by omega) (by omega))) rfl rfl rfl ?_; clear E a; intro a E; refine S_val E (pk_int rfl rfl rfl rfl) rfl rfl rfl ?_; clear E a; intro a E; refine S_val E (pk_assign rfl rfl) rfl rfl rfl ?_; clear E a; intro a E; refine hK36 _ _ ?_; refine env_split (d := 41) E rfl ?_ ?_
          · skip
            clear E; intro c41 E; refine S_then E rfl ?_; refine wp_skip ?_; refine hK34 _ _ ?_; refine S_then E rfl ?_; refine wp_seq_k fun K37 hK37 => ?_; refine S_region ?_; refine S_val E (pk_build (z := [.one (.int .u64 0), .one (.slice none 0 0), .one (.slice none 0 0), .one (.int .i64 0)]) rfl (by kernel_rfl) (by kernel_rfl) rfl) rfl rfl rfl ?_; clear E a; intro a E; refine S_eff E rfl (fun K hK => ?_); refine eff_store 0 E H rfl rfl rfl rfl rfl (by repeat (first | exact trivial | refine ⟨rfl, ?_⟩ | refine ⟨fun _ _ => rfl, ?_⟩)) rfl (by kernel_rfl) rfl ?_; clear H; intro w H _; replace H : Sep _ _ _ _ [_, _] _ := H; refine hK _ _ ?_; clear hK K; refine S_put0 rfl ?_; refine S_val E (pk_assign rfl rfl) rfl rfl rfl ?_; clear E a; intro a E; refine hK37 _ _ ?_; refine wp_ret ?_
            repeat (first | refine then_ret ?_ | refine block_ret ?_)
            refine ret2 rfl E (by exact resC (n := 4) H 0 rfl rfl rfl (by kernel_rfl)) (resT rfl) ?_
            have hP : postV ⟨ep, log, wait, nx⟩ text tos = (noSrv, 8) := by
              unfold postV; rw [if_neg (show ¬(okS ⟨ep, log, wait, nx⟩ = false ∨ tos.any farB = true) by rw [hok, hfar]; simp)]; rw [if_neg hk0]; rw [if_neg (show ¬(kindV text = 1 ∧ epV text ≠ (⟨ep, log, wait, nx⟩ : Srv).ep) by rintro ⟨h, _⟩; exact hcm h)]; exact if_pos (by simp only; simp only [decide_eq_true_eq, beq_iff_eq] at *; omega)
            rw [hP]
            exact ⟨none, 0, fun _ => TextT.dft, none, 0, fun _ => LtrT.dft, rfl, ((H.keepLR (L := []) (R := [])).know liF_nil).know liF_nil⟩
          · skip
            clear E; intro c41 E; refine S_else E rfl ?_; refine S_region ?_; refine S_val E (pk_move rfl rfl) rfl rfl rfl ?_; clear E a; intro a E; refine S_val E (pk_len rfl rfl (by kernel_rfl)) rfl rfl rfl ?_; clear E a; intro a E; refine S_val E (pk_fieldAddr (off := 3) rfl rfl (by kernel_rfl)) rfl rfl rfl ?_; clear E a; intro a E; refine S_val E (pk_load1 H 1 rfl rfl rfl trivial rfl (by kernel_rfl)) rfl rfl rfl ?_; clear E a; intro a E; refine S_val E (pk_intw rfl rfl rfl rfl (wI64 (by omega) (by omega))) rfl rfl rfl ?_; clear E a; intro a E; refine S_val E (pk_int rfl rfl rfl rfl) rfl rfl rfl ?_; clear E a; intro a E; refine S_val E (pk_assign rfl rfl) rfl rfl rfl ?_; clear E a; intro a E; refine hK34 _ _ ?_; refine env_split (d := 41) E rfl ?_ ?_
            · skip
              clear E; intro c41 E; refine S_then E rfl ?_; refine wp_seq_k fun K38 hK38 => ?_; refine S_region ?_; refine S_val E (pk_build (z := [.one (.int .u64 0), .one (.slice none 0 0), .one (.slice none 0 0), .one (.int .i64 0)]) rfl (by kernel_rfl) (by kernel_rfl) rfl) rfl rfl rfl ?_; clear E a; intro a E; refine S_eff E rfl (fun K hK => ?_); refine eff_store 0 E H rfl rfl rfl rfl rfl (by repeat (first | exact trivial | refine ⟨rfl, ?_⟩ | refine ⟨fun _ _ => rfl, ?_⟩)) rfl (by kernel_rfl) rfl ?_; clear H; intro w H _; replace H : Sep _ _ _ _ [_, _] _ := H; refine hK _ _ ?_; clear hK K; refine S_put0 rfl ?_; refine S_val E (pk_assign rfl rfl) rfl rfl rfl ?_; clear E a; intro a E; refine hK38 _ _ ?_; refine wp_ret ?_
              repeat (first | refine then_ret ?_ | refine block_ret ?_)
              refine ret2 rfl E (by exact resC (n := 4) H 0 rfl rfl rfl (by kernel_rfl)) (resT rfl) ?_
              have hP : postV ⟨ep, log, wait, nx⟩ text tos = (noSrv, 8) := by
                unfold postV; rw [if_neg (show ¬(okS ⟨ep, log, wait, nx⟩ = false ∨ tos.any farB = true) by rw [hok, hfar]; simp)]; rw [if_neg hk0]; rw [if_neg (show ¬(kindV text = 1 ∧ epV text ≠ (⟨ep, log, wait, nx⟩ : Srv).ep) by rintro ⟨h, _⟩; exact hcm h)]; exact if_pos (by simp only; simp only [decide_eq_true_eq, beq_iff_eq] at *; omega)
              rw [hP]
              exact ⟨none, 0, fun _ => TextT.dft, none, 0, fun _ => LtrT.dft, rfl, ((H.keepLR (L := []) (R := [])).know liF_nil).know liF_nil⟩
            · skip
              clear E; intro c41 E; refine S_else E rfl ?_; refine wp_skip ?_; refine hK30 _ _ ?_; refine wp_seq_k fun K39 hK39 => ?_
              have hold : ¬(kindV text = 1 ∧ epV text ≠ (⟨ep, log, wait, nx⟩ : Srv).ep) := by rintro ⟨h, _⟩; exact hcm h
              have hfull : ¬((kindV text = 1 ∧ (⟨ep, log, wait, nx⟩ : Srv).log.length = 2000) ∨ 20000 < (⟨ep, log, wait, nx⟩ : Srv).wait.length + tos.length ∨ 1099511627776 < (⟨ep, log, wait, nx⟩ : Srv).nx + (tos.length : Int)) := by
                simp only
                simp only [decide_eq_false_iff_not, beq_eq_false_iff_ne, ne_eq] at *
                omega
              refine S_region ?_; refine S_val E (pk_load (n := 4) H 1 rfl rfl rfl trivial rfl (by kernel_rfl)) rfl rfl rfl ?_; clear E a; intro a E; refine S_eff E rfl (fun K hK => ?_); refine eff_call E rfl rfl rfl (by kernel_rfl) ?_; refine (own_any (by omega) (by omega) H.xk (H.fact 0 rfl) (H.fact 1 rfl)).mono ?_; rintro e w ⟨LA9, lc9, WA9, wc9, ds, es, hds, hes, rfl, H1⟩
              replace H := H.call H1
              clear H1; replace H : Sep _ _ _ _ [_, _, _, _] [_, _, _, _, _, _] := H; refine hK _ _ ?_; clear hK K; refine S_put E rfl rfl ?_; clear E a; intro a E
              have hds2 : ds.length = log.length := by rw [← hds, List.length_map]
              have hes2 : es.length = wait.length := by rw [← hes, List.length_map]
              refine S_eff E rfl (fun K hK => ?_); refine eff_store 3 E H rfl rfl rfl rfl rfl (by repeat (first | exact trivial | refine ⟨rfl, ?_⟩ | refine ⟨fun _ _ => rfl, ?_⟩)) rfl (by kernel_rfl) rfl ?_; clear H; intro w H _; replace H : Sep _ _ _ _ [_, _, _, _] _ := H; refine hK _ _ ?_; clear hK K; refine S_put0 rfl ?_; refine hK39 _ _ ?_; refine wp_seq_k fun K40 hK40 => ?_; refine wp_seq_k fun K41 hK41 => ?_; refine S_region ?_; refine S_val E (pk_move rfl rfl) rfl rfl rfl ?_; clear E a; intro a E; refine hK41 _ _ ?_; refine S_else E rfl ?_; refine wp_skip ?_; refine hK40 _ _ ?_; refine wp_seq_k fun K42 hK42 => ?_; refine wp_seq_k fun K43 hK43 => ?_; refine S_region ?_; refine S_val E (pk_move rfl rfl) rfl rfl rfl ?_; clear E a; intro a E; refine S_val E (pk_len rfl rfl (by kernel_rfl)) rfl rfl rfl ?_; clear E a; intro a E; refine S_val E (pk_move rfl rfl) rfl rfl rfl ?_; clear E a
              intro a E; refine hK43 _ _ ?_; refine wp_block ?_
              have H0 : Sep X [] w0 w [.row (.slice WA9 (es).length wc9) 49 3 (es).length (rowC LtrT (es)), .row (.slice LA9 ds.length lc9) 23 1 ds.length (rowC TextT (ds)), .blk b6 (ca [.one (.int .u64 0), .one (.slice none 0 0), .one (.slice none 0 0), .one (.int .i64 0)]) 30, .blk b3 (ca [.one (.int .u64 ep), .one (.slice LA9 ds.length lc9), .one (.slice WA9 (es).length wc9), .one (.int .i64 nx)]) 30] [NestF LtrT (es), NestF TextT ds, LiF TextT LA lc log lm, LiF LtrT WA wc wait wm, TxF TA tc text, LiF IntT OA oc tos om] := H
              refine S_loopI (γ := Option Addr × Nat × List (Ltr × LtrT.μ)) [1, 3, 6, 77, 78] (fun g => [(79, .int .i64 (g.2.2.length : Int))]) (fun g => [.row (.slice g.1 (es ++ g.2.2).length g.2.1) 49 3 (es ++ g.2.2).length (rowC LtrT (es ++ g.2.2)), .row (.slice LA9 ds.length lc9) 23 1 ds.length (rowC TextT (ds)), .blk b6 (ca [.one (.int .u64 0), .one (.slice none 0 0), .one (.slice none 0 0), .one (.int .i64 0)]) 30, .blk b3 (ca [.one (.int .u64 ep), .one (.slice LA9 ds.length lc9), .one (.slice g.1 (es ++ g.2.2).length g.2.1), .one (.int .i64 (nx + (g.2.2.length : Int)))]) 30]) (fun g => [NestF LtrT (es ++ g.2.2), NestF TextT ds, LiF TextT LA lc log lm, LiF LtrT WA wc wait wm, TxF TA tc text, LiF IntT OA oc tos om]) (fun g => g.2.2.length ≤ tos.length ∧ g.2.2.map Prod.fst = (lettersV nx tos text).take g.2.2.length) (fun g => tos.length - g.2.2.length) ((WA9, wc9, [])) E (by simpa using H0) (by repeat (first | exact trivial | refine ⟨rfl, ?_⟩)) (⟨Nat.zero_le _, rfl⟩) ?_
              clear E H; intro g a w E H hφ; replace E : Env a _ [(79, _), (1, _), (3, _), (6, _), (77, _), (78, _)] := E; replace H : Sep _ _ _ _ [_, _, _, _] [_, _, _, _, _, _] := H
              obtain ⟨gA, gc, ns⟩ := g
              simp only at E H hφ ⊢
              refine wp_seq_k fun K44 hK44 => ?_; refine S_region ?_; refine S_val E (pk_int rfl rfl rfl rfl) rfl rfl rfl ?_; clear E a; intro a E; refine hK44 _ _ ?_; refine wp_seq_k fun K45 hK45 => ?_; refine env_split (d := 80) E rfl ?_ ?_
              · skip
                clear E; intro c80 E
                have hk : ns.length < tos.length := by simpa using c80
                have hx0 : tos[ns.length]? = some tos[ns.length] := List.getElem?_eq_getElem hk
                have hx1 : (lettersV nx tos text)[ns.length]? = some ⟨nx + (ns.length : Int), tos[ns.length], text⟩ := by simp [lettersV, hx0]
                refine S_then E rfl ?_; refine wp_skip ?_; refine hK45 _ _ ?_; refine wp_seq_k fun K46 hK46 => ?_; refine wp_block ?_; refine wp_seq_k fun K47 hK47 => ?_; refine S_region ?_
                obtain ⟨ad81, hA81, hc81, hn81⟩ := LiF.get (A := OA) (T := IntT) (i := ns.length) (x := tos[ns.length]) (by exact H.fact 5 rfl) hx0
                refine S_val E (pk_elA (sz := 1) hA81 rfl (by kernel_rfl) rfl rfl rfl (by omega)) rfl rfl rfl ?_; clear E a; intro a E
                replace H := (H.know hn81).know hc81
                clear hn81 hc81; replace H : Sep _ _ _ _ _ [_, _, _, _, _, _, _, _] := H; refine S_val E (pk_loadE1 (H.fact 0 rfl) (fun _ _ _ => trivial) rfl rfl rfl (by kernel_rfl)) rfl rfl rfl ?_; clear E a; intro a E; refine S_val E (pk_assign rfl rfl) rfl rfl rfl ?_; clear E a; intro a E; refine hK47 _ _ ?_; refine wp_seq_k fun K48 hK48 => ?_; refine C_region E H [] 9 [(0, false), (1, false), (2, false), (3, false), (4, false), (5, false), (6, true), (7, false), (8, true)] (by kernel_rfl) (by kernel_rfl) (fun w HS => ?_)
                (simp only [canOps, List.getElem?_cons_zero, List.getElem?_cons_succ, List.drop_succ_cons, List.drop_zero])
                clear H
                have H := HS
                have hsz : w.heap.size ≤ w.heap.size := Nat.le_refl _
                have HK : CanB.Keep (fun k => k < w.heap.size ∧ k ∉ []) w w := CanB.Keep.refl _ _
                refine C_val E HK (pk_fieldAddr (off := 2) rfl rfl (by kernel_rfl)) rfl rfl rfl (fun _ _ _ _ h => h) ?_; clear E a; intro a E; refine C_val E HK (pk_load1 HS 3 rfl rfl rfl (HS.inS 3 rfl (by simp)) rfl (by kernel_rfl)) rfl rfl rfl (fun _ _ _ _ h => h) ?_; clear E a; intro a E; refine C_val E HK (pk_fieldAddr (off := 3) rfl rfl (by kernel_rfl)) rfl rfl rfl (fun _ _ _ _ h => h) ?_; clear E a; intro a E; refine C_val E HK (pk_load1 HS 3 rfl rfl rfl (HS.inS 3 rfl (by simp)) rfl (by kernel_rfl)) rfl rfl rfl (fun _ _ _ _ h => h) ?_; clear E a; intro a E; refine C_val E HK (pk_move rfl rfl) rfl rfl rfl (fun _ _ _ _ h => h) ?_; clear E a; intro a E; refine C_val E HK (pk_move rfl rfl) rfl rfl rfl (fun _ _ _ _ h => h) ?_; clear E a; intro a E; refine C_eff E rfl (fun K hK => ?_); refine eff_call E rfl rfl rfl (by kernel_rfl) ?_; refine (clone_sep H.xk (H.fact 6 rfl)).mono ?_
                rintro e w ⟨A89, c89, rfl, H1⟩
                have F := H1.frm
                replace H := H.call H1
                clear H1; replace H : Sep _ _ _ _ [_, _, _, _] [_, _, _, _, _, _, _, _, _] := H
                have hk := keep_frm (D := []) F hsz (by simp)
                refine hK _ _ hk ?_; clear hK K
                replace HK := HK.trans hk
                replace hsz := Nat.le_trans hsz (F).size
                clear hk; refine C_put E rfl rfl ?_; clear E a; intro a E; clear F; refine C_val E HK (pk_build (z := [.one (.int .i64 0), .one (.int .i64 0), .one (.slice none 0 0)]) rfl (by kernel_rfl) (by kernel_rfl) ⟨_, [.one _], 0, _, rfl, rfl, (by kernel_rfl), rfl, ⟨_, [.one _], 1, _, rfl, rfl, (by kernel_rfl), rfl, ⟨_, [.one _], 2, _, rfl, rfl, (by kernel_rfl), rfl, rfl⟩⟩⟩) rfl rfl rfl (fun _ _ _ _ h => h) ?_; clear E a; intro a E; refine C_eff E rfl (fun K hK => ?_); refine eff_bslice (sz := 3) (z := [.one (.int .i64 0), .one (.int .i64 0), .one (.slice none 0 0)]) E H rfl Try.underlying28 (by kernel_rfl) (by decide) (by kernel_rfl) ⟨_, _, 0, _, rfl, rfl, rfl, rfl, rfl⟩ ?_; clear H; intro b91 w H F
                have hk := keep_frm (D := []) F hsz (by simp)
                refine hK _ _ hk ?_; clear hK K
                replace HK := HK.trans hk
                replace hsz := Nat.le_trans hsz (F).size
                clear hk; refine C_put E rfl rfl ?_; clear E a; intro a E; clear F; refine CanB.wpCan_nil ?_
                try (simp only [List.take_succ_cons, List.take_zero, List.drop_succ_cons, List.drop_zero])
                clear HS HK hsz; refine S_eff E rfl (fun K hK => ?_); refine eff_app1 (T := LtrT) (q := (((⟨nx + (ns.length : Int), tos[ns.length], text⟩ : Ltr), (A89, c89)) : Ltr × LtrT.μ)) (its := es ++ ns) 1 0 (by_ := 40) E H rfl rfl rfl rfl rfl rfl ⟨Try.underlying28, by kernel_rfl⟩ (by simp only [List.length_append]; omega) (by simp only [List.length_append]; omega) ?_; clear H; intro A92 c92 w hcap92 H F; replace H : Sep _ _ _ _ [_, _, _, _, _] _ := H; refine hK _ _ ?_; clear hK K; refine S_put E rfl rfl ?_; clear E a; intro a E; clear F; refine S_val E (pk_fieldAddr (off := 2) rfl rfl (by kernel_rfl)) rfl rfl rfl ?_; clear E a; intro a E; refine S_eff E rfl (fun K hK => ?_); refine eff_store 4 (new := [.one _]) E H rfl rfl rfl rfl rfl (by repeat (first | exact trivial | refine ⟨rfl, ?_⟩ | refine ⟨fun _ _ => rfl, ?_⟩)) rfl (by kernel_rfl) rfl ?_; clear H
                intro w H _; replace H : Sep _ _ _ _ [_, _, _, _, _] _ := H; refine hK _ _ ?_; clear hK K; refine S_put0 rfl ?_; refine hK48 _ _ ?_; refine S_region ?_; refine S_val E (pk_fieldAddr (off := 3) rfl rfl (by kernel_rfl)) rfl rfl rfl ?_; clear E a; intro a E; refine S_val E (pk_load1 H 4 rfl rfl rfl trivial rfl (by kernel_rfl)) rfl rfl rfl ?_; clear E a; intro a E; refine S_val E (pk_intw rfl rfl rfl rfl (wI64 (by omega) (by omega))) rfl rfl rfl ?_; clear E a; intro a E; refine S_val E (pk_fieldAddr (off := 3) rfl rfl (by kernel_rfl)) rfl rfl rfl ?_; clear E a; intro a E; refine S_eff E rfl (fun K hK => ?_); refine eff_store 4 (new := [.one _]) E H rfl rfl rfl rfl rfl (by repeat (first | exact trivial | refine ⟨rfl, ?_⟩ | refine ⟨fun _ _ => rfl, ?_⟩)) rfl (by kernel_rfl) rfl ?_; clear H; intro w H _; replace H : Sep _ _ _ _ [_, _, _, _, _] _ := H; refine hK _ _ ?_; clear hK K
                refine S_put0 rfl ?_; refine hK46 _ _ ?_; refine S_region ?_; refine S_val E (pk_intw rfl rfl rfl rfl (wI64 (by omega) (by omega))) rfl rfl rfl ?_; clear E a; intro a E; refine S_val E (pk_move rfl rfl) rfl rfl rfl ?_; clear E a; intro a E
                replace H := (H.refacts (List.forall_mem_cons.2 ⟨nest_snoc (q := (((⟨nx + (ns.length : Int), tos[ns.length], text⟩ : Ltr), (A89, c89)) : Ltr × LtrT.μ)) (H.fact 3 rfl) (H.fact 0 rfl), List.forall_mem_cons.2 ⟨H.fact 4 rfl, List.forall_mem_cons.2 ⟨H.fact 5 rfl, List.forall_mem_cons.2 ⟨H.fact 6 rfl, List.forall_mem_cons.2 ⟨H.fact 7 rfl, List.forall_mem_cons.2 ⟨H.fact 8 rfl, List.forall_mem_nil _⟩⟩⟩⟩⟩⟩)).popL
                rw [List.append_assoc, show nx + (ns.length : Int) + 1 = nx + ((ns ++ [(((⟨nx + (ns.length : Int), tos[ns.length], text⟩ : Ltr), (A89, c89)) : Ltr × LtrT.μ)]).length : Int) by rw [List.length_append]; simp; omega] at H
                refine loop_end ?_
                exact ⟨(A92, c92, ns ++ [(((⟨nx + (ns.length : Int), tos[ns.length], text⟩ : Ltr), (A89, c89)) : Ltr × LtrT.μ)]), ⟨E.to (by simp only [List.length_append, List.length_singleton]; repeat (first | exact trivial | refine ⟨rfl, ?_⟩)), H, ⟨by simp only [List.length_append, List.length_singleton]; omega, take_done hφ.2 hx1⟩⟩, by simp only [List.length_append, List.length_singleton]; omega⟩
              · skip
                clear E; intro c80 E
                have hk : ¬ ns.length < tos.length := by simpa using c80
                refine S_else E rfl ?_; refine wp_exit ?_
                repeat (first | refine then_exit ?_ | refine block_hit ?_ | refine block_miss (by decide) ?_)
                refine hK42 _ _ ?_; refine wp_seq_k fun K49 hK49 => ?_; refine S_region ?_; refine S_val E (pk_load (n := 4) H 3 rfl rfl rfl trivial rfl (by kernel_rfl)) rfl rfl rfl ?_; clear E a; intro a E; refine S_eff E rfl (fun K hK => ?_); refine eff_store 2 E H rfl rfl rfl rfl rfl (by repeat (first | exact trivial | refine ⟨rfl, ?_⟩ | refine ⟨fun _ _ => rfl, ?_⟩)) rfl (by kernel_rfl) rfl ?_; clear H; intro w H _; replace H : Sep _ _ _ _ [_, _, _, _] _ := H; refine hK _ _ ?_; clear hK K; refine S_put0 rfl ?_; refine S_val E (pk_assign rfl rfl) rfl rfl rfl ?_; clear E a; intro a E; refine hK49 _ _ ?_; refine wp_ret ?_
                repeat (first | refine then_ret ?_ | refine block_ret ?_)
                refine ret2 rfl E (by exact resC (n := 4) H 2 rfl rfl rfl (by kernel_rfl)) (resT rfl) ?_
                have hns : ns.length = tos.length := by omega
                have hnm : ns.map Prod.fst = lettersV nx tos text := by rw [hφ.2, hns, show tos.length = (lettersV nx tos text).length by simp [lettersV], List.take_length]
                have hP : postV ⟨ep, log, wait, nx⟩ text tos = (⟨ep, log, wait ++ lettersV nx tos text, nx + (tos.length : Int)⟩, 0) := by
                  unfold postV; rw [if_neg (show ¬(okS ⟨ep, log, wait, nx⟩ = false ∨ tos.any farB = true) by rw [hok, hfar]; simp)]; rw [if_neg hk0]; rw [if_neg hold]; rw [if_neg hfull]; rw [if_neg hcm, if_neg hcm]
                obtain ⟨wm2, HW⟩ := (H.at_ 0 _ rfl).freezeL (xs := wait ++ lettersV nx tos text) rfl (by simp) (by rw [List.map_append, hes, hnm])
                obtain ⟨lm2, HL⟩ := (HW.at_ 0 _ rfl).freezeL (xs := log) rfl (by simp) (by exact hds)
                have e1 : ds.length = (log).length := by rw [← hds, List.length_map]
                have e2 : (es ++ ns).length = (wait ++ lettersV nx tos text).length := by rw [← hes, ← hnm, ← List.map_append, List.length_map]
                rw [hP]
                refine ⟨LA9, lc9, lm2, gA, gc, wm2, ?_, HL.keepLR (L := []) (R := [_, _])⟩
                rw [e1, e2, hns]
end Go.Proofs.Yteefhbpmeajbfaa
namespace Go.Proofs.Yteefhbpmeajbfaa
set_option linter.unusedSimpArgs false
set_option linter.unusedVariables false
open Go.RowKit
attribute [local irreducible] beL beK
/-- A reader that lies in block g; what it reads lies below it. -/
structure RdrAt (w : World) (B g : Nat) (A : Option Addr) (n c : Nat) (s : Rs) : Prop where
  row : w.heap[g]? = some (.cells #[.slice A n c, .bool s.ov] 130 (0, 0))
  low : B ≤ g
  txt : Txt w B A n c s.l
  cap : n ≤ c
  len : n ≤ 140737488355328
  byt : Byt s.l
def Rdr (w : World) (B g : Nat) (s : Rs) : Prop := ∃ A n c, RdrAt w B g A n c s
section
variable {w w' : World} {B g q n c : Nat} {A : Option Addr} {s s' : Rs}
theorem Rdr.own {base sz : Nat} {e : TypeId} {v : Value} {xs : List Value} (h : But g w w') (he : Rdr w B g s) (hr : w.ownsRow base e sz v n xs) (hne : e ≠ 130) : w'.ownsRow base e sz v n xs := by
  obtain ⟨_, _, _, k⟩ := he
  exact h.row hr k.row hne
theorem Rdr.lt1 {v : Nat} (h : Rdr w B g s) (hE : numP 1 s = (v, s')) : v < 256 := by
  obtain ⟨_, _, _, k⟩ := h
  have := numP_lt (k := 1) k.byt
  rw [hE] at this
  exact this
theorem Rdr.lt2 {v : Nat} (h : Rdr w B g s) (hE : numP 2 s = (v, s')) : v < 65536 := by
  obtain ⟨_, _, _, k⟩ := h
  have := numP_lt (k := 2) k.byt
  rw [hE] at this
  exact this
end
end Go.Proofs.Yteefhbpmeajbfaa
namespace Go.Proofs.Yteefhbpmeajbfaa.CanB
set_option linter.unusedSimpArgs false
set_option linter.unusedVariables false
open Go.RowKit
attribute [local irreducible] beL beK
section
variable {P : Program} {o : Oper} {a : Act} {w : World} {K : Act → World → Prop} {Q : Exit → Act → World → Prop}
end
/-- A commit whose parts lie in blocks of other types than commits. -/
def ComSt (w : World) (c : Com) : Prop := ∀ w' : World, (∀ (b : Nat) (cs : Array Value) (t : TypeId) (fr : Nat × Nat), w.heap[b]? = some (.cells cs t fr) → t ≠ 40 → w'.heap[b]? = w.heap[b]?) → ComOk w' w'.heap.size c
theorem ComSt.ok {w : World} {c : Com} (h : ComSt w c) : ComOk w w.heap.size c := h w fun _ _ _ _ _ _ => rfl
section
variable {W w w5 : World} {v : Value} {base base' sz sz' n n' g q B : Nat} {e e' : TypeId} {v' : Value} {xs xs' : List Value}
end
end Go.Proofs.Yteefhbpmeajbfaa.CanB
namespace Go.Proofs.Yteefhbpmeajbfaa
set_option linter.unusedSimpArgs false
set_option linter.unusedVariables false
open Go.RowKit
attribute [local irreducible] farB oddB cmV wlV frV
theorem list_same {α : Type} [DecidableEq α] {xs ys : List α} (hl : xs.length = ys.length) (h : ∀ (i : Nat) x y, xs[i]? = some x → ys[i]? = some y → x = y) : xs = ys := by
  apply List.ext_getElem hl
  intro i h1 h2
  exact h i _ _ (List.getElem?_eq_getElem h1) (List.getElem?_eq_getElem h2)
end Go.Proofs.Yteefhbpmeajbfaa
namespace Go.Proofs.Yteefhbpmeajbfaa
set_option linter.unusedSimpArgs false
set_option linter.unusedVariables false
open Go.RowKit
attribute [local irreducible] farB oddB cmV wlV frV
section
variable {X : List Nat} {w0 w' : World} {A : Option Addr} {c n : Nat} {l : List Nat}
end
set_option maxRecDepth 100000 in
set_option maxHeartbeats 4000000 in
theorem RSameAll_any {LA LB : Option Addr} {lc ld : Nat} {xs ys : List (List Nat)} {lm ln : Nat → TextT.μ} {X : List Nat} {w0 : World} (hX : ∀ k ∈ X, k < w0.heap.size) (hL : St (LiF TextT LA lc xs lm) w0 X) (hM : St (LiF TextT LB ld ys ln) w0 X) :
    Calls Try.prog 14 #[.slice LA xs.length lc, .slice LB ys.length ld] w0 fun e w' => e = .returned (.bool (decide (xs = ys))) ∧ Sep X [] w0 w' [] [] := by
  have hLb := hL.now.big
  have hMb := hM.now.big
  refine calls_env Try.ntmps14 Try.func14 rfl rfl fun a E => ?_; replace E : Env a _ [(0, _), (1, _)] := E
  have H : Sep X [] w0 w0 [] [(LiF TextT LA lc xs lm), (LiF TextT LB ld ys ln)] := Sep.start hX (List.forall_mem_cons.2 ⟨hL, List.forall_mem_cons.2 ⟨hM, fun _ h => by cases h⟩⟩)
  refine wp_seq_k fun K0 hK0 => ?_; refine S_region ?_; refine S_val E (pk_assign rfl rfl) rfl rfl rfl ?_; clear E a; intro a E; refine hK0 _ _ ?_; refine wp_seq_k fun K1 hK1 => ?_; refine wp_seq_k fun K2 hK2 => ?_; refine S_region ?_; refine S_val E (pk_move rfl rfl) rfl rfl rfl ?_; clear E a; intro a E; refine S_val E (pk_len rfl rfl (by kernel_rfl)) rfl rfl rfl ?_; clear E a; intro a E; refine S_val E (pk_move rfl rfl) rfl rfl rfl ?_; clear E a; intro a E; refine S_val E (pk_len rfl rfl (by kernel_rfl)) rfl rfl rfl ?_; clear E a; intro a E; refine S_val E (pk_int rfl rfl rfl rfl) rfl rfl rfl ?_; clear E a; intro a E; refine hK2 _ _ ?_; refine env_split (d := 10) E rfl ?_ ?_
  · skip
    clear E; intro c10 E
    have hne : xs ≠ ys := fun h => by
      have := congrArg List.length h
      simp only [bne_iff_ne, ne_eq] at c10
      omega
    refine S_then E rfl ?_; refine wp_seq_k fun K3 hK3 => ?_; refine S_region ?_; refine S_val E (pk_assign rfl rfl) rfl rfl rfl ?_; clear E a; intro a E; refine hK3 _ _ ?_; refine wp_ret ?_
    repeat (first | refine then_ret ?_ | refine block_ret ?_)
    refine ret1 rfl E (resT rfl) ?_
    exact ⟨by rw [decide_eq_false hne], H.keepLR (L := []) (R := [])⟩
  · skip
    clear E; intro c10 E
    have hlen : xs.length = ys.length := by
      simp only [bne_eq_false_iff_eq] at c10
      omega
    refine S_else E rfl ?_; refine wp_skip ?_; refine hK1 _ _ ?_; refine wp_seq_k fun K4 hK4 => ?_; refine wp_seq_k fun K5 hK5 => ?_; refine S_region ?_; refine S_val E (pk_move rfl rfl) rfl rfl rfl ?_; clear E a; intro a E; refine S_val E (pk_len rfl rfl (by kernel_rfl)) rfl rfl rfl ?_; clear E a; intro a E; refine S_val E (pk_move rfl rfl) rfl rfl rfl ?_; clear E a; intro a E; refine hK5 _ _ ?_; refine wp_block ?_; refine S_loopK (γ := Nat) [0, 1, 12] (fun k => [(13, .int .i64 (k : Int))]) (fun k => k ≤ xs.length ∧ ∀ (i : Nat) x y, i < k → xs[i]? = some x → ys[i]? = some y → x = y) (fun k => xs.length - k) (0) E H (by repeat (first | exact trivial | refine ⟨rfl, ?_⟩)) (⟨Nat.zero_le _, fun i x y hi => absurd hi (Nat.not_lt_zero _)⟩) ?_; clear E H; intro k a w E H hφ; replace E : Env a _ [(13, _), (0, _), (1, _), (12, _)] := E; replace H : Sep _ _ _ _ [] [_, _] := H
    refine wp_seq_k fun K6 hK6 => ?_; refine S_region ?_; refine S_val E (pk_int rfl rfl rfl rfl) rfl rfl rfl ?_; clear E a; intro a E; refine hK6 _ _ ?_; refine wp_seq_k fun K7 hK7 => ?_; refine env_split (d := 14) E rfl ?_ ?_
    · skip
      clear E; intro c14 E
      have hk : k < xs.length := by simpa using c14
      have hx0 : xs[k]? = some xs[k] := List.getElem?_eq_getElem hk
      have hy0 : ys[k]? = some (ys[k]'(by omega)) := List.getElem?_eq_getElem (by omega)
      refine S_then E rfl ?_; refine wp_skip ?_; refine hK7 _ _ ?_; refine wp_seq_k fun K8 hK8 => ?_; refine wp_block ?_; refine wp_seq_k fun K9 hK9 => ?_; refine S_region ?_; refine S_val E (pk_move rfl rfl) rfl rfl rfl ?_; clear E a; intro a E; refine S_val E (pk_assign rfl rfl) rfl rfl rfl ?_; clear E a; intro a E; refine hK9 _ _ ?_; refine wp_seq_k fun K10 hK10 => ?_; refine C_region E H [] 8 [(0, false), (1, false), (2, false), (3, false), (4, false), (5, false), (6, false), (7, false)] (by kernel_rfl) (by kernel_rfl) (fun w HS => ?_)
      (simp only [canOps, List.getElem?_cons_zero, List.getElem?_cons_succ, List.drop_succ_cons, List.drop_zero])
      clear H
      have H := HS
      have hsz : w.heap.size ≤ w.heap.size := Nat.le_refl _
      have HK : CanB.Keep (fun k => k < w.heap.size ∧ k ∉ []) w w := CanB.Keep.refl _ _
      refine C_val E HK (pk_move rfl rfl) rfl rfl rfl (fun _ _ _ _ h => h) ?_; clear E a; intro a E; refine C_val E HK (pk_move rfl rfl) rfl rfl rfl (fun _ _ _ _ h => h) ?_; clear E a; intro a E
      obtain ⟨ad18, hA18, hc18, hn18⟩ := LiF.get (A := LA) (T := TextT) (i := k) (x := xs[k]) (by exact HS.fact 0 rfl) hx0
      refine C_val E HK (pk_elA (sz := 1) hA18 rfl (by kernel_rfl) rfl rfl rfl (by omega)) rfl rfl rfl (fun _ _ _ _ h => h) ?_; clear E a; intro a E; refine C_val E HK (pk_loadE1 hc18 (fun k h _ => ⟨h, by simp⟩) rfl rfl rfl (by kernel_rfl)) rfl rfl rfl (fun _ _ _ _ h => h) ?_; clear E a; intro a E; refine C_val E HK (pk_move rfl rfl) rfl rfl rfl (fun _ _ _ _ h => h) ?_; clear E a; intro a E; refine C_val E HK (pk_move rfl rfl) rfl rfl rfl (fun _ _ _ _ h => h) ?_; clear E a; intro a E
      obtain ⟨ad22, hA22, hc22, hn22⟩ := LiF.get (A := LB) (T := TextT) (i := k) (x := ys[k]'(by omega)) (by exact HS.fact 1 rfl) hy0
      refine C_val E HK (pk_elA (sz := 1) hA22 rfl (by kernel_rfl) rfl rfl rfl (by omega)) rfl rfl rfl (fun _ _ _ _ h => h) ?_; clear E a; intro a E; refine C_val E HK (pk_loadE1 hc22 (fun k h _ => ⟨h, by simp⟩) rfl rfl rfl (by kernel_rfl)) rfl rfl rfl (fun _ _ _ _ h => h) ?_; clear E a; intro a E; refine CanB.wpCan_nil ?_
      try (simp only [List.take_succ_cons, List.take_zero, List.drop_succ_cons, List.drop_zero])
      clear HS HK hsz; refine S_eff E rfl (fun K hK => ?_); refine eff_call E rfl rfl rfl (by kernel_rfl) ?_; refine (same_sep H.xk hn18 hn22).mono ?_; rintro e w ⟨rfl, rfl⟩; refine hK _ _ ?_; clear hK K; refine S_put E rfl rfl ?_; clear E a; intro a E; refine S_val E (pk_not rfl rfl) rfl rfl rfl ?_; clear E a; intro a E; refine hK10 _ _ ?_; refine env_split (d := 25) E rfl ?_ ?_
      · skip
        clear E; intro c25 E
        have hd : xs[k] ≠ ys[k]'(by omega) := by simpa using c25
        refine S_then E rfl ?_; refine wp_seq_k fun K11 hK11 => ?_; refine S_region ?_; refine S_val E (pk_assign rfl rfl) rfl rfl rfl ?_; clear E a; intro a E; refine hK11 _ _ ?_; refine wp_ret ?_
        repeat (first | refine then_ret ?_ | refine block_ret ?_)
        refine ret1 rfl E (resT rfl) ?_
        exact ⟨by rw [decide_eq_false fun h : xs = ys => hd (by subst h; rfl)], H.keepLR (L := []) (R := [])⟩
      · skip
        clear E; intro c25 E
        have hd : xs[k] = ys[k]'(by omega) := by simpa using c25
        refine S_else E rfl ?_; refine wp_skip ?_; refine hK8 _ _ ?_; refine S_region ?_; refine S_val E (pk_intw rfl rfl rfl rfl (wI64 (by omega) (by omega))) rfl rfl rfl ?_; clear E a; intro a E; refine S_val E (pk_move rfl rfl) rfl rfl rfl ?_; clear E a; intro a E; refine loop_end ?_
        exact ⟨k + 1, ⟨E.to (by repeat (first | exact trivial | refine ⟨rfl, ?_⟩)), H, ⟨by omega, fun i x y hi hx hy => by rcases Nat.lt_succ_iff_lt_or_eq.1 hi with h | h; exact hφ.2 i x y h hx hy; subst h; rw [hx0] at hx; rw [hy0] at hy; obtain rfl := Option.some.inj hx; obtain rfl := Option.some.inj hy; exact hd⟩⟩, by omega⟩
    · skip
      clear E; intro c14 E
      have hk : ¬ k < xs.length := by simpa using c14
      refine S_else E rfl ?_; refine wp_exit ?_
      repeat (first | refine then_exit ?_ | refine block_hit ?_ | refine block_miss (by decide) ?_)
      refine hK4 _ _ ?_; refine wp_seq_k fun K12 hK12 => ?_; refine S_region ?_; refine S_val E (pk_assign rfl rfl) rfl rfl rfl ?_; clear E a; intro a E; refine hK12 _ _ ?_; refine wp_ret ?_
      repeat (first | refine then_ret ?_ | refine block_ret ?_)
      refine ret1 rfl E (resT rfl) ?_
      exact ⟨by rw [decide_eq_true (list_same hlen fun i x y hx hy => hφ.2 i x y (by have := (List.getElem?_eq_some_iff.1 hx).1; omega) hx hy)], H.keepLR (L := []) (R := [])⟩
end Go.Proofs.Yteefhbpmeajbfaa
namespace Go.Proofs.Yteefhbpmeajbfaa
set_option linter.unusedSimpArgs false
set_option linter.unusedVariables false
open Go.RowKit
attribute [local irreducible] farB oddB cmV wlV frV
theorem eq_of_nbne {a b : Int} (h : (a != b) = false) : a = b := by simpa using h
end Go.Proofs.Yteefhbpmeajbfaa
namespace Go.Proofs.Yteefhbpmeajbfaa
set_option linter.unusedSimpArgs false
set_option linter.unusedVariables false
open Go.RowKit
attribute [local irreducible] farB oddB cmV wlV frV
/-- Lengths, each cut off, together. -/
def cutN (xs : List Nat) : Nat := (xs.map (min · 70000)).sum
theorem cutN_take {xs : List Nat} {k x : Nat} (h : xs[k]? = some x) : cutN (xs.take (k + 1)) = cutN (xs.take k) + min x 70000 := by
  unfold cutN
  rw [List.take_add_one, h, List.map_append, List.sum_append]
  simp
theorem cutN_le (xs : List Nat) : cutN xs ≤ 70000 * xs.length := by
  unfold cutN
  induction xs with
  | nil => simp
  | cons a l ih => simp only [List.map_cons, List.sum_cons, List.length_cons]; omega
theorem cut_step {xs : List Nat} {k : Nat} {z : Int} (hk : k < xs.length) (hz : xs.length ≤ 200 → z = (cutN (xs.take k) : Int)) :
    xs.length ≤ 200 → IntKind.i64.wrap (z + min ((xs[k] : Nat) : Int) 70000) = (cutN (xs.take (k + 1)) : Int) := by
  intro h
  have h1 := cutN_le (xs.take k)
  rw [List.length_take] at h1
  rw [hz h, cutN_take (List.getElem?_eq_getElem hk), wI64 (by omega) (by omega)]
  omega
def fewT (xs : List (List Nat)) : Bool := decide (xs.length ≤ 200) && decide (cutN (xs.map List.length) ≤ 140000)
set_option maxRecDepth 100000 in
set_option maxHeartbeats 4000000 in
theorem rFew_any {LA : Option Addr} {lc : Nat} {xs : List (List Nat)} {lm : Nat → TextT.μ} {X : List Nat} {w0 : World} (hX : ∀ k ∈ X, k < w0.heap.size) (hL : St (LiF TextT LA lc xs lm) w0 X) :
    Calls Try.prog 9 #[.slice LA xs.length lc] w0 fun e w' => e = .returned (.bool (fewT xs)) ∧ Sep X [] w0 w' [] [] := by
  have hLb := hL.now.big
  refine calls_env Try.ntmps9 Try.func9 rfl rfl fun a E => ?_; replace E : Env a _ [(0, _)] := E
  have H : Sep X [] w0 w0 [] [(LiF TextT LA lc xs lm)] := Sep.start hX (List.forall_mem_cons.2 ⟨hL, fun _ h => by cases h⟩)
  refine wp_seq_k fun K0 hK0 => ?_; refine S_region ?_; refine S_val E (pk_assign rfl rfl) rfl rfl rfl ?_; clear E a; intro a E; refine hK0 _ _ ?_; refine wp_seq_k fun K1 hK1 => ?_; refine S_region ?_; refine S_val E (pk_assign rfl rfl) rfl rfl rfl ?_; clear E a; intro a E; refine hK1 _ _ ?_; refine wp_seq_k fun K2 hK2 => ?_; refine wp_seq_k fun K3 hK3 => ?_; refine S_region ?_; refine S_val E (pk_move rfl rfl) rfl rfl rfl ?_; clear E a; intro a E; refine S_val E (pk_len rfl rfl (by kernel_rfl)) rfl rfl rfl ?_; clear E a; intro a E; refine S_val E (pk_move rfl rfl) rfl rfl rfl ?_; clear E a; intro a E; refine hK3 _ _ ?_; refine wp_block ?_
  refine S_loopK (γ := Nat × Int) [0, 6, 7] (fun g => [(3, .int .i64 g.2), (8, .int .i64 (g.1 : Int))]) (fun g => g.1 ≤ xs.length ∧ ((xs.map List.length).length ≤ 200 → g.2 = (cutN ((xs.map List.length).take g.1) : Int))) (fun g => xs.length - g.1) ((0, 0)) E H (by repeat (first | exact trivial | refine ⟨rfl, ?_⟩)) (⟨Nat.zero_le _, fun _ => rfl⟩) ?_; clear E H; intro g a w E H hφ; replace E : Env a _ [(3, _), (8, _), (0, _), (6, _), (7, _)] := E; replace H : Sep _ _ _ _ [] [_] := H; refine wp_seq_k fun K4 hK4 => ?_; refine S_region ?_; refine S_val E (pk_int rfl rfl rfl rfl) rfl rfl rfl ?_; clear E a; intro a E; refine hK4 _ _ ?_; refine wp_seq_k fun K5 hK5 => ?_; refine env_split (d := 9) E rfl ?_ ?_
  · skip
    clear E; intro c9 E
    have hk : g.1 < xs.length := by simpa using c9
    have hx0 : xs[g.1]? = some xs[g.1] := List.getElem?_eq_getElem hk
    refine S_then E rfl ?_; refine wp_skip ?_; refine hK5 _ _ ?_; refine wp_seq_k fun K6 hK6 => ?_; refine wp_block ?_; refine wp_seq_k fun K7 hK7 => ?_; refine S_region ?_
    obtain ⟨ad10, hA10, hc10, hn10⟩ := LiF.get (A := LA) (T := TextT) (i := g.1) (x := xs[g.1]) (by exact H.fact 0 rfl) hx0
    refine S_val E (pk_elA (sz := 1) hA10 rfl (by kernel_rfl) rfl rfl rfl (by omega)) rfl rfl rfl ?_; clear E a; intro a E
    replace H := (H.know hn10).know hc10
    clear hn10 hc10; replace H : Sep _ _ _ _ _ [_, _, _] := H; refine S_val E (pk_loadE1 (H.fact 0 rfl) (fun _ _ _ => trivial) rfl rfl rfl (by kernel_rfl)) rfl rfl rfl ?_; clear E a; intro a E; refine S_val E (pk_assign rfl rfl) rfl rfl rfl ?_; clear E a; intro a E; refine hK7 _ _ ?_; refine S_region ?_; refine S_val E (pk_move rfl rfl) rfl rfl rfl ?_; clear E a; intro a E; refine S_val E (pk_move rfl rfl) rfl rfl rfl ?_; clear E a; intro a E; refine S_val E (pk_len rfl rfl (by kernel_rfl)) rfl rfl rfl ?_; clear E a; intro a E; refine S_val E (pk_min rfl rfl rfl) rfl rfl rfl ?_; clear E a; intro a E; refine S_val E (pk_int rfl rfl rfl rfl) rfl rfl rfl ?_; clear E a; intro a E; refine S_val E (pk_assign rfl rfl) rfl rfl rfl ?_; clear E a; intro a E; refine hK6 _ _ ?_; refine S_region ?_; refine S_val E (pk_intw rfl rfl rfl rfl (wI64 (by omega) (by omega))) rfl rfl rfl ?_; clear E a
    intro a E; refine S_val E (pk_move rfl rfl) rfl rfl rfl ?_; clear E a; intro a E; refine loop_end ?_
    exact ⟨(g.1 + 1, IntKind.i64.wrap (g.2 + min ((xs[g.1].length : Nat) : Int) 70000)), ⟨E.to (by repeat (first | exact trivial | refine ⟨rfl, ?_⟩)), H.pop.pop, ⟨by omega, fun h => by have := cut_step (xs := (xs.map List.length)) (k := g.1) (by rw [List.length_map]; omega) hφ.2 h; rw [List.getElem_map] at this; exact this⟩⟩, by omega⟩
  · skip
    clear E; intro c9 E
    have hk : ¬ g.1 < xs.length := by simpa using c9
    refine S_else E rfl ?_; refine wp_exit ?_
    repeat (first | refine then_exit ?_ | refine block_hit ?_ | refine block_miss (by decide) ?_)
    refine hK2 _ _ ?_; refine wp_seq_k fun K8 hK8 => ?_; refine S_region ?_; refine S_val E (pk_move rfl rfl) rfl rfl rfl ?_; clear E a; intro a E; refine S_val E (pk_len rfl rfl (by kernel_rfl)) rfl rfl rfl ?_; clear E a; intro a E; refine S_val E (pk_int rfl rfl rfl rfl) rfl rfl rfl ?_; clear E a; intro a E; refine S_val E (pk_move rfl rfl) rfl rfl rfl ?_; clear E a; intro a E; refine env_split (d := 21) E rfl ?_ ?_
    · skip
      clear E; intro c21 E; refine S_val E (pk_move rfl rfl) rfl rfl rfl ?_; clear E a; intro a E; refine S_val E (pk_int rfl rfl rfl rfl) rfl rfl rfl ?_; clear E a; intro a E; refine S_val E (pk_pick rfl rfl rfl) rfl rfl rfl ?_; clear E a; intro a E; refine S_val E (pk_assign rfl rfl) rfl rfl rfl ?_; clear E a; intro a E; refine hK8 _ _ ?_; refine wp_ret ?_
      repeat (first | refine then_ret ?_ | refine block_ret ?_)
      refine ret1 rfl E (resT rfl) ?_; refine ⟨?_, H.keepLR (L := []) (R := [])⟩
      have hg : g.1 = xs.length := by omega
      have hz := hφ.2
      rw [hg, ← List.length_map (f := List.length), List.take_length, List.length_map] at hz
      have e : fewT xs = (decide (xs.length ≤ 200) && decide (g.2 ≤ 140000)) := by
        unfold fewT
        by_cases h : xs.length ≤ 200
        · rw [hz h]; congr 1; rw [Bool.eq_iff_iff]; simp; omega
        · rw [decide_eq_false h, Bool.false_and, Bool.false_and]
      rw [e]
      clear e hz hφ
      simp_all
      try omega
    · skip
      clear E; intro c21 E; refine S_skip E rfl rfl rfl ?_; clear E a; intro a E; refine S_skip E rfl rfl rfl ?_; clear E a; intro a E; refine S_val E (pk_pick rfl rfl rfl) rfl rfl rfl ?_; clear E a; intro a E; refine S_val E (pk_assign rfl rfl) rfl rfl rfl ?_; clear E a; intro a E; refine hK8 _ _ ?_; refine wp_ret ?_
      repeat (first | refine then_ret ?_ | refine block_ret ?_)
      refine ret1 rfl E (resT rfl) ?_; refine ⟨?_, H.keepLR (L := []) (R := [])⟩
      have hg : g.1 = xs.length := by omega
      have hz := hφ.2
      rw [hg, ← List.length_map (f := List.length), List.take_length, List.length_map] at hz
      have e : fewT xs = (decide (xs.length ≤ 200) && decide (g.2 ≤ 140000)) := by
        unfold fewT
        by_cases h : xs.length ≤ 200
        · rw [hz h]; congr 1; rw [Bool.eq_iff_iff]; simp; omega
        · rw [decide_eq_false h, Bool.false_and, Bool.false_and]
      rw [e]
      clear e hz hφ
      simp_all
      try omega
end Go.Proofs.Yteefhbpmeajbfaa
namespace Go.Proofs.Yteefhbpmeajbfaa
set_option linter.unusedSimpArgs false
set_option linter.unusedVariables false
open Go.RowKit

/-- A commit of an epoch and a member alone. -/
def emC (ep : Nat) (by_ : Int) : Com := { ep := ep, by_ := by_, PA := none, pn := 0, pc := 0, kind := fun _ => 0, id := fun _ => 0, ppt := fun _ _ => 0, pt := fun _ => 0, SA := none, sn := 0, sc := 0, node := fun _ => 0, frm := fun _ => 0, DA := fun _ => none, dn := fun _ => 0, dc := fun _ => 0, dv := fun _ _ => 0, KA := none, kn := 0, kc := 0, key := fun _ _ => 0, BA := none, bn := 0, bc := 0, XA := fun _ => none, xn := fun _ => 0, xc := fun _ => 0, bx := fun _ => [] }
theorem emC_ok {ep : Nat} {by_ : Int} (h1 : ep ≤ 1099511627776) (h2 : 0 ≤ by_) (h3 : by_ ≤ 1048576) : OkCom (emC ep by_) :=
  ⟨⟨h1, h2, h3⟩, ⟨Nat.zero_le _, fun i hi => absurd hi (Nat.not_lt_zero i)⟩, ⟨Nat.zero_le _, rfl, fun i hi => absurd hi (Nat.not_lt_zero i)⟩, rfl, fun i hi => absurd hi (Nat.not_lt_zero i)⟩
theorem emC_few (ep : Nat) (by_ : Int) : FewC (emC ep by_) := ⟨fun i hi => absurd hi (Nat.not_lt_zero i), Nat.zero_le _, Nat.zero_le _, Nat.zero_le _, Nat.zero_le _⟩
theorem els_nil {w : World} {B sz : Nat} {A : Option Addr} {f : Nat → Nat → Value} : Els w B A 0 sz f := ⟨fun h => absurd h (Nat.lt_irrefl 0)⟩
theorem emC_at (ep : Nat) (by_ : Int) (w : World) (B : Nat) : ComOk w B (emC ep by_) :=
  ⟨els_nil, els_nil, fun i hi => absurd hi (Nat.not_lt_zero i), els_nil, els_nil, fun i hi => absurd hi (Nat.not_lt_zero i)⟩
theorem emC_b {ep : Nat} {by_ : Int} (h1 : ep ≤ 1099511627776) : ComB (emC ep by_) :=
  ⟨Nat.lt_of_le_of_lt h1 (by decide), fun i hi => absurd hi (Nat.not_lt_zero i), fun j hj => (by decide : (0 : Nat) < 256), fun i hi => absurd hi (Nat.not_lt_zero i), fun i hi => absurd hi (Nat.not_lt_zero i)⟩
/-- .. as a text. -/
def wrL (ep : Nat) (by_ : Int) : List Nat := lT (emC ep by_) fun _ => 0
theorem wrL_len {ep : Nat} {by_ : Int} (h1 : ep ≤ 1099511627776) (h2 : 0 ≤ by_) (h3 : by_ ≤ 1048576) : (wrL ep by_).length ≤ 2000000 := by
  have h := (emC_few ep by_).mid.ln (emC_ok h1 h2 h3) fun i hi => absurd hi (Nat.not_lt_zero i)
  unfold wrL lT
  rw [if_pos (emC_ok h1 h2 h3), List.length_append, keyL_len]
  omega
theorem wrL_cm {ep : Nat} {by_ : Int} (h1 : ep ≤ 1099511627776) (h2 : 0 ≤ by_) (h3 : by_ ≤ 1048576) : cmV (wrL ep by_) = (toP (emC ep by_) (fun _ => 0), 0) :=
  cm_back (emC_ok h1 h2 h3) (fun i hi => absurd hi (Nat.not_lt_zero i)) (emC_few ep by_).mid
theorem wrL_kind {ep : Nat} {by_ : Int} (h1 : ep ≤ 1099511627776) (h2 : 0 ≤ by_) (h3 : by_ ≤ 1048576) : kindV (wrL ep by_) = 1 := by
  unfold kindV
  rw [if_pos (by rw [wrL_cm h1 h2 h3])]
theorem wrL_ep {ep : Nat} {by_ : Int} (h1 : ep ≤ 1099511627776) (h2 : 0 ≤ by_) (h3 : by_ ≤ 1048576) : epV (wrL ep by_) = (ep : Int) := by
  unfold epV
  rw [if_pos (by rw [wrL_cm h1 h2 h3]), wrL_cm h1 h2 h3]
  rfl
theorem emC_v (ep : Nat) (by_ : Int) : ca [.one (.int .u64 ((ep : Nat) : Int)), .one (.int .i64 by_), .one (.slice none 0 0), .key [], .one (.slice none 0 0), .one (.slice none 0 0), .one (.slice none 0 0), .key []] = arrV 70 (comV (emC ep by_) fun _ => 0) := by kernel_rfl
section
variable {X : List Nat} {w0 w' : World}
theorem writeCommit_em {ep : Nat} {by_ : Int} (h1 : ep ≤ 1099511627776) (h2 : 0 ≤ by_) (h3 : by_ ≤ 1048576) (hX : ∀ k ∈ X, k < w0.heap.size) :
    Calls Try.prog 10 #[.agg (ca [.one (.int .u64 ((ep : Nat) : Int)), .one (.int .i64 by_), .one (.slice none 0 0), .key [], .one (.slice none 0 0), .one (.slice none 0 0), .one (.slice none 0 0), .key []])] w0 fun e w' => ∃ A c, e = .returned (.tuple #[.slice A (wrL ep by_).length c, .int .i64 0]) ∧ Sep X [] w0 w' [] [TxF A c (wrL ep by_)] := by
  rw [emC_v]
  refine (WriteCommit_any (emC ep by_) (fun _ => 0) w0.heap.size w0 (emC_at ep by_ _ _) (Nat.le_refl _) (emC_few ep by_).mid).mono ?_
  rintro e w' ⟨A, n, c, rfl, ho, hb⟩
  rw [chk_yes (emC_ok h1 h2 h3)]
  obtain ⟨A', c', e2, hs⟩ := own_txF hX ho (by have := wrL_len h1 h2 h3; unfold wrL at this; omega) (lT_lt _ _ (emC_b h1) fun j hj => by decide)
  injection e2 with e2 e3 e4
  subst e2 e3 e4
  exact ⟨A, c, rfl, (sep_below hX hb).know (hs.mono (by simp [keysR]))⟩
end
/-- Integers that stand side by side in a block. -/
theorem St.ints {b : Nat} {xs : List Int} {Y : List Nat} {w : World} {cs : List Chunk} (h : St (AtC ⟨b, 0, none⟩ cs) w Y) (hc : cl cs = xs.map (.int .i64 ·)) (hn : xs.length ≤ 9223372036854775807) : St (LiF IntT (some ⟨b, 0, none⟩) xs.length xs (fun _ => ())) w Y := h.imp fun w h =>
  ⟨Nat.le_refl _, hn, fun h => (by cases h), fun ad e i x hx => by
    obtain rfl := Option.some.inj e
    refine ⟨fun j u hu => ?_, trivial⟩
    have : j = 0 ∧ u = .int .i64 x := by
      cases j with
      | zero => exact ⟨rfl, (Option.some.inj hu).symm⟩
      | succ j => cases hu
    obtain ⟨rfl, rfl⟩ := this
    rw [Addr.add_add]
    refine h (i * 1 + 0) _ ?_
    rw [hc, Nat.mul_one, Nat.add_zero, List.getElem?_map, hx]
    rfl⟩
def exL : List Nat := wrL 0 0
theorem exL_is : wrL 0 0 = exL := rfl
theorem ex_post : postV ⟨0, [], [], 0⟩ exL [1, 2] = (⟨1, [exL], [⟨0, 1, exL⟩, ⟨1, 2, exL⟩], 2⟩, 0) := by
  unfold postV
  have h1 : kindV exL = 1 := wrL_kind (by decide) (by decide) (by decide)
  have h2 : epV exL = 0 := wrL_ep (by decide) (by decide) (by decide)
  rw [if_neg (by decide), if_neg (by rw [h1]; decide), if_neg (by rw [h1, h2]; decide), if_neg (by rw [h1]; decide)]
  simp only [h1, if_true]
  rfl
theorem ex_old : postV ⟨1, [exL], [⟨0, 1, exL⟩, ⟨1, 2, exL⟩], 2⟩ exL [3] = (noSrv, 9) := by
  unfold postV
  have h1 : kindV exL = 1 := wrL_kind (by decide) (by decide) (by decide)
  have h2 : epV exL = 0 := wrL_ep (by decide) (by decide) (by decide)
  rw [if_neg (by simp [okS, oddB, farB]), if_neg (by rw [h1]; decide), if_pos (by rw [h1, h2]; decide)]
attribute [local irreducible] farB oddB cmV wlV frV exL
set_option maxRecDepth 100000 in
set_option maxHeartbeats 4000000 in
theorem liveS_any  {X : List Nat} {w0 : World} (hX : ∀ k ∈ X, k < w0.heap.size) :
    Calls Try.prog 8 #[] w0 fun e w' => e = .returned (.bool true) ∧ Sep X [] w0 w' [] [] := by
  refine calls_env Try.ntmps8 Try.func8 rfl rfl fun a E => ?_; replace E : Env a _ [] := E
  have H : Sep X [] w0 w0 [] [] := Sep.start hX (fun _ h => by cases h)
  refine wp_seq_k fun K0 hK0 => ?_; refine S_region ?_; refine S_val E (pk_assign rfl rfl) rfl rfl rfl ?_; clear E a; intro a E; refine hK0 _ _ ?_; refine wp_seq_k fun K1 hK1 => ?_; refine S_region ?_; refine S_val E (pk_build (z := [.one (.int .u64 0), .one (.int .i64 0), .one (.slice none 0 0), .key [], .one (.slice none 0 0), .one (.slice none 0 0), .one (.slice none 0 0), .key []]) rfl (by kernel_rfl) (by kernel_rfl) rfl) rfl rfl rfl ?_; clear E a; intro a E; refine S_eff E rfl (fun K hK => ?_); refine eff_call E rfl rfl rfl (by kernel_rfl) ?_; refine (writeCommit_em (ep := 0) (by_ := 0) (by decide) (by decide) (by decide) H.xk).mono ?_; rintro e w ⟨cA, cc, rfl, H1⟩
  replace H := H.call H1
  clear H1; replace H : Sep _ _ _ _ [] [_] := H; refine hK _ _ ?_; clear hK K; refine S_put E rfl rfl ?_; clear E a; intro a E
  rw [exL_is] at E H
  refine S_val E (pk_move rfl rfl) rfl rfl rfl ?_; clear E a; intro a E; refine S_val E (pk_extract rfl rfl rfl) rfl rfl rfl ?_; clear E a; intro a E; refine S_val E (pk_extract rfl rfl rfl) rfl rfl rfl ?_; clear E a; intro a E; refine S_val E (pk_assign rfl rfl) rfl rfl rfl ?_; clear E a; intro a E; refine S_val E (pk_assign rfl rfl) rfl rfl rfl ?_; clear E a; intro a E; refine hK1 _ _ ?_; refine wp_seq_k fun K2 hK2 => ?_; refine S_region ?_; refine S_val E (pk_build (z := [.one (.int .u64 0), .one (.slice none 0 0), .one (.slice none 0 0), .one (.int .i64 0)]) rfl (by kernel_rfl) (by kernel_rfl) rfl) rfl rfl rfl ?_; clear E a; intro a E; refine S_val E (pk_move rfl rfl) rfl rfl rfl ?_; clear E a; intro a E; refine S_eff E rfl (fun K hK => ?_)
  refine eff_bslice (sz := 1) (z := [.one (.int .i64 0), .one (.int .i64 0)]) E H rfl Try.underlying24 (by kernel_rfl) (by decide) (by kernel_rfl) ⟨_, [.one _], 0, _, rfl, rfl, rfl, rfl, ⟨_, [.one _], 1, _, rfl, rfl, rfl, rfl, rfl⟩⟩ ?_; clear H; intro b15 w H _; refine hK _ _ ?_; clear hK K; refine S_put E rfl rfl ?_; clear E a; intro a E; refine S_eff E rfl (fun K hK => ?_); refine eff_call E rfl rfl rfl (by kernel_rfl) ?_
  replace H := H.lend 0 rfl
  replace H := H.know ((H.fact 0 rfl).ints (xs := [1, 2]) rfl (by decide))
  refine (Post_any H.xk (liF_nil (m := fun _ => TextT.dft)) (liF_nil (m := fun _ => LtrT.dft)) (H.fact 2 rfl) (H.fact 0 rfl)).mono ?_; rintro e w ⟨LA1, lc1, lm1, WA1, wc1, wm1, rfl, H1⟩
  replace H := H.call H1
  clear H1; replace H : Sep _ _ _ _ [] [_, _, _, _, _] := H; refine hK _ _ ?_; clear hK K; refine S_put E rfl rfl ?_; clear E a; intro a E
  rw [ex_post] at E H
  dsimp only at E H
  refine S_val E (pk_move rfl rfl) rfl rfl rfl ?_; clear E a; intro a E; refine S_val E (pk_extract rfl rfl rfl) rfl rfl rfl ?_; clear E a; intro a E; refine S_val E (pk_extract rfl rfl rfl) rfl rfl rfl ?_; clear E a; intro a E; refine S_eff E rfl (fun K hK => ?_); refine eff_alloc (z := [.one (.int .u64 0), .one (.slice none 0 0), .one (.slice none 0 0), .one (.int .i64 0)]) H rfl (by kernel_rfl) ?_; clear H; intro b3 w H _; refine hK _ _ ?_; clear hK K; refine S_put E rfl rfl ?_; clear E a; intro a E; refine S_eff E rfl (fun K hK => ?_); refine eff_store 0 E H rfl rfl rfl rfl rfl (by repeat (first | exact trivial | refine ⟨rfl, ?_⟩ | refine ⟨fun _ _ => rfl, ?_⟩)) rfl (by kernel_rfl) rfl ?_; clear H; intro w H _; replace H : Sep _ _ _ _ [_] _ := H; refine hK _ _ ?_; clear hK K; refine S_put0 rfl ?_; refine S_val E (pk_assign rfl rfl) rfl rfl rfl ?_; clear E a; intro a E
  refine hK2 _ _ ?_; refine wp_seq_k fun K3 hK3 => ?_; refine S_region ?_; refine S_val E (pk_load (n := 4) H 0 rfl rfl rfl trivial rfl (by kernel_rfl)) rfl rfl rfl ?_; clear E a; intro a E; refine S_val E (pk_move rfl rfl) rfl rfl rfl ?_; clear E a; intro a E; refine S_eff E rfl (fun K hK => ?_); refine eff_bslice (sz := 1) (z := [.one (.int .i64 0)]) E H rfl Try.underlying24 (by kernel_rfl) (by decide) (by kernel_rfl) ⟨_, [.one _], 0, _, rfl, rfl, rfl, rfl, rfl⟩ ?_; clear H; intro b22 w H _; refine hK _ _ ?_; clear hK K; refine S_put E rfl rfl ?_; clear E a; intro a E; refine S_eff E rfl (fun K hK => ?_); refine eff_call E rfl rfl rfl (by kernel_rfl) ?_
  replace H := H.lend 0 rfl
  replace H := H.know ((H.fact 0 rfl).ints (xs := [3]) rfl (by decide))
  refine (Post_any H.xk (H.fact 2 rfl) (H.fact 3 rfl) (H.fact 6 rfl) (H.fact 0 rfl)).mono ?_; rintro e w ⟨LA2, lc2, lm2, WA2, wc2, wm2, rfl, H1⟩
  replace H := H.call H1
  clear H1; replace H : Sep _ _ _ _ [_] [_, _, _, _, _, _, _, _, _] := H; refine hK _ _ ?_; clear hK K; refine S_put E rfl rfl ?_; clear E a; intro a E
  rw [ex_old] at E H
  dsimp only at E H
  refine S_val E (pk_move rfl rfl) rfl rfl rfl ?_; clear E a; intro a E; refine S_val E (pk_extract rfl rfl rfl) rfl rfl rfl ?_; clear E a; intro a E; refine S_val E (pk_extract rfl rfl rfl) rfl rfl rfl ?_; clear E a; intro a E; refine S_eff E rfl (fun K hK => ?_); refine eff_alloc (z := [.one (.int .u64 0), .one (.slice none 0 0), .one (.slice none 0 0), .one (.int .i64 0)]) H rfl (by kernel_rfl) ?_; clear H; intro b5 w H _; refine hK _ _ ?_; clear hK K; refine S_put E rfl rfl ?_; clear E a; intro a E; refine S_eff E rfl (fun K hK => ?_); refine eff_store 0 E H rfl rfl rfl rfl rfl (by repeat (first | exact trivial | refine ⟨rfl, ?_⟩ | refine ⟨fun _ _ => rfl, ?_⟩)) rfl (by kernel_rfl) rfl ?_; clear H; intro w H _; replace H : Sep _ _ _ _ [_, _] _ := H; refine hK _ _ ?_; clear hK K; refine S_put0 rfl ?_; refine S_val E (pk_assign rfl rfl) rfl rfl rfl ?_; clear E a; intro a E
  refine hK3 _ _ ?_; refine wp_seq_k fun K4 hK4 => ?_; refine S_region ?_; refine S_val E (pk_move rfl rfl) rfl rfl rfl ?_; clear E a; intro a E; refine S_val E (pk_int (v := .bool true) rfl rfl rfl (by rfl)) rfl rfl rfl ?_; clear E a; intro a E; refine S_val E (pk_move rfl rfl) rfl rfl rfl ?_; clear E a; intro a E; refine S_val E (pk_move rfl rfl) rfl rfl rfl ?_; clear E a; intro a E; refine S_val E (pk_int (v := .bool true) rfl rfl rfl (by rfl)) rfl rfl rfl ?_; clear E a; intro a E; refine S_val E (pk_pick rfl rfl rfl) rfl rfl rfl ?_; clear E a; intro a E; refine S_val E (pk_move rfl rfl) rfl rfl rfl ?_; clear E a; intro a E; refine S_val E (pk_move rfl rfl) rfl rfl rfl ?_; clear E a; intro a E; refine S_val E (pk_int (v := .bool true) rfl rfl rfl (by rfl)) rfl rfl rfl ?_; clear E a; intro a E; refine S_val E (pk_pick rfl rfl rfl) rfl rfl rfl ?_; clear E a; intro a E
  refine S_val E (pk_move rfl rfl) rfl rfl rfl ?_; clear E a; intro a E; refine S_val E (pk_fieldAddr (off := 0) rfl rfl (by kernel_rfl)) rfl rfl rfl ?_; clear E a; intro a E; refine S_val E (pk_load1 H 1 rfl rfl rfl trivial rfl (by kernel_rfl)) rfl rfl rfl ?_; clear E a; intro a E; refine S_val E (pk_int (v := .bool true) rfl rfl rfl (by rfl)) rfl rfl rfl ?_; clear E a; intro a E; refine S_val E (pk_pick rfl rfl rfl) rfl rfl rfl ?_; clear E a; intro a E; refine S_val E (pk_move rfl rfl) rfl rfl rfl ?_; clear E a; intro a E; refine S_val E (pk_fieldAddr (off := 2) rfl rfl (by kernel_rfl)) rfl rfl rfl ?_; clear E a; intro a E; refine S_val E (pk_load1 H 1 rfl rfl rfl trivial rfl (by kernel_rfl)) rfl rfl rfl ?_; clear E a; intro a E; refine S_val E (pk_len rfl rfl (by kernel_rfl)) rfl rfl rfl ?_; clear E a; intro a E
  refine S_val E (pk_int (v := .bool true) rfl rfl rfl (by rfl)) rfl rfl rfl ?_; clear E a; intro a E; refine S_val E (pk_pick rfl rfl rfl) rfl rfl rfl ?_; clear E a; intro a E; refine S_val E (pk_move rfl rfl) rfl rfl rfl ?_; clear E a; intro a E; refine S_val E (pk_fieldAddr (off := 2) rfl rfl (by kernel_rfl)) rfl rfl rfl ?_; clear E a; intro a E; refine S_val E (pk_load1 H 1 rfl rfl rfl trivial rfl (by kernel_rfl)) rfl rfl rfl ?_; clear E a; intro a E
  obtain ⟨ad50, hA50, hc50, hn50⟩ := LiF.get (A := WA1) (T := LtrT) (i := 1) (x := ⟨1, 2, exL⟩) (by exact H.fact 5 rfl) rfl
  refine S_val E (pk_elA (sz := 3) hA50 rfl (by kernel_rfl) rfl rfl rfl (by decide)) rfl rfl rfl ?_; clear E a; intro a E
  replace H := (H.know hn50).know hc50
  clear hn50 hc50; replace H : Sep _ _ _ _ _ [_, _, _, _, _, _, _, _, _, _, _] := H; refine S_val E (pk_fieldAddr (off := 1) rfl rfl (by kernel_rfl)) rfl rfl rfl ?_; clear E a; intro a E; refine S_val E (pk_loadF1 (H.fact 0 rfl) (fun _ _ _ => trivial) rfl rfl rfl (by kernel_rfl)) rfl rfl rfl ?_; clear E a; intro a E; refine S_val E (pk_int (v := .bool true) rfl rfl rfl (by rfl)) rfl rfl rfl ?_; clear E a; intro a E; refine S_val E (pk_pick rfl rfl rfl) rfl rfl rfl ?_; clear E a; intro a E; refine S_val E (pk_assign rfl rfl) rfl rfl rfl ?_; clear E a; intro a E; refine hK4 _ _ ?_; refine wp_ret ?_
  repeat (first | refine then_ret ?_ | refine block_ret ?_)
  refine ret1 rfl E (resT rfl) ?_
  exact ⟨rfl, H.keepLR (L := []) (R := [])⟩
end Go.Proofs.Yteefhbpmeajbfaa
namespace Go.Proofs.Yteefhbpmeajbfaa
set_option linter.unusedSimpArgs false
set_option linter.unusedVariables false
open Go.RowKit

attribute [local irreducible] farB oddB cmV wlV frV exL
section
variable {X : List Nat} {w0 w' : World} {ep nx : Int} {LA WA : Option Addr} {lc wc : Nat} {log : List (List Nat)} {wait : List Ltr} {lm : Nat → TextT.μ} {wm : Nat → LtrT.μ}
theorem Check_yes (hok : okS ⟨ep, log, wait, nx⟩ = true) (hX : ∀ k ∈ X, k < w0.heap.size) (hL : St (LiF TextT LA lc log lm) w0 X) (hW : St (LiF LtrT WA wc wait wm) w0 X) :
    Calls Try.prog 13 #[.agg (ca [.one (.int .u64 ep), .one (.slice LA log.length lc), .one (.slice WA wait.length wc), .one (.int .i64 nx)])] w0 fun e w' => e = .returned (.int .i64 0) ∧ Sep X [] w0 w' [] [] :=
  (Check_any hX hL hW).mono fun e w' h => ⟨by rw [h.1, hok]; rfl, h.2⟩
end
end Go.Proofs.Yteefhbpmeajbfaa
namespace Go.Proofs.Yteefhbpmeajbfaa
set_option linter.unusedSimpArgs false
set_option linter.unusedVariables false
open Go.RowKit

section
variable {wait : List Ltr} {p i : Nat}
end
attribute [local irreducible] farB oddB cmV wlV frV exL
section
variable {X : List Nat} {w0 w' : World} {LA LA2 : Option Addr} {lc lc2 : Nat} {log : List (List Nat)} {lm lm2 : Nat → TextT.μ}
theorem RSameAll_self (hX : ∀ k ∈ X, k < w0.heap.size) (hL : St (LiF TextT LA lc log lm) w0 X) (hL2 : St (LiF TextT LA2 lc2 log lm2) w0 X) :
    Calls Try.prog 14 #[.slice LA log.length lc, .slice LA2 log.length lc2] w0 fun e w' => e = .returned (.bool true) ∧ Sep X [] w0 w' [] [] :=
  (RSameAll_any hX hL hL2).mono fun e w' h => ⟨by rw [h.1, decide_eq_true rfl], h.2⟩
end
end Go.Proofs.Yteefhbpmeajbfaa
namespace Go.Proofs.Yteefhbpmeajbfaa
set_option linter.unusedSimpArgs false
set_option linter.unusedVariables false
open Go.RowKit

/-- A server that came of posts alone. -/
structure OrdI (s : Srv) : Prop where
  ok : okS s = true
  nx : s.nx = (s.wait.length : Int)
  logs : ∀ (j : Nat) t, s.log[j]? = some t → kindV t = 1 ∧ epV t = (j : Int)
  waits : ∀ (j : Nat) x, s.wait[j]? = some x → x.no = (j : Int)
theorem ord_0 : OrdI ⟨0, [], [], 0⟩ := ⟨by decide, rfl, fun j t h => by simp at h, fun j x h => by simp at h⟩
theorem letters_len (nx : Int) (tos : List Int) (t : List Nat) : (lettersV nx tos t).length = tos.length := by simp [lettersV]
theorem ord_post {s : Srv} {t : List Nat} {tos : List Int} (h : OrdI s) (he : (postV s t tos).2 = 0) :
    OrdI (postV s t tos).1 ∧ (postV s t tos).1.log = (if kindV t = 1 then s.log ++ [t] else s.log) ∧ (postV s t tos).1.wait.length = s.wait.length + tos.length := by
  obtain ⟨k1, k2, k3, k4, k5, k6⟩ := okS_of h.ok
  have hnx := h.nx
  unfold postV at he ⊢
  split at he
  · cases he
  · rename_i h1
    rw [if_neg h1]
    split at he
    · cases he
    · rename_i h2
      rw [if_neg h2]
      split at he
      · cases he
      · rename_i h3
        rw [if_neg h3]
        split at he
        · cases he
        · rename_i h4
          rw [if_neg h4]
          have hfar : tos.any farB = false := by
            cases hq : tos.any farB with
            | false => rfl
            | true => exact absurd (.inr hq) h1
          have hlen := letters_len s.nx tos t
          refine ⟨⟨?_, ?_, fun j y hy => ?_, fun j x hx => ?_⟩, rfl, by simp only [List.length_append, hlen]⟩
          · have h5 : ((s.wait ++ lettersV s.nx tos t).any fun x => oddB (s.nx + (tos.length : Int)) x.no x.rc) = false := by
              rw [List.any_append, Bool.or_eq_false_iff]
              refine ⟨List.any_eq_false.2 fun x hx => ?_, List.any_eq_false.2 fun x hx => ?_⟩
              · have := List.any_eq_false.1 k6 x hx
                simp only [oddB, Bool.or_eq_true, decide_eq_true_eq, not_or] at this ⊢
                exact ⟨⟨this.1.1, by omega⟩, this.2⟩
              · obtain ⟨i, hi⟩ := List.mem_iff_getElem?.1 hx
                unfold lettersV at hi
                rw [List.getElem?_mapIdx, Option.map_eq_some_iff] at hi
                obtain ⟨id, h6, rfl⟩ := hi
                have h7 := List.any_eq_false.1 hfar id (List.mem_of_getElem? h6)
                have h8 := (List.getElem?_eq_some_iff.1 h6).1
                simp only [oddB, Bool.or_eq_true, decide_eq_true_eq, not_or]
                exact ⟨⟨by omega, by omega⟩, h7⟩
            simp only [okS, Bool.and_eq_true, decide_eq_true_eq, Bool.not_eq_true']
            refine ⟨⟨⟨⟨⟨?_, ?_⟩, ?_⟩, by omega⟩, by omega⟩, h5⟩
            · by_cases hk : kindV t = 1
              · rw [if_pos hk, if_pos hk, List.length_append]; simp; omega
              · rw [if_neg hk, if_neg hk]; exact k1
            · by_cases hk : kindV t = 1
              · rw [if_pos hk, List.length_append]
                have : ¬ s.log.length = 2000 := fun hc => h4 (.inl ⟨hk, hc⟩)
                simp; omega
              · rw [if_neg hk]; exact k2
            · rw [List.length_append, hlen]
              have : ¬ 20000 < s.wait.length + tos.length := fun hc => h4 (.inr (.inl hc))
              omega
          · simp only [List.length_append, hlen]; omega
          · simp only at hy
            by_cases hk : kindV t = 1
            · rw [if_pos hk] at hy
              rcases Nat.lt_or_ge j s.log.length with hj | hj
              · rw [List.getElem?_append_left hj] at hy; exact h.logs j y hy
              · rw [List.getElem?_append_right hj] at hy
                have hj0 : j = s.log.length := by
                  have := (List.getElem?_eq_some_iff.1 hy).1
                  simp at this; omega
                subst hj0
                simp at hy
                subst hy
                refine ⟨hk, ?_⟩
                have : epV t = s.ep := by
                  cases Decidable.em (epV t = s.ep) with
                  | inl h => exact h
                  | inr h => exact absurd ⟨hk, h⟩ h3
                rw [this, k1]
            · rw [if_neg hk] at hy; exact h.logs j y hy
          · simp only at hx
            rcases Nat.lt_or_ge j s.wait.length with hj | hj
            · rw [List.getElem?_append_left hj] at hx; exact h.waits j x hx
            · rw [List.getElem?_append_right hj] at hx
              unfold lettersV at hx
              rw [List.getElem?_mapIdx, Option.map_eq_some_iff] at hx
              obtain ⟨id, h6, rfl⟩ := hx
              simp only
              omega
theorem kind_cm {t : List Nat} (h : kindV t = 1) : (cmV t).2 = 0 ∧ epV t = (((cmV t).1.ep : Nat) : Int) := by
  have h1 : (cmV t).2 = 0 := by
    unfold kindV at h
    split at h
    · assumption
    · revert h
      repeat' split
      all_goals omega
  exact ⟨h1, by unfold epV; rw [if_pos h1]⟩
attribute [local irreducible] farB oddB cmV wlV frV exL kindV epV wrL postV
section
variable {X : List Nat} {w0 w' : World} {LA LA2 : Option Addr} {lc lc2 n : Nat} {log : List (List Nat)} {lm lm2 : Nat → TextT.μ}
theorem RSameAll_want (hn : n = log.length) (hX : ∀ k ∈ X, k < w0.heap.size) (hL : St (LiF TextT LA lc log lm) w0 X) (hL2 : St (LiF TextT LA2 lc2 log lm2) w0 X) :
    Calls Try.prog 14 #[.slice LA log.length lc, .slice LA2 n lc2] w0 fun e w' => e = .returned (.bool true) ∧ Sep X [] w0 w' [] [] := by
  subst hn
  exact RSameAll_self hX hL hL2
end
set_option maxRecDepth 100000 in
set_option maxHeartbeats 4000000 in
theorem ServerOrder_any {XA EA OA : Option Addr} {xc ec oc : Nat} {xs : List (List Nat)} {es : List Nat} {tos : List Int} {xm : Nat → TextT.μ} {om : Nat → IntT.μ} {X : List Nat} {w0 : World} (hX : ∀ k ∈ X, k < w0.heap.size) (hX1 : St (LiF TextT XA xc xs xm) w0 X) (hE1 : St (TxF EA ec es) w0 X) (hO : St (LiF IntT OA oc tos om) w0 X) :
    Calls Try.prog 3 #[.slice XA xs.length xc, .slice EA es.length ec, .slice OA tos.length oc] w0 fun e w' => e = .returned (.bool true) ∧ Sep X [] w0 w' [] [] := by
  have hEb := hE1.now.byt
  have hXb := hX1.now.big
  have hOb := hO.now.big
  have hEl := hE1.now.len
  refine calls_env Try.ntmps3 Try.func3 rfl rfl fun a E => ?_; replace E : Env a _ [(0, _), (1, _), (2, _)] := E
  have H : Sep X [] w0 w0 [] [(LiF TextT XA xc xs xm), (TxF EA ec es), (LiF IntT OA oc tos om)] := Sep.start hX (List.forall_mem_cons.2 ⟨hX1, List.forall_mem_cons.2 ⟨hE1, List.forall_mem_cons.2 ⟨hO, fun _ h => by cases h⟩⟩⟩)
  refine wp_seq_k fun K0 hK0 => ?_; refine S_region ?_; refine S_val E (pk_assign rfl rfl) rfl rfl rfl ?_; clear E a; intro a E; refine hK0 _ _ ?_; refine wp_seq_k fun K1 hK1 => ?_; refine S_region ?_; refine S_eff E rfl (fun K hK => ?_); refine eff_call E rfl rfl rfl (by kernel_rfl) ?_; refine (liveS_any H.xk).mono ?_; rintro e w ⟨rfl, H1⟩
  replace H := H.call H1
  clear H1; replace H : Sep _ _ _ _ [] [_, _, _] := H; refine hK _ _ ?_; clear hK K; refine S_put E rfl rfl ?_; clear E a; intro a E; refine S_val E (pk_assign rfl rfl) rfl rfl rfl ?_; clear E a; intro a E; refine hK1 _ _ ?_; refine wp_seq_k fun K2 hK2 => ?_; refine wp_seq_k fun K3 hK3 => ?_; refine S_region ?_; refine S_val E (pk_move rfl rfl) rfl rfl rfl ?_; clear E a; intro a E; refine S_val E (pk_not rfl rfl) rfl rfl rfl ?_; clear E a; intro a E; refine hK3 _ _ ?_; refine S_else E rfl ?_; refine wp_skip ?_; refine hK2 _ _ ?_; refine wp_seq_k fun K4 hK4 => ?_; refine wp_seq_k fun K5 hK5 => ?_; refine S_region ?_; refine S_val E (pk_move rfl rfl) rfl rfl rfl ?_; clear E a; intro a E; refine S_val E (pk_len rfl rfl (by kernel_rfl)) rfl rfl rfl ?_; clear E a; intro a E; refine S_val E (pk_int rfl rfl rfl rfl) rfl rfl rfl ?_; clear E a; intro a E
  refine S_val E (pk_move rfl rfl) rfl rfl rfl ?_; clear E a; intro a E; refine env_split (d := 30) E rfl ?_ ?_
  · skip
    clear E; intro c30 E; refine S_skip E rfl rfl rfl ?_; clear E a; intro a E; refine S_skip E rfl rfl rfl ?_; clear E a; intro a E; refine S_skip E rfl rfl rfl ?_; clear E a; intro a E; refine S_val E (pk_pick rfl rfl rfl) rfl rfl rfl ?_; clear E a; intro a E; refine S_val E (pk_move rfl rfl) rfl rfl rfl ?_; clear E a; intro a E; refine S_skip E rfl rfl rfl ?_; clear E a; intro a E; refine S_skip E rfl rfl rfl ?_; clear E a; intro a E; refine S_skip E rfl rfl rfl ?_; clear E a; intro a E; refine S_val E (pk_pick rfl rfl rfl) rfl rfl rfl ?_; clear E a; intro a E; refine S_val E (pk_move rfl rfl) rfl rfl rfl ?_; clear E a; intro a E; refine S_skip E rfl rfl rfl ?_; clear E a; intro a E; refine S_skip E rfl rfl rfl ?_; clear E a; intro a E; refine S_skip E rfl rfl rfl ?_; clear E a; intro a E; refine S_val E (pk_pick rfl rfl rfl) rfl rfl rfl ?_; clear E a; intro a E; refine hK5 _ _ ?_
    refine S_then E rfl ?_; refine wp_seq_k fun K6 hK6 => ?_; refine S_region ?_; refine S_val E (pk_move rfl rfl) rfl rfl rfl ?_; clear E a; intro a E; refine S_val E (pk_assign rfl rfl) rfl rfl rfl ?_; clear E a; intro a E; refine hK6 _ _ ?_; refine wp_ret ?_
    repeat (first | refine then_ret ?_ | refine block_ret ?_)
    refine ret1 rfl E (resT rfl) ?_
    exact ⟨rfl, H.keepLR (L := []) (R := [])⟩
  · skip
    clear E; intro c30 E; refine S_val E (pk_move rfl rfl) rfl rfl rfl ?_; clear E a; intro a E; refine S_val E (pk_len rfl rfl (by kernel_rfl)) rfl rfl rfl ?_; clear E a; intro a E; refine S_val E (pk_int rfl rfl rfl rfl) rfl rfl rfl ?_; clear E a; intro a E; refine S_val E (pk_pick rfl rfl rfl) rfl rfl rfl ?_; clear E a; intro a E; refine S_val E (pk_move rfl rfl) rfl rfl rfl ?_; clear E a; intro a E; refine env_split (d := 35) E rfl ?_ ?_
    · skip
      clear E; intro c35 E; refine S_skip E rfl rfl rfl ?_; clear E a; intro a E; refine S_skip E rfl rfl rfl ?_; clear E a; intro a E; refine S_skip E rfl rfl rfl ?_; clear E a; intro a E; refine S_val E (pk_pick rfl rfl rfl) rfl rfl rfl ?_; clear E a; intro a E; refine S_val E (pk_move rfl rfl) rfl rfl rfl ?_; clear E a; intro a E; refine S_skip E rfl rfl rfl ?_; clear E a; intro a E; refine S_skip E rfl rfl rfl ?_; clear E a; intro a E; refine S_skip E rfl rfl rfl ?_; clear E a; intro a E; refine S_val E (pk_pick rfl rfl rfl) rfl rfl rfl ?_; clear E a; intro a E; refine hK5 _ _ ?_; refine S_then E rfl ?_; refine wp_seq_k fun K7 hK7 => ?_; refine S_region ?_; refine S_val E (pk_move rfl rfl) rfl rfl rfl ?_; clear E a; intro a E; refine S_val E (pk_assign rfl rfl) rfl rfl rfl ?_; clear E a; intro a E; refine hK7 _ _ ?_; refine wp_ret ?_
      repeat (first | refine then_ret ?_ | refine block_ret ?_)
      refine ret1 rfl E (resT rfl) ?_
      exact ⟨rfl, H.keepLR (L := []) (R := [])⟩
    · skip
      clear E; intro c35 E; refine S_val E (pk_move rfl rfl) rfl rfl rfl ?_; clear E a; intro a E; refine S_eff E rfl (fun K hK => ?_); refine eff_call E rfl rfl rfl (by kernel_rfl) ?_; refine (rFew_any H.xk (by exact H.fact 0 rfl)).mono ?_; rintro e w ⟨rfl, H1⟩
      replace H := H.call H1
      clear H1; replace H : Sep _ _ _ _ [] [_, _, _] := H; refine hK _ _ ?_; clear hK K; refine S_put E rfl rfl ?_; clear E a; intro a E; refine S_val E (pk_not rfl rfl) rfl rfl rfl ?_; clear E a; intro a E; refine S_val E (pk_pick rfl rfl rfl) rfl rfl rfl ?_; clear E a; intro a E; refine S_val E (pk_move rfl rfl) rfl rfl rfl ?_; clear E a; intro a E; refine env_split (d := 40) E rfl ?_ ?_
      · skip
        clear E; intro c40 E; refine S_skip E rfl rfl rfl ?_; clear E a; intro a E; refine S_skip E rfl rfl rfl ?_; clear E a; intro a E; refine S_skip E rfl rfl rfl ?_; clear E a; intro a E; refine S_val E (pk_pick rfl rfl rfl) rfl rfl rfl ?_; clear E a; intro a E; refine hK5 _ _ ?_; refine S_then E rfl ?_; refine wp_seq_k fun K8 hK8 => ?_; refine S_region ?_; refine S_val E (pk_move rfl rfl) rfl rfl rfl ?_; clear E a; intro a E; refine S_val E (pk_assign rfl rfl) rfl rfl rfl ?_; clear E a; intro a E; refine hK8 _ _ ?_; refine wp_ret ?_
        repeat (first | refine then_ret ?_ | refine block_ret ?_)
        refine ret1 rfl E (resT rfl) ?_
        exact ⟨rfl, H.keepLR (L := []) (R := [])⟩
      · skip
        clear E; intro c40 E; refine S_val E (pk_move rfl rfl) rfl rfl rfl ?_; clear E a; intro a E; refine S_val E (pk_len rfl rfl (by kernel_rfl)) rfl rfl rfl ?_; clear E a; intro a E; refine S_val E (pk_int rfl rfl rfl rfl) rfl rfl rfl ?_; clear E a; intro a E; refine S_val E (pk_pick rfl rfl rfl) rfl rfl rfl ?_; clear E a; intro a E; refine hK5 _ _ ?_; refine env_split (d := 44) E rfl ?_ ?_
        · skip
          clear E; intro c44 E; refine S_then E rfl ?_; refine wp_seq_k fun K9 hK9 => ?_; refine S_region ?_; refine S_val E (pk_move rfl rfl) rfl rfl rfl ?_; clear E a; intro a E; refine S_val E (pk_assign rfl rfl) rfl rfl rfl ?_; clear E a; intro a E; refine hK9 _ _ ?_; refine wp_ret ?_
          repeat (first | refine then_ret ?_ | refine block_ret ?_)
          refine ret1 rfl E (resT rfl) ?_
          exact ⟨rfl, H.keepLR (L := []) (R := [])⟩
        · skip
          clear E; intro c44 E
          have hE4 : es.length ≤ 40 := by have := c35; simp only [decide_eq_false_iff_not] at this; omega
          have hO5 : tos.length ≤ 5 := by have := c44; simp only [decide_eq_false_iff_not] at this; omega
          refine S_else E rfl ?_; refine wp_skip ?_; refine hK4 _ _ ?_; refine wp_seq_k fun K10 hK10 => ?_; refine S_region ?_; refine S_val E (pk_build (z := [.one (.int .u64 0), .one (.slice none 0 0), .one (.slice none 0 0), .one (.int .i64 0)]) rfl (by kernel_rfl) (by kernel_rfl) rfl) rfl rfl rfl ?_; clear E a; intro a E; refine S_eff E rfl (fun K hK => ?_); refine eff_alloc (z := [.one (.int .u64 0), .one (.slice none 0 0), .one (.slice none 0 0), .one (.int .i64 0)]) H rfl (by kernel_rfl) ?_; clear H; intro b8 w H _; refine hK _ _ ?_; clear hK K; refine S_put E rfl rfl ?_; clear E a; intro a E; refine S_eff E rfl (fun K hK => ?_); refine eff_store 0 E H rfl rfl rfl rfl rfl (by repeat (first | exact trivial | refine ⟨rfl, ?_⟩ | refine ⟨fun _ _ => rfl, ?_⟩)) rfl (by kernel_rfl) rfl ?_; clear H; intro w H _; replace H : Sep _ _ _ _ [_] _ := H; refine hK _ _ ?_; clear hK K
          refine S_put0 rfl ?_; refine hK10 _ _ ?_; refine wp_seq_k fun K11 hK11 => ?_; refine S_region ?_; refine S_val E (pk_assign rfl rfl) rfl rfl rfl ?_; clear E a; intro a E; refine hK11 _ _ ?_; refine wp_seq_k fun K12 hK12 => ?_; refine S_region ?_; refine S_val E (pk_assign rfl rfl) rfl rfl rfl ?_; clear E a; intro a E; refine hK12 _ _ ?_; refine wp_seq_k fun K13 hK13 => ?_; refine wp_seq_k fun K14 hK14 => ?_; refine S_region ?_; refine S_val E (pk_move rfl rfl) rfl rfl rfl ?_; clear E a; intro a E; refine S_val E (pk_len rfl rfl (by kernel_rfl)) rfl rfl rfl ?_; clear E a; intro a E; refine S_val E (pk_move rfl rfl) rfl rfl rfl ?_; clear E a; intro a E; refine hK14 _ _ ?_; refine wp_block ?_
          have H0 : Sep X [] w0 w [.blk b8 (ca [.one (.int .u64 (⟨0, [], [], 0⟩ : Srv).ep), .one (.slice none (⟨0, [], [], 0⟩ : Srv).log.length 0), .one (.slice none (⟨0, [], [], 0⟩ : Srv).wait.length 0), .one (.int .i64 (⟨0, [], [], 0⟩ : Srv).nx)]) 30, .row (.slice none ([] : List (List Nat × TextT.μ)).length 0) 23 1 ([] : List (List Nat × TextT.μ)).length (rowC TextT ([] : List (List Nat × TextT.μ)))] [LiF TextT none 0 (⟨0, [], [], 0⟩ : Srv).log (fun _ => TextT.dft), LiF LtrT none 0 (⟨0, [], [], 0⟩ : Srv).wait (fun _ => LtrT.dft), NestF TextT ([] : List (List Nat × TextT.μ)), LiF TextT XA xc xs xm, TxF EA ec es, LiF IntT OA oc tos om] := ((((H.rownil _ _).know nest_nil).know liF_nil).know liF_nil).perm (List.Perm.swap _ _ _)
          refine S_loopI (γ := Nat × Srv × (Option Addr × Nat × (Nat → TextT.μ)) × (Option Addr × Nat × (Nat → LtrT.μ)) × (Option Addr × Nat × List (List Nat × TextT.μ))) [0, 2, 7, 8, 47, 48] (fun g => [(9, .slice g.2.2.2.2.1 g.2.2.2.2.2.2.length g.2.2.2.2.2.1), (10, .int .i64 (g.2.1.wait.length : Int)), (49, .int .i64 (g.1 : Int))]) (fun g => [.blk b8 (ca [.one (.int .u64 g.2.1.ep), .one (.slice g.2.2.1.1 g.2.1.log.length g.2.2.1.2.1), .one (.slice g.2.2.2.1.1 g.2.1.wait.length g.2.2.2.1.2.1), .one (.int .i64 g.2.1.nx)]) 30, .row (.slice g.2.2.2.2.1 g.2.2.2.2.2.2.length g.2.2.2.2.2.1) 23 1 g.2.2.2.2.2.2.length (rowC TextT g.2.2.2.2.2.2)]) (fun g => [LiF TextT g.2.2.1.1 g.2.2.1.2.1 g.2.1.log g.2.2.1.2.2, LiF LtrT g.2.2.2.1.1 g.2.2.2.1.2.1 g.2.1.wait g.2.2.2.1.2.2, NestF TextT g.2.2.2.2.2.2, LiF TextT XA xc xs xm, TxF EA ec es, LiF IntT OA oc tos om]) (fun g => g.1 ≤ es.length ∧ OrdI g.2.1 ∧ g.2.2.2.2.2.2.map Prod.fst = g.2.1.log) (fun g => es.length - g.1) ((0, ⟨0, [], [], 0⟩, (none, 0, fun _ => TextT.dft), (none, 0, fun _ => LtrT.dft), (none, 0, []))) E H0 (by repeat (first | exact trivial | refine ⟨rfl, ?_⟩)) (⟨Nat.zero_le _, ord_0, rfl⟩) ?_
          clear E H; intro g a w E H hφ; replace E : Env a _ [(9, _), (10, _), (49, _), (0, _), (2, _), (7, _), (8, _), (47, _), (48, _)] := E; replace H : Sep _ _ _ _ [_, _] [_, _, _, _, _, _] := H
          obtain ⟨i, s, ⟨LA1, lc1, lm1⟩, ⟨WA1, wc1, wm1⟩, ⟨gA, gc, ds⟩⟩ := g
          simp only at E H hφ ⊢
          obtain ⟨hi, hI, hds⟩ := hφ
          refine wp_seq_k fun K15 hK15 => ?_; refine S_region ?_; refine S_val E (pk_int rfl rfl rfl rfl) rfl rfl rfl ?_; clear E a; intro a E; refine hK15 _ _ ?_; refine wp_seq_k fun K16 hK16 => ?_; refine env_split (d := 50) E rfl ?_ ?_
          · skip
            clear E; intro c50 E
            have hk : i < es.length := by simpa using c50
            have hxb : es[i]? = some es[i] := List.getElem?_eq_getElem hk
            obtain ⟨eA, hEA⟩ : ∃ ad, EA = some ad := by
              cases hq : EA with
              | some ad => exact ⟨ad, rfl⟩
              | none => have := (hE1.now.nil hq).1; omega
            refine S_then E rfl ?_; refine wp_skip ?_; refine hK16 _ _ ?_; refine wp_seq_k fun K17 hK17 => ?_; refine wp_block ?_; refine wp_seq_k fun K18 hK18 => ?_; refine S_region ?_; refine S_val E (pk_move rfl rfl) rfl rfl rfl ?_; clear E a; intro a E; refine S_val E (pk_elA (sz := 1) hEA rfl (by kernel_rfl) rfl rfl rfl (by omega)) rfl rfl rfl ?_; clear E a; intro a E; refine S_val E (pk_byte (by exact H.fact 4 rfl) (fun _ _ _ => trivial) hEA rfl rfl hxb (by kernel_rfl)) rfl rfl rfl ?_; clear E a; intro a E; refine S_val E (pk_assign rfl rfl) rfl rfl rfl ?_; clear E a; intro a E; refine S_val E (pk_assign rfl rfl) rfl rfl rfl ?_; clear E a; intro a E; refine hK18 _ _ ?_; refine wp_seq_k fun K19 hK19 => ?_; refine S_region ?_; refine S_val E (pk_assign rfl rfl) rfl rfl rfl ?_; clear E a; intro a E; refine hK19 _ _ ?_
            refine S_join (fun a w => ∃ (TA : Option Addr) (tc : Nat) (tx : List Nat), Env a 168 [(13, .slice TA tx.length tc), (11, .int .i64 (i : Int)), (49, .int .i64 (i : Int)), (9, .slice gA ds.length gc), (10, .int .i64 (s.wait.length : Int)), (0, .slice XA xs.length xc), (2, .slice OA tos.length oc), (7, .bool true), (8, .pointer (some ⟨b8, 0, none⟩)), (47, .slice EA es.length ec), (48, .int .i64 (es.length : Int))] ∧ Sep X [] w0 w [.blk b8 (ca [.one (.int .u64 s.ep), .one (.slice LA1 s.log.length lc1), .one (.slice WA1 s.wait.length wc1), .one (.int .i64 s.nx)]) 30, .row (.slice gA ds.length gc) 23 1 ds.length (rowC TextT ds)] (TxF TA tc tx :: [LiF TextT LA1 lc1 s.log lm1, LiF LtrT WA1 wc1 s.wait wm1, NestF TextT ds, LiF TextT XA xc xs xm, TxF EA ec es, LiF IntT OA oc tos om])) ?_ ?_
            · skip
              refine wp_seq_k fun K21 hK21 => ?_; refine S_region ?_; refine S_val E (pk_move rfl rfl) rfl rfl rfl ?_; clear E a; intro a E; refine S_val E (pk_move rfl rfl) rfl rfl rfl ?_; clear E a; intro a E; refine S_val E (pk_len rfl rfl (by kernel_rfl)) rfl rfl rfl ?_; clear E a; intro a E; refine S_val E (pk_int rfl rfl rfl rfl) rfl rfl rfl ?_; clear E a; intro a E; refine S_val E (pk_move rfl rfl) rfl rfl rfl ?_; clear E a; intro a E; refine env_split (d := 58) E rfl ?_ ?_
              · skip
                clear E; intro c58 E
                have hix : i < xs.length := by simpa using c58
                have hxi : xs[i]? = some xs[i] := List.getElem?_eq_getElem hix
                refine S_val E (pk_move rfl rfl) rfl rfl rfl ?_; clear E a; intro a E; refine S_val E (pk_int rfl rfl rfl rfl) rfl rfl rfl ?_; clear E a; intro a E; refine S_val E (pk_pick rfl rfl rfl) rfl rfl rfl ?_; clear E a; intro a E; refine hK21 _ _ ?_; refine env_split (d := 61) E rfl ?_ ?_
                · skip
                  clear E; intro c61 E; refine S_then E rfl ?_; refine S_region ?_; refine S_val E (pk_move rfl rfl) rfl rfl rfl ?_; clear E a; intro a E; refine S_val E (pk_move rfl rfl) rfl rfl rfl ?_; clear E a; intro a E
                  obtain ⟨ad64, hA64, hc64, hn64⟩ := LiF.get (A := XA) (T := TextT) (i := i) (x := xs[i]) (by exact H.fact 3 rfl) hxi
                  refine S_val E (pk_elA (sz := 1) hA64 rfl (by kernel_rfl) rfl rfl rfl (by omega)) rfl rfl rfl ?_; clear E a; intro a E
                  replace H := (H.know hn64).know hc64
                  clear hn64 hc64; replace H : Sep _ _ _ _ _ [_, _, _, _, _, _, _, _] := H; refine S_val E (pk_loadE1 (H.fact 0 rfl) (fun _ _ _ => trivial) rfl rfl rfl (by kernel_rfl)) rfl rfl rfl ?_; clear E a; intro a E; refine S_val E (pk_assign rfl rfl) rfl rfl rfl ?_; clear E a; intro a E
                  exact ⟨(xm i).1, (xm i).2, xs[i], E.to (by repeat (first | exact trivial | refine ⟨rfl, ?_⟩)), H.refacts (List.forall_mem_cons.2 ⟨H.fact 1 rfl, List.forall_mem_cons.2 ⟨H.fact 2 rfl, List.forall_mem_cons.2 ⟨H.fact 3 rfl, List.forall_mem_cons.2 ⟨H.fact 4 rfl, List.forall_mem_cons.2 ⟨H.fact 5 rfl, List.forall_mem_cons.2 ⟨H.fact 6 rfl, List.forall_mem_cons.2 ⟨H.fact 7 rfl, List.forall_mem_nil _⟩⟩⟩⟩⟩⟩⟩)⟩
                · skip
                  clear E; intro c61 E; refine S_else E rfl ?_; refine wp_seq_k fun K22 hK22 => ?_; refine S_region ?_; refine S_val E (pk_move rfl rfl) rfl rfl rfl ?_; clear E a; intro a E; refine S_val E (pk_rem rfl rfl rfl (by omega)) rfl rfl rfl ?_; clear E a; intro a E
                  rw [show (((es[i] : Nat) : Int)).tmod 12 = ((es[i] % 12 : Nat) : Int) from (Int.ofNat_tmod _ _).symm] at E
                  refine S_val E (pk_convw rfl rfl (by kernel_rfl) (by kernel_rfl) (wU64 (by omega) (by omega))) rfl rfl rfl ?_; clear E a; intro a E; refine S_val E (pk_move rfl rfl) rfl rfl rfl ?_; clear E a; intro a E; refine S_val E (pk_build (z := [.one (.int .u64 0), .one (.int .i64 0), .one (.slice none 0 0), .key [], .one (.slice none 0 0), .one (.slice none 0 0), .one (.slice none 0 0), .key []]) rfl (by kernel_rfl) (by kernel_rfl) ⟨_, [.one _], 0, _, rfl, rfl, (by kernel_rfl), rfl, ⟨_, [.one _], 1, _, rfl, rfl, (by kernel_rfl), rfl, rfl⟩⟩) rfl rfl rfl ?_; clear E a; intro a E; refine S_eff E rfl (fun K hK => ?_); refine eff_call E rfl rfl rfl (by kernel_rfl) ?_; refine (writeCommit_em (ep := es[i] % 12) (by_ := (i : Int)) (by omega) (by omega) (by omega) H.xk).mono ?_; rintro e w ⟨cA, cc, rfl, H1⟩
                  replace H := H.call H1
                  clear H1; replace H : Sep _ _ _ _ [_, _] [_, _, _, _, _, _, _] := H; refine hK _ _ ?_; clear hK K; refine S_put E rfl rfl ?_; clear E a; intro a E; refine S_val E (pk_move rfl rfl) rfl rfl rfl ?_; clear E a; intro a E; refine S_val E (pk_extract rfl rfl rfl) rfl rfl rfl ?_; clear E a; intro a E; refine S_val E (pk_extract rfl rfl rfl) rfl rfl rfl ?_; clear E a; intro a E; refine S_val E (pk_assign rfl rfl) rfl rfl rfl ?_; clear E a; intro a E; refine S_val E (pk_assign rfl rfl) rfl rfl rfl ?_; clear E a; intro a E; refine hK22 _ _ ?_; refine wp_seq_k fun K23 hK23 => ?_; refine wp_seq_k fun K24 hK24 => ?_; refine S_region ?_; refine S_val E (pk_move rfl rfl) rfl rfl rfl ?_; clear E a; intro a E; refine S_val E (pk_int (v := .bool false) rfl rfl rfl (by rfl)) rfl rfl rfl ?_; clear E a; intro a E; refine hK24 _ _ ?_; refine S_else E rfl ?_; refine wp_skip ?_
                  refine hK23 _ _ ?_; refine S_region ?_; refine S_val E (pk_move rfl rfl) rfl rfl rfl ?_; clear E a; intro a E; refine S_val E (pk_assign rfl rfl) rfl rfl rfl ?_; clear E a; intro a E
                  exact ⟨cA, cc, wrL (es[i] % 12) (i : Int), E.to (by repeat (first | exact trivial | refine ⟨rfl, ?_⟩)), H.refacts (List.forall_mem_cons.2 ⟨H.fact 0 rfl, List.forall_mem_cons.2 ⟨H.fact 1 rfl, List.forall_mem_cons.2 ⟨H.fact 2 rfl, List.forall_mem_cons.2 ⟨H.fact 3 rfl, List.forall_mem_cons.2 ⟨H.fact 4 rfl, List.forall_mem_cons.2 ⟨H.fact 5 rfl, List.forall_mem_cons.2 ⟨H.fact 6 rfl, List.forall_mem_nil _⟩⟩⟩⟩⟩⟩⟩)⟩
              · skip
                clear E; intro c58 E; refine S_skip E rfl rfl rfl ?_; clear E a; intro a E; refine S_skip E rfl rfl rfl ?_; clear E a; intro a E; refine S_val E (pk_pick rfl rfl rfl) rfl rfl rfl ?_; clear E a; intro a E; refine hK21 _ _ ?_; refine S_else E rfl ?_; refine wp_seq_k fun K25 hK25 => ?_; refine S_region ?_; refine S_val E (pk_move rfl rfl) rfl rfl rfl ?_; clear E a; intro a E; refine S_val E (pk_rem rfl rfl rfl (by omega)) rfl rfl rfl ?_; clear E a; intro a E
                rw [show (((es[i] : Nat) : Int)).tmod 12 = ((es[i] % 12 : Nat) : Int) from (Int.ofNat_tmod _ _).symm] at E
                refine S_val E (pk_convw rfl rfl (by kernel_rfl) (by kernel_rfl) (wU64 (by omega) (by omega))) rfl rfl rfl ?_; clear E a; intro a E; refine S_val E (pk_move rfl rfl) rfl rfl rfl ?_; clear E a; intro a E; refine S_val E (pk_build (z := [.one (.int .u64 0), .one (.int .i64 0), .one (.slice none 0 0), .key [], .one (.slice none 0 0), .one (.slice none 0 0), .one (.slice none 0 0), .key []]) rfl (by kernel_rfl) (by kernel_rfl) ⟨_, [.one _], 0, _, rfl, rfl, (by kernel_rfl), rfl, ⟨_, [.one _], 1, _, rfl, rfl, (by kernel_rfl), rfl, rfl⟩⟩) rfl rfl rfl ?_; clear E a; intro a E; refine S_eff E rfl (fun K hK => ?_); refine eff_call E rfl rfl rfl (by kernel_rfl) ?_; refine (writeCommit_em (ep := es[i] % 12) (by_ := (i : Int)) (by omega) (by omega) (by omega) H.xk).mono ?_; rintro e w ⟨cA, cc, rfl, H1⟩
                replace H := H.call H1
                clear H1; replace H : Sep _ _ _ _ [_, _] [_, _, _, _, _, _, _] := H; refine hK _ _ ?_; clear hK K; refine S_put E rfl rfl ?_; clear E a; intro a E; refine S_val E (pk_move rfl rfl) rfl rfl rfl ?_; clear E a; intro a E; refine S_val E (pk_extract rfl rfl rfl) rfl rfl rfl ?_; clear E a; intro a E; refine S_val E (pk_extract rfl rfl rfl) rfl rfl rfl ?_; clear E a; intro a E; refine S_val E (pk_assign rfl rfl) rfl rfl rfl ?_; clear E a; intro a E; refine S_val E (pk_assign rfl rfl) rfl rfl rfl ?_; clear E a; intro a E; refine hK25 _ _ ?_; refine wp_seq_k fun K26 hK26 => ?_; refine wp_seq_k fun K27 hK27 => ?_; refine S_region ?_; refine S_val E (pk_move rfl rfl) rfl rfl rfl ?_; clear E a; intro a E; refine S_val E (pk_int (v := .bool false) rfl rfl rfl (by rfl)) rfl rfl rfl ?_; clear E a; intro a E; refine hK27 _ _ ?_; refine S_else E rfl ?_; refine wp_skip ?_
                refine hK26 _ _ ?_; refine S_region ?_; refine S_val E (pk_move rfl rfl) rfl rfl rfl ?_; clear E a; intro a E; refine S_val E (pk_assign rfl rfl) rfl rfl rfl ?_; clear E a; intro a E
                exact ⟨cA, cc, wrL (es[i] % 12) (i : Int), E.to (by repeat (first | exact trivial | refine ⟨rfl, ?_⟩)), H.refacts (List.forall_mem_cons.2 ⟨H.fact 0 rfl, List.forall_mem_cons.2 ⟨H.fact 1 rfl, List.forall_mem_cons.2 ⟨H.fact 2 rfl, List.forall_mem_cons.2 ⟨H.fact 3 rfl, List.forall_mem_cons.2 ⟨H.fact 4 rfl, List.forall_mem_cons.2 ⟨H.fact 5 rfl, List.forall_mem_cons.2 ⟨H.fact 6 rfl, List.forall_mem_nil _⟩⟩⟩⟩⟩⟩⟩)⟩
            · skip
              intro a w hJ
              obtain ⟨TA, tc, tx, E, H⟩ := hJ
              replace H : Sep _ _ _ _ [_, _] [_, _, _, _, _, _, _] := H; refine wp_seq_k fun K28 hK28 => ?_; refine S_region ?_; refine S_val E (pk_load (n := 4) H 0 rfl rfl rfl trivial rfl (by kernel_rfl)) rfl rfl rfl ?_; clear E a; intro a E; refine S_val E (pk_move rfl rfl) rfl rfl rfl ?_; clear E a; intro a E; refine S_val E (pk_move rfl rfl) rfl rfl rfl ?_; clear E a; intro a E; refine S_eff E rfl (fun K hK => ?_); refine eff_call E rfl rfl rfl (by kernel_rfl) ?_; refine (Post_any (ep := s.ep) (log := s.log) (wait := s.wait) (nx := s.nx) H.xk (by exact H.fact 1 rfl) (by exact H.fact 2 rfl) (by exact H.fact 0 rfl) (by exact H.fact 6 rfl)).mono ?_; rintro e w ⟨LA2, lc2, lm2, WA2, wc2, wm2, rfl, H1⟩
              replace H := H.call H1
              clear H1; replace H : Sep _ _ _ _ [_, _] [_, _, _, _, _, _, _, _, _] := H; refine hK _ _ ?_; clear hK K; refine S_put E rfl rfl ?_; clear E a; intro a E; refine S_val E (pk_move rfl rfl) rfl rfl rfl ?_; clear E a; intro a E; refine S_val E (pk_extract rfl rfl rfl) rfl rfl rfl ?_; clear E a; intro a E; refine S_val E (pk_extract rfl rfl rfl) rfl rfl rfl ?_; clear E a; intro a E; refine S_eff E rfl (fun K hK => ?_); refine eff_alloc (z := [.one (.int .u64 0), .one (.slice none 0 0), .one (.slice none 0 0), .one (.int .i64 0)]) H rfl (by kernel_rfl) ?_; clear H; intro b16 w H _; refine hK _ _ ?_; clear hK K; refine S_put E rfl rfl ?_; clear E a; intro a E; refine S_eff E rfl (fun K hK => ?_); refine eff_store 0 E H rfl rfl rfl rfl rfl (by repeat (first | exact trivial | refine ⟨rfl, ?_⟩ | refine ⟨fun _ _ => rfl, ?_⟩)) rfl (by kernel_rfl) rfl ?_; clear H; intro w H _
              replace H : Sep _ _ _ _ [_, _, _] _ := H; refine hK _ _ ?_; clear hK K; refine S_put0 rfl ?_; refine S_val E (pk_assign rfl rfl) rfl rfl rfl ?_; clear E a; intro a E; refine hK28 _ _ ?_; refine wp_seq_k fun K29 hK29 => ?_; refine wp_seq_k fun K30 hK30 => ?_; refine S_region ?_; refine S_val E (pk_move rfl rfl) rfl rfl rfl ?_; clear E a; intro a E; refine S_val E (pk_int rfl rfl rfl rfl) rfl rfl rfl ?_; clear E a; intro a E; refine hK30 _ _ ?_; refine env_split (d := 86) E rfl ?_ ?_
              · skip
                clear E; intro c86 E; refine S_then E rfl ?_; refine wp_exit ?_
                repeat (first | refine then_exit ?_ | refine block_hit ?_ | refine block_miss (by decide) ?_)
                refine hK17 _ _ ?_; refine S_region ?_; refine S_val E (pk_intw rfl rfl rfl rfl (wI64 (by omega) (by omega))) rfl rfl rfl ?_; clear E a; intro a E; refine S_val E (pk_move rfl rfl) rfl rfl rfl ?_; clear E a; intro a E
                replace H := (H.refacts (List.forall_mem_cons.2 ⟨H.fact 3 rfl, List.forall_mem_cons.2 ⟨H.fact 4 rfl, List.forall_mem_cons.2 ⟨H.fact 5 rfl, List.forall_mem_cons.2 ⟨H.fact 6 rfl, List.forall_mem_cons.2 ⟨H.fact 7 rfl, List.forall_mem_cons.2 ⟨H.fact 8 rfl, List.forall_mem_nil _⟩⟩⟩⟩⟩⟩)).popL
                refine loop_end ?_
                exact ⟨(i + 1, s, (LA1, lc1, lm1), (WA1, wc1, wm1), (gA, gc, ds)), ⟨E.to (by repeat (first | exact trivial | refine ⟨rfl, ?_⟩)), H, ⟨by show i + 1 ≤ es.length; omega, hI, hds⟩⟩, by show es.length - (i + 1) < es.length - i; omega⟩
              · skip
                clear E; intro c86 E
                have hp0 : (postV s tx tos).2 = 0 := eq_of_nbne c86
                obtain ⟨hI2, hlg, hwt⟩ := ord_post hI hp0
                obtain ⟨s2, hs2⟩ : ∃ s2, (postV s tx tos).1 = s2 := ⟨_, rfl⟩
                rw [hs2] at hI2 hlg hwt
                rw [show (postV ⟨s.ep, s.log, s.wait, s.nx⟩ tx tos) = postV s tx tos from rfl] at E H
                rw [hs2] at E H
                have hOK2 := okS_of hI2.ok
                have hOK := okS_of hI.ok
                refine S_else E rfl ?_; refine wp_skip ?_; refine hK29 _ _ ?_; refine wp_seq_k fun K31 hK31 => ?_; refine wp_seq_k fun K32 hK32 => ?_; refine S_region ?_; refine S_val E (pk_move rfl rfl) rfl rfl rfl ?_; clear E a; intro a E; refine S_eff E rfl (fun K hK => ?_); refine eff_call E rfl rfl rfl (by kernel_rfl) ?_; refine (Kind_any H.xk (by exact H.fact 2 rfl)).mono ?_; rintro e w ⟨rfl, H1⟩
                replace H := H.call H1
                clear H1; replace H : Sep _ _ _ _ [_, _, _] [_, _, _, _, _, _, _, _, _] := H; refine hK _ _ ?_; clear hK K; refine S_put E rfl rfl ?_; clear E a; intro a E; refine S_val E (pk_int rfl rfl rfl rfl) rfl rfl rfl ?_; clear E a; intro a E; refine hK32 _ _ ?_; refine env_split (d := 89) E rfl ?_ ?_
                · skip
                  clear E; intro c89 E
                  have hkd : kindV tx = 1 := eq_of_beq c89
                  rw [if_pos hkd] at hlg
                  have hdm : (ds ++ [((tx, (TA, tc)) : List Nat × TextT.μ)]).map Prod.fst = s2.log := by rw [hlg, List.map_append, hds]; rfl
                  have hln : (ds ++ [((tx, (TA, tc)) : List Nat × TextT.μ)]).length = s2.log.length := by rw [← hdm, List.length_map]
                  have hdl : ds.length = s.log.length := by rw [← hds, List.length_map]
                  refine S_then E rfl ?_; refine S_region ?_; refine S_val E (pk_move rfl rfl) rfl rfl rfl ?_; clear E a; intro a E; refine S_val E (pk_move rfl rfl) rfl rfl rfl ?_; clear E a; intro a E; refine S_eff E rfl (fun K hK => ?_); refine eff_bslice (sz := 1) (z := [.one (.slice none 0 0)]) E H rfl Try.underlying22 (by kernel_rfl) (by decide) (by kernel_rfl) ⟨_, [.one _], 0, _, rfl, rfl, rfl, rfl, rfl⟩ ?_; clear H; intro b92 w H _; refine hK _ _ ?_; clear hK K; refine S_put E rfl rfl ?_; clear E a; intro a E; refine S_eff E rfl (fun K hK => ?_); refine eff_app1 (T := TextT) (q := ((tx, (TA, tc)) : List Nat × TextT.μ)) (its := ds) 3 0 (by_ := 24) E H rfl rfl rfl rfl rfl rfl ⟨Try.underlying22, by kernel_rfl⟩ (by omega) (by omega) ?_; clear H; intro A93 c93 w hcap93 H F; replace H : Sep _ _ _ _ [_, _, _, _] _ := H; refine hK _ _ ?_; clear hK K
                  refine S_put E rfl rfl ?_; clear E a; intro a E; clear F; refine S_val E (pk_assign rfl rfl) rfl rfl rfl ?_; clear E a; intro a E; refine hK31 _ _ ?_; refine wp_seq_k fun K33 hK33 => ?_; refine S_region ?_; refine S_val E (pk_move rfl rfl) rfl rfl rfl ?_; clear E a; intro a E; refine S_val E (pk_move rfl rfl) rfl rfl rfl ?_; clear E a; intro a E; refine S_val E (pk_len rfl rfl (by kernel_rfl)) rfl rfl rfl ?_; clear E a; intro a E; refine S_val E (pk_intw rfl rfl rfl rfl (wI64 (by omega) (by omega))) rfl rfl rfl ?_; clear E a; intro a E
                  rw [show ((s.wait.length : Nat) : Int) + ((tos.length : Nat) : Int) = ((s2.wait.length : Nat) : Int) from by rw [hwt]; omega] at E
                  refine S_val E (pk_assign rfl rfl) rfl rfl rfl ?_; clear E a; intro a E; refine hK33 _ _ ?_; refine wp_seq_k fun K34 hK34 => ?_; refine S_region ?_; refine S_val E (pk_load (n := 4) H 1 rfl rfl rfl trivial rfl (by kernel_rfl)) rfl rfl rfl ?_; clear E a; intro a E; refine S_eff E rfl (fun K hK => ?_); refine eff_store 2 E H rfl rfl rfl rfl rfl (by repeat (first | exact trivial | refine ⟨rfl, ?_⟩ | refine ⟨fun _ _ => rfl, ?_⟩)) rfl (by kernel_rfl) rfl ?_; clear H; intro w H _; replace H : Sep _ _ _ _ [_, _, _, _] _ := H; refine hK _ _ ?_; clear hK K; refine S_put0 rfl ?_; refine hK34 _ _ ?_; refine wp_seq_k fun K35 hK35 => ?_; refine S_region ?_; refine S_val E (pk_load (n := 4) H 2 rfl rfl rfl trivial rfl (by kernel_rfl)) rfl rfl rfl ?_; clear E a; intro a E; refine S_eff E rfl (fun K hK => ?_); refine eff_call E rfl rfl rfl (by kernel_rfl) ?_
                  refine (Check_yes (ep := s2.ep) (log := s2.log) (wait := s2.wait) (nx := s2.nx) hI2.ok H.xk (by exact H.fact 0 rfl) (by exact H.fact 1 rfl)).mono ?_; rintro e w ⟨rfl, H1⟩
                  replace H := H.call H1
                  clear H1; replace H : Sep _ _ _ _ [_, _, _, _] [_, _, _, _, _, _, _, _, _] := H; refine hK _ _ ?_; clear hK K; refine S_put E rfl rfl ?_; clear E a; intro a E; refine S_val E (pk_int (v := .bool false) rfl rfl rfl (by rfl)) rfl rfl rfl ?_; clear E a; intro a E; refine S_val E (pk_move rfl rfl) rfl rfl rfl ?_; clear E a; intro a E; refine S_val E (pk_fieldAddr (off := 0) rfl rfl (by kernel_rfl)) rfl rfl rfl ?_; clear E a; intro a E; refine S_val E (pk_load1 H 2 rfl rfl rfl trivial rfl (by kernel_rfl)) rfl rfl rfl ?_; clear E a; intro a E; refine S_val E (pk_move rfl rfl) rfl rfl rfl ?_; clear E a; intro a E; refine S_val E (pk_len rfl rfl (by kernel_rfl)) rfl rfl rfl ?_; clear E a; intro a E; refine S_val E (pk_convw rfl rfl (by kernel_rfl) (by kernel_rfl) (wU64 (by omega) (by rw [hln]; omega))) rfl rfl rfl ?_; clear E a; intro a E
                  refine S_val E (pk_int rfl rfl rfl rfl) rfl rfl rfl ?_; clear E a; intro a E
                  rw [show (s2.ep != (((ds ++ [((tx, (TA, tc)) : List Nat × TextT.μ)]).length : Nat) : Int)) = false from by rw [bne_eq_false_iff_eq, hln]; exact hOK2.1] at E
                  refine S_val E (pk_pick rfl rfl rfl) rfl rfl rfl ?_; clear E a; intro a E; refine S_val E (pk_move rfl rfl) rfl rfl rfl ?_; clear E a; intro a E; refine S_val E (pk_fieldAddr (off := 1) rfl rfl (by kernel_rfl)) rfl rfl rfl ?_; clear E a; intro a E; refine S_val E (pk_load1 H 2 rfl rfl rfl trivial rfl (by kernel_rfl)) rfl rfl rfl ?_; clear E a; intro a E; refine S_val E (pk_move rfl rfl) rfl rfl rfl ?_; clear E a; intro a E; refine S_eff E rfl (fun K hK => ?_); refine eff_call E rfl rfl rfl (by kernel_rfl) ?_
                  have HN := H.know (nest_snoc (its := ds) (q := ((tx, (TA, tc)) : List Nat × TextT.μ)) (by exact H.fact 5 rfl) (by exact H.fact 2 rfl))
                  obtain ⟨mz, HZ⟩ := (HN.at_ 3 _ rfl).freezeL (xs := s2.log) rfl (by simp) hdm
                  refine (RSameAll_want hln HZ.xk (by first | exact HZ.fact 0 rfl | exact HZ.fact 1 rfl | exact HZ.fact 2 rfl | exact HZ.fact 3 rfl | exact HZ.fact 4 rfl | exact HZ.fact 5 rfl | exact HZ.fact 6 rfl | exact HZ.fact 7 rfl | exact HZ.fact 8 rfl | exact HZ.fact 9 rfl | exact HZ.fact 10 rfl) (by first | exact HZ.fact 0 rfl | exact HZ.fact 1 rfl | exact HZ.fact 2 rfl | exact HZ.fact 3 rfl | exact HZ.fact 4 rfl | exact HZ.fact 5 rfl | exact HZ.fact 6 rfl | exact HZ.fact 7 rfl | exact HZ.fact 8 rfl | exact HZ.fact 9 rfl | exact HZ.fact 10 rfl)).mono ?_; rintro e w ⟨rfl, H1⟩
                  have F := H1.frm
                  replace H := H.grow F
                  refine hK _ _ ?_; clear hK K; refine S_put E rfl rfl ?_; clear E a; intro a E; clear F; clear HZ HN; refine S_val E (pk_not rfl rfl) rfl rfl rfl ?_; clear E a; intro a E; refine S_val E (pk_pick rfl rfl rfl) rfl rfl rfl ?_; clear E a; intro a E; refine S_val E (pk_move rfl rfl) rfl rfl rfl ?_; clear E a; intro a E; refine S_val E (pk_fieldAddr (off := 2) rfl rfl (by kernel_rfl)) rfl rfl rfl ?_; clear E a; intro a E; refine S_val E (pk_load1 H 2 rfl rfl rfl trivial rfl (by kernel_rfl)) rfl rfl rfl ?_; clear E a; intro a E; refine S_val E (pk_len rfl rfl (by kernel_rfl)) rfl rfl rfl ?_; clear E a; intro a E; refine S_val E (pk_move rfl rfl) rfl rfl rfl ?_; clear E a; intro a E; refine S_val E (pk_int rfl rfl rfl rfl) rfl rfl rfl ?_; clear E a; intro a E
                  rw [show (((s2.wait.length : Nat) : Int) != ((s2.wait.length : Nat) : Int)) = false from by simp] at E
                  refine S_val E (pk_pick rfl rfl rfl) rfl rfl rfl ?_; clear E a; intro a E; refine S_val E (pk_move rfl rfl) rfl rfl rfl ?_; clear E a; intro a E; refine S_val E (pk_fieldAddr (off := 3) rfl rfl (by kernel_rfl)) rfl rfl rfl ?_; clear E a; intro a E; refine S_val E (pk_load1 H 2 rfl rfl rfl trivial rfl (by kernel_rfl)) rfl rfl rfl ?_; clear E a; intro a E; refine S_val E (pk_move rfl rfl) rfl rfl rfl ?_; clear E a; intro a E; refine S_val E (pk_int rfl rfl rfl rfl) rfl rfl rfl ?_; clear E a; intro a E
                  rw [show (s2.nx != ((s2.wait.length : Nat) : Int)) = false from by rw [bne_eq_false_iff_eq]; exact hI2.nx] at E
                  refine S_val E (pk_pick rfl rfl rfl) rfl rfl rfl ?_; clear E a; intro a E; refine hK35 _ _ ?_; refine S_else E rfl ?_; refine wp_skip ?_; refine hK17 _ _ ?_; refine S_region ?_; refine S_val E (pk_intw rfl rfl rfl rfl (wI64 (by omega) (by omega))) rfl rfl rfl ?_; clear E a; intro a E; refine S_val E (pk_move rfl rfl) rfl rfl rfl ?_; clear E a; intro a E
                  replace H := (H.refacts (List.forall_mem_cons.2 ⟨H.fact 0 rfl, List.forall_mem_cons.2 ⟨H.fact 1 rfl, List.forall_mem_cons.2 ⟨nest_snoc (q := ((tx, (TA, tc)) : List Nat × TextT.μ)) (H.fact 5 rfl) (H.fact 2 rfl), List.forall_mem_cons.2 ⟨H.fact 6 rfl, List.forall_mem_cons.2 ⟨H.fact 7 rfl, List.forall_mem_cons.2 ⟨H.fact 8 rfl, List.forall_mem_nil _⟩⟩⟩⟩⟩⟩)).popL.popL
                  refine loop_end ?_
                  exact ⟨(i + 1, s2, (LA2, lc2, lm2), (WA2, wc2, wm2), (A93, c93, ds ++ [((tx, (TA, tc)) : List Nat × TextT.μ)])), ⟨E.to (by repeat (first | exact trivial | refine ⟨rfl, ?_⟩)), H, ⟨by show i + 1 ≤ es.length; omega, hI2, hdm⟩⟩, by show es.length - (i + 1) < es.length - i; omega⟩
                · skip
                  clear E; intro c89 E
                  have hkd : ¬ kindV tx = 1 := ne_of_beq_false c89
                  rw [if_neg hkd] at hlg
                  have hdm : ds.map Prod.fst = s2.log := by rw [hlg, hds]
                  have hln : ds.length = s2.log.length := by rw [← hdm, List.length_map]
                  refine S_else E rfl ?_; refine wp_skip ?_; refine hK31 _ _ ?_; refine wp_seq_k fun K36 hK36 => ?_; refine S_region ?_; refine S_val E (pk_move rfl rfl) rfl rfl rfl ?_; clear E a; intro a E; refine S_val E (pk_move rfl rfl) rfl rfl rfl ?_; clear E a; intro a E; refine S_val E (pk_len rfl rfl (by kernel_rfl)) rfl rfl rfl ?_; clear E a; intro a E; refine S_val E (pk_intw rfl rfl rfl rfl (wI64 (by omega) (by omega))) rfl rfl rfl ?_; clear E a; intro a E
                  rw [show ((s.wait.length : Nat) : Int) + ((tos.length : Nat) : Int) = ((s2.wait.length : Nat) : Int) from by rw [hwt]; omega] at E
                  refine S_val E (pk_assign rfl rfl) rfl rfl rfl ?_; clear E a; intro a E; refine hK36 _ _ ?_; refine wp_seq_k fun K37 hK37 => ?_; refine S_region ?_; refine S_val E (pk_load (n := 4) H 0 rfl rfl rfl trivial rfl (by kernel_rfl)) rfl rfl rfl ?_; clear E a; intro a E; refine S_eff E rfl (fun K hK => ?_); refine eff_store 1 E H rfl rfl rfl rfl rfl (by repeat (first | exact trivial | refine ⟨rfl, ?_⟩ | refine ⟨fun _ _ => rfl, ?_⟩)) rfl (by kernel_rfl) rfl ?_; clear H; intro w H _; replace H : Sep _ _ _ _ [_, _, _] _ := H; refine hK _ _ ?_; clear hK K; refine S_put0 rfl ?_; refine hK37 _ _ ?_; refine wp_seq_k fun K38 hK38 => ?_; refine S_region ?_; refine S_val E (pk_load (n := 4) H 1 rfl rfl rfl trivial rfl (by kernel_rfl)) rfl rfl rfl ?_; clear E a; intro a E; refine S_eff E rfl (fun K hK => ?_); refine eff_call E rfl rfl rfl (by kernel_rfl) ?_
                  refine (Check_yes (ep := s2.ep) (log := s2.log) (wait := s2.wait) (nx := s2.nx) hI2.ok H.xk (by exact H.fact 0 rfl) (by exact H.fact 1 rfl)).mono ?_; rintro e w ⟨rfl, H1⟩
                  replace H := H.call H1
                  clear H1; replace H : Sep _ _ _ _ [_, _, _] [_, _, _, _, _, _, _, _, _] := H; refine hK _ _ ?_; clear hK K; refine S_put E rfl rfl ?_; clear E a; intro a E; refine S_val E (pk_int (v := .bool false) rfl rfl rfl (by rfl)) rfl rfl rfl ?_; clear E a; intro a E; refine S_val E (pk_move rfl rfl) rfl rfl rfl ?_; clear E a; intro a E; refine S_val E (pk_fieldAddr (off := 0) rfl rfl (by kernel_rfl)) rfl rfl rfl ?_; clear E a; intro a E; refine S_val E (pk_load1 H 1 rfl rfl rfl trivial rfl (by kernel_rfl)) rfl rfl rfl ?_; clear E a; intro a E; refine S_val E (pk_move rfl rfl) rfl rfl rfl ?_; clear E a; intro a E; refine S_val E (pk_len rfl rfl (by kernel_rfl)) rfl rfl rfl ?_; clear E a; intro a E; refine S_val E (pk_convw rfl rfl (by kernel_rfl) (by kernel_rfl) (wU64 (by omega) (by rw [hln]; omega))) rfl rfl rfl ?_; clear E a; intro a E
                  refine S_val E (pk_int rfl rfl rfl rfl) rfl rfl rfl ?_; clear E a; intro a E
                  rw [show (s2.ep != ((ds.length : Nat) : Int)) = false from by rw [bne_eq_false_iff_eq, hln]; exact hOK2.1] at E
                  refine S_val E (pk_pick rfl rfl rfl) rfl rfl rfl ?_; clear E a; intro a E; refine S_val E (pk_move rfl rfl) rfl rfl rfl ?_; clear E a; intro a E; refine S_val E (pk_fieldAddr (off := 1) rfl rfl (by kernel_rfl)) rfl rfl rfl ?_; clear E a; intro a E; refine S_val E (pk_load1 H 1 rfl rfl rfl trivial rfl (by kernel_rfl)) rfl rfl rfl ?_; clear E a; intro a E; refine S_val E (pk_move rfl rfl) rfl rfl rfl ?_; clear E a; intro a E; refine S_eff E rfl (fun K hK => ?_); refine eff_call E rfl rfl rfl (by kernel_rfl) ?_
                  obtain ⟨mz, HZ⟩ := (H.at_ 2 _ rfl).freezeL (xs := s2.log) rfl (by simp) hdm
                  refine (RSameAll_want hln HZ.xk (by first | exact HZ.fact 0 rfl | exact HZ.fact 1 rfl | exact HZ.fact 2 rfl | exact HZ.fact 3 rfl | exact HZ.fact 4 rfl | exact HZ.fact 5 rfl | exact HZ.fact 6 rfl | exact HZ.fact 7 rfl | exact HZ.fact 8 rfl | exact HZ.fact 9 rfl | exact HZ.fact 10 rfl) (by first | exact HZ.fact 0 rfl | exact HZ.fact 1 rfl | exact HZ.fact 2 rfl | exact HZ.fact 3 rfl | exact HZ.fact 4 rfl | exact HZ.fact 5 rfl | exact HZ.fact 6 rfl | exact HZ.fact 7 rfl | exact HZ.fact 8 rfl | exact HZ.fact 9 rfl | exact HZ.fact 10 rfl)).mono ?_; rintro e w ⟨rfl, H1⟩
                  have F := H1.frm
                  replace H := H.grow F
                  refine hK _ _ ?_; clear hK K; refine S_put E rfl rfl ?_; clear E a; intro a E; clear F; clear HZ; refine S_val E (pk_not rfl rfl) rfl rfl rfl ?_; clear E a; intro a E; refine S_val E (pk_pick rfl rfl rfl) rfl rfl rfl ?_; clear E a; intro a E; refine S_val E (pk_move rfl rfl) rfl rfl rfl ?_; clear E a; intro a E; refine S_val E (pk_fieldAddr (off := 2) rfl rfl (by kernel_rfl)) rfl rfl rfl ?_; clear E a; intro a E; refine S_val E (pk_load1 H 1 rfl rfl rfl trivial rfl (by kernel_rfl)) rfl rfl rfl ?_; clear E a; intro a E; refine S_val E (pk_len rfl rfl (by kernel_rfl)) rfl rfl rfl ?_; clear E a; intro a E; refine S_val E (pk_move rfl rfl) rfl rfl rfl ?_; clear E a; intro a E; refine S_val E (pk_int rfl rfl rfl rfl) rfl rfl rfl ?_; clear E a; intro a E
                  rw [show (((s2.wait.length : Nat) : Int) != ((s2.wait.length : Nat) : Int)) = false from by simp] at E
                  refine S_val E (pk_pick rfl rfl rfl) rfl rfl rfl ?_; clear E a; intro a E; refine S_val E (pk_move rfl rfl) rfl rfl rfl ?_; clear E a; intro a E; refine S_val E (pk_fieldAddr (off := 3) rfl rfl (by kernel_rfl)) rfl rfl rfl ?_; clear E a; intro a E; refine S_val E (pk_load1 H 1 rfl rfl rfl trivial rfl (by kernel_rfl)) rfl rfl rfl ?_; clear E a; intro a E; refine S_val E (pk_move rfl rfl) rfl rfl rfl ?_; clear E a; intro a E; refine S_val E (pk_int rfl rfl rfl rfl) rfl rfl rfl ?_; clear E a; intro a E
                  rw [show (s2.nx != ((s2.wait.length : Nat) : Int)) = false from by rw [bne_eq_false_iff_eq]; exact hI2.nx] at E
                  refine S_val E (pk_pick rfl rfl rfl) rfl rfl rfl ?_; clear E a; intro a E; refine hK38 _ _ ?_; refine S_else E rfl ?_; refine wp_skip ?_; refine hK17 _ _ ?_; refine S_region ?_; refine S_val E (pk_intw rfl rfl rfl rfl (wI64 (by omega) (by omega))) rfl rfl rfl ?_; clear E a; intro a E; refine S_val E (pk_move rfl rfl) rfl rfl rfl ?_; clear E a; intro a E
                  replace H := (H.refacts (List.forall_mem_cons.2 ⟨H.fact 0 rfl, List.forall_mem_cons.2 ⟨H.fact 1 rfl, List.forall_mem_cons.2 ⟨H.fact 5 rfl, List.forall_mem_cons.2 ⟨H.fact 6 rfl, List.forall_mem_cons.2 ⟨H.fact 7 rfl, List.forall_mem_cons.2 ⟨H.fact 8 rfl, List.forall_mem_nil _⟩⟩⟩⟩⟩⟩)).popL
                  refine loop_end ?_
                  exact ⟨(i + 1, s2, (LA2, lc2, lm2), (WA2, wc2, wm2), (gA, gc, ds)), ⟨E.to (by repeat (first | exact trivial | refine ⟨rfl, ?_⟩)), H, ⟨by show i + 1 ≤ es.length; omega, hI2, hdm⟩⟩, by show es.length - (i + 1) < es.length - i; omega⟩
          · skip
            clear E; intro c50 E
            have hk : ¬ i < es.length := by simpa using c50
            refine S_else E rfl ?_; refine wp_exit ?_
            repeat (first | refine then_exit ?_ | refine block_hit ?_ | refine block_miss (by decide) ?_)
            refine hK13 _ _ ?_; refine wp_seq_k fun K39 hK39 => ?_; refine wp_seq_k fun K40 hK40 => ?_; refine S_region ?_; refine S_val E (pk_fieldAddr (off := 1) rfl rfl (by kernel_rfl)) rfl rfl rfl ?_; clear E a; intro a E; refine S_val E (pk_load1 H 0 rfl rfl rfl trivial rfl (by kernel_rfl)) rfl rfl rfl ?_; clear E a; intro a E; refine S_val E (pk_len rfl rfl (by kernel_rfl)) rfl rfl rfl ?_; clear E a; intro a E; refine S_val E (pk_move rfl rfl) rfl rfl rfl ?_; clear E a; intro a E; refine hK40 _ _ ?_; refine wp_block ?_; refine S_loopK (γ := Nat) [7, 8, 132, 133] (fun k => [(134, .int .i64 (k : Int))]) (fun k => k ≤ s.log.length) (fun k => s.log.length - k) (0) E H (by repeat (first | exact trivial | refine ⟨rfl, ?_⟩)) (Nat.zero_le _) ?_; clear E H; intro k a w E H hφ; replace E : Env a _ [(134, _), (7, _), (8, _), (132, _), (133, _)] := E
            replace H : Sep _ _ _ _ [_, _] [_, _, _, _, _, _] := H; refine wp_seq_k fun K41 hK41 => ?_; refine S_region ?_; refine S_val E (pk_int rfl rfl rfl rfl) rfl rfl rfl ?_; clear E a; intro a E; refine hK41 _ _ ?_; refine wp_seq_k fun K42 hK42 => ?_; refine env_split (d := 135) E rfl ?_ ?_
            · skip
              clear E; intro c135 E
              have hk2 : k < s.log.length := by simpa using c135
              have hx0 : s.log[k]? = some s.log[k] := List.getElem?_eq_getElem hk2
              obtain ⟨hcm, hce⟩ := kind_cm (hI.logs k _ hx0).1
              have hee := (hI.logs k _ hx0).2
              have hOK := okS_of hI.ok
              refine S_then E rfl ?_; refine wp_skip ?_; refine hK42 _ _ ?_; refine wp_seq_k fun K43 hK43 => ?_; refine wp_block ?_; refine wp_seq_k fun K44 hK44 => ?_; refine S_region ?_; refine S_val E (pk_move rfl rfl) rfl rfl rfl ?_; clear E a; intro a E
              obtain ⟨ad137, hA137, hc137, hn137⟩ := LiF.get (A := LA1) (T := TextT) (i := k) (x := s.log[k]) (by exact H.fact 0 rfl) hx0
              refine S_val E (pk_elA (sz := 1) hA137 rfl (by kernel_rfl) rfl rfl rfl (by omega)) rfl rfl rfl ?_; clear E a; intro a E
              replace H := (H.know hn137).know hc137
              clear hn137 hc137; replace H : Sep _ _ _ _ _ [_, _, _, _, _, _, _, _] := H; refine S_val E (pk_loadE1 (H.fact 0 rfl) (fun _ _ _ => trivial) rfl rfl rfl (by kernel_rfl)) rfl rfl rfl ?_; clear E a; intro a E; refine S_val E (pk_assign rfl rfl) rfl rfl rfl ?_; clear E a; intro a E; refine S_val E (pk_assign rfl rfl) rfl rfl rfl ?_; clear E a; intro a E; refine hK44 _ _ ?_; refine wp_seq_k fun K45 hK45 => ?_; refine S_region ?_; refine S_val E (pk_move rfl rfl) rfl rfl rfl ?_; clear E a; intro a E; refine S_eff E rfl (fun K hK => ?_); refine eff_call E rfl rfl rfl (by kernel_rfl) ?_; refine (readCommit_sep H.xk (by exact H.fact 1 rfl)).mono ?_; rintro e w ⟨at4, rfl, hok4, H1⟩
              replace H := H.call H1
              clear H1; replace H : Sep _ _ _ _ [_, _] [_, _, _, _, _, _, _, _] := H; refine hK _ _ ?_; clear hK K; refine S_put E rfl rfl ?_; clear E a; intro a E; refine S_val E (pk_move rfl rfl) rfl rfl rfl ?_; clear E a; intro a E; refine S_val E (pk_extract rfl rfl rfl) rfl rfl rfl ?_; clear E a; intro a E; refine S_val E (pk_extract rfl rfl rfl) rfl rfl rfl ?_; clear E a; intro a E; refine S_eff E rfl (fun K hK => ?_); refine eff_alloc (z := [.one (.int .u64 0), .one (.int .i64 0), .one (.slice none 0 0), .key [], .one (.slice none 0 0), .one (.slice none 0 0), .one (.slice none 0 0), .key []]) H rfl (by kernel_rfl) ?_; clear H; intro b20 w H _; refine hK _ _ ?_; clear hK K; refine S_put E rfl rfl ?_; clear E a; intro a E; refine S_eff E rfl (fun K hK => ?_)
              refine eff_store 0 E H rfl rfl rfl rfl rfl (by repeat (first | exact trivial | refine ⟨rfl, ?_⟩ | refine ⟨fun _ _ => rfl, ?_⟩)) rfl (by kernel_rfl) rfl ?_; clear H; intro w H _; replace H : Sep _ _ _ _ [_, _, _] _ := H; refine hK _ _ ?_; clear hK K; refine S_put0 rfl ?_; refine S_val E (pk_assign rfl rfl) rfl rfl rfl ?_; clear E a; intro a E; refine hK45 _ _ ?_; refine wp_seq_k fun K46 hK46 => ?_; refine S_region ?_; refine S_val E (pk_move rfl rfl) rfl rfl rfl ?_; clear E a; intro a E; refine S_val E (pk_int rfl rfl rfl rfl) rfl rfl rfl ?_; clear E a; intro a E
              rw [show ((cmV s.log[k]).2 != 0) = false from by rw [hcm]; rfl] at E
              refine S_val E (pk_move rfl rfl) rfl rfl rfl ?_; clear E a; intro a E; refine S_val E (pk_fieldAddr (off := 0) rfl rfl (by kernel_rfl)) rfl rfl rfl ?_; clear E a; intro a E; refine S_val E (pk_load1 H 0 rfl rfl rfl trivial rfl (by kernel_rfl)) rfl rfl rfl ?_; clear E a; intro a E; refine S_val E (pk_move rfl rfl) rfl rfl rfl ?_; clear E a; intro a E; refine S_val E (pk_convw rfl rfl (by kernel_rfl) (by kernel_rfl) (wU64 (by omega) (by omega))) rfl rfl rfl ?_; clear E a; intro a E; refine S_val E (pk_int (v := .bool false) rfl rfl rfl (congrArg (fun b => some (Value.bool b)) (show ((((cmV s.log[k]).1.ep : Nat) : Int) != ((k : Nat) : Int)) = false from by rw [bne_eq_false_iff_eq, ← hce, hee]))) rfl rfl rfl ?_; clear E a; intro a E; refine S_val E (pk_pick rfl rfl rfl) rfl rfl rfl ?_; clear E a; intro a E; refine hK46 _ _ ?_; refine S_else E rfl ?_; refine wp_skip ?_
              refine hK43 _ _ ?_; refine S_region ?_; refine S_val E (pk_intw rfl rfl rfl rfl (wI64 (by omega) (by omega))) rfl rfl rfl ?_; clear E a; intro a E; refine S_val E (pk_move rfl rfl) rfl rfl rfl ?_; clear E a; intro a E; refine loop_end ?_
              exact ⟨k + 1, ⟨E.to (by repeat (first | exact trivial | refine ⟨rfl, ?_⟩)), H.popL.pop.pop, by omega⟩, by omega⟩
            · skip
              clear E; intro c135 E
              have hk2 : ¬ k < s.log.length := by simpa using c135
              refine S_else E rfl ?_; refine wp_exit ?_
              repeat (first | refine then_exit ?_ | refine block_hit ?_ | refine block_miss (by decide) ?_)
              refine hK39 _ _ ?_; refine wp_seq_k fun K47 hK47 => ?_; refine wp_seq_k fun K48 hK48 => ?_; refine S_region ?_; refine S_val E (pk_fieldAddr (off := 2) rfl rfl (by kernel_rfl)) rfl rfl rfl ?_; clear E a; intro a E; refine S_val E (pk_load1 H 0 rfl rfl rfl trivial rfl (by kernel_rfl)) rfl rfl rfl ?_; clear E a; intro a E; refine S_val E (pk_len rfl rfl (by kernel_rfl)) rfl rfl rfl ?_; clear E a; intro a E; refine S_val E (pk_move rfl rfl) rfl rfl rfl ?_; clear E a; intro a E; refine hK48 _ _ ?_; refine wp_block ?_; refine S_loopK (γ := Nat) [7, 155, 156] (fun k => [(157, .int .i64 (k : Int))]) (fun k => k ≤ s.wait.length) (fun k => s.wait.length - k) (0) E H (by repeat (first | exact trivial | refine ⟨rfl, ?_⟩)) (Nat.zero_le _) ?_; clear E H; intro k a w E H hφ; replace E : Env a _ [(157, _), (7, _), (155, _), (156, _)] := E
              replace H : Sep _ _ _ _ [_, _] [_, _, _, _, _, _] := H; refine wp_seq_k fun K49 hK49 => ?_; refine S_region ?_; refine S_val E (pk_int rfl rfl rfl rfl) rfl rfl rfl ?_; clear E a; intro a E; refine hK49 _ _ ?_; refine wp_seq_k fun K50 hK50 => ?_; refine env_split (d := 158) E rfl ?_ ?_
              · skip
                clear E; intro c158 E
                have hk2 : k < s.wait.length := by simpa using c158
                have hx0 : s.wait[k]? = some s.wait[k] := List.getElem?_eq_getElem hk2
                have hno := hI.waits k _ hx0
                have hOK := okS_of hI.ok
                refine S_then E rfl ?_; refine wp_skip ?_; refine hK50 _ _ ?_; refine wp_seq_k fun K51 hK51 => ?_; refine wp_block ?_; refine wp_seq_k fun K52 hK52 => ?_; refine S_region ?_; refine S_val E (pk_move rfl rfl) rfl rfl rfl ?_; clear E a; intro a E
                obtain ⟨ad160, hA160, hc160, hn160⟩ := LiF.get (A := WA1) (T := LtrT) (i := k) (x := s.wait[k]) (by exact H.fact 1 rfl) hx0
                refine S_val E (pk_elA (sz := 3) hA160 rfl (by kernel_rfl) rfl rfl rfl (by omega)) rfl rfl rfl ?_; clear E a; intro a E
                replace H := (H.know hn160).know hc160
                clear hn160 hc160; replace H : Sep _ _ _ _ _ [_, _, _, _, _, _, _, _] := H; refine S_val E (pk_loadE (n := 3) (H.fact 0 rfl) (fun _ _ _ => trivial) rfl rfl rfl (by kernel_rfl)) rfl rfl rfl ?_; clear E a; intro a E; refine S_eff E rfl (fun K hK => ?_); refine eff_alloc (z := [.one (.int .i64 0), .one (.int .i64 0), .one (.slice none 0 0)]) H rfl (by kernel_rfl) ?_; clear H; intro b23 w H _; refine hK _ _ ?_; clear hK K; refine S_put E rfl rfl ?_; clear E a; intro a E; refine S_val E (pk_assign rfl rfl) rfl rfl rfl ?_; clear E a; intro a E; refine S_eff E rfl (fun K hK => ?_); refine eff_store 0 E H rfl rfl rfl rfl rfl (by repeat (first | exact trivial | refine ⟨rfl, ?_⟩ | refine ⟨fun _ _ => rfl, ?_⟩)) rfl (by kernel_rfl) rfl ?_; clear H; intro w H _; replace H : Sep _ _ _ _ [_, _, _] _ := H; refine hK _ _ ?_; clear hK K; refine S_put0 rfl ?_; refine hK52 _ _ ?_
                refine wp_seq_k fun K53 hK53 => ?_; refine S_region ?_; refine S_val E (pk_fieldAddr (off := 0) rfl rfl (by kernel_rfl)) rfl rfl rfl ?_; clear E a; intro a E; refine S_val E (pk_load1 H 0 rfl rfl rfl trivial rfl (by kernel_rfl)) rfl rfl rfl ?_; clear E a; intro a E; refine S_val E (pk_move rfl rfl) rfl rfl rfl ?_; clear E a; intro a E; refine S_val E (pk_int rfl rfl rfl rfl) rfl rfl rfl ?_; clear E a; intro a E
                rw [show (s.wait[k].no != ((k : Nat) : Int)) = false from by rw [bne_eq_false_iff_eq]; exact hno] at E
                refine hK53 _ _ ?_; refine S_else E rfl ?_; refine wp_skip ?_; refine hK51 _ _ ?_; refine S_region ?_; refine S_val E (pk_intw rfl rfl rfl rfl (wI64 (by omega) (by omega))) rfl rfl rfl ?_; clear E a; intro a E; refine S_val E (pk_move rfl rfl) rfl rfl rfl ?_; clear E a; intro a E; refine loop_end ?_
                exact ⟨k + 1, ⟨E.to (by repeat (first | exact trivial | refine ⟨rfl, ?_⟩)), H.popL.pop.pop, by omega⟩, by omega⟩
              · skip
                clear E; intro c158 E
                have hk2 : ¬ k < s.wait.length := by simpa using c158
                refine S_else E rfl ?_; refine wp_exit ?_
                repeat (first | refine then_exit ?_ | refine block_hit ?_ | refine block_miss (by decide) ?_)
                refine hK47 _ _ ?_; refine wp_seq_k fun K54 hK54 => ?_; refine S_region ?_; refine S_val E (pk_move rfl rfl) rfl rfl rfl ?_; clear E a; intro a E; refine S_val E (pk_assign rfl rfl) rfl rfl rfl ?_; clear E a; intro a E; refine hK54 _ _ ?_; refine wp_ret ?_
                repeat (first | refine then_ret ?_ | refine block_ret ?_)
                refine ret1 rfl E (resT rfl) ?_
                exact ⟨rfl, H.keepLR (L := []) (R := [])⟩
end Go.Proofs.Yteefhbpmeajbfaa
namespace Go.Proofs.Yteefhbpmeajbfaa
set_option linter.unusedSimpArgs false
set_option linter.unusedVariables false
open Go.ChangeShapes Go.WideShapes Go.ChangeAt Go.RowKit

section
variable {H : Type} {enc : TypeId × Value → H} {P : Program} {w : World} {base : Nat} {spare : Nat → Bool} {held : Bool} {t e : TypeId} {v : Value} {d : DataW H} {p : List MemPlace} {r : Reach}
end
theorem wfb_u8 {n : Int} (h : (Lit.int .u8 n).wf = true) : 0 ≤ n ∧ n < 256 := by
  simp [Lit.wf, IntKind.min, IntKind.max, IntKind.signed, IntKind.bits] at h
  omega
end Go.Proofs.Yteefhbpmeajbfaa
namespace Go.Proofs.Yteefhbpmeajbfaa
set_option linter.unusedSimpArgs false
set_option linter.unusedVariables false
open Go.ChangeShapes Go.WideShapes Go.ChangeAt Go.RowKit

section
variable {H : Type} {enc : TypeId × Value → H} {P : Program} {w : World} {base : Nat} {spare : Nat → Bool} {held : Bool} {t e : TypeId} {v : Value} {fuel : Nat} {x : DataW H × List MemPlace}
/-- A text that comes in. -/
theorem open_txt (hT : ByteT P t e) (hc : P.cellsOf e = 1) (h : DataW.trod enc P w base spare held fuel t [v] = some x) :
    ∃ (A : Option Addr) (n c : Nat) (m : List Nat), v = .slice A n c ∧ n ≤ 9223372036854775807 ∧ Txt w w.heap.size A n c m ∧ ∀ y ∈ m, y < 256 := by
  rcases Go.ChangeShapes.open_ints hT.sl hT.el hc h with ⟨h1, _⟩ | ⟨a, len, cap, zs, h1, hb, hl, hm, hz, _, hcell, hwf⟩
  · exact ⟨none, 0, 0, [], by simpa using h1, by omega, Txt.nil_, by simp⟩
  · have hle : len ≤ zs.length := by rw [hz]; split <;> omega
    have hw : ∀ n ∈ zs, 0 ≤ n ∧ n < 256 := fun n hn => wfb_u8 (hwf n hn)
    have hm' : cap ≤ 9223372036854775807 := hm
    refine ⟨some a, len, cap, (zs.take len).map Int.toNat, by simpa using h1, by omega, ⟨by simp; omega, (fun he => by cases he), fun hn => ?_⟩, ?_⟩
    · refine ⟨a, rfl, ?_, fun i y hy => ?_⟩
      · have h0 := World.block_lt_of_cell? _ _ (hcell 0 (by omega))
        rwa [add_block] at h0
      · rw [List.getElem?_map, Option.map_eq_some_iff] at hy
        obtain ⟨z, hz1, rfl⟩ := hy
        have hi : i < len := by
          have := (List.getElem?_eq_some_iff.1 hz1).1
          simp at this
          omega
        rw [List.getElem?_take_of_lt hi] at hz1
        have hz2 := hw z (List.mem_of_getElem? hz1)
        rw [hcell i (by omega), List.getD_eq_getElem?_getD, hz1]
        unfold bv
        rw [Int.toNat_of_nonneg hz2.1]
        rfl
    · intro y hy
      obtain ⟨z, hz1, rfl⟩ := List.mem_map.1 hy
      have := hw z (List.mem_of_mem_take hz1)
      omega
end
end Go.Proofs.Yteefhbpmeajbfaa
namespace Go.Proofs.Yteefhbpmeajbfaa
set_option linter.unusedSimpArgs false
set_option linter.unusedVariables false
open Go.ChangeShapes Go.WideShapes Go.ChangeAt Go.RowKit

/-- No part weighs more than memory holds. -/
def Light {H : Type} (P : Program) (t : TypeId) (d : DataW H) : Prop := ∀ n ∈ d.weights P t, n ≤ reachBytes
theorem light_of {H : Type} {P : Program} {ts : List TypeId} {ds : List (DataW H)} (hz : (DataW.weightsEach P ts ds).all (· ≤ reachBytes) = true) {j : Nat} {t : TypeId} {d : DataW H} (ht : ts[j]? = some t) (hd : ds[j]? = some d) : Light P t d := fun n hn => by
  have := List.all_eq_true.1 hz n (DataW.weights_mem_each ht hd n hn)
  simpa using this
/-- What a type's data come to. -/
def Opn (P : Program) (t : TypeId) (φ : List Value → World → Prop) : Prop :=
  ∀ (H : Type) (enc : TypeId × Value → H) (w : World) (base : Nat) (spare : Nat → Bool) (held : Bool) (fuel : Nat) (x : DataW H × List MemPlace) (cs : List Value), DataW.trod enc P w base spare held fuel t cs = some x → Light P t x.1 → φ cs w
theorem Opn.imp {P : Program} {t : TypeId} {φ ψ : List Value → World → Prop} (o : Opn P t φ) (h : ∀ cs w, φ cs w → ψ cs w) : Opn P t ψ := fun H enc w base spare held fuel x cs h1 h2 => h cs w (o H enc w base spare held fuel x cs h1 h2)
theorem weights_mem_all {H : Type} {P : Program} {e : TypeId} : ∀ {ds : List (DataW H)} {d : DataW H}, d ∈ ds → ∀ n ∈ d.weights P e, n ∈ DataW.weightsAll P e ds
  | d0 :: ds, d, hd, n, hn => by
    rw [DataW.weightsAll, List.mem_append]
    rcases List.mem_cons.1 hd with rfl | hd
    · exact .inl hn
    · exact .inr (weights_mem_all hd n hn)
theorem cell_keep {w w' : World} {p : Addr} {u : Value} (hk : ∀ k, k < w.heap.size → k ∉ ([] : List Nat) → w'.heap[k]? = w.heap[k]?) (h : w.cell? p = some u) : w'.cell? p = some u := by
  rw [← h]
  have := hk _ (World.block_lt_of_cell? _ _ h) (by simp)
  unfold World.cell?
  rw [this]
section
variable {P : Program} {t e : TypeId}
theorem opn_int {k : IntKind} (ht : P.underlying t = some (.int k)) : Opn P t fun cs w => ∃ z : Int, cs = [.int k z] ∧ (Lit.int k z).wf = true := fun H enc w base spare held fuel x cs h _ => by
  obtain ⟨n, h1, _, hw⟩ := DataW.trod_int ht h
  exact ⟨n, h1, hw⟩
theorem opn_txt (hT : ByteT P t e) (hc : P.cellsOf e = 1) (hbt : P.bytesOf e = 1) : Opn P t fun cs w => ∃ A c l, cs = [.slice A l.length c] ∧ St (TxF A c l) w [] := fun H enc w base spare held fuel x cs h hl => by
  obtain ⟨v, rfl⟩ : ∃ v, cs = [v] := by
    rcases DataW.trod_slice hT.sl h with ⟨h1, _⟩ | ⟨a, len, cap, elems, rest, n, _, h1, _⟩
    · exact ⟨_, h1⟩
    · exact ⟨_, h1⟩
  obtain ⟨A, n, c, m, rfl, _, htx, hm⟩ := open_txt hT hc h
  have hn := htx.len
  subst hn
  refine ⟨A, c, m, rfl, txF_of htx ?_ ?_ hm⟩
  · rcases DataW.trod_slice hT.sl h with ⟨h1, _⟩ | ⟨a, len, cap, elems, rest, n, _, h1, _, _, h2, _⟩
    · injection h1 with h1
      injection h1 with _ h1 h3
      omega
    · injection h1 with h1
      injection h1 with _ h1 h3
      omega
  · rcases DataW.trod_slice hT.sl h with ⟨h1, _⟩ | ⟨a, len, cap, elems, rest, n, _, h1, hx, _, h2, _, hlen, _⟩
    · injection h1 with h1
      injection h1 with _ h1 h3
      omega
    · injection h1 with h1
      injection h1 with _ h1 h3
      have := hl ((elems.length + rest.length) * P.bytesOf e) (by rw [hx]; simp [DataW.weights, hT.sl])
      rw [hbt] at this
      have hr : reachBytes < 140737488355328 := by decide
      omega
/-- A slice. -/
theorem opn_slice {α : Type} (T : Ty α) (good : α → Prop) (ht : P.underlying t = some (.slice e)) (hc : P.cellsOf e = T.sz) (o : Opn P e fun cs w => cs.length = T.sz → ∃ v m, cs = cl (T.ch v m) ∧ St (T.nest v m) w [] ∧ good v) :
    Opn P t fun cs w => ∃ A c xs m, cs = [.slice A xs.length c] ∧ St (LiF T A c xs m) w [] ∧ ∀ x ∈ xs, good x := fun H enc w base spare held fuel x cs h hl => by
  rcases DataW.trod_slice ht h with ⟨h1, _⟩ | ⟨a, len, cap, elems, rest, n, _, h1, hx, hb, h2, hm, hlen, hel, _⟩
  · exact ⟨none, 0, [], fun _ => T.dft, h1, liF_nil, fun x hx => by cases hx⟩
  · have key : ∀ i : Fin len, ∃ vm : α × T.μ, (∀ j u, (cl (T.ch vm.1 vm.2))[j]? = some u → w.cell? ((a.add (i.1 * T.sz)).add j) = some u) ∧ St (T.nest vm.1 vm.2) w [] ∧ good vm.1 := fun i => by
      have h3 := hel i.1 i.2
      rw [hc, List.getElem?_eq_getElem (by omega)] at h3
      obtain ⟨c, hcs, htr⟩ := Option.bind_eq_some_iff.1 h3
      obtain ⟨_, hcl, hcell⟩ := World.cells?_some hcs
      obtain ⟨v, m, e1, e2, e3⟩ := o H enc w base spare held n _ _ htr (fun k hk => hl k (by
        rw [hx]
        simp only [DataW.weights, ht, List.mem_cons, List.mem_append]
        exact .inr (.inl (weights_mem_all (List.mem_map.2 ⟨_, List.getElem_mem _, rfl⟩) k hk)))) hcl
      refine ⟨(v, m), fun j u hu => ?_, e2, e3⟩
      have hu' : c[j]? = some u := by rw [e1]; exact hu
      have hj : j < T.sz := by rw [← hcl]; exact (List.getElem?_eq_some_iff.1 hu').1
      rw [← hu']
      exact hcell j hj
    obtain ⟨f, hf⟩ := Classical.axiomOfChoice key
    have hm' : cap ≤ 9223372036854775807 := hm
    refine ⟨some a, cap, List.ofFn fun i => (f i).1, fun i => if h : i < len then (f ⟨i, h⟩).2 else T.dft, by rw [List.length_ofFn]; exact h1, fun w' hk => ?_, fun y hy => ?_⟩
    · refine ⟨by rw [List.length_ofFn]; exact h2, by rw [List.length_ofFn]; omega, fun h => (by cases h), fun ad hA i y hy => ?_⟩
      obtain rfl := Option.some.inj hA
      have hi : i < len := by
        have := (List.getElem?_eq_some_iff.1 hy).1
        rwa [List.length_ofFn] at this
      rw [List.getElem?_ofFn, dif_pos hi] at hy
      obtain rfl := Option.some.inj hy
      rw [dif_pos hi]
      obtain ⟨g1, g2, _⟩ := hf ⟨i, hi⟩
      exact ⟨fun j u hu => cell_keep hk (g1 j u hu), g2 w' hk⟩
    · obtain ⟨i, rfl⟩ := List.mem_ofFn.1 hy
      exact (hf i).2.2
/-- An argument. -/
theorem opn_arg {φ : List Value → World → Prop} (o : Opn P t φ) {H : Type} {enc : TypeId × Value → H} {w : World} {base : Nat} {spare : Nat → Bool} {held : Bool} {v : Value} {d : DataW H} {p : List MemPlace} (h : DataW.Trod enc P w base spare held t v d p) (hl : Light P t d) : φ v.cells.toList w := by
  obtain ⟨fuel, hf⟩ := h
  exact o H enc w base spare held fuel _ _ hf hl
theorem slice_of {A A' : Option Addr} {n n' c c' : Nat} (e : (Value.slice A n c).cells.toList = [.slice A' n' c']) : A = A' ∧ n = n' ∧ c = c' := by
  have e' : [Value.slice A n c] = [.slice A' n' c'] := e
  injection e' with e'
  injection e' with h1 h2 h3
  exact ⟨h1, h2, h3⟩
end
end Go.Proofs.Yteefhbpmeajbfaa
namespace Go.Proofs.Yteefhbpmeajbfaa
set_option linter.unusedSimpArgs false
set_option linter.unusedVariables false
open Go.ChangeShapes Go.WideShapes Go.ChangeAt Go.RowKit

theorem opn_bytes : Opn Try.prog 23 fun cs w => ∃ A c l, cs = [.slice A l.length c] ∧ St (TxF A c l) w [] := opn_txt ⟨Try.underlying23, Try.underlying5, by kernel_rfl⟩ (by kernel_rfl) (by kernel_rfl)
theorem opn_texts : Opn Try.prog 22 fun cs w => ∃ A c xs m, cs = [.slice A xs.length c] ∧ St (LiF TextT A c xs m) w [] ∧ ∀ x ∈ xs, True :=
  opn_slice TextT (fun _ => True) Try.underlying22 (by kernel_rfl) (opn_bytes.imp fun cs w ⟨A, c, l, e, s⟩ _ => ⟨l, (A, c), e, s, trivial⟩)
theorem opn_ints : Opn Try.prog 24 fun cs w => ∃ A c xs m, cs = [.slice A xs.length c] ∧ St (LiF IntT A c xs m) w [] ∧ ∀ x ∈ xs, True :=
  opn_slice IntT (fun _ => True) Try.underlying24 (by kernel_rfl) ((opn_int Try.underlying3).imp fun cs w ⟨z, e, _⟩ _ => ⟨z, (), e, fun _ _ => trivial, trivial⟩)
end Go.Proofs.Yteefhbpmeajbfaa
