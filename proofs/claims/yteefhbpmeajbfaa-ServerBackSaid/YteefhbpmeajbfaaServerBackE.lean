/- The walks of layer 22: what a text is; a text is posted. Slices of slices; an element of an own row is taken out. No program is in sight. The walks of layer 22: letters that are taken, put back, doubled; where the first one is; whether two servers are the same. The walks of the reference's reader: bytes are cut off; a number, a key is read. The walks of layer 22: whether two servers are the same; the reference's functions. The walks of layer 22's reference. The walks of layer 22's reference: a text is posted, a letter taken; whether there are few enough. The walks of layer 22's reference: a letter is taken; whether there are few enough. -/
import Derived.Test.YteefhbpmeajbfaaServerBackD
import Derived.WalkKit
import Derived.WalkSpells
import Derived.WalkLawsBesides
import Derived.Deep.QuietTactic
import Derived.BigQuiet
import Derived.StillTailTactics
import Derived.Lib.Hide
import Derived.Deep.LoopGhost
import Derived.Outline
import Derived.Deep.DeepFit
import Derived.Deep.RegionHeld3
import Derived.Deep.RegionLaw
import Derived.OrdersHeld
import Derived.Laws.StructEq
import Derived.Maps.AppendAt
import Derived.Deep.AppendLies
import Derived.Deep.Draws
import Derived.Laws.OwnMore
import Derived.Laws.AppendOwnNone
import Derived.OwnWalk
import Derived.Below
import Derived.Deep.Cut
import Derived.Deep.CutBlock
import Derived.Deep.CutRange
import Derived.DataElems
import Derived.Great.BuildSlice
import Derived.Laws.Entries
import Derived.Laws.Tables
import Derived.SizedLaws
import Derived.Lib.SliceRun
import Derived.Laws.Small
import Derived.Great.Walk
import Derived.Test.YteefhbpmeajbfaaRows
import Derived.Laws.IdiomStrings
import Derived.Lib.Tables
import Derived.Lib.BitFns
import Derived.Laws.Bits64b
namespace Go.Proofs.Yteefhbpmeajbfaa
set_option linter.unusedSimpArgs false
set_option linter.unusedVariables false
open Go.RowKit
attribute [local irreducible] farB oddB cmV wlV frV
/-- A text's kind, and its epoch. -/
def kindV (t : List Nat) : Int := if (cmV t).2 = 0 then 1 else if (wlV t).2 = 0 then 2 else if (frV t).2 = 0 then 3 else 0
def epV (t : List Nat) : Int := if (cmV t).2 = 0 then (((cmV t).1.ep : Nat) : Int) else 0
def noSrv : Srv := ⟨0, [], [], 0⟩
/-- Letters of a text, numbered. -/
def lettersV (nx : Int) (tos : List Int) (text : List Nat) : List Ltr := tos.mapIdx fun i id => ⟨nx + (i : Int), id, text⟩
/-- What a text that is posted comes to. -/
def postV (s : Srv) (text : List Nat) (tos : List Int) : Srv × Int :=
  if okS s = false ∨ tos.any farB = true then (noSrv, 1)
  else if kindV text = 0 then (noSrv, 3)
  else if kindV text = 1 ∧ epV text ≠ s.ep then (noSrv, 9)
  else if (kindV text = 1 ∧ s.log.length = 2000) ∨ 20000 < s.wait.length + tos.length ∨ 1099511627776 < s.nx + (tos.length : Int) then (noSrv, 8)
  else (⟨if kindV text = 1 then s.ep + 1 else s.ep, if kindV text = 1 then s.log ++ [text] else s.log, s.wait ++ lettersV s.nx tos text, s.nx + (tos.length : Int)⟩, 0)
theorem kindV_ran (t : List Nat) : 0 ≤ kindV t ∧ kindV t ≤ 3 := by
  unfold kindV
  repeat' split
  all_goals omega
theorem okS_of {s : Srv} (h : okS s = true) : s.ep = (s.log.length : Int) ∧ s.log.length ≤ 2000 ∧ s.wait.length ≤ 20000 ∧ 0 ≤ s.nx ∧ s.nx ≤ 1099511627776 ∧ (s.wait.any fun x => oddB s.nx x.no x.rc) = false := by
  simp only [okS, Bool.and_eq_true, decide_eq_true_eq, Bool.not_eq_true'] at h
  obtain ⟨⟨⟨⟨⟨h1, h2⟩, h3⟩, h4⟩, h5⟩, h6⟩ := h
  exact ⟨h1, h2, h3, h4, h5, h6⟩
theorem ok_ne {s : Srv} {b : Bool} (h : ((if okS s then (0 : Int) else 1) != 0) = b) : okS s = !b := by
  cases hq : okS s <;> rw [hq] at h <;> revert h <;> cases b <;> simp
theorem far_sep {x : Int} {X : List Nat} {w0 : World} (hX : ∀ k ∈ X, k < w0.heap.size) : Calls Try.prog 34 #[.int .i64 x] w0 fun e w' => e = .returned (.bool (farB x)) ∧ Sep X [] w0 w' [] [] :=
  (far_any hX).mono fun e w' ⟨h1, h2⟩ => ⟨h1, h2 ▸ Sep.start hX (fun _ h => by cases h)⟩
set_option maxRecDepth 100000 in
set_option maxHeartbeats 4000000 in
theorem read_any {TA : Option Addr} {tc : Nat} {text : List Nat} {X : List Nat} {w0 : World} (hX : ∀ k ∈ X, k < w0.heap.size) (hT : St (TxF TA tc text) w0 X) :
    Calls Try.prog 35 #[.slice TA text.length tc] w0 fun e w' => e = .returned (.tuple #[.int .i64 (kindV text), .int .u64 (epV text)]) ∧ Sep X [] w0 w' [] [] := by
  refine calls_env Try.ntmps35 Try.func35 rfl rfl fun a E => ?_; replace E : Env a _ [(0, _)] := E
  have H : Sep X [] w0 w0 [] [(TxF TA tc text)] := Sep.start hX (List.forall_mem_cons.2 ⟨hT, fun _ h => by cases h⟩)
  refine wp_seq_k fun K0 hK0 => ?_; refine S_region ?_; refine S_val E (pk_assign rfl rfl) rfl rfl rfl ?_; clear E a; intro a E; refine S_val E (pk_assign rfl rfl) rfl rfl rfl ?_; clear E a; intro a E; refine hK0 _ _ ?_; refine wp_seq_k fun K1 hK1 => ?_; refine wp_seq_k fun K2 hK2 => ?_; refine S_region ?_; refine S_val E (pk_move rfl rfl) rfl rfl rfl ?_; clear E a; intro a E; refine S_eff E rfl (fun K hK => ?_); refine eff_call E rfl rfl rfl (by kernel_rfl) ?_; refine (readCommit_sep H.xk (H.fact 0 rfl)).mono ?_; rintro e w ⟨at4, rfl, hok, H1⟩
  replace H := H.call H1
  clear H1; replace H : Sep _ _ _ _ [] [_] := H; refine hK _ _ ?_; clear hK K; refine S_put E rfl rfl ?_; clear E a; intro a E; refine S_val E (pk_move rfl rfl) rfl rfl rfl ?_; clear E a; intro a E; refine S_val E (pk_extract rfl rfl rfl) rfl rfl rfl ?_; clear E a; intro a E; refine S_val E (pk_extract rfl rfl rfl) rfl rfl rfl ?_; clear E a; intro a E; refine S_eff E rfl (fun K hK => ?_); refine eff_alloc (z := [.one (.int .u64 0), .one (.int .i64 0), .one (.slice none 0 0), .key [], .one (.slice none 0 0), .one (.slice none 0 0), .one (.slice none 0 0), .key []]) H rfl (by kernel_rfl) ?_; clear H; intro b4 w H _; refine hK _ _ ?_; clear hK K; refine S_put E rfl rfl ?_; clear E a; intro a E; refine S_eff E rfl (fun K hK => ?_); refine eff_store 0 E H rfl rfl rfl rfl rfl (by repeat (first | exact trivial | refine ⟨rfl, ?_⟩ | refine ⟨fun _ _ => rfl, ?_⟩)) rfl (by kernel_rfl) rfl ?_; clear H
  intro w H _; replace H : Sep _ _ _ _ [_] _ := H; refine hK _ _ ?_; clear hK K; refine S_put0 rfl ?_; refine S_val E (pk_assign rfl rfl) rfl rfl rfl ?_; clear E a; intro a E; refine hK2 _ _ ?_; refine wp_seq_k fun K3 hK3 => ?_; refine S_region ?_; refine S_val E (pk_move rfl rfl) rfl rfl rfl ?_; clear E a; intro a E; refine S_val E (pk_int rfl rfl rfl rfl) rfl rfl rfl ?_; clear E a; intro a E; refine hK3 _ _ ?_; refine env_split (d := 16) E rfl ?_ ?_
  · skip
    clear E; intro c16 E; refine S_then E rfl ?_; refine wp_seq_k fun K4 hK4 => ?_; refine C_region E H [] 3 [(0, false), (1, false), (2, false)] (by kernel_rfl) (by kernel_rfl) (fun w HS => ?_)
    (simp only [canOps, List.getElem?_cons_zero, List.getElem?_cons_succ, List.drop_succ_cons, List.drop_zero])
    clear H
    have H := HS
    have hsz : w.heap.size ≤ w.heap.size := Nat.le_refl _
    have HK : CanB.Keep (fun k => k < w.heap.size ∧ k ∉ []) w w := CanB.Keep.refl _ _
    refine C_val E HK (pk_fieldAddr (off := 0) rfl rfl (by kernel_rfl)) rfl rfl rfl (fun _ _ _ _ h => h) ?_; clear E a; intro a E; refine C_val E HK (pk_load1 HS 0 rfl rfl rfl (HS.inS 0 rfl (by simp)) rfl (by kernel_rfl)) rfl rfl rfl (fun _ _ _ _ h => h) ?_; clear E a; intro a E; refine C_val E HK (pk_assign rfl rfl) rfl rfl rfl (fun _ _ _ _ h => h) ?_; clear E a; intro a E; refine CanB.wpCan_nil ?_
    try (simp only [List.take_succ_cons, List.take_zero, List.drop_succ_cons, List.drop_zero])
    clear HS HK hsz; refine S_val E (pk_assign rfl rfl) rfl rfl rfl ?_; clear E a; intro a E; refine hK4 _ _ ?_; refine wp_ret ?_
    repeat (first | refine then_ret ?_ | refine block_ret ?_)
    refine ret2 rfl E (resT rfl) (resT rfl) ?_
    have c := eq_of_beq c16
    exact ⟨by unfold kindV epV; rw [if_pos c, if_pos c]; rfl, H.keepLR (L := []) (R := [])⟩
  · skip
    clear E; intro c16 E; refine S_else E rfl ?_; refine wp_skip ?_; refine hK1 _ _ ?_; refine wp_seq_k fun K5 hK5 => ?_; refine wp_seq_k fun K6 hK6 => ?_; refine S_region ?_; refine S_val E (pk_move rfl rfl) rfl rfl rfl ?_; clear E a; intro a E; refine S_eff E rfl (fun K hK => ?_); refine eff_call E rfl rfl rfl (by kernel_rfl) ?_; refine (readWelcome_sep H.xk (H.fact 0 rfl)).mono ?_; rintro e w ⟨wA, wc, rfl, H1⟩
    replace H := H.call H1
    clear H1; replace H : Sep _ _ _ _ [_] [_] := H; refine hK _ _ ?_; clear hK K; refine S_put E rfl rfl ?_; clear E a; intro a E; refine S_val E (pk_move rfl rfl) rfl rfl rfl ?_; clear E a; intro a E; refine S_val E (pk_extract rfl rfl rfl) rfl rfl rfl ?_; clear E a; intro a E; refine S_val E (pk_extract rfl rfl rfl) rfl rfl rfl ?_; clear E a; intro a E; refine S_eff E rfl (fun K hK => ?_); refine eff_alloc (z := [.one (.int .i64 0), .one (.slice none 0 0), .one (.slice none 0 0), .one (.slice none 0 0)]) H rfl (by kernel_rfl) ?_; clear H; intro b6 w H _; refine hK _ _ ?_; clear hK K; refine S_put E rfl rfl ?_; clear E a; intro a E; refine S_eff E rfl (fun K hK => ?_); refine eff_store 0 E H rfl rfl rfl rfl rfl (by repeat (first | exact trivial | refine ⟨rfl, ?_⟩ | refine ⟨fun _ _ => rfl, ?_⟩)) rfl (by kernel_rfl) rfl ?_; clear H; intro w H _; replace H : Sep _ _ _ _ [_, _] _ := H
    refine hK _ _ ?_; clear hK K; refine S_put0 rfl ?_; refine S_val E (pk_assign rfl rfl) rfl rfl rfl ?_; clear E a; intro a E; refine hK6 _ _ ?_; refine wp_seq_k fun K7 hK7 => ?_; refine S_region ?_; refine S_val E (pk_move rfl rfl) rfl rfl rfl ?_; clear E a; intro a E; refine S_val E (pk_int rfl rfl rfl rfl) rfl rfl rfl ?_; clear E a; intro a E; refine hK7 _ _ ?_; refine env_split (d := 25) E rfl ?_ ?_
    · skip
      clear E; intro c25 E; refine S_then E rfl ?_; refine wp_seq_k fun K8 hK8 => ?_; refine S_region ?_; refine S_val E (pk_assign rfl rfl) rfl rfl rfl ?_; clear E a; intro a E; refine S_val E (pk_assign rfl rfl) rfl rfl rfl ?_; clear E a; intro a E; refine hK8 _ _ ?_; refine wp_ret ?_
      repeat (first | refine then_ret ?_ | refine block_ret ?_)
      refine ret2 rfl E (resT rfl) (resT rfl) ?_
      have c := ne_of_beq_false c16
      have d := eq_of_beq c25
      exact ⟨by unfold kindV epV; rw [if_neg c, if_pos d, if_neg c], H.keepLR (L := []) (R := [])⟩
    · skip
      clear E; intro c25 E; refine S_else E rfl ?_; refine wp_skip ?_; refine hK5 _ _ ?_; refine wp_seq_k fun K9 hK9 => ?_; refine wp_seq_k fun K10 hK10 => ?_; refine S_region ?_; refine S_val E (pk_move rfl rfl) rfl rfl rfl ?_; clear E a; intro a E; refine S_eff E rfl (fun K hK => ?_); refine eff_call E rfl rfl rfl (by kernel_rfl) ?_; refine (readFrame_sep H.xk (H.fact 0 rfl)).mono ?_; rintro e w ⟨fA, fc, rfl, H1⟩
      replace H := H.call H1
      clear H1; replace H : Sep _ _ _ _ [_, _] [_] := H; refine hK _ _ ?_; clear hK K; refine S_put E rfl rfl ?_; clear E a; intro a E; refine S_val E (pk_move rfl rfl) rfl rfl rfl ?_; clear E a; intro a E; refine S_val E (pk_extract rfl rfl rfl) rfl rfl rfl ?_; clear E a; intro a E; refine S_val E (pk_extract rfl rfl rfl) rfl rfl rfl ?_; clear E a; intro a E; refine S_eff E rfl (fun K hK => ?_); refine eff_alloc (z := [.one (.int .u64 0), .one (.int .i64 0), .one (.int .u64 0), .one (.slice none 0 0)]) H rfl (by kernel_rfl) ?_; clear H; intro b8 w H _; refine hK _ _ ?_; clear hK K; refine S_put E rfl rfl ?_; clear E a; intro a E; refine S_eff E rfl (fun K hK => ?_); refine eff_store 0 E H rfl rfl rfl rfl rfl (by repeat (first | exact trivial | refine ⟨rfl, ?_⟩ | refine ⟨fun _ _ => rfl, ?_⟩)) rfl (by kernel_rfl) rfl ?_; clear H; intro w H _; replace H : Sep _ _ _ _ [_, _, _] _ := H
      refine hK _ _ ?_; clear hK K; refine S_put0 rfl ?_; refine S_val E (pk_assign rfl rfl) rfl rfl rfl ?_; clear E a; intro a E; refine hK10 _ _ ?_; refine wp_seq_k fun K11 hK11 => ?_; refine S_region ?_; refine S_val E (pk_move rfl rfl) rfl rfl rfl ?_; clear E a; intro a E; refine S_val E (pk_int rfl rfl rfl rfl) rfl rfl rfl ?_; clear E a; intro a E; refine hK11 _ _ ?_; refine env_split (d := 32) E rfl ?_ ?_
      · skip
        clear E; intro c32 E; refine S_then E rfl ?_; refine wp_seq_k fun K12 hK12 => ?_; refine S_region ?_; refine S_val E (pk_assign rfl rfl) rfl rfl rfl ?_; clear E a; intro a E; refine S_val E (pk_assign rfl rfl) rfl rfl rfl ?_; clear E a; intro a E; refine hK12 _ _ ?_; refine wp_ret ?_
        repeat (first | refine then_ret ?_ | refine block_ret ?_)
        refine ret2 rfl E (resT rfl) (resT rfl) ?_
        have c := ne_of_beq_false c16
        have d := ne_of_beq_false c25
        have f := eq_of_beq c32
        exact ⟨by unfold kindV epV; rw [if_neg c, if_neg d, if_pos f, if_neg c], H.keepLR (L := []) (R := [])⟩
      · skip
        clear E; intro c32 E; refine S_else E rfl ?_; refine wp_skip ?_; refine hK9 _ _ ?_; refine wp_seq_k fun K13 hK13 => ?_; refine S_region ?_; refine S_val E (pk_assign rfl rfl) rfl rfl rfl ?_; clear E a; intro a E; refine S_val E (pk_assign rfl rfl) rfl rfl rfl ?_; clear E a; intro a E; refine hK13 _ _ ?_; refine wp_ret ?_
        repeat (first | refine then_ret ?_ | refine block_ret ?_)
        refine ret2 rfl E (resT rfl) (resT rfl) ?_
        have c := ne_of_beq_false c16
        have d := ne_of_beq_false c25
        have f := ne_of_beq_false c32
        exact ⟨by unfold kindV epV; rw [if_neg c, if_neg d, if_neg f, if_neg c], H.keepLR (L := []) (R := [])⟩
set_option maxRecDepth 100000 in
set_option maxHeartbeats 4000000 in
theorem Post_any {ep nx : Int} {LA WA : Option Addr} {lc wc : Nat} {log : List (List Nat)} {wait : List Ltr} {lm : Nat → TextT.μ} {wm : Nat → LtrT.μ} {TA OA : Option Addr} {tc oc : Nat} {text : List Nat} {tos : List Int} {om : Nat → IntT.μ} {X : List Nat} {w0 : World} (hX : ∀ k ∈ X, k < w0.heap.size) (hL : St (LiF TextT LA lc log lm) w0 X) (hW : St (LiF LtrT WA wc wait wm) w0 X) (hT : St (TxF TA tc text) w0 X) (hO : St (LiF IntT OA oc tos om) w0 X) :
    Calls Try.prog 11 #[.agg (ca [.one (.int .u64 ep), .one (.slice LA log.length lc), .one (.slice WA wait.length wc), .one (.int .i64 nx)]), .slice TA text.length tc, .slice OA tos.length oc] w0 fun e w' => ∃ LA' lc' lm' WA' wc' wm', e = .returned (.tuple #[.agg (ca [.one (.int .u64 (postV ⟨ep, log, wait, nx⟩ text tos).1.ep), .one (.slice LA' (postV ⟨ep, log, wait, nx⟩ text tos).1.log.length lc'), .one (.slice WA' (postV ⟨ep, log, wait, nx⟩ text tos).1.wait.length wc'), .one (.int .i64 (postV ⟨ep, log, wait, nx⟩ text tos).1.nx)]), .int .i64 (postV ⟨ep, log, wait, nx⟩ text tos).2]) ∧ Sep X [] w0 w' [] [LiF TextT LA' lc' (postV ⟨ep, log, wait, nx⟩ text tos).1.log lm', LiF LtrT WA' wc' (postV ⟨ep, log, wait, nx⟩ text tos).1.wait wm'] := by
  have hLb := hL.now.big
  have hWb := hW.now.big
  have hOb := hO.now.big
  have hkr := kindV_ran text
  refine calls_env Try.ntmps11 Try.func11 rfl rfl fun a E => ?_; replace E : Env a _ [(0, _), (1, _), (2, _)] := E
  have H : Sep X [] w0 w0 [] [(LiF TextT LA lc log lm), (LiF LtrT WA wc wait wm), (TxF TA tc text), (LiF IntT OA oc tos om)] := Sep.start hX (List.forall_mem_cons.2 ⟨hL, List.forall_mem_cons.2 ⟨hW, List.forall_mem_cons.2 ⟨hT, List.forall_mem_cons.2 ⟨hO, fun _ h => by cases h⟩⟩⟩⟩)
  refine wp_seq_k fun K0 hK0 => ?_; refine S_region ?_; refine S_eff E rfl (fun K hK => ?_); refine eff_box E H rfl rfl rfl ?_; clear H; intro b3 w H _; refine hK _ _ ?_; clear hK K; refine S_put E rfl rfl ?_; clear E a; intro a E; refine S_eff E rfl (fun K hK => ?_); refine eff_alloc (z := [.one (.int .u64 0), .one (.slice none 0 0), .one (.slice none 0 0), .one (.int .i64 0)]) H rfl (by kernel_rfl) ?_; clear H; intro b6 w H _; refine hK _ _ ?_; clear hK K; refine S_put E rfl rfl ?_; clear E a; intro a E; refine S_val E (pk_assign rfl rfl) rfl rfl rfl ?_; clear E a; intro a E; refine hK0 _ _ ?_; refine wp_seq_k fun K1 hK1 => ?_; refine wp_seq_k fun K2 hK2 => ?_; refine S_region ?_; refine S_val E (pk_load (n := 4) H 1 rfl rfl rfl trivial rfl (by kernel_rfl)) rfl rfl rfl ?_; clear E a; intro a E; refine S_eff E rfl (fun K hK => ?_); refine eff_call E rfl rfl rfl (by kernel_rfl) ?_
  refine (Check_any H.xk (H.fact 0 rfl) (H.fact 1 rfl)).mono ?_; rintro e w ⟨rfl, H1⟩
  replace H := H.call H1
  clear H1; replace H : Sep _ _ _ _ [_, _] [_, _, _, _] := H; refine hK _ _ ?_; clear hK K; refine S_put E rfl rfl ?_; clear E a; intro a E; refine S_val E (pk_int rfl rfl rfl rfl) rfl rfl rfl ?_; clear E a; intro a E; refine S_val E (pk_move rfl rfl) rfl rfl rfl ?_; clear E a; intro a E; refine env_split (d := 16) E rfl ?_ ?_
  · skip
    clear E; intro c16 E
    have hok : okS ⟨ep, log, wait, nx⟩ = false := by simpa using ok_ne c16
    refine S_skip E rfl rfl rfl ?_; clear E a; intro a E; refine S_skip E rfl rfl rfl ?_; clear E a; intro a E; refine S_val E (pk_pick rfl rfl rfl) rfl rfl rfl ?_; clear E a; intro a E; refine hK2 _ _ ?_; refine S_then E rfl ?_; refine wp_seq_k fun K3 hK3 => ?_; refine S_region ?_; refine S_val E (pk_build (z := [.one (.int .u64 0), .one (.slice none 0 0), .one (.slice none 0 0), .one (.int .i64 0)]) rfl (by kernel_rfl) (by kernel_rfl) rfl) rfl rfl rfl ?_; clear E a; intro a E; refine S_eff E rfl (fun K hK => ?_); refine eff_store 0 E H rfl rfl rfl rfl rfl (by repeat (first | exact trivial | refine ⟨rfl, ?_⟩ | refine ⟨fun _ _ => rfl, ?_⟩)) rfl (by kernel_rfl) rfl ?_; clear H; intro w H _; replace H : Sep _ _ _ _ [_, _] _ := H; refine hK _ _ ?_; clear hK K; refine S_put0 rfl ?_; refine S_val E (pk_assign rfl rfl) rfl rfl rfl ?_; clear E a; intro a E; refine hK3 _ _ ?_; refine wp_ret ?_
    repeat (first | refine then_ret ?_ | refine block_ret ?_)
    refine ret2 rfl E (by exact resC (n := 4) H 0 rfl rfl rfl (by kernel_rfl)) (resT rfl) ?_
    have hP : postV ⟨ep, log, wait, nx⟩ text tos = (noSrv, 1) := by
      unfold postV; exact if_pos (Or.inl hok)
    rw [hP]
    exact ⟨none, 0, fun _ => TextT.dft, none, 0, fun _ => LtrT.dft, rfl, ((H.keepLR (L := []) (R := [])).know liF_nil).know liF_nil⟩
  · skip
    clear E; intro c16 E
    have hok : okS ⟨ep, log, wait, nx⟩ = true := by simpa using ok_ne c16
    obtain ⟨k1, k2, k3, k4, k5, k6⟩ := okS_of hok
    simp only at k1 k2 k3 k4 k5 k6
    refine S_val E (pk_move rfl rfl) rfl rfl rfl ?_; clear E a; intro a E; refine S_eff E rfl (fun K hK => ?_); refine eff_call E rfl rfl rfl (by kernel_rfl) ?_; refine (ContainsInt_any (f := 34) (cs := #[]) (pb := farB) (r := fun _ => True) (by kernel_rfl) hOb (fun x mm X w0 hX _ _ => far_sep hX) H.xk (H.fact 3 rfl) (fun _ _ => trivial)).mono ?_; rintro e w ⟨rfl, H1⟩
    replace H := H.call H1
    clear H1; replace H : Sep _ _ _ _ [_, _] [_, _, _, _] := H; refine hK _ _ ?_; clear hK K; refine S_put E rfl rfl ?_; clear E a; intro a E; refine S_val E (pk_pick rfl rfl rfl) rfl rfl rfl ?_; clear E a; intro a E; refine hK2 _ _ ?_; refine env_split (d := 19) E rfl ?_ ?_
    · skip
      clear E; intro c19 E; refine S_then E rfl ?_; refine wp_seq_k fun K4 hK4 => ?_; refine S_region ?_; refine S_val E (pk_build (z := [.one (.int .u64 0), .one (.slice none 0 0), .one (.slice none 0 0), .one (.int .i64 0)]) rfl (by kernel_rfl) (by kernel_rfl) rfl) rfl rfl rfl ?_; clear E a; intro a E; refine S_eff E rfl (fun K hK => ?_); refine eff_store 0 E H rfl rfl rfl rfl rfl (by repeat (first | exact trivial | refine ⟨rfl, ?_⟩ | refine ⟨fun _ _ => rfl, ?_⟩)) rfl (by kernel_rfl) rfl ?_; clear H; intro w H _; replace H : Sep _ _ _ _ [_, _] _ := H; refine hK _ _ ?_; clear hK K; refine S_put0 rfl ?_; refine S_val E (pk_assign rfl rfl) rfl rfl rfl ?_; clear E a; intro a E; refine hK4 _ _ ?_; refine wp_ret ?_
      repeat (first | refine then_ret ?_ | refine block_ret ?_)
      refine ret2 rfl E (by exact resC (n := 4) H 0 rfl rfl rfl (by kernel_rfl)) (resT rfl) ?_
      have hP : postV ⟨ep, log, wait, nx⟩ text tos = (noSrv, 1) := by
        unfold postV; exact if_pos (Or.inr c19)
      rw [hP]
      exact ⟨none, 0, fun _ => TextT.dft, none, 0, fun _ => LtrT.dft, rfl, ((H.keepLR (L := []) (R := [])).know liF_nil).know liF_nil⟩
    · skip
      clear E; intro c19 E
      have hfar : tos.any farB = false := c19
      refine S_else E rfl ?_; refine wp_skip ?_; refine hK1 _ _ ?_; refine wp_seq_k fun K5 hK5 => ?_; refine S_region ?_; refine S_val E (pk_move rfl rfl) rfl rfl rfl ?_; clear E a; intro a E; refine S_eff E rfl (fun K hK => ?_); refine eff_call E rfl rfl rfl (by kernel_rfl) ?_; refine (read_any H.xk (H.fact 2 rfl)).mono ?_; rintro e w ⟨rfl, H1⟩
      replace H := H.call H1
      clear H1; replace H : Sep _ _ _ _ [_, _] [_, _, _, _] := H; refine hK _ _ ?_; clear hK K; refine S_put E rfl rfl ?_; clear E a; intro a E; refine S_val E (pk_move rfl rfl) rfl rfl rfl ?_; clear E a; intro a E; refine S_val E (pk_extract rfl rfl rfl) rfl rfl rfl ?_; clear E a; intro a E; refine S_val E (pk_extract rfl rfl rfl) rfl rfl rfl ?_; clear E a; intro a E; refine S_val E (pk_assign rfl rfl) rfl rfl rfl ?_; clear E a; intro a E; refine S_val E (pk_assign rfl rfl) rfl rfl rfl ?_; clear E a; intro a E; refine hK5 _ _ ?_; refine wp_seq_k fun K6 hK6 => ?_; refine S_region ?_; refine S_val E (pk_move rfl rfl) rfl rfl rfl ?_; clear E a; intro a E; refine S_val E (pk_int rfl rfl rfl rfl) rfl rfl rfl ?_; clear E a; intro a E; refine S_val E (pk_assign rfl rfl) rfl rfl rfl ?_; clear E a; intro a E; refine env_split (d := 10) E rfl ?_ ?_
      · skip
        clear E; intro c10 E
        have hcm : kindV text = 1 := eq_of_beq c10
        refine hK6 _ _ ?_; refine wp_seq_k fun K7 hK7 => ?_; refine wp_block ?_; refine wp_seq_k fun K8 hK8 => ?_; refine S_region ?_; refine S_val E (pk_move rfl rfl) rfl rfl rfl ?_; clear E a; intro a E; refine S_val E (pk_int rfl rfl rfl rfl) rfl rfl rfl ?_; clear E a; intro a E; refine S_val E (pk_assign rfl rfl) rfl rfl rfl ?_; clear E a; intro a E; refine hK8 _ _ ?_; refine env_split (d := 28) E rfl ?_ ?_
        · skip
          clear E; intro c28 E
          have hk0 : kindV text = 0 := eq_of_beq c28
          refine S_then E rfl ?_; refine wp_seq_k fun K9 hK9 => ?_; refine S_region ?_; refine S_val E (pk_build (z := [.one (.int .u64 0), .one (.slice none 0 0), .one (.slice none 0 0), .one (.int .i64 0)]) rfl (by kernel_rfl) (by kernel_rfl) rfl) rfl rfl rfl ?_; clear E a; intro a E; refine S_eff E rfl (fun K hK => ?_); refine eff_store 0 E H rfl rfl rfl rfl rfl (by repeat (first | exact trivial | refine ⟨rfl, ?_⟩ | refine ⟨fun _ _ => rfl, ?_⟩)) rfl (by kernel_rfl) rfl ?_; clear H; intro w H _; replace H : Sep _ _ _ _ [_, _] _ := H; refine hK _ _ ?_; clear hK K; refine S_put0 rfl ?_; refine S_val E (pk_assign rfl rfl) rfl rfl rfl ?_; clear E a; intro a E; refine hK9 _ _ ?_; refine wp_ret ?_
          repeat (first | refine then_ret ?_ | refine block_ret ?_)
          refine ret2 rfl E (by exact resC (n := 4) H 0 rfl rfl rfl (by kernel_rfl)) (resT rfl) ?_
          have hP : postV ⟨ep, log, wait, nx⟩ text tos = (noSrv, 3) := by
            unfold postV; rw [if_neg (show ¬(okS ⟨ep, log, wait, nx⟩ = false ∨ tos.any farB = true) by rw [hok, hfar]; simp)]; exact if_pos hk0
          rw [hP]
          exact ⟨none, 0, fun _ => TextT.dft, none, 0, fun _ => LtrT.dft, rfl, ((H.keepLR (L := []) (R := [])).know liF_nil).know liF_nil⟩
        · skip
          clear E; intro c28 E
          have hk0 : ¬ kindV text = 0 := ne_of_beq_false c28
          refine S_else E rfl ?_; refine wp_seq_k fun K10 hK10 => ?_; refine S_region ?_; refine S_val E (pk_move rfl rfl) rfl rfl rfl ?_; clear E a; intro a E; refine S_val E (pk_move rfl rfl) rfl rfl rfl ?_; clear E a; intro a E; refine S_val E (pk_move rfl rfl) rfl rfl rfl ?_; clear E a; intro a E; refine S_val E (pk_fieldAddr (off := 0) rfl rfl (by kernel_rfl)) rfl rfl rfl ?_; clear E a; intro a E; refine S_val E (pk_load1 H 1 rfl rfl rfl trivial rfl (by kernel_rfl)) rfl rfl rfl ?_; clear E a; intro a E; refine S_val E (pk_int rfl rfl rfl rfl) rfl rfl rfl ?_; clear E a; intro a E; refine S_val E (pk_pick rfl rfl rfl) rfl rfl rfl ?_; clear E a; intro a E; refine S_val E (pk_assign rfl rfl) rfl rfl rfl ?_; clear E a; intro a E; refine hK10 _ _ ?_; refine env_split (d := 32) E rfl ?_ ?_
          · skip
            clear E; intro c32 E
            have hne : epV text ≠ ep := by simpa using c32
            refine S_then E rfl ?_; refine wp_seq_k fun K11 hK11 => ?_; refine S_region ?_; refine S_val E (pk_build (z := [.one (.int .u64 0), .one (.slice none 0 0), .one (.slice none 0 0), .one (.int .i64 0)]) rfl (by kernel_rfl) (by kernel_rfl) rfl) rfl rfl rfl ?_; clear E a; intro a E; refine S_eff E rfl (fun K hK => ?_); refine eff_store 0 E H rfl rfl rfl rfl rfl (by repeat (first | exact trivial | refine ⟨rfl, ?_⟩ | refine ⟨fun _ _ => rfl, ?_⟩)) rfl (by kernel_rfl) rfl ?_; clear H; intro w H _; replace H : Sep _ _ _ _ [_, _] _ := H; refine hK _ _ ?_; clear hK K; refine S_put0 rfl ?_; refine S_val E (pk_assign rfl rfl) rfl rfl rfl ?_; clear E a; intro a E; refine hK11 _ _ ?_; refine wp_ret ?_
            repeat (first | refine then_ret ?_ | refine block_ret ?_)
            refine ret2 rfl E (by exact resC (n := 4) H 0 rfl rfl rfl (by kernel_rfl)) (resT rfl) ?_
            have hP : postV ⟨ep, log, wait, nx⟩ text tos = (noSrv, 9) := by
              unfold postV; rw [if_neg (show ¬(okS ⟨ep, log, wait, nx⟩ = false ∨ tos.any farB = true) by rw [hok, hfar]; simp)]; rw [if_neg hk0]; exact if_pos ⟨hcm, hne⟩
            rw [hP]
            exact ⟨none, 0, fun _ => TextT.dft, none, 0, fun _ => LtrT.dft, rfl, ((H.keepLR (L := []) (R := [])).know liF_nil).know liF_nil⟩
          · skip
            clear E; intro c32 E
            have hee : epV text = ep := by simpa using c32
            refine S_else E rfl ?_; refine wp_seq_k fun K12 hK12 => ?_; refine wp_seq_k fun K13 hK13 => ?_; refine S_region ?_; refine S_val E (pk_move rfl rfl) rfl rfl rfl ?_; clear E a; intro a E; refine S_val E (pk_move rfl rfl) rfl rfl rfl ?_; clear E a; intro a E; refine S_val E (pk_fieldAddr (off := 1) rfl rfl (by kernel_rfl)) rfl rfl rfl ?_; clear E a; intro a E; refine S_val E (pk_load1 H 1 rfl rfl rfl trivial rfl (by kernel_rfl)) rfl rfl rfl ?_; clear E a; intro a E; refine S_val E (pk_len rfl rfl (by kernel_rfl)) rfl rfl rfl ?_; clear E a; intro a E; refine S_val E (pk_int rfl rfl rfl rfl) rfl rfl rfl ?_; clear E a; intro a E; refine S_val E (pk_pick rfl rfl rfl) rfl rfl rfl ?_; clear E a; intro a E; refine S_val E (pk_assign rfl rfl) rfl rfl rfl ?_; clear E a; intro a E; refine hK13 _ _ ?_; refine env_split (d := 41) E rfl ?_ ?_
            · skip
              clear E; intro c41 E; refine S_then E rfl ?_; refine wp_skip ?_; refine hK12 _ _ ?_; refine S_then E rfl ?_; refine wp_seq_k fun K14 hK14 => ?_; refine S_region ?_; refine S_val E (pk_build (z := [.one (.int .u64 0), .one (.slice none 0 0), .one (.slice none 0 0), .one (.int .i64 0)]) rfl (by kernel_rfl) (by kernel_rfl) rfl) rfl rfl rfl ?_; clear E a; intro a E; refine S_eff E rfl (fun K hK => ?_); refine eff_store 0 E H rfl rfl rfl rfl rfl (by repeat (first | exact trivial | refine ⟨rfl, ?_⟩ | refine ⟨fun _ _ => rfl, ?_⟩)) rfl (by kernel_rfl) rfl ?_; clear H; intro w H _; replace H : Sep _ _ _ _ [_, _] _ := H; refine hK _ _ ?_; clear hK K; refine S_put0 rfl ?_; refine S_val E (pk_assign rfl rfl) rfl rfl rfl ?_; clear E a; intro a E; refine hK14 _ _ ?_; refine wp_ret ?_
              repeat (first | refine then_ret ?_ | refine block_ret ?_)
              refine ret2 rfl E (by exact resC (n := 4) H 0 rfl rfl rfl (by kernel_rfl)) (resT rfl) ?_
              have hP : postV ⟨ep, log, wait, nx⟩ text tos = (noSrv, 8) := by
                unfold postV; rw [if_neg (show ¬(okS ⟨ep, log, wait, nx⟩ = false ∨ tos.any farB = true) by rw [hok, hfar]; simp)]; rw [if_neg hk0]; rw [if_neg (show ¬(kindV text = 1 ∧ epV text ≠ (⟨ep, log, wait, nx⟩ : Srv).ep) by rintro ⟨_, h⟩; exact h hee)]; exact if_pos (by simp only; simp only [decide_eq_true_eq, beq_iff_eq] at *; omega)
              rw [hP]
              exact ⟨none, 0, fun _ => TextT.dft, none, 0, fun _ => LtrT.dft, rfl, ((H.keepLR (L := []) (R := [])).know liF_nil).know liF_nil⟩
            · skip
              clear E; intro c41 E; refine S_else E rfl ?_; refine wp_seq_k fun K15 hK15 => ?_; refine S_region ?_; refine S_val E (pk_move rfl rfl) rfl rfl rfl ?_; clear E a; intro a E; refine S_val E (pk_len rfl rfl (by kernel_rfl)) rfl rfl rfl ?_; clear E a; intro a E; refine S_val E (pk_fieldAddr (off := 2) rfl rfl (by kernel_rfl)) rfl rfl rfl ?_; clear E a; intro a E; refine S_val E (pk_load1 H 1 rfl rfl rfl trivial rfl (by kernel_rfl)) rfl rfl rfl ?_; clear E a; intro a E; refine S_val E (pk_len rfl rfl (by kernel_rfl)) rfl rfl rfl ?_; clear E a; intro a E; refine S_val E (pk_intw rfl rfl rfl rfl (wI64 (by omega) (by omega))) rfl rfl rfl ?_; clear E a; intro a E; refine S_val E (pk_int rfl rfl rfl rfl) rfl rfl rfl ?_; clear E a; intro a E; refine S_val E (pk_assign rfl rfl) rfl rfl rfl ?_; clear E a; intro a E; refine hK15 _ _ ?_; refine env_split (d := 41) E rfl ?_ ?_
              · skip
                clear E; intro c41 E; refine S_then E rfl ?_; refine wp_skip ?_; refine hK12 _ _ ?_; refine S_then E rfl ?_; refine wp_seq_k fun K16 hK16 => ?_; refine S_region ?_; refine S_val E (pk_build (z := [.one (.int .u64 0), .one (.slice none 0 0), .one (.slice none 0 0), .one (.int .i64 0)]) rfl (by kernel_rfl) (by kernel_rfl) rfl) rfl rfl rfl ?_; clear E a; intro a E; refine S_eff E rfl (fun K hK => ?_); refine eff_store 0 E H rfl rfl rfl rfl rfl (by repeat (first | exact trivial | refine ⟨rfl, ?_⟩ | refine ⟨fun _ _ => rfl, ?_⟩)) rfl (by kernel_rfl) rfl ?_; clear H; intro w H _; replace H : Sep _ _ _ _ [_, _] _ := H; refine hK _ _ ?_; clear hK K; refine S_put0 rfl ?_; refine S_val E (pk_assign rfl rfl) rfl rfl rfl ?_; clear E a; intro a E; refine hK16 _ _ ?_; refine wp_ret ?_
                repeat (first | refine then_ret ?_ | refine block_ret ?_)
                refine ret2 rfl E (by exact resC (n := 4) H 0 rfl rfl rfl (by kernel_rfl)) (resT rfl) ?_
                have hP : postV ⟨ep, log, wait, nx⟩ text tos = (noSrv, 8) := by
                  unfold postV; rw [if_neg (show ¬(okS ⟨ep, log, wait, nx⟩ = false ∨ tos.any farB = true) by rw [hok, hfar]; simp)]; rw [if_neg hk0]; rw [if_neg (show ¬(kindV text = 1 ∧ epV text ≠ (⟨ep, log, wait, nx⟩ : Srv).ep) by rintro ⟨_, h⟩; exact h hee)]; exact if_pos (by simp only; simp only [decide_eq_true_eq, beq_iff_eq] at *; omega)
                rw [hP]
                exact ⟨none, 0, fun _ => TextT.dft, none, 0, fun _ => LtrT.dft, rfl, ((H.keepLR (L := []) (R := [])).know liF_nil).know liF_nil⟩
              · skip
                clear E; intro c41 E; refine S_else E rfl ?_; refine S_region ?_; refine S_val E (pk_move rfl rfl) rfl rfl rfl ?_; clear E a; intro a E; refine S_val E (pk_len rfl rfl (by kernel_rfl)) rfl rfl rfl ?_; clear E a; intro a E; refine S_val E (pk_fieldAddr (off := 3) rfl rfl (by kernel_rfl)) rfl rfl rfl ?_; clear E a; intro a E; refine S_val E (pk_load1 H 1 rfl rfl rfl trivial rfl (by kernel_rfl)) rfl rfl rfl ?_; clear E a; intro a E; refine S_val E (pk_intw rfl rfl rfl rfl (wI64 (by omega) (by omega))) rfl rfl rfl ?_; clear E a; intro a E; refine S_val E (pk_int rfl rfl rfl rfl) rfl rfl rfl ?_; clear E a; intro a E; refine S_val E (pk_assign rfl rfl) rfl rfl rfl ?_; clear E a; intro a E; refine hK12 _ _ ?_; refine env_split (d := 41) E rfl ?_ ?_
                · skip
                  clear E; intro c41 E; refine S_then E rfl ?_; refine wp_seq_k fun K17 hK17 => ?_; refine S_region ?_; refine S_val E (pk_build (z := [.one (.int .u64 0), .one (.slice none 0 0), .one (.slice none 0 0), .one (.int .i64 0)]) rfl (by kernel_rfl) (by kernel_rfl) rfl) rfl rfl rfl ?_; clear E a; intro a E; refine S_eff E rfl (fun K hK => ?_); refine eff_store 0 E H rfl rfl rfl rfl rfl (by repeat (first | exact trivial | refine ⟨rfl, ?_⟩ | refine ⟨fun _ _ => rfl, ?_⟩)) rfl (by kernel_rfl) rfl ?_; clear H; intro w H _; replace H : Sep _ _ _ _ [_, _] _ := H; refine hK _ _ ?_; clear hK K; refine S_put0 rfl ?_; refine S_val E (pk_assign rfl rfl) rfl rfl rfl ?_; clear E a; intro a E; refine hK17 _ _ ?_; refine wp_ret ?_
                  repeat (first | refine then_ret ?_ | refine block_ret ?_)
                  refine ret2 rfl E (by exact resC (n := 4) H 0 rfl rfl rfl (by kernel_rfl)) (resT rfl) ?_
                  have hP : postV ⟨ep, log, wait, nx⟩ text tos = (noSrv, 8) := by
                    unfold postV; rw [if_neg (show ¬(okS ⟨ep, log, wait, nx⟩ = false ∨ tos.any farB = true) by rw [hok, hfar]; simp)]; rw [if_neg hk0]; rw [if_neg (show ¬(kindV text = 1 ∧ epV text ≠ (⟨ep, log, wait, nx⟩ : Srv).ep) by rintro ⟨_, h⟩; exact h hee)]; exact if_pos (by simp only; simp only [decide_eq_true_eq, beq_iff_eq] at *; omega)
                  rw [hP]
                  exact ⟨none, 0, fun _ => TextT.dft, none, 0, fun _ => LtrT.dft, rfl, ((H.keepLR (L := []) (R := [])).know liF_nil).know liF_nil⟩
                · skip
                  clear E; intro c41 E; refine S_else E rfl ?_; refine wp_skip ?_; refine hK7 _ _ ?_; refine wp_seq_k fun K18 hK18 => ?_
                  have hold : ¬(kindV text = 1 ∧ epV text ≠ (⟨ep, log, wait, nx⟩ : Srv).ep) := by rintro ⟨_, h⟩; exact h hee
                  have hfull : ¬((kindV text = 1 ∧ (⟨ep, log, wait, nx⟩ : Srv).log.length = 2000) ∨ 20000 < (⟨ep, log, wait, nx⟩ : Srv).wait.length + tos.length ∨ 1099511627776 < (⟨ep, log, wait, nx⟩ : Srv).nx + (tos.length : Int)) := by
                    simp only
                    simp only [decide_eq_false_iff_not, beq_eq_false_iff_ne, ne_eq] at *
                    omega
                  refine S_region ?_; refine S_val E (pk_load (n := 4) H 1 rfl rfl rfl trivial rfl (by kernel_rfl)) rfl rfl rfl ?_; clear E a; intro a E; refine S_eff E rfl (fun K hK => ?_); refine eff_call E rfl rfl rfl (by kernel_rfl) ?_; refine (own_any (by omega) (by omega) H.xk (H.fact 0 rfl) (H.fact 1 rfl)).mono ?_; rintro e w ⟨LA9, lc9, WA9, wc9, ds, es, hds, hes, rfl, H1⟩
                  replace H := H.call H1
                  clear H1; replace H : Sep _ _ _ _ [_, _, _, _] [_, _, _, _, _, _] := H; refine hK _ _ ?_; clear hK K; refine S_put E rfl rfl ?_; clear E a; intro a E
                  have hds2 : ds.length = log.length := by rw [← hds, List.length_map]
                  have hes2 : es.length = wait.length := by rw [← hes, List.length_map]
                  refine S_eff E rfl (fun K hK => ?_); refine eff_store 3 E H rfl rfl rfl rfl rfl (by repeat (first | exact trivial | refine ⟨rfl, ?_⟩ | refine ⟨fun _ _ => rfl, ?_⟩)) rfl (by kernel_rfl) rfl ?_; clear H; intro w H _; replace H : Sep _ _ _ _ [_, _, _, _] _ := H; refine hK _ _ ?_; clear hK K; refine S_put0 rfl ?_; refine hK18 _ _ ?_; refine wp_seq_k fun K19 hK19 => ?_; refine wp_seq_k fun K20 hK20 => ?_; refine S_region ?_; refine S_val E (pk_move rfl rfl) rfl rfl rfl ?_; clear E a; intro a E; refine hK20 _ _ ?_; refine S_then E rfl ?_; refine wp_seq_k fun K21 hK21 => ?_; refine C_region E H [] 5 [(0, false), (1, false), (2, false), (3, true), (4, true)] (by kernel_rfl) (by kernel_rfl) (fun w HS => ?_)
                  (simp only [canOps, List.getElem?_cons_zero, List.getElem?_cons_succ, List.drop_succ_cons, List.drop_zero])
                  clear H
                  have H := HS
                  have hsz : w.heap.size ≤ w.heap.size := Nat.le_refl _
                  have HK : CanB.Keep (fun k => k < w.heap.size ∧ k ∉ []) w w := CanB.Keep.refl _ _
                  refine C_val E HK (pk_fieldAddr (off := 1) rfl rfl (by kernel_rfl)) rfl rfl rfl (fun _ _ _ _ h => h) ?_; clear E a; intro a E; refine C_val E HK (pk_load1 HS 3 rfl rfl rfl (HS.inS 3 rfl (by simp)) rfl (by kernel_rfl)) rfl rfl rfl (fun _ _ _ _ h => h) ?_; clear E a; intro a E; refine C_val E HK (pk_move rfl rfl) rfl rfl rfl (fun _ _ _ _ h => h) ?_; clear E a; intro a E; refine C_eff E rfl (fun K hK => ?_); refine eff_call E rfl rfl rfl (by kernel_rfl) ?_; refine (clone_sep H.xk (H.fact 4 rfl)).mono ?_; rintro e w ⟨A69, c69, rfl, H1⟩
                  have F := H1.frm
                  replace H := H.call H1
                  clear H1; replace H : Sep _ _ _ _ [_, _, _, _] [_, _, _, _, _, _, _] := H
                  have hk := keep_frm (D := []) F hsz (by simp)
                  refine hK _ _ hk ?_; clear hK K
                  replace HK := HK.trans hk
                  replace hsz := Nat.le_trans hsz (F).size
                  clear hk; refine C_put E rfl rfl ?_; clear E a; intro a E; clear F; refine C_eff E rfl (fun K hK => ?_); refine eff_bslice (sz := 1) (z := [.one (.slice none 0 0)]) E H rfl Try.underlying22 (by kernel_rfl) (by decide) (by kernel_rfl) ⟨_, [.one _], 0, _, rfl, rfl, rfl, rfl, rfl⟩ ?_; clear H; intro b70 w H F
                  have hk := keep_frm (D := []) F hsz (by simp)
                  refine hK _ _ hk ?_; clear hK K
                  replace HK := HK.trans hk
                  replace hsz := Nat.le_trans hsz (F).size
                  clear hk; refine C_put E rfl rfl ?_; clear E a; intro a E; clear F; refine CanB.wpCan_nil ?_
                  try (simp only [List.take_succ_cons, List.take_zero, List.drop_succ_cons, List.drop_zero])
                  clear HS HK hsz; refine S_eff E rfl (fun K hK => ?_); refine eff_app1 (T := TextT) (q := ((text, (A69, c69)) : List Nat × TextT.μ)) (its := ds) 2 0 (by_ := 24) E H rfl rfl rfl rfl rfl rfl ⟨Try.underlying22, by kernel_rfl⟩ (by omega) (by omega) ?_; clear H; intro A71 c71 w hcap71 H F; replace H : Sep _ _ _ _ [_, _, _, _, _] _ := H; refine hK _ _ ?_; clear hK K; refine S_put E rfl rfl ?_; clear E a; intro a E; clear F; refine S_val E (pk_fieldAddr (off := 1) rfl rfl (by kernel_rfl)) rfl rfl rfl ?_; clear E a; intro a E; refine S_eff E rfl (fun K hK => ?_); refine eff_store 4 (new := [.one _]) E H rfl rfl rfl rfl rfl (by repeat (first | exact trivial | refine ⟨rfl, ?_⟩ | refine ⟨fun _ _ => rfl, ?_⟩)) rfl (by kernel_rfl) rfl ?_; clear H; intro w H _; replace H : Sep _ _ _ _ [_, _, _, _, _] _ := H; refine hK _ _ ?_; clear hK K; refine S_put0 rfl ?_
                  refine hK21 _ _ ?_; refine S_region ?_; refine S_val E (pk_fieldAddr (off := 0) rfl rfl (by kernel_rfl)) rfl rfl rfl ?_; clear E a; intro a E; refine S_val E (pk_load1 H 4 rfl rfl rfl trivial rfl (by kernel_rfl)) rfl rfl rfl ?_; clear E a; intro a E; refine S_val E (pk_intw rfl rfl rfl rfl (wU64 (by omega) (by omega))) rfl rfl rfl ?_; clear E a; intro a E; refine S_val E (pk_fieldAddr (off := 0) rfl rfl (by kernel_rfl)) rfl rfl rfl ?_; clear E a; intro a E; refine S_eff E rfl (fun K hK => ?_); refine eff_store 4 (new := [.one _]) E H rfl rfl rfl rfl rfl (by repeat (first | exact trivial | refine ⟨rfl, ?_⟩ | refine ⟨fun _ _ => rfl, ?_⟩)) rfl (by kernel_rfl) rfl ?_; clear H; intro w H _; replace H : Sep _ _ _ _ [_, _, _, _, _] _ := H; refine hK _ _ ?_; clear hK K; refine S_put0 rfl ?_
                  replace H := H.popL
                  refine hK19 _ _ ?_; refine wp_seq_k fun K22 hK22 => ?_; refine wp_seq_k fun K23 hK23 => ?_; refine S_region ?_; refine S_val E (pk_move rfl rfl) rfl rfl rfl ?_; clear E a; intro a E; refine S_val E (pk_len rfl rfl (by kernel_rfl)) rfl rfl rfl ?_; clear E a; intro a E; refine S_val E (pk_move rfl rfl) rfl rfl rfl ?_; clear E a; intro a E; refine hK23 _ _ ?_; refine wp_block ?_
                  have H0 : Sep X [] w0 w [.row (.slice WA9 (es).length wc9) 49 3 (es).length (rowC LtrT (es)), .row (.slice A71 (ds ++ [((text, (A69, c69)) : List Nat × TextT.μ)]).length c71) 23 1 (ds ++ [((text, (A69, c69)) : List Nat × TextT.μ)]).length (rowC TextT ((ds ++ [((text, (A69, c69)) : List Nat × TextT.μ)]))), .blk b6 (ca [.one (.int .u64 0), .one (.slice none 0 0), .one (.slice none 0 0), .one (.int .i64 0)]) 30, .blk b3 (ca [.one (.int .u64 (ep + 1)), .one (.slice A71 (ds ++ [((text, (A69, c69)) : List Nat × TextT.μ)]).length c71), .one (.slice WA9 (es).length wc9), .one (.int .i64 nx)]) 30] [NestF LtrT (es), NestF TextT (ds ++ [((text, (A69, c69)) : List Nat × TextT.μ)]), LiF TextT LA lc log lm, LiF LtrT WA wc wait wm, TxF TA tc text, LiF IntT OA oc tos om] := H.refacts (List.forall_mem_cons.2 ⟨H.fact 1 rfl, List.forall_mem_cons.2 ⟨nest_snoc (q := ((text, (A69, c69)) : List Nat × TextT.μ)) (H.fact 2 rfl) (H.fact 0 rfl), List.forall_mem_cons.2 ⟨H.fact 3 rfl, List.forall_mem_cons.2 ⟨H.fact 4 rfl, List.forall_mem_cons.2 ⟨H.fact 5 rfl, List.forall_mem_cons.2 ⟨H.fact 6 rfl, List.forall_mem_nil _⟩⟩⟩⟩⟩⟩)
                  refine S_loopI (γ := Option Addr × Nat × List (Ltr × LtrT.μ)) [1, 3, 6, 77, 78] (fun g => [(79, .int .i64 (g.2.2.length : Int))]) (fun g => [.row (.slice g.1 (es ++ g.2.2).length g.2.1) 49 3 (es ++ g.2.2).length (rowC LtrT (es ++ g.2.2)), .row (.slice A71 (ds ++ [((text, (A69, c69)) : List Nat × TextT.μ)]).length c71) 23 1 (ds ++ [((text, (A69, c69)) : List Nat × TextT.μ)]).length (rowC TextT ((ds ++ [((text, (A69, c69)) : List Nat × TextT.μ)]))), .blk b6 (ca [.one (.int .u64 0), .one (.slice none 0 0), .one (.slice none 0 0), .one (.int .i64 0)]) 30, .blk b3 (ca [.one (.int .u64 (ep + 1)), .one (.slice A71 (ds ++ [((text, (A69, c69)) : List Nat × TextT.μ)]).length c71), .one (.slice g.1 (es ++ g.2.2).length g.2.1), .one (.int .i64 (nx + (g.2.2.length : Int)))]) 30]) (fun g => [NestF LtrT (es ++ g.2.2), NestF TextT (ds ++ [((text, (A69, c69)) : List Nat × TextT.μ)]), LiF TextT LA lc log lm, LiF LtrT WA wc wait wm, TxF TA tc text, LiF IntT OA oc tos om]) (fun g => g.2.2.length ≤ tos.length ∧ g.2.2.map Prod.fst = (lettersV nx tos text).take g.2.2.length) (fun g => tos.length - g.2.2.length) ((WA9, wc9, [])) E (by simpa using H0) (by repeat (first | exact trivial | refine ⟨rfl, ?_⟩)) (⟨Nat.zero_le _, rfl⟩) ?_
                  clear E H; intro g a w E H hφ; replace E : Env a _ [(79, _), (1, _), (3, _), (6, _), (77, _), (78, _)] := E; replace H : Sep _ _ _ _ [_, _, _, _] [_, _, _, _, _, _] := H
                  obtain ⟨gA, gc, ns⟩ := g
                  simp only at E H hφ ⊢
                  refine wp_seq_k fun K24 hK24 => ?_; refine S_region ?_; refine S_val E (pk_int rfl rfl rfl rfl) rfl rfl rfl ?_; clear E a; intro a E; refine hK24 _ _ ?_; refine wp_seq_k fun K25 hK25 => ?_; refine env_split (d := 80) E rfl ?_ ?_
                  · skip
                    clear E; intro c80 E
                    have hk : ns.length < tos.length := by simpa using c80
                    have hx0 : tos[ns.length]? = some tos[ns.length] := List.getElem?_eq_getElem hk
                    have hx1 : (lettersV nx tos text)[ns.length]? = some ⟨nx + (ns.length : Int), tos[ns.length], text⟩ := by simp [lettersV, hx0]
                    refine S_then E rfl ?_; refine wp_skip ?_; refine hK25 _ _ ?_; refine wp_seq_k fun K26 hK26 => ?_; refine wp_block ?_; refine wp_seq_k fun K27 hK27 => ?_; refine S_region ?_
                    obtain ⟨ad81, hA81, hc81, hn81⟩ := LiF.get (A := OA) (T := IntT) (i := ns.length) (x := tos[ns.length]) (by exact H.fact 5 rfl) hx0
                    refine S_val E (pk_elA (sz := 1) hA81 rfl (by kernel_rfl) rfl rfl rfl (by omega)) rfl rfl rfl ?_; clear E a; intro a E
                    replace H := (H.know hn81).know hc81
                    clear hn81 hc81; replace H : Sep _ _ _ _ _ [_, _, _, _, _, _, _, _] := H; refine S_val E (pk_loadE1 (H.fact 0 rfl) (fun _ _ _ => trivial) rfl rfl rfl (by kernel_rfl)) rfl rfl rfl ?_; clear E a; intro a E; refine S_val E (pk_assign rfl rfl) rfl rfl rfl ?_; clear E a; intro a E; refine hK27 _ _ ?_; refine wp_seq_k fun K28 hK28 => ?_; refine C_region E H [] 9 [(0, false), (1, false), (2, false), (3, false), (4, false), (5, false), (6, true), (7, false), (8, true)] (by kernel_rfl) (by kernel_rfl) (fun w HS => ?_)
                    (simp only [canOps, List.getElem?_cons_zero, List.getElem?_cons_succ, List.drop_succ_cons, List.drop_zero])
                    clear H
                    have H := HS
                    have hsz : w.heap.size ≤ w.heap.size := Nat.le_refl _
                    have HK : CanB.Keep (fun k => k < w.heap.size ∧ k ∉ []) w w := CanB.Keep.refl _ _
                    refine C_val E HK (pk_fieldAddr (off := 2) rfl rfl (by kernel_rfl)) rfl rfl rfl (fun _ _ _ _ h => h) ?_; clear E a; intro a E; refine C_val E HK (pk_load1 HS 3 rfl rfl rfl (HS.inS 3 rfl (by simp)) rfl (by kernel_rfl)) rfl rfl rfl (fun _ _ _ _ h => h) ?_; clear E a; intro a E; refine C_val E HK (pk_fieldAddr (off := 3) rfl rfl (by kernel_rfl)) rfl rfl rfl (fun _ _ _ _ h => h) ?_; clear E a; intro a E; refine C_val E HK (pk_load1 HS 3 rfl rfl rfl (HS.inS 3 rfl (by simp)) rfl (by kernel_rfl)) rfl rfl rfl (fun _ _ _ _ h => h) ?_; clear E a; intro a E; refine C_val E HK (pk_move rfl rfl) rfl rfl rfl (fun _ _ _ _ h => h) ?_; clear E a; intro a E; refine C_val E HK (pk_move rfl rfl) rfl rfl rfl (fun _ _ _ _ h => h) ?_; clear E a; intro a E; refine C_eff E rfl (fun K hK => ?_); refine eff_call E rfl rfl rfl (by kernel_rfl) ?_; refine (clone_sep H.xk (H.fact 6 rfl)).mono ?_
                    rintro e w ⟨A89, c89, rfl, H1⟩
                    have F := H1.frm
                    replace H := H.call H1
                    clear H1; replace H : Sep _ _ _ _ [_, _, _, _] [_, _, _, _, _, _, _, _, _] := H
                    have hk := keep_frm (D := []) F hsz (by simp)
                    refine hK _ _ hk ?_; clear hK K
                    replace HK := HK.trans hk
                    replace hsz := Nat.le_trans hsz (F).size
                    clear hk; refine C_put E rfl rfl ?_; clear E a; intro a E; clear F; refine C_val E HK (pk_build (z := [.one (.int .i64 0), .one (.int .i64 0), .one (.slice none 0 0)]) rfl (by kernel_rfl) (by kernel_rfl) ⟨_, [.one _], 0, _, rfl, rfl, (by kernel_rfl), rfl, ⟨_, [.one _], 1, _, rfl, rfl, (by kernel_rfl), rfl, ⟨_, [.one _], 2, _, rfl, rfl, (by kernel_rfl), rfl, rfl⟩⟩⟩) rfl rfl rfl (fun _ _ _ _ h => h) ?_; clear E a; intro a E; refine C_eff E rfl (fun K hK => ?_); refine eff_bslice (sz := 3) (z := [.one (.int .i64 0), .one (.int .i64 0), .one (.slice none 0 0)]) E H rfl Try.underlying28 (by kernel_rfl) (by decide) (by kernel_rfl) ⟨_, _, 0, _, rfl, rfl, rfl, rfl, rfl⟩ ?_; clear H; intro b91 w H F
                    have hk := keep_frm (D := []) F hsz (by simp)
                    refine hK _ _ hk ?_; clear hK K
                    replace HK := HK.trans hk
                    replace hsz := Nat.le_trans hsz (F).size
                    clear hk; refine C_put E rfl rfl ?_; clear E a; intro a E; clear F; refine CanB.wpCan_nil ?_
                    try (simp only [List.take_succ_cons, List.take_zero, List.drop_succ_cons, List.drop_zero])
                    clear HS HK hsz; refine S_eff E rfl (fun K hK => ?_); refine eff_app1 (T := LtrT) (q := (((⟨nx + (ns.length : Int), tos[ns.length], text⟩ : Ltr), (A89, c89)) : Ltr × LtrT.μ)) (its := es ++ ns) 1 0 (by_ := 40) E H rfl rfl rfl rfl rfl rfl ⟨Try.underlying28, by kernel_rfl⟩ (by simp only [List.length_append]; omega) (by simp only [List.length_append]; omega) ?_; clear H; intro A92 c92 w hcap92 H F; replace H : Sep _ _ _ _ [_, _, _, _, _] _ := H; refine hK _ _ ?_; clear hK K; refine S_put E rfl rfl ?_; clear E a; intro a E; clear F; refine S_val E (pk_fieldAddr (off := 2) rfl rfl (by kernel_rfl)) rfl rfl rfl ?_; clear E a; intro a E; refine S_eff E rfl (fun K hK => ?_); refine eff_store 4 (new := [.one _]) E H rfl rfl rfl rfl rfl (by repeat (first | exact trivial | refine ⟨rfl, ?_⟩ | refine ⟨fun _ _ => rfl, ?_⟩)) rfl (by kernel_rfl) rfl ?_; clear H
                    intro w H _; replace H : Sep _ _ _ _ [_, _, _, _, _] _ := H; refine hK _ _ ?_; clear hK K; refine S_put0 rfl ?_; refine hK28 _ _ ?_; refine S_region ?_; refine S_val E (pk_fieldAddr (off := 3) rfl rfl (by kernel_rfl)) rfl rfl rfl ?_; clear E a; intro a E; refine S_val E (pk_load1 H 4 rfl rfl rfl trivial rfl (by kernel_rfl)) rfl rfl rfl ?_; clear E a; intro a E; refine S_val E (pk_intw rfl rfl rfl rfl (wI64 (by omega) (by omega))) rfl rfl rfl ?_; clear E a; intro a E; refine S_val E (pk_fieldAddr (off := 3) rfl rfl (by kernel_rfl)) rfl rfl rfl ?_; clear E a; intro a E; refine S_eff E rfl (fun K hK => ?_); refine eff_store 4 (new := [.one _]) E H rfl rfl rfl rfl rfl (by repeat (first | exact trivial | refine ⟨rfl, ?_⟩ | refine ⟨fun _ _ => rfl, ?_⟩)) rfl (by kernel_rfl) rfl ?_; clear H; intro w H _; replace H : Sep _ _ _ _ [_, _, _, _, _] _ := H; refine hK _ _ ?_
                    clear hK K; refine S_put0 rfl ?_; refine hK26 _ _ ?_; refine S_region ?_; refine S_val E (pk_intw rfl rfl rfl rfl (wI64 (by omega) (by omega))) rfl rfl rfl ?_; clear E a; intro a E; refine S_val E (pk_move rfl rfl) rfl rfl rfl ?_; clear E a; intro a E
                    replace H := (H.refacts (List.forall_mem_cons.2 ⟨nest_snoc (q := (((⟨nx + (ns.length : Int), tos[ns.length], text⟩ : Ltr), (A89, c89)) : Ltr × LtrT.μ)) (H.fact 3 rfl) (H.fact 0 rfl), List.forall_mem_cons.2 ⟨H.fact 4 rfl, List.forall_mem_cons.2 ⟨H.fact 5 rfl, List.forall_mem_cons.2 ⟨H.fact 6 rfl, List.forall_mem_cons.2 ⟨H.fact 7 rfl, List.forall_mem_cons.2 ⟨H.fact 8 rfl, List.forall_mem_nil _⟩⟩⟩⟩⟩⟩)).popL
                    rw [List.append_assoc, show nx + (ns.length : Int) + 1 = nx + ((ns ++ [(((⟨nx + (ns.length : Int), tos[ns.length], text⟩ : Ltr), (A89, c89)) : Ltr × LtrT.μ)]).length : Int) by rw [List.length_append]; simp; omega] at H
                    refine loop_end ?_
                    exact ⟨(A92, c92, ns ++ [(((⟨nx + (ns.length : Int), tos[ns.length], text⟩ : Ltr), (A89, c89)) : Ltr × LtrT.μ)]), ⟨E.to (by simp only [List.length_append, List.length_singleton]; repeat (first | exact trivial | refine ⟨rfl, ?_⟩)), H, ⟨by simp only [List.length_append, List.length_singleton]; omega, take_done hφ.2 hx1⟩⟩, by simp only [List.length_append, List.length_singleton]; omega⟩
                  · skip
                    clear E; intro c80 E
                    have hk : ¬ ns.length < tos.length := by simpa using c80
                    refine S_else E rfl ?_; refine wp_exit ?_
                    repeat (first | refine then_exit ?_ | refine block_hit ?_ | refine block_miss (by decide) ?_)
                    refine hK22 _ _ ?_; refine wp_seq_k fun K29 hK29 => ?_; refine S_region ?_; refine S_val E (pk_load (n := 4) H 3 rfl rfl rfl trivial rfl (by kernel_rfl)) rfl rfl rfl ?_; clear E a; intro a E; refine S_eff E rfl (fun K hK => ?_); refine eff_store 2 E H rfl rfl rfl rfl rfl (by repeat (first | exact trivial | refine ⟨rfl, ?_⟩ | refine ⟨fun _ _ => rfl, ?_⟩)) rfl (by kernel_rfl) rfl ?_; clear H; intro w H _; replace H : Sep _ _ _ _ [_, _, _, _] _ := H; refine hK _ _ ?_; clear hK K; refine S_put0 rfl ?_; refine S_val E (pk_assign rfl rfl) rfl rfl rfl ?_; clear E a; intro a E; refine hK29 _ _ ?_; refine wp_ret ?_
                    repeat (first | refine then_ret ?_ | refine block_ret ?_)
                    refine ret2 rfl E (by exact resC (n := 4) H 2 rfl rfl rfl (by kernel_rfl)) (resT rfl) ?_
                    have hns : ns.length = tos.length := by omega
                    have hnm : ns.map Prod.fst = lettersV nx tos text := by rw [hφ.2, hns, show tos.length = (lettersV nx tos text).length by simp [lettersV], List.take_length]
                    have hP : postV ⟨ep, log, wait, nx⟩ text tos = (⟨ep + 1, log ++ [text], wait ++ lettersV nx tos text, nx + (tos.length : Int)⟩, 0) := by
                      unfold postV; rw [if_neg (show ¬(okS ⟨ep, log, wait, nx⟩ = false ∨ tos.any farB = true) by rw [hok, hfar]; simp)]; rw [if_neg hk0]; rw [if_neg hold]; rw [if_neg hfull]; rw [if_pos hcm, if_pos hcm]
                    obtain ⟨wm2, HW⟩ := (H.at_ 0 _ rfl).freezeL (xs := wait ++ lettersV nx tos text) rfl (by simp) (by rw [List.map_append, hes, hnm])
                    obtain ⟨lm2, HL⟩ := (HW.at_ 0 _ rfl).freezeL (xs := log ++ [text]) rfl (by simp) (by rw [List.map_append, hds]; rfl)
                    have e1 : (ds ++ [((text, (A69, c69)) : List Nat × TextT.μ)]).length = (log ++ [text]).length := by rw [List.length_append, List.length_append, ← hds, List.length_map]; rfl
                    have e2 : (es ++ ns).length = (wait ++ lettersV nx tos text).length := by rw [← hes, ← hnm, ← List.map_append, List.length_map]
                    rw [hP]
                    refine ⟨A71, c71, lm2, gA, gc, wm2, ?_, HL.keepLR (L := []) (R := [_, _])⟩
                    rw [e1, e2, hns]
      · skip
        clear E; intro c10 E
        have hcm : ¬ kindV text = 1 := ne_of_beq_false c10
        refine hK6 _ _ ?_; refine wp_seq_k fun K30 hK30 => ?_; refine wp_block ?_; refine wp_seq_k fun K31 hK31 => ?_; refine S_region ?_; refine S_val E (pk_move rfl rfl) rfl rfl rfl ?_; clear E a; intro a E; refine S_val E (pk_int rfl rfl rfl rfl) rfl rfl rfl ?_; clear E a; intro a E; refine S_val E (pk_assign rfl rfl) rfl rfl rfl ?_; clear E a; intro a E; refine hK31 _ _ ?_; refine env_split (d := 28) E rfl ?_ ?_
        · skip
          clear E; intro c28 E
          have hk0 : kindV text = 0 := eq_of_beq c28
          refine S_then E rfl ?_; refine wp_seq_k fun K32 hK32 => ?_; refine S_region ?_; refine S_val E (pk_build (z := [.one (.int .u64 0), .one (.slice none 0 0), .one (.slice none 0 0), .one (.int .i64 0)]) rfl (by kernel_rfl) (by kernel_rfl) rfl) rfl rfl rfl ?_; clear E a; intro a E; refine S_eff E rfl (fun K hK => ?_); refine eff_store 0 E H rfl rfl rfl rfl rfl (by repeat (first | exact trivial | refine ⟨rfl, ?_⟩ | refine ⟨fun _ _ => rfl, ?_⟩)) rfl (by kernel_rfl) rfl ?_; clear H; intro w H _; replace H : Sep _ _ _ _ [_, _] _ := H; refine hK _ _ ?_; clear hK K; refine S_put0 rfl ?_; refine S_val E (pk_assign rfl rfl) rfl rfl rfl ?_; clear E a; intro a E; refine hK32 _ _ ?_; refine wp_ret ?_
          repeat (first | refine then_ret ?_ | refine block_ret ?_)
          refine ret2 rfl E (by exact resC (n := 4) H 0 rfl rfl rfl (by kernel_rfl)) (resT rfl) ?_
          have hP : postV ⟨ep, log, wait, nx⟩ text tos = (noSrv, 3) := by
            unfold postV; rw [if_neg (show ¬(okS ⟨ep, log, wait, nx⟩ = false ∨ tos.any farB = true) by rw [hok, hfar]; simp)]; exact if_pos hk0
          rw [hP]
          exact ⟨none, 0, fun _ => TextT.dft, none, 0, fun _ => LtrT.dft, rfl, ((H.keepLR (L := []) (R := [])).know liF_nil).know liF_nil⟩
        · skip
          clear E; intro c28 E
          have hk0 : ¬ kindV text = 0 := ne_of_beq_false c28
          refine S_else E rfl ?_; refine wp_seq_k fun K33 hK33 => ?_; refine S_region ?_; refine S_val E (pk_move rfl rfl) rfl rfl rfl ?_; clear E a; intro a E; refine S_val E (pk_move rfl rfl) rfl rfl rfl ?_; clear E a; intro a E; refine S_skip E rfl rfl rfl ?_; clear E a; intro a E; refine S_skip E rfl rfl rfl ?_; clear E a; intro a E; refine S_skip E rfl rfl rfl ?_; clear E a; intro a E; refine S_skip E rfl rfl rfl ?_; clear E a; intro a E; refine S_val E (pk_pick rfl rfl rfl) rfl rfl rfl ?_; clear E a; intro a E; refine S_val E (pk_assign rfl rfl) rfl rfl rfl ?_; clear E a; intro a E; refine hK33 _ _ ?_; refine S_else E rfl ?_; refine wp_seq_k fun K34 hK34 => ?_; refine wp_seq_k fun K35 hK35 => ?_; refine S_region ?_; refine S_val E (pk_move rfl rfl) rfl rfl rfl ?_; clear E a; intro a E; refine S_val E (pk_move rfl rfl) rfl rfl rfl ?_; clear E a; intro a E
          refine S_skip E rfl rfl rfl ?_; clear E a; intro a E; refine S_skip E rfl rfl rfl ?_; clear E a; intro a E; refine S_skip E rfl rfl rfl ?_; clear E a; intro a E; refine S_skip E rfl rfl rfl ?_; clear E a; intro a E; refine S_val E (pk_pick rfl rfl rfl) rfl rfl rfl ?_; clear E a; intro a E; refine S_val E (pk_assign rfl rfl) rfl rfl rfl ?_; clear E a; intro a E; refine hK35 _ _ ?_; refine S_else E rfl ?_; refine wp_seq_k fun K36 hK36 => ?_; refine S_region ?_; refine S_val E (pk_move rfl rfl) rfl rfl rfl ?_; clear E a; intro a E; refine S_val E (pk_len rfl rfl (by kernel_rfl)) rfl rfl rfl ?_; clear E a; intro a E; refine S_val E (pk_fieldAddr (off := 2) rfl rfl (by kernel_rfl)) rfl rfl rfl ?_; clear E a; intro a E; refine S_val E (pk_load1 H 1 rfl rfl rfl trivial rfl (by kernel_rfl)) rfl rfl rfl ?_; clear E a; intro a E
          refine S_val E (pk_len rfl rfl (by kernel_rfl)) rfl rfl rfl ?_; clear E a; intro a E; refine S_val E (pk_intw rfl rfl rfl rfl (wI64 (by omega) (by omega))) rfl rfl rfl ?_; clear E a; intro a E; refine S_val E (pk_int rfl rfl rfl rfl) rfl rfl rfl ?_; clear E a; intro a E; refine S_val E (pk_assign rfl rfl) rfl rfl rfl ?_; clear E a; intro a E; refine hK36 _ _ ?_; refine env_split (d := 41) E rfl ?_ ?_
          · skip
            clear E; intro c41 E; refine S_then E rfl ?_; refine wp_skip ?_; refine hK34 _ _ ?_; refine S_then E rfl ?_; refine wp_seq_k fun K37 hK37 => ?_; refine S_region ?_; refine S_val E (pk_build (z := [.one (.int .u64 0), .one (.slice none 0 0), .one (.slice none 0 0), .one (.int .i64 0)]) rfl (by kernel_rfl) (by kernel_rfl) rfl) rfl rfl rfl ?_; clear E a; intro a E; refine S_eff E rfl (fun K hK => ?_); refine eff_store 0 E H rfl rfl rfl rfl rfl (by repeat (first | exact trivial | refine ⟨rfl, ?_⟩ | refine ⟨fun _ _ => rfl, ?_⟩)) rfl (by kernel_rfl) rfl ?_; clear H; intro w H _; replace H : Sep _ _ _ _ [_, _] _ := H; refine hK _ _ ?_; clear hK K; refine S_put0 rfl ?_; refine S_val E (pk_assign rfl rfl) rfl rfl rfl ?_; clear E a; intro a E; refine hK37 _ _ ?_; refine wp_ret ?_
            repeat (first | refine then_ret ?_ | refine block_ret ?_)
            refine ret2 rfl E (by exact resC (n := 4) H 0 rfl rfl rfl (by kernel_rfl)) (resT rfl) ?_
            have hP : postV ⟨ep, log, wait, nx⟩ text tos = (noSrv, 8) := by
              unfold postV; rw [if_neg (show ¬(okS ⟨ep, log, wait, nx⟩ = false ∨ tos.any farB = true) by rw [hok, hfar]; simp)]; rw [if_neg hk0]; rw [if_neg (show ¬(kindV text = 1 ∧ epV text ≠ (⟨ep, log, wait, nx⟩ : Srv).ep) by rintro ⟨h, _⟩; exact hcm h)]; exact if_pos (by simp only; simp only [decide_eq_true_eq, beq_iff_eq] at *; omega)
            rw [hP]
            exact ⟨none, 0, fun _ => TextT.dft, none, 0, fun _ => LtrT.dft, rfl, ((H.keepLR (L := []) (R := [])).know liF_nil).know liF_nil⟩
          · skip
            clear E; intro c41 E; refine S_else E rfl ?_; refine S_region ?_; refine S_val E (pk_move rfl rfl) rfl rfl rfl ?_; clear E a; intro a E; refine S_val E (pk_len rfl rfl (by kernel_rfl)) rfl rfl rfl ?_; clear E a; intro a E; refine S_val E (pk_fieldAddr (off := 3) rfl rfl (by kernel_rfl)) rfl rfl rfl ?_; clear E a; intro a E; refine S_val E (pk_load1 H 1 rfl rfl rfl trivial rfl (by kernel_rfl)) rfl rfl rfl ?_; clear E a; intro a E; refine S_val E (pk_intw rfl rfl rfl rfl (wI64 (by omega) (by omega))) rfl rfl rfl ?_; clear E a; intro a E; refine S_val E (pk_int rfl rfl rfl rfl) rfl rfl rfl ?_; clear E a; intro a E; refine S_val E (pk_assign rfl rfl) rfl rfl rfl ?_; clear E a; intro a E; refine hK34 _ _ ?_; refine env_split (d := 41) E rfl ?_ ?_
            · skip
              clear E; intro c41 E; refine S_then E rfl ?_; refine wp_seq_k fun K38 hK38 => ?_; refine S_region ?_; refine S_val E (pk_build (z := [.one (.int .u64 0), .one (.slice none 0 0), .one (.slice none 0 0), .one (.int .i64 0)]) rfl (by kernel_rfl) (by kernel_rfl) rfl) rfl rfl rfl ?_; clear E a; intro a E; refine S_eff E rfl (fun K hK => ?_); refine eff_store 0 E H rfl rfl rfl rfl rfl (by repeat (first | exact trivial | refine ⟨rfl, ?_⟩ | refine ⟨fun _ _ => rfl, ?_⟩)) rfl (by kernel_rfl) rfl ?_; clear H; intro w H _; replace H : Sep _ _ _ _ [_, _] _ := H; refine hK _ _ ?_; clear hK K; refine S_put0 rfl ?_; refine S_val E (pk_assign rfl rfl) rfl rfl rfl ?_; clear E a; intro a E; refine hK38 _ _ ?_; refine wp_ret ?_
              repeat (first | refine then_ret ?_ | refine block_ret ?_)
              refine ret2 rfl E (by exact resC (n := 4) H 0 rfl rfl rfl (by kernel_rfl)) (resT rfl) ?_
              have hP : postV ⟨ep, log, wait, nx⟩ text tos = (noSrv, 8) := by
                unfold postV; rw [if_neg (show ¬(okS ⟨ep, log, wait, nx⟩ = false ∨ tos.any farB = true) by rw [hok, hfar]; simp)]; rw [if_neg hk0]; rw [if_neg (show ¬(kindV text = 1 ∧ epV text ≠ (⟨ep, log, wait, nx⟩ : Srv).ep) by rintro ⟨h, _⟩; exact hcm h)]; exact if_pos (by simp only; simp only [decide_eq_true_eq, beq_iff_eq] at *; omega)
              rw [hP]
              exact ⟨none, 0, fun _ => TextT.dft, none, 0, fun _ => LtrT.dft, rfl, ((H.keepLR (L := []) (R := [])).know liF_nil).know liF_nil⟩
            · skip
              clear E; intro c41 E; refine S_else E rfl ?_; refine wp_skip ?_; refine hK30 _ _ ?_; refine wp_seq_k fun K39 hK39 => ?_
              have hold : ¬(kindV text = 1 ∧ epV text ≠ (⟨ep, log, wait, nx⟩ : Srv).ep) := by rintro ⟨h, _⟩; exact hcm h
              have hfull : ¬((kindV text = 1 ∧ (⟨ep, log, wait, nx⟩ : Srv).log.length = 2000) ∨ 20000 < (⟨ep, log, wait, nx⟩ : Srv).wait.length + tos.length ∨ 1099511627776 < (⟨ep, log, wait, nx⟩ : Srv).nx + (tos.length : Int)) := by
                simp only
                simp only [decide_eq_false_iff_not, beq_eq_false_iff_ne, ne_eq] at *
                omega
              refine S_region ?_; refine S_val E (pk_load (n := 4) H 1 rfl rfl rfl trivial rfl (by kernel_rfl)) rfl rfl rfl ?_; clear E a; intro a E; refine S_eff E rfl (fun K hK => ?_); refine eff_call E rfl rfl rfl (by kernel_rfl) ?_; refine (own_any (by omega) (by omega) H.xk (H.fact 0 rfl) (H.fact 1 rfl)).mono ?_; rintro e w ⟨LA9, lc9, WA9, wc9, ds, es, hds, hes, rfl, H1⟩
              replace H := H.call H1
              clear H1; replace H : Sep _ _ _ _ [_, _, _, _] [_, _, _, _, _, _] := H; refine hK _ _ ?_; clear hK K; refine S_put E rfl rfl ?_; clear E a; intro a E
              have hds2 : ds.length = log.length := by rw [← hds, List.length_map]
              have hes2 : es.length = wait.length := by rw [← hes, List.length_map]
              refine S_eff E rfl (fun K hK => ?_); refine eff_store 3 E H rfl rfl rfl rfl rfl (by repeat (first | exact trivial | refine ⟨rfl, ?_⟩ | refine ⟨fun _ _ => rfl, ?_⟩)) rfl (by kernel_rfl) rfl ?_; clear H; intro w H _; replace H : Sep _ _ _ _ [_, _, _, _] _ := H; refine hK _ _ ?_; clear hK K; refine S_put0 rfl ?_; refine hK39 _ _ ?_; refine wp_seq_k fun K40 hK40 => ?_; refine wp_seq_k fun K41 hK41 => ?_; refine S_region ?_; refine S_val E (pk_move rfl rfl) rfl rfl rfl ?_; clear E a; intro a E; refine hK41 _ _ ?_; refine S_else E rfl ?_; refine wp_skip ?_; refine hK40 _ _ ?_; refine wp_seq_k fun K42 hK42 => ?_; refine wp_seq_k fun K43 hK43 => ?_; refine S_region ?_; refine S_val E (pk_move rfl rfl) rfl rfl rfl ?_; clear E a; intro a E; refine S_val E (pk_len rfl rfl (by kernel_rfl)) rfl rfl rfl ?_; clear E a; intro a E; refine S_val E (pk_move rfl rfl) rfl rfl rfl ?_; clear E a
              intro a E; refine hK43 _ _ ?_; refine wp_block ?_
              have H0 : Sep X [] w0 w [.row (.slice WA9 (es).length wc9) 49 3 (es).length (rowC LtrT (es)), .row (.slice LA9 ds.length lc9) 23 1 ds.length (rowC TextT (ds)), .blk b6 (ca [.one (.int .u64 0), .one (.slice none 0 0), .one (.slice none 0 0), .one (.int .i64 0)]) 30, .blk b3 (ca [.one (.int .u64 ep), .one (.slice LA9 ds.length lc9), .one (.slice WA9 (es).length wc9), .one (.int .i64 nx)]) 30] [NestF LtrT (es), NestF TextT ds, LiF TextT LA lc log lm, LiF LtrT WA wc wait wm, TxF TA tc text, LiF IntT OA oc tos om] := H
              refine S_loopI (γ := Option Addr × Nat × List (Ltr × LtrT.μ)) [1, 3, 6, 77, 78] (fun g => [(79, .int .i64 (g.2.2.length : Int))]) (fun g => [.row (.slice g.1 (es ++ g.2.2).length g.2.1) 49 3 (es ++ g.2.2).length (rowC LtrT (es ++ g.2.2)), .row (.slice LA9 ds.length lc9) 23 1 ds.length (rowC TextT (ds)), .blk b6 (ca [.one (.int .u64 0), .one (.slice none 0 0), .one (.slice none 0 0), .one (.int .i64 0)]) 30, .blk b3 (ca [.one (.int .u64 ep), .one (.slice LA9 ds.length lc9), .one (.slice g.1 (es ++ g.2.2).length g.2.1), .one (.int .i64 (nx + (g.2.2.length : Int)))]) 30]) (fun g => [NestF LtrT (es ++ g.2.2), NestF TextT ds, LiF TextT LA lc log lm, LiF LtrT WA wc wait wm, TxF TA tc text, LiF IntT OA oc tos om]) (fun g => g.2.2.length ≤ tos.length ∧ g.2.2.map Prod.fst = (lettersV nx tos text).take g.2.2.length) (fun g => tos.length - g.2.2.length) ((WA9, wc9, [])) E (by simpa using H0) (by repeat (first | exact trivial | refine ⟨rfl, ?_⟩)) (⟨Nat.zero_le _, rfl⟩) ?_
              clear E H; intro g a w E H hφ; replace E : Env a _ [(79, _), (1, _), (3, _), (6, _), (77, _), (78, _)] := E; replace H : Sep _ _ _ _ [_, _, _, _] [_, _, _, _, _, _] := H
              obtain ⟨gA, gc, ns⟩ := g
              simp only at E H hφ ⊢
              refine wp_seq_k fun K44 hK44 => ?_; refine S_region ?_; refine S_val E (pk_int rfl rfl rfl rfl) rfl rfl rfl ?_; clear E a; intro a E; refine hK44 _ _ ?_; refine wp_seq_k fun K45 hK45 => ?_; refine env_split (d := 80) E rfl ?_ ?_
              · skip
                clear E; intro c80 E
                have hk : ns.length < tos.length := by simpa using c80
                have hx0 : tos[ns.length]? = some tos[ns.length] := List.getElem?_eq_getElem hk
                have hx1 : (lettersV nx tos text)[ns.length]? = some ⟨nx + (ns.length : Int), tos[ns.length], text⟩ := by simp [lettersV, hx0]
                refine S_then E rfl ?_; refine wp_skip ?_; refine hK45 _ _ ?_; refine wp_seq_k fun K46 hK46 => ?_; refine wp_block ?_; refine wp_seq_k fun K47 hK47 => ?_; refine S_region ?_
                obtain ⟨ad81, hA81, hc81, hn81⟩ := LiF.get (A := OA) (T := IntT) (i := ns.length) (x := tos[ns.length]) (by exact H.fact 5 rfl) hx0
                refine S_val E (pk_elA (sz := 1) hA81 rfl (by kernel_rfl) rfl rfl rfl (by omega)) rfl rfl rfl ?_; clear E a; intro a E
                replace H := (H.know hn81).know hc81
                clear hn81 hc81; replace H : Sep _ _ _ _ _ [_, _, _, _, _, _, _, _] := H; refine S_val E (pk_loadE1 (H.fact 0 rfl) (fun _ _ _ => trivial) rfl rfl rfl (by kernel_rfl)) rfl rfl rfl ?_; clear E a; intro a E; refine S_val E (pk_assign rfl rfl) rfl rfl rfl ?_; clear E a; intro a E; refine hK47 _ _ ?_; refine wp_seq_k fun K48 hK48 => ?_; refine C_region E H [] 9 [(0, false), (1, false), (2, false), (3, false), (4, false), (5, false), (6, true), (7, false), (8, true)] (by kernel_rfl) (by kernel_rfl) (fun w HS => ?_)
                (simp only [canOps, List.getElem?_cons_zero, List.getElem?_cons_succ, List.drop_succ_cons, List.drop_zero])
                clear H
                have H := HS
                have hsz : w.heap.size ≤ w.heap.size := Nat.le_refl _
                have HK : CanB.Keep (fun k => k < w.heap.size ∧ k ∉ []) w w := CanB.Keep.refl _ _
                refine C_val E HK (pk_fieldAddr (off := 2) rfl rfl (by kernel_rfl)) rfl rfl rfl (fun _ _ _ _ h => h) ?_; clear E a; intro a E; refine C_val E HK (pk_load1 HS 3 rfl rfl rfl (HS.inS 3 rfl (by simp)) rfl (by kernel_rfl)) rfl rfl rfl (fun _ _ _ _ h => h) ?_; clear E a; intro a E; refine C_val E HK (pk_fieldAddr (off := 3) rfl rfl (by kernel_rfl)) rfl rfl rfl (fun _ _ _ _ h => h) ?_; clear E a; intro a E; refine C_val E HK (pk_load1 HS 3 rfl rfl rfl (HS.inS 3 rfl (by simp)) rfl (by kernel_rfl)) rfl rfl rfl (fun _ _ _ _ h => h) ?_; clear E a; intro a E; refine C_val E HK (pk_move rfl rfl) rfl rfl rfl (fun _ _ _ _ h => h) ?_; clear E a; intro a E; refine C_val E HK (pk_move rfl rfl) rfl rfl rfl (fun _ _ _ _ h => h) ?_; clear E a; intro a E; refine C_eff E rfl (fun K hK => ?_); refine eff_call E rfl rfl rfl (by kernel_rfl) ?_; refine (clone_sep H.xk (H.fact 6 rfl)).mono ?_
                rintro e w ⟨A89, c89, rfl, H1⟩
                have F := H1.frm
                replace H := H.call H1
                clear H1; replace H : Sep _ _ _ _ [_, _, _, _] [_, _, _, _, _, _, _, _, _] := H
                have hk := keep_frm (D := []) F hsz (by simp)
                refine hK _ _ hk ?_; clear hK K
                replace HK := HK.trans hk
                replace hsz := Nat.le_trans hsz (F).size
                clear hk; refine C_put E rfl rfl ?_; clear E a; intro a E; clear F; refine C_val E HK (pk_build (z := [.one (.int .i64 0), .one (.int .i64 0), .one (.slice none 0 0)]) rfl (by kernel_rfl) (by kernel_rfl) ⟨_, [.one _], 0, _, rfl, rfl, (by kernel_rfl), rfl, ⟨_, [.one _], 1, _, rfl, rfl, (by kernel_rfl), rfl, ⟨_, [.one _], 2, _, rfl, rfl, (by kernel_rfl), rfl, rfl⟩⟩⟩) rfl rfl rfl (fun _ _ _ _ h => h) ?_; clear E a; intro a E; refine C_eff E rfl (fun K hK => ?_); refine eff_bslice (sz := 3) (z := [.one (.int .i64 0), .one (.int .i64 0), .one (.slice none 0 0)]) E H rfl Try.underlying28 (by kernel_rfl) (by decide) (by kernel_rfl) ⟨_, _, 0, _, rfl, rfl, rfl, rfl, rfl⟩ ?_; clear H; intro b91 w H F
                have hk := keep_frm (D := []) F hsz (by simp)
                refine hK _ _ hk ?_; clear hK K
                replace HK := HK.trans hk
                replace hsz := Nat.le_trans hsz (F).size
                clear hk; refine C_put E rfl rfl ?_; clear E a; intro a E; clear F; refine CanB.wpCan_nil ?_
                try (simp only [List.take_succ_cons, List.take_zero, List.drop_succ_cons, List.drop_zero])
                clear HS HK hsz; refine S_eff E rfl (fun K hK => ?_); refine eff_app1 (T := LtrT) (q := (((⟨nx + (ns.length : Int), tos[ns.length], text⟩ : Ltr), (A89, c89)) : Ltr × LtrT.μ)) (its := es ++ ns) 1 0 (by_ := 40) E H rfl rfl rfl rfl rfl rfl ⟨Try.underlying28, by kernel_rfl⟩ (by simp only [List.length_append]; omega) (by simp only [List.length_append]; omega) ?_; clear H; intro A92 c92 w hcap92 H F; replace H : Sep _ _ _ _ [_, _, _, _, _] _ := H; refine hK _ _ ?_; clear hK K; refine S_put E rfl rfl ?_; clear E a; intro a E; clear F; refine S_val E (pk_fieldAddr (off := 2) rfl rfl (by kernel_rfl)) rfl rfl rfl ?_; clear E a; intro a E; refine S_eff E rfl (fun K hK => ?_); refine eff_store 4 (new := [.one _]) E H rfl rfl rfl rfl rfl (by repeat (first | exact trivial | refine ⟨rfl, ?_⟩ | refine ⟨fun _ _ => rfl, ?_⟩)) rfl (by kernel_rfl) rfl ?_; clear H
                intro w H _; replace H : Sep _ _ _ _ [_, _, _, _, _] _ := H; refine hK _ _ ?_; clear hK K; refine S_put0 rfl ?_; refine hK48 _ _ ?_; refine S_region ?_; refine S_val E (pk_fieldAddr (off := 3) rfl rfl (by kernel_rfl)) rfl rfl rfl ?_; clear E a; intro a E; refine S_val E (pk_load1 H 4 rfl rfl rfl trivial rfl (by kernel_rfl)) rfl rfl rfl ?_; clear E a; intro a E; refine S_val E (pk_intw rfl rfl rfl rfl (wI64 (by omega) (by omega))) rfl rfl rfl ?_; clear E a; intro a E; refine S_val E (pk_fieldAddr (off := 3) rfl rfl (by kernel_rfl)) rfl rfl rfl ?_; clear E a; intro a E; refine S_eff E rfl (fun K hK => ?_); refine eff_store 4 (new := [.one _]) E H rfl rfl rfl rfl rfl (by repeat (first | exact trivial | refine ⟨rfl, ?_⟩ | refine ⟨fun _ _ => rfl, ?_⟩)) rfl (by kernel_rfl) rfl ?_; clear H; intro w H _; replace H : Sep _ _ _ _ [_, _, _, _, _] _ := H; refine hK _ _ ?_; clear hK K
                refine S_put0 rfl ?_; refine hK46 _ _ ?_; refine S_region ?_; refine S_val E (pk_intw rfl rfl rfl rfl (wI64 (by omega) (by omega))) rfl rfl rfl ?_; clear E a; intro a E; refine S_val E (pk_move rfl rfl) rfl rfl rfl ?_; clear E a; intro a E
                replace H := (H.refacts (List.forall_mem_cons.2 ⟨nest_snoc (q := (((⟨nx + (ns.length : Int), tos[ns.length], text⟩ : Ltr), (A89, c89)) : Ltr × LtrT.μ)) (H.fact 3 rfl) (H.fact 0 rfl), List.forall_mem_cons.2 ⟨H.fact 4 rfl, List.forall_mem_cons.2 ⟨H.fact 5 rfl, List.forall_mem_cons.2 ⟨H.fact 6 rfl, List.forall_mem_cons.2 ⟨H.fact 7 rfl, List.forall_mem_cons.2 ⟨H.fact 8 rfl, List.forall_mem_nil _⟩⟩⟩⟩⟩⟩)).popL
                rw [List.append_assoc, show nx + (ns.length : Int) + 1 = nx + ((ns ++ [(((⟨nx + (ns.length : Int), tos[ns.length], text⟩ : Ltr), (A89, c89)) : Ltr × LtrT.μ)]).length : Int) by rw [List.length_append]; simp; omega] at H
                refine loop_end ?_
                exact ⟨(A92, c92, ns ++ [(((⟨nx + (ns.length : Int), tos[ns.length], text⟩ : Ltr), (A89, c89)) : Ltr × LtrT.μ)]), ⟨E.to (by simp only [List.length_append, List.length_singleton]; repeat (first | exact trivial | refine ⟨rfl, ?_⟩)), H, ⟨by simp only [List.length_append, List.length_singleton]; omega, take_done hφ.2 hx1⟩⟩, by simp only [List.length_append, List.length_singleton]; omega⟩
              · skip
                clear E; intro c80 E
                have hk : ¬ ns.length < tos.length := by simpa using c80
                refine S_else E rfl ?_; refine wp_exit ?_
                repeat (first | refine then_exit ?_ | refine block_hit ?_ | refine block_miss (by decide) ?_)
                refine hK42 _ _ ?_; refine wp_seq_k fun K49 hK49 => ?_; refine S_region ?_; refine S_val E (pk_load (n := 4) H 3 rfl rfl rfl trivial rfl (by kernel_rfl)) rfl rfl rfl ?_; clear E a; intro a E; refine S_eff E rfl (fun K hK => ?_); refine eff_store 2 E H rfl rfl rfl rfl rfl (by repeat (first | exact trivial | refine ⟨rfl, ?_⟩ | refine ⟨fun _ _ => rfl, ?_⟩)) rfl (by kernel_rfl) rfl ?_; clear H; intro w H _; replace H : Sep _ _ _ _ [_, _, _, _] _ := H; refine hK _ _ ?_; clear hK K; refine S_put0 rfl ?_; refine S_val E (pk_assign rfl rfl) rfl rfl rfl ?_; clear E a; intro a E; refine hK49 _ _ ?_; refine wp_ret ?_
                repeat (first | refine then_ret ?_ | refine block_ret ?_)
                refine ret2 rfl E (by exact resC (n := 4) H 2 rfl rfl rfl (by kernel_rfl)) (resT rfl) ?_
                have hns : ns.length = tos.length := by omega
                have hnm : ns.map Prod.fst = lettersV nx tos text := by rw [hφ.2, hns, show tos.length = (lettersV nx tos text).length by simp [lettersV], List.take_length]
                have hP : postV ⟨ep, log, wait, nx⟩ text tos = (⟨ep, log, wait ++ lettersV nx tos text, nx + (tos.length : Int)⟩, 0) := by
                  unfold postV; rw [if_neg (show ¬(okS ⟨ep, log, wait, nx⟩ = false ∨ tos.any farB = true) by rw [hok, hfar]; simp)]; rw [if_neg hk0]; rw [if_neg hold]; rw [if_neg hfull]; rw [if_neg hcm, if_neg hcm]
                obtain ⟨wm2, HW⟩ := (H.at_ 0 _ rfl).freezeL (xs := wait ++ lettersV nx tos text) rfl (by simp) (by rw [List.map_append, hes, hnm])
                obtain ⟨lm2, HL⟩ := (HW.at_ 0 _ rfl).freezeL (xs := log) rfl (by simp) (by exact hds)
                have e1 : ds.length = (log).length := by rw [← hds, List.length_map]
                have e2 : (es ++ ns).length = (wait ++ lettersV nx tos text).length := by rw [← hes, ← hnm, ← List.map_append, List.length_map]
                rw [hP]
                refine ⟨LA9, lc9, lm2, gA, gc, wm2, ?_, HL.keepLR (L := []) (R := [_, _])⟩
                rw [e1, e2, hns]
end Go.Proofs.Yteefhbpmeajbfaa
namespace Go.Proofs.Yteefhbpmeajbfaa
set_option linter.unusedSimpArgs false
set_option linter.unusedVariables false
open Go.RowKit

section
variable {P : Program} {o : Oper} {a : Act} {w ws : World} {Q : Exit → Act → World → Prop} {N d : Nat} {l : List (Nat × Value)} {v : Value} {S : Nat → Prop} {K : Act → World → Prop}
  {X G : List Nat} {w0 : World} {L L' : List Res} {R : List (World → Prop)}
theorem run_bound {j : Int} {b y : Nat} {code : BoundsCode} (hj : j = (b : Int)) (hb : b ≤ y) : (Instr.sliceBound (.int .i64 j) y code).run P w = .ok b w := by
  subst hj
  unfold Instr.sliceBound
  simp [asIntOf, hb]
/-- What a slice of a slice is. -/
def subSl (A : Option Addr) (sz lo hi mx : Nat) : Value := .slice (if mx = lo then A else A.map (·.add (lo * sz))) (hi - lo) (mx - lo)
theorem run_sub {t e sz : Nat} {A : Option Addr} {n c lo hi mx : Nat} {vl vh vm : Option Value} (ht : P.underlying t = some (.slice e)) (hs : (P.info? e).map (·.size) = some sz) (hb : (Instr.sliceBounds true n c vl vh vm).run P w = .ok (lo, hi, mx) w) :
    (Instr.sliceAt t (.slice A n c) vl vh vm).run P w = .ok (subSl A sz lo hi mx) w := by
  unfold Instr.sliceAt
  rw [Sem.run_bind, run_underlying ht]
  simp only [Result.andThen_ok]
  unfold Instr.slice
  rw [Sem.run_bind, run_underlying ht]
  simp only [Result.andThen_ok, Sem.run_bind, hb, run_sizeOf_of hs]
  rfl
theorem pk_sub {t sz : Nat} {A : Option Addr} {n c lo hi mx : Nat} {x : Operand} {ol oh om : Option Operand} (ho : o.op = .slice t x ol oh om) (ht : elK P t = some sz) (hx : ev l x = some (.slice A n c))
    (hb : ∀ a N w, Env a N l → (Instr.sliceBounds true n c (ol.map a.eval) (oh.map a.eval) (om.map a.eval)).run P w = .ok (lo, hi, mx) w) : PK P S ws l o (subSl A sz lo hi mx) := fun w' _ a N E => by
  obtain ⟨e, h1, h2⟩ := elK_of ht
  unfold execOp
  rw [ho]
  simp only [E.ev hx, Sem.run_bind, run_sub h1 h2 (hb a N w' E), Result.andThen_ok, Sem.run_pure]
theorem pk_sub_hi {t sz : Nat} {A : Option Addr} {n c hi : Nat} {x xh : Operand} {j : Int} (ho : o.op = .slice t x none (some xh) none) (ht : elK P t = some sz) (hx : ev l x = some (.slice A n c)) (hh : ev l xh = some (.int .i64 j)) (hj : j = (hi : Int)) (hc : hi ≤ c) : PK P S ws l o (subSl A sz 0 hi c) :=
  pk_sub ho ht hx fun a N w E => by
    unfold Instr.sliceBounds
    simp [E.ev hh, run_bound hj hc, Sem.run_bind]
theorem pk_sub_lo {t sz : Nat} {A : Option Addr} {n c lo : Nat} {x xl : Operand} {j : Int} (ho : o.op = .slice t x (some xl) none none) (ht : elK P t = some sz) (hx : ev l x = some (.slice A n c)) (hl : ev l xl = some (.int .i64 j)) (hj : j = (lo : Int)) (hc : lo ≤ n) : PK P S ws l o (subSl A sz lo n c) :=
  pk_sub ho ht hx fun a N w E => by
    unfold Instr.sliceBounds
    simp [E.ev hl, run_bound hj hc, Sem.run_bind]
theorem pk_sub_lh {t sz : Nat} {A : Option Addr} {n c lo hi : Nat} {x xl xh : Operand} {j k : Int} (ho : o.op = .slice t x (some xl) (some xh) none) (ht : elK P t = some sz) (hx : ev l x = some (.slice A n c)) (hl : ev l xl = some (.int .i64 j)) (hh : ev l xh = some (.int .i64 k)) (hj : j = (lo : Int)) (hk : k = (hi : Int)) (hlh : lo ≤ hi) (hc : hi ≤ c) : PK P S ws l o (subSl A sz lo hi c) :=
  pk_sub ho ht hx fun a N w E => by
    unfold Instr.sliceBounds
    simp [E.ev hl, E.ev hh, run_bound hj hlh, run_bound hk hc, Sem.run_bind]
theorem pk_sub_lhm {t sz : Nat} {A : Option Addr} {n c lo hi mx : Nat} {x xl xh xm : Operand} {j k i : Int} (ho : o.op = .slice t x (some xl) (some xh) (some xm)) (ht : elK P t = some sz) (hx : ev l x = some (.slice A n c)) (hl : ev l xl = some (.int .i64 j)) (hh : ev l xh = some (.int .i64 k)) (hm : ev l xm = some (.int .i64 i)) (hj : j = (lo : Int)) (hk : k = (hi : Int)) (hi' : i = (mx : Int)) (hlh : lo ≤ hi) (hhm : hi ≤ mx) (hc : mx ≤ c) : PK P S ws l o (subSl A sz lo hi mx) :=
  pk_sub ho ht hx fun a N w E => by
    unfold Instr.sliceBounds
    simp [E.ev hl, E.ev hh, E.ev hm, run_bound hj hlh, run_bound hk hhm, run_bound hi' hc, Sem.run_bind]
theorem sub_zero (A : Option Addr) (sz hi c : Nat) : subSl A sz 0 hi c = .slice A hi c := by
  unfold subSl
  have : (A.map fun x => x.add (0 * sz)) = A := by cases A <;> simp [addr_add_zero]
  rw [this]
  simp
theorem splice_erase {α : Type} (cs : List α) (sz n i : Nat) (hlen : cs.length = n * sz) (hi : i < n) (z : List α) :
    ((cs ++ z).take (i * sz) ++ ((cs ++ z).drop ((i + 1) * sz)).take ((n - (i + 1)) * sz) ++ (cs ++ z).drop (i * sz + (n - (i + 1)) * sz)).take ((n - 1) * sz) = cs.take (i * sz) ++ cs.drop ((i + 1) * sz) := by
  have h1 : i * sz + (n - (i + 1)) * sz = (n - 1) * sz := by rw [← Nat.add_mul]; congr 1; omega
  have h2 : (i + 1) * sz ≤ n * sz := Nat.mul_le_mul_right _ hi
  have h3 : (i + 1) * sz + (n - (i + 1)) * sz = n * sz := by rw [← Nat.add_mul]; congr 1; omega
  have h4 : i * sz ≤ n * sz := Nat.mul_le_mul_right _ (by omega)
  have e1 : (cs ++ z).take (i * sz) = cs.take (i * sz) := List.take_append_of_le_length (by omega)
  have e2 : ((cs ++ z).drop ((i + 1) * sz)).take ((n - (i + 1)) * sz) = cs.drop ((i + 1) * sz) := by
    rw [List.drop_append_of_le_length (by omega), List.take_append_of_le_length (by rw [List.length_drop]; omega), List.take_of_length_le (by rw [List.length_drop]; omega)]
  rw [e1, e2]
  have hl : (cs.take (i * sz) ++ cs.drop ((i + 1) * sz)).length = (n - 1) * sz := by
    rw [List.length_append, List.length_take, List.length_drop]
    omega
  rw [List.take_append_of_le_length (by omega), List.take_of_length_le (by omega)]
theorem rowC_erase {α : Type} {T : Ty α} : ∀ (its : List (α × T.μ)) (i : Nat), i < its.length → rowC T (its.eraseIdx i) = (rowC T its).take (i * T.sz) ++ (rowC T its).drop ((i + 1) * T.sz)
  | [], i, h => by simp at h
  | p :: its, 0, _ => by
    have e1 : rowC T (p :: its) = cl (T.ch p.1 p.2) ++ rowC T its := by simp [rowC]
    have hl : (cl (T.ch p.1 p.2)).length = T.sz := by rw [cl_len, T.len]
    rw [e1, List.eraseIdx_cons_zero, Nat.zero_mul, List.take_zero, List.nil_append, Nat.zero_add, Nat.one_mul, List.drop_append, hl, List.drop_of_length_le (by omega), Nat.sub_self, List.drop_zero, List.nil_append]
  | p :: its, i + 1, h => by
    have ih := rowC_erase its i (by simpa using h)
    have e1 : rowC T (p :: its) = cl (T.ch p.1 p.2) ++ rowC T its := by simp [rowC]
    have e2 : rowC T ((p :: its).eraseIdx (i + 1)) = cl (T.ch p.1 p.2) ++ rowC T (its.eraseIdx i) := by simp [rowC]
    have hl : (cl (T.ch p.1 p.2)).length = T.sz := by rw [cl_len, T.len]
    have m1 : (i + 1) * T.sz = i * T.sz + T.sz := Nat.succ_mul _ _
    have m2 : (i + 1 + 1) * T.sz = i * T.sz + T.sz + T.sz := by rw [Nat.succ_mul, Nat.succ_mul]
    rw [e1, e2, ih, List.take_append, List.drop_append, hl, List.take_of_length_le (l := cl (T.ch p.1 p.2)) (by omega), List.drop_of_length_le (l := cl (T.ch p.1 p.2)) (by omega), m1, m2]
    rw [show i * T.sz + T.sz - T.sz = i * T.sz by omega, show i * T.sz + T.sz + T.sz - T.sz = i * T.sz + T.sz by omega, List.nil_append, List.append_assoc]
/-- An element is taken out of an own row: those behind it move down. -/
theorem eff_del {α : Type} {T : Ty α} {t e by_ n c i g : Nat} {A : Option Addr} {its : List (α × T.μ)} {s x : Operand} (j : Nat) (E : Env a N l) (H : Sep X G w0 w L R) (hj : L[j]? = some (.row (.slice A n c) e T.sz n (rowC T its))) (hA : A = some ⟨g, 0, none⟩) (hn : n = its.length) (hi : i < n) (ho : o.op = .call { callee := .builtin .append, args := #[s, x], argTypes := #[t, t] }) (hs : ev l s = some (subSl A T.sz 0 i c)) (hx : ev l x = some (subSl A T.sz (i + 1) n c))
    (hT : AppK P t e T.sz by_)
    (h : ∀ w', Sep X G w0 w' (L.set j (.row (.slice A (n - 1) c) e T.sz (n - 1) (rowC T (its.eraseIdx i)))) R → Frm [g] w w' → K (a.put o.dst (.slice A (n - 1) c)) w') : o.wp P a w K Q := by
  subst hA hn
  have hown : w.ownsRow 0 e T.sz (.slice (some ⟨g, 0, none⟩) its.length c) its.length (rowC T its) := H.holds _ (List.mem_of_getElem? hj)
  obtain ⟨hlen, hcase⟩ := hown
  rcases hcase with ⟨e1, _⟩ | ⟨g', cap, cur, e1, _, hh, hle, hmax, hsz, htk⟩
  · cases e1
  injection e1 with e1 _ e3
  injection e1 with e1
  injection e1 with e1
  subst e1 e3
  have hinfo := hT.info
  obtain ⟨ti, hti, hz⟩ : ∃ ti, P.info? e = some ti ∧ ti.size = T.sz := by
    cases hq : P.info? e with
    | none => rw [hq] at hinfo; cases hinfo
    | some ti => rw [hq] at hinfo; simp only [Option.map_some, Option.some.injEq, Prod.mk.injEq] at hinfo; exact ⟨ti, rfl, hinfo.2.1⟩
  have hcurl : cur.toList.length = c * T.sz := by simp [hsz]
  have hcap : its.length * T.sz ≤ c * T.sz := Nat.mul_le_mul_right _ hle
  have hi1 : (i + 1) * T.sz + (its.length - (i + 1)) * T.sz = its.length * T.sz := by rw [← Nat.add_mul]; congr 1; omega
  have hcs : cur.toList = rowC T its ++ cur.toList.drop (its.length * T.sz) := by rw [← htk, List.take_append_drop]
  -- what is moved
  obtain ⟨news, hnews⟩ : ∃ news, news = (cur.toList.drop ((i + 1) * T.sz)).take ((its.length - (i + 1)) * T.sz) := ⟨_, rfl⟩
  have hnl : news.length = (its.length - (i + 1)) * T.sz := by rw [hnews, List.length_take, List.length_drop, hcurl]; omega
  have hone : ∀ u ∈ news, u.oneCell' = true := fun u hu => by
    rw [hnews, hcs, List.drop_append_of_le_length (by rw [rowC_len]; omega), List.take_append_of_le_length (by rw [List.length_drop, rowC_len]; omega)] at hu
    exact rowC_one' its u (List.mem_of_mem_drop (List.mem_of_mem_take hu))
  have hx' : ∃ ad, subSl (some (⟨g, 0, none⟩ : Addr)) T.sz (i + 1) its.length c = .slice (some ad) (its.length - (i + 1)) (c - (i + 1)) ∧ ∀ k u, news[k]? = some u → w.cell? (ad.add k) = some u := by
    unfold subSl
    by_cases hc : c = i + 1
    · rw [if_pos hc]
      refine ⟨_, rfl, fun k u hu => ?_⟩
      have : news.length = 0 := by rw [hnl, show its.length - (i + 1) = 0 by omega, Nat.zero_mul]
      rw [List.eq_nil_of_length_eq_zero this] at hu
      cases hu
    · rw [if_neg hc]
      refine ⟨_, rfl, fun k u hu => ?_⟩
      show w.cell? (((⟨g, 0, none⟩ : Addr).add ((i + 1) * T.sz)).add k) = some u
      rw [addr_add, addr_add, Nat.zero_add, cell_of_row _ _ _ _ _ _ hh, ← Array.getElem?_toList]
      have hk : k < (its.length - (i + 1)) * T.sz := by
        have := (List.getElem?_eq_some_iff.1 hu).1
        rw [hnl] at this; exact this
      rw [hnews, List.getElem?_take_of_lt hk, List.getElem?_drop] at hu
      exact hu
  obtain ⟨ad, hxe, hcell⟩ := hx'
  have hfit : i * ti.size + news.length ≤ cur.size := by
    rw [hz, hnl, hsz]
    have : i * T.sz + (its.length - (i + 1)) * T.sz = (its.length - 1) * T.sz := by rw [← Nat.add_mul]; congr 1; omega
    have : (its.length - 1) * T.sz ≤ its.length * T.sz := Nat.mul_le_mul_right _ (by omega)
    omega
  have hrun := run_append_room (P := P) w t o.type e ti hT.sl hti g i c cur hh ad (its.length - (i + 1)) (c - (i + 1)) news (by rw [hnl, hz]) hcell hone (by omega) hfit
  rw [hz, show i + (its.length - (i + 1)) = its.length - 1 by omega] at hrun
  have hev : a.eval s = .slice (some ⟨g, 0, none⟩) i c := by rw [E.ev hs, sub_zero]
  have hev2 : a.eval x = .slice (some ad) (its.length - (i + 1)) (c - (i + 1)) := by rw [E.ev hx, hxe]
  unfold Oper.wp execOp
  simp only [ho, resolve, invoke, builtin, Sem.run_bind, Sem.run_pure, Result.andThen_ok, List.map_toArray, List.map_cons, List.map_nil, hev, hev2, hrun]
  refine h _ (H.turnAt (q' := .row (.slice (some ⟨g, 0, none⟩) (its.length - 1) c) e T.sz (its.length - 1) (rowC T (its.eraseIdx i))) j hj (frm_setRow g _ w) ⟨by rw [rowC_len, List.length_eraseIdx, if_pos hi], .inr ⟨g, c, _, rfl, Nat.zero_le _, row_self hh, by omega, hmax, ?_, ?_⟩⟩ (by simp [Res.keys, Value.ownBlock]) (by simp [Res.keys, Value.ownBlock]) rfl) (frm_setRow g _ w)
  · simp only [List.size_toArray, List.length_append, List.length_take, List.length_drop, hcurl, hnl]
    have : i * T.sz + (its.length - (i + 1)) * T.sz = (its.length - 1) * T.sz := by rw [← Nat.add_mul]; congr 1; omega
    have : (its.length - 1) * T.sz ≤ its.length * T.sz := Nat.mul_le_mul_right _ (by omega)
    omega
  · rw [rowC_erase its i hi]
    simp only [hnl]
    rw [hnews]
    have := splice_erase (rowC T its) T.sz its.length i (rowC_len its) hi (cur.toList.drop (its.length * T.sz))
    rw [← hcs] at this
    exact this
/-- Behind an own row's end its cells are cleared. -/
theorem eff_clear {e t by_ sz n m c g : Nat} {A : Option Addr} {xs : List Value} {x : Operand} (j : Nat) (E : Env a N l) (H : Sep X G w0 w L R) (hj : L[j]? = some (.row (.slice A n c) e sz n xs)) (hA : A = some ⟨g, 0, none⟩) (hm : n ≤ m) (hmc : m ≤ c) (ho : o.op = .call { callee := .builtin .clear, args := #[x], argTypes := #[t] }) (hx : ev l x = some (subSl A sz n m c)) (hT : AppK P t e sz by_) (hz1 : ((zeroC P e).map fun z => z.toList.all (·.oneCell')) = some true)
    (h : ∀ w', Sep X G w0 w' L R → Frm [g] w w' → K (a.put o.dst (.tuple #[])) w') : o.wp P a w K Q := by
  subst hA
  have hown : w.ownsRow 0 e sz (.slice (some ⟨g, 0, none⟩) n c) n xs := H.holds _ (List.mem_of_getElem? hj)
  obtain ⟨hlen, hcase⟩ := hown
  rcases hcase with ⟨e1, _⟩ | ⟨g', cap, cur, e1, _, hh, hle, hmax, hsz, htk⟩
  · cases e1
  injection e1 with e1 _ e3
  injection e1 with e1
  injection e1 with e1
  subst e1 e3
  have hinfo := hT.info
  rw [Option.map_eq_some_iff] at hz1
  obtain ⟨zc, hz2, hz3⟩ := hz1
  obtain ⟨ti, zv, h1, h2, h3⟩ := zeroC_of hz2
  have hzs : zc.size = sz := by
    rw [h1] at hinfo
    simp only [Option.map_some, h2, Option.some.injEq, Prod.mk.injEq] at hinfo
    rw [← h3]; exact hinfo.1
  have hzo : ∀ u ∈ (Builtin.zeroCells zc (m - n)).toList, u.oneCell' = true := fun u hu => by
    simp only [Builtin.zeroCells, Array.toList_map, List.mem_map] at hu
    obtain ⟨k, hk, rfl⟩ := hu
    have hk' : k < (m - n) * zc.size := by simpa using hk
    have hpos : 0 < zc.size := by
      rcases Nat.eq_zero_or_pos zc.size with h0 | h0
      · rw [h0, Nat.mul_zero] at hk'; omega
      · exact h0
    have hmod := Nat.mod_lt k hpos
    rw [List.all_eq_true] at hz3
    refine hz3 _ ?_
    rw [getElem!_pos zc _ hmod]
    exact Array.getElem_mem_toList hmod
  have hev : a.eval x = subSl (some (⟨g, 0, none⟩ : Addr)) sz n m c := E.ev hx
  have hmn : n * sz + (m - n) * sz = m * sz := by rw [← Nat.add_mul]; congr 1; omega
  have hmcs : m * sz ≤ c * sz := Nat.mul_le_mul_right _ hmc
  have hncs : n * sz ≤ c * sz := Nat.mul_le_mul_right _ hle
  by_cases hq : m = n
  · have hrun : (Builtin.clear_ #[t] o.type #[subSl (some (⟨g, 0, none⟩ : Addr)) sz n m c]).run P w = .ok (.tuple #[]) w := by
      unfold subSl
      rw [show m - n = 0 by omega]
      unfold Builtin.clear_
      by_cases hcn : c = n
      · rw [if_pos hcn]; simp [run_underlying hT.sl]
      · rw [if_neg hcn]; simp [run_underlying hT.sl]
    unfold Oper.wp execOp
    simp only [ho, resolve, invoke, builtin, Sem.run_bind, Sem.run_pure, Result.andThen_ok, List.map_toArray, List.map_cons, List.map_nil, hev, hrun]
    exact h w H (Frm.refl _ _)
  · have hcn : ¬ c = n := by omega
    have hst := run_storeCells_at P g (n * sz) e (Builtin.zeroCells zc (m - n)).toList 0 cur w hh (by simp [Builtin.zeroCells, hzs, hsz]; omega) hzo
    have hrun : (Builtin.clear_ #[t] o.type #[subSl (some (⟨g, 0, none⟩ : Addr)) sz n m c]).run P w = .ok (.tuple #[]) (w.setRow g (cur.toList.take (n * sz + 0) ++ (Builtin.zeroCells zc (m - n)).toList ++ cur.toList.drop (n * sz + 0 + (Builtin.zeroCells zc (m - n)).toList.length)).toArray) := by
      unfold subSl
      rw [if_neg hcn]
      obtain ⟨k, hk⟩ : ∃ k, m - n = k + 1 := ⟨m - n - 1, by omega⟩
      rw [hk] at hst ⊢
      unfold Builtin.clear_
      simp only [Option.map_some, addr_add, Nat.zero_add, List.getElem?_toArray, List.getElem?_cons_zero, Sem.run_bind, run_underlying hT.sl, Result.andThen_ok, zeroValue, typeInfo]
      simp [h1, h2, h3, hst]
    unfold Oper.wp execOp
    simp only [ho, resolve, invoke, builtin, Sem.run_bind, Sem.run_pure, Result.andThen_ok, List.map_toArray, List.map_cons, List.map_nil, hev, hrun]
    have hkeep := H.turnAt (q' := .row (.slice (some ⟨g, 0, none⟩) n c) e sz n xs) j hj (frm_setRow g (cur.toList.take (n * sz + 0) ++ (Builtin.zeroCells zc (m - n)).toList ++ cur.toList.drop (n * sz + 0 + (Builtin.zeroCells zc (m - n)).toList.length)).toArray w) ⟨hlen, .inr ⟨g, c, _, rfl, Nat.zero_le _, row_self hh, hle, hmax, ?_, ?_⟩⟩ (by simp [Res.keys, Value.ownBlock]) (by simp [Res.keys, Value.ownBlock]) rfl
    · have hset : L.set j (.row (.slice (some ⟨g, 0, none⟩) n c) e sz n xs) = L := by
        obtain ⟨hl, he⟩ := List.getElem?_eq_some_iff.1 hj
        rw [← he, List.set_getElem_self]
      rw [hset] at hkeep
      exact h _ hkeep (frm_setRow g _ w)
    · simp [Builtin.zeroCells, hzs, hsz, Nat.min_eq_left hle]
      omega
    · rw [Nat.add_zero]
      have hl2 : (cur.toList.take (n * sz)).length = n * sz := by rw [List.length_take]; simp [hsz, Nat.min_eq_left hle]; try omega
      rw [List.append_assoc, List.take_append_of_le_length (by omega), List.take_of_length_le (by omega)]
      exact htk
end
end Go.Proofs.Yteefhbpmeajbfaa
namespace Go.Proofs.Yteefhbpmeajbfaa
set_option linter.unusedSimpArgs false
set_option linter.unusedVariables false
open Go.RowKit
attribute [local irreducible] farB oddB cmV wlV frV
/-- A number's place among those that wait. -/
def placeV (n : Nat) (k : Int) : Nat := (k % (n : Int)).toNat
theorem placeV_lt {n : Nat} (k : Int) (h : 0 < n) : placeV n k < n := by
  have h1 := Int.emod_nonneg k (show (n : Int) ≠ 0 by omega)
  have h2 := Int.emod_lt_of_pos k (show (0 : Int) < n by omega)
  unfold placeV
  omega
theorem tmod_ran (k : Int) {n : Nat} (h : 0 < n) : -(n : Int) < k.tmod n ∧ k.tmod n < n := by
  have h1 := Int.tmod_lt_of_pos k (show (0 : Int) < n by omega)
  have h2 := Int.tmod_lt_of_pos (-k) (show (0 : Int) < n by omega)
  rw [Int.neg_tmod] at h2
  omega
theorem tmod_emod (k : Int) {n : Nat} (h : 0 < n) : (if k.tmod n < 0 then k.tmod n + n else k.tmod n) = (placeV n k : Int) := by
  have h1 := Int.emod_nonneg k (show (n : Int) ≠ 0 by omega)
  have h3 := tmod_ran k h
  have h4 := Int.emod_lt_of_pos k (show (0 : Int) < n by omega)
  have h2 : k % (n : Int) = k.tmod n ∨ k % (n : Int) = k.tmod n + n := by
    rw [Int.tmod_eq_emod]
    split
    · left; simp
    · right; simp
  have e : (placeV n k : Int) = k % (n : Int) := by unfold placeV; omega
  rw [e]
  split <;> omega
def atV (s : Srv) (k : Int) : Int × Int := if okS s = false then (0, 1) else if s.wait.length = 0 then (0, 6) else ((placeV s.wait.length k : Nat), 0)
def noLtr : Ltr := ⟨0, 0, []⟩
/-- A letter that is taken. -/
def takeV (s : Srv) (k : Int) : Ltr × Srv × Int :=
  if okS s = false then (noLtr, noSrv, 1) else if s.wait.length = 0 then (noLtr, noSrv, 6)
  else (s.wait.getD (placeV s.wait.length k) noLtr, ⟨s.ep, s.log, s.wait.eraseIdx (placeV s.wait.length k), s.nx⟩, 0)
/-- One that is put back. -/
def backV (s : Srv) (x : Ltr) : Srv × Int :=
  if okS s = false ∨ oddB s.nx x.no x.rc = true then (noSrv, 1) else if s.wait.length = 20000 then (noSrv, 8) else (⟨s.ep, s.log, s.wait ++ [x], s.nx⟩, 0)
/-- One that is doubled. -/
def twiceV (s : Srv) (k : Int) : Srv × Int :=
  if okS s = false then (noSrv, 1) else if s.wait.length = 0 then (noSrv, 6) else backV s (s.wait.getD (placeV s.wait.length k) noLtr)
set_option maxRecDepth 100000 in
set_option maxHeartbeats 4000000 in
theorem at_any {ep nx : Int} {LA WA : Option Addr} {lc wc : Nat} {log : List (List Nat)} {wait : List Ltr} {lm : Nat → TextT.μ} {wm : Nat → LtrT.μ} {k : Int} (hk : -9223372036854775808 ≤ k ∧ k ≤ 9223372036854775807) {X : List Nat} {w0 : World} (hX : ∀ k ∈ X, k < w0.heap.size) (hL : St (LiF TextT LA lc log lm) w0 X) (hW : St (LiF LtrT WA wc wait wm) w0 X) :
    Calls Try.prog 63 #[.agg (ca [.one (.int .u64 ep), .one (.slice LA log.length lc), .one (.slice WA wait.length wc), .one (.int .i64 nx)]), .int .i64 k] w0 fun e w' => e = .returned (.tuple #[.int .i64 (atV ⟨ep, log, wait, nx⟩ k).1, .int .i64 (atV ⟨ep, log, wait, nx⟩ k).2]) ∧ Sep X [] w0 w' [] [] := by
  have hLb := hL.now.big
  have hWb := hW.now.big
  refine calls_env Try.ntmps63 Try.func63 rfl rfl fun a E => ?_; replace E : Env a _ [(0, _), (1, _)] := E
  have H : Sep X [] w0 w0 [] [(LiF TextT LA lc log lm), (LiF LtrT WA wc wait wm)] := Sep.start hX (List.forall_mem_cons.2 ⟨hL, List.forall_mem_cons.2 ⟨hW, fun _ h => by cases h⟩⟩)
  refine wp_seq_k fun K0 hK0 => ?_; refine S_region ?_; refine S_eff E rfl (fun K hK => ?_); refine eff_box E H rfl rfl rfl ?_; clear H; intro b2 w H _; refine hK _ _ ?_; clear hK K; refine S_put E rfl rfl ?_; clear E a; intro a E; refine S_val E (pk_assign rfl rfl) rfl rfl rfl ?_; clear E a; intro a E; refine S_val E (pk_assign rfl rfl) rfl rfl rfl ?_; clear E a; intro a E; refine hK0 _ _ ?_; refine wp_seq_k fun K1 hK1 => ?_; refine wp_seq_k fun K2 hK2 => ?_; refine S_region ?_; refine S_val E (pk_load (n := 4) H 0 rfl rfl rfl trivial rfl (by kernel_rfl)) rfl rfl rfl ?_; clear E a; intro a E; refine S_eff E rfl (fun K hK => ?_); refine eff_call E rfl rfl rfl (by kernel_rfl) ?_; refine (Check_any H.xk (H.fact 0 rfl) (H.fact 1 rfl)).mono ?_; rintro e w ⟨rfl, H1⟩
  replace H := H.call H1
  clear H1; replace H : Sep _ _ _ _ [_] [_, _] := H; refine hK _ _ ?_; clear hK K; refine S_put E rfl rfl ?_; clear E a; intro a E; refine S_val E (pk_assign rfl rfl) rfl rfl rfl ?_; clear E a; intro a E; refine hK2 _ _ ?_; refine wp_seq_k fun K3 hK3 => ?_; refine S_region ?_; refine S_val E (pk_move rfl rfl) rfl rfl rfl ?_; clear E a; intro a E; refine S_val E (pk_int rfl rfl rfl rfl) rfl rfl rfl ?_; clear E a; intro a E; refine hK3 _ _ ?_; refine env_split (d := 11) E rfl ?_ ?_
  · skip
    clear E; intro c11 E
    have hok : okS ⟨ep, log, wait, nx⟩ = false := by simpa using ok_ne c11
    refine S_then E rfl ?_; refine wp_seq_k fun K4 hK4 => ?_; refine S_region ?_; refine S_val E (pk_move rfl rfl) rfl rfl rfl ?_; clear E a; intro a E; refine S_val E (pk_assign rfl rfl) rfl rfl rfl ?_; clear E a; intro a E; refine S_val E (pk_assign rfl rfl) rfl rfl rfl ?_; clear E a; intro a E; refine hK4 _ _ ?_; refine wp_ret ?_
    repeat (first | refine then_ret ?_ | refine block_ret ?_)
    refine ret2 rfl E (resT rfl) (resT rfl) ?_; refine ⟨?_, H.keepLR (L := []) (R := [])⟩
    unfold atV
    rw [if_pos hok, if_neg (by rw [hok]; decide)]
  · skip
    clear E; intro c11 E
    have hok : okS ⟨ep, log, wait, nx⟩ = true := by simpa using ok_ne c11
    obtain ⟨k1, k2, k3, k4, k5, k6⟩ := okS_of hok
    simp only at k1 k2 k3 k4 k5 k6
    refine S_else E rfl ?_; refine wp_skip ?_; refine hK1 _ _ ?_; refine wp_seq_k fun K5 hK5 => ?_; refine S_region ?_; refine S_val E (pk_fieldAddr (off := 2) rfl rfl (by kernel_rfl)) rfl rfl rfl ?_; clear E a; intro a E; refine S_val E (pk_load1 H 0 rfl rfl rfl trivial rfl (by kernel_rfl)) rfl rfl rfl ?_; clear E a; intro a E; refine S_val E (pk_len rfl rfl (by kernel_rfl)) rfl rfl rfl ?_; clear E a; intro a E; refine S_val E (pk_assign rfl rfl) rfl rfl rfl ?_; clear E a; intro a E; refine hK5 _ _ ?_; refine wp_seq_k fun K6 hK6 => ?_; refine wp_seq_k fun K7 hK7 => ?_; refine S_region ?_; refine S_val E (pk_move rfl rfl) rfl rfl rfl ?_; clear E a; intro a E; refine S_val E (pk_int rfl rfl rfl rfl) rfl rfl rfl ?_; clear E a; intro a E; refine hK7 _ _ ?_; refine env_split (d := 17) E rfl ?_ ?_
    · skip
      clear E; intro c17 E
      have h0 : wait.length = 0 := by have := eq_of_beq c17; omega
      refine S_then E rfl ?_; refine wp_seq_k fun K8 hK8 => ?_; refine S_region ?_; refine S_val E (pk_assign rfl rfl) rfl rfl rfl ?_; clear E a; intro a E; refine S_val E (pk_assign rfl rfl) rfl rfl rfl ?_; clear E a; intro a E; refine hK8 _ _ ?_; refine wp_ret ?_
      repeat (first | refine then_ret ?_ | refine block_ret ?_)
      refine ret2 rfl E (resT rfl) (resT rfl) ?_; refine ⟨?_, H.keepLR (L := []) (R := [])⟩
      unfold atV
      rw [if_neg (by rw [hok]; decide), if_pos h0]
    · skip
      clear E; intro c17 E
      have h0 : ¬ wait.length = 0 := by have := ne_of_beq_false c17; omega
      have ht := tmod_ran k (n := wait.length) (by omega)
      refine S_else E rfl ?_; refine wp_skip ?_; refine hK6 _ _ ?_; refine wp_seq_k fun K9 hK9 => ?_; refine wp_seq_k fun K10 hK10 => ?_; refine S_region ?_; refine S_val E (pk_move rfl rfl) rfl rfl rfl ?_; clear E a; intro a E; refine S_val E (pk_move rfl rfl) rfl rfl rfl ?_; clear E a; intro a E; refine S_val E (pk_rem rfl rfl rfl (by omega)) rfl rfl rfl ?_; clear E a; intro a E; refine S_val E (pk_assign rfl rfl) rfl rfl rfl ?_; clear E a; intro a E; refine hK10 _ _ ?_; refine wp_seq_k fun K11 hK11 => ?_; refine S_region ?_; refine S_val E (pk_move rfl rfl) rfl rfl rfl ?_; clear E a; intro a E; refine S_val E (pk_int rfl rfl rfl rfl) rfl rfl rfl ?_; clear E a; intro a E; refine hK11 _ _ ?_; refine env_split (d := 22) E rfl ?_ ?_
      · skip
        clear E; intro c22 E; refine S_then E rfl ?_; refine S_region ?_; refine S_val E (pk_move rfl rfl) rfl rfl rfl ?_; clear E a; intro a E; refine S_val E (pk_move rfl rfl) rfl rfl rfl ?_; clear E a; intro a E; refine S_val E (pk_intw rfl rfl rfl rfl (wI64 (by omega) (by omega))) rfl rfl rfl ?_; clear E a; intro a E; refine S_val E (pk_assign rfl rfl) rfl rfl rfl ?_; clear E a; intro a E; refine hK9 _ _ ?_; refine wp_seq_k fun K12 hK12 => ?_; refine S_region ?_; refine S_val E (pk_move rfl rfl) rfl rfl rfl ?_; clear E a; intro a E; refine S_val E (pk_assign rfl rfl) rfl rfl rfl ?_; clear E a; intro a E; refine S_val E (pk_assign rfl rfl) rfl rfl rfl ?_; clear E a; intro a E; refine hK12 _ _ ?_; refine wp_ret ?_
        repeat (first | refine then_ret ?_ | refine block_ret ?_)
        refine ret2 rfl E (resT rfl) (resT rfl) ?_; refine ⟨?_, H.keepLR (L := []) (R := [])⟩
        have ht2 := tmod_emod k (n := wait.length) (by omega)
        simp only [decide_eq_true_eq, decide_eq_false_iff_not] at c22
        unfold atV
        rw [if_neg (by rw [hok]; decide), if_neg h0, ← ht2]
        first | rw [if_pos c22] | rw [if_neg c22]
      · skip
        clear E; intro c22 E; refine S_else E rfl ?_; refine wp_skip ?_; refine hK9 _ _ ?_; refine wp_seq_k fun K13 hK13 => ?_; refine S_region ?_; refine S_val E (pk_move rfl rfl) rfl rfl rfl ?_; clear E a; intro a E; refine S_val E (pk_assign rfl rfl) rfl rfl rfl ?_; clear E a; intro a E; refine S_val E (pk_assign rfl rfl) rfl rfl rfl ?_; clear E a; intro a E; refine hK13 _ _ ?_; refine wp_ret ?_
        repeat (first | refine then_ret ?_ | refine block_ret ?_)
        refine ret2 rfl E (resT rfl) (resT rfl) ?_; refine ⟨?_, H.keepLR (L := []) (R := [])⟩
        have ht2 := tmod_emod k (n := wait.length) (by omega)
        simp only [decide_eq_true_eq, decide_eq_false_iff_not] at c22
        unfold atV
        rw [if_neg (by rw [hok]; decide), if_neg h0, ← ht2]
        first | rw [if_pos c22] | rw [if_neg c22]
set_option maxRecDepth 100000 in
set_option maxHeartbeats 4000000 in
theorem Delete_any {A : Option Addr} {n c i : Nat} {its : List (Ltr × LtrT.μ)} (hn : n = its.length) (hi : i < n) (hb : n ≤ 1000000) {X : List Nat} {w0 : World} (hX : ∀ k ∈ X, k < w0.heap.size) (H : Sep X (Res.row (.slice A n c) 49 3 n (rowC LtrT its)).keys w0 w0 [.row (.slice A n c) 49 3 n (rowC LtrT its)] []) :
    Calls Try.prog 64 #[.slice A n c, .int .i64 (i : Int), .int .i64 ((i : Int) + 1)] w0 fun e w' => e = .returned (.slice A (n - 1) c) ∧ Sep X (Res.row (.slice A n c) 49 3 n (rowC LtrT its)).keys w0 w' [.row (.slice A (n - 1) c) 49 3 (n - 1) (rowC LtrT (its.eraseIdx i))] [] := by
  refine calls_env Try.ntmps64 Try.func64 rfl rfl fun a E => ?_; replace E : Env a _ [(0, _), (1, _), (2, _)] := E
  have hrow := H.holds _ (List.mem_of_getElem? (i := 0) rfl)
  obtain ⟨g, hg⟩ := row_addr hrow (by omega)
  have hnc : n ≤ c := row_cap hrow
  refine wp_seq_k fun K0 hK0 => ?_; refine S_region ?_; refine S_val E (pk_assign rfl rfl) rfl rfl rfl ?_; clear E a; intro a E; refine hK0 _ _ ?_; refine wp_seq_k fun K1 hK1 => ?_; refine S_region ?_; refine S_val E (pk_move rfl rfl) rfl rfl rfl ?_; clear E a; intro a E; refine S_val E (pk_move rfl rfl) rfl rfl rfl ?_; clear E a; intro a E; refine S_val E (pk_move rfl rfl) rfl rfl rfl ?_; clear E a; intro a E; refine S_val E (pk_move rfl rfl) rfl rfl rfl ?_; clear E a; intro a E; refine S_val E (pk_len rfl rfl (by kernel_rfl)) rfl rfl rfl ?_; clear E a; intro a E; refine S_val E (pk_sub_lhm (sz := 3) (lo := i) (hi := i + 1) (mx := n) rfl (by kernel_rfl) rfl rfl rfl rfl rfl rfl rfl (by omega) (by omega) (by omega)) rfl rfl rfl ?_; clear E a; intro a E; refine hK1 _ _ ?_; refine wp_seq_k fun K2 hK2 => ?_; refine wp_seq_k fun K3 hK3 => ?_; refine S_region ?_
  refine S_val E (pk_move rfl rfl) rfl rfl rfl ?_; clear E a; intro a E; refine S_val E (pk_move rfl rfl) rfl rfl rfl ?_; clear E a; intro a E; refine S_val E (pk_int rfl rfl rfl rfl) rfl rfl rfl ?_; clear E a; intro a E; refine hK3 _ _ ?_; refine env_split (d := 16) E rfl ?_ ?_
  · skip
    clear E; intro c16 E
    exfalso
    have := eq_of_beq c16
    omega --done
  · skip
    clear E; intro c16 E; refine S_else E rfl ?_; refine wp_skip ?_; refine hK2 _ _ ?_; refine wp_seq_k fun K4 hK4 => ?_; refine S_region ?_; refine S_val E (pk_move rfl rfl) rfl rfl rfl ?_; clear E a; intro a E; refine S_val E (pk_len rfl rfl (by kernel_rfl)) rfl rfl rfl ?_; clear E a; intro a E; refine S_val E (pk_assign rfl rfl) rfl rfl rfl ?_; clear E a; intro a E; refine hK4 _ _ ?_; refine wp_seq_k fun K5 hK5 => ?_; refine C_region E H [] 6 [(0, false), (1, false), (2, false), (3, false), (4, false), (5, false)] (by kernel_rfl) (by kernel_rfl) (fun w HS => ?_)
    (simp only [canOps, List.getElem?_cons_zero, List.getElem?_cons_succ, List.drop_succ_cons, List.drop_zero])
    clear H
    have H := HS
    have hsz : w.heap.size ≤ w.heap.size := Nat.le_refl _
    have HK : CanB.Keep (fun k => k < w.heap.size ∧ k ∉ []) w w := CanB.Keep.refl _ _
    refine C_val E HK (pk_move rfl rfl) rfl rfl rfl (fun _ _ _ _ h => h) ?_; clear E a; intro a E; refine C_val E HK (pk_move rfl rfl) rfl rfl rfl (fun _ _ _ _ h => h) ?_; clear E a; intro a E; refine C_val E HK (pk_sub_hi (sz := 3) (hi := i) rfl (by kernel_rfl) rfl rfl rfl (by omega)) rfl rfl rfl (fun _ _ _ _ h => h) ?_; clear E a; intro a E; refine C_val E HK (pk_move rfl rfl) rfl rfl rfl (fun _ _ _ _ h => h) ?_; clear E a; intro a E; refine C_val E HK (pk_move rfl rfl) rfl rfl rfl (fun _ _ _ _ h => h) ?_; clear E a; intro a E; refine C_val E HK (pk_sub_lo (sz := 3) (lo := i + 1) rfl (by kernel_rfl) rfl rfl rfl (by omega)) rfl rfl rfl (fun _ _ _ _ h => h) ?_; clear E a; intro a E; refine CanB.wpCan_nil ?_
    try (simp only [List.take_succ_cons, List.take_zero, List.drop_succ_cons, List.drop_zero])
    clear HS HK hsz; refine S_eff E rfl (fun K hK => ?_); refine eff_del (T := LtrT) (i := i) (by_ := 40) 0 E H rfl hg hn hi rfl rfl rfl ⟨Try.underlying28, by kernel_rfl⟩ ?_; clear H; intro w H F; replace H : Sep _ _ _ _ [_] _ := H; refine hK _ _ ?_; clear hK K; refine S_put E rfl rfl ?_; clear E a; intro a E; clear F; refine S_val E (pk_assign rfl rfl) rfl rfl rfl ?_; clear E a; intro a E; refine hK5 _ _ ?_; refine wp_seq_k fun K6 hK6 => ?_; refine S_region ?_; refine S_val E (pk_move rfl rfl) rfl rfl rfl ?_; clear E a; intro a E; refine S_val E (pk_move rfl rfl) rfl rfl rfl ?_; clear E a; intro a E; refine S_val E (pk_len rfl rfl (by kernel_rfl)) rfl rfl rfl ?_; clear E a; intro a E; refine S_val E (pk_move rfl rfl) rfl rfl rfl ?_; clear E a; intro a E
    refine S_val E (pk_sub_lh (sz := 3) (lo := n - 1) (hi := n) rfl (by kernel_rfl) rfl rfl rfl rfl rfl (by omega) (by omega)) rfl rfl rfl ?_; clear E a; intro a E; refine S_eff E rfl (fun K hK => ?_); refine eff_clear (by_ := 40) 0 E H rfl hg (show n - 1 ≤ n by omega) hnc rfl rfl ⟨Try.underlying28, by kernel_rfl⟩ (by kernel_rfl) ?_; clear H; intro w H F; refine hK _ _ ?_; clear hK K; refine S_put0 rfl ?_; clear F; refine hK6 _ _ ?_; refine wp_seq_k fun K7 hK7 => ?_; refine S_region ?_; refine S_val E (pk_move rfl rfl) rfl rfl rfl ?_; clear E a; intro a E; refine S_val E (pk_assign rfl rfl) rfl rfl rfl ?_; clear E a; intro a E; refine hK7 _ _ ?_; refine wp_ret ?_
    repeat (first | refine then_ret ?_ | refine block_ret ?_)
    refine ret1 rfl E (resT rfl) ?_
    exact ⟨rfl, H⟩
theorem map_eraseIdx {α β : Type} (f : α → β) : ∀ (l : List α) (i : Nat), (l.eraseIdx i).map f = (l.map f).eraseIdx i
  | [], _ => rfl
  | _ :: _, 0 => rfl
  | a :: l, i + 1 => by simp [map_eraseIdx f l i]
set_option maxRecDepth 100000 in
set_option maxHeartbeats 4000000 in
theorem Take_any {ep nx : Int} {LA WA : Option Addr} {lc wc : Nat} {log : List (List Nat)} {wait : List Ltr} {lm : Nat → TextT.μ} {wm : Nat → LtrT.μ} {k : Int} (hk : -9223372036854775808 ≤ k ∧ k ≤ 9223372036854775807) {X : List Nat} {w0 : World} (hX : ∀ k ∈ X, k < w0.heap.size) (hL : St (LiF TextT LA lc log lm) w0 X) (hW : St (LiF LtrT WA wc wait wm) w0 X) :
    Calls Try.prog 23 #[.agg (ca [.one (.int .u64 ep), .one (.slice LA log.length lc), .one (.slice WA wait.length wc), .one (.int .i64 nx)]), .int .i64 k] w0 fun e w' => ∃ TA' tc' LA' lc' lm' WA' wc' wm', e = .returned (.tuple #[.agg (ca [.one (.int .i64 (takeV ⟨ep, log, wait, nx⟩ k).1.no), .one (.int .i64 (takeV ⟨ep, log, wait, nx⟩ k).1.rc), .one (.slice TA' (takeV ⟨ep, log, wait, nx⟩ k).1.text.length tc')]), .agg (ca [.one (.int .u64 (takeV ⟨ep, log, wait, nx⟩ k).2.1.ep), .one (.slice LA' (takeV ⟨ep, log, wait, nx⟩ k).2.1.log.length lc'), .one (.slice WA' (takeV ⟨ep, log, wait, nx⟩ k).2.1.wait.length wc'), .one (.int .i64 (takeV ⟨ep, log, wait, nx⟩ k).2.1.nx)]), .int .i64 (takeV ⟨ep, log, wait, nx⟩ k).2.2]) ∧ Sep X [] w0 w' [] [TxF TA' tc' (takeV ⟨ep, log, wait, nx⟩ k).1.text, LiF TextT LA' lc' (takeV ⟨ep, log, wait, nx⟩ k).2.1.log lm', LiF LtrT WA' wc' (takeV ⟨ep, log, wait, nx⟩ k).2.1.wait wm'] := by
  have hLb := hL.now.big
  have hWb := hW.now.big
  refine calls_env Try.ntmps23 Try.func23 rfl rfl fun a E => ?_; replace E : Env a _ [(0, _), (1, _)] := E
  have H : Sep X [] w0 w0 [] [(LiF TextT LA lc log lm), (LiF LtrT WA wc wait wm)] := Sep.start hX (List.forall_mem_cons.2 ⟨hL, List.forall_mem_cons.2 ⟨hW, fun _ h => by cases h⟩⟩)
  refine wp_seq_k fun K0 hK0 => ?_; refine S_region ?_; refine S_eff E rfl (fun K hK => ?_); refine eff_box E H rfl rfl rfl ?_; clear H; intro b2 w H _; refine hK _ _ ?_; clear hK K; refine S_put E rfl rfl ?_; clear E a; intro a E; refine S_eff E rfl (fun K hK => ?_); refine eff_alloc (z := [.one (.int .i64 0), .one (.int .i64 0), .one (.slice none 0 0)]) H rfl (by kernel_rfl) ?_; clear H; intro b4 w H _; refine hK _ _ ?_; clear hK K; refine S_put E rfl rfl ?_; clear E a; intro a E; refine S_eff E rfl (fun K hK => ?_); refine eff_alloc (z := [.one (.int .u64 0), .one (.slice none 0 0), .one (.slice none 0 0), .one (.int .i64 0)]) H rfl (by kernel_rfl) ?_; clear H; intro b5 w H _; refine hK _ _ ?_; clear hK K; refine S_put E rfl rfl ?_; clear E a; intro a E; refine S_val E (pk_assign rfl rfl) rfl rfl rfl ?_; clear E a; intro a E; refine hK0 _ _ ?_; refine wp_seq_k fun K1 hK1 => ?_
  refine S_region ?_; refine S_val E (pk_load (n := 4) H 2 rfl rfl rfl trivial rfl (by kernel_rfl)) rfl rfl rfl ?_; clear E a; intro a E; refine S_val E (pk_move rfl rfl) rfl rfl rfl ?_; clear E a; intro a E; refine S_eff E rfl (fun K hK => ?_); refine eff_call E rfl rfl rfl (by kernel_rfl) ?_; refine (at_any hk H.xk (H.fact 0 rfl) (H.fact 1 rfl)).mono ?_; rintro e w ⟨rfl, H1⟩
  replace H := H.call H1
  clear H1; replace H : Sep _ _ _ _ [_, _, _] [_, _] := H; refine hK _ _ ?_; clear hK K; refine S_put E rfl rfl ?_; clear E a; intro a E; refine S_val E (pk_move rfl rfl) rfl rfl rfl ?_; clear E a; intro a E; refine S_val E (pk_extract rfl rfl rfl) rfl rfl rfl ?_; clear E a; intro a E; refine S_val E (pk_extract rfl rfl rfl) rfl rfl rfl ?_; clear E a; intro a E; refine S_val E (pk_assign rfl rfl) rfl rfl rfl ?_; clear E a; intro a E; refine S_val E (pk_assign rfl rfl) rfl rfl rfl ?_; clear E a; intro a E; refine hK1 _ _ ?_; refine wp_seq_k fun K2 hK2 => ?_; refine wp_seq_k fun K3 hK3 => ?_; refine S_region ?_; refine S_val E (pk_move rfl rfl) rfl rfl rfl ?_; clear E a; intro a E; refine S_val E (pk_int rfl rfl rfl rfl) rfl rfl rfl ?_; clear E a; intro a E; refine hK3 _ _ ?_; refine env_split (d := 17) E rfl ?_ ?_
  · skip
    clear E; intro c17 E
    have hat2 : ¬ (atV ⟨ep, log, wait, nx⟩ k).2 = 0 := by have := c17; simpa using this
    refine S_then E rfl ?_; refine wp_seq_k fun K4 hK4 => ?_; refine S_region ?_; refine S_val E (pk_build (z := [.one (.int .i64 0), .one (.int .i64 0), .one (.slice none 0 0)]) rfl (by kernel_rfl) (by kernel_rfl) rfl) rfl rfl rfl ?_; clear E a; intro a E; refine S_val E (pk_build (z := [.one (.int .u64 0), .one (.slice none 0 0), .one (.slice none 0 0), .one (.int .i64 0)]) rfl (by kernel_rfl) (by kernel_rfl) rfl) rfl rfl rfl ?_; clear E a; intro a E; refine S_val E (pk_move rfl rfl) rfl rfl rfl ?_; clear E a; intro a E; refine S_eff E rfl (fun K hK => ?_); refine eff_store 1 E H rfl rfl rfl rfl rfl (by repeat (first | exact trivial | refine ⟨rfl, ?_⟩ | refine ⟨fun _ _ => rfl, ?_⟩)) rfl (by kernel_rfl) rfl ?_; clear H; intro w H _; replace H : Sep _ _ _ _ [_, _, _] _ := H; refine hK _ _ ?_; clear hK K; refine S_put0 rfl ?_; refine S_eff E rfl (fun K hK => ?_)
    refine eff_store 0 E H rfl rfl rfl rfl rfl (by repeat (first | exact trivial | refine ⟨rfl, ?_⟩ | refine ⟨fun _ _ => rfl, ?_⟩)) rfl (by kernel_rfl) rfl ?_; clear H; intro w H _; replace H : Sep _ _ _ _ [_, _, _] _ := H; refine hK _ _ ?_; clear hK K; refine S_put0 rfl ?_; refine S_val E (pk_assign rfl rfl) rfl rfl rfl ?_; clear E a; intro a E; refine hK4 _ _ ?_; refine wp_ret ?_
    repeat (first | refine then_ret ?_ | refine block_ret ?_)
    refine ret3 rfl E (by exact resC (n := 3) H 1 rfl rfl rfl (by kernel_rfl)) (by exact resC (n := 4) H 0 rfl rfl rfl (by kernel_rfl)) (resT rfl) ?_
    have hP : takeV ⟨ep, log, wait, nx⟩ k = (noLtr, noSrv, (atV ⟨ep, log, wait, nx⟩ k).2) := by
      unfold takeV atV
      unfold atV at hat2
      by_cases hq : okS ⟨ep, log, wait, nx⟩ = false
      · rw [if_pos hq, if_pos hq]
      · rw [if_neg hq, if_neg hq]
        by_cases h0 : wait.length = 0
        · rw [if_pos h0, if_pos h0]
        · rw [if_neg hq, if_neg h0] at hat2
          exact absurd rfl hat2
    rw [hP]
    exact ⟨none, 0, none, 0, fun _ => TextT.dft, none, 0, fun _ => LtrT.dft, rfl, (((H.keepLR (L := []) (R := [])).know liF_nil).know liF_nil).know txF_nil⟩
  · skip
    clear E; intro c17 E
    have hat2 : (atV ⟨ep, log, wait, nx⟩ k).2 = 0 := by have := c17; simpa using this
    have hok : okS ⟨ep, log, wait, nx⟩ = true := by
      cases hq : okS ⟨ep, log, wait, nx⟩ with
      | true => rfl
      | false => unfold atV at hat2; rw [if_pos hq] at hat2; cases hat2
    obtain ⟨k1, k2, k3, k4, k5, k6⟩ := okS_of hok
    simp only at k1 k2 k3 k4 k5 k6
    have h0 : ¬ wait.length = 0 := fun h => by
      unfold atV at hat2
      rw [if_neg (by rw [hok]; decide), if_pos h] at hat2
      cases hat2
    have hat1 : (atV ⟨ep, log, wait, nx⟩ k).1 = ((placeV wait.length k : Nat) : Int) := by unfold atV; rw [if_neg (by rw [hok]; decide), if_neg h0]
    have hpl := placeV_lt k (n := wait.length) (by omega)
    have hwx : wait[placeV wait.length k]? = some wait[placeV wait.length k] := List.getElem?_eq_getElem hpl
    rw [hat1] at E
    refine S_else E rfl ?_; refine wp_skip ?_; refine hK2 _ _ ?_; refine wp_seq_k fun K5 hK5 => ?_; refine S_region ?_; refine S_val E (pk_load (n := 4) H 2 rfl rfl rfl trivial rfl (by kernel_rfl)) rfl rfl rfl ?_; clear E a; intro a E; refine S_eff E rfl (fun K hK => ?_); refine eff_call E rfl rfl rfl (by kernel_rfl) ?_; refine (own_any (by omega) (by omega) H.xk (H.fact 0 rfl) (H.fact 1 rfl)).mono ?_; rintro e w ⟨LA9, lc9, WA9, wc9, ds, es, hds, hes, rfl, H1⟩
    replace H := H.call H1
    clear H1; replace H : Sep _ _ _ _ [_, _, _, _, _] [_, _, _, _] := H; refine hK _ _ ?_; clear hK K; refine S_put E rfl rfl ?_; clear E a; intro a E
    obtain ⟨mm, hex⟩ : ∃ mm, es[placeV wait.length k]? = some (wait[placeV wait.length k], mm) := by
      have h1 : (es.map Prod.fst)[placeV wait.length k]? = some wait[placeV wait.length k] := by rw [hes]; exact hwx
      rw [List.getElem?_map, Option.map_eq_some_iff] at h1
      obtain ⟨⟨y, mm⟩, h2, h3⟩ := h1
      exact ⟨mm, by rw [h2, ← h3]⟩
    have hds2 : ds.length = log.length := by rw [← hds, List.length_map]
    have hes2 : es.length = wait.length := by rw [← hes, List.length_map]
    obtain ⟨gw, hgw⟩ := row_addr (H.holds _ (List.mem_of_getElem? (i := 0) rfl)) (by omega)
    refine S_eff E rfl (fun K hK => ?_); refine eff_store 4 E H rfl rfl rfl rfl rfl (by repeat (first | exact trivial | refine ⟨rfl, ?_⟩ | refine ⟨fun _ _ => rfl, ?_⟩)) rfl (by kernel_rfl) rfl ?_; clear H; intro w H _; replace H : Sep _ _ _ _ [_, _, _, _, _] _ := H; refine hK _ _ ?_; clear hK K; refine S_put0 rfl ?_; refine hK5 _ _ ?_; refine wp_seq_k fun K6 hK6 => ?_; refine S_region ?_; refine S_val E (pk_fieldAddr (off := 2) rfl rfl (by kernel_rfl)) rfl rfl rfl ?_; clear E a; intro a E; refine S_val E (pk_load1 H 4 rfl rfl rfl trivial rfl (by kernel_rfl)) rfl rfl rfl ?_; clear E a; intro a E; refine S_val E (pk_move rfl rfl) rfl rfl rfl ?_; clear E a; intro a E; refine S_val E (pk_elA (sz := 3) hgw rfl (by kernel_rfl) rfl rfl rfl (by omega)) rfl rfl rfl ?_; clear E a; intro a E
    refine S_val E (pk_loadR (T := LtrT) (off := 0) (sz := 3) H 0 rfl hgw hex trivial rfl rfl (by first | rfl | exact (addr_add_zero _).symm) rfl (by kernel_rfl)) rfl rfl rfl ?_; clear E a; intro a E; refine S_eff E rfl (fun K hK => ?_); refine eff_alloc (z := [.one (.int .i64 0), .one (.int .i64 0), .one (.slice none 0 0)]) H rfl (by kernel_rfl) ?_; clear H; intro b9 w H _; refine hK _ _ ?_; clear hK K; refine S_put E rfl rfl ?_; clear E a; intro a E; refine S_eff E rfl (fun K hK => ?_); refine eff_store 0 E H rfl rfl rfl rfl rfl (by repeat (first | exact trivial | refine ⟨rfl, ?_⟩ | refine ⟨fun _ _ => rfl, ?_⟩)) rfl (by kernel_rfl) rfl ?_; clear H; intro w H _; replace H : Sep _ _ _ _ [_, _, _, _, _, _] _ := H; refine hK _ _ ?_; clear hK K; refine S_put0 rfl ?_; refine hK6 _ _ ?_; refine wp_seq_k fun K7 hK7 => ?_; refine S_region ?_
    refine S_val E (pk_fieldAddr (off := 2) rfl rfl (by kernel_rfl)) rfl rfl rfl ?_; clear E a; intro a E; refine S_val E (pk_load1 H 5 rfl rfl rfl trivial rfl (by kernel_rfl)) rfl rfl rfl ?_; clear E a; intro a E; refine S_val E (pk_move rfl rfl) rfl rfl rfl ?_; clear E a; intro a E; refine S_val E (pk_move rfl rfl) rfl rfl rfl ?_; clear E a; intro a E; refine S_val E (pk_intw rfl rfl rfl rfl (wI64 (by omega) (by omega))) rfl rfl rfl ?_; clear E a; intro a E; refine S_eff E rfl (fun K hK => ?_); refine eff_call E rfl rfl rfl (by kernel_rfl) ?_
    have HG := H.at_ 1 _ rfl
    refine (Delete_any (i := placeV wait.length k) rfl (by omega) (by omega) HG.givex HG.give).mono ?_; rintro e w ⟨rfl, H1⟩
    replace H := HG.callG H1
    clear H1; replace H : Sep _ _ _ _ [_, _, _, _, _, _] [_, _, _, _] := H; refine hK _ _ ?_; clear hK K; refine S_put E rfl rfl ?_; clear E a; intro a E; clear HG; refine S_val E (pk_fieldAddr (off := 2) rfl rfl (by kernel_rfl)) rfl rfl rfl ?_; clear E a; intro a E; refine S_eff E rfl (fun K hK => ?_); refine eff_store 5 (new := [.one _]) E H rfl rfl rfl rfl rfl (by repeat (first | exact trivial | refine ⟨rfl, ?_⟩ | refine ⟨fun _ _ => rfl, ?_⟩)) rfl (by kernel_rfl) rfl ?_; clear H; intro w H _; replace H : Sep _ _ _ _ [_, _, _, _, _, _] _ := H; refine hK _ _ ?_; clear hK K; refine S_put0 rfl ?_; refine hK7 _ _ ?_; refine wp_seq_k fun K8 hK8 => ?_; refine C_region E H [b4] 3 [(0, false), (1, false), (2, true)] (by kernel_rfl) (by kernel_rfl) (fun w HS => ?_)
    (simp only [canOps, List.getElem?_cons_zero, List.getElem?_cons_succ, List.drop_succ_cons, List.drop_zero])
    clear H
    have H := HS
    have hsz : w.heap.size ≤ w.heap.size := Nat.le_refl _
    have HK : CanB.Keep (fun k => k < w.heap.size ∧ k ∉ [b4]) w w := CanB.Keep.refl _ _
    refine C_val E HK (pk_load (n := 3) HS 1 rfl rfl rfl (HS.inS 1 rfl (by first | exact fun hm => HS.neq 1 0 rfl rfl (by decide) (List.mem_singleton.1 hm) | exact fun hm => HS.neq 1 2 rfl rfl (by decide) (List.mem_singleton.1 hm) | exact fun hm => HS.neq 1 3 rfl rfl (by decide) (List.mem_singleton.1 hm) | exact fun hm => HS.neq 1 4 rfl rfl (by decide) (List.mem_singleton.1 hm) | exact fun hm => HS.neq 1 5 rfl rfl (by decide) (List.mem_singleton.1 hm))) rfl (by kernel_rfl)) rfl rfl rfl (fun _ _ _ _ h => h) ?_; clear E a; intro a E
    refine C_val E HK (pk_load (n := 4) HS 5 rfl rfl rfl (HS.inS 5 rfl (by first | exact fun hm => HS.neq 5 0 rfl rfl (by decide) (List.mem_singleton.1 hm) | exact fun hm => HS.neq 5 1 rfl rfl (by decide) (List.mem_singleton.1 hm) | exact fun hm => HS.neq 5 2 rfl rfl (by decide) (List.mem_singleton.1 hm) | exact fun hm => HS.neq 5 3 rfl rfl (by decide) (List.mem_singleton.1 hm) | exact fun hm => HS.neq 5 4 rfl rfl (by decide) (List.mem_singleton.1 hm))) rfl (by kernel_rfl)) rfl rfl rfl (fun _ _ _ _ h => h) ?_; clear E a; intro a E; refine C_eff E rfl (fun K hK => ?_); refine eff_store 4 E H rfl rfl rfl rfl rfl (by repeat (first | exact trivial | refine ⟨rfl, ?_⟩ | refine ⟨fun _ _ => rfl, ?_⟩)) rfl (by kernel_rfl) rfl ?_; clear H; intro w H F; replace H : Sep _ _ _ _ [_, _, _, _, _, _] _ := H
    have hk := keep_frm (D := [b4]) F hsz (by simp)
    refine hK _ _ hk ?_; clear hK K
    replace HK := HK.trans hk
    replace hsz := Nat.le_trans hsz (F).size
    clear hk; refine C_put0 rfl ?_; refine CanB.wpCan_nil ?_
    try (simp only [List.take_succ_cons, List.take_zero, List.drop_succ_cons, List.drop_zero])
    clear HS HK hsz; refine S_eff E rfl (fun K hK => ?_); refine eff_store 3 E H rfl rfl rfl rfl rfl (by repeat (first | exact trivial | refine ⟨rfl, ?_⟩ | refine ⟨fun _ _ => rfl, ?_⟩)) rfl (by kernel_rfl) rfl ?_; clear H; intro w H _; replace H : Sep _ _ _ _ [_, _, _, _, _, _] _ := H; refine hK _ _ ?_; clear hK K; refine S_put0 rfl ?_; refine S_val E (pk_assign rfl rfl) rfl rfl rfl ?_; clear E a; intro a E; refine hK8 _ _ ?_; refine wp_ret ?_
    repeat (first | refine then_ret ?_ | refine block_ret ?_)
    refine ret3 rfl E (by exact resC (n := 3) H 4 rfl rfl rfl (by kernel_rfl)) (by exact resC (n := 4) H 3 rfl rfl rfl (by kernel_rfl)) (resT rfl) ?_
    have hP : takeV ⟨ep, log, wait, nx⟩ k = (wait[placeV wait.length k], ⟨ep, log, wait.eraseIdx (placeV wait.length k), nx⟩, 0) := by
      unfold takeV
      rw [if_neg (by rw [hok]; decide), if_neg h0]
      simp only [List.getD_eq_getElem?_getD, hwx, Option.getD_some]
    have hne : ((es.eraseIdx (placeV wait.length k)).map Prod.fst) = wait.eraseIdx (placeV wait.length k) := by rw [← hes, map_eraseIdx]
    replace H := H.know (nest_sub (b := es.eraseIdx (placeV wait.length k)) (H.fact 0 rfl) fun p hp => List.mem_of_mem_eraseIdx hp)
    replace H := H.know (nest_get (H.fact 1 rfl) hex)
    obtain ⟨wm2, HW⟩ := (H.at_ 0 _ rfl).freezeL (xs := wait.eraseIdx (placeV wait.length k)) (by rw [List.length_eraseIdx, if_pos (by omega)]) (by simp) hne
    obtain ⟨lm2, HL⟩ := (HW.at_ 1 _ rfl).freezeL (xs := log) rfl (by simp) hds
    have e2 : es.length - 1 = (wait.eraseIdx (placeV wait.length k)).length := by rw [List.length_eraseIdx, if_pos (by omega)]; omega
    have H2 := HL.refacts (List.forall_mem_cons.2 ⟨HL.fact 2 rfl, List.forall_mem_cons.2 ⟨HL.fact 0 rfl, List.forall_mem_cons.2 ⟨HL.fact 1 rfl, List.forall_mem_nil _⟩⟩⟩)
    rw [hP]
    refine ⟨mm.1, mm.2, LA9, lc9, lm2, WA9, wc9, wm2, ?_, (H2.keepLR (L := []) (R := [_, _, _]))⟩
    rw [hds2, e2]
set_option maxRecDepth 100000 in
set_option maxHeartbeats 4000000 in
theorem Back_any {ep nx : Int} {LA WA : Option Addr} {lc wc : Nat} {log : List (List Nat)} {wait : List Ltr} {lm : Nat → TextT.μ} {wm : Nat → LtrT.μ} {TA : Option Addr} {tc : Nat} {no rc : Int} {text : List Nat} {X : List Nat} {w0 : World} (hX : ∀ k ∈ X, k < w0.heap.size) (hL : St (LiF TextT LA lc log lm) w0 X) (hW : St (LiF LtrT WA wc wait wm) w0 X) (hT : St (TxF TA tc text) w0 X) :
    Calls Try.prog 25 #[.agg (ca [.one (.int .u64 ep), .one (.slice LA log.length lc), .one (.slice WA wait.length wc), .one (.int .i64 nx)]), .agg (ca [.one (.int .i64 no), .one (.int .i64 rc), .one (.slice TA text.length tc)])] w0 fun e w' => ∃ LA' lc' lm' WA' wc' wm', e = .returned (.tuple #[.agg (ca [.one (.int .u64 (backV ⟨ep, log, wait, nx⟩ ⟨no, rc, text⟩).1.ep), .one (.slice LA' (backV ⟨ep, log, wait, nx⟩ ⟨no, rc, text⟩).1.log.length lc'), .one (.slice WA' (backV ⟨ep, log, wait, nx⟩ ⟨no, rc, text⟩).1.wait.length wc'), .one (.int .i64 (backV ⟨ep, log, wait, nx⟩ ⟨no, rc, text⟩).1.nx)]), .int .i64 (backV ⟨ep, log, wait, nx⟩ ⟨no, rc, text⟩).2]) ∧ Sep X [] w0 w' [] [LiF TextT LA' lc' (backV ⟨ep, log, wait, nx⟩ ⟨no, rc, text⟩).1.log lm', LiF LtrT WA' wc' (backV ⟨ep, log, wait, nx⟩ ⟨no, rc, text⟩).1.wait wm'] := by
  have hLb := hL.now.big
  have hWb := hW.now.big
  refine calls_env Try.ntmps25 Try.func25 rfl rfl fun a E => ?_; replace E : Env a _ [(0, _), (1, _)] := E
  have H : Sep X [] w0 w0 [] [(LiF TextT LA lc log lm), (LiF LtrT WA wc wait wm), (TxF TA tc text)] := Sep.start hX (List.forall_mem_cons.2 ⟨hL, List.forall_mem_cons.2 ⟨hW, List.forall_mem_cons.2 ⟨hT, fun _ h => by cases h⟩⟩⟩)
  refine wp_seq_k fun K0 hK0 => ?_; refine S_region ?_; refine S_eff E rfl (fun K hK => ?_); refine eff_box E H rfl rfl rfl ?_; clear H; intro b2 w H _; refine hK _ _ ?_; clear hK K; refine S_put E rfl rfl ?_; clear E a; intro a E; refine S_eff E rfl (fun K hK => ?_); refine eff_box E H rfl rfl rfl ?_; clear H; intro b3 w H _; refine hK _ _ ?_; clear hK K; refine S_put E rfl rfl ?_; clear E a; intro a E; refine S_eff E rfl (fun K hK => ?_); refine eff_alloc (z := [.one (.int .u64 0), .one (.slice none 0 0), .one (.slice none 0 0), .one (.int .i64 0)]) H rfl (by kernel_rfl) ?_; clear H; intro b4 w H _; refine hK _ _ ?_; clear hK K; refine S_put E rfl rfl ?_; clear E a; intro a E; refine S_val E (pk_assign rfl rfl) rfl rfl rfl ?_; clear E a; intro a E; refine hK0 _ _ ?_; refine wp_seq_k fun K1 hK1 => ?_; refine wp_block ?_; refine wp_seq_k fun K2 hK2 => ?_; refine S_region ?_
  refine S_val E (pk_load (n := 4) H 2 rfl rfl rfl trivial rfl (by kernel_rfl)) rfl rfl rfl ?_; clear E a; intro a E; refine S_eff E rfl (fun K hK => ?_); refine eff_call E rfl rfl rfl (by kernel_rfl) ?_; refine (Check_any H.xk (H.fact 0 rfl) (H.fact 1 rfl)).mono ?_; rintro e w ⟨rfl, H1⟩
  replace H := H.call H1
  clear H1; replace H : Sep _ _ _ _ [_, _, _] [_, _, _] := H; refine hK _ _ ?_; clear hK K; refine S_put E rfl rfl ?_; clear E a; intro a E; refine S_val E (pk_int rfl rfl rfl rfl) rfl rfl rfl ?_; clear E a; intro a E; refine S_val E (pk_move rfl rfl) rfl rfl rfl ?_; clear E a; intro a E; refine env_split (d := 10) E rfl ?_ ?_
  · skip
    clear E; intro c10 E
    have hok : okS ⟨ep, log, wait, nx⟩ = false := by simpa using ok_ne c10
    refine S_skip E rfl rfl rfl ?_; clear E a; intro a E; refine S_skip E rfl rfl rfl ?_; clear E a; intro a E; refine S_skip E rfl rfl rfl ?_; clear E a; intro a E; refine S_val E (pk_pick rfl rfl rfl) rfl rfl rfl ?_; clear E a; intro a E; refine S_val E (pk_assign rfl rfl) rfl rfl rfl ?_; clear E a; intro a E; refine hK2 _ _ ?_; refine S_then E rfl ?_; refine wp_seq_k fun K3 hK3 => ?_; refine S_region ?_; refine S_val E (pk_build (z := [.one (.int .u64 0), .one (.slice none 0 0), .one (.slice none 0 0), .one (.int .i64 0)]) rfl (by kernel_rfl) (by kernel_rfl) rfl) rfl rfl rfl ?_; clear E a; intro a E; refine S_eff E rfl (fun K hK => ?_); refine eff_store 0 E H rfl rfl rfl rfl rfl (by repeat (first | exact trivial | refine ⟨rfl, ?_⟩ | refine ⟨fun _ _ => rfl, ?_⟩)) rfl (by kernel_rfl) rfl ?_; clear H; intro w H _; replace H : Sep _ _ _ _ [_, _, _] _ := H; refine hK _ _ ?_; clear hK K
    refine S_put0 rfl ?_; refine S_val E (pk_assign rfl rfl) rfl rfl rfl ?_; clear E a; intro a E; refine hK3 _ _ ?_; refine wp_ret ?_
    repeat (first | refine then_ret ?_ | refine block_ret ?_)
    refine ret2 rfl E (by exact resC (n := 4) H 0 rfl rfl rfl (by kernel_rfl)) (resT rfl) ?_
    have hP : backV ⟨ep, log, wait, nx⟩ ⟨no, rc, text⟩ = (noSrv, 1) := by
      unfold backV
      exact if_pos (Or.inl hok)
    rw [hP]
    exact ⟨none, 0, fun _ => TextT.dft, none, 0, fun _ => LtrT.dft, rfl, ((H.keepLR (L := []) (R := [])).know liF_nil).know liF_nil⟩
  · skip
    clear E; intro c10 E
    have hok : okS ⟨ep, log, wait, nx⟩ = true := by simpa using ok_ne c10
    obtain ⟨k1, k2, k3, k4, k5, k6⟩ := okS_of hok
    simp only at k1 k2 k3 k4 k5 k6
    refine S_val E (pk_load (n := 4) H 2 rfl rfl rfl trivial rfl (by kernel_rfl)) rfl rfl rfl ?_; clear E a; intro a E; refine S_val E (pk_load (n := 3) H 1 rfl rfl rfl trivial rfl (by kernel_rfl)) rfl rfl rfl ?_; clear E a; intro a E; refine S_eff E rfl (fun K hK => ?_); refine eff_call E rfl rfl rfl (by kernel_rfl) ?_; refine (odd_any H.xk).mono ?_; rintro e w ⟨rfl, H1⟩
    replace H := H.call H1
    clear H1; replace H : Sep _ _ _ _ [_, _, _] [_, _, _] := H; refine hK _ _ ?_; clear hK K; refine S_put E rfl rfl ?_; clear E a; intro a E; refine S_val E (pk_pick rfl rfl rfl) rfl rfl rfl ?_; clear E a; intro a E; refine S_val E (pk_assign rfl rfl) rfl rfl rfl ?_; clear E a; intro a E; refine hK2 _ _ ?_; refine env_split (d := 6) E rfl ?_ ?_
    · skip
      clear E; intro c6 E; refine S_then E rfl ?_; refine wp_seq_k fun K4 hK4 => ?_; refine S_region ?_; refine S_val E (pk_build (z := [.one (.int .u64 0), .one (.slice none 0 0), .one (.slice none 0 0), .one (.int .i64 0)]) rfl (by kernel_rfl) (by kernel_rfl) rfl) rfl rfl rfl ?_; clear E a; intro a E; refine S_eff E rfl (fun K hK => ?_); refine eff_store 0 E H rfl rfl rfl rfl rfl (by repeat (first | exact trivial | refine ⟨rfl, ?_⟩ | refine ⟨fun _ _ => rfl, ?_⟩)) rfl (by kernel_rfl) rfl ?_; clear H; intro w H _; replace H : Sep _ _ _ _ [_, _, _] _ := H; refine hK _ _ ?_; clear hK K; refine S_put0 rfl ?_; refine S_val E (pk_assign rfl rfl) rfl rfl rfl ?_; clear E a; intro a E; refine hK4 _ _ ?_; refine wp_ret ?_
      repeat (first | refine then_ret ?_ | refine block_ret ?_)
      refine ret2 rfl E (by exact resC (n := 4) H 0 rfl rfl rfl (by kernel_rfl)) (resT rfl) ?_
      have hP : backV ⟨ep, log, wait, nx⟩ ⟨no, rc, text⟩ = (noSrv, 1) := by
        unfold backV
        exact if_pos (Or.inr c6)
      rw [hP]
      exact ⟨none, 0, fun _ => TextT.dft, none, 0, fun _ => LtrT.dft, rfl, ((H.keepLR (L := []) (R := [])).know liF_nil).know liF_nil⟩
    · skip
      clear E; intro c6 E; refine S_else E rfl ?_; refine wp_seq_k fun K5 hK5 => ?_; refine S_region ?_; refine S_val E (pk_fieldAddr (off := 2) rfl rfl (by kernel_rfl)) rfl rfl rfl ?_; clear E a; intro a E; refine S_val E (pk_load1 H 2 rfl rfl rfl trivial rfl (by kernel_rfl)) rfl rfl rfl ?_; clear E a; intro a E; refine S_val E (pk_len rfl rfl (by kernel_rfl)) rfl rfl rfl ?_; clear E a; intro a E; refine S_val E (pk_int rfl rfl rfl rfl) rfl rfl rfl ?_; clear E a; intro a E; refine S_val E (pk_assign rfl rfl) rfl rfl rfl ?_; clear E a; intro a E; refine hK5 _ _ ?_; refine env_split (d := 16) E rfl ?_ ?_
      · skip
        clear E; intro c16 E
        have h2 : wait.length = 20000 := by have := eq_of_beq c16; omega
        refine S_then E rfl ?_; refine wp_seq_k fun K6 hK6 => ?_; refine S_region ?_; refine S_val E (pk_build (z := [.one (.int .u64 0), .one (.slice none 0 0), .one (.slice none 0 0), .one (.int .i64 0)]) rfl (by kernel_rfl) (by kernel_rfl) rfl) rfl rfl rfl ?_; clear E a; intro a E; refine S_eff E rfl (fun K hK => ?_); refine eff_store 0 E H rfl rfl rfl rfl rfl (by repeat (first | exact trivial | refine ⟨rfl, ?_⟩ | refine ⟨fun _ _ => rfl, ?_⟩)) rfl (by kernel_rfl) rfl ?_; clear H; intro w H _; replace H : Sep _ _ _ _ [_, _, _] _ := H; refine hK _ _ ?_; clear hK K; refine S_put0 rfl ?_; refine S_val E (pk_assign rfl rfl) rfl rfl rfl ?_; clear E a; intro a E; refine hK6 _ _ ?_; refine wp_ret ?_
        repeat (first | refine then_ret ?_ | refine block_ret ?_)
        refine ret2 rfl E (by exact resC (n := 4) H 0 rfl rfl rfl (by kernel_rfl)) (resT rfl) ?_
        have hP : backV ⟨ep, log, wait, nx⟩ ⟨no, rc, text⟩ = (noSrv, 8) := by
          unfold backV
          rw [if_neg (by simp only [hok, c6]; decide)]
          exact if_pos h2
        rw [hP]
        exact ⟨none, 0, fun _ => TextT.dft, none, 0, fun _ => LtrT.dft, rfl, ((H.keepLR (L := []) (R := [])).know liF_nil).know liF_nil⟩
      · skip
        clear E; intro c16 E
        have h2 : ¬ wait.length = 20000 := by have := ne_of_beq_false c16; omega
        refine S_else E rfl ?_; refine wp_skip ?_; refine hK1 _ _ ?_; refine wp_seq_k fun K7 hK7 => ?_; refine S_region ?_; refine S_val E (pk_load (n := 4) H 2 rfl rfl rfl trivial rfl (by kernel_rfl)) rfl rfl rfl ?_; clear E a; intro a E; refine S_eff E rfl (fun K hK => ?_); refine eff_call E rfl rfl rfl (by kernel_rfl) ?_; refine (own_any (by omega) (by omega) H.xk (H.fact 0 rfl) (H.fact 1 rfl)).mono ?_; rintro e w ⟨LA9, lc9, WA9, wc9, ds, es, hds, hes, rfl, H1⟩
        replace H := H.call H1
        clear H1; replace H : Sep _ _ _ _ [_, _, _, _, _] [_, _, _, _, _] := H; refine hK _ _ ?_; clear hK K; refine S_put E rfl rfl ?_; clear E a; intro a E
        have hds2 : ds.length = log.length := by rw [← hds, List.length_map]
        have hes2 : es.length = wait.length := by rw [← hes, List.length_map]
        refine S_eff E rfl (fun K hK => ?_); refine eff_store 4 E H rfl rfl rfl rfl rfl (by repeat (first | exact trivial | refine ⟨rfl, ?_⟩ | refine ⟨fun _ _ => rfl, ?_⟩)) rfl (by kernel_rfl) rfl ?_; clear H; intro w H _; replace H : Sep _ _ _ _ [_, _, _, _, _] _ := H; refine hK _ _ ?_; clear hK K; refine S_put0 rfl ?_; refine hK7 _ _ ?_; refine wp_seq_k fun K8 hK8 => ?_; refine S_region ?_; refine S_val E (pk_fieldAddr (off := 2) rfl rfl (by kernel_rfl)) rfl rfl rfl ?_; clear E a; intro a E; refine S_val E (pk_load1 H 3 rfl rfl rfl trivial rfl (by kernel_rfl)) rfl rfl rfl ?_; clear E a; intro a E; refine S_eff E rfl (fun K hK => ?_); refine eff_call E rfl rfl rfl (by kernel_rfl) ?_; refine (clone_sep H.xk (H.fact 4 rfl)).mono ?_; rintro e w ⟨A26, c26, rfl, H1⟩
        replace H := H.call H1
        clear H1; replace H : Sep _ _ _ _ [_, _, _, _, _] [_, _, _, _, _, _] := H; refine hK _ _ ?_; clear hK K; refine S_put E rfl rfl ?_; clear E a; intro a E; refine S_val E (pk_fieldAddr (off := 2) rfl rfl (by kernel_rfl)) rfl rfl rfl ?_; clear E a; intro a E; refine S_eff E rfl (fun K hK => ?_); refine eff_store 3 (new := [.one _]) E H rfl rfl rfl rfl rfl (by repeat (first | exact trivial | refine ⟨rfl, ?_⟩ | refine ⟨fun _ _ => rfl, ?_⟩)) rfl (by kernel_rfl) rfl ?_; clear H; intro w H _; replace H : Sep _ _ _ _ [_, _, _, _, _] _ := H; refine hK _ _ ?_; clear hK K; refine S_put0 rfl ?_; refine hK8 _ _ ?_; refine wp_seq_k fun K9 hK9 => ?_; refine S_region ?_; refine S_val E (pk_fieldAddr (off := 2) rfl rfl (by kernel_rfl)) rfl rfl rfl ?_; clear E a; intro a E; refine S_val E (pk_load1 H 4 rfl rfl rfl trivial rfl (by kernel_rfl)) rfl rfl rfl ?_; clear E a; intro a E
        refine S_val E (pk_load (n := 3) H 3 rfl rfl rfl trivial rfl (by kernel_rfl)) rfl rfl rfl ?_; clear E a; intro a E; refine S_eff E rfl (fun K hK => ?_); refine eff_bslice (sz := 3) (z := [.one (.int .i64 0), .one (.int .i64 0), .one (.slice none 0 0)]) E H rfl Try.underlying28 (by kernel_rfl) (by decide) (by kernel_rfl) ⟨_, _, 0, _, rfl, rfl, rfl, rfl, rfl⟩ ?_; clear H; intro b31 w H _; refine hK _ _ ?_; clear hK K; refine S_put E rfl rfl ?_; clear E a; intro a E; refine S_eff E rfl (fun K hK => ?_); refine eff_app1 (T := LtrT) (q := (((⟨no, rc, text⟩ : Ltr), (A26, c26)) : Ltr × LtrT.μ)) (its := es) 1 0 (by_ := 40) E H rfl rfl rfl rfl rfl rfl ⟨Try.underlying28, by kernel_rfl⟩ (by omega) (by omega) ?_; clear H; intro A32 c32 w hcap32 H F; replace H : Sep _ _ _ _ [_, _, _, _, _, _] _ := H; refine hK _ _ ?_; clear hK K; refine S_put E rfl rfl ?_
        clear E a; intro a E; clear F; refine S_val E (pk_fieldAddr (off := 2) rfl rfl (by kernel_rfl)) rfl rfl rfl ?_; clear E a; intro a E; refine S_eff E rfl (fun K hK => ?_); refine eff_store 5 (new := [.one _]) E H rfl rfl rfl rfl rfl (by repeat (first | exact trivial | refine ⟨rfl, ?_⟩ | refine ⟨fun _ _ => rfl, ?_⟩)) rfl (by kernel_rfl) rfl ?_; clear H; intro w H _; replace H : Sep _ _ _ _ [_, _, _, _, _, _] _ := H; refine hK _ _ ?_; clear hK K; refine S_put0 rfl ?_; refine hK9 _ _ ?_; refine wp_seq_k fun K10 hK10 => ?_; refine S_region ?_; refine S_val E (pk_load (n := 4) H 5 rfl rfl rfl trivial rfl (by kernel_rfl)) rfl rfl rfl ?_; clear E a; intro a E; refine S_eff E rfl (fun K hK => ?_); refine eff_store 3 E H rfl rfl rfl rfl rfl (by repeat (first | exact trivial | refine ⟨rfl, ?_⟩ | refine ⟨fun _ _ => rfl, ?_⟩)) rfl (by kernel_rfl) rfl ?_; clear H; intro w H _
        replace H : Sep _ _ _ _ [_, _, _, _, _, _] _ := H; refine hK _ _ ?_; clear hK K; refine S_put0 rfl ?_; refine S_val E (pk_assign rfl rfl) rfl rfl rfl ?_; clear E a; intro a E; refine hK10 _ _ ?_; refine wp_ret ?_
        repeat (first | refine then_ret ?_ | refine block_ret ?_)
        refine ret2 rfl E (by exact resC (n := 4) H 3 rfl rfl rfl (by kernel_rfl)) (resT rfl) ?_
        have hP : backV ⟨ep, log, wait, nx⟩ ⟨no, rc, text⟩ = (⟨ep, log, wait ++ [⟨no, rc, text⟩], nx⟩, 0) := by
          unfold backV
          rw [if_neg (by simp only [hok, c6]; decide)]
          exact if_neg h2
        replace H := H.know (nest_snoc (q := (((⟨no, rc, text⟩ : Ltr), (A26, c26)) : Ltr × LtrT.μ)) (H.fact 1 rfl) (H.fact 0 rfl))
        obtain ⟨wm2, HW⟩ := (H.at_ 1 _ rfl).freezeL (xs := wait ++ [⟨no, rc, text⟩]) rfl (by simp) (by rw [List.map_append, hes]; rfl)
        obtain ⟨lm2, HL⟩ := (HW.at_ 1 _ rfl).freezeL (xs := log) rfl (by simp) hds
        rw [hP]
        refine ⟨LA9, lc9, lm2, A32, c32, wm2, ?_, HL.keepLR (L := []) (R := [_, _])⟩
        rw [hds2, List.length_append, List.length_append, hes2]
        rfl
set_option maxRecDepth 100000 in
set_option maxHeartbeats 4000000 in
theorem Twice_any {ep nx : Int} {LA WA : Option Addr} {lc wc : Nat} {log : List (List Nat)} {wait : List Ltr} {lm : Nat → TextT.μ} {wm : Nat → LtrT.μ} {k : Int} (hk : -9223372036854775808 ≤ k ∧ k ≤ 9223372036854775807) {X : List Nat} {w0 : World} (hX : ∀ k ∈ X, k < w0.heap.size) (hL : St (LiF TextT LA lc log lm) w0 X) (hW : St (LiF LtrT WA wc wait wm) w0 X) :
    Calls Try.prog 24 #[.agg (ca [.one (.int .u64 ep), .one (.slice LA log.length lc), .one (.slice WA wait.length wc), .one (.int .i64 nx)]), .int .i64 k] w0 fun e w' => ∃ LA' lc' lm' WA' wc' wm', e = .returned (.tuple #[.agg (ca [.one (.int .u64 (twiceV ⟨ep, log, wait, nx⟩ k).1.ep), .one (.slice LA' (twiceV ⟨ep, log, wait, nx⟩ k).1.log.length lc'), .one (.slice WA' (twiceV ⟨ep, log, wait, nx⟩ k).1.wait.length wc'), .one (.int .i64 (twiceV ⟨ep, log, wait, nx⟩ k).1.nx)]), .int .i64 (twiceV ⟨ep, log, wait, nx⟩ k).2]) ∧ Sep X [] w0 w' [] [LiF TextT LA' lc' (twiceV ⟨ep, log, wait, nx⟩ k).1.log lm', LiF LtrT WA' wc' (twiceV ⟨ep, log, wait, nx⟩ k).1.wait wm'] := by
  have hLb := hL.now.big
  have hWb := hW.now.big
  refine calls_env Try.ntmps24 Try.func24 rfl rfl fun a E => ?_; replace E : Env a _ [(0, _), (1, _)] := E
  have H : Sep X [] w0 w0 [] [(LiF TextT LA lc log lm), (LiF LtrT WA wc wait wm)] := Sep.start hX (List.forall_mem_cons.2 ⟨hL, List.forall_mem_cons.2 ⟨hW, fun _ h => by cases h⟩⟩)
  refine wp_seq_k fun K0 hK0 => ?_; refine S_region ?_; refine S_eff E rfl (fun K hK => ?_); refine eff_box E H rfl rfl rfl ?_; clear H; intro b2 w H _; refine hK _ _ ?_; clear hK K; refine S_put E rfl rfl ?_; clear E a; intro a E; refine S_eff E rfl (fun K hK => ?_); refine eff_alloc (z := [.one (.int .u64 0), .one (.slice none 0 0), .one (.slice none 0 0), .one (.int .i64 0)]) H rfl (by kernel_rfl) ?_; clear H; intro b4 w H _; refine hK _ _ ?_; clear hK K; refine S_put E rfl rfl ?_; clear E a; intro a E; refine S_val E (pk_assign rfl rfl) rfl rfl rfl ?_; clear E a; intro a E; refine hK0 _ _ ?_; refine wp_seq_k fun K1 hK1 => ?_; refine S_region ?_; refine S_val E (pk_load (n := 4) H 1 rfl rfl rfl trivial rfl (by kernel_rfl)) rfl rfl rfl ?_; clear E a; intro a E; refine S_val E (pk_move rfl rfl) rfl rfl rfl ?_; clear E a; intro a E; refine S_eff E rfl (fun K hK => ?_)
  refine eff_call E rfl rfl rfl (by kernel_rfl) ?_; refine (at_any hk H.xk (H.fact 0 rfl) (H.fact 1 rfl)).mono ?_; rintro e w ⟨rfl, H1⟩
  replace H := H.call H1
  clear H1; replace H : Sep _ _ _ _ [_, _] [_, _] := H; refine hK _ _ ?_; clear hK K; refine S_put E rfl rfl ?_; clear E a; intro a E; refine S_val E (pk_move rfl rfl) rfl rfl rfl ?_; clear E a; intro a E; refine S_val E (pk_extract rfl rfl rfl) rfl rfl rfl ?_; clear E a; intro a E; refine S_val E (pk_extract rfl rfl rfl) rfl rfl rfl ?_; clear E a; intro a E; refine S_val E (pk_assign rfl rfl) rfl rfl rfl ?_; clear E a; intro a E; refine S_val E (pk_assign rfl rfl) rfl rfl rfl ?_; clear E a; intro a E; refine hK1 _ _ ?_; refine wp_seq_k fun K2 hK2 => ?_; refine wp_seq_k fun K3 hK3 => ?_; refine S_region ?_; refine S_val E (pk_move rfl rfl) rfl rfl rfl ?_; clear E a; intro a E; refine S_val E (pk_int rfl rfl rfl rfl) rfl rfl rfl ?_; clear E a; intro a E; refine hK3 _ _ ?_; refine env_split (d := 15) E rfl ?_ ?_
  · skip
    clear E; intro c15 E
    have hat2 : ¬ (atV ⟨ep, log, wait, nx⟩ k).2 = 0 := by have := c15; simpa using this
    refine S_then E rfl ?_; refine wp_seq_k fun K4 hK4 => ?_; refine S_region ?_; refine S_val E (pk_build (z := [.one (.int .u64 0), .one (.slice none 0 0), .one (.slice none 0 0), .one (.int .i64 0)]) rfl (by kernel_rfl) (by kernel_rfl) rfl) rfl rfl rfl ?_; clear E a; intro a E; refine S_val E (pk_move rfl rfl) rfl rfl rfl ?_; clear E a; intro a E; refine S_eff E rfl (fun K hK => ?_); refine eff_store 0 E H rfl rfl rfl rfl rfl (by repeat (first | exact trivial | refine ⟨rfl, ?_⟩ | refine ⟨fun _ _ => rfl, ?_⟩)) rfl (by kernel_rfl) rfl ?_; clear H; intro w H _; replace H : Sep _ _ _ _ [_, _] _ := H; refine hK _ _ ?_; clear hK K; refine S_put0 rfl ?_; refine S_val E (pk_assign rfl rfl) rfl rfl rfl ?_; clear E a; intro a E; refine hK4 _ _ ?_; refine wp_ret ?_
    repeat (first | refine then_ret ?_ | refine block_ret ?_)
    refine ret2 rfl E (by exact resC (n := 4) H 0 rfl rfl rfl (by kernel_rfl)) (resT rfl) ?_
    have hP : twiceV ⟨ep, log, wait, nx⟩ k = (noSrv, (atV ⟨ep, log, wait, nx⟩ k).2) := by
      unfold twiceV atV
      unfold atV at hat2
      by_cases hq : okS ⟨ep, log, wait, nx⟩ = false
      · rw [if_pos hq, if_pos hq]
      · rw [if_neg hq, if_neg hq]
        by_cases h0 : wait.length = 0
        · rw [if_pos h0, if_pos h0]
        · rw [if_neg hq, if_neg h0] at hat2
          exact absurd rfl hat2
    rw [hP]
    exact ⟨none, 0, fun _ => TextT.dft, none, 0, fun _ => LtrT.dft, rfl, ((H.keepLR (L := []) (R := [])).know liF_nil).know liF_nil⟩
  · skip
    clear E; intro c15 E
    have hat2 : (atV ⟨ep, log, wait, nx⟩ k).2 = 0 := by have := c15; simpa using this
    have hok : okS ⟨ep, log, wait, nx⟩ = true := by
      cases hq : okS ⟨ep, log, wait, nx⟩ with
      | true => rfl
      | false => unfold atV at hat2; rw [if_pos hq] at hat2; cases hat2
    obtain ⟨k1, k2, k3, k4, k5, k6⟩ := okS_of hok
    simp only at k1 k2 k3 k4 k5 k6
    have h0 : ¬ wait.length = 0 := fun h => by
      unfold atV at hat2
      rw [if_neg (by rw [hok]; decide), if_pos h] at hat2
      cases hat2
    have hat1 : (atV ⟨ep, log, wait, nx⟩ k).1 = ((placeV wait.length k : Nat) : Int) := by unfold atV; rw [if_neg (by rw [hok]; decide), if_neg h0]
    have hpl := placeV_lt k (n := wait.length) (by omega)
    have hwx : wait[placeV wait.length k]? = some wait[placeV wait.length k] := List.getElem?_eq_getElem hpl
    rw [hat1] at E
    refine S_else E rfl ?_; refine wp_skip ?_; refine hK2 _ _ ?_; refine wp_seq_k fun K5 hK5 => ?_; refine C_region E H [] 9 [(0, false), (1, false), (2, false), (3, false), (4, false), (5, false), (6, true), (7, false), (8, false)] (by kernel_rfl) (by kernel_rfl) (fun w HS => ?_)
    (simp only [canOps, List.getElem?_cons_zero, List.getElem?_cons_succ, List.drop_succ_cons, List.drop_zero])
    clear H
    have H := HS
    have hsz : w.heap.size ≤ w.heap.size := Nat.le_refl _
    have HK : CanB.Keep (fun k => k < w.heap.size ∧ k ∉ []) w w := CanB.Keep.refl _ _
    refine C_val E HK (pk_load (n := 4) HS 1 rfl rfl rfl (HS.inS 1 rfl (by simp)) rfl (by kernel_rfl)) rfl rfl rfl (fun _ _ _ _ h => h) ?_; clear E a; intro a E; refine C_val E HK (pk_fieldAddr (off := 2) rfl rfl (by kernel_rfl)) rfl rfl rfl (fun _ _ _ _ h => h) ?_; clear E a; intro a E; refine C_val E HK (pk_load1 HS 1 rfl rfl rfl (HS.inS 1 rfl (by simp)) rfl (by kernel_rfl)) rfl rfl rfl (fun _ _ _ _ h => h) ?_; clear E a; intro a E; refine C_val E HK (pk_move rfl rfl) rfl rfl rfl (fun _ _ _ _ h => h) ?_; clear E a; intro a E
    obtain ⟨ad22, hA22, hc22, hn22⟩ := LiF.get (A := WA) (T := LtrT) (i := placeV wait.length k) (x := wait[placeV wait.length k]) (by exact HS.fact 1 rfl) hwx
    refine C_val E HK (pk_elA (sz := 3) hA22 rfl (by kernel_rfl) rfl rfl rfl (by omega)) rfl rfl rfl (fun _ _ _ _ h => h) ?_; clear E a; intro a E; refine C_val E HK (pk_loadE (n := 3) hc22 (fun k h _ => ⟨h, by simp⟩) rfl rfl rfl (by kernel_rfl)) rfl rfl rfl (fun _ _ _ _ h => h) ?_; clear E a; intro a E; refine C_eff E rfl (fun K hK => ?_); refine eff_call E rfl rfl rfl (by kernel_rfl) ?_; refine (Back_any H.xk (H.fact 0 rfl) (H.fact 1 rfl) hn22).mono ?_; rintro e w ⟨LA9, lc9, lm9, WA9, wc9, wm9, rfl, H1⟩
    have F := H1.frm
    replace H := H.call H1
    clear H1; replace H : Sep _ _ _ _ [_, _] [_, _, _, _] := H
    have hk := keep_frm (D := []) F hsz (by simp)
    refine hK _ _ hk ?_; clear hK K
    replace HK := HK.trans hk
    replace hsz := Nat.le_trans hsz (F).size
    clear hk; refine C_put E rfl rfl ?_; clear E a; intro a E; clear F; refine C_val E HK (pk_extract rfl rfl rfl) rfl rfl rfl (fun _ _ _ _ h => h) ?_; clear E a; intro a E; refine C_val E HK (pk_extract rfl rfl rfl) rfl rfl rfl (fun _ _ _ _ h => h) ?_; clear E a; intro a E; refine CanB.wpCan_nil ?_
    try (simp only [List.take_succ_cons, List.take_zero, List.drop_succ_cons, List.drop_zero])
    clear HS HK hsz; refine S_eff E rfl (fun K hK => ?_); refine eff_store 0 E H rfl rfl rfl rfl rfl (by repeat (first | exact trivial | refine ⟨rfl, ?_⟩ | refine ⟨fun _ _ => rfl, ?_⟩)) rfl (by kernel_rfl) rfl ?_; clear H; intro w H _; replace H : Sep _ _ _ _ [_, _] _ := H; refine hK _ _ ?_; clear hK K; refine S_put0 rfl ?_; refine S_val E (pk_assign rfl rfl) rfl rfl rfl ?_; clear E a; intro a E; refine hK5 _ _ ?_; refine wp_ret ?_
    repeat (first | refine then_ret ?_ | refine block_ret ?_)
    refine ret2 rfl E (by exact resC (n := 4) H 0 rfl rfl rfl (by kernel_rfl)) (resT rfl) ?_
    have hP : twiceV ⟨ep, log, wait, nx⟩ k = backV ⟨ep, log, wait, nx⟩ wait[placeV wait.length k] := by
      unfold twiceV
      rw [if_neg (by rw [hok]; decide), if_neg h0]
      simp only [List.getD_eq_getElem?_getD, hwx, Option.getD_some]
    rw [hP]
    exact ⟨LA9, lc9, lm9, WA9, wc9, wm9, rfl, H.keepLR (L := []) (R := [_, _])⟩
end Go.Proofs.Yteefhbpmeajbfaa
namespace Go.Proofs.Yteefhbpmeajbfaa
set_option linter.unusedSimpArgs false
set_option linter.unusedVariables false
open Go.RowKit
attribute [local irreducible] beL beK
/-- A reader that lies in block g; what it reads lies below it. -/
structure RdrAt (w : World) (B g : Nat) (A : Option Addr) (n c : Nat) (s : Rs) : Prop where
  row : w.heap[g]? = some (.cells #[.slice A n c, .bool s.ov] 130 (0, 0))
  low : B ≤ g
  txt : Txt w B A n c s.l
  cap : n ≤ c
  len : n ≤ 140737488355328
  byt : Byt s.l
def Rdr (w : World) (B g : Nat) (s : Rs) : Prop := ∃ A n c, RdrAt w B g A n c s
section
variable {w w' : World} {B g q n c : Nat} {A : Option Addr} {s s' : Rs}
theorem Rdr.own {base sz : Nat} {e : TypeId} {v : Value} {xs : List Value} (h : But g w w') (he : Rdr w B g s) (hr : w.ownsRow base e sz v n xs) (hne : e ≠ 130) : w'.ownsRow base e sz v n xs := by
  obtain ⟨_, _, _, k⟩ := he
  exact h.row hr k.row hne
theorem Rdr.lt1 {v : Nat} (h : Rdr w B g s) (hE : numP 1 s = (v, s')) : v < 256 := by
  obtain ⟨_, _, _, k⟩ := h
  have := numP_lt (k := 1) k.byt
  rw [hE] at this
  exact this
end
end Go.Proofs.Yteefhbpmeajbfaa
namespace Go.Proofs.Yteefhbpmeajbfaa
set_option linter.unusedSimpArgs false
set_option linter.unusedVariables false
open Go.RowKit
attribute [local irreducible] farB oddB cmV wlV frV
theorem ltr_eq (x1 x2 y1 y2 : Int) (xt yt : List Nat) : decide ((⟨x1, x2, xt⟩ : Ltr) = ⟨y1, y2, yt⟩) = ((x1 == y1) && (x2 == y2) && decide (xt = yt)) := by
  rw [Bool.eq_iff_iff]
  simp
  exact ⟨fun ⟨a, b, c⟩ => ⟨⟨a, b⟩, c⟩, fun ⟨⟨a, b⟩, c⟩ => ⟨a, b, c⟩⟩
theorem list_same {α : Type} [DecidableEq α] {xs ys : List α} (hl : xs.length = ys.length) (h : ∀ (i : Nat) x y, xs[i]? = some x → ys[i]? = some y → x = y) : xs = ys := by
  apply List.ext_getElem hl
  intro i h1 h2
  exact h i _ _ (List.getElem?_eq_getElem h1) (List.getElem?_eq_getElem h2)
end Go.Proofs.Yteefhbpmeajbfaa
namespace Go.Proofs.Yteefhbpmeajbfaa
set_option linter.unusedSimpArgs false
set_option linter.unusedVariables false
open Go.RowKit
attribute [local irreducible] farB oddB cmV wlV frV
section
variable {X : List Nat} {w0 w' : World} {A : Option Addr} {c n : Nat} {l : List Nat}
end
set_option maxRecDepth 100000 in
set_option maxHeartbeats 4000000 in
theorem RSameLetter_any {x1 x2 y1 y2 : Int} {xA yA : Option Addr} {xc yc : Nat} {xt yt : List Nat} {X : List Nat} {w0 : World} (hX : ∀ k ∈ X, k < w0.heap.size) (hx : St (TxF xA xc xt) w0 X) (hy : St (TxF yA yc yt) w0 X) :
    Calls Try.prog 26 #[.agg (ca [.one (.int .i64 x1), .one (.int .i64 x2), .one (.slice xA xt.length xc)]), .agg (ca [.one (.int .i64 y1), .one (.int .i64 y2), .one (.slice yA yt.length yc)])] w0 fun e w' => e = .returned (.bool (decide ((⟨x1, x2, xt⟩ : Ltr) = ⟨y1, y2, yt⟩))) ∧ Sep X [] w0 w' [] [] := by
  refine calls_env Try.ntmps26 Try.func26 rfl rfl fun a E => ?_; replace E : Env a _ [(0, _), (1, _)] := E
  have H : Sep X [] w0 w0 [] [(TxF xA xc xt), (TxF yA yc yt)] := Sep.start hX (List.forall_mem_cons.2 ⟨hx, List.forall_mem_cons.2 ⟨hy, fun _ h => by cases h⟩⟩)
  refine wp_seq_k fun K0 hK0 => ?_; refine S_region ?_; refine S_eff E rfl (fun K hK => ?_); refine eff_box E H rfl rfl rfl ?_; clear H; intro b2 w H _; refine hK _ _ ?_; clear hK K; refine S_put E rfl rfl ?_; clear E a; intro a E; refine S_eff E rfl (fun K hK => ?_); refine eff_box E H rfl rfl rfl ?_; clear H; intro b3 w H _; refine hK _ _ ?_; clear hK K; refine S_put E rfl rfl ?_; clear E a; intro a E; refine S_val E (pk_assign rfl rfl) rfl rfl rfl ?_; clear E a; intro a E; refine hK0 _ _ ?_; refine wp_seq_k fun K1 hK1 => ?_; refine S_region ?_; refine S_val E (pk_fieldAddr (off := 0) rfl rfl (by kernel_rfl)) rfl rfl rfl ?_; clear E a; intro a E; refine S_val E (pk_load1 H 1 rfl rfl rfl trivial rfl (by kernel_rfl)) rfl rfl rfl ?_; clear E a; intro a E; refine S_val E (pk_fieldAddr (off := 0) rfl rfl (by kernel_rfl)) rfl rfl rfl ?_; clear E a; intro a E
  refine S_val E (pk_load1 H 0 rfl rfl rfl trivial rfl (by kernel_rfl)) rfl rfl rfl ?_; clear E a; intro a E; refine S_val E (pk_int rfl rfl rfl rfl) rfl rfl rfl ?_; clear E a; intro a E; refine S_val E (pk_move rfl rfl) rfl rfl rfl ?_; clear E a; intro a E; refine env_split (d := 10) E rfl ?_ ?_
  · skip
    clear E; intro c10 E; refine S_val E (pk_fieldAddr (off := 1) rfl rfl (by kernel_rfl)) rfl rfl rfl ?_; clear E a; intro a E; refine S_val E (pk_load1 H 1 rfl rfl rfl trivial rfl (by kernel_rfl)) rfl rfl rfl ?_; clear E a; intro a E; refine S_val E (pk_fieldAddr (off := 1) rfl rfl (by kernel_rfl)) rfl rfl rfl ?_; clear E a; intro a E; refine S_val E (pk_load1 H 0 rfl rfl rfl trivial rfl (by kernel_rfl)) rfl rfl rfl ?_; clear E a; intro a E; refine S_val E (pk_int rfl rfl rfl rfl) rfl rfl rfl ?_; clear E a; intro a E; refine S_val E (pk_pick rfl rfl rfl) rfl rfl rfl ?_; clear E a; intro a E; refine S_val E (pk_move rfl rfl) rfl rfl rfl ?_; clear E a; intro a E; refine env_split (d := 17) E rfl ?_ ?_
    · skip
      clear E; intro c17 E; refine S_val E (pk_fieldAddr (off := 2) rfl rfl (by kernel_rfl)) rfl rfl rfl ?_; clear E a; intro a E; refine S_val E (pk_load1 H 1 rfl rfl rfl trivial rfl (by kernel_rfl)) rfl rfl rfl ?_; clear E a; intro a E; refine S_val E (pk_fieldAddr (off := 2) rfl rfl (by kernel_rfl)) rfl rfl rfl ?_; clear E a; intro a E; refine S_val E (pk_load1 H 0 rfl rfl rfl trivial rfl (by kernel_rfl)) rfl rfl rfl ?_; clear E a; intro a E; refine S_eff E rfl (fun K hK => ?_); refine eff_call E rfl rfl rfl (by kernel_rfl) ?_; refine (same_sep H.xk (H.fact 0 rfl) (H.fact 1 rfl)).mono ?_; rintro e w ⟨rfl, rfl⟩; refine hK _ _ ?_; clear hK K; refine S_put E rfl rfl ?_; clear E a; intro a E; refine S_val E (pk_pick rfl rfl rfl) rfl rfl rfl ?_; clear E a; intro a E; refine S_val E (pk_assign rfl rfl) rfl rfl rfl ?_; clear E a; intro a E; refine hK1 _ _ ?_; refine wp_ret ?_
      repeat (first | refine then_ret ?_ | refine block_ret ?_)
      refine ret1 rfl E (resT rfl) ?_; refine ⟨?_, H.keepLR (L := []) (R := [])⟩
      rw [ltr_eq]
      simp_all
    · skip
      clear E; intro c17 E; refine S_skip E rfl rfl rfl ?_; clear E a; intro a E; refine S_skip E rfl rfl rfl ?_; clear E a; intro a E; refine S_skip E rfl rfl rfl ?_; clear E a; intro a E; refine S_skip E rfl rfl rfl ?_; clear E a; intro a E; refine S_skip E rfl rfl rfl ?_; clear E a; intro a E; refine S_val E (pk_pick rfl rfl rfl) rfl rfl rfl ?_; clear E a; intro a E; refine S_val E (pk_assign rfl rfl) rfl rfl rfl ?_; clear E a; intro a E; refine hK1 _ _ ?_; refine wp_ret ?_
      repeat (first | refine then_ret ?_ | refine block_ret ?_)
      refine ret1 rfl E (resT rfl) ?_; refine ⟨?_, H.keepLR (L := []) (R := [])⟩
      rw [ltr_eq]
      simp_all
  · skip
    clear E; intro c10 E; refine S_skip E rfl rfl rfl ?_; clear E a; intro a E; refine S_skip E rfl rfl rfl ?_; clear E a; intro a E; refine S_skip E rfl rfl rfl ?_; clear E a; intro a E; refine S_skip E rfl rfl rfl ?_; clear E a; intro a E; refine S_skip E rfl rfl rfl ?_; clear E a; intro a E; refine S_val E (pk_pick rfl rfl rfl) rfl rfl rfl ?_; clear E a; intro a E; refine S_val E (pk_move rfl rfl) rfl rfl rfl ?_; clear E a; intro a E; refine S_skip E rfl rfl rfl ?_; clear E a; intro a E; refine S_skip E rfl rfl rfl ?_; clear E a; intro a E; refine S_skip E rfl rfl rfl ?_; clear E a; intro a E; refine S_skip E rfl rfl rfl ?_; clear E a; intro a E; refine S_skip E rfl rfl rfl ?_; clear E a; intro a E; refine S_val E (pk_pick rfl rfl rfl) rfl rfl rfl ?_; clear E a; intro a E; refine S_val E (pk_assign rfl rfl) rfl rfl rfl ?_; clear E a; intro a E; refine hK1 _ _ ?_; refine wp_ret ?_
    repeat (first | refine then_ret ?_ | refine block_ret ?_)
    refine ret1 rfl E (resT rfl) ?_; refine ⟨?_, H.keepLR (L := []) (R := [])⟩
    rw [ltr_eq]
    simp_all
set_option maxRecDepth 100000 in
set_option maxHeartbeats 4000000 in
theorem RSameAll_any {LA LB : Option Addr} {lc ld : Nat} {xs ys : List (List Nat)} {lm ln : Nat → TextT.μ} {X : List Nat} {w0 : World} (hX : ∀ k ∈ X, k < w0.heap.size) (hL : St (LiF TextT LA lc xs lm) w0 X) (hM : St (LiF TextT LB ld ys ln) w0 X) :
    Calls Try.prog 14 #[.slice LA xs.length lc, .slice LB ys.length ld] w0 fun e w' => e = .returned (.bool (decide (xs = ys))) ∧ Sep X [] w0 w' [] [] := by
  have hLb := hL.now.big
  have hMb := hM.now.big
  refine calls_env Try.ntmps14 Try.func14 rfl rfl fun a E => ?_; replace E : Env a _ [(0, _), (1, _)] := E
  have H : Sep X [] w0 w0 [] [(LiF TextT LA lc xs lm), (LiF TextT LB ld ys ln)] := Sep.start hX (List.forall_mem_cons.2 ⟨hL, List.forall_mem_cons.2 ⟨hM, fun _ h => by cases h⟩⟩)
  refine wp_seq_k fun K0 hK0 => ?_; refine S_region ?_; refine S_val E (pk_assign rfl rfl) rfl rfl rfl ?_; clear E a; intro a E; refine hK0 _ _ ?_; refine wp_seq_k fun K1 hK1 => ?_; refine wp_seq_k fun K2 hK2 => ?_; refine S_region ?_; refine S_val E (pk_move rfl rfl) rfl rfl rfl ?_; clear E a; intro a E; refine S_val E (pk_len rfl rfl (by kernel_rfl)) rfl rfl rfl ?_; clear E a; intro a E; refine S_val E (pk_move rfl rfl) rfl rfl rfl ?_; clear E a; intro a E; refine S_val E (pk_len rfl rfl (by kernel_rfl)) rfl rfl rfl ?_; clear E a; intro a E; refine S_val E (pk_int rfl rfl rfl rfl) rfl rfl rfl ?_; clear E a; intro a E; refine hK2 _ _ ?_; refine env_split (d := 10) E rfl ?_ ?_
  · skip
    clear E; intro c10 E
    have hne : xs ≠ ys := fun h => by
      have := congrArg List.length h
      simp only [bne_iff_ne, ne_eq] at c10
      omega
    refine S_then E rfl ?_; refine wp_seq_k fun K3 hK3 => ?_; refine S_region ?_; refine S_val E (pk_assign rfl rfl) rfl rfl rfl ?_; clear E a; intro a E; refine hK3 _ _ ?_; refine wp_ret ?_
    repeat (first | refine then_ret ?_ | refine block_ret ?_)
    refine ret1 rfl E (resT rfl) ?_
    exact ⟨by rw [decide_eq_false hne], H.keepLR (L := []) (R := [])⟩
  · skip
    clear E; intro c10 E
    have hlen : xs.length = ys.length := by
      simp only [bne_eq_false_iff_eq] at c10
      omega
    refine S_else E rfl ?_; refine wp_skip ?_; refine hK1 _ _ ?_; refine wp_seq_k fun K4 hK4 => ?_; refine wp_seq_k fun K5 hK5 => ?_; refine S_region ?_; refine S_val E (pk_move rfl rfl) rfl rfl rfl ?_; clear E a; intro a E; refine S_val E (pk_len rfl rfl (by kernel_rfl)) rfl rfl rfl ?_; clear E a; intro a E; refine S_val E (pk_move rfl rfl) rfl rfl rfl ?_; clear E a; intro a E; refine hK5 _ _ ?_; refine wp_block ?_; refine S_loopK (γ := Nat) [0, 1, 12] (fun k => [(13, .int .i64 (k : Int))]) (fun k => k ≤ xs.length ∧ ∀ (i : Nat) x y, i < k → xs[i]? = some x → ys[i]? = some y → x = y) (fun k => xs.length - k) (0) E H (by repeat (first | exact trivial | refine ⟨rfl, ?_⟩)) (⟨Nat.zero_le _, fun i x y hi => absurd hi (Nat.not_lt_zero _)⟩) ?_; clear E H; intro k a w E H hφ; replace E : Env a _ [(13, _), (0, _), (1, _), (12, _)] := E; replace H : Sep _ _ _ _ [] [_, _] := H
    refine wp_seq_k fun K6 hK6 => ?_; refine S_region ?_; refine S_val E (pk_int rfl rfl rfl rfl) rfl rfl rfl ?_; clear E a; intro a E; refine hK6 _ _ ?_; refine wp_seq_k fun K7 hK7 => ?_; refine env_split (d := 14) E rfl ?_ ?_
    · skip
      clear E; intro c14 E
      have hk : k < xs.length := by simpa using c14
      have hx0 : xs[k]? = some xs[k] := List.getElem?_eq_getElem hk
      have hy0 : ys[k]? = some (ys[k]'(by omega)) := List.getElem?_eq_getElem (by omega)
      refine S_then E rfl ?_; refine wp_skip ?_; refine hK7 _ _ ?_; refine wp_seq_k fun K8 hK8 => ?_; refine wp_block ?_; refine wp_seq_k fun K9 hK9 => ?_; refine S_region ?_; refine S_val E (pk_move rfl rfl) rfl rfl rfl ?_; clear E a; intro a E; refine S_val E (pk_assign rfl rfl) rfl rfl rfl ?_; clear E a; intro a E; refine hK9 _ _ ?_; refine wp_seq_k fun K10 hK10 => ?_; refine C_region E H [] 8 [(0, false), (1, false), (2, false), (3, false), (4, false), (5, false), (6, false), (7, false)] (by kernel_rfl) (by kernel_rfl) (fun w HS => ?_)
      (simp only [canOps, List.getElem?_cons_zero, List.getElem?_cons_succ, List.drop_succ_cons, List.drop_zero])
      clear H
      have H := HS
      have hsz : w.heap.size ≤ w.heap.size := Nat.le_refl _
      have HK : CanB.Keep (fun k => k < w.heap.size ∧ k ∉ []) w w := CanB.Keep.refl _ _
      refine C_val E HK (pk_move rfl rfl) rfl rfl rfl (fun _ _ _ _ h => h) ?_; clear E a; intro a E; refine C_val E HK (pk_move rfl rfl) rfl rfl rfl (fun _ _ _ _ h => h) ?_; clear E a; intro a E
      obtain ⟨ad18, hA18, hc18, hn18⟩ := LiF.get (A := LA) (T := TextT) (i := k) (x := xs[k]) (by exact HS.fact 0 rfl) hx0
      refine C_val E HK (pk_elA (sz := 1) hA18 rfl (by kernel_rfl) rfl rfl rfl (by omega)) rfl rfl rfl (fun _ _ _ _ h => h) ?_; clear E a; intro a E; refine C_val E HK (pk_loadE1 hc18 (fun k h _ => ⟨h, by simp⟩) rfl rfl rfl (by kernel_rfl)) rfl rfl rfl (fun _ _ _ _ h => h) ?_; clear E a; intro a E; refine C_val E HK (pk_move rfl rfl) rfl rfl rfl (fun _ _ _ _ h => h) ?_; clear E a; intro a E; refine C_val E HK (pk_move rfl rfl) rfl rfl rfl (fun _ _ _ _ h => h) ?_; clear E a; intro a E
      obtain ⟨ad22, hA22, hc22, hn22⟩ := LiF.get (A := LB) (T := TextT) (i := k) (x := ys[k]'(by omega)) (by exact HS.fact 1 rfl) hy0
      refine C_val E HK (pk_elA (sz := 1) hA22 rfl (by kernel_rfl) rfl rfl rfl (by omega)) rfl rfl rfl (fun _ _ _ _ h => h) ?_; clear E a; intro a E; refine C_val E HK (pk_loadE1 hc22 (fun k h _ => ⟨h, by simp⟩) rfl rfl rfl (by kernel_rfl)) rfl rfl rfl (fun _ _ _ _ h => h) ?_; clear E a; intro a E; refine CanB.wpCan_nil ?_
      try (simp only [List.take_succ_cons, List.take_zero, List.drop_succ_cons, List.drop_zero])
      clear HS HK hsz; refine S_eff E rfl (fun K hK => ?_); refine eff_call E rfl rfl rfl (by kernel_rfl) ?_; refine (same_sep H.xk hn18 hn22).mono ?_; rintro e w ⟨rfl, rfl⟩; refine hK _ _ ?_; clear hK K; refine S_put E rfl rfl ?_; clear E a; intro a E; refine S_val E (pk_not rfl rfl) rfl rfl rfl ?_; clear E a; intro a E; refine hK10 _ _ ?_; refine env_split (d := 25) E rfl ?_ ?_
      · skip
        clear E; intro c25 E
        have hd : xs[k] ≠ ys[k]'(by omega) := by simpa using c25
        refine S_then E rfl ?_; refine wp_seq_k fun K11 hK11 => ?_; refine S_region ?_; refine S_val E (pk_assign rfl rfl) rfl rfl rfl ?_; clear E a; intro a E; refine hK11 _ _ ?_; refine wp_ret ?_
        repeat (first | refine then_ret ?_ | refine block_ret ?_)
        refine ret1 rfl E (resT rfl) ?_
        exact ⟨by rw [decide_eq_false fun h : xs = ys => hd (by subst h; rfl)], H.keepLR (L := []) (R := [])⟩
      · skip
        clear E; intro c25 E
        have hd : xs[k] = ys[k]'(by omega) := by simpa using c25
        refine S_else E rfl ?_; refine wp_skip ?_; refine hK8 _ _ ?_; refine S_region ?_; refine S_val E (pk_intw rfl rfl rfl rfl (wI64 (by omega) (by omega))) rfl rfl rfl ?_; clear E a; intro a E; refine S_val E (pk_move rfl rfl) rfl rfl rfl ?_; clear E a; intro a E; refine loop_end ?_
        exact ⟨k + 1, ⟨E.to (by repeat (first | exact trivial | refine ⟨rfl, ?_⟩)), H, ⟨by omega, fun i x y hi hx hy => by rcases Nat.lt_succ_iff_lt_or_eq.1 hi with h | h; exact hφ.2 i x y h hx hy; subst h; rw [hx0] at hx; rw [hy0] at hy; obtain rfl := Option.some.inj hx; obtain rfl := Option.some.inj hy; exact hd⟩⟩, by omega⟩
    · skip
      clear E; intro c14 E
      have hk : ¬ k < xs.length := by simpa using c14
      refine S_else E rfl ?_; refine wp_exit ?_
      repeat (first | refine then_exit ?_ | refine block_hit ?_ | refine block_miss (by decide) ?_)
      refine hK4 _ _ ?_; refine wp_seq_k fun K12 hK12 => ?_; refine S_region ?_; refine S_val E (pk_assign rfl rfl) rfl rfl rfl ?_; clear E a; intro a E; refine hK12 _ _ ?_; refine wp_ret ?_
      repeat (first | refine then_ret ?_ | refine block_ret ?_)
      refine ret1 rfl E (resT rfl) ?_
      exact ⟨by rw [decide_eq_true (list_same hlen fun i x y hx hy => hφ.2 i x y (by have := (List.getElem?_eq_some_iff.1 hx).1; omega) hx hy)], H.keepLR (L := []) (R := [])⟩
end Go.Proofs.Yteefhbpmeajbfaa
namespace Go.Proofs.Yteefhbpmeajbfaa
set_option linter.unusedSimpArgs false
set_option linter.unusedVariables false
open Go.RowKit
attribute [local irreducible] farB oddB cmV wlV frV
theorem ne_of_bne {a b : Int} (h : (a != b) = true) : a ≠ b := by simpa using h
theorem eq_of_nbne {a b : Int} (h : (a != b) = false) : a = b := by simpa using h
end Go.Proofs.Yteefhbpmeajbfaa
namespace Go.Proofs.Yteefhbpmeajbfaa
set_option linter.unusedSimpArgs false
set_option linter.unusedVariables false
open Go.RowKit
attribute [local irreducible] farB oddB cmV wlV frV
/-- Lengths, each cut off, together. -/
def cutN (xs : List Nat) : Nat := (xs.map (min · 70000)).sum
theorem cutN_take {xs : List Nat} {k x : Nat} (h : xs[k]? = some x) : cutN (xs.take (k + 1)) = cutN (xs.take k) + min x 70000 := by
  unfold cutN
  rw [List.take_add_one, h, List.map_append, List.sum_append]
  simp
theorem cutN_le (xs : List Nat) : cutN xs ≤ 70000 * xs.length := by
  unfold cutN
  induction xs with
  | nil => simp
  | cons a l ih => simp only [List.map_cons, List.sum_cons, List.length_cons]; omega
theorem cut_step {xs : List Nat} {k : Nat} {z : Int} (hk : k < xs.length) (hz : xs.length ≤ 200 → z = (cutN (xs.take k) : Int)) :
    xs.length ≤ 200 → IntKind.i64.wrap (z + min ((xs[k] : Nat) : Int) 70000) = (cutN (xs.take (k + 1)) : Int) := by
  intro h
  have h1 := cutN_le (xs.take k)
  rw [List.length_take] at h1
  rw [hz h, cutN_take (List.getElem?_eq_getElem hk), wI64 (by omega) (by omega)]
  omega
def fewT (xs : List (List Nat)) : Bool := decide (xs.length ≤ 200) && decide (cutN (xs.map List.length) ≤ 140000)
def fewS (s : Srv) : Bool := decide (s.log.length ≤ 60) && fewT s.log && decide (s.wait.length ≤ 200) && decide (cutN (s.wait.map fun x => x.text.length) ≤ 140000)
set_option maxRecDepth 100000 in
set_option maxHeartbeats 4000000 in
theorem rFew_any {LA : Option Addr} {lc : Nat} {xs : List (List Nat)} {lm : Nat → TextT.μ} {X : List Nat} {w0 : World} (hX : ∀ k ∈ X, k < w0.heap.size) (hL : St (LiF TextT LA lc xs lm) w0 X) :
    Calls Try.prog 9 #[.slice LA xs.length lc] w0 fun e w' => e = .returned (.bool (fewT xs)) ∧ Sep X [] w0 w' [] [] := by
  have hLb := hL.now.big
  refine calls_env Try.ntmps9 Try.func9 rfl rfl fun a E => ?_; replace E : Env a _ [(0, _)] := E
  have H : Sep X [] w0 w0 [] [(LiF TextT LA lc xs lm)] := Sep.start hX (List.forall_mem_cons.2 ⟨hL, fun _ h => by cases h⟩)
  refine wp_seq_k fun K0 hK0 => ?_; refine S_region ?_; refine S_val E (pk_assign rfl rfl) rfl rfl rfl ?_; clear E a; intro a E; refine hK0 _ _ ?_; refine wp_seq_k fun K1 hK1 => ?_; refine S_region ?_; refine S_val E (pk_assign rfl rfl) rfl rfl rfl ?_; clear E a; intro a E; refine hK1 _ _ ?_; refine wp_seq_k fun K2 hK2 => ?_; refine wp_seq_k fun K3 hK3 => ?_; refine S_region ?_; refine S_val E (pk_move rfl rfl) rfl rfl rfl ?_; clear E a; intro a E; refine S_val E (pk_len rfl rfl (by kernel_rfl)) rfl rfl rfl ?_; clear E a; intro a E; refine S_val E (pk_move rfl rfl) rfl rfl rfl ?_; clear E a; intro a E; refine hK3 _ _ ?_; refine wp_block ?_
  refine S_loopK (γ := Nat × Int) [0, 6, 7] (fun g => [(3, .int .i64 g.2), (8, .int .i64 (g.1 : Int))]) (fun g => g.1 ≤ xs.length ∧ ((xs.map List.length).length ≤ 200 → g.2 = (cutN ((xs.map List.length).take g.1) : Int))) (fun g => xs.length - g.1) ((0, 0)) E H (by repeat (first | exact trivial | refine ⟨rfl, ?_⟩)) (⟨Nat.zero_le _, fun _ => rfl⟩) ?_; clear E H; intro g a w E H hφ; replace E : Env a _ [(3, _), (8, _), (0, _), (6, _), (7, _)] := E; replace H : Sep _ _ _ _ [] [_] := H; refine wp_seq_k fun K4 hK4 => ?_; refine S_region ?_; refine S_val E (pk_int rfl rfl rfl rfl) rfl rfl rfl ?_; clear E a; intro a E; refine hK4 _ _ ?_; refine wp_seq_k fun K5 hK5 => ?_; refine env_split (d := 9) E rfl ?_ ?_
  · skip
    clear E; intro c9 E
    have hk : g.1 < xs.length := by simpa using c9
    have hx0 : xs[g.1]? = some xs[g.1] := List.getElem?_eq_getElem hk
    refine S_then E rfl ?_; refine wp_skip ?_; refine hK5 _ _ ?_; refine wp_seq_k fun K6 hK6 => ?_; refine wp_block ?_; refine wp_seq_k fun K7 hK7 => ?_; refine S_region ?_
    obtain ⟨ad10, hA10, hc10, hn10⟩ := LiF.get (A := LA) (T := TextT) (i := g.1) (x := xs[g.1]) (by exact H.fact 0 rfl) hx0
    refine S_val E (pk_elA (sz := 1) hA10 rfl (by kernel_rfl) rfl rfl rfl (by omega)) rfl rfl rfl ?_; clear E a; intro a E
    replace H := (H.know hn10).know hc10
    clear hn10 hc10; replace H : Sep _ _ _ _ _ [_, _, _] := H; refine S_val E (pk_loadE1 (H.fact 0 rfl) (fun _ _ _ => trivial) rfl rfl rfl (by kernel_rfl)) rfl rfl rfl ?_; clear E a; intro a E; refine S_val E (pk_assign rfl rfl) rfl rfl rfl ?_; clear E a; intro a E; refine hK7 _ _ ?_; refine S_region ?_; refine S_val E (pk_move rfl rfl) rfl rfl rfl ?_; clear E a; intro a E; refine S_val E (pk_move rfl rfl) rfl rfl rfl ?_; clear E a; intro a E; refine S_val E (pk_len rfl rfl (by kernel_rfl)) rfl rfl rfl ?_; clear E a; intro a E; refine S_val E (pk_min rfl rfl rfl) rfl rfl rfl ?_; clear E a; intro a E; refine S_val E (pk_int rfl rfl rfl rfl) rfl rfl rfl ?_; clear E a; intro a E; refine S_val E (pk_assign rfl rfl) rfl rfl rfl ?_; clear E a; intro a E; refine hK6 _ _ ?_; refine S_region ?_; refine S_val E (pk_intw rfl rfl rfl rfl (wI64 (by omega) (by omega))) rfl rfl rfl ?_; clear E a
    intro a E; refine S_val E (pk_move rfl rfl) rfl rfl rfl ?_; clear E a; intro a E; refine loop_end ?_
    exact ⟨(g.1 + 1, IntKind.i64.wrap (g.2 + min ((xs[g.1].length : Nat) : Int) 70000)), ⟨E.to (by repeat (first | exact trivial | refine ⟨rfl, ?_⟩)), H.pop.pop, ⟨by omega, fun h => by have := cut_step (xs := (xs.map List.length)) (k := g.1) (by rw [List.length_map]; omega) hφ.2 h; rw [List.getElem_map] at this; exact this⟩⟩, by omega⟩
  · skip
    clear E; intro c9 E
    have hk : ¬ g.1 < xs.length := by simpa using c9
    refine S_else E rfl ?_; refine wp_exit ?_
    repeat (first | refine then_exit ?_ | refine block_hit ?_ | refine block_miss (by decide) ?_)
    refine hK2 _ _ ?_; refine wp_seq_k fun K8 hK8 => ?_; refine S_region ?_; refine S_val E (pk_move rfl rfl) rfl rfl rfl ?_; clear E a; intro a E; refine S_val E (pk_len rfl rfl (by kernel_rfl)) rfl rfl rfl ?_; clear E a; intro a E; refine S_val E (pk_int rfl rfl rfl rfl) rfl rfl rfl ?_; clear E a; intro a E; refine S_val E (pk_move rfl rfl) rfl rfl rfl ?_; clear E a; intro a E; refine env_split (d := 21) E rfl ?_ ?_
    · skip
      clear E; intro c21 E; refine S_val E (pk_move rfl rfl) rfl rfl rfl ?_; clear E a; intro a E; refine S_val E (pk_int rfl rfl rfl rfl) rfl rfl rfl ?_; clear E a; intro a E; refine S_val E (pk_pick rfl rfl rfl) rfl rfl rfl ?_; clear E a; intro a E; refine S_val E (pk_assign rfl rfl) rfl rfl rfl ?_; clear E a; intro a E; refine hK8 _ _ ?_; refine wp_ret ?_
      repeat (first | refine then_ret ?_ | refine block_ret ?_)
      refine ret1 rfl E (resT rfl) ?_; refine ⟨?_, H.keepLR (L := []) (R := [])⟩
      have hg : g.1 = xs.length := by omega
      have hz := hφ.2
      rw [hg, ← List.length_map (f := List.length), List.take_length, List.length_map] at hz
      have e : fewT xs = (decide (xs.length ≤ 200) && decide (g.2 ≤ 140000)) := by
        unfold fewT
        by_cases h : xs.length ≤ 200
        · rw [hz h]; congr 1; rw [Bool.eq_iff_iff]; simp; omega
        · rw [decide_eq_false h, Bool.false_and, Bool.false_and]
      rw [e]
      clear e hz hφ
      simp_all
      try omega
    · skip
      clear E; intro c21 E; refine S_skip E rfl rfl rfl ?_; clear E a; intro a E; refine S_skip E rfl rfl rfl ?_; clear E a; intro a E; refine S_val E (pk_pick rfl rfl rfl) rfl rfl rfl ?_; clear E a; intro a E; refine S_val E (pk_assign rfl rfl) rfl rfl rfl ?_; clear E a; intro a E; refine hK8 _ _ ?_; refine wp_ret ?_
      repeat (first | refine then_ret ?_ | refine block_ret ?_)
      refine ret1 rfl E (resT rfl) ?_; refine ⟨?_, H.keepLR (L := []) (R := [])⟩
      have hg : g.1 = xs.length := by omega
      have hz := hφ.2
      rw [hg, ← List.length_map (f := List.length), List.take_length, List.length_map] at hz
      have e : fewT xs = (decide (xs.length ≤ 200) && decide (g.2 ≤ 140000)) := by
        unfold fewT
        by_cases h : xs.length ≤ 200
        · rw [hz h]; congr 1; rw [Bool.eq_iff_iff]; simp; omega
        · rw [decide_eq_false h, Bool.false_and, Bool.false_and]
      rw [e]
      clear e hz hφ
      simp_all
      try omega
set_option maxRecDepth 100000 in
set_option maxHeartbeats 4000000 in
theorem RFew_any {ep nx : Int} {LA WA : Option Addr} {lc wc : Nat} {log : List (List Nat)} {wait : List Ltr} {lm : Nat → TextT.μ} {wm : Nat → LtrT.μ} {X : List Nat} {w0 : World} (hX : ∀ k ∈ X, k < w0.heap.size) (hL : St (LiF TextT LA lc log lm) w0 X) (hW : St (LiF LtrT WA wc wait wm) w0 X) :
    Calls Try.prog 16 #[.agg (ca [.one (.int .u64 ep), .one (.slice LA log.length lc), .one (.slice WA wait.length wc), .one (.int .i64 nx)])] w0 fun e w' => e = .returned (.bool (fewS ⟨ep, log, wait, nx⟩)) ∧ Sep X [] w0 w' [] [] := by
  have hLb := hL.now.big
  have hWb := hW.now.big
  refine calls_env Try.ntmps16 Try.func16 rfl rfl fun a E => ?_; replace E : Env a _ [(0, _)] := E
  have H : Sep X [] w0 w0 [] [(LiF TextT LA lc log lm), (LiF LtrT WA wc wait wm)] := Sep.start hX (List.forall_mem_cons.2 ⟨hL, List.forall_mem_cons.2 ⟨hW, fun _ h => by cases h⟩⟩)
  refine wp_seq_k fun K0 hK0 => ?_; refine S_region ?_; refine S_eff E rfl (fun K hK => ?_); refine eff_box E H rfl rfl rfl ?_; clear H; intro b1 w H _; refine hK _ _ ?_; clear hK K; refine S_put E rfl rfl ?_; clear E a; intro a E; refine S_val E (pk_assign rfl rfl) rfl rfl rfl ?_; clear E a; intro a E; refine hK0 _ _ ?_; refine wp_seq_k fun K1 hK1 => ?_; refine S_region ?_; refine S_val E (pk_assign rfl rfl) rfl rfl rfl ?_; clear E a; intro a E; refine hK1 _ _ ?_; refine wp_seq_k fun K2 hK2 => ?_; refine wp_seq_k fun K3 hK3 => ?_; refine S_region ?_; refine S_val E (pk_fieldAddr (off := 2) rfl rfl (by kernel_rfl)) rfl rfl rfl ?_; clear E a; intro a E; refine S_val E (pk_load1 H 0 rfl rfl rfl trivial rfl (by kernel_rfl)) rfl rfl rfl ?_; clear E a; intro a E; refine S_val E (pk_len rfl rfl (by kernel_rfl)) rfl rfl rfl ?_; clear E a; intro a E
  refine S_val E (pk_move rfl rfl) rfl rfl rfl ?_; clear E a; intro a E; refine hK3 _ _ ?_; refine wp_block ?_; refine S_loopK (γ := Nat × Int) [1, 7, 8] (fun g => [(3, .int .i64 g.2), (9, .int .i64 (g.1 : Int))]) (fun g => g.1 ≤ wait.length ∧ ((wait.map fun x => x.text.length).length ≤ 200 → g.2 = (cutN ((wait.map fun x => x.text.length).take g.1) : Int))) (fun g => wait.length - g.1) ((0, 0)) E H (by repeat (first | exact trivial | refine ⟨rfl, ?_⟩)) (⟨Nat.zero_le _, fun _ => rfl⟩) ?_; clear E H; intro g a w E H hφ; replace E : Env a _ [(3, _), (9, _), (1, _), (7, _), (8, _)] := E; replace H : Sep _ _ _ _ [_] [_, _] := H; refine wp_seq_k fun K4 hK4 => ?_; refine S_region ?_; refine S_val E (pk_int rfl rfl rfl rfl) rfl rfl rfl ?_; clear E a; intro a E; refine hK4 _ _ ?_; refine wp_seq_k fun K5 hK5 => ?_; refine env_split (d := 10) E rfl ?_ ?_
  · skip
    clear E; intro c10 E
    have hk : g.1 < wait.length := by simpa using c10
    have hx0 : wait[g.1]? = some wait[g.1] := List.getElem?_eq_getElem hk
    refine S_then E rfl ?_; refine wp_skip ?_; refine hK5 _ _ ?_; refine wp_seq_k fun K6 hK6 => ?_; refine wp_block ?_; refine wp_seq_k fun K7 hK7 => ?_; refine S_region ?_
    obtain ⟨ad11, hA11, hc11, hn11⟩ := LiF.get (A := WA) (T := LtrT) (i := g.1) (x := wait[g.1]) (by exact H.fact 1 rfl) hx0
    refine S_val E (pk_elA (sz := 3) hA11 rfl (by kernel_rfl) rfl rfl rfl (by omega)) rfl rfl rfl ?_; clear E a; intro a E
    replace H := (H.know hn11).know hc11
    clear hn11 hc11; replace H : Sep _ _ _ _ _ [_, _, _, _] := H; refine S_val E (pk_loadE (n := 3) (H.fact 0 rfl) (fun _ _ _ => trivial) rfl rfl rfl (by kernel_rfl)) rfl rfl rfl ?_; clear E a; intro a E; refine S_eff E rfl (fun K hK => ?_); refine eff_alloc (z := [.one (.int .i64 0), .one (.int .i64 0), .one (.slice none 0 0)]) H rfl (by kernel_rfl) ?_; clear H; intro b5 w H _; refine hK _ _ ?_; clear hK K; refine S_put E rfl rfl ?_; clear E a; intro a E; refine S_eff E rfl (fun K hK => ?_); refine eff_store 0 E H rfl rfl rfl rfl rfl (by repeat (first | exact trivial | refine ⟨rfl, ?_⟩ | refine ⟨fun _ _ => rfl, ?_⟩)) rfl (by kernel_rfl) rfl ?_; clear H; intro w H _; replace H : Sep _ _ _ _ [_, _] _ := H; refine hK _ _ ?_; clear hK K; refine S_put0 rfl ?_; refine hK7 _ _ ?_; refine S_region ?_; refine S_val E (pk_move rfl rfl) rfl rfl rfl ?_; clear E a; intro a E
    refine S_val E (pk_fieldAddr (off := 2) rfl rfl (by kernel_rfl)) rfl rfl rfl ?_; clear E a; intro a E; refine S_val E (pk_load1 H 0 rfl rfl rfl trivial rfl (by kernel_rfl)) rfl rfl rfl ?_; clear E a; intro a E; refine S_val E (pk_len rfl rfl (by kernel_rfl)) rfl rfl rfl ?_; clear E a; intro a E; refine S_val E (pk_min rfl rfl rfl) rfl rfl rfl ?_; clear E a; intro a E; refine S_val E (pk_int rfl rfl rfl rfl) rfl rfl rfl ?_; clear E a; intro a E; refine S_val E (pk_assign rfl rfl) rfl rfl rfl ?_; clear E a; intro a E; refine hK6 _ _ ?_; refine S_region ?_; refine S_val E (pk_intw rfl rfl rfl rfl (wI64 (by omega) (by omega))) rfl rfl rfl ?_; clear E a; intro a E; refine S_val E (pk_move rfl rfl) rfl rfl rfl ?_; clear E a; intro a E; refine loop_end ?_
    exact ⟨(g.1 + 1, IntKind.i64.wrap (g.2 + min ((wait[g.1].text.length : Nat) : Int) 70000)), ⟨E.to (by repeat (first | exact trivial | refine ⟨rfl, ?_⟩)), H.popL.pop.pop, ⟨by omega, fun h => by have := cut_step (xs := (wait.map fun x => x.text.length)) (k := g.1) (by rw [List.length_map]; omega) hφ.2 h; rw [List.getElem_map] at this; exact this⟩⟩, by omega⟩
  · skip
    clear E; intro c10 E
    have hk : ¬ g.1 < wait.length := by simpa using c10
    refine S_else E rfl ?_; refine wp_exit ?_
    repeat (first | refine then_exit ?_ | refine block_hit ?_ | refine block_miss (by decide) ?_)
    refine hK2 _ _ ?_; refine wp_seq_k fun K8 hK8 => ?_; refine S_region ?_; refine S_val E (pk_fieldAddr (off := 1) rfl rfl (by kernel_rfl)) rfl rfl rfl ?_; clear E a; intro a E; refine S_val E (pk_load1 H 0 rfl rfl rfl trivial rfl (by kernel_rfl)) rfl rfl rfl ?_; clear E a; intro a E; refine S_val E (pk_len rfl rfl (by kernel_rfl)) rfl rfl rfl ?_; clear E a; intro a E; refine S_val E (pk_int rfl rfl rfl rfl) rfl rfl rfl ?_; clear E a; intro a E; refine S_val E (pk_move rfl rfl) rfl rfl rfl ?_; clear E a; intro a E; refine env_split (d := 24) E rfl ?_ ?_
    · skip
      clear E; intro c24 E; refine S_val E (pk_fieldAddr (off := 1) rfl rfl (by kernel_rfl)) rfl rfl rfl ?_; clear E a; intro a E; refine S_val E (pk_load1 H 0 rfl rfl rfl trivial rfl (by kernel_rfl)) rfl rfl rfl ?_; clear E a; intro a E; refine S_eff E rfl (fun K hK => ?_); refine eff_call E rfl rfl rfl (by kernel_rfl) ?_; refine (rFew_any H.xk (by first | exact H.fact 0 rfl | exact H.fact 1 rfl | exact H.fact 2 rfl)).mono ?_; rintro e w ⟨rfl, H1⟩
      replace H := H.call H1
      clear H1; replace H : Sep _ _ _ _ [_] [_, _] := H; refine hK _ _ ?_; clear hK K; refine S_put E rfl rfl ?_; clear E a; intro a E; refine S_val E (pk_pick rfl rfl rfl) rfl rfl rfl ?_; clear E a; intro a E; refine S_val E (pk_move rfl rfl) rfl rfl rfl ?_; clear E a; intro a E; refine env_split (d := 29) E rfl ?_ ?_
      · skip
        clear E; intro c29 E; refine S_val E (pk_fieldAddr (off := 2) rfl rfl (by kernel_rfl)) rfl rfl rfl ?_; clear E a; intro a E; refine S_val E (pk_load1 H 0 rfl rfl rfl trivial rfl (by kernel_rfl)) rfl rfl rfl ?_; clear E a; intro a E; refine S_val E (pk_len rfl rfl (by kernel_rfl)) rfl rfl rfl ?_; clear E a; intro a E; refine S_val E (pk_int rfl rfl rfl rfl) rfl rfl rfl ?_; clear E a; intro a E; refine S_val E (pk_pick rfl rfl rfl) rfl rfl rfl ?_; clear E a; intro a E; refine S_val E (pk_move rfl rfl) rfl rfl rfl ?_; clear E a; intro a E; refine env_split (d := 35) E rfl ?_ ?_
        · skip
          clear E; intro c35 E; refine S_val E (pk_move rfl rfl) rfl rfl rfl ?_; clear E a; intro a E; refine S_val E (pk_int rfl rfl rfl rfl) rfl rfl rfl ?_; clear E a; intro a E; refine S_val E (pk_pick rfl rfl rfl) rfl rfl rfl ?_; clear E a; intro a E; refine S_val E (pk_assign rfl rfl) rfl rfl rfl ?_; clear E a; intro a E; refine hK8 _ _ ?_; refine wp_ret ?_
          repeat (first | refine then_ret ?_ | refine block_ret ?_)
          refine ret1 rfl E (resT rfl) ?_; refine ⟨?_, H.keepLR (L := []) (R := [])⟩
          have hg : g.1 = wait.length := by omega
          have hz := hφ.2
          rw [hg, ← List.length_map (f := fun x : Ltr => x.text.length), List.take_length, List.length_map] at hz
          have e : fewS ⟨ep, log, wait, nx⟩ = (decide (log.length ≤ 60) && fewT log && decide (wait.length ≤ 200) && decide (g.2 ≤ 140000)) := by
            unfold fewS
            simp only
            by_cases h : wait.length ≤ 200
            · rw [hz h]; congr 1; rw [Bool.eq_iff_iff]; simp; omega
            · rw [decide_eq_false h, Bool.and_false, Bool.false_and, Bool.false_and]
          rw [e]
          clear e hz hφ
          simp_all
          try omega
        · skip
          clear E; intro c35 E; refine S_skip E rfl rfl rfl ?_; clear E a; intro a E; refine S_skip E rfl rfl rfl ?_; clear E a; intro a E; refine S_val E (pk_pick rfl rfl rfl) rfl rfl rfl ?_; clear E a; intro a E; refine S_val E (pk_assign rfl rfl) rfl rfl rfl ?_; clear E a; intro a E; refine hK8 _ _ ?_; refine wp_ret ?_
          repeat (first | refine then_ret ?_ | refine block_ret ?_)
          refine ret1 rfl E (resT rfl) ?_; refine ⟨?_, H.keepLR (L := []) (R := [])⟩
          have hg : g.1 = wait.length := by omega
          have hz := hφ.2
          rw [hg, ← List.length_map (f := fun x : Ltr => x.text.length), List.take_length, List.length_map] at hz
          have e : fewS ⟨ep, log, wait, nx⟩ = (decide (log.length ≤ 60) && fewT log && decide (wait.length ≤ 200) && decide (g.2 ≤ 140000)) := by
            unfold fewS
            simp only
            by_cases h : wait.length ≤ 200
            · rw [hz h]; congr 1; rw [Bool.eq_iff_iff]; simp; omega
            · rw [decide_eq_false h, Bool.and_false, Bool.false_and, Bool.false_and]
          rw [e]
          clear e hz hφ
          simp_all
          try omega
      · skip
        clear E; intro c29 E; refine S_skip E rfl rfl rfl ?_; clear E a; intro a E; refine S_skip E rfl rfl rfl ?_; clear E a; intro a E; refine S_skip E rfl rfl rfl ?_; clear E a; intro a E; refine S_skip E rfl rfl rfl ?_; clear E a; intro a E; refine S_val E (pk_pick rfl rfl rfl) rfl rfl rfl ?_; clear E a; intro a E; refine S_val E (pk_move rfl rfl) rfl rfl rfl ?_; clear E a; intro a E; refine S_skip E rfl rfl rfl ?_; clear E a; intro a E; refine S_skip E rfl rfl rfl ?_; clear E a; intro a E; refine S_val E (pk_pick rfl rfl rfl) rfl rfl rfl ?_; clear E a; intro a E; refine S_val E (pk_assign rfl rfl) rfl rfl rfl ?_; clear E a; intro a E; refine hK8 _ _ ?_; refine wp_ret ?_
        repeat (first | refine then_ret ?_ | refine block_ret ?_)
        refine ret1 rfl E (resT rfl) ?_; refine ⟨?_, H.keepLR (L := []) (R := [])⟩
        have hg : g.1 = wait.length := by omega
        have hz := hφ.2
        rw [hg, ← List.length_map (f := fun x : Ltr => x.text.length), List.take_length, List.length_map] at hz
        have e : fewS ⟨ep, log, wait, nx⟩ = (decide (log.length ≤ 60) && fewT log && decide (wait.length ≤ 200) && decide (g.2 ≤ 140000)) := by
          unfold fewS
          simp only
          by_cases h : wait.length ≤ 200
          · rw [hz h]; congr 1; rw [Bool.eq_iff_iff]; simp; omega
          · rw [decide_eq_false h, Bool.and_false, Bool.false_and, Bool.false_and]
        rw [e]
        clear e hz hφ
        simp_all
        try omega
    · skip
      clear E; intro c24 E; refine S_skip E rfl rfl rfl ?_; clear E a; intro a E; refine S_skip E rfl rfl rfl ?_; clear E a; intro a E; refine S_skip E rfl rfl rfl ?_; clear E a; intro a E; refine S_val E (pk_pick rfl rfl rfl) rfl rfl rfl ?_; clear E a; intro a E; refine S_val E (pk_move rfl rfl) rfl rfl rfl ?_; clear E a; intro a E; refine S_skip E rfl rfl rfl ?_; clear E a; intro a E; refine S_skip E rfl rfl rfl ?_; clear E a; intro a E; refine S_skip E rfl rfl rfl ?_; clear E a; intro a E; refine S_skip E rfl rfl rfl ?_; clear E a; intro a E; refine S_val E (pk_pick rfl rfl rfl) rfl rfl rfl ?_; clear E a; intro a E; refine S_val E (pk_move rfl rfl) rfl rfl rfl ?_; clear E a; intro a E; refine S_skip E rfl rfl rfl ?_; clear E a; intro a E; refine S_skip E rfl rfl rfl ?_; clear E a; intro a E; refine S_val E (pk_pick rfl rfl rfl) rfl rfl rfl ?_; clear E a; intro a E
      refine S_val E (pk_assign rfl rfl) rfl rfl rfl ?_; clear E a; intro a E; refine hK8 _ _ ?_; refine wp_ret ?_
      repeat (first | refine then_ret ?_ | refine block_ret ?_)
      refine ret1 rfl E (resT rfl) ?_; refine ⟨?_, H.keepLR (L := []) (R := [])⟩
      have hg : g.1 = wait.length := by omega
      have hz := hφ.2
      rw [hg, ← List.length_map (f := fun x : Ltr => x.text.length), List.take_length, List.length_map] at hz
      have e : fewS ⟨ep, log, wait, nx⟩ = (decide (log.length ≤ 60) && fewT log && decide (wait.length ≤ 200) && decide (g.2 ≤ 140000)) := by
        unfold fewS
        simp only
        by_cases h : wait.length ≤ 200
        · rw [hz h]; congr 1; rw [Bool.eq_iff_iff]; simp; omega
        · rw [decide_eq_false h, Bool.and_false, Bool.false_and, Bool.false_and]
      rw [e]
      clear e hz hφ
      simp_all
      try omega
end Go.Proofs.Yteefhbpmeajbfaa
