/- What is sealed, and opened, the reference. The law SealTail: whatever the input, it answers true. The law SealDoes: whatever the input, it answers true. -/
import Derived.Test.YtlhhfngkfbbckaaDoorSealDoesF
import Derived.WalkKit
import Derived.WalkSpells
import Derived.WalkLawsBesides
import Derived.Deep.QuietTactic
import Derived.BigQuiet
import Derived.StillTailTactics
import Derived.Lib.Hide
import Derived.Deep.LoopGhost
import Derived.Outline
import Derived.Deep.DeepFit
import Derived.Deep.RegionHeld3
import Derived.Deep.RegionLaw
import Derived.Maps.AppendAt
import Derived.Deep.AppendLies
import Derived.Deep.Draws
import Derived.Laws.OwnMore
import Derived.Laws.AppendOwnNone
import Derived.OwnWalk
import Derived.Below
import Derived.OrdersHeld
import Derived.Laws.StructEq
import Derived.Test.YtlhhfngkfbbckaaDoorRows
import Derived.Lib.SliceRun
import Derived.Laws.IdiomStrings
import Derived.Deep.Cut
import Derived.Deep.CutBlock
import Derived.Deep.CutRange
import Derived.DataElems
import Derived.Great.BuildSlice
import Derived.Laws.Entries
import Derived.Laws.Tables
import Derived.SizedLaws
import Derived.Laws.Small
import Derived.Laws.MakeOwn
import Derived.Laws.CopyRow
import Derived.Laws.IdiomCopy
import Derived.Test.YtlhhfngkfbbckaaDoorChecked
import Derived.Lib.Tables
import Derived.Lib.BitFns
import Derived.KernelRfl
import Derived.Deep.OwnRows
import Derived.Great.Walk
import Derived.ProofKit
import Derived.OpenShut
import Derived.ShutString
import Derived.ChangeOld
import Derived.ChangeSlices
import Derived.Lib.SmallJoins
import Derived.Lib.LaidU8
import Derived.LaidHandle
import Derived.LaidLaws
import Derived.Handed
import Derived.Deep.DeepLaidRun
import Derived.Lib.Buffer
import Derived.Shelf.Bytes.WriteAny
import Derived.Shelf.Bytes.Bytes
namespace Go.Proofs.YtlhhfngkfbbckaaDoor
set_option linter.unusedSimpArgs false
set_option linter.unusedVariables false
open Go.RowKit

def sealX (gt : Nat → Nat) (k plain : List Nat) (ts : List (List Nat)) : List Nat × Int := if 1048576 < plain.length then ([], 4) else sealR gt k plain ts
def cpB (x : List Nat) (i j : Nat) : Nat := if j < i then x.getD j 0 else 0
theorem cpB_succ (x : List Nat) (i j : Nat) : upd (fun j => bv (cpB x i j)) i (bv (x.getD i 0)) j = bv (cpB x (i + 1) j) := by
  unfold upd cpB
  by_cases h : j = i
  · subst h; simp
  · rw [if_neg h]
    show bv (if j < i then _ else _) = _
    by_cases h2 : j < i
    · rw [if_pos h2, if_pos (by omega)]
    · rw [if_neg h2, if_neg (by omega)]
theorem cpB_all (x : List Nat) (n : Nat) : ca [.row n fun j => bv (cpB x n j)] = ca [.row n fun j => bv (x.getD j 0)] := by
  simp only [ca, cl, Chunk.cells, List.append_nil]
  congr 1
  apply List.map_congr_left
  intro i hi
  simp only [cpB, if_pos (List.mem_range.1 hi)]
theorem drop_getD (x : List Nat) (n j : Nat) : (x.drop n).getD j 0 = x.getD (n + j) 0 := by
  rw [List.getD_eq_getElem?_getD, List.getElem?_drop, ← List.getD_eq_getElem?_getD]
theorem sealX_ok {gt : Nat → Nat} {k plain : List Nat} {ts : List (List Nat)} (h : ¬ 1048576 < plain.length) : sealX gt k plain ts = sealR gt k plain ts := by unfold sealX; rw [if_neg h]
theorem sealX_no {gt : Nat → Nat} {k plain : List Nat} {ts : List (List Nat)} (h : 1048576 < plain.length) : sealX gt k plain ts = ([], 4) := by unfold sealX; rw [if_pos h]
theorem sealX_byte (gt : Nat → Nat) (k plain : List Nat) (ts : List (List Nat)) : ∀ x ∈ (sealX gt k plain ts).1, x < 256 := by
  unfold sealX
  split
  · intro x hx; cases hx
  · exact sealR_byte _ _ _ _
theorem sealX_len (gt : Nat → Nat) (k plain : List Nat) (ts : List (List Nat)) : (sealX gt k plain ts).1.length ≤ 1048592 := by
  unfold sealX
  split
  · exact Nat.zero_le _
  · have := sealR_len gt k plain ts; omega
attribute [local irreducible] macV expV strV tagV keyS keyM encT
section
variable {X : List Nat} {w0 : World} {A : Option Addr} {c : Nat} {k : List Nat}
theorem sep_below7 {w' : World} (hX : ∀ k ∈ X, k < w0.heap.size) (hb : Below w0.heap.size w0 w') : Sep X [] w0 w' [] [] :=
  ⟨Frm.of_below hb, hX, fun _ h => (by cases h), List.nodup_nil, fun _ h => (by cases h), fun _ h => by cases h⟩
theorem rctr_own (hX : ∀ i ∈ X, i < w0.heap.size) (h : St (TxF A c k) w0 X) (hk : k.length ≤ 1048576) {x : List Nat} (hx : ∀ z ∈ x, z < 256) :
    Calls Tryd.prog 31 #[.agg (ca [.row 16 fun i => bv (x.getD i 0)]), .agg (ca [.row 12 fun i => bv ((x.drop 16).getD i 0)]), .int .u32 0, .slice A k.length c] w0 fun e w' => ∃ A' c', e = .returned (.tuple #[.slice A' (strV x k).length c', .int .i64 0]) ∧ Sep X [] w0 w' [.row (.slice A' (strV x k).length c') 5 1 (strV x k).length ((strV x k).map bv)] [] := by
  have hn := h.now
  have e0 : strV x k = ctrL (fun i => ((x.getD i 0 : Nat) : Int)) (fun i => (((x.drop 16).getD i 0 : Nat) : Int)) 0 k := by with_unfolding_all rfl
  rw [← arr_ca, ← arr_ca, e0]
  refine (RCtr_yes (fun i => ((x.getD i 0 : Nat) : Int)) (fun i => (((x.drop 16).getD i 0 : Nat) : Int)) (fun i _ => ⟨by omega, by have := getD_byte hx i; omega⟩) (fun i _ => ⟨by omega, by have := getD_byte (x := x.drop 16) (fun z hz => hx z (List.mem_of_mem_drop hz)) i; omega⟩) 0 (by omega) A k.length c k w0 hn.txt hn.byt hk (by omega)).mono ?_
  rintro e w2 ⟨v, rfl, ho, hb⟩
  obtain ⟨A', c', rfl, h2⟩ := own_sep (X := X) hX ho hb
  exact ⟨A', c', rfl, h2⟩
theorem ctr_long (hX : ∀ i ∈ X, i < w0.heap.size) (h : 1048576 < k.length) (hl : k.length ≤ 140737488355328) (x : List Nat) :
    Calls Tryd.prog 19 #[.agg (ca [.row 16 fun i => bv (x.getD i 0)]), .agg (ca [.row 12 fun i => bv ((x.drop 16).getD i 0)]), .int .u32 0, .slice A k.length c] w0 fun e w' => e = .returned (.tuple #[.slice none 0 0, .int .i64 4]) ∧ Sep X [] w0 w' [] [] := by
  rw [← arr_ca, ← arr_ca]
  refine (Ctr_long (fun i => ((x.getD i 0 : Nat) : Int)) (fun i => (((x.drop 16).getD i 0 : Nat) : Int)) 0 A k.length c h hl w0).mono ?_
  rintro e w2 ⟨rfl, hb⟩
  exact ⟨rfl, sep_below7 hX hb⟩
theorem rcopy_tx (hX : ∀ k ∈ X, k < w0.heap.size) (h : St (TxF A c k) w0 X) :
    Calls Tryd.prog 12 #[.slice A k.length c] w0 fun e w' => ∃ A' c', e = .returned (.slice A' k.length c') ∧ Sep X [] w0 w' [] [TxF A' c' k] := by
  have hn := h.now
  refine (rcopy_own hX h).mono ?_
  rintro e w' ⟨A', c', rfl, h1⟩
  exact ⟨A', c', rfl, h1.rowTx (Sep.new_x h1) hn.len hn.byt⟩
end
set_option maxRecDepth 100000 in
set_option maxHeartbeats 1000000 in
theorem RStream_any {BA : Option Addr} {bc : Nat} {k bs : List Nat} {gt : Nat → Nat} (hk32 : k.length = 32) (hkb : ∀ x ∈ k, x < 256) (hbl : bs.length ≤ 1048576) {X : List Nat} {w0 : World} (hX : ∀ k ∈ X, k < w0.heap.size) (hB : St (TxF BA bc bs) w0 X) (hG : St (AtC ⟨1, 0, none⟩ [.row 64 fun i => u32 (gt i)]) w0 X) :
    Calls Tryd.prog 22 #[.agg (ca [.key k]), .slice BA bs.length bc] w0 fun e w' => ∃ A' c', e = .returned (.slice A' (strV (keyS gt k) bs).length c') ∧ Sep X [] w0 w' [.row (.slice A' (strV (keyS gt k) bs).length c') 5 1 (strV (keyS gt k) bs).length ((strV (keyS gt k) bs).map bv)] [] := by
  have hlS : (keyS gt k).length = 28 := by with_unfolding_all exact expV_len _ _ _ _
  have hSb : ∀ z ∈ keyS gt k, z < 256 := by with_unfolding_all exact expV_byte _ _ _ _
  have heS : expV gt k streamL 28 = keyS gt k := by with_unfolding_all rfl
  have hg : ∀ i, i < 28 → (keyS gt k)[i]? = some ((keyS gt k).getD i 0) := fun i hi => by rw [List.getD_eq_getElem?_getD, List.getElem?_eq_getElem (show i < (keyS gt k).length by omega)]; rfl
  refine calls_env Tryd.ntmps22 Tryd.func22 rfl rfl fun a E => ?_; replace E : Env a _ [(0, _), (1, _)] := E
  have H : Sep X [] w0 w0 [] [(TxF BA bc bs), (AtC ⟨1, 0, none⟩ [.row 64 fun i => u32 (gt i)])] := Sep.start hX (List.forall_mem_cons.2 ⟨hB, List.forall_mem_cons.2 ⟨hG, fun _ h => by cases h⟩⟩)
  refine wp_seq_k fun K0 hK0 => ?_; refine S_region ?_; refine S_eff E rfl (fun K hK => ?_); refine eff_box E H rfl rfl rfl ?_; clear H; intro b2 w H _; refine hK _ _ ?_; clear hK K; refine S_put E rfl rfl ?_; clear E a; intro a E; refine S_val E (pk_assign rfl rfl) rfl rfl rfl ?_; clear E a; intro a E; refine hK0 _ _ ?_; refine wp_seq_k fun K1 hK1 => ?_; refine S_region ?_; refine S_val E (pk_load (n := 32) H 0 rfl rfl rfl trivial rfl (by kernel_rfl)) rfl rfl rfl ?_; clear E a; intro a E; refine S_eff E rfl (fun K hK => ?_)
  refine eff_bslice (sz := 1) (z := [.one (.int .u8 0), .one (.int .u8 0), .one (.int .u8 0), .one (.int .u8 0), .one (.int .u8 0), .one (.int .u8 0)]) E H rfl Tryd.underlying24 (by kernel_rfl) (by decide) (by kernel_rfl) ⟨_, [.one _], 0, _, rfl, rfl, rfl, rfl, ⟨_, [.one _], 1, _, rfl, rfl, rfl, rfl, ⟨_, [.one _], 2, _, rfl, rfl, rfl, rfl, ⟨_, [.one _], 3, _, rfl, rfl, rfl, rfl, ⟨_, [.one _], 4, _, rfl, rfl, rfl, rfl, ⟨_, [.one _], 5, _, rfl, rfl, rfl, rfl, rfl⟩⟩⟩⟩⟩⟩ ?_; clear H; intro b15 w H _; refine hK _ _ ?_; clear hK K; refine S_put E rfl rfl ?_; clear E a; intro a E; refine S_eff E rfl (fun K hK => ?_); refine eff_const 0 E H rfl rfl Tryd.underlying24 Tryd.underlying5 rfl rfl ?_; clear H; intro w H F; replace H : Sep _ _ _ _ [_] [_, _, _] := H; refine hK _ _ ?_; clear hK K; refine S_put E rfl rfl ?_; clear E a; intro a E; clear F
  refine S_eff E rfl (fun K hK => ?_); refine eff_call E rfl rfl rfl (by kernel_rfl) ?_
  have hinf := txF_at (k := streamL) (c := 6) (H.fact 0 rfl) rfl (by show 6 ≤ 6; decide) (by show 6 ≤ _; decide) (by decide)
  refine (RExpand_any (n := 28) (k := k) (info := streamL) hk32 hkb (by omega) (by show 6 ≤ 1048576; decide) H.xk hinf (H.fact 2 rfl)).mono ?_; rintro e w ⟨A17, c17, rfl, H1⟩
  replace H := H.call H1
  clear H1; replace H : Sep _ _ _ _ [_] [_, _, _, _] := H; refine hK _ _ ?_; clear hK K; refine S_put E rfl rfl ?_; clear E a; intro a E; clear hinf; refine S_val E (pk_move rfl rfl) rfl rfl rfl ?_; clear E a; intro a E; refine S_val E (pk_extract rfl rfl rfl) rfl rfl rfl ?_; clear E a; intro a E; refine S_val E (pk_extract rfl rfl rfl) rfl rfl rfl ?_; clear E a; intro a E; refine S_val E (pk_assign rfl rfl) rfl rfl rfl ?_; clear E a; intro a E; refine S_val E (pk_assign rfl rfl) rfl rfl rfl ?_; clear E a; intro a E
  rw [heS] at H
  rw [show Value.slice A17 28 c17 = .slice A17 (keyS gt k).length c17 from by rw [hlS]] at E
  refine hK1 _ _ ?_; refine wp_seq_k fun K2 hK2 => ?_; refine S_region ?_; refine S_eff E rfl (fun K hK => ?_); refine eff_alloc (z := [.row 16 fun _ => .int .u8 0]) H rfl (by kernel_rfl) ?_; clear H; intro b7 w H _; refine hK _ _ ?_; clear hK K; refine S_put E rfl rfl ?_; clear E a; intro a E; refine hK2 _ _ ?_; refine wp_seq_k fun K3 hK3 => ?_; refine S_region ?_; refine S_eff E rfl (fun K hK => ?_); refine eff_alloc (z := [.row 12 fun _ => .int .u8 0]) H rfl (by kernel_rfl) ?_; clear H; intro b8 w H _; refine hK _ _ ?_; clear hK K; refine S_put E rfl rfl ?_; clear E a; intro a E; refine hK3 _ _ ?_; refine wp_seq_k fun K4 hK4 => ?_; refine wp_seq_k fun K5 hK5 => ?_; refine S_region ?_; refine S_val E (pk_move rfl rfl) rfl rfl rfl ?_; clear E a; intro a E; refine hK5 _ _ ?_; refine wp_block ?_
  have e7 : (fun _ => bv 0) = fun j => bv (cpB (keyS gt k) 0 j) := by funext j; simp [cpB]
  have e8 : (fun _ => bv 0) = fun j => bv (cpB ((keyS gt k).drop 16) 0 j) := by funext j; simp [cpB]
  replace H : Sep X [] w0 w [.blk b8 (ca [.row 12 fun _ => bv 0]) 43, .blk b7 (ca [.row 16 fun _ => bv 0]) 41, .blk b2 (ca [.key k]) 23 ] [TxF A17 c17 (keyS gt k), AtC ⟨b15, 0, none⟩ [.one (.int .u8 115), .one (.int .u8 116), .one (.int .u8 114), .one (.int .u8 101), .one (.int .u8 97), .one (.int .u8 109)], TxF BA bc bs, AtC ⟨1, 0, none⟩ [.row 64 fun i => u32 (gt i)]] := H
  have H2 : Sep X [] w0 w [.blk b8 (ca [.row 12 fun j => bv (cpB ((keyS gt k).drop 16) 0 j)]) 43, .blk b7 (ca [.row 16 fun j => bv (cpB (keyS gt k) 0 j)]) 41, .blk b2 (ca [.key k]) 23 ] [TxF A17 c17 (keyS gt k), AtC ⟨b15, 0, none⟩ [.one (.int .u8 115), .one (.int .u8 116), .one (.int .u8 114), .one (.int .u8 101), .one (.int .u8 97), .one (.int .u8 109)], TxF BA bc bs, AtC ⟨1, 0, none⟩ [.row 64 fun i => u32 (gt i)]] := by rw [← e7, ← e8]; exact H
  clear H e7 e8
  have H := H2
  clear H2
  obtain ⟨ad17, hA17⟩ : ∃ ad, A17 = some ad := by
    cases hq : A17 with
    | some ad => exact ⟨ad, rfl⟩
    | none => have := ((St.now (H.fact 0 rfl)).nil hq).1; omega
  refine S_loopI (γ := Nat) [1, 5, 7, 8] (fun i => [(20, .int .i64 (i : Int))]) (fun i => [.blk b8 (ca [.row 12 fun j => bv (cpB ((keyS gt k).drop 16) 0 j)]) 43, .blk b7 (ca [.row 16 fun j => bv (cpB (keyS gt k) i j)]) 41, .blk b2 (ca [.key k]) 23 ]) (fun i => [TxF A17 c17 (keyS gt k), AtC ⟨b15, 0, none⟩ [.one (.int .u8 115), .one (.int .u8 116), .one (.int .u8 114), .one (.int .u8 101), .one (.int .u8 97), .one (.int .u8 109)], TxF BA bc bs, AtC ⟨1, 0, none⟩ [.row 64 fun i => u32 (gt i)]]) (fun i => i ≤ 16) (fun i => 16 - i) (0) E H (by repeat (first | exact trivial | refine ⟨rfl, ?_⟩)) (by omega) ?_; clear E H; intro i a w E H hφ; replace E : Env a _ [(20, _), (1, _), (5, _), (7, _), (8, _)] := E; replace H : Sep _ _ _ _ [_, _, _] [_, _, _, _] := H; refine wp_seq_k fun K6 hK6 => ?_; refine S_region ?_
  refine S_val E (pk_int rfl rfl rfl rfl) rfl rfl rfl ?_; clear E a; intro a E; refine hK6 _ _ ?_; refine wp_seq_k fun K7 hK7 => ?_; refine env_split (d := 21) E rfl ?_ ?_
  · skip
    clear E; intro c21 E
    have hi : i < 16 := by have := c21; simp only [decide_eq_true_eq] at this; omega
    refine S_then E rfl ?_; refine wp_skip ?_; refine hK7 _ _ ?_; refine wp_seq_k fun K8 hK8 => ?_; refine wp_block ?_; refine wp_seq_k fun K9 hK9 => ?_; refine S_region ?_; refine S_val E (pk_move rfl rfl) rfl rfl rfl ?_; clear E a; intro a E; refine S_val E (pk_assign rfl rfl) rfl rfl rfl ?_; clear E a; intro a E; refine hK9 _ _ ?_; refine S_region ?_; refine S_val E (pk_move rfl rfl) rfl rfl rfl ?_; clear E a; intro a E; refine S_val E (pk_move rfl rfl) rfl rfl rfl ?_; clear E a; intro a E; refine S_val E (pk_move rfl rfl) rfl rfl rfl ?_; clear E a; intro a E; refine S_val E (pk_elA (sz := 1) (i := i) hA17 rfl (by kernel_rfl) rfl rfl (by omega) (by omega)) rfl rfl rfl ?_; clear E a; intro a E; refine S_val E (pk_byte (H.fact 0 rfl) (fun _ _ _ => trivial) hA17 rfl rfl (hg (i) (by omega)) (by kernel_rfl)) rfl rfl rfl ?_; clear E a; intro a E
    refine S_val E (pk_elP1 (M := 16) (i := i) rfl (by kernel_rfl) rfl rfl rfl hi) rfl rfl rfl ?_; clear E a; intro a E; refine S_eff E rfl (fun K hK => ?_); refine eff_storeRowF (off := 0) (i := i) (fun j => bv (cpB (keyS gt k) (i + 1) j)) 1 E H rfl rfl rfl hi rfl rfl rfl rfl rfl rfl (by kernel_rfl) (fun j => cpB_succ _ i j) rfl ?_; clear H; intro w H F; replace H : Sep _ _ _ _ [_, _, _] _ := H; refine hK _ _ ?_; clear hK K; refine S_put0 rfl ?_; clear F; refine hK8 _ _ ?_; refine S_region ?_; refine S_val E (pk_intw rfl rfl rfl rfl (wI64 (by omega) (by omega))) rfl rfl rfl ?_; clear E a; intro a E; refine S_val E (pk_move rfl rfl) rfl rfl rfl ?_; clear E a; intro a E; refine loop_end ?_
    exact ⟨i + 1, ⟨E.to (by repeat (first | exact trivial | refine ⟨rfl, ?_⟩)), H, by omega⟩, by omega⟩
  · skip
    clear E; intro c21 E
    obtain rfl : i = 16 := by have := c21; simp only [decide_eq_false_iff_not] at this; omega
    rw [cpB_all (keyS gt k) 16] at H
    refine S_else E rfl ?_; refine wp_exit ?_
    repeat (first | refine then_exit ?_ | refine block_hit ?_ | refine block_miss (by decide) ?_)
    refine hK4 _ _ ?_; refine wp_seq_k fun K10 hK10 => ?_; refine wp_seq_k fun K11 hK11 => ?_; refine S_region ?_; refine S_val E (pk_move rfl rfl) rfl rfl rfl ?_; clear E a; intro a E; refine hK11 _ _ ?_; refine wp_block ?_; refine S_loopI (γ := Nat) [1, 5, 7, 8] (fun i => [(30, .int .i64 (i : Int))]) (fun i => [.blk b8 (ca [.row 12 fun j => bv (cpB ((keyS gt k).drop 16) i j)]) 43, .blk b7 (ca [.row 16 fun j => bv ((keyS gt k).getD j 0)]) 41, .blk b2 (ca [.key k]) 23 ]) (fun i => [TxF A17 c17 (keyS gt k), AtC ⟨b15, 0, none⟩ [.one (.int .u8 115), .one (.int .u8 116), .one (.int .u8 114), .one (.int .u8 101), .one (.int .u8 97), .one (.int .u8 109)], TxF BA bc bs, AtC ⟨1, 0, none⟩ [.row 64 fun i => u32 (gt i)]]) (fun i => i ≤ 12) (fun i => 12 - i) (0) E H (by repeat (first | exact trivial | refine ⟨rfl, ?_⟩)) (by omega) ?_; clear E H
    intro i a w E H hφ; replace E : Env a _ [(30, _), (1, _), (5, _), (7, _), (8, _)] := E; replace H : Sep _ _ _ _ [_, _, _] [_, _, _, _] := H; refine wp_seq_k fun K12 hK12 => ?_; refine S_region ?_; refine S_val E (pk_int rfl rfl rfl rfl) rfl rfl rfl ?_; clear E a; intro a E; refine hK12 _ _ ?_; refine wp_seq_k fun K13 hK13 => ?_; refine env_split (d := 31) E rfl ?_ ?_
    · skip
      clear E; intro c31 E
      have hi : i < 12 := by have := c31; simp only [decide_eq_true_eq] at this; omega
      refine S_then E rfl ?_; refine wp_skip ?_; refine hK13 _ _ ?_; refine wp_seq_k fun K14 hK14 => ?_; refine wp_block ?_; refine wp_seq_k fun K15 hK15 => ?_; refine S_region ?_; refine S_val E (pk_move rfl rfl) rfl rfl rfl ?_; clear E a; intro a E; refine S_val E (pk_assign rfl rfl) rfl rfl rfl ?_; clear E a; intro a E; refine hK15 _ _ ?_; refine S_region ?_; refine S_val E (pk_move rfl rfl) rfl rfl rfl ?_; clear E a; intro a E; refine S_val E (pk_move rfl rfl) rfl rfl rfl ?_; clear E a; intro a E; refine S_val E (pk_move rfl rfl) rfl rfl rfl ?_; clear E a; intro a E; refine S_val E (pk_intw rfl rfl rfl rfl (wI64 (by omega) (by omega))) rfl rfl rfl ?_; clear E a; intro a E; refine S_val E (pk_elA (sz := 1) (i := 16 + i) hA17 rfl (by kernel_rfl) rfl rfl (by omega) (by omega)) rfl rfl rfl ?_; clear E a; intro a E
      refine S_val E (pk_byte (H.fact 0 rfl) (fun _ _ _ => trivial) hA17 rfl rfl (hg (16 + i) (by omega)) (by kernel_rfl)) rfl rfl rfl ?_; clear E a; intro a E; refine S_val E (pk_elP1 (M := 12) (i := i) rfl (by kernel_rfl) rfl rfl rfl hi) rfl rfl rfl ?_; clear E a; intro a E; refine S_eff E rfl (fun K hK => ?_); refine eff_storeRowF (off := 0) (i := i) (fun j => bv (cpB ((keyS gt k).drop 16) (i + 1) j)) 0 E H rfl rfl rfl hi rfl rfl rfl rfl rfl rfl (by kernel_rfl) (fun j => by rw [← drop_getD]; exact cpB_succ _ i j) rfl ?_; clear H; intro w H F; replace H : Sep _ _ _ _ [_, _, _] _ := H; refine hK _ _ ?_; clear hK K; refine S_put0 rfl ?_; clear F; refine hK14 _ _ ?_; refine S_region ?_; refine S_val E (pk_intw rfl rfl rfl rfl (wI64 (by omega) (by omega))) rfl rfl rfl ?_; clear E a; intro a E; refine S_val E (pk_move rfl rfl) rfl rfl rfl ?_; clear E a; intro a E; refine loop_end ?_
      exact ⟨i + 1, ⟨E.to (by repeat (first | exact trivial | refine ⟨rfl, ?_⟩)), H, by omega⟩, by omega⟩
    · skip
      clear E; intro c31 E
      obtain rfl : i = 12 := by have := c31; simp only [decide_eq_false_iff_not] at this; omega
      rw [cpB_all ((keyS gt k).drop 16) 12] at H
      refine S_else E rfl ?_; refine wp_exit ?_
      repeat (first | refine then_exit ?_ | refine block_hit ?_ | refine block_miss (by decide) ?_)
      refine hK10 _ _ ?_; refine wp_seq_k fun K16 hK16 => ?_; refine S_region ?_; refine S_val E (pk_load (n := 16) H 1 rfl rfl rfl trivial rfl (by kernel_rfl)) rfl rfl rfl ?_; clear E a; intro a E; refine S_val E (pk_load (n := 12) H 0 rfl rfl rfl trivial rfl (by kernel_rfl)) rfl rfl rfl ?_; clear E a; intro a E; refine S_val E (pk_move rfl rfl) rfl rfl rfl ?_; clear E a; intro a E; refine S_eff E rfl (fun K hK => ?_); refine eff_call E rfl rfl rfl (by kernel_rfl) ?_; refine (rctr_own (k := bs) (x := keyS gt k) H.xk (H.fact 2 rfl) hbl hSb).mono ?_; rintro e w ⟨A45, c45, rfl, H1⟩
      replace H := H.call H1
      clear H1; replace H : Sep _ _ _ _ [_, _, _, _] [_, _, _, _] := H; refine hK _ _ ?_; clear hK K; refine S_put E rfl rfl ?_; clear E a; intro a E; refine S_val E (pk_move rfl rfl) rfl rfl rfl ?_; clear E a; intro a E; refine S_val E (pk_extract rfl rfl rfl) rfl rfl rfl ?_; clear E a; intro a E; refine S_val E (pk_extract rfl rfl rfl) rfl rfl rfl ?_; clear E a; intro a E; refine S_val E (pk_assign rfl rfl) rfl rfl rfl ?_; clear E a; intro a E; refine S_val E (pk_assign rfl rfl) rfl rfl rfl ?_; clear E a; intro a E; refine hK16 _ _ ?_; refine wp_seq_k fun K17 hK17 => ?_; refine S_region ?_; refine S_val E (pk_move rfl rfl) rfl rfl rfl ?_; clear E a; intro a E; refine S_val E (pk_assign rfl rfl) rfl rfl rfl ?_; clear E a; intro a E; refine hK17 _ _ ?_; refine wp_ret ?_
      repeat (first | refine then_ret ?_ | refine block_ret ?_)
      refine ret1 rfl E (resT rfl) ?_
      exact ⟨A45, c45, rfl, (Sep.keepLR (L := [_]) (L' := [_, _, _]) (R := []) (R' := []) (H.refacts (R' := []) (List.forall_mem_nil _)))⟩
set_option maxRecDepth 100000 in
set_option maxHeartbeats 1000000 in
theorem RTag_any {HA TA : Option Addr} {hc tc : Nat} {k hid : List Nat} {ts : List (List Nat)} {tm : Nat → TextT.μ} {gt : Nat → Nat} (hk32 : k.length = 32) (hkb : ∀ x ∈ k, x < 256) (hhl : hid.length ≤ 100000000) (hts : ts.length ≤ 1000) {X : List Nat} {w0 : World} (hX : ∀ k ∈ X, k < w0.heap.size) (hH : St (TxF HA hc hid) w0 X) (hL : St (LiF TextT TA tc ts tm) w0 X) (hG : St (AtC ⟨1, 0, none⟩ [.row 64 fun i => u32 (gt i)]) w0 X) :
    Calls Tryd.prog 23 #[.agg (ca [.key k]), .slice HA hid.length hc, .slice TA ts.length tc] w0 fun e w' => ∃ A' c', e = .returned (.tuple #[.slice A' (tagR gt (keyM gt k) hid ts).1.length c', .bool (decide (okT ts))]) ∧ Sep X [] w0 w' [] [TxF A' c' (tagR gt (keyM gt k) hid ts).1] := by
  have hlM : (keyM gt k).length = 32 := by with_unfolding_all exact expV_len _ _ _ _
  have heM : expV gt k sumL 32 = keyM gt k := by with_unfolding_all rfl
  have halb : ∀ x ∈ (encT ts ++ beL 4 ts.length), x < 256 := fun x hx => by
    rcases List.mem_append.1 hx with h1 | h1
    · exact encT_byte ts (fun t ht => by
        obtain ⟨q, hq⟩ := List.mem_iff_getElem?.1 ht
        obtain ⟨_, _, _, h3⟩ := LiF.get hL hq
        exact (St.now h3 : TxF _ _ _ _).byt) x h1
    · exact beL_lt _ _ x h1
  refine calls_env Tryd.ntmps23 Tryd.func23 rfl rfl fun a E => ?_; replace E : Env a _ [(0, _), (1, _), (2, _)] := E
  have H : Sep X [] w0 w0 [] [(TxF HA hc hid), (LiF TextT TA tc ts tm), (AtC ⟨1, 0, none⟩ [.row 64 fun i => u32 (gt i)])] := Sep.start hX (List.forall_mem_cons.2 ⟨hH, List.forall_mem_cons.2 ⟨hL, List.forall_mem_cons.2 ⟨hG, fun _ h => by cases h⟩⟩⟩)
  refine wp_seq_k fun K0 hK0 => ?_; refine S_region ?_; refine S_eff E rfl (fun K hK => ?_); refine eff_box E H rfl rfl rfl ?_; clear H; intro b3 w H _; refine hK _ _ ?_; clear hK K; refine S_put E rfl rfl ?_; clear E a; intro a E; refine S_val E (pk_assign rfl rfl) rfl rfl rfl ?_; clear E a; intro a E; refine S_val E (pk_assign rfl rfl) rfl rfl rfl ?_; clear E a; intro a E; refine hK0 _ _ ?_; refine wp_seq_k fun K1 hK1 => ?_; refine S_region ?_; refine S_val E (pk_move rfl rfl) rfl rfl rfl ?_; clear E a; intro a E; refine S_eff E rfl (fun K hK => ?_); refine eff_call E rfl rfl rfl (by kernel_rfl) ?_; refine (RText_any (m0 := []) (ts := ts) (by show 0 ≤ 100000000; decide) (by omega) H.xk txF_nil (H.fact 1 rfl)).mono ?_; rintro e w ⟨A15, c15, rfl, H1⟩
  replace H := H.call H1
  clear H1; replace H : Sep _ _ _ _ [_, _] [_, _, _] := H; refine hK _ _ ?_; clear hK K; refine S_put E rfl rfl ?_; clear E a; intro a E; refine S_val E (pk_move rfl rfl) rfl rfl rfl ?_; clear E a; intro a E; refine S_val E (pk_extract rfl rfl rfl) rfl rfl rfl ?_; clear E a; intro a E; refine S_val E (pk_extract rfl rfl rfl) rfl rfl rfl ?_; clear E a; intro a E; refine S_val E (pk_assign rfl rfl) rfl rfl rfl ?_; clear E a; intro a E; refine S_val E (pk_assign rfl rfl) rfl rfl rfl ?_; clear E a; intro a E; refine hK1 _ _ ?_; refine wp_seq_k fun K2 hK2 => ?_; refine wp_seq_k fun K3 hK3 => ?_; refine S_region ?_; refine S_val E (pk_move rfl rfl) rfl rfl rfl ?_; clear E a; intro a E; refine S_val E (pk_int rfl rfl rfl rfl) rfl rfl rfl ?_; clear E a; intro a E; refine hK3 _ _ ?_; refine env_split (d := 19) E rfl ?_ ?_
  · skip
    clear E; intro c19 E
    have hok : ¬ okT ts := fun h => by
      rw [textV_ok h] at c19
      cases c19
    have htv : textV [] ts = ([], 4) := textV_no hok
    have htr : (tagR gt (keyM gt k) hid ts) = ([], 4) := by unfold tagR; rw [if_neg hok]
    refine S_then E rfl ?_; refine wp_seq_k fun K4 hK4 => ?_; refine S_region ?_; refine S_val E (pk_assign rfl rfl) rfl rfl rfl ?_; clear E a; intro a E; refine S_val E (pk_assign rfl rfl) rfl rfl rfl ?_; clear E a; intro a E; refine hK4 _ _ ?_; refine wp_ret ?_
    repeat (first | refine then_ret ?_ | refine block_ret ?_)
    refine ret2 rfl E (resT rfl) (resT rfl) ?_
    rw [htr, decide_eq_false hok]
    exact ⟨none, 0, rfl, ((H.know txF_nil).refacts (List.forall_mem_cons.2 ⟨txF_nil, List.forall_mem_nil _⟩)).popL.popL⟩
  · skip
    clear E; intro c19 E
    have hok : okT ts := by
      refine Classical.byContradiction fun h => ?_
      rw [textV_no h] at c19
      cases c19
    have htv : textV [] ts = (encT ts, 0) := textV_ok hok
    have htr : (tagR gt (keyM gt k) hid ts) = (tagV gt (keyM gt k) hid ts, 0) := by unfold tagR; rw [if_pos hok]
    rw [htv] at E H
    simp only at E H
    have hpsf : [(encT ts ++ beL 4 ts.length), hid].flatten.length ≤ 10000000000 := by
      rw [List.flatten_cons, List.flatten_cons, List.flatten_nil, List.append_nil, List.length_append, List.length_append, beL_len]; have := encT_len ts hok
      omega
    refine S_else E rfl ?_; refine wp_skip ?_; refine hK2 _ _ ?_; refine wp_seq_k fun K5 hK5 => ?_; refine S_region ?_; refine S_val E (pk_move rfl rfl) rfl rfl rfl ?_; clear E a; intro a E; refine S_val E (pk_move rfl rfl) rfl rfl rfl ?_; clear E a; intro a E; refine S_val E (pk_len rfl rfl (by kernel_rfl)) rfl rfl rfl ?_; clear E a; intro a E; refine S_val E (pk_convw rfl rfl (by kernel_rfl) (by kernel_rfl) (wU64 (by omega) (by omega))) rfl rfl rfl ?_; clear E a; intro a E; refine S_eff E rfl (fun K hK => ?_); refine eff_call E rfl rfl rfl (by kernel_rfl) ?_; refine (bytes_tx 4 ts.length (by decide) (by omega) H.xk).mono ?_; rintro e w ⟨A24, c24, rfl, H1⟩
    replace H := H.call H1
    clear H1; replace H : Sep _ _ _ _ [_, _] [_, _, _, _] := H; refine hK _ _ ?_; clear hK K; refine S_put E rfl rfl ?_; clear E a; intro a E; refine S_eff E rfl (fun K hK => ?_); refine eff_appT (k := encT ts) (m := beL 4 ts.length) 0 E H (H.fact 0 rfl) rfl rfl rfl rfl ⟨Tryd.underlying24, by kernel_rfl⟩ (by rw [beL_len]; have := encT_len ts hok; omega) ?_; clear H; intro A25 c25 w H F; replace H : Sep _ _ _ _ [_, _] _ := H; refine hK _ _ ?_; clear hK K; refine S_put E rfl rfl ?_; clear E a; intro a E; clear F; refine S_val E (pk_assign rfl rfl) rfl rfl rfl ?_; clear E a; intro a E; refine hK5 _ _ ?_; refine wp_seq_k fun K6 hK6 => ?_; refine S_region ?_; refine S_val E (pk_load (n := 32) H 1 rfl rfl rfl trivial rfl (by kernel_rfl)) rfl rfl rfl ?_; clear E a; intro a E; refine S_eff E rfl (fun K hK => ?_)
    refine eff_bslice (sz := 1) (z := [.one (.int .u8 0), .one (.int .u8 0), .one (.int .u8 0)]) E H rfl Tryd.underlying24 (by kernel_rfl) (by decide) (by kernel_rfl) ⟨_, [.one _], 0, _, rfl, rfl, rfl, rfl, ⟨_, [.one _], 1, _, rfl, rfl, rfl, rfl, ⟨_, [.one _], 2, _, rfl, rfl, rfl, rfl, rfl⟩⟩⟩ ?_; clear H; intro b28 w H _; refine hK _ _ ?_; clear hK K; refine S_put E rfl rfl ?_; clear E a; intro a E; refine S_eff E rfl (fun K hK => ?_); refine eff_const 0 E H rfl rfl Tryd.underlying24 Tryd.underlying5 rfl rfl ?_; clear H; intro w H F; replace H : Sep _ _ _ _ [_, _] [_, _, _, _, _] := H; refine hK _ _ ?_; clear hK K; refine S_put E rfl rfl ?_; clear E a; intro a E; clear F; refine S_eff E rfl (fun K hK => ?_); refine eff_call E rfl rfl rfl (by kernel_rfl) ?_
    have hinf := txF_at (k := sumL) (c := 3) (H.fact 0 rfl) rfl (by show 3 ≤ 3; decide) (by show 3 ≤ _; decide) (by decide)
    refine (RExpand_any (n := 32) (k := k) (info := sumL) hk32 hkb (by omega) (by show 3 ≤ 1048576; decide) H.xk hinf (H.fact 4 rfl)).mono ?_; rintro e w ⟨A30, c30, rfl, H1⟩
    replace H := H.call H1
    clear H1; replace H : Sep _ _ _ _ [_, _] [_, _, _, _, _, _] := H; refine hK _ _ ?_; clear hK K; refine S_put E rfl rfl ?_; clear E a; intro a E; clear hinf; refine S_val E (pk_move rfl rfl) rfl rfl rfl ?_; clear E a; intro a E; refine S_val E (pk_extract rfl rfl rfl) rfl rfl rfl ?_; clear E a; intro a E; refine S_val E (pk_extract rfl rfl rfl) rfl rfl rfl ?_; clear E a; intro a E; refine S_val E (pk_assign rfl rfl) rfl rfl rfl ?_; clear E a; intro a E; refine S_val E (pk_assign rfl rfl) rfl rfl rfl ?_; clear E a; intro a E
    rw [heM] at H
    rw [show Value.slice A30 32 c30 = .slice A30 (keyM gt k).length c30 from by rw [hlM]] at E
    refine hK6 _ _ ?_; refine wp_seq_k fun K7 hK7 => ?_
    replace H := H.rowTx (Sep.new_x H) (by rw [List.length_append, beL_len]; have := encT_len ts hok; omega) halb
    replace H : Sep _ _ _ _ [_] [_, _, _, _, _, _, _] := H; refine S_region ?_; refine S_val E (pk_move rfl rfl) rfl rfl rfl ?_; clear E a; intro a E; refine S_val E (pk_move rfl rfl) rfl rfl rfl ?_; clear E a; intro a E; refine S_val E (pk_move rfl rfl) rfl rfl rfl ?_; clear E a; intro a E; refine S_eff E rfl (fun K hK => ?_); refine eff_bslice (sz := 1) (z := [.one (.slice none 0 0), .one (.slice none 0 0)]) E H rfl Tryd.underlying30 (by kernel_rfl) (by decide) (by kernel_rfl) ⟨_, [.one _], 0, _, rfl, rfl, rfl, rfl, ⟨_, [.one _], 1, _, rfl, rfl, rfl, rfl, rfl⟩⟩ ?_; clear H; intro b36 w H _; refine hK _ _ ?_; clear hK K; refine S_put E rfl rfl ?_; clear E a; intro a E; refine S_eff E rfl (fun K hK => ?_); refine eff_call E rfl rfl rfl (by kernel_rfl) ?_
    have HB := H.lend 0 rfl
    have hli := liF_at (T := TextT) (its := [(((encT ts ++ beL 4 ts.length), (A25, c25)) : List Nat × TextT.μ), (hid, (HA, hc))]) (c := 2) (xs := [(encT ts ++ beL 4 ts.length), hid]) (HB.fact 0 rfl) text2 (nest_snoc (its := [_]) (q := ((hid, (HA, hc)) : List Nat × TextT.μ)) (nest_snoc (its := []) (q := (((encT ts ++ beL 4 ts.length), (A25, c25)) : List Nat × TextT.μ)) nest_nil (HB.fact 1 rfl)) (HB.fact 5 rfl)) rfl (by show 2 ≤ 2; decide) (by show 2 ≤ _; decide)
    have H2 := HB.refacts (R' := [_, _, _]) (List.forall_mem_cons.2 ⟨HB.fact 2 rfl, List.forall_mem_cons.2 ⟨hli, List.forall_mem_cons.2 ⟨HB.fact 7 rfl, List.forall_mem_nil _⟩⟩⟩)
    clear HB hli; refine (RMac_any (key := keyM gt k) (ps := [(encT ts ++ beL 4 ts.length), hid]) (by omega) hpsf H2.xk (H2.fact 0 rfl) (H2.fact 1 rfl) (H2.fact 2 rfl)).mono ?_; rintro e w ⟨rfl, H1⟩
    have F := H1.frm
    replace H := H.grow F
    refine hK _ _ ?_; clear hK K; refine S_put E rfl rfl ?_; clear E a; intro a E; clear F; clear H2; refine S_eff E rfl (fun K hK => ?_); refine eff_alloc (z := [.key []]) H rfl (by kernel_rfl) ?_; clear H; intro b12 w H _; refine hK _ _ ?_; clear hK K; refine S_put E rfl rfl ?_; clear E a; intro a E; refine S_eff E rfl (fun K hK => ?_); refine eff_store 0 E H rfl rfl rfl rfl rfl (by repeat (first | exact trivial | refine ⟨rfl, ?_⟩ | refine ⟨fun _ _ => rfl, ?_⟩)) rfl (by kernel_rfl) rfl ?_; clear H; intro w H _; replace H : Sep _ _ _ _ [_, _, _] _ := H; refine hK _ _ ?_; clear hK K; refine S_put0 rfl ?_; refine hK7 _ _ ?_; refine wp_seq_k fun K8 hK8 => ?_; refine S_region ?_; refine S_val E (pk_subPh (N := 32) (sz := 1) (hi := 16) rfl (by kernel_rfl) rfl rfl rfl (by omega)) rfl rfl rfl ?_; clear E a; intro a E; refine S_val E (pk_assign rfl rfl) rfl rfl rfl ?_; clear E a; intro a E
    refine S_val E (pk_assign rfl rfl) rfl rfl rfl ?_; clear E a; intro a E; refine hK8 _ _ ?_; refine wp_ret ?_
    repeat (first | refine then_ret ?_ | refine block_ret ?_)
    refine ret2 rfl E (resT rfl) (resT rfl) ?_
    have hT := txF_take (hi := 16) (txF_at (k := macV gt (keyM gt k) [(encT ts ++ beL 4 ts.length), hid]) (c := 32) ((H.lend 0 rfl).fact 0 rfl) (by rw [cl_key, keyL_self (macV_len _ _ _)]) (by rw [macV_len]; omega) (by rw [macV_len]; omega) (macV_byte _ _ _)) (by rw [macV_len]; omega)
    rw [show (macV gt (keyM gt k) [(encT ts ++ beL 4 ts.length), hid]).take 16 = tagV gt (keyM gt k) hid ts from by with_unfolding_all rfl] at hT
    rw [htr, decide_eq_true hok]
    exact ⟨some ⟨b12, 0, none⟩, 32, by simp only [tagV_len], (((H.lend 0 rfl).know hT).refacts (List.forall_mem_cons.2 ⟨((H.lend 0 rfl).know hT).fact 0 rfl, List.forall_mem_nil _⟩)).popL.popL⟩
set_option maxRecDepth 100000 in
set_option maxHeartbeats 1000000 in
theorem RSeal_any {PA TA : Option Addr} {pc tc : Nat} {k plain : List Nat} {ts : List (List Nat)} {tm : Nat → TextT.μ} {gt : Nat → Nat} (hk32 : k.length = 32) (hkb : ∀ x ∈ k, x < 256) (hts : ts.length ≤ 1000) {X : List Nat} {w0 : World} (hX : ∀ k ∈ X, k < w0.heap.size) (hP : St (TxF PA pc plain) w0 X) (hL : St (LiF TextT TA tc ts tm) w0 X) (hG : St (AtC ⟨1, 0, none⟩ [.row 64 fun i => u32 (gt i)]) w0 X) :
    Calls Tryd.prog 14 #[.agg (ca [.key k]), .slice PA plain.length pc, .slice TA ts.length tc] w0 fun e w' => ∃ A' c', e = .returned (.tuple #[.slice A' (sealX gt k plain ts).1.length c', .int .i64 (sealX gt k plain ts).2]) ∧ Sep X [] w0 w' [] [TxF A' c' (sealX gt k plain ts).1] := by
  refine calls_env Tryd.ntmps14 Tryd.func14 rfl rfl fun a E => ?_; replace E : Env a _ [(0, _), (1, _), (2, _)] := E
  have H : Sep X [] w0 w0 [] [(TxF PA pc plain), (LiF TextT TA tc ts tm), (AtC ⟨1, 0, none⟩ [.row 64 fun i => u32 (gt i)])] := Sep.start hX (List.forall_mem_cons.2 ⟨hP, List.forall_mem_cons.2 ⟨hL, List.forall_mem_cons.2 ⟨hG, fun _ h => by cases h⟩⟩⟩)
  refine wp_seq_k fun K0 hK0 => ?_; refine S_region ?_; refine S_eff E rfl (fun K hK => ?_); refine eff_box E H rfl rfl rfl ?_; clear H; intro b3 w H _; refine hK _ _ ?_; clear hK K; refine S_put E rfl rfl ?_; clear E a; intro a E; refine S_val E (pk_assign rfl rfl) rfl rfl rfl ?_; clear E a; intro a E; refine S_val E (pk_assign rfl rfl) rfl rfl rfl ?_; clear E a; intro a E; refine hK0 _ _ ?_; refine wp_seq_k fun K1 hK1 => ?_; refine wp_seq_k fun K2 hK2 => ?_; refine S_region ?_; refine S_val E (pk_move rfl rfl) rfl rfl rfl ?_; clear E a; intro a E; refine S_val E (pk_len rfl rfl (by kernel_rfl)) rfl rfl rfl ?_; clear E a; intro a E; refine S_val E (pk_int rfl rfl rfl rfl) rfl rfl rfl ?_; clear E a; intro a E; refine hK2 _ _ ?_; refine env_split (d := 13) E rfl ?_ ?_
  · skip
    clear E; intro c13 E
    have hbig : 1048576 < plain.length := by have := c13; simp only [decide_eq_true_eq] at this; omega
    refine S_then E rfl ?_; refine wp_seq_k fun K3 hK3 => ?_; refine S_region ?_; refine S_val E (pk_assign rfl rfl) rfl rfl rfl ?_; clear E a; intro a E; refine S_val E (pk_assign rfl rfl) rfl rfl rfl ?_; clear E a; intro a E; refine hK3 _ _ ?_; refine wp_ret ?_
    repeat (first | refine then_ret ?_ | refine block_ret ?_)
    refine ret2 rfl E (resT rfl) (resT rfl) ?_
    rw [sealX_no hbig]
    exact ⟨none, 0, rfl, ((H.know txF_nil).refacts (List.forall_mem_cons.2 ⟨txF_nil, List.forall_mem_nil _⟩)).popL⟩
  · skip
    clear E; intro c13 E
    have hnb : ¬ 1048576 < plain.length := by have := c13; simp only [decide_eq_false_iff_not] at this; omega
    have hpl : plain.length ≤ 1048576 := by omega
    refine S_else E rfl ?_; refine wp_skip ?_; refine hK1 _ _ ?_; refine wp_seq_k fun K4 hK4 => ?_; refine S_region ?_; refine S_val E (pk_load (n := 32) H 0 rfl rfl rfl trivial rfl (by kernel_rfl)) rfl rfl rfl ?_; clear E a; intro a E; refine S_val E (pk_move rfl rfl) rfl rfl rfl ?_; clear E a; intro a E; refine S_eff E rfl (fun K hK => ?_); refine eff_call E rfl rfl rfl (by kernel_rfl) ?_; refine (RStream_any (k := k) (bs := plain) hk32 hkb hpl H.xk (H.fact 0 rfl) (H.fact 2 rfl)).mono ?_; rintro e w ⟨A16, c16, rfl, H1⟩
    replace H := H.call H1
    clear H1; replace H : Sep _ _ _ _ [_, _] [_, _, _] := H; refine hK _ _ ?_; clear hK K; refine S_put E rfl rfl ?_; clear E a; intro a E; refine S_val E (pk_assign rfl rfl) rfl rfl rfl ?_; clear E a; intro a E; refine hK4 _ _ ?_; refine wp_seq_k fun K5 hK5 => ?_; refine S_region ?_; refine S_val E (pk_load (n := 32) H 1 rfl rfl rfl trivial rfl (by kernel_rfl)) rfl rfl rfl ?_; clear E a; intro a E; refine S_val E (pk_move rfl rfl) rfl rfl rfl ?_; clear E a; intro a E; refine S_val E (pk_move rfl rfl) rfl rfl rfl ?_; clear E a; intro a E; refine S_eff E rfl (fun K hK => ?_); refine eff_call E rfl rfl rfl (by kernel_rfl) ?_
    have HR := H.rowTx (Sep.new_x H) (by rw [strV_len]; omega) (strV_byte _ _)
    refine (RTag_any (k := k) (hid := (strV (keyS gt k) plain)) (ts := ts) hk32 hkb (by rw [strV_len]; omega) hts HR.xk (HR.fact 0 rfl) (HR.fact 2 rfl) (HR.fact 3 rfl)).mono ?_; rintro e w ⟨A21, c21, rfl, H1⟩
    have F := H1.frm
    replace H := H.grow F
    refine hK _ _ ?_; clear hK K; refine S_put E rfl rfl ?_; clear E a; intro a E; clear F
    have hT21 := H1.fact 0 rfl
    clear H1 HR; refine S_val E (pk_move rfl rfl) rfl rfl rfl ?_; clear E a; intro a E; refine S_val E (pk_extract rfl rfl rfl) rfl rfl rfl ?_; clear E a; intro a E; refine S_val E (pk_extract rfl rfl rfl) rfl rfl rfl ?_; clear E a; intro a E; refine S_val E (pk_assign rfl rfl) rfl rfl rfl ?_; clear E a; intro a E; refine S_val E (pk_assign rfl rfl) rfl rfl rfl ?_; clear E a; intro a E; refine hK5 _ _ ?_; refine wp_seq_k fun K6 hK6 => ?_; refine wp_seq_k fun K7 hK7 => ?_; refine S_region ?_; refine S_val E (pk_move rfl rfl) rfl rfl rfl ?_; clear E a; intro a E; refine S_val E (pk_not rfl rfl) rfl rfl rfl ?_; clear E a; intro a E; refine hK7 _ _ ?_; refine env_split (d := 25) E rfl ?_ ?_
    · skip
      clear E; intro c25 E
      have hok : ¬ okT ts := by simpa using c25
      have htr : tagR gt (keyM gt k) (strV (keyS gt k) plain) ts = ([], 4) := by unfold tagR; rw [if_neg hok]
      have hsr : (sealX gt k plain ts) = ([], 4) := by rw [sealX_ok hnb]; unfold sealR; rw [if_neg hok]
      refine S_then E rfl ?_; refine wp_seq_k fun K8 hK8 => ?_; refine S_region ?_; refine S_val E (pk_assign rfl rfl) rfl rfl rfl ?_; clear E a; intro a E; refine S_val E (pk_assign rfl rfl) rfl rfl rfl ?_; clear E a; intro a E; refine hK8 _ _ ?_; refine wp_ret ?_
      repeat (first | refine then_ret ?_ | refine block_ret ?_)
      refine ret2 rfl E (resT rfl) (resT rfl) ?_
      rw [hsr]
      exact ⟨none, 0, rfl, ((H.know txF_nil).refacts (List.forall_mem_cons.2 ⟨txF_nil, List.forall_mem_nil _⟩)).popL.popL⟩
    · skip
      clear E; intro c25 E
      have hok : okT ts := by simpa using c25
      have htr : tagR gt (keyM gt k) (strV (keyS gt k) plain) ts = (tagV gt (keyM gt k) (strV (keyS gt k) plain) ts, 0) := by unfold tagR; rw [if_pos hok]
      have hsr : (sealX gt k plain ts) = ((strV (keyS gt k) plain) ++ tagV gt (keyM gt k) (strV (keyS gt k) plain) ts, 0) := by rw [sealX_ok hnb]; unfold sealR; rw [if_pos hok]
      rw [htr] at E hT21
      simp only at E hT21
      refine S_else E rfl ?_; refine wp_skip ?_; refine hK6 _ _ ?_; refine wp_seq_k fun K9 hK9 => ?_; refine S_region ?_; refine S_val E (pk_move rfl rfl) rfl rfl rfl ?_; clear E a; intro a E; refine S_val E (pk_move rfl rfl) rfl rfl rfl ?_; clear E a; intro a E; refine S_eff E rfl (fun K hK => ?_); refine eff_appT (k := (strV (keyS gt k) plain)) (m := tagV gt (keyM gt k) (strV (keyS gt k) plain) ts) 0 E H hT21 rfl rfl rfl rfl ⟨Tryd.underlying24, by kernel_rfl⟩ (by rw [strV_len, tagV_len]; omega) ?_; clear H; intro A28 c28 w H F; replace H : Sep _ _ _ _ [_, _] _ := H; refine hK _ _ ?_; clear hK K; refine S_put E rfl rfl ?_; clear E a; intro a E; clear F; refine S_val E (pk_assign rfl rfl) rfl rfl rfl ?_; clear E a; intro a E; refine S_val E (pk_assign rfl rfl) rfl rfl rfl ?_; clear E a; intro a E; refine hK9 _ _ ?_; refine wp_ret ?_
      repeat (first | refine then_ret ?_ | refine block_ret ?_)
      refine ret2 rfl E (resT rfl) (resT rfl) ?_
      rw [hsr]
      have hT := H.rowTx (Sep.new_x H) (by rw [List.length_append, strV_len, tagV_len]; omega) (fun x hx => by rcases List.mem_append.1 hx with h1 | h1; exact strV_byte _ _ x h1; exact tagV_byte _ _ _ _ x h1)
      exact ⟨A28, c28, rfl, (hT.refacts (List.forall_mem_cons.2 ⟨hT.fact 0 rfl, List.forall_mem_nil _⟩)).popL⟩
set_option maxRecDepth 100000 in
set_option maxHeartbeats 1000000 in
theorem ROpen_any {BA TA : Option Addr} {bc tc : Nat} {k bs : List Nat} {ts : List (List Nat)} {tm : Nat → TextT.μ} {gt : Nat → Nat} (hk32 : k.length = 32) (hkb : ∀ x ∈ k, x < 256) (hts : ts.length ≤ 1000) {X : List Nat} {w0 : World} (hX : ∀ k ∈ X, k < w0.heap.size) (hB : St (TxF BA bc bs) w0 X) (hL : St (LiF TextT TA tc ts tm) w0 X) (hG : St (AtC ⟨1, 0, none⟩ [.row 64 fun i => u32 (gt i)]) w0 X) :
    Calls Tryd.prog 15 #[.agg (ca [.key k]), .slice BA bs.length bc, .slice TA ts.length tc] w0 fun e w' => ∃ A' c', e = .returned (.tuple #[.slice A' (openR gt k bs ts).1.length c', .int .i64 (openR gt k bs ts).2]) ∧ Sep X [] w0 w' [] [TxF A' c' (openR gt k bs ts).1] := by
  have hbl := hB.now.len
  have hbc := hB.now.cap
  refine calls_env Tryd.ntmps15 Tryd.func15 rfl rfl fun a E => ?_; replace E : Env a _ [(0, _), (1, _), (2, _)] := E
  have H : Sep X [] w0 w0 [] [(TxF BA bc bs), (LiF TextT TA tc ts tm), (AtC ⟨1, 0, none⟩ [.row 64 fun i => u32 (gt i)])] := Sep.start hX (List.forall_mem_cons.2 ⟨hB, List.forall_mem_cons.2 ⟨hL, List.forall_mem_cons.2 ⟨hG, fun _ h => by cases h⟩⟩⟩)
  refine wp_seq_k fun K0 hK0 => ?_; refine S_region ?_; refine S_eff E rfl (fun K hK => ?_); refine eff_box E H rfl rfl rfl ?_; clear H; intro b3 w H _; refine hK _ _ ?_; clear hK K; refine S_put E rfl rfl ?_; clear E a; intro a E; refine S_val E (pk_assign rfl rfl) rfl rfl rfl ?_; clear E a; intro a E; refine S_val E (pk_assign rfl rfl) rfl rfl rfl ?_; clear E a; intro a E; refine hK0 _ _ ?_; refine wp_seq_k fun K1 hK1 => ?_; refine wp_seq_k fun K2 hK2 => ?_; refine S_region ?_; refine S_val E (pk_move rfl rfl) rfl rfl rfl ?_; clear E a; intro a E; refine S_val E (pk_len rfl rfl (by kernel_rfl)) rfl rfl rfl ?_; clear E a; intro a E; refine S_val E (pk_int rfl rfl rfl rfl) rfl rfl rfl ?_; clear E a; intro a E; refine hK2 _ _ ?_; refine env_split (d := 13) E rfl ?_ ?_
  · skip
    clear E; intro c13 E
    have hlt : bs.length < 16 := by have := c13; simp only [decide_eq_true_eq] at this; omega
    have hor : openR gt k bs ts = ([], 2) := by unfold openR; rw [if_pos hlt]
    refine S_then E rfl ?_; refine wp_seq_k fun K3 hK3 => ?_; refine S_region ?_; refine S_val E (pk_assign rfl rfl) rfl rfl rfl ?_; clear E a; intro a E; refine S_val E (pk_assign rfl rfl) rfl rfl rfl ?_; clear E a; intro a E; refine hK3 _ _ ?_; refine wp_ret ?_
    repeat (first | refine then_ret ?_ | refine block_ret ?_)
    refine ret2 rfl E (resT rfl) (resT rfl) ?_
    rw [hor]
    exact ⟨none, 0, rfl, ((H.refacts (R' := [_]) (List.forall_mem_cons.2 ⟨txF_nil, List.forall_mem_nil _⟩))).popL⟩
  · skip
    clear E; intro c13 E
    have hlt : ¬ bs.length < 16 := by have := c13; simp only [decide_eq_false_iff_not] at this; omega
    refine S_else E rfl ?_; refine wp_skip ?_; refine hK1 _ _ ?_; refine wp_seq_k fun K4 hK4 => ?_; refine wp_seq_k fun K5 hK5 => ?_; refine S_region ?_; refine S_val E (pk_move rfl rfl) rfl rfl rfl ?_; clear E a; intro a E; refine S_val E (pk_len rfl rfl (by kernel_rfl)) rfl rfl rfl ?_; clear E a; intro a E; refine S_val E (pk_int rfl rfl rfl rfl) rfl rfl rfl ?_; clear E a; intro a E; refine hK5 _ _ ?_; refine env_split (d := 16) E rfl ?_ ?_
    · skip
      clear E; intro c16 E
      have hgt : 1048592 < bs.length := by have := c16; simp only [decide_eq_true_eq] at this; omega
      have hor : openR gt k bs ts = ([], 4) := by unfold openR; rw [if_neg hlt, if_pos hgt]
      refine S_then E rfl ?_; refine wp_seq_k fun K6 hK6 => ?_; refine S_region ?_; refine S_val E (pk_assign rfl rfl) rfl rfl rfl ?_; clear E a; intro a E; refine S_val E (pk_assign rfl rfl) rfl rfl rfl ?_; clear E a; intro a E; refine hK6 _ _ ?_; refine wp_ret ?_
      repeat (first | refine then_ret ?_ | refine block_ret ?_)
      refine ret2 rfl E (resT rfl) (resT rfl) ?_
      rw [hor]
      exact ⟨none, 0, rfl, ((H.refacts (R' := [_]) (List.forall_mem_cons.2 ⟨txF_nil, List.forall_mem_nil _⟩))).popL⟩
    · skip
      clear E; intro c16 E
      have hgt : ¬ 1048592 < bs.length := by have := c16; simp only [decide_eq_false_iff_not] at this; omega
      obtain ⟨n, hn⟩ : ∃ n, bs.length = n + 16 := ⟨bs.length - 16, by omega⟩
      have hbt : (bs.take n).length = n := by rw [List.length_take]; omega
      have hn16 : bs.length - 16 = n := by omega
      refine S_else E rfl ?_; refine wp_skip ?_; refine hK4 _ _ ?_; refine wp_seq_k fun K7 hK7 => ?_
      replace H := H.know (txF_take (hi := n) (H.fact 0 rfl) (by omega))
      replace H : Sep _ _ _ _ [_] [_, _, _, _] := H; refine S_region ?_; refine S_val E (pk_move rfl rfl) rfl rfl rfl ?_; clear E a; intro a E; refine S_val E (pk_move rfl rfl) rfl rfl rfl ?_; clear E a; intro a E; refine S_val E (pk_len rfl rfl (by kernel_rfl)) rfl rfl rfl ?_; clear E a; intro a E; refine S_val E (pk_intw rfl rfl rfl rfl (wI64 (by omega) (by omega))) rfl rfl rfl ?_; clear E a; intro a E
      rw [show ((bs.length : Nat) : Int) - 16 = ((n : Nat) : Int) from by omega] at E
      refine S_val E (pk_sub_hi (sz := 1) (hi := n) rfl (by kernel_rfl) rfl rfl rfl (by omega)) rfl rfl rfl ?_; clear E a; intro a E
      rw [sub_zero, show Value.slice BA n bc = .slice BA (bs.take n).length bc from by rw [hbt]] at E
      refine S_eff E rfl (fun K hK => ?_); refine eff_call E rfl rfl rfl (by kernel_rfl) ?_; refine (rcopy_tx (k := (bs.take n)) H.xk (H.fact 0 rfl)).mono ?_; rintro e w ⟨A22, c22, rfl, H1⟩
      replace H := H.call H1
      clear H1; replace H : Sep _ _ _ _ [_] [_, _, _, _, _] := H; refine hK _ _ ?_; clear hK K; refine S_put E rfl rfl ?_; clear E a; intro a E; refine S_val E (pk_assign rfl rfl) rfl rfl rfl ?_; clear E a; intro a E; refine hK7 _ _ ?_; refine wp_seq_k fun K8 hK8 => ?_; refine S_region ?_; refine S_val E (pk_load (n := 32) H 0 rfl rfl rfl trivial rfl (by kernel_rfl)) rfl rfl rfl ?_; clear E a; intro a E; refine S_val E (pk_move rfl rfl) rfl rfl rfl ?_; clear E a; intro a E; refine S_val E (pk_move rfl rfl) rfl rfl rfl ?_; clear E a; intro a E; refine S_eff E rfl (fun K hK => ?_); refine eff_call E rfl rfl rfl (by kernel_rfl) ?_; refine (RTag_any (k := k) (hid := (bs.take n)) (ts := ts) hk32 hkb (by rw [hbt]; omega) hts H.xk (H.fact 0 rfl) (H.fact 3 rfl) (H.fact 4 rfl)).mono ?_; rintro e w ⟨A27, c27, rfl, H1⟩
      replace H := H.call H1
      clear H1; replace H : Sep _ _ _ _ [_] [_, _, _, _, _, _] := H; refine hK _ _ ?_; clear hK K; refine S_put E rfl rfl ?_; clear E a; intro a E; refine S_val E (pk_move rfl rfl) rfl rfl rfl ?_; clear E a; intro a E; refine S_val E (pk_extract rfl rfl rfl) rfl rfl rfl ?_; clear E a; intro a E; refine S_val E (pk_extract rfl rfl rfl) rfl rfl rfl ?_; clear E a; intro a E; refine S_val E (pk_assign rfl rfl) rfl rfl rfl ?_; clear E a; intro a E; refine S_val E (pk_assign rfl rfl) rfl rfl rfl ?_; clear E a; intro a E; refine hK8 _ _ ?_; refine wp_seq_k fun K9 hK9 => ?_; refine wp_seq_k fun K10 hK10 => ?_; refine S_region ?_; refine S_val E (pk_move rfl rfl) rfl rfl rfl ?_; clear E a; intro a E; refine S_val E (pk_not rfl rfl) rfl rfl rfl ?_; clear E a; intro a E; refine hK10 _ _ ?_; refine env_split (d := 31) E rfl ?_ ?_
      · skip
        clear E; intro c31 E
        have hok : ¬ okT ts := by simpa using c31
        have hor : openR gt k bs ts = ([], 4) := by unfold openR; rw [if_neg hlt, if_neg hgt, if_pos hok]
        refine S_then E rfl ?_; refine wp_seq_k fun K11 hK11 => ?_; refine S_region ?_; refine S_val E (pk_assign rfl rfl) rfl rfl rfl ?_; clear E a; intro a E; refine S_val E (pk_assign rfl rfl) rfl rfl rfl ?_; clear E a; intro a E; refine hK11 _ _ ?_; refine wp_ret ?_
        repeat (first | refine then_ret ?_ | refine block_ret ?_)
        refine ret2 rfl E (resT rfl) (resT rfl) ?_
        rw [hor]
        exact ⟨none, 0, rfl, ((H.refacts (R' := [_]) (List.forall_mem_cons.2 ⟨txF_nil, List.forall_mem_nil _⟩))).popL⟩
      · skip
        clear E; intro c31 E
        have hok : okT ts := by simpa using c31
        have htr : tagR gt (keyM gt k) (bs.take n) ts = (tagV gt (keyM gt k) (bs.take n) ts, 0) := by unfold tagR; rw [if_pos hok]
        rw [htr] at E H
        simp only at E H
        refine S_else E rfl ?_; refine wp_skip ?_; refine hK9 _ _ ?_; refine wp_seq_k fun K12 hK12 => ?_; refine wp_seq_k fun K13 hK13 => ?_; refine S_region ?_; refine S_val E (pk_move rfl rfl) rfl rfl rfl ?_; clear E a; intro a E; refine S_val E (pk_move rfl rfl) rfl rfl rfl ?_; clear E a; intro a E; refine S_val E (pk_move rfl rfl) rfl rfl rfl ?_; clear E a; intro a E; refine S_val E (pk_len rfl rfl (by kernel_rfl)) rfl rfl rfl ?_; clear E a; intro a E; refine S_val E (pk_intw rfl rfl rfl rfl (wI64 (by omega) (by omega))) rfl rfl rfl ?_; clear E a; intro a E
        rw [show ((bs.length : Nat) : Int) - 16 = ((n : Nat) : Int) from by omega] at E
        obtain ⟨A37, c37, h37, hT37⟩ := txF_drop (lo := n) (H.fact 3 rfl) (by omega)
        refine S_val E (pk_sub_lo (sz := 1) (lo := n) rfl (by kernel_rfl) rfl rfl rfl (by omega)) rfl rfl rfl ?_; clear E a; intro a E
        rw [h37] at E
        replace H := H.know hT37
        clear h37 hT37; replace H : Sep _ _ _ _ _ [_, _, _, _, _, _, _] := H; refine S_eff E rfl (fun K hK => ?_); refine eff_call E rfl rfl rfl (by kernel_rfl) ?_; refine (sameP (l := tagV gt (keyM gt k) (bs.take n) ts) (l' := (bs.drop n)) (H.fact 1 rfl) (H.fact 0 rfl)).mono ?_; rintro e w ⟨rfl, rfl⟩; refine hK _ _ ?_; clear hK K; refine S_put E rfl rfl ?_; clear E a; intro a E; refine S_val E (pk_not rfl rfl) rfl rfl rfl ?_; clear E a; intro a E; refine hK13 _ _ ?_; refine env_split (d := 39) E rfl ?_ ?_
        · skip
          clear E; intro c39 E
          have hne : ¬ tagV gt (keyM gt k) (bs.take n) ts = (bs.drop n) := by simpa using c39
          have hor : openR gt k bs ts = ([], 5) := by unfold openR; rw [if_neg hlt, if_neg hgt, if_neg (fun h => h hok), hn16, if_neg hne]
          refine S_then E rfl ?_; refine wp_seq_k fun K14 hK14 => ?_; refine S_region ?_; refine S_val E (pk_assign rfl rfl) rfl rfl rfl ?_; clear E a; intro a E; refine S_val E (pk_assign rfl rfl) rfl rfl rfl ?_; clear E a; intro a E; refine hK14 _ _ ?_; refine wp_ret ?_
          repeat (first | refine then_ret ?_ | refine block_ret ?_)
          refine ret2 rfl E (resT rfl) (resT rfl) ?_
          rw [hor]
          exact ⟨none, 0, rfl, ((H.refacts (R' := [_]) (List.forall_mem_cons.2 ⟨txF_nil, List.forall_mem_nil _⟩))).popL⟩
        · skip
          clear E; intro c39 E
          have heq : tagV gt (keyM gt k) (bs.take n) ts = (bs.drop n) := by simpa using c39
          have hor : openR gt k bs ts = (strV (keyS gt k) (bs.take n), 0) := by unfold openR; rw [if_neg hlt, if_neg hgt, if_neg (fun h => h hok), hn16, if_pos heq]
          refine S_else E rfl ?_; refine wp_skip ?_; refine hK12 _ _ ?_; refine wp_seq_k fun K15 hK15 => ?_; refine S_region ?_; refine S_val E (pk_load (n := 32) H 0 rfl rfl rfl trivial rfl (by kernel_rfl)) rfl rfl rfl ?_; clear E a; intro a E; refine S_val E (pk_move rfl rfl) rfl rfl rfl ?_; clear E a; intro a E; refine S_eff E rfl (fun K hK => ?_); refine eff_call E rfl rfl rfl (by kernel_rfl) ?_; refine (RStream_any (k := k) (bs := (bs.take n)) hk32 hkb (by rw [hbt]; omega) H.xk (H.fact 2 rfl) (H.fact 6 rfl)).mono ?_; rintro e w ⟨A42, c42, rfl, H1⟩
          replace H := H.call H1
          clear H1; replace H : Sep _ _ _ _ [_, _] [_, _, _, _, _, _, _] := H; refine hK _ _ ?_; clear hK K; refine S_put E rfl rfl ?_; clear E a; intro a E; refine S_val E (pk_assign rfl rfl) rfl rfl rfl ?_; clear E a; intro a E; refine S_val E (pk_assign rfl rfl) rfl rfl rfl ?_; clear E a; intro a E; refine hK15 _ _ ?_; refine wp_ret ?_
          repeat (first | refine then_ret ?_ | refine block_ret ?_)
          refine ret2 rfl E (resT rfl) (resT rfl) ?_
          rw [hor]
          have hT := H.rowTx (Sep.new_x H) (by rw [strV_len]; omega) (strV_byte _ _)
          exact ⟨A42, c42, rfl, (hT.refacts (List.forall_mem_cons.2 ⟨hT.fact 0 rfl, List.forall_mem_nil _⟩)).popL⟩
set_option maxRecDepth 100000 in
set_option maxHeartbeats 400000 in
theorem RLong_any {n : Int} (hn : -9223372036854775808 ≤ n ∧ n ≤ 9223372036854775807) {X : List Nat} {w0 : World} (hX : ∀ k ∈ X, k < w0.heap.size) :
    Calls Tryd.prog 17 #[.int .i64 n] w0 fun e w' => e = .returned (.tuple #[.int .i64 (longV n).1, .int .i64 (longV n).2]) ∧ Sep X [] w0 w' [] [] := by
  refine calls_env Tryd.ntmps17 Tryd.func17 rfl rfl fun a E => ?_; replace E : Env a _ [(0, _)] := E
  have H : Sep X [] w0 w0 [] [] := Sep.start hX (fun _ h => by cases h)
  refine wp_seq_k fun K0 hK0 => ?_; refine S_region ?_; refine S_val E (pk_assign rfl rfl) rfl rfl rfl ?_; clear E a; intro a E; refine S_val E (pk_assign rfl rfl) rfl rfl rfl ?_; clear E a; intro a E; refine hK0 _ _ ?_; refine wp_seq_k fun K1 hK1 => ?_; refine wp_seq_k fun K2 hK2 => ?_; refine S_region ?_; refine S_val E (pk_move rfl rfl) rfl rfl rfl ?_; clear E a; intro a E; refine S_val E (pk_int rfl rfl rfl rfl) rfl rfl rfl ?_; clear E a; intro a E; refine S_val E (pk_move rfl rfl) rfl rfl rfl ?_; clear E a; intro a E; refine env_split (d := 6) E rfl ?_ ?_
  · skip
    clear E; intro c6 E
    have hlo : n < 0 := by simpa using c6
    refine S_skip E rfl rfl rfl ?_; clear E a; intro a E; refine S_skip E rfl rfl rfl ?_; clear E a; intro a E; refine S_val E (pk_pick rfl rfl rfl) rfl rfl rfl ?_; clear E a; intro a E; refine hK2 _ _ ?_; refine S_then E rfl ?_; refine wp_seq_k fun K3 hK3 => ?_; refine S_region ?_; refine S_val E (pk_assign rfl rfl) rfl rfl rfl ?_; clear E a; intro a E; refine S_val E (pk_assign rfl rfl) rfl rfl rfl ?_; clear E a; intro a E; refine hK3 _ _ ?_; refine wp_ret ?_
    repeat (first | refine then_ret ?_ | refine block_ret ?_)
    refine ret2 rfl E (resT rfl) (resT rfl) ?_
    have hb : n < 0 ∨ 1048576 < n := by
      first | exact .inl hlo | exact .inr (by simpa using c9)
    rw [show longV n = (0, 1) from by unfold longV; rw [if_pos hb]]
    exact ⟨rfl, H⟩
  · skip
    clear E; intro c6 E
    have hlo : ¬ n < 0 := by simpa using c6
    refine S_val E (pk_move rfl rfl) rfl rfl rfl ?_; clear E a; intro a E; refine S_val E (pk_int rfl rfl rfl rfl) rfl rfl rfl ?_; clear E a; intro a E; refine S_val E (pk_pick rfl rfl rfl) rfl rfl rfl ?_; clear E a; intro a E; refine hK2 _ _ ?_; refine env_split (d := 9) E rfl ?_ ?_
    · skip
      clear E; intro c9 E; refine S_then E rfl ?_; refine wp_seq_k fun K4 hK4 => ?_; refine S_region ?_; refine S_val E (pk_assign rfl rfl) rfl rfl rfl ?_; clear E a; intro a E; refine S_val E (pk_assign rfl rfl) rfl rfl rfl ?_; clear E a; intro a E; refine hK4 _ _ ?_; refine wp_ret ?_
      repeat (first | refine then_ret ?_ | refine block_ret ?_)
      refine ret2 rfl E (resT rfl) (resT rfl) ?_
      have hb : n < 0 ∨ 1048576 < n := by
        first | exact .inl hlo | exact .inr (by simpa using c9)
      rw [show longV n = (0, 1) from by unfold longV; rw [if_pos hb]]
      exact ⟨rfl, H⟩
    · skip
      clear E; intro c9 E
      have hhi : n ≤ 1048576 := by have := c9; simp only [decide_eq_false_iff_not] at this; omega
      refine S_else E rfl ?_; refine wp_skip ?_; refine hK1 _ _ ?_; refine wp_seq_k fun K5 hK5 => ?_; refine S_region ?_; refine S_val E (pk_move rfl rfl) rfl rfl rfl ?_; clear E a; intro a E; refine S_val E (pk_intw rfl rfl rfl rfl (wI64 (by omega) (by omega))) rfl rfl rfl ?_; clear E a; intro a E; refine S_val E (pk_assign rfl rfl) rfl rfl rfl ?_; clear E a; intro a E; refine S_val E (pk_assign rfl rfl) rfl rfl rfl ?_; clear E a; intro a E; refine hK5 _ _ ?_; refine wp_ret ?_
      repeat (first | refine then_ret ?_ | refine block_ret ?_)
      refine ret2 rfl E (resT rfl) (resT rfl) ?_
      have hb : ¬ (n < 0 ∨ 1048576 < n) := by omega
      rw [show longV n = (n + 16, 0) from by unfold longV; rw [if_neg hb]]
      exact ⟨rfl, H⟩
set_option maxRecDepth 100000 in
set_option maxHeartbeats 1000000 in
theorem Seal_long {PA TA : Option Addr} {pc tc : Nat} {k plain : List Nat} {ts : List (List Nat)} {tm : Nat → TextT.μ} {gt : Nat → Nat} (hk32 : k.length = 32) (hkb : ∀ x ∈ k, x < 256) (hbig : 1048576 < plain.length) {X : List Nat} {w0 : World} (hX : ∀ k ∈ X, k < w0.heap.size) (hP : St (TxF PA pc plain) w0 X) (hL : St (LiF TextT TA tc ts tm) w0 X) (hG : St (AtC ⟨2, 0, none⟩ [.row 64 fun i => u32 (gt i)]) w0 X) :
    Calls Tryd.prog 9 #[.agg (ca [.key k]), .slice PA plain.length pc, .slice TA ts.length tc] w0 fun e w' => e = .returned (.tuple #[.slice none 0 0, .int .i64 4]) ∧ Sep X [] w0 w' [] [] := by
  have hpl := hP.now.len
  refine calls_env Tryd.ntmps9 Tryd.func9 rfl rfl fun a E => ?_; replace E : Env a _ [(0, _), (1, _), (2, _)] := E
  have H : Sep X [] w0 w0 [] [(TxF PA pc plain), (LiF TextT TA tc ts tm), (AtC ⟨2, 0, none⟩ [.row 64 fun i => u32 (gt i)])] := Sep.start hX (List.forall_mem_cons.2 ⟨hP, List.forall_mem_cons.2 ⟨hL, List.forall_mem_cons.2 ⟨hG, fun _ h => by cases h⟩⟩⟩)
  refine wp_seq_k fun K0 hK0 => ?_; refine S_region ?_; refine S_eff E rfl (fun K hK => ?_); refine eff_box E H rfl rfl rfl ?_; clear H; intro b3 w H _; refine hK _ _ ?_; clear hK K; refine S_put E rfl rfl ?_; clear E a; intro a E; refine S_val E (pk_assign rfl rfl) rfl rfl rfl ?_; clear E a; intro a E; refine S_val E (pk_assign rfl rfl) rfl rfl rfl ?_; clear E a; intro a E; refine hK0 _ _ ?_; refine wp_seq_k fun K1 hK1 => ?_; refine S_region ?_; refine S_val E (pk_load (n := 32) H 0 rfl rfl rfl trivial rfl (by kernel_rfl)) rfl rfl rfl ?_; clear E a; intro a E; refine S_eff E rfl (fun K hK => ?_); refine eff_call E rfl rfl rfl (by kernel_rfl) ?_; refine (keysOf_any (k := k) hk32 hkb H.xk (H.fact 2 rfl)).mono ?_; rintro e w ⟨A14, c14, rfl, H1⟩
  replace H := H.call H1
  clear H1; replace H : Sep _ _ _ _ [_] [_, _, _, _] := H; refine hK _ _ ?_; clear hK K; refine S_put E rfl rfl ?_; clear E a; intro a E; refine S_val E (pk_move rfl rfl) rfl rfl rfl ?_; clear E a; intro a E; refine S_val E (pk_extract rfl rfl rfl) rfl rfl rfl ?_; clear E a; intro a E; refine S_val E (pk_extract rfl rfl rfl) rfl rfl rfl ?_; clear E a; intro a E; refine S_eff E rfl (fun K hK => ?_); refine eff_alloc (z := [.row 16 fun _ => .int .u8 0, .row 12 fun _ => .int .u8 0, .one (.slice none 0 0)]) H rfl (by kernel_rfl) ?_; clear H; intro b8 w H _; refine hK _ _ ?_; clear hK K; refine S_put E rfl rfl ?_; clear E a; intro a E; refine S_eff E rfl (fun K hK => ?_); refine eff_store 0 E H rfl rfl rfl rfl rfl (by repeat (first | exact trivial | refine ⟨rfl, ?_⟩ | refine ⟨fun _ _ => rfl, ?_⟩)) rfl (by kernel_rfl) rfl ?_; clear H; intro w H _; replace H : Sep _ _ _ _ [_, _] _ := H
  refine hK _ _ ?_; clear hK K; refine S_put0 rfl ?_; refine S_val E (pk_assign rfl rfl) rfl rfl rfl ?_; clear E a; intro a E; refine hK1 _ _ ?_; refine wp_seq_k fun K2 hK2 => ?_; refine wp_seq_k fun K3 hK3 => ?_; refine S_region ?_; refine S_val E (pk_move rfl rfl) rfl rfl rfl ?_; clear E a; intro a E; refine S_val E (pk_int (v := .bool false) rfl rfl rfl (congrArg (fun b => some (Value.bool b)) (rfl))) rfl rfl rfl ?_; clear E a; intro a E; refine hK3 _ _ ?_; refine S_else E rfl ?_; refine wp_skip ?_; refine hK2 _ _ ?_; refine wp_seq_k fun K4 hK4 => ?_; refine S_region ?_; refine S_val E (pk_fieldAddr (off := 0) rfl rfl (by kernel_rfl)) rfl rfl rfl ?_; clear E a; intro a E; refine S_val E (pk_load (n := 16) H 0 rfl rfl rfl trivial rfl (by kernel_rfl)) rfl rfl rfl ?_; clear E a; intro a E; refine S_val E (pk_fieldAddr (off := 16) rfl rfl (by kernel_rfl)) rfl rfl rfl ?_; clear E a
  intro a E; refine S_val E (pk_load (n := 12) H 0 rfl rfl rfl trivial rfl (by kernel_rfl)) rfl rfl rfl ?_; clear E a; intro a E; refine S_val E (pk_move rfl rfl) rfl rfl rfl ?_; clear E a; intro a E; refine S_eff E rfl (fun K hK => ?_); refine eff_call E rfl rfl rfl (by kernel_rfl) ?_; refine (ctr_long (k := plain) H.xk hbig hpl (keyS gt k)).mono ?_; rintro e w ⟨rfl, H1⟩
  replace H := H.call H1
  clear H1; replace H : Sep _ _ _ _ [_, _] [_, _, _, _] := H; refine hK _ _ ?_; clear hK K; refine S_put E rfl rfl ?_; clear E a; intro a E; refine S_val E (pk_move rfl rfl) rfl rfl rfl ?_; clear E a; intro a E; refine S_val E (pk_extract rfl rfl rfl) rfl rfl rfl ?_; clear E a; intro a E; refine S_val E (pk_extract rfl rfl rfl) rfl rfl rfl ?_; clear E a; intro a E; refine S_val E (pk_assign rfl rfl) rfl rfl rfl ?_; clear E a; intro a E; refine S_val E (pk_assign rfl rfl) rfl rfl rfl ?_; clear E a; intro a E; refine hK4 _ _ ?_; refine wp_seq_k fun K5 hK5 => ?_; refine wp_seq_k fun K6 hK6 => ?_; refine S_region ?_; refine S_val E (pk_move rfl rfl) rfl rfl rfl ?_; clear E a; intro a E; refine S_val E (pk_int (v := .bool true) rfl rfl rfl (congrArg (fun b => some (Value.bool b)) (rfl))) rfl rfl rfl ?_; clear E a; intro a E; refine hK6 _ _ ?_; refine S_then E rfl ?_
  refine wp_seq_k fun K7 hK7 => ?_; refine S_region ?_; refine S_val E (pk_move rfl rfl) rfl rfl rfl ?_; clear E a; intro a E; refine S_val E (pk_assign rfl rfl) rfl rfl rfl ?_; clear E a; intro a E; refine S_val E (pk_assign rfl rfl) rfl rfl rfl ?_; clear E a; intro a E; refine hK7 _ _ ?_; refine wp_ret ?_
  repeat (first | refine then_ret ?_ | refine block_ret ?_)
  refine ret2 rfl E (resT rfl) (resT rfl) ?_
  exact ⟨rfl, (H.refacts (List.forall_mem_nil _)).popL.popL⟩
theorem SealX_any {PA TA : Option Addr} {pc tc : Nat} {k plain : List Nat} {ts : List (List Nat)} {tm : Nat → TextT.μ} {gt : Nat → Nat} (hk32 : k.length = 32) (hkb : ∀ x ∈ k, x < 256) (hts : ts.length ≤ 1000) {X : List Nat} {w0 : World} (hX : ∀ k ∈ X, k < w0.heap.size) (hP : St (TxF PA pc plain) w0 X) (hL : St (LiF TextT TA tc ts tm) w0 X) (hG : St (AtC ⟨2, 0, none⟩ [.row 64 fun i => u32 (gt i)]) w0 X) :
    Calls Tryd.prog 9 #[.agg (ca [.key k]), .slice PA plain.length pc, .slice TA ts.length tc] w0 fun e w' => ∃ A' c', e = .returned (.tuple #[.slice A' (sealX gt k plain ts).1.length c', .int .i64 (sealX gt k plain ts).2]) ∧ Sep X [] w0 w' [.row (.slice A' (sealX gt k plain ts).1.length c') 5 1 (sealX gt k plain ts).1.length ((sealX gt k plain ts).1.map bv)] [] := by
  by_cases h : 1048576 < plain.length
  · rw [sealX_no h]
    refine (Seal_long hk32 hkb h hX hP hL hG).mono ?_
    rintro e w' ⟨rfl, H⟩
    exact ⟨none, 0, rfl, H.rownil _ _⟩
  · rw [sealX_ok h]
    exact Seal_any hk32 hkb (by omega) hts hX hP hL hG
end Go.Proofs.YtlhhfngkfbbckaaDoor
namespace Go.Proofs.YtlhhfngkfbbckaaDoor
set_option linter.unusedSimpArgs false
set_option linter.unusedVariables false
open Go.RowKit


/-- Bytes, as elements. -/
def ByteK : Ty Nat where
  μ := Unit
  dft := ()
  sz := 1
  pos := by decide
  ch x _ := [.one (bv x)]
  nest _ _ _ := True
  len _ _ := rfl
  one _ _ := ⟨rfl, trivial⟩
def bytK (k : List Nat) : List (Nat × ByteK.μ) := k.map fun x => (x, ())
theorem rowC_byte (k : List Nat) : rowC ByteK (bytK k) = k.map bv := by
  induction k with
  | nil => rfl
  | cons x k ih =>
    show cl [.one (bv x)] ++ rowC ByteK (bytK k) = _
    rw [ih]; rfl
theorem bytK_set (k : List Nat) (i v : Nat) : (bytK k).set i (v, ()) = bytK (k.set i v) := by unfold bytK; rw [List.map_set]
theorem bytK_len (k : List Nat) : (bytK k).length = k.length := by unfold bytK; rw [List.length_map]
theorem bytK_at {k : List Nat} {i x : Nat} (h : k[i]? = some x) : (bytK k)[i]? = some (x, ()) := by unfold bytK; rw [List.getElem?_map, h]; rfl
attribute [local irreducible] strV keyS keyM tagV sealR openR
end Go.Proofs.YtlhhfngkfbbckaaDoor
namespace Go.Proofs.YtlhhfngkfbbckaaDoor
set_option linter.unusedSimpArgs false
set_option linter.unusedVariables false
open Go.RowKit

attribute [local irreducible] strV keyS keyM tagV sealR openR
attribute [local irreducible] sealX longV
set_option maxRecDepth 100000 in
set_option maxHeartbeats 1000000 in
theorem SealDoes_any {BA TA : Option Addr} {bc tc : Nat} {k bs : List Nat} {ts : List (List Nat)} {tm : Nat → TextT.μ} {x3 : Int} {gt : Nat → Nat} (hk32 : k.length = 32) (hkb : ∀ x ∈ k, x < 256) (hx3 : -9223372036854775808 ≤ x3 ∧ x3 ≤ 9223372036854775807) {X : List Nat} {w0 : World} (hX : ∀ k ∈ X, k < w0.heap.size) (hB : St (TxF BA bc bs) w0 X) (hL : St (LiF TextT TA tc ts tm) w0 X) (hG : St (AtC ⟨2, 0, none⟩ [.row 64 fun i => u32 (gt i)]) w0 X) (hK : St (AtC ⟨1, 0, none⟩ [.row 64 fun i => u32 (gt i)]) w0 X) :
    Calls Tryd.prog 6 #[.agg (ca [.key k]), .slice BA bs.length bc, .slice TA ts.length tc, .int .i64 x3] w0 fun e w' => e = .returned (.bool true) ∧ Sep X [] w0 w' [] [] := by
  have hBl := hB.now.len
  have hBb := hB.now.byt
  refine calls_env Tryd.ntmps6 Tryd.func6 rfl rfl fun a E => ?_; replace E : Env a _ [(0, _), (1, _), (2, _), (3, _)] := E
  have H : Sep X [] w0 w0 [] [(TxF BA bc bs), (LiF TextT TA tc ts tm), (AtC ⟨2, 0, none⟩ [.row 64 fun i => u32 (gt i)]), (AtC ⟨1, 0, none⟩ [.row 64 fun i => u32 (gt i)])] := Sep.start hX (List.forall_mem_cons.2 ⟨hB, List.forall_mem_cons.2 ⟨hL, List.forall_mem_cons.2 ⟨hG, List.forall_mem_cons.2 ⟨hK, fun _ h => by cases h⟩⟩⟩⟩)
  refine wp_seq_k fun K0 hK0 => ?_; refine S_region ?_; refine S_eff E rfl (fun K hK => ?_); refine eff_box E H rfl rfl rfl ?_; clear H; intro b4 w H _; refine hK _ _ ?_; clear hK K; refine S_put E rfl rfl ?_; clear E a; intro a E; refine S_val E (pk_assign rfl rfl) rfl rfl rfl ?_; clear E a; intro a E; refine hK0 _ _ ?_; refine wp_seq_k fun K1 hK1 => ?_; refine S_region ?_; refine S_eff E rfl (fun K hK => ?_); refine eff_call E rfl rfl rfl (by kernel_rfl) ?_; refine (live07_any H.xk (H.fact 2 rfl)).mono ?_; rintro e w ⟨rfl, H1⟩
  replace H := H.call H1
  clear H1; replace H : Sep _ _ _ _ [_] [_, _, _, _] := H; refine hK _ _ ?_; clear hK K; refine S_put E rfl rfl ?_; clear E a; intro a E; refine S_val E (pk_assign rfl rfl) rfl rfl rfl ?_; clear E a; intro a E; refine hK1 _ _ ?_; refine wp_seq_k fun K2 hK2 => ?_; refine wp_seq_k fun K3 hK3 => ?_; refine S_region ?_; refine S_val E (pk_move rfl rfl) rfl rfl rfl ?_; clear E a; intro a E; refine S_val E (pk_not rfl rfl) rfl rfl rfl ?_; clear E a; intro a E; refine hK3 _ _ ?_; refine S_else E rfl ?_; refine wp_skip ?_; refine hK2 _ _ ?_; refine wp_seq_k fun K4 hK4 => ?_; refine wp_seq_k fun K5 hK5 => ?_; refine S_region ?_; refine S_val E (pk_move rfl rfl) rfl rfl rfl ?_; clear E a; intro a E; refine S_val E (pk_len rfl rfl (by kernel_rfl)) rfl rfl rfl ?_; clear E a; intro a E; refine S_val E (pk_int rfl rfl rfl rfl) rfl rfl rfl ?_; clear E a; intro a E
  refine S_val E (pk_move rfl rfl) rfl rfl rfl ?_; clear E a; intro a E; refine env_split (d := 31) E rfl ?_ ?_
  · skip
    clear E; intro c31 E; refine S_val E (pk_move rfl rfl) rfl rfl rfl ?_; clear E a; intro a E; refine S_val E (pk_len rfl rfl (by kernel_rfl)) rfl rfl rfl ?_; clear E a; intro a E; refine S_val E (pk_int rfl rfl rfl rfl) rfl rfl rfl ?_; clear E a; intro a E; refine S_val E (pk_pick rfl rfl rfl) rfl rfl rfl ?_; clear E a; intro a E; refine S_val E (pk_move rfl rfl) rfl rfl rfl ?_; clear E a; intro a E; refine env_split (d := 36) E rfl ?_ ?_
    · skip
      clear E; intro c36 E; refine S_skip E rfl rfl rfl ?_; clear E a; intro a E; refine S_skip E rfl rfl rfl ?_; clear E a; intro a E; refine S_skip E rfl rfl rfl ?_; clear E a; intro a E; refine S_val E (pk_pick rfl rfl rfl) rfl rfl rfl ?_; clear E a; intro a E; refine hK5 _ _ ?_; refine S_then E rfl ?_; refine wp_seq_k fun K6 hK6 => ?_; refine S_region ?_; refine S_val E (pk_move rfl rfl) rfl rfl rfl ?_; clear E a; intro a E; refine S_val E (pk_assign rfl rfl) rfl rfl rfl ?_; clear E a; intro a E; refine hK6 _ _ ?_; refine wp_ret ?_
      repeat (first | refine then_ret ?_ | refine block_ret ?_)
      refine ret1 rfl E (resT rfl) ?_
      exact ⟨rfl, (H.refacts (R' := []) (List.forall_mem_nil _)).popL⟩
    · skip
      clear E; intro c36 E; refine S_val E (pk_move rfl rfl) rfl rfl rfl ?_; clear E a; intro a E; refine S_eff E rfl (fun K hK => ?_); refine eff_call E rfl rfl rfl (by kernel_rfl) ?_; refine (rFewM_any H.xk (H.fact 1 rfl)).mono ?_; rintro e w ⟨rfl, H1⟩
      replace H := H.call H1
      clear H1; replace H : Sep _ _ _ _ [_] [_, _, _, _] := H; refine hK _ _ ?_; clear hK K; refine S_put E rfl rfl ?_; clear E a; intro a E; refine S_val E (pk_not rfl rfl) rfl rfl rfl ?_; clear E a; intro a E; refine S_val E (pk_pick rfl rfl rfl) rfl rfl rfl ?_; clear E a; intro a E; refine hK5 _ _ ?_; refine env_split (d := 40) E rfl ?_ ?_
      · skip
        clear E; intro c40 E; refine S_then E rfl ?_; refine wp_seq_k fun K7 hK7 => ?_; refine S_region ?_; refine S_val E (pk_move rfl rfl) rfl rfl rfl ?_; clear E a; intro a E; refine S_val E (pk_assign rfl rfl) rfl rfl rfl ?_; clear E a; intro a E; refine hK7 _ _ ?_; refine wp_ret ?_
        repeat (first | refine then_ret ?_ | refine block_ret ?_)
        refine ret1 rfl E (resT rfl) ?_
        exact ⟨rfl, (H.refacts (R' := []) (List.forall_mem_nil _)).popL⟩
      · skip
        clear E; intro c40 E
        have hts : ts.length ≤ 1000 := fewM_len (by simpa using c40)
        refine S_else E rfl ?_; refine wp_skip ?_; refine hK4 _ _ ?_; refine wp_seq_k fun K8 hK8 => ?_; refine S_region ?_; refine S_val E (pk_move rfl rfl) rfl rfl rfl ?_; clear E a; intro a E; refine S_eff E rfl (fun K hK => ?_); refine eff_call E rfl rfl rfl (by kernel_rfl) ?_; refine (rcopy_tx (k := bs) H.xk (H.fact 0 rfl)).mono ?_; rintro e w ⟨A43, c43, rfl, H1⟩
        replace H := H.call H1
        clear H1; replace H : Sep _ _ _ _ [_] [_, _, _, _, _] := H; refine hK _ _ ?_; clear hK K; refine S_put E rfl rfl ?_; clear E a; intro a E; refine S_val E (pk_assign rfl rfl) rfl rfl rfl ?_; clear E a; intro a E; refine hK8 _ _ ?_; refine wp_seq_k fun K9 hK9 => ?_; refine S_region ?_; refine S_val E (pk_load (n := 32) H 0 rfl rfl rfl trivial rfl (by kernel_rfl)) rfl rfl rfl ?_; clear E a; intro a E; refine S_val E (pk_move rfl rfl) rfl rfl rfl ?_; clear E a; intro a E; refine S_val E (pk_move rfl rfl) rfl rfl rfl ?_; clear E a; intro a E; refine S_eff E rfl (fun K hK => ?_); refine eff_call E rfl rfl rfl (by kernel_rfl) ?_; refine (SealX_any (k := k) (plain := bs) (ts := ts) hk32 hkb hts H.xk (H.fact 1 rfl) (H.fact 2 rfl) (H.fact 3 rfl)).mono ?_; rintro e w ⟨A48, c48, rfl, H1⟩
        replace H := H.call H1
        clear H1; replace H : Sep _ _ _ _ [_, _] [_, _, _, _, _] := H; refine hK _ _ ?_; clear hK K; refine S_put E rfl rfl ?_; clear E a; intro a E; refine S_val E (pk_move rfl rfl) rfl rfl rfl ?_; clear E a; intro a E; refine S_val E (pk_extract rfl rfl rfl) rfl rfl rfl ?_; clear E a; intro a E; refine S_val E (pk_extract rfl rfl rfl) rfl rfl rfl ?_; clear E a; intro a E; refine S_val E (pk_assign rfl rfl) rfl rfl rfl ?_; clear E a; intro a E; refine S_val E (pk_assign rfl rfl) rfl rfl rfl ?_; clear E a; intro a E; refine hK9 _ _ ?_; refine wp_seq_k fun K10 hK10 => ?_; refine S_region ?_; refine S_val E (pk_load (n := 32) H 1 rfl rfl rfl trivial rfl (by kernel_rfl)) rfl rfl rfl ?_; clear E a; intro a E; refine S_val E (pk_move rfl rfl) rfl rfl rfl ?_; clear E a; intro a E; refine S_val E (pk_move rfl rfl) rfl rfl rfl ?_; clear E a; intro a E; refine S_eff E rfl (fun K hK => ?_)
        refine eff_call E rfl rfl rfl (by kernel_rfl) ?_; refine (RSeal_any (k := k) (plain := bs) (ts := ts) hk32 hkb hts H.xk (H.fact 1 rfl) (H.fact 2 rfl) (H.fact 4 rfl)).mono ?_; rintro e w ⟨A55, c55, rfl, H1⟩
        replace H := H.call H1
        clear H1; replace H : Sep _ _ _ _ [_, _] [_, _, _, _, _, _] := H; refine hK _ _ ?_; clear hK K; refine S_put E rfl rfl ?_; clear E a; intro a E; refine S_val E (pk_move rfl rfl) rfl rfl rfl ?_; clear E a; intro a E; refine S_val E (pk_extract rfl rfl rfl) rfl rfl rfl ?_; clear E a; intro a E; refine S_val E (pk_extract rfl rfl rfl) rfl rfl rfl ?_; clear E a; intro a E; refine S_val E (pk_assign rfl rfl) rfl rfl rfl ?_; clear E a; intro a E; refine S_val E (pk_assign rfl rfl) rfl rfl rfl ?_; clear E a; intro a E; refine hK10 _ _ ?_; refine wp_seq_k fun K11 hK11 => ?_; refine S_region ?_; refine S_val E (pk_load (n := 32) H 1 rfl rfl rfl trivial rfl (by kernel_rfl)) rfl rfl rfl ?_; clear E a; intro a E; refine S_val E (pk_move rfl rfl) rfl rfl rfl ?_; clear E a; intro a E; refine S_val E (pk_move rfl rfl) rfl rfl rfl ?_; clear E a; intro a E; refine S_eff E rfl (fun K hK => ?_)
        refine eff_call E rfl rfl rfl (by kernel_rfl) ?_; refine (Open_any (k := k) (bs := bs) (ts := ts) hk32 hkb hts H.xk (H.fact 2 rfl) (H.fact 3 rfl) (H.fact 4 rfl)).mono ?_; rintro e w ⟨A62, c62, rfl, H1⟩
        replace H := H.call H1
        clear H1; replace H : Sep _ _ _ _ [_, _] [_, _, _, _, _, _, _] := H; refine hK _ _ ?_; clear hK K; refine S_put E rfl rfl ?_; clear E a; intro a E; refine S_val E (pk_move rfl rfl) rfl rfl rfl ?_; clear E a; intro a E; refine S_val E (pk_extract rfl rfl rfl) rfl rfl rfl ?_; clear E a; intro a E; refine S_val E (pk_extract rfl rfl rfl) rfl rfl rfl ?_; clear E a; intro a E; refine S_val E (pk_assign rfl rfl) rfl rfl rfl ?_; clear E a; intro a E; refine S_val E (pk_assign rfl rfl) rfl rfl rfl ?_; clear E a; intro a E; refine hK11 _ _ ?_; refine wp_seq_k fun K12 hK12 => ?_; refine S_region ?_; refine S_val E (pk_load (n := 32) H 1 rfl rfl rfl trivial rfl (by kernel_rfl)) rfl rfl rfl ?_; clear E a; intro a E; refine S_val E (pk_move rfl rfl) rfl rfl rfl ?_; clear E a; intro a E; refine S_val E (pk_move rfl rfl) rfl rfl rfl ?_; clear E a; intro a E; refine S_eff E rfl (fun K hK => ?_)
        refine eff_call E rfl rfl rfl (by kernel_rfl) ?_; refine (ROpen_any (k := k) (bs := bs) (ts := ts) hk32 hkb hts H.xk (H.fact 3 rfl) (H.fact 4 rfl) (H.fact 6 rfl)).mono ?_; rintro e w ⟨A69, c69, rfl, H1⟩
        replace H := H.call H1
        clear H1; replace H : Sep _ _ _ _ [_, _] [_, _, _, _, _, _, _, _] := H; refine hK _ _ ?_; clear hK K; refine S_put E rfl rfl ?_; clear E a; intro a E; refine S_val E (pk_move rfl rfl) rfl rfl rfl ?_; clear E a; intro a E; refine S_val E (pk_extract rfl rfl rfl) rfl rfl rfl ?_; clear E a; intro a E; refine S_val E (pk_extract rfl rfl rfl) rfl rfl rfl ?_; clear E a; intro a E; refine S_val E (pk_assign rfl rfl) rfl rfl rfl ?_; clear E a; intro a E; refine S_val E (pk_assign rfl rfl) rfl rfl rfl ?_; clear E a; intro a E; refine hK12 _ _ ?_; refine wp_seq_k fun K13 hK13 => ?_; refine S_region ?_; refine S_val E (pk_move rfl rfl) rfl rfl rfl ?_; clear E a; intro a E; refine S_eff E rfl (fun K hK => ?_); refine eff_call E rfl rfl rfl (by kernel_rfl) ?_; refine (Long_any (n := x3) hx3 H.xk).mono ?_; rintro e w ⟨rfl, H1⟩
        replace H := H.call H1
        clear H1; replace H : Sep _ _ _ _ [_, _] [_, _, _, _, _, _, _, _] := H; refine hK _ _ ?_; clear hK K; refine S_put E rfl rfl ?_; clear E a; intro a E; refine S_val E (pk_move rfl rfl) rfl rfl rfl ?_; clear E a; intro a E; refine S_val E (pk_extract rfl rfl rfl) rfl rfl rfl ?_; clear E a; intro a E; refine S_val E (pk_extract rfl rfl rfl) rfl rfl rfl ?_; clear E a; intro a E; refine S_val E (pk_assign rfl rfl) rfl rfl rfl ?_; clear E a; intro a E; refine S_val E (pk_assign rfl rfl) rfl rfl rfl ?_; clear E a; intro a E; refine hK13 _ _ ?_; refine wp_seq_k fun K14 hK14 => ?_; refine S_region ?_; refine S_val E (pk_move rfl rfl) rfl rfl rfl ?_; clear E a; intro a E; refine S_eff E rfl (fun K hK => ?_); refine eff_call E rfl rfl rfl (by kernel_rfl) ?_; refine (RLong_any (n := x3) hx3 H.xk).mono ?_; rintro e w ⟨rfl, H1⟩
        replace H := H.call H1
        clear H1; replace H : Sep _ _ _ _ [_, _] [_, _, _, _, _, _, _, _] := H; refine hK _ _ ?_; clear hK K; refine S_put E rfl rfl ?_; clear E a; intro a E; refine S_val E (pk_move rfl rfl) rfl rfl rfl ?_; clear E a; intro a E; refine S_val E (pk_extract rfl rfl rfl) rfl rfl rfl ?_; clear E a; intro a E; refine S_val E (pk_extract rfl rfl rfl) rfl rfl rfl ?_; clear E a; intro a E; refine S_val E (pk_assign rfl rfl) rfl rfl rfl ?_; clear E a; intro a E; refine S_val E (pk_assign rfl rfl) rfl rfl rfl ?_; clear E a; intro a E; refine hK14 _ _ ?_; refine wp_seq_k fun K15 hK15 => ?_; refine S_region ?_; refine S_val E (pk_move rfl rfl) rfl rfl rfl ?_; clear E a; intro a E; refine S_val E (pk_move rfl rfl) rfl rfl rfl ?_; clear E a; intro a E; refine S_eff E rfl (fun K hK => ?_); refine eff_call E rfl rfl rfl (by kernel_rfl) ?_
        have HR := H.rowTx (Sep.new_x H) (by have := sealX_len gt k bs ts; omega) (sealX_byte _ _ _ _)
        refine (sameP (l := (sealX gt k bs ts).1) (l' := (sealX gt k bs ts).1) (HR.fact 0 rfl) (HR.fact 3 rfl)).mono ?_; rintro e w ⟨rfl, rfl⟩; refine hK _ _ ?_; clear hK K; refine S_put E rfl rfl ?_; clear E a; intro a E; clear HR
        rw [decide_eq_true rfl] at E
        refine S_val E (pk_move rfl rfl) rfl rfl rfl ?_; clear E a; intro a E; refine S_val E (pk_move rfl rfl) rfl rfl rfl ?_; clear E a; intro a E; refine S_val E (pk_move rfl rfl) rfl rfl rfl ?_; clear E a; intro a E; refine S_val E (pk_int (v := .bool true) rfl rfl rfl (congrArg (fun b => some (Value.bool b)) (beq_self_eq_true _))) rfl rfl rfl ?_; clear E a; intro a E; refine S_val E (pk_pick rfl rfl rfl) rfl rfl rfl ?_; clear E a; intro a E; refine S_val E (pk_move rfl rfl) rfl rfl rfl ?_; clear E a; intro a E; refine S_val E (pk_move rfl rfl) rfl rfl rfl ?_; clear E a; intro a E; refine S_val E (pk_move rfl rfl) rfl rfl rfl ?_; clear E a; intro a E; refine S_eff E rfl (fun K hK => ?_); refine eff_call E rfl rfl rfl (by kernel_rfl) ?_; refine (sameP (l := (openR gt k bs ts).1) (l' := (openR gt k bs ts).1) (H.fact 1 rfl) (H.fact 0 rfl)).mono ?_; rintro e w ⟨rfl, rfl⟩; refine hK _ _ ?_
        clear hK K; refine S_put E rfl rfl ?_; clear E a; intro a E
        rw [decide_eq_true rfl] at E
        refine S_val E (pk_pick rfl rfl rfl) rfl rfl rfl ?_; clear E a; intro a E; refine S_val E (pk_move rfl rfl) rfl rfl rfl ?_; clear E a; intro a E; refine S_val E (pk_move rfl rfl) rfl rfl rfl ?_; clear E a; intro a E; refine S_val E (pk_move rfl rfl) rfl rfl rfl ?_; clear E a; intro a E; refine S_val E (pk_int (v := .bool true) rfl rfl rfl (congrArg (fun b => some (Value.bool b)) (beq_self_eq_true _))) rfl rfl rfl ?_; clear E a; intro a E; refine S_val E (pk_pick rfl rfl rfl) rfl rfl rfl ?_; clear E a; intro a E; refine S_val E (pk_move rfl rfl) rfl rfl rfl ?_; clear E a; intro a E; refine S_val E (pk_move rfl rfl) rfl rfl rfl ?_; clear E a; intro a E; refine S_val E (pk_move rfl rfl) rfl rfl rfl ?_; clear E a; intro a E; refine S_val E (pk_int (v := .bool true) rfl rfl rfl (congrArg (fun b => some (Value.bool b)) (beq_self_eq_true _))) rfl rfl rfl ?_; clear E a; intro a E
        refine S_val E (pk_pick rfl rfl rfl) rfl rfl rfl ?_; clear E a; intro a E; refine S_val E (pk_move rfl rfl) rfl rfl rfl ?_; clear E a; intro a E; refine S_val E (pk_move rfl rfl) rfl rfl rfl ?_; clear E a; intro a E; refine S_val E (pk_move rfl rfl) rfl rfl rfl ?_; clear E a; intro a E; refine S_val E (pk_int (v := .bool true) rfl rfl rfl (congrArg (fun b => some (Value.bool b)) (beq_self_eq_true _))) rfl rfl rfl ?_; clear E a; intro a E; refine S_val E (pk_pick rfl rfl rfl) rfl rfl rfl ?_; clear E a; intro a E; refine S_val E (pk_assign rfl rfl) rfl rfl rfl ?_; clear E a; intro a E; refine hK15 _ _ ?_; refine wp_seq_k fun K16 hK16 => ?_; refine wp_seq_k fun K17 hK17 => ?_; refine S_region ?_; refine S_val E (pk_move rfl rfl) rfl rfl rfl ?_; clear E a; intro a E; refine S_val E (pk_len rfl rfl (by kernel_rfl)) rfl rfl rfl ?_; clear E a; intro a E
        refine S_val E (pk_move rfl rfl) rfl rfl rfl ?_; clear E a; intro a E; refine hK17 _ _ ?_; refine wp_block ?_
        have hXl := sealX_len gt k bs ts
        have H0 : Sep X [] w0 w [.row (.slice A48 (sealX gt k bs ts).1.length c48) 5 1 (sealX gt k bs ts).1.length (rowC ByteK (bytK (sealX gt k bs ts).1))] [TxF A43 c43 bs, TxF BA bc bs] := by
          rw [rowC_byte]
          exact Sep.keepLR (L := [_]) (L' := [_]) (R := [_, _]) (R' := []) (H.refacts (R' := [_, _]) (List.forall_mem_cons.2 ⟨H.fact 3 rfl, List.forall_mem_cons.2 ⟨H.fact 4 rfl, List.forall_mem_nil _⟩⟩))
        refine S_loopI (γ := Nat × List Nat) [1, 9, 10, 11, 23, 111] (fun g => [(112, .int .i64 (g.1 : Int))]) (fun g => [.row (.slice A48 (sealX gt k bs ts).1.length c48) 5 1 (sealX gt k bs ts).1.length (rowC ByteK (bytK g.2))]) (fun g => [TxF A43 c43 bs, TxF BA bc bs]) (fun g => g.1 ≤ (sealX gt k bs ts).1.length ∧ g.2.length = (sealX gt k bs ts).1.length) (fun g => (sealX gt k bs ts).1.length - g.1) ((0, (sealX gt k bs ts).1)) E H0 (by repeat (first | exact trivial | refine ⟨rfl, ?_⟩)) (⟨Nat.zero_le _, rfl⟩) ?_; clear E H; intro g a w E H hφ; replace E : Env a _ [(112, _), (1, _), (9, _), (10, _), (11, _), (23, _), (111, _)] := E; replace H : Sep _ _ _ _ [_] [_, _] := H
        obtain ⟨gi, ys⟩ := g
        simp only at E H hφ ⊢
        refine wp_seq_k fun K18 hK18 => ?_; refine S_region ?_; refine S_val E (pk_int rfl rfl rfl rfl) rfl rfl rfl ?_; clear E a; intro a E; refine hK18 _ _ ?_; refine wp_seq_k fun K19 hK19 => ?_; refine env_split (d := 113) E rfl ?_ ?_
        · skip
          clear E; intro c113 E
          have hi : gi < (sealX gt k bs ts).1.length := by simpa using c113
          have hgl : gi < ys.length := by omega
          obtain ⟨gA, hgA⟩ := row_addr (H.holds _ (List.mem_cons_self ..)) (by omega)
          have hy : ys[gi]? = some (ys.getD gi 0) := by rw [List.getD_eq_getElem?_getD, List.getElem?_eq_getElem hgl]; rfl
          refine S_then E rfl ?_; refine wp_skip ?_; refine hK19 _ _ ?_; refine wp_seq_k fun K20 hK20 => ?_; refine wp_block ?_; refine wp_seq_k fun K21 hK21 => ?_; refine S_region ?_; refine S_val E (pk_move rfl rfl) rfl rfl rfl ?_; clear E a; intro a E; refine S_val E (pk_assign rfl rfl) rfl rfl rfl ?_; clear E a; intro a E; refine hK21 _ _ ?_; refine S_region ?_; refine S_val E (pk_move rfl rfl) rfl rfl rfl ?_; clear E a; intro a E; refine S_val E (pk_move rfl rfl) rfl rfl rfl ?_; clear E a; intro a E; refine S_val E (pk_elA (sz := 1) (i := gi) hgA rfl (by kernel_rfl) rfl rfl (by omega) (by omega)) rfl rfl rfl ?_; clear E a; intro a E; refine S_val E (pk_loadR1 (T := ByteK) (i := gi) (off := 0) (p := (ys.getD gi 0, ())) H 0 rfl hgA (bytK_at hy) trivial rfl rfl (by exact (addr_add_zero _).symm) rfl (by kernel_rfl)) rfl rfl rfl ?_; clear E a; intro a E
          refine S_val E (pk_addB (n := 0) rfl rfl rfl) rfl rfl rfl ?_; clear E a; intro a E; refine S_val E (pk_elA (sz := 1) (i := gi) hgA rfl (by kernel_rfl) rfl rfl (by omega) (by omega)) rfl rfl rfl ?_; clear E a; intro a E; refine S_eff E rfl (fun K hK => ?_); refine eff_storeR (T := ByteK) (off := 0) (new := [.one _]) (i := gi) (p := (ys.getD gi 0, ())) (((ys.getD gi 0 + 1) % 256), ()) 0 E H rfl hgA (hφ.2.symm.trans (bytK_len _).symm) (bytK_at hy) rfl rfl (by exact (addr_add_zero _).symm) rfl rfl (by repeat (first | exact trivial | refine ⟨rfl, ?_⟩)) rfl (by kernel_rfl) ?_; clear H; intro w H F; replace H : Sep _ _ _ _ [_] _ := H; refine hK _ _ ?_; clear hK K; refine S_put0 rfl ?_; clear F
          rw [bytK_set] at H
          replace H : Sep X _ _ _ [.row (.slice A48 (sealX gt k bs ts).1.length c48) 5 1 (sealX gt k bs ts).1.length (rowC ByteK (bytK (ys.set gi ((ys.getD gi 0 + 1) % 256))))] _ := H; refine hK20 _ _ ?_; refine S_region ?_; refine S_val E (pk_intw rfl rfl rfl rfl (wI64 (by omega) (by omega))) rfl rfl rfl ?_; clear E a; intro a E; refine S_val E (pk_move rfl rfl) rfl rfl rfl ?_; clear E a; intro a E; refine loop_end ?_
          exact ⟨(gi + 1, ys.set gi ((ys.getD gi 0 + 1) % 256)), ⟨E.to (by repeat (first | exact trivial | refine ⟨rfl, ?_⟩)), H, ⟨by simp only; omega, by rw [List.length_set]; exact hφ.2⟩⟩, by simp only; omega⟩
        · skip
          clear E; intro c113 E; refine S_else E rfl ?_; refine wp_exit ?_
          repeat (first | refine then_exit ?_ | refine block_hit ?_ | refine block_miss (by decide) ?_)
          refine hK16 _ _ ?_; refine wp_seq_k fun K22 hK22 => ?_; refine S_region ?_; refine S_val E (pk_move rfl rfl) rfl rfl rfl ?_; clear E a; intro a E; refine S_val E (pk_move rfl rfl) rfl rfl rfl ?_; clear E a; intro a E; refine S_val E (pk_move rfl rfl) rfl rfl rfl ?_; clear E a; intro a E; refine S_val E (pk_pick rfl rfl rfl) rfl rfl rfl ?_; clear E a; intro a E; refine S_val E (pk_move rfl rfl) rfl rfl rfl ?_; clear E a; intro a E; refine S_val E (pk_move rfl rfl) rfl rfl rfl ?_; clear E a; intro a E; refine S_val E (pk_move rfl rfl) rfl rfl rfl ?_; clear E a; intro a E; refine S_eff E rfl (fun K hK => ?_); refine eff_call E rfl rfl rfl (by kernel_rfl) ?_; refine (sameP (l := bs) (l' := bs) (H.fact 1 rfl) (H.fact 0 rfl)).mono ?_; rintro e w ⟨rfl, rfl⟩; refine hK _ _ ?_; clear hK K; refine S_put E rfl rfl ?_; clear E a; intro a E
          rw [decide_eq_true rfl] at E
          refine S_val E (pk_pick rfl rfl rfl) rfl rfl rfl ?_; clear E a; intro a E; refine S_val E (pk_assign rfl rfl) rfl rfl rfl ?_; clear E a; intro a E; refine hK22 _ _ ?_; refine wp_ret ?_
          repeat (first | refine then_ret ?_ | refine block_ret ?_)
          refine ret1 rfl E (resT rfl) ?_
          exact ⟨rfl, (H.refacts (R' := []) (List.forall_mem_nil _)).popL⟩
  · skip
    clear E; intro c31 E; refine S_skip E rfl rfl rfl ?_; clear E a; intro a E; refine S_skip E rfl rfl rfl ?_; clear E a; intro a E; refine S_skip E rfl rfl rfl ?_; clear E a; intro a E; refine S_val E (pk_pick rfl rfl rfl) rfl rfl rfl ?_; clear E a; intro a E; refine S_val E (pk_move rfl rfl) rfl rfl rfl ?_; clear E a; intro a E; refine S_val E (pk_move rfl rfl) rfl rfl rfl ?_; clear E a; intro a E; refine S_eff E rfl (fun K hK => ?_); refine eff_call E rfl rfl rfl (by kernel_rfl) ?_; refine (rFewM_any H.xk (H.fact 1 rfl)).mono ?_; rintro e w ⟨rfl, H1⟩
    replace H := H.call H1
    clear H1; replace H : Sep _ _ _ _ [_] [_, _, _, _] := H; refine hK _ _ ?_; clear hK K; refine S_put E rfl rfl ?_; clear E a; intro a E; refine S_val E (pk_not rfl rfl) rfl rfl rfl ?_; clear E a; intro a E; refine S_val E (pk_pick rfl rfl rfl) rfl rfl rfl ?_; clear E a; intro a E; refine hK5 _ _ ?_; refine env_split (d := 40) E rfl ?_ ?_
    · skip
      clear E; intro c40 E; refine S_then E rfl ?_; refine wp_seq_k fun K23 hK23 => ?_; refine S_region ?_; refine S_val E (pk_move rfl rfl) rfl rfl rfl ?_; clear E a; intro a E; refine S_val E (pk_assign rfl rfl) rfl rfl rfl ?_; clear E a; intro a E; refine hK23 _ _ ?_; refine wp_ret ?_
      repeat (first | refine then_ret ?_ | refine block_ret ?_)
      refine ret1 rfl E (resT rfl) ?_
      exact ⟨rfl, (H.refacts (R' := []) (List.forall_mem_nil _)).popL⟩
    · skip
      clear E; intro c40 E
      have hts : ts.length ≤ 1000 := fewM_len (by simpa using c40)
      refine S_else E rfl ?_; refine wp_skip ?_; refine hK4 _ _ ?_; refine wp_seq_k fun K24 hK24 => ?_; refine S_region ?_; refine S_val E (pk_move rfl rfl) rfl rfl rfl ?_; clear E a; intro a E; refine S_eff E rfl (fun K hK => ?_); refine eff_call E rfl rfl rfl (by kernel_rfl) ?_; refine (rcopy_tx (k := bs) H.xk (H.fact 0 rfl)).mono ?_; rintro e w ⟨A43, c43, rfl, H1⟩
      replace H := H.call H1
      clear H1; replace H : Sep _ _ _ _ [_] [_, _, _, _, _] := H; refine hK _ _ ?_; clear hK K; refine S_put E rfl rfl ?_; clear E a; intro a E; refine S_val E (pk_assign rfl rfl) rfl rfl rfl ?_; clear E a; intro a E; refine hK24 _ _ ?_; refine wp_seq_k fun K25 hK25 => ?_; refine S_region ?_; refine S_val E (pk_load (n := 32) H 0 rfl rfl rfl trivial rfl (by kernel_rfl)) rfl rfl rfl ?_; clear E a; intro a E; refine S_val E (pk_move rfl rfl) rfl rfl rfl ?_; clear E a; intro a E; refine S_val E (pk_move rfl rfl) rfl rfl rfl ?_; clear E a; intro a E; refine S_eff E rfl (fun K hK => ?_); refine eff_call E rfl rfl rfl (by kernel_rfl) ?_; refine (SealX_any (k := k) (plain := bs) (ts := ts) hk32 hkb hts H.xk (H.fact 1 rfl) (H.fact 2 rfl) (H.fact 3 rfl)).mono ?_; rintro e w ⟨A48, c48, rfl, H1⟩
      replace H := H.call H1
      clear H1; replace H : Sep _ _ _ _ [_, _] [_, _, _, _, _] := H; refine hK _ _ ?_; clear hK K; refine S_put E rfl rfl ?_; clear E a; intro a E; refine S_val E (pk_move rfl rfl) rfl rfl rfl ?_; clear E a; intro a E; refine S_val E (pk_extract rfl rfl rfl) rfl rfl rfl ?_; clear E a; intro a E; refine S_val E (pk_extract rfl rfl rfl) rfl rfl rfl ?_; clear E a; intro a E; refine S_val E (pk_assign rfl rfl) rfl rfl rfl ?_; clear E a; intro a E; refine S_val E (pk_assign rfl rfl) rfl rfl rfl ?_; clear E a; intro a E; refine hK25 _ _ ?_; refine wp_seq_k fun K26 hK26 => ?_; refine S_region ?_; refine S_val E (pk_load (n := 32) H 1 rfl rfl rfl trivial rfl (by kernel_rfl)) rfl rfl rfl ?_; clear E a; intro a E; refine S_val E (pk_move rfl rfl) rfl rfl rfl ?_; clear E a; intro a E; refine S_val E (pk_move rfl rfl) rfl rfl rfl ?_; clear E a; intro a E; refine S_eff E rfl (fun K hK => ?_)
      refine eff_call E rfl rfl rfl (by kernel_rfl) ?_; refine (RSeal_any (k := k) (plain := bs) (ts := ts) hk32 hkb hts H.xk (H.fact 1 rfl) (H.fact 2 rfl) (H.fact 4 rfl)).mono ?_; rintro e w ⟨A55, c55, rfl, H1⟩
      replace H := H.call H1
      clear H1; replace H : Sep _ _ _ _ [_, _] [_, _, _, _, _, _] := H; refine hK _ _ ?_; clear hK K; refine S_put E rfl rfl ?_; clear E a; intro a E; refine S_val E (pk_move rfl rfl) rfl rfl rfl ?_; clear E a; intro a E; refine S_val E (pk_extract rfl rfl rfl) rfl rfl rfl ?_; clear E a; intro a E; refine S_val E (pk_extract rfl rfl rfl) rfl rfl rfl ?_; clear E a; intro a E; refine S_val E (pk_assign rfl rfl) rfl rfl rfl ?_; clear E a; intro a E; refine S_val E (pk_assign rfl rfl) rfl rfl rfl ?_; clear E a; intro a E; refine hK26 _ _ ?_; refine wp_seq_k fun K27 hK27 => ?_; refine S_region ?_; refine S_val E (pk_load (n := 32) H 1 rfl rfl rfl trivial rfl (by kernel_rfl)) rfl rfl rfl ?_; clear E a; intro a E; refine S_val E (pk_move rfl rfl) rfl rfl rfl ?_; clear E a; intro a E; refine S_val E (pk_move rfl rfl) rfl rfl rfl ?_; clear E a; intro a E; refine S_eff E rfl (fun K hK => ?_)
      refine eff_call E rfl rfl rfl (by kernel_rfl) ?_; refine (Open_any (k := k) (bs := bs) (ts := ts) hk32 hkb hts H.xk (H.fact 2 rfl) (H.fact 3 rfl) (H.fact 4 rfl)).mono ?_; rintro e w ⟨A62, c62, rfl, H1⟩
      replace H := H.call H1
      clear H1; replace H : Sep _ _ _ _ [_, _] [_, _, _, _, _, _, _] := H; refine hK _ _ ?_; clear hK K; refine S_put E rfl rfl ?_; clear E a; intro a E; refine S_val E (pk_move rfl rfl) rfl rfl rfl ?_; clear E a; intro a E; refine S_val E (pk_extract rfl rfl rfl) rfl rfl rfl ?_; clear E a; intro a E; refine S_val E (pk_extract rfl rfl rfl) rfl rfl rfl ?_; clear E a; intro a E; refine S_val E (pk_assign rfl rfl) rfl rfl rfl ?_; clear E a; intro a E; refine S_val E (pk_assign rfl rfl) rfl rfl rfl ?_; clear E a; intro a E; refine hK27 _ _ ?_; refine wp_seq_k fun K28 hK28 => ?_; refine S_region ?_; refine S_val E (pk_load (n := 32) H 1 rfl rfl rfl trivial rfl (by kernel_rfl)) rfl rfl rfl ?_; clear E a; intro a E; refine S_val E (pk_move rfl rfl) rfl rfl rfl ?_; clear E a; intro a E; refine S_val E (pk_move rfl rfl) rfl rfl rfl ?_; clear E a; intro a E; refine S_eff E rfl (fun K hK => ?_)
      refine eff_call E rfl rfl rfl (by kernel_rfl) ?_; refine (ROpen_any (k := k) (bs := bs) (ts := ts) hk32 hkb hts H.xk (H.fact 3 rfl) (H.fact 4 rfl) (H.fact 6 rfl)).mono ?_; rintro e w ⟨A69, c69, rfl, H1⟩
      replace H := H.call H1
      clear H1; replace H : Sep _ _ _ _ [_, _] [_, _, _, _, _, _, _, _] := H; refine hK _ _ ?_; clear hK K; refine S_put E rfl rfl ?_; clear E a; intro a E; refine S_val E (pk_move rfl rfl) rfl rfl rfl ?_; clear E a; intro a E; refine S_val E (pk_extract rfl rfl rfl) rfl rfl rfl ?_; clear E a; intro a E; refine S_val E (pk_extract rfl rfl rfl) rfl rfl rfl ?_; clear E a; intro a E; refine S_val E (pk_assign rfl rfl) rfl rfl rfl ?_; clear E a; intro a E; refine S_val E (pk_assign rfl rfl) rfl rfl rfl ?_; clear E a; intro a E; refine hK28 _ _ ?_; refine wp_seq_k fun K29 hK29 => ?_; refine S_region ?_; refine S_val E (pk_move rfl rfl) rfl rfl rfl ?_; clear E a; intro a E; refine S_eff E rfl (fun K hK => ?_); refine eff_call E rfl rfl rfl (by kernel_rfl) ?_; refine (Long_any (n := x3) hx3 H.xk).mono ?_; rintro e w ⟨rfl, H1⟩
      replace H := H.call H1
      clear H1; replace H : Sep _ _ _ _ [_, _] [_, _, _, _, _, _, _, _] := H; refine hK _ _ ?_; clear hK K; refine S_put E rfl rfl ?_; clear E a; intro a E; refine S_val E (pk_move rfl rfl) rfl rfl rfl ?_; clear E a; intro a E; refine S_val E (pk_extract rfl rfl rfl) rfl rfl rfl ?_; clear E a; intro a E; refine S_val E (pk_extract rfl rfl rfl) rfl rfl rfl ?_; clear E a; intro a E; refine S_val E (pk_assign rfl rfl) rfl rfl rfl ?_; clear E a; intro a E; refine S_val E (pk_assign rfl rfl) rfl rfl rfl ?_; clear E a; intro a E; refine hK29 _ _ ?_; refine wp_seq_k fun K30 hK30 => ?_; refine S_region ?_; refine S_val E (pk_move rfl rfl) rfl rfl rfl ?_; clear E a; intro a E; refine S_eff E rfl (fun K hK => ?_); refine eff_call E rfl rfl rfl (by kernel_rfl) ?_; refine (RLong_any (n := x3) hx3 H.xk).mono ?_; rintro e w ⟨rfl, H1⟩
      replace H := H.call H1
      clear H1; replace H : Sep _ _ _ _ [_, _] [_, _, _, _, _, _, _, _] := H; refine hK _ _ ?_; clear hK K; refine S_put E rfl rfl ?_; clear E a; intro a E; refine S_val E (pk_move rfl rfl) rfl rfl rfl ?_; clear E a; intro a E; refine S_val E (pk_extract rfl rfl rfl) rfl rfl rfl ?_; clear E a; intro a E; refine S_val E (pk_extract rfl rfl rfl) rfl rfl rfl ?_; clear E a; intro a E; refine S_val E (pk_assign rfl rfl) rfl rfl rfl ?_; clear E a; intro a E; refine S_val E (pk_assign rfl rfl) rfl rfl rfl ?_; clear E a; intro a E; refine hK30 _ _ ?_; refine wp_seq_k fun K31 hK31 => ?_; refine S_region ?_; refine S_val E (pk_move rfl rfl) rfl rfl rfl ?_; clear E a; intro a E; refine S_val E (pk_move rfl rfl) rfl rfl rfl ?_; clear E a; intro a E; refine S_eff E rfl (fun K hK => ?_); refine eff_call E rfl rfl rfl (by kernel_rfl) ?_
      have HR := H.rowTx (Sep.new_x H) (by have := sealX_len gt k bs ts; omega) (sealX_byte _ _ _ _)
      refine (sameP (l := (sealX gt k bs ts).1) (l' := (sealX gt k bs ts).1) (HR.fact 0 rfl) (HR.fact 3 rfl)).mono ?_; rintro e w ⟨rfl, rfl⟩; refine hK _ _ ?_; clear hK K; refine S_put E rfl rfl ?_; clear E a; intro a E; clear HR
      rw [decide_eq_true rfl] at E
      refine S_val E (pk_move rfl rfl) rfl rfl rfl ?_; clear E a; intro a E; refine S_val E (pk_move rfl rfl) rfl rfl rfl ?_; clear E a; intro a E; refine S_val E (pk_move rfl rfl) rfl rfl rfl ?_; clear E a; intro a E; refine S_val E (pk_int (v := .bool true) rfl rfl rfl (congrArg (fun b => some (Value.bool b)) (beq_self_eq_true _))) rfl rfl rfl ?_; clear E a; intro a E; refine S_val E (pk_pick rfl rfl rfl) rfl rfl rfl ?_; clear E a; intro a E; refine S_val E (pk_move rfl rfl) rfl rfl rfl ?_; clear E a; intro a E; refine S_val E (pk_move rfl rfl) rfl rfl rfl ?_; clear E a; intro a E; refine S_val E (pk_move rfl rfl) rfl rfl rfl ?_; clear E a; intro a E; refine S_eff E rfl (fun K hK => ?_); refine eff_call E rfl rfl rfl (by kernel_rfl) ?_; refine (sameP (l := (openR gt k bs ts).1) (l' := (openR gt k bs ts).1) (H.fact 1 rfl) (H.fact 0 rfl)).mono ?_; rintro e w ⟨rfl, rfl⟩; refine hK _ _ ?_
      clear hK K; refine S_put E rfl rfl ?_; clear E a; intro a E
      rw [decide_eq_true rfl] at E
      refine S_val E (pk_pick rfl rfl rfl) rfl rfl rfl ?_; clear E a; intro a E; refine S_val E (pk_move rfl rfl) rfl rfl rfl ?_; clear E a; intro a E; refine S_val E (pk_move rfl rfl) rfl rfl rfl ?_; clear E a; intro a E; refine S_val E (pk_move rfl rfl) rfl rfl rfl ?_; clear E a; intro a E; refine S_val E (pk_int (v := .bool true) rfl rfl rfl (congrArg (fun b => some (Value.bool b)) (beq_self_eq_true _))) rfl rfl rfl ?_; clear E a; intro a E; refine S_val E (pk_pick rfl rfl rfl) rfl rfl rfl ?_; clear E a; intro a E; refine S_val E (pk_move rfl rfl) rfl rfl rfl ?_; clear E a; intro a E; refine S_val E (pk_move rfl rfl) rfl rfl rfl ?_; clear E a; intro a E; refine S_val E (pk_move rfl rfl) rfl rfl rfl ?_; clear E a; intro a E; refine S_val E (pk_int (v := .bool true) rfl rfl rfl (congrArg (fun b => some (Value.bool b)) (beq_self_eq_true _))) rfl rfl rfl ?_; clear E a; intro a E
      refine S_val E (pk_pick rfl rfl rfl) rfl rfl rfl ?_; clear E a; intro a E; refine S_val E (pk_move rfl rfl) rfl rfl rfl ?_; clear E a; intro a E; refine S_val E (pk_move rfl rfl) rfl rfl rfl ?_; clear E a; intro a E; refine S_val E (pk_move rfl rfl) rfl rfl rfl ?_; clear E a; intro a E; refine S_val E (pk_int (v := .bool true) rfl rfl rfl (congrArg (fun b => some (Value.bool b)) (beq_self_eq_true _))) rfl rfl rfl ?_; clear E a; intro a E; refine S_val E (pk_pick rfl rfl rfl) rfl rfl rfl ?_; clear E a; intro a E; refine S_val E (pk_assign rfl rfl) rfl rfl rfl ?_; clear E a; intro a E; refine hK31 _ _ ?_; refine wp_seq_k fun K32 hK32 => ?_; refine wp_seq_k fun K33 hK33 => ?_; refine S_region ?_; refine S_val E (pk_move rfl rfl) rfl rfl rfl ?_; clear E a; intro a E; refine S_val E (pk_len rfl rfl (by kernel_rfl)) rfl rfl rfl ?_; clear E a; intro a E
      refine S_val E (pk_move rfl rfl) rfl rfl rfl ?_; clear E a; intro a E; refine hK33 _ _ ?_; refine wp_block ?_
      have hXl := sealX_len gt k bs ts
      have H0 : Sep X [] w0 w [.row (.slice A48 (sealX gt k bs ts).1.length c48) 5 1 (sealX gt k bs ts).1.length (rowC ByteK (bytK (sealX gt k bs ts).1))] [TxF A43 c43 bs, TxF BA bc bs] := by
        rw [rowC_byte]
        exact Sep.keepLR (L := [_]) (L' := [_]) (R := [_, _]) (R' := []) (H.refacts (R' := [_, _]) (List.forall_mem_cons.2 ⟨H.fact 3 rfl, List.forall_mem_cons.2 ⟨H.fact 4 rfl, List.forall_mem_nil _⟩⟩))
      refine S_loopI (γ := Nat × List Nat) [1, 9, 10, 11, 23, 111] (fun g => [(112, .int .i64 (g.1 : Int))]) (fun g => [.row (.slice A48 (sealX gt k bs ts).1.length c48) 5 1 (sealX gt k bs ts).1.length (rowC ByteK (bytK g.2))]) (fun g => [TxF A43 c43 bs, TxF BA bc bs]) (fun g => g.1 ≤ (sealX gt k bs ts).1.length ∧ g.2.length = (sealX gt k bs ts).1.length) (fun g => (sealX gt k bs ts).1.length - g.1) ((0, (sealX gt k bs ts).1)) E H0 (by repeat (first | exact trivial | refine ⟨rfl, ?_⟩)) (⟨Nat.zero_le _, rfl⟩) ?_; clear E H; intro g a w E H hφ; replace E : Env a _ [(112, _), (1, _), (9, _), (10, _), (11, _), (23, _), (111, _)] := E; replace H : Sep _ _ _ _ [_] [_, _] := H
      obtain ⟨gi, ys⟩ := g
      simp only at E H hφ ⊢
      refine wp_seq_k fun K34 hK34 => ?_; refine S_region ?_; refine S_val E (pk_int rfl rfl rfl rfl) rfl rfl rfl ?_; clear E a; intro a E; refine hK34 _ _ ?_; refine wp_seq_k fun K35 hK35 => ?_; refine env_split (d := 113) E rfl ?_ ?_
      · skip
        clear E; intro c113 E
        have hi : gi < (sealX gt k bs ts).1.length := by simpa using c113
        have hgl : gi < ys.length := by omega
        obtain ⟨gA, hgA⟩ := row_addr (H.holds _ (List.mem_cons_self ..)) (by omega)
        have hy : ys[gi]? = some (ys.getD gi 0) := by rw [List.getD_eq_getElem?_getD, List.getElem?_eq_getElem hgl]; rfl
        refine S_then E rfl ?_; refine wp_skip ?_; refine hK35 _ _ ?_; refine wp_seq_k fun K36 hK36 => ?_; refine wp_block ?_; refine wp_seq_k fun K37 hK37 => ?_; refine S_region ?_; refine S_val E (pk_move rfl rfl) rfl rfl rfl ?_; clear E a; intro a E; refine S_val E (pk_assign rfl rfl) rfl rfl rfl ?_; clear E a; intro a E; refine hK37 _ _ ?_; refine S_region ?_; refine S_val E (pk_move rfl rfl) rfl rfl rfl ?_; clear E a; intro a E; refine S_val E (pk_move rfl rfl) rfl rfl rfl ?_; clear E a; intro a E; refine S_val E (pk_elA (sz := 1) (i := gi) hgA rfl (by kernel_rfl) rfl rfl (by omega) (by omega)) rfl rfl rfl ?_; clear E a; intro a E; refine S_val E (pk_loadR1 (T := ByteK) (i := gi) (off := 0) (p := (ys.getD gi 0, ())) H 0 rfl hgA (bytK_at hy) trivial rfl rfl (by exact (addr_add_zero _).symm) rfl (by kernel_rfl)) rfl rfl rfl ?_; clear E a; intro a E
        refine S_val E (pk_addB (n := 0) rfl rfl rfl) rfl rfl rfl ?_; clear E a; intro a E; refine S_val E (pk_elA (sz := 1) (i := gi) hgA rfl (by kernel_rfl) rfl rfl (by omega) (by omega)) rfl rfl rfl ?_; clear E a; intro a E; refine S_eff E rfl (fun K hK => ?_); refine eff_storeR (T := ByteK) (off := 0) (new := [.one _]) (i := gi) (p := (ys.getD gi 0, ())) (((ys.getD gi 0 + 1) % 256), ()) 0 E H rfl hgA (hφ.2.symm.trans (bytK_len _).symm) (bytK_at hy) rfl rfl (by exact (addr_add_zero _).symm) rfl rfl (by repeat (first | exact trivial | refine ⟨rfl, ?_⟩)) rfl (by kernel_rfl) ?_; clear H; intro w H F; replace H : Sep _ _ _ _ [_] _ := H; refine hK _ _ ?_; clear hK K; refine S_put0 rfl ?_; clear F
        rw [bytK_set] at H
        replace H : Sep X _ _ _ [.row (.slice A48 (sealX gt k bs ts).1.length c48) 5 1 (sealX gt k bs ts).1.length (rowC ByteK (bytK (ys.set gi ((ys.getD gi 0 + 1) % 256))))] _ := H; refine hK36 _ _ ?_; refine S_region ?_; refine S_val E (pk_intw rfl rfl rfl rfl (wI64 (by omega) (by omega))) rfl rfl rfl ?_; clear E a; intro a E; refine S_val E (pk_move rfl rfl) rfl rfl rfl ?_; clear E a; intro a E; refine loop_end ?_
        exact ⟨(gi + 1, ys.set gi ((ys.getD gi 0 + 1) % 256)), ⟨E.to (by repeat (first | exact trivial | refine ⟨rfl, ?_⟩)), H, ⟨by simp only; omega, by rw [List.length_set]; exact hφ.2⟩⟩, by simp only; omega⟩
      · skip
        clear E; intro c113 E; refine S_else E rfl ?_; refine wp_exit ?_
        repeat (first | refine then_exit ?_ | refine block_hit ?_ | refine block_miss (by decide) ?_)
        refine hK32 _ _ ?_; refine wp_seq_k fun K38 hK38 => ?_; refine S_region ?_; refine S_val E (pk_move rfl rfl) rfl rfl rfl ?_; clear E a; intro a E; refine S_val E (pk_move rfl rfl) rfl rfl rfl ?_; clear E a; intro a E; refine S_val E (pk_move rfl rfl) rfl rfl rfl ?_; clear E a; intro a E; refine S_val E (pk_pick rfl rfl rfl) rfl rfl rfl ?_; clear E a; intro a E; refine S_val E (pk_move rfl rfl) rfl rfl rfl ?_; clear E a; intro a E; refine S_val E (pk_move rfl rfl) rfl rfl rfl ?_; clear E a; intro a E; refine S_val E (pk_move rfl rfl) rfl rfl rfl ?_; clear E a; intro a E; refine S_eff E rfl (fun K hK => ?_); refine eff_call E rfl rfl rfl (by kernel_rfl) ?_; refine (sameP (l := bs) (l' := bs) (H.fact 1 rfl) (H.fact 0 rfl)).mono ?_; rintro e w ⟨rfl, rfl⟩; refine hK _ _ ?_; clear hK K; refine S_put E rfl rfl ?_; clear E a; intro a E
        rw [decide_eq_true rfl] at E
        refine S_val E (pk_pick rfl rfl rfl) rfl rfl rfl ?_; clear E a; intro a E; refine S_val E (pk_assign rfl rfl) rfl rfl rfl ?_; clear E a; intro a E; refine hK38 _ _ ?_; refine wp_ret ?_
        repeat (first | refine then_ret ?_ | refine block_ret ?_)
        refine ret1 rfl E (resT rfl) ?_
        exact ⟨rfl, (H.refacts (R' := []) (List.forall_mem_nil _)).popL⟩
end Go.Proofs.YtlhhfngkfbbckaaDoor
