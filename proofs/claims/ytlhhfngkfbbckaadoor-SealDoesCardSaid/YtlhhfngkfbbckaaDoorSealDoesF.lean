/- A buffer that is written nothing. The library's buffer, laid at this program (written by the kit's own tool). Texts are written, one behind the other. Sums with a key, and bytes made of a key, the reference: as macV and expV. A key's keys; what stands behind what is sealed. What is sealed, and opened. The chapter's example; the law SealStream: whatever the key and the texts, it answers true. Few texts; the same texts; streams, plain. -/
import Derived.Test.YtlhhfngkfbbckaaDoorSealDoesE
import Derived.WalkKit
import Derived.WalkSpells
import Derived.WalkLawsBesides
import Derived.Deep.QuietTactic
import Derived.BigQuiet
import Derived.StillTailTactics
import Derived.Lib.Hide
import Derived.Deep.LoopGhost
import Derived.Outline
import Derived.Deep.DeepFit
import Derived.Deep.RegionHeld3
import Derived.Deep.RegionLaw
import Derived.Maps.AppendAt
import Derived.Deep.AppendLies
import Derived.Deep.Draws
import Derived.Laws.OwnMore
import Derived.Laws.AppendOwnNone
import Derived.OwnWalk
import Derived.Below
import Derived.OrdersHeld
import Derived.Laws.StructEq
import Derived.Test.YtlhhfngkfbbckaaDoorRows
import Derived.Lib.SliceRun
import Derived.Laws.IdiomStrings
import Derived.Deep.Cut
import Derived.Deep.CutBlock
import Derived.Deep.CutRange
import Derived.DataElems
import Derived.Great.BuildSlice
import Derived.Laws.Entries
import Derived.Laws.Tables
import Derived.SizedLaws
import Derived.Laws.Small
import Derived.Laws.MakeOwn
import Derived.Laws.CopyRow
import Derived.Laws.IdiomCopy
import Derived.Test.YtlhhfngkfbbckaaDoorChecked
import Derived.Lib.Tables
import Derived.Lib.BitFns
import Derived.KernelRfl
import Derived.Deep.OwnRows
import Derived.Great.Walk
import Derived.ProofKit
import Derived.OpenShut
import Derived.ShutString
import Derived.ChangeOld
import Derived.ChangeSlices
import Derived.Lib.SmallJoins
import Derived.Lib.LaidU8
import Derived.LaidHandle
import Derived.LaidLaws
import Derived.Handed
import Derived.Deep.DeepLaidRun
import Derived.Lib.Buffer
import Derived.Shelf.Bytes.WriteAny
import Derived.Shelf.Bytes.Bytes
namespace Go.Proofs.YtlhhfngkfbbckaaDoor
set_option linter.unusedSimpArgs false
set_option linter.unusedVariables false
open Go.RowKit

section
variable {P : Program} {o : Oper} {a : Act} {w ws : World} {Q : Exit → Act → World → Prop} {N d : Nat} {l : List (Nat × Value)} {v : Value} {S : Nat → Prop} {K : Act → World → Prop} {x y : Operand}
theorem pk_capS {t : TypeId} {A : Option Addr} {n c : Nat} (ho : o.op = .call { callee := .builtin .cap, args := #[x], argTypes := #[t] }) (hx : ev l x = some (.slice A n c)) (ht : isSl P t = true) : PK P S ws l o (.int .i64 c) := fun w' _ a N E => by
  obtain ⟨e, hu⟩ := isSl_of ht
  unfold execOp; rw [ho]
  simp [resolve, invoke, builtin, E.ev hx, Builtin.cap_, run_underlying hu, Sem.run_bind, goInt]
theorem eff_copy0 {dT sT dn dc c : Nat} {A B : Option Addr} (E : Env a N l) (ho : o.op = .call { callee := .builtin .copy, args := #[x, y], argTypes := #[dT, sT] }) (hx : ev l x = some (.slice A dn dc)) (hy : ev l y = some (.slice B 0 c)) (hT : elK P dT = some 1) (h : K (a.put o.dst (.int .i64 0)) w) : o.wp P a w K Q := by
  obtain ⟨e, he, hs⟩ := elK_of hT
  have hr := run_copy_none (P := P) w dT sT o.type e A B dn dc 0 c he hs (Nat.zero_min _)
  unfold Oper.wp execOp
  simp only [ho, resolve, invoke, builtin, Sem.run_bind, Sem.run_pure, Result.andThen_ok, List.map_toArray, List.map_cons, List.map_nil, E.ev hx, E.ev hy, hr]
  exact h
end
set_option maxRecDepth 100000 in
set_option maxHeartbeats 400000 in
theorem tryGrow0_any {b rc : Nat} {lr : Int} {RA : Option Addr} {k : List Nat} (hkl : k.length ≤ 140737488355328) (hrc : rc ≤ 9223372036854775807) {X : List Nat} {w0 : World} (hX : ∀ k ∈ X, k < w0.heap.size) (H0 : Sep X (keysR [.blk b (ca [.one (.slice RA k.length rc), .one (.int .i64 0), .one (.int .i8 lr)]) 77, .row (.slice RA k.length rc) 5 1 k.length (k.map bv)]) w0 w0 [.blk b (ca [.one (.slice RA k.length rc), .one (.int .i64 0), .one (.int .i8 lr)]) 77, .row (.slice RA k.length rc) 5 1 k.length (k.map bv)] []) :
    Calls Tryd.prog 56 #[.pointer (some ⟨b, 0, none⟩), .int .i64 0] w0 fun e w' => e = .returned (.tuple #[.int .i64 k.length, .bool true]) ∧ Sep X (keysR [.blk b (ca [.one (.slice RA k.length rc), .one (.int .i64 0), .one (.int .i8 lr)]) 77, .row (.slice RA k.length rc) 5 1 k.length (k.map bv)]) w0 w' [.blk b (ca [.one (.slice RA k.length rc), .one (.int .i64 0), .one (.int .i8 lr)]) 77, .row (.slice RA k.length rc) 5 1 k.length (k.map bv)] [] := by
  refine calls_env Tryd.ntmps56 Tryd.func56 rfl rfl fun a E => ?_; replace E : Env a _ [(0, _), (1, _)] := E
  have H := H0
  have hcap : k.length ≤ rc := row_cap (H0.holds _ (by simp) : (Res.row (.slice RA k.length rc) 5 1 k.length (k.map bv)).holds w0)
  have hH := H0
  refine wp_seq_k fun K0 hK0 => ?_; refine S_region ?_; refine S_val E (pk_assign rfl rfl) rfl rfl rfl ?_; clear E a; intro a E; refine S_val E (pk_assign rfl rfl) rfl rfl rfl ?_; clear E a; intro a E; refine hK0 _ _ ?_; refine wp_seq_k fun K1 hK1 => ?_; refine wp_seq_k fun K2 hK2 => ?_; refine S_region ?_; refine S_val E (pk_move rfl rfl) rfl rfl rfl ?_; clear E a; intro a E; refine S_val E (pk_nilck rfl rfl) rfl rfl rfl ?_; clear E a; intro a E; refine S_val E (pk_fieldAddr (off := 0) rfl rfl (by kernel_rfl)) rfl rfl rfl ?_; clear E a; intro a E; refine S_val E (pk_load1 H 0 rfl rfl rfl trivial rfl (by kernel_rfl)) rfl rfl rfl ?_; clear E a; intro a E; refine S_val E (pk_len rfl rfl (by kernel_rfl)) rfl rfl rfl ?_; clear E a; intro a E; refine S_val E (pk_assign rfl rfl) rfl rfl rfl ?_; clear E a; intro a E; refine hK2 _ _ ?_; refine wp_seq_k fun K3 hK3 => ?_; refine S_region ?_
  refine S_val E (pk_move rfl rfl) rfl rfl rfl ?_; clear E a; intro a E; refine S_val E (pk_move rfl rfl) rfl rfl rfl ?_; clear E a; intro a E; refine S_val E (pk_nilck rfl rfl) rfl rfl rfl ?_; clear E a; intro a E; refine S_val E (pk_fieldAddr (off := 0) rfl rfl (by kernel_rfl)) rfl rfl rfl ?_; clear E a; intro a E; refine S_val E (pk_load1 H 0 rfl rfl rfl trivial rfl (by kernel_rfl)) rfl rfl rfl ?_; clear E a; intro a E; refine S_val E (pk_capS rfl rfl (by kernel_rfl)) rfl rfl rfl ?_; clear E a; intro a E; refine S_val E (pk_move rfl rfl) rfl rfl rfl ?_; clear E a; intro a E; refine S_val E (pk_intw rfl rfl rfl rfl (wI64 (by omega) (by omega))) rfl rfl rfl ?_; clear E a; intro a E; refine S_val E (pk_int (v := .bool true) rfl rfl rfl (congrArg (fun b => some (Value.bool b)) (decide_eq_true (by omega)))) rfl rfl rfl ?_; clear E a; intro a E; refine hK3 _ _ ?_; refine S_then E rfl ?_
  refine wp_seq_k fun K4 hK4 => ?_; refine S_region ?_; refine S_val E (pk_move rfl rfl) rfl rfl rfl ?_; clear E a; intro a E; refine S_val E (pk_move rfl rfl) rfl rfl rfl ?_; clear E a; intro a E; refine S_val E (pk_nilck rfl rfl) rfl rfl rfl ?_; clear E a; intro a E; refine S_val E (pk_fieldAddr (off := 0) rfl rfl (by kernel_rfl)) rfl rfl rfl ?_; clear E a; intro a E; refine S_val E (pk_load1 H 0 rfl rfl rfl trivial rfl (by kernel_rfl)) rfl rfl rfl ?_; clear E a; intro a E; refine S_val E (pk_move rfl rfl) rfl rfl rfl ?_; clear E a; intro a E; refine S_val E (pk_move rfl rfl) rfl rfl rfl ?_; clear E a; intro a E; refine S_val E (pk_intw rfl rfl rfl rfl (wI64 (by omega) (by omega))) rfl rfl rfl ?_; clear E a; intro a E; refine S_val E (pk_sub_hi (sz := 1) (hi := k.length) rfl (by kernel_rfl) rfl rfl (by omega) hcap) rfl rfl rfl ?_; clear E a; intro a E
  rw [sub_zero] at E
  refine S_val E (pk_nilck rfl rfl) rfl rfl rfl ?_; clear E a; intro a E; refine S_val E (pk_fieldAddr (off := 0) rfl rfl (by kernel_rfl)) rfl rfl rfl ?_; clear E a; intro a E; refine S_eff E rfl (fun K hK => ?_); refine eff_store 0 (new := [.one _]) E H rfl rfl rfl rfl rfl (by repeat (first | exact trivial | refine ⟨rfl, ?_⟩ | refine ⟨fun _ _ => rfl, ?_⟩)) rfl (by kernel_rfl) rfl ?_; clear H; intro w H _; replace H : Sep _ _ _ _ [_, _] _ := H; refine hK _ _ ?_; clear hK K; refine S_put0 rfl ?_; refine hK4 _ _ ?_; refine wp_seq_k fun K5 hK5 => ?_; refine S_region ?_; refine S_val E (pk_move rfl rfl) rfl rfl rfl ?_; clear E a; intro a E; refine S_val E (pk_assign rfl rfl) rfl rfl rfl ?_; clear E a; intro a E; refine S_val E (pk_assign rfl rfl) rfl rfl rfl ?_; clear E a; intro a E; refine hK5 _ _ ?_; refine wp_ret ?_
  repeat (first | refine then_ret ?_ | refine block_ret ?_)
  refine ret2 rfl E (resT rfl) (resT rfl) ?_
  exact ⟨rfl, H⟩
set_option maxRecDepth 100000 in
set_option maxHeartbeats 400000 in
theorem writeNil_any {b rc : Nat} {lr : Int} {RA : Option Addr} {k : List Nat} {A0 : Option Addr} {c0 : Nat} (hkl : k.length ≤ 140737488355328) (hrc : rc ≤ 9223372036854775807) {X : List Nat} {w0 : World} (hX : ∀ k ∈ X, k < w0.heap.size) (H0 : Sep X (keysR [.blk b (ca [.one (.slice RA k.length rc), .one (.int .i64 0), .one (.int .i8 lr)]) 77, .row (.slice RA k.length rc) 5 1 k.length (k.map bv)]) w0 w0 [.blk b (ca [.one (.slice RA k.length rc), .one (.int .i64 0), .one (.int .i8 lr)]) 77, .row (.slice RA k.length rc) 5 1 k.length (k.map bv)] []) :
    Calls Tryd.prog 40 #[.pointer (some ⟨b, 0, none⟩), .slice A0 0 c0] w0 fun e w' => e = .returned (.tuple #[.int .i64 0, .nilIface]) ∧ Sep X (keysR [.blk b (ca [.one (.slice RA k.length rc), .one (.int .i64 0), .one (.int .i8 lr)]) 77, .row (.slice RA k.length rc) 5 1 k.length (k.map bv)]) w0 w' [.blk b (ca [.one (.slice RA k.length rc), .one (.int .i64 0), .one (.int .i8 0)]) 77, .row (.slice RA k.length rc) 5 1 k.length (k.map bv)] [] := by
  refine calls_env Tryd.ntmps40 Tryd.func40 rfl rfl fun a E => ?_; replace E : Env a _ [(0, _), (1, _)] := E
  have H := H0
  have hcap : k.length ≤ rc := row_cap (H0.holds _ (by simp) : (Res.row (.slice RA k.length rc) 5 1 k.length (k.map bv)).holds w0)
  have hH := H0
  refine wp_seq_k fun K0 hK0 => ?_; refine S_region ?_; refine S_val E (pk_assign rfl rfl) rfl rfl rfl ?_; clear E a; intro a E; refine S_val E (pk_assign rfl rfl) rfl rfl rfl ?_; clear E a; intro a E; refine hK0 _ _ ?_; refine wp_seq_k fun K1 hK1 => ?_; refine S_region ?_; refine S_val E (pk_move rfl rfl) rfl rfl rfl ?_; clear E a; intro a E; refine S_val E (pk_nilck rfl rfl) rfl rfl rfl ?_; clear E a; intro a E; refine S_val E (pk_fieldAddr (off := 2) rfl rfl (by kernel_rfl)) rfl rfl rfl ?_; clear E a; intro a E; refine S_eff E rfl (fun K hK => ?_); refine eff_store 0 (new := [.one _]) E H rfl rfl rfl rfl rfl (by repeat (first | exact trivial | refine ⟨rfl, ?_⟩ | refine ⟨fun _ _ => rfl, ?_⟩)) rfl (by kernel_rfl) rfl ?_; clear H; intro w H _; replace H : Sep _ _ _ _ [_, _] _ := H; refine hK _ _ ?_; clear hK K; refine S_put0 rfl ?_; refine hK1 _ _ ?_; refine wp_seq_k fun K2 hK2 => ?_
  refine S_region ?_; refine S_val E (pk_move rfl rfl) rfl rfl rfl ?_; clear E a; intro a E; refine S_val E (pk_move rfl rfl) rfl rfl rfl ?_; clear E a; intro a E; refine S_val E (pk_len rfl rfl (by kernel_rfl)) rfl rfl rfl ?_; clear E a; intro a E; refine S_eff E rfl (fun K hK => ?_); refine eff_call E rfl rfl rfl (by kernel_rfl) ?_; refine (tryGrow0_any (b := b) (k := k) (rc := rc) (RA := RA) hkl hrc (Sep.giveA (L1 := [_, _]) (L := []) H).xlt (Sep.giveA (L1 := [_, _]) (L := []) H)).mono ?_; rintro e w ⟨rfl, H1⟩
  replace H := Sep.callA (L1 := [_, _]) (L := []) H H1
  clear H1; replace H : Sep _ _ _ _ [_, _] [] := H; refine hK _ _ ?_; clear hK K; refine S_put E rfl rfl ?_; clear E a; intro a E; refine S_val E (pk_move rfl rfl) rfl rfl rfl ?_; clear E a; intro a E; refine S_val E (pk_extract rfl rfl rfl) rfl rfl rfl ?_; clear E a; intro a E; refine S_val E (pk_extract rfl rfl rfl) rfl rfl rfl ?_; clear E a; intro a E; refine S_val E (pk_assign rfl rfl) rfl rfl rfl ?_; clear E a; intro a E; refine S_val E (pk_assign rfl rfl) rfl rfl rfl ?_; clear E a; intro a E; refine hK2 _ _ ?_; refine wp_seq_k fun K3 hK3 => ?_; refine wp_seq_k fun K4 hK4 => ?_; refine S_region ?_; refine S_val E (pk_move rfl rfl) rfl rfl rfl ?_; clear E a; intro a E; refine S_val E (pk_not rfl rfl) rfl rfl rfl ?_; clear E a; intro a E; refine hK4 _ _ ?_; refine S_else E rfl ?_; refine wp_skip ?_; refine hK3 _ _ ?_; refine wp_seq_k fun K5 hK5 => ?_; refine S_region ?_
  refine S_val E (pk_move rfl rfl) rfl rfl rfl ?_; clear E a; intro a E; refine S_val E (pk_nilck rfl rfl) rfl rfl rfl ?_; clear E a; intro a E; refine S_val E (pk_fieldAddr (off := 0) rfl rfl (by kernel_rfl)) rfl rfl rfl ?_; clear E a; intro a E; refine S_val E (pk_load1 H 0 rfl rfl rfl trivial rfl (by kernel_rfl)) rfl rfl rfl ?_; clear E a; intro a E; refine S_val E (pk_move rfl rfl) rfl rfl rfl ?_; clear E a; intro a E; refine S_val E (pk_sub_lo (sz := 1) (lo := k.length) rfl (by kernel_rfl) rfl rfl rfl (Nat.le_refl _)) rfl rfl rfl ?_; clear E a; intro a E; refine S_val E (pk_move rfl rfl) rfl rfl rfl ?_; clear E a; intro a E; refine S_eff E rfl (fun K hK => ?_); refine eff_copy0 E rfl rfl rfl (by kernel_rfl) ?_; refine hK _ _ ?_; clear hK K; refine S_put E rfl rfl ?_; clear E a; intro a E; refine S_val E (pk_assign rfl rfl) rfl rfl rfl ?_; clear E a; intro a E
  refine S_val E (pk_assign rfl rfl) rfl rfl rfl ?_; clear E a; intro a E; refine hK5 _ _ ?_; refine wp_ret ?_
  repeat (first | refine then_ret ?_ | refine block_ret ?_)
  refine ret2 rfl E (resT rfl) (resT rfl) ?_
  exact ⟨rfl, H⟩
end Go.Proofs.YtlhhfngkfbbckaaDoor
namespace Go.Proofs.YtlhhfngkfbbckaaDoor
open Go.Shelf
def lays180_ren : Go.Shelf.Ren := ⟨fun | 180 => 40 | 251 => 56 | 252 => 57 | 181 => 71 | 184 => 72 | 290 => 73 | 324 => 80 | n => n, fun | 130 => 95 | 37 => 24 | 3 => 3 | 75 => 79 | 0 => 0 | 93 => 77 | 91 => 75 | 131 => 96 | 4 => 4 | 20 => 20 | 5 => 5 | 80 => 126 | 9 => 9 | n => n, fun | 14 => 0 | n => n⟩
theorem lays180 : Go.Proofs.LaysM.n180 Tryd.prog lays180_ren := {
  mixed := by kernel_rfl
  f180 := Tryd.func40.trans (congrArg some (by kernel_rfl))
  f181 := Tryd.func71.trans (congrArg some (by kernel_rfl))
  f184 := Tryd.func72.trans (congrArg some (by kernel_rfl))
  f251 := Tryd.func56.trans (congrArg some (by kernel_rfl))
  f252 := Tryd.func57.trans (congrArg some (by kernel_rfl))
  f290 := Tryd.func73.trans (congrArg some (by kernel_rfl))
  f324 := Tryd.func80.trans (congrArg some (by kernel_rfl))
  t0 := Tryd.underlying0
  a0 := Tryd.isAgg0
  z0 := Tryd.sizeOf0
  v0 := Tryd.zeroValue0
  t3 := Tryd.underlying3
  a3 := Tryd.isAgg3
  z3 := Tryd.sizeOf3
  v3 := Tryd.zeroValue3
  t4 := Tryd.underlying4
  a4 := Tryd.isAgg4
  z4 := Tryd.sizeOf4
  v4 := Tryd.zeroValue4
  t20 := Tryd.underlying20
  a20 := Tryd.isAgg20
  z20 := Tryd.sizeOf20
  v20 := Tryd.zeroValue20
  t37 := Tryd.underlying24
  a37 := Tryd.isAgg24
  z37 := Tryd.sizeOf24
  v37 := Tryd.zeroValue24
  t75 := Tryd.underlying79
  a75 := Tryd.isAgg79
  z75 := Tryd.sizeOf79
  v75 := Tryd.zeroValue79
  t91 := Tryd.underlying75
  a91 := Tryd.isAgg75
  z91 := Tryd.sizeOf75
  v91 := Tryd.zeroValue75
  t93 := Tryd.underlying77
  a93 := Tryd.isAgg77
  z93 := Tryd.sizeOf77
  v93 := Tryd.zeroValue77
  t130 := Tryd.underlying95
  a130 := Tryd.isAgg95
  z130 := Tryd.sizeOf95
  v130 := Tryd.zeroValue95
  t131 := Tryd.underlying96
  a131 := Tryd.isAgg96
  z131 := Tryd.sizeOf96
  v131 := Tryd.zeroValue96
  g14 := by kernel_rfl
  t5 := Tryd.underlying5
  a5 := Tryd.isAgg5
  z5 := Tryd.sizeOf5
  v5 := Tryd.zeroValue5
  t9 := Tryd.underlying9
  a9 := Tryd.isAgg9
  z9 := Tryd.sizeOf9
  v9 := Tryd.zeroValue9
  t80 := Tryd.underlying126
  a80 := Tryd.isAgg126
  z80 := Tryd.sizeOf126
  v80 := Tryd.zeroValue126
  i0 := by kernel_rfl
  i3 := by kernel_rfl
  i4 := by kernel_rfl
  i5 := by kernel_rfl
  i9 := by kernel_rfl
  i20 := by kernel_rfl
  i37 := by kernel_rfl
  i75 := by kernel_rfl
  i80 := by kernel_rfl
  i91 := by kernel_rfl
  i93 := by kernel_rfl
  i130 := by kernel_rfl
  i131 := by kernel_rfl
  m14 := by kernel_rfl }
def lays183_ren : Go.Shelf.Ren := ⟨fun | 183 => 42 | n => n, fun | 130 => 95 | 37 => 24 | 0 => 0 | 93 => 77 | 3 => 3 | 5 => 5 | 91 => 75 | n => n, fun | n => n⟩
theorem lays183 : Go.Proofs.LaysM.n183 Tryd.prog lays183_ren := {
  mixed := by kernel_rfl
  f183 := Tryd.func42.trans (congrArg some (by kernel_rfl))
  t0 := Tryd.underlying0
  a0 := Tryd.isAgg0
  z0 := Tryd.sizeOf0
  v0 := Tryd.zeroValue0
  t3 := Tryd.underlying3
  a3 := Tryd.isAgg3
  z3 := Tryd.sizeOf3
  v3 := Tryd.zeroValue3
  t37 := Tryd.underlying24
  a37 := Tryd.isAgg24
  z37 := Tryd.sizeOf24
  v37 := Tryd.zeroValue24
  t93 := Tryd.underlying77
  a93 := Tryd.isAgg77
  z93 := Tryd.sizeOf77
  v93 := Tryd.zeroValue77
  t130 := Tryd.underlying95
  a130 := Tryd.isAgg95
  z130 := Tryd.sizeOf95
  v130 := Tryd.zeroValue95
  t5 := Tryd.underlying5
  a5 := Tryd.isAgg5
  z5 := Tryd.sizeOf5
  v5 := Tryd.zeroValue5
  t91 := Tryd.underlying75
  a91 := Tryd.isAgg75
  z91 := Tryd.sizeOf75
  v91 := Tryd.zeroValue75
  i0 := by kernel_rfl
  i3 := by kernel_rfl
  i5 := by kernel_rfl
  i37 := by kernel_rfl
  i91 := by kernel_rfl
  i93 := by kernel_rfl
  i130 := by kernel_rfl }
end Go.Proofs.YtlhhfngkfbbckaaDoor
namespace Go.Proofs.YtlhhfngkfbbckaaDoor
set_option linter.unusedSimpArgs false
set_option linter.unusedVariables false
open Go.RowKit

/-- A buffer that only this call has written. -/
def BufF (B b : Nat) (k : List Nat) (w : World) : Prop := Lib.IsBuffer 77 5 B b (k.map bv) w
def encT (ts : List (List Nat)) : List Nat := ts.flatMap fun t => beL 2 t.length ++ t
/-- Texts, each with its length ahead; or why not. -/
def textV (m : List Nat) (ts : List (List Nat)) : List Nat × Int := if ∀ t ∈ ts, t.length ≤ 65535 then (m ++ encT ts, 0) else ([], 4)
theorem beL2_len (n : Nat) : (beL 2 n).length = 2 := by simp [beL, beK]
theorem encT_succ {ts : List (List Nat)} {i : Nat} {t : List Nat} (h : ts[i]? = some t) : encT (ts.take (i + 1)) = encT (ts.take i) ++ beL 2 t.length ++ t := by
  unfold encT
  rw [List.take_add_one, h, List.flatMap_append]
  simp
theorem encT_len (ts : List (List Nat)) (h : ∀ t ∈ ts, t.length ≤ 65535) : (encT ts).length ≤ 65537 * ts.length := by
  induction ts with
  | nil => simp [encT]
  | cons t ts ih =>
    have h1 := ih fun x hx => h x (List.mem_cons_of_mem _ hx)
    have h2 := h t (List.mem_cons_self ..)
    have h3 : (beL 2 t.length).length = 2 := by simp [beL, beK]
    have e : encT (t :: ts) = beL 2 t.length ++ t ++ encT ts := by simp [encT]
    rw [e, List.length_append, List.length_append, h3, List.length_cons]
    omega
theorem encT_byte (ts : List (List Nat)) (h : ∀ t ∈ ts, ∀ x ∈ t, x < 256) : ∀ x ∈ encT ts, x < 256 := fun x hx => by
  obtain ⟨t, ht, hx⟩ := List.mem_flatMap.1 hx
  rcases List.mem_append.1 hx with h1 | h1
  · exact beL_lt _ _ x h1
  · exact h t ht x h1
section
variable {X : List Nat} {w0 w w' : World} {L : List Res} {R : List (World → Prop)} {B b c : Nat} {k m : List Nat} {A : Option Addr} {Y : List Nat}
theorem buf_st (h : BufF B b k w) (hX : ∀ i ∈ X, i < B) : St (BufF B b k) w X := fun w2 hk => by
  obtain ⟨hB, v, lr, hb, hrow, hne⟩ := h
  refine ⟨hB, v, lr, (hk b (lt_of_block hb) fun hm => by have := hX b hm; omega).trans hb, ⟨hrow.1, ?_⟩, hne⟩
  rcases hrow.2 with h2 | ⟨g, cap, cur, rfl, h3, hh, h4⟩
  · exact .inl h2
  · exact .inr ⟨g, cap, cur, rfl, h3, (hk g (lt_of_block hh) fun hm => by have := hX g hm; omega).trans hh, h4⟩
theorem buf_sep (hX : ∀ i ∈ X, i < w0.heap.size) (hb : Below w0.heap.size w0 w) (h : BufF w0.heap.size b k w) (hf : ∀ r ∈ R, St r w0 X) : Sep X [] w0 w [] (BufF w0.heap.size b k :: R) :=
  ⟨Frm.of_below hb, hX, fun _ h => (by cases h), List.nodup_nil, fun _ h => (by cases h), fun r hr => by
    rw [keysR, List.append_nil]
    rcases List.mem_cons.1 hr with rfl | hr
    · exact buf_st h hX
    · exact (hf r hr).step hb.size (fun i hi _ => hb.block i hi) fun i hi => .inl hi⟩
theorem buf_of_blk (H : Sep X [] w0 w (.blk b (ca [.one (.slice none 0 0), .one (.int .i64 0), .one (.int .i8 0)]) 77 :: L) R) : Sep X [] w0 w L (BufF w0.heap.size b [] :: R) := by
  have hm : w0.heap.size ≤ b := by
    rcases H.mine b (by simp [keysR, Res.keys]) with h | h
    · cases h
    · exact h
  have hf := H.freezeX (Sep.new_x H)
  refine hf.pop.know ((hf.facts _ (List.mem_cons_self ..)).imp fun w2 h => ⟨hm, .slice none 0 0, 0, h, World.ownsRow_nil _ _ _ _, by simp [Value.ownBlock]⟩)
theorem bufWrite_any (H : Sep X [] w0 w [] (BufF w0.heap.size b k :: R)) (hf : ∀ r ∈ R, St r w0 X) (hm : TxF A c m w) (hne : m ≠ [] → ∀ ad, A = some ad → ad.block ≠ b) (hl : k.length + m.length ≤ 140737488355328) :
    Calls Tryd.prog 40 #[.pointer (some ⟨b, 0, none⟩), .slice A m.length c] w fun e w' => ∃ z, e = .returned z ∧ Sep X [] w0 w' [] (BufF w0.heap.size b (k ++ m) :: R) := by
  have hI : BufF w0.heap.size b k w := (H.facts _ (List.mem_cons_self ..)).now
  have hB := H.frm.below
  by_cases h0 : m = []
  · subst h0
    obtain ⟨hb, v, lr, hh, hrow, hne2⟩ := hI
    have hrow' := hrow
    rw [List.length_map] at hrow'
    obtain ⟨RA, rc, hv, hrc⟩ : ∃ RA rc, v = .slice RA k.length rc ∧ rc ≤ 9223372036854775807 := by
      rcases hrow'.2 with ⟨h1, h2⟩ | ⟨g, cap, cur, h1, h3, _, _, h5, _⟩
      · exact ⟨none, 0, by rw [h1, h2], by omega⟩
      · exact ⟨_, _, h1, by unfold maxLen at h5; omega⟩
    subst hv
    have hap : ∀ g, (Value.slice RA k.length rc).ownBlock = some g → g ≠ b ∧ w0.heap.size ≤ g := fun g hg => ⟨fun e => hne2 (by rw [hg, e]), (World.ownsRow.lt hrow' g hg).1⟩
    have HS : Sep [] (keysR [.blk b (ca [.one (.slice RA k.length rc), .one (.int .i64 0), .one (.int .i8 lr)]) 77, .row (.slice RA k.length rc) 5 1 k.length (k.map bv)]) w w [.blk b (ca [.one (.slice RA k.length rc), .one (.int .i64 0), .one (.int .i8 lr)]) 77, .row (.slice RA k.length rc) 5 1 k.length (k.map bv)] [] :=
      ⟨Frm.refl _ _, fun _ h => (by cases h), fun r hr => by
        simp only [List.mem_cons, List.not_mem_nil, or_false] at hr
        rcases hr with rfl | rfl
        · exact hh
        · refine ⟨hrow'.1, ?_⟩
          rcases hrow'.2 with h2 | ⟨g, cap, cur, h1, h3, h4⟩
          · exact .inl h2
          · exact .inr ⟨g, cap, cur, h1, Nat.zero_le _, h4⟩, by
        cases hq : (Value.slice RA k.length rc).ownBlock with
        | none => simp [keysR, Res.keys, hq]
        | some g => have := (hap g hq).1; simp [keysR, Res.keys, hq, Ne.symm this], fun k hk => .inl hk, fun _ h => (by cases h)⟩
    refine (writeNil_any (k := k) (by simpa using hl) hrc (fun _ h => by cases h) HS).mono ?_
    rintro e w2 ⟨rfl, H2⟩
    refine ⟨_, rfl, ?_⟩
    rw [List.append_nil]
    have hlt := hB.size
    refine buf_sep H.xlt ⟨H2.frm.os.trans hB.os, H2.frm.tape.trans hB.tape, H2.frm.output.trans hB.output, Nat.le_trans hlt H2.frm.size, fun i hi => (H2.frm.block i (by omega) fun hm => ?_).trans (hB.block i hi)⟩ ⟨hb, .slice RA k.length rc, 0, H2.holds (.blk b (ca [.one (.slice RA k.length rc), .one (.int .i64 0), .one (.int .i8 0)]) 77) (by simp), ?_, hne2⟩ hf
    · simp only [keysR, Res.keys, List.mem_append, List.mem_singleton, Option.mem_toList, List.not_mem_nil, or_false] at hm
      rcases hm with h | h
      · omega
      · have := (hap i h).2; omega
    · have h2 : w2.ownsRow 0 5 1 (.slice RA k.length rc) k.length (k.map bv) := H2.holds (.row (.slice RA k.length rc) 5 1 k.length (k.map bv)) (by simp)
      rw [List.length_map]
      refine ⟨h2.1, ?_⟩
      rcases h2.2 with h3 | ⟨g, cap, cur, h1, h3, h4⟩
      · exact .inl h3
      · exact .inr ⟨g, cap, cur, h1, (hap g (by rw [h1]; rfl)).2, h4⟩
  · have hpos : 0 < m.length := List.length_pos_iff.2 h0
    cases A with
    | none => have := (hm.nil rfl).1; omega
    | some ad =>
      have h := Any.Buffer_Write_any lays180 w0.heap.size b (k.map bv) (m.map bv) ad m.length c w hI hB.size (fun v hv => by obtain ⟨z, _, rfl⟩ := List.mem_map.1 hv; rfl) (by simp) (hne h0 ad rfl)
        (by have := txF_cells (m := m.length) hm ad rfl; rwa [List.take_length] at this) (fun v hv => by obtain ⟨z, _, rfl⟩ := List.mem_map.1 hv; rfl) (by simpa using hl)
      refine Calls.mono h ?_
      rintro e w2 ⟨rfl, h1, h2, -⟩
      refine ⟨_, rfl, buf_sep H.xlt (hB.trans h2) ?_ hf⟩
      unfold BufF
      rw [List.map_append]
      exact h1
theorem bufBytes_any (H : Sep X [] w0 w [] (BufF w0.heap.size b k :: R)) (hf : ∀ r ∈ R, St r w0 X) (hl : k.length ≤ 140737488355328) (hk : ∀ x ∈ k, x < 256) :
    Calls Tryd.prog 42 #[.pointer (some ⟨b, 0, none⟩)] w fun e w' => ∃ A' c', e = .returned (.slice A' k.length c') ∧ Sep X [] w0 w' [] [TxF A' c' k] := by
  have hI : BufF w0.heap.size b k w := (H.facts _ (List.mem_cons_self ..)).now
  have h := Any.Buffer_Bytes lays183 w0.heap.size b (k.map bv) w hI
  refine Calls.mono h ?_
  rintro e w2 ⟨v, rfl, h1, n, rfl⟩
  have h1' : (w.drewN n).ownsRow w0.heap.size 5 1 v k.length (k.map bv) := by have := h1; rwa [List.length_map] at this
  have hb : Below w0.heap.size w0 (w.drewN n) := H.frm.below.trans ⟨rfl, rfl, rfl, Nat.le_refl _, fun _ _ => rfl⟩
  obtain ⟨A', c', rfl, h2⟩ := own_sep (X := X) (w0 := w0) (k := k) H.xlt h1' hb
  exact ⟨A', c', rfl, h2.rowTx (Sep.new_x h2) hl hk⟩
theorem put2_any (hX : ∀ i ∈ X, i < w0.heap.size) {n : Nat} (hn : n < 18446744073709551616) :
    Calls Tryd.prog 41 #[.slice none 0 0, .int .i64 2, .int .u64 ((n : Nat) : Int)] w0 fun e w' => ∃ A' c', e = .returned (.slice A' (beL 2 n).length c') ∧ Sep X [] w0 w' [] [TxF A' c' (beL 2 n)] ∧ ∀ q, q < w0.heap.size → ∀ ad, A' = some ad → ad.block ≠ q := by
  refine (put_any (.slice none 0 0) [] w0.heap.size 2 n (by omega) hn (by decide) w0 Own.nil_ (Nat.le_refl _)).mono ?_
  rintro e w2 ⟨⟨v, rfl, ho⟩, hb⟩
  rw [List.nil_append] at ho
  have hlt := ho.lt
  obtain ⟨A', c', rfl, h2⟩ := own_sep (X := X) hX ho hb
  refine ⟨A', c', rfl, h2.rowTx (Sep.new_x h2) (by simp [beL, beK]) (beL_lt _ _), fun q hq ad hA e => ?_⟩
  subst hA
  have h3 := ho.2
  rcases h3 with ⟨h4, _⟩ | ⟨g, cap, cur, h4, h5, _⟩
  · cases h4
  · injection h4 with h4
    injection h4 with h4
    subst h4
    simp only at e
    omega
end
set_option maxRecDepth 100000 in
set_option maxHeartbeats 600000 in
theorem Text_any {A TA : Option Addr} {c0 tc : Nat} {m0 : List Nat} {ts : List (List Nat)} {tm : Nat → TextT.μ} (hm0 : m0.length ≤ 100000000) (hts : ts.length ≤ 1000000) {X : List Nat} {w0 : World} (hX : ∀ k ∈ X, k < w0.heap.size) (hA : St (TxF A c0 m0) w0 X) (hL : St (LiF TextT TA tc ts tm) w0 X) :
    Calls Tryd.prog 27 #[.slice A m0.length c0, .slice TA ts.length tc] w0 fun e w' => ∃ A' c', e = .returned (.tuple #[.slice A' (textV m0 ts).1.length c', .int .i64 (textV m0 ts).2]) ∧ Sep X [] w0 w' [] [TxF A' c' (textV m0 ts).1] := by
  refine calls_env Tryd.ntmps27 Tryd.func27 rfl rfl fun a E => ?_; replace E : Env a _ [(0, _), (1, _)] := E
  have H : Sep X [] w0 w0 [] [(TxF A c0 m0), (LiF TextT TA tc ts tm)] := Sep.start hX (List.forall_mem_cons.2 ⟨hA, List.forall_mem_cons.2 ⟨hL, fun _ h => by cases h⟩⟩)
  refine wp_seq_k fun K0 hK0 => ?_; refine S_region ?_; refine S_val E (pk_assign rfl rfl) rfl rfl rfl ?_; clear E a; intro a E; refine S_val E (pk_assign rfl rfl) rfl rfl rfl ?_; clear E a; intro a E; refine hK0 _ _ ?_; refine wp_seq_k fun K1 hK1 => ?_; refine S_region ?_; refine S_eff E rfl (fun K hK => ?_); refine eff_alloc (z := [.one (.slice none 0 0), .one (.int .i64 0), .one (.int .i8 0)]) H rfl (by kernel_rfl) ?_; clear H; intro b6 w H _; refine hK _ _ ?_; clear hK K; refine S_put E rfl rfl ?_; clear E a; intro a E
  replace H := buf_of_blk H
  replace H : Sep _ _ _ _ [] [_, _, _] := H
  have hb6 : w0.heap.size ≤ b6 := (St.now (H.fact 0 rfl)).1
  refine hK1 _ _ ?_; refine wp_seq_k fun K2 hK2 => ?_; refine S_region ?_; refine S_val E (pk_move rfl rfl) rfl rfl rfl ?_; clear E a; intro a E; refine S_eff E rfl (fun K hK => ?_); refine eff_call E rfl rfl rfl (by kernel_rfl) ?_
  have HB := H.refacts (R' := [_, _, _]) (List.forall_mem_cons.2 ⟨H.fact 0 rfl, List.forall_mem_cons.2 ⟨H.fact 1 rfl, List.forall_mem_cons.2 ⟨H.fact 2 rfl, List.forall_mem_nil _⟩⟩⟩)
  refine (bufWrite_any (k := []) HB (List.forall_mem_cons.2 ⟨hA, List.forall_mem_cons.2 ⟨hL, List.forall_mem_nil _⟩⟩) (St.now (H.fact 1 rfl)) (fun hne0 ad hA2 => by obtain ⟨z, hz⟩ := List.exists_mem_of_ne_nil _ hne0; obtain ⟨q, hq⟩ := List.mem_iff_getElem?.1 hz; have h1 := World.block_lt_of_cell? _ _ (hA.now.at_ ad hA2 q z hq); rw [add_block] at h1; omega) (by simp only [List.length_nil]; omega)).mono ?_; rintro e w ⟨z24, rfl, H1⟩
  replace H := H1
  clear H1; replace H : Sep _ _ _ _ [] [_, _, _] := H; refine hK _ _ ?_; clear hK K; refine S_put E rfl rfl ?_; clear E a; intro a E; clear HB; refine hK2 _ _ ?_; refine wp_seq_k fun K3 hK3 => ?_; refine wp_seq_k fun K4 hK4 => ?_; refine S_region ?_; refine S_val E (pk_move rfl rfl) rfl rfl rfl ?_; clear E a; intro a E; refine S_val E (pk_len rfl rfl (by kernel_rfl)) rfl rfl rfl ?_; clear E a; intro a E; refine S_val E (pk_move rfl rfl) rfl rfl rfl ?_; clear E a; intro a E; refine hK4 _ _ ?_; refine wp_block ?_
  refine S_loopI (γ := Nat) [6, 11, 12] (fun i => [(13, .int .i64 (i : Int))]) (fun i => []) (fun i => [BufF w0.heap.size b6 (m0 ++ encT (ts.take i)), TxF A c0 m0, LiF TextT TA tc ts tm]) (fun i => i ≤ ts.length ∧ ∀ t ∈ ts.take i, t.length ≤ 65535) (fun i => ts.length - i) (0) E (by show Sep _ _ _ _ [] [BufF _ _ (m0 ++ encT (ts.take 0)), _, _]; rw [List.take_zero, show encT [] = [] from rfl, List.append_nil]; exact H) (by repeat (first | exact trivial | refine ⟨rfl, ?_⟩)) (⟨Nat.zero_le _, fun t ht => by simp at ht⟩) ?_; clear E H; intro i a w E H hφ; replace E : Env a _ [(13, _), (6, _), (11, _), (12, _)] := E; replace H : Sep _ _ _ _ [] [_, _, _] := H
  obtain ⟨hφ, hsm⟩ := hφ
  refine wp_seq_k fun K5 hK5 => ?_; refine S_region ?_; refine S_val E (pk_int rfl rfl rfl rfl) rfl rfl rfl ?_; clear E a; intro a E; refine hK5 _ _ ?_; refine wp_seq_k fun K6 hK6 => ?_; refine env_split (d := 14) E rfl ?_ ?_
  · skip
    clear E; intro c14 E
    have hi : i < ts.length := by have := c14; simp only [decide_eq_true_eq] at this; omega
    have hx0 : ts[i]? = some ts[i] := List.getElem?_eq_getElem hi
    obtain ⟨adi, hti⟩ := LiF.get hL hx0
    obtain ⟨_, hti⟩ := hti
    have hel : (m0 ++ encT (ts.take i)).length = m0.length + (encT (ts.take i)).length := List.length_append ..
    have hel2 := encT_len (ts.take i) hsm
    rw [List.length_take] at hel2
    refine S_then E rfl ?_; refine wp_skip ?_; refine hK6 _ _ ?_; refine wp_seq_k fun K7 hK7 => ?_; refine wp_block ?_; refine wp_seq_k fun K8 hK8 => ?_; refine S_region ?_
    obtain ⟨ad15, hA15, hc15, hn15⟩ := LiF.get (A := TA) (T := TextT) (i := i) (x := ts[i]) (by exact H.fact 2 rfl) hx0
    refine S_val E (pk_elA (sz := 1) hA15 rfl (by kernel_rfl) rfl rfl rfl (by omega)) rfl rfl rfl ?_; clear E a; intro a E
    replace H := (H.know hn15).know hc15
    clear hn15 hc15; replace H : Sep _ _ _ _ _ [_, _, _, _, _] := H; refine S_val E (pk_loadE1 (H.fact 0 rfl) (fun _ _ _ => trivial) rfl rfl rfl (by kernel_rfl)) rfl rfl rfl ?_; clear E a; intro a E; refine S_val E (pk_assign rfl rfl) rfl rfl rfl ?_; clear E a; intro a E; refine hK8 _ _ ?_; refine wp_seq_k fun K9 hK9 => ?_; refine wp_seq_k fun K10 hK10 => ?_; refine S_region ?_; refine S_val E (pk_move rfl rfl) rfl rfl rfl ?_; clear E a; intro a E; refine S_val E (pk_len rfl rfl (by kernel_rfl)) rfl rfl rfl ?_; clear E a; intro a E; refine S_val E (pk_int rfl rfl rfl rfl) rfl rfl rfl ?_; clear E a; intro a E; refine hK10 _ _ ?_; refine env_split (d := 19) E rfl ?_ ?_
    · skip
      clear E; intro c19 E
      have hbig : ¬ ts[i].length ≤ 65535 := by have := c19; simp only [decide_eq_true_eq] at this; omega
      have htv : textV m0 ts = ([], 4) := by unfold textV; rw [if_neg (fun h => hbig (h _ (List.getElem_mem hi)))]
      refine S_then E rfl ?_; refine wp_seq_k fun K11 hK11 => ?_; refine S_region ?_; refine S_val E (pk_assign rfl rfl) rfl rfl rfl ?_; clear E a; intro a E; refine S_val E (pk_assign rfl rfl) rfl rfl rfl ?_; clear E a; intro a E; refine hK11 _ _ ?_; refine wp_ret ?_
      repeat (first | refine then_ret ?_ | refine block_ret ?_)
      refine ret2 rfl E (resT rfl) (resT rfl) ?_
      rw [htv]
      exact ⟨none, 0, rfl, (H.know txF_nil).refacts (List.forall_mem_cons.2 ⟨txF_nil, List.forall_mem_nil _⟩)⟩
    · skip
      clear E; intro c19 E
      have hle : ts[i].length ≤ 65535 := by have := c19; simp only [decide_eq_false_iff_not] at this; omega
      refine S_else E rfl ?_; refine wp_skip ?_; refine hK9 _ _ ?_; refine wp_seq_k fun K12 hK12 => ?_; refine S_region ?_; refine S_val E (pk_move rfl rfl) rfl rfl rfl ?_; clear E a; intro a E; refine S_val E (pk_len rfl rfl (by kernel_rfl)) rfl rfl rfl ?_; clear E a; intro a E; refine S_val E (pk_convw rfl rfl (by kernel_rfl) (by kernel_rfl) (wU64 (by omega) (by omega))) rfl rfl rfl ?_; clear E a; intro a E; refine S_eff E rfl (fun K hK => ?_); refine eff_call E rfl rfl rfl (by kernel_rfl) ?_
      have hbl : b6 < w.heap.size := Lib.IsBuffer.lt (St.now (H.fact 2 rfl))
      refine (put2_any (n := ts[i].length) H.xk (by omega)).mono ?_; rintro e w ⟨A23, c23, rfl, H1, hq23⟩
      replace H := H.call H1
      clear H1; replace H : Sep _ _ _ _ [] [_, _, _, _, _, _] := H; refine hK _ _ ?_; clear hK K; refine S_put E rfl rfl ?_; clear E a; intro a E
      have hne23 := hq23 _ hbl
      clear hq23 hbl; refine S_eff E rfl (fun K hK => ?_); refine eff_call E rfl rfl rfl (by kernel_rfl) ?_
      have HB := H.refacts (R' := [_, _, _]) (List.forall_mem_cons.2 ⟨H.fact 3 rfl, List.forall_mem_cons.2 ⟨H.fact 4 rfl, List.forall_mem_cons.2 ⟨H.fact 5 rfl, List.forall_mem_nil _⟩⟩⟩)
      refine (bufWrite_any (k := (m0 ++ encT (ts.take i))) HB (List.forall_mem_cons.2 ⟨hA, List.forall_mem_cons.2 ⟨hL, List.forall_mem_nil _⟩⟩) (St.now (H.fact 0 rfl)) (fun _ => hne23) (by rw [hel, beL2_len]; omega)).mono ?_; rintro e w ⟨z24, rfl, H1⟩
      replace H := H1
      clear H1; replace H : Sep _ _ _ _ [] [_, _, _] := H; refine hK _ _ ?_; clear hK K; refine S_put E rfl rfl ?_; clear E a; intro a E; clear HB; refine hK12 _ _ ?_; refine S_region ?_; refine S_val E (pk_move rfl rfl) rfl rfl rfl ?_; clear E a; intro a E; refine S_eff E rfl (fun K hK => ?_); refine eff_call E rfl rfl rfl (by kernel_rfl) ?_
      have HB := H.refacts (R' := [_, _, _]) (List.forall_mem_cons.2 ⟨H.fact 0 rfl, List.forall_mem_cons.2 ⟨H.fact 1 rfl, List.forall_mem_cons.2 ⟨H.fact 2 rfl, List.forall_mem_nil _⟩⟩⟩)
      refine (bufWrite_any (k := ((m0 ++ encT (ts.take i)) ++ beL 2 ts[i].length)) HB (List.forall_mem_cons.2 ⟨hA, List.forall_mem_cons.2 ⟨hL, List.forall_mem_nil _⟩⟩) (St.now (hti.2.step H.frm.size (fun q hq _ => H.frm.block q hq (by simp)) (fun q hq => .inl hq))) (fun hne0 ad hA2 => by obtain ⟨z, hz⟩ := List.exists_mem_of_ne_nil _ hne0; obtain ⟨q, hq⟩ := List.mem_iff_getElem?.1 hz; have h1 := World.block_lt_of_cell? _ _ (hti.2.now.at_ ad hA2 q z hq); rw [add_block] at h1; omega) (by rw [List.length_append, hel, beL2_len]; omega)).mono ?_; rintro e w ⟨z24, rfl, H1⟩
      replace H := H1
      clear H1; replace H : Sep _ _ _ _ [] [_, _, _] := H; refine hK _ _ ?_; clear hK K; refine S_put E rfl rfl ?_; clear E a; intro a E; clear HB; refine hK7 _ _ ?_; refine S_region ?_; refine S_val E (pk_intw rfl rfl rfl rfl (wI64 (by omega) (by omega))) rfl rfl rfl ?_; clear E a; intro a E; refine S_val E (pk_move rfl rfl) rfl rfl rfl ?_; clear E a; intro a E
      rw [show (m0 ++ encT (ts.take i)) ++ beL 2 ts[i].length ++ ts[i] = m0 ++ encT (ts.take (i + 1)) from by rw [encT_succ hx0]; simp only [List.append_assoc]] at H
      refine loop_end ?_
      exact ⟨i + 1, ⟨E.to (by repeat (first | exact trivial | refine ⟨rfl, ?_⟩)), H, ⟨by omega, fun t ht => by rw [List.take_add_one, hx0] at ht; rcases List.mem_append.1 ht with h1 | h1; exact hsm t h1; simp only [Option.toList_some, List.mem_singleton] at h1; subst h1; exact hle⟩⟩, by omega⟩
  · skip
    clear E; intro c14 E
    obtain rfl : i = ts.length := by have := c14; simp only [decide_eq_false_iff_not] at this; omega
    rw [List.take_length] at H hsm
    have hall := hsm
    have htv : textV m0 ts = (m0 ++ encT ts, 0) := by unfold textV; rw [if_pos hall]
    have hbyte : ∀ x ∈ m0 ++ encT ts, x < 256 := fun x hx => by
      rcases List.mem_append.1 hx with h1 | h1
      · exact hA.now.byt x h1
      · exact encT_byte ts (fun t ht => by
          obtain ⟨q, hq⟩ := List.mem_iff_getElem?.1 ht
          obtain ⟨_, _, _, h3⟩ := LiF.get hL hq
          exact (St.now h3 : TxF _ _ _ _).byt) x h1
    refine S_else E rfl ?_; refine wp_exit ?_
    repeat (first | refine then_exit ?_ | refine block_hit ?_ | refine block_miss (by decide) ?_)
    refine hK3 _ _ ?_; refine wp_seq_k fun K13 hK13 => ?_; refine S_region ?_; refine S_eff E rfl (fun K hK => ?_); refine eff_call E rfl rfl rfl (by kernel_rfl) ?_; refine (bufBytes_any (k := m0 ++ encT ts) H (List.forall_mem_cons.2 ⟨hA, List.forall_mem_cons.2 ⟨hL, List.forall_mem_nil _⟩⟩) (by rw [List.length_append]; have := encT_len ts hall; omega) hbyte).mono ?_; rintro e w ⟨A28, c28, rfl, H1⟩
    replace H := H1
    clear H1; replace H : Sep _ _ _ _ [] [_] := H; refine hK _ _ ?_; clear hK K; refine S_put E rfl rfl ?_; clear E a; intro a E; refine S_val E (pk_assign rfl rfl) rfl rfl rfl ?_; clear E a; intro a E; refine S_val E (pk_assign rfl rfl) rfl rfl rfl ?_; clear E a; intro a E; refine hK13 _ _ ?_; refine wp_ret ?_
    repeat (first | refine then_ret ?_ | refine block_ret ?_)
    refine ret2 rfl E (resT rfl) (resT rfl) ?_
    rw [htv]
    exact ⟨A28, c28, rfl, H⟩
end Go.Proofs.YtlhhfngkfbbckaaDoor
namespace Go.Proofs.YtlhhfngkfbbckaaDoor
set_option linter.unusedSimpArgs false
set_option linter.unusedVariables false
open Go.RowKit

def padB (key : List Nat) (by_ i j : Nat) : Nat := if j < i then (key.getD j 0 % 256) ^^^ (by_ % 256) else 0
def putB (key : List Nat) (by_ i j : Nat) : Nat := if j = i then by_ else padB key by_ i j
theorem putB_at (key : List Nat) (by_ i : Nat) : putB key by_ i i = by_ := if_pos rfl
theorem putB_upd (key : List Nat) (by_ i j : Nat) : upd (fun j => bv (padB key by_ i j)) i (bv by_) j = bv (putB key by_ i j) := by
  unfold upd putB; split <;> rfl
theorem padB_ne (key : List Nat) (by_ : Nat) {i j : Nat} (h : j ≠ i) : putB key by_ i j = padB key by_ (i + 1) j := by
  unfold putB padB
  rw [if_neg h]
  by_cases h2 : j < i
  · rw [if_pos h2, if_pos (by omega)]
  · rw [if_neg h2, if_neg (by omega)]
theorem padB_in (key : List Nat) (by_ i j : Nat) : upd (fun j => bv (putB key by_ i j)) i (bv ((by_ % 256) ^^^ (key.getD i 0 % 256))) j = bv (padB key by_ (i + 1) j) := by
  unfold upd
  by_cases h : j = i
  · subst h; rw [if_pos rfl]; unfold padB; rw [if_pos (by omega), Nat.xor_comm]
  · rw [if_neg h]
    show bv (putB key by_ i j) = _
    rw [padB_ne _ _ h]
theorem padB_out (key : List Nat) {by_ i : Nat} (hb : by_ < 256) (hi : key.length ≤ i) : (fun j => bv (putB key by_ i j)) = fun j => bv (padB key by_ (i + 1) j) := by
  funext j
  by_cases h : j = i
  · subst h
    unfold putB padB
    rw [if_pos rfl, if_pos (by omega), List.getD_eq_getElem?_getD, List.getElem?_eq_none hi, Nat.mod_eq_of_lt hb]
    simp
  · rw [padB_ne _ _ h]
theorem cl_pad (key : List Nat) (by_ : Nat) : cl [.row 64 (fun j => bv (padB key by_ 64 j))] = (heldV key by_).map bv := by
  simp only [cl, Chunk.cells, List.append_nil, heldV, List.map_map]
  apply List.map_congr_left
  intro i hi
  simp only [Function.comp, padB, if_pos (List.mem_range.1 hi)]
theorem mac_flat (gt : Nat → Nat) (key : List Nat) (ps : List (List Nat)) : sumV gt [heldV key 92, sumV gt [heldV key 54, ps.flatten]] = macV gt key ps := by
  have e : sumV gt [heldV key 54, ps.flatten] = sumV gt (heldV key 54 :: ps) := by rw [sumV_flat, sumV_flat]; simp
  rw [e, macV]
theorem rfl_encT : encT [] = [] := rfl
attribute [local irreducible] sumV macV blockF blockR heldV beL encT
set_option maxRecDepth 100000 in
set_option maxHeartbeats 600000 in
theorem RPad_any {A : Option Addr} {c by_ : Nat} {key : List Nat} (h64 : key.length ≤ 64) (hby : by_ < 256) {X : List Nat} {w0 : World} (hX : ∀ k ∈ X, k < w0.heap.size) (hk : St (TxF A c key) w0 X) :
    Calls Tryd.prog 51 #[.slice A key.length c, bv by_] w0 fun e w' => ∃ A' c', e = .returned (.slice A' (heldV key by_).length c') ∧ Sep X [] w0 w' [] [TxF A' c' (heldV key by_)] := by
  refine calls_env Tryd.ntmps51 Tryd.func51 rfl rfl fun a E => ?_; replace E : Env a _ [(0, _), (1, _)] := E
  have H : Sep X [] w0 w0 [] [(TxF A c key)] := Sep.start hX (List.forall_mem_cons.2 ⟨hk, fun _ h => by cases h⟩)
  refine wp_seq_k fun K0 hK0 => ?_; refine S_region ?_; refine S_val E (pk_assign rfl rfl) rfl rfl rfl ?_; clear E a; intro a E; refine hK0 _ _ ?_; refine wp_seq_k fun K1 hK1 => ?_; refine wp_seq_k fun K2 hK2 => ?_; refine S_region ?_; refine S_val E (pk_move rfl rfl) rfl rfl rfl ?_; clear E a; intro a E; refine S_val E (pk_len rfl rfl (by kernel_rfl)) rfl rfl rfl ?_; clear E a; intro a E; refine S_val E (pk_int (v := .bool false) rfl rfl rfl (congrArg (fun b => some (Value.bool b)) (decide_eq_false (by omega)))) rfl rfl rfl ?_; clear E a; intro a E; refine hK2 _ _ ?_; refine S_else E rfl ?_; refine wp_skip ?_; refine hK1 _ _ ?_; refine wp_seq_k fun K3 hK3 => ?_; refine S_region ?_; refine S_eff E rfl (fun K hK => ?_); refine eff_make (n := 64) (c := 64) E H rfl ⟨Tryd.underlying24, Tryd.underlying5, by kernel_rfl⟩ rfl rfl rfl rfl (by omega) (by omega) ?_; clear H
  intro b15 w H F; refine hK _ _ ?_; clear hK K; refine S_put E rfl rfl ?_; clear E a; intro a E; clear F; refine S_val E (pk_assign rfl rfl) rfl rfl rfl ?_; clear E a; intro a E; refine hK3 _ _ ?_; refine wp_seq_k fun K4 hK4 => ?_; refine wp_seq_k fun K5 hK5 => ?_; refine S_region ?_; refine S_val E (pk_move rfl rfl) rfl rfl rfl ?_; clear E a; intro a E; refine S_val E (pk_len rfl rfl (by kernel_rfl)) rfl rfl rfl ?_; clear E a; intro a E; refine S_val E (pk_move rfl rfl) rfl rfl rfl ?_; clear E a; intro a E; refine hK5 _ _ ?_; refine wp_block ?_
  have e0 : (fun _ => bv 0) = fun j => bv (padB key by_ 0 j) := by funext j; simp [padB]
  rw [e0] at H
  refine S_loopI (γ := Nat) [0, 1, 6, 17] (fun i => [(18, .int .i64 (i : Int))]) (fun i => [.blk b15 (ca [.row 64 (fun j => bv (padB key by_ i j))]) 5 ]) (fun i => [TxF A c key]) (fun i => i ≤ 64) (fun i => 64 - i) (0) E H (by repeat (first | exact trivial | refine ⟨rfl, ?_⟩)) (by omega) ?_; clear E H; intro i a w E H hφ; replace E : Env a _ [(18, _), (0, _), (1, _), (6, _), (17, _)] := E; replace H : Sep _ _ _ _ [_] [_] := H; refine wp_seq_k fun K6 hK6 => ?_; refine S_region ?_; refine S_val E (pk_int rfl rfl rfl rfl) rfl rfl rfl ?_; clear E a; intro a E; refine hK6 _ _ ?_; refine wp_seq_k fun K7 hK7 => ?_; refine env_split (d := 19) E rfl ?_ ?_
  · skip
    clear E; intro c19 E
    have hi : i < 64 := by have := c19; simp only [decide_eq_true_eq] at this; omega
    refine S_then E rfl ?_; refine wp_skip ?_; refine hK7 _ _ ?_; refine wp_seq_k fun K8 hK8 => ?_; refine wp_block ?_; refine wp_seq_k fun K9 hK9 => ?_; refine S_region ?_; refine S_val E (pk_move rfl rfl) rfl rfl rfl ?_; clear E a; intro a E; refine S_val E (pk_assign rfl rfl) rfl rfl rfl ?_; clear E a; intro a E; refine hK9 _ _ ?_; refine wp_seq_k fun K10 hK10 => ?_; refine S_region ?_; refine S_val E (pk_move rfl rfl) rfl rfl rfl ?_; clear E a; intro a E; refine S_val E (pk_move rfl rfl) rfl rfl rfl ?_; clear E a; intro a E; refine S_val E (pk_move rfl rfl) rfl rfl rfl ?_; clear E a; intro a E; refine S_val E (pk_elA (sz := 1) (i := i) rfl rfl (by kernel_rfl) rfl rfl rfl hi) rfl rfl rfl ?_; clear E a; intro a E; refine S_eff E rfl (fun K hK => ?_)
    refine eff_storeRowF (off := 0) (i := i) (fun j => bv (putB key by_ i j)) 0 E H rfl rfl rfl hi rfl rfl (by rw [Nat.mul_one]) rfl rfl rfl (by kernel_rfl) (fun j => putB_upd key by_ i j) rfl ?_; clear H; intro w H F; replace H : Sep _ _ _ _ [_] _ := H; refine hK _ _ ?_; clear hK K; refine S_put0 rfl ?_; clear F; refine hK10 _ _ ?_; refine wp_seq_k fun K11 hK11 => ?_; refine S_region ?_; refine S_val E (pk_move rfl rfl) rfl rfl rfl ?_; clear E a; intro a E; refine S_val E (pk_move rfl rfl) rfl rfl rfl ?_; clear E a; intro a E; refine S_val E (pk_len rfl rfl (by kernel_rfl)) rfl rfl rfl ?_; clear E a; intro a E; refine S_val E (pk_int rfl rfl rfl rfl) rfl rfl rfl ?_; clear E a; intro a E; refine hK11 _ _ ?_; refine env_split (d := 28) E rfl ?_ ?_
    · skip
      clear E; intro c28 E
      have hik : i < key.length := by have := c28; simp only [decide_eq_true_eq] at this; omega
      obtain ⟨ad, hA⟩ : ∃ ad, A = some ad := by
        cases hq : A with
        | some ad => exact ⟨ad, rfl⟩
        | none => have := (hk.now.nil hq).1; omega
      have hg : key[i]? = some (key.getD i 0) := by rw [List.getD_eq_getElem?_getD, List.getElem?_eq_getElem hik]; rfl
      refine S_then E rfl ?_; refine C_region E H [] 8 [(0, false), (1, false), (2, false), (3, false), (4, false), (5, false), (6, false), (7, false)] (by kernel_rfl) (by kernel_rfl) (fun w HS => ?_)
      (simp only [canOps, List.getElem?_cons_zero, List.getElem?_cons_succ, List.drop_succ_cons, List.drop_zero])
      clear H
      have H := HS
      have hsz : w.heap.size ≤ w.heap.size := Nat.le_refl _
      have HK : CanB.Keep (fun k => k < w.heap.size ∧ k ∉ []) w w := CanB.Keep.refl _ _
      refine C_val E HK (pk_move rfl rfl) rfl rfl rfl (fun _ _ _ _ h => h) ?_; clear E a; intro a E; refine C_val E HK (pk_move rfl rfl) rfl rfl rfl (fun _ _ _ _ h => h) ?_; clear E a; intro a E; refine C_val E HK (pk_elA (sz := 1) (i := i) rfl rfl (by kernel_rfl) rfl rfl rfl hi) rfl rfl rfl (fun _ _ _ _ h => h) ?_; clear E a; intro a E; refine C_val E HK (pk_loadRow (i := i) (off := 0) HS 0 rfl (HS.inS 0 rfl (by simp)) rfl hi rfl rfl (by rw [Nat.mul_one]) (by kernel_rfl)) rfl rfl rfl (fun _ _ _ _ h => h) ?_; clear E a; intro a E
      rw [putB_at] at E
      refine C_val E HK (pk_move rfl rfl) rfl rfl rfl (fun _ _ _ _ h => h) ?_; clear E a; intro a E; refine C_val E HK (pk_move rfl rfl) rfl rfl rfl (fun _ _ _ _ h => h) ?_; clear E a; intro a E; refine C_val E HK (pk_elA (sz := 1) (i := i) hA rfl (by kernel_rfl) rfl rfl rfl hik) rfl rfl rfl (fun _ _ _ _ h => h) ?_; clear E a; intro a E; refine C_val E HK (pk_byte (HS.fact 0 rfl) (fun k h _ => ⟨h, by simp⟩) hA rfl rfl hg (by kernel_rfl)) rfl rfl rfl (fun _ _ _ _ h => h) ?_; clear E a; intro a E; refine CanB.wpCan_nil ?_
      try (simp only [List.take_succ_cons, List.take_zero, List.drop_succ_cons, List.drop_zero])
      clear HS HK hsz; refine S_val E (pk_xorB rfl rfl rfl) rfl rfl rfl ?_; clear E a; intro a E; refine S_val E (pk_elA (sz := 1) (i := i) rfl rfl (by kernel_rfl) rfl rfl rfl hi) rfl rfl rfl ?_; clear E a; intro a E; refine S_eff E rfl (fun K hK => ?_); refine eff_storeRowF (off := 0) (i := i) (fun j => bv (padB key by_ (i + 1) j)) 0 E H rfl rfl rfl hi rfl rfl (by rw [Nat.mul_one]) rfl rfl rfl (by kernel_rfl) (fun j => padB_in key by_ i j) rfl ?_; clear H; intro w H F; replace H : Sep _ _ _ _ [_] _ := H; refine hK _ _ ?_; clear hK K; refine S_put0 rfl ?_; clear F; refine hK8 _ _ ?_; refine S_region ?_; refine S_val E (pk_intw rfl rfl rfl rfl (wI64 (by omega) (by omega))) rfl rfl rfl ?_; clear E a; intro a E; refine S_val E (pk_move rfl rfl) rfl rfl rfl ?_; clear E a; intro a E; refine loop_end ?_
      exact ⟨i + 1, ⟨E.to (by repeat (first | exact trivial | refine ⟨rfl, ?_⟩)), H, by omega⟩, by omega⟩
    · skip
      clear E; intro c28 E
      have hik : key.length ≤ i := by have := c28; simp only [decide_eq_false_iff_not] at this; omega
      rw [padB_out key hby hik] at H
      refine S_else E rfl ?_; refine wp_skip ?_; refine hK8 _ _ ?_; refine S_region ?_; refine S_val E (pk_intw rfl rfl rfl rfl (wI64 (by omega) (by omega))) rfl rfl rfl ?_; clear E a; intro a E; refine S_val E (pk_move rfl rfl) rfl rfl rfl ?_; clear E a; intro a E; refine loop_end ?_
      exact ⟨i + 1, ⟨E.to (by repeat (first | exact trivial | refine ⟨rfl, ?_⟩)), H, by omega⟩, by omega⟩
  · skip
    clear E; intro c19 E
    obtain rfl : i = 64 := by have := c19; simp only [decide_eq_false_iff_not] at this; omega
    refine S_else E rfl ?_; refine wp_exit ?_
    repeat (first | refine then_exit ?_ | refine block_hit ?_ | refine block_miss (by decide) ?_)
    refine hK4 _ _ ?_; refine wp_seq_k fun K12 hK12 => ?_; refine S_region ?_; refine S_val E (pk_move rfl rfl) rfl rfl rfl ?_; clear E a; intro a E; refine S_val E (pk_assign rfl rfl) rfl rfl rfl ?_; clear E a; intro a E; refine hK12 _ _ ?_; refine wp_ret ?_
    repeat (first | refine then_ret ?_ | refine block_ret ?_)
    refine ret1 rfl E (resT rfl) ?_
    have hT := txF_at (k := heldV key by_) (c := 64) ((H.lend 0 rfl).fact 0 rfl) (cl_pad key by_) (by rw [heldV_len]; omega) (by rw [heldV_len]; omega) (heldV_byte key by_)
    exact ⟨some ⟨b15, 0, none⟩, 64, by rw [heldV_len], ((H.lend 0 rfl).know hT).refacts (List.forall_mem_cons.2 ⟨((H.lend 0 rfl).know hT).fact 0 rfl, List.forall_mem_nil _⟩)⟩
set_option maxRecDepth 100000 in
set_option maxHeartbeats 1000000 in
theorem RMac_any {A PA : Option Addr} {c pc : Nat} {key : List Nat} {ps : List (List Nat)} {pm : Nat → TextT.μ} {gt : Nat → Nat} (h64 : key.length ≤ 64) (hfl : ps.flatten.length ≤ 10000000000) {X : List Nat} {w0 : World} (hX : ∀ k ∈ X, k < w0.heap.size) (hk : St (TxF A c key) w0 X) (hL : St (LiF TextT PA pc ps pm) w0 X) (hG : St (AtC ⟨1, 0, none⟩ [.row 64 fun i => u32 (gt i)]) w0 X) :
    Calls Tryd.prog 34 #[.slice A key.length c, .slice PA ps.length pc] w0 fun e w' => e = .returned (.agg (ca [.key (macV gt key ps)])) ∧ Sep X [] w0 w' [] [] := by
  refine calls_env Tryd.ntmps34 Tryd.func34 rfl rfl fun a E => ?_; replace E : Env a _ [(0, _), (1, _)] := E
  have H : Sep X [] w0 w0 [] [(TxF A c key), (LiF TextT PA pc ps pm), (AtC ⟨1, 0, none⟩ [.row 64 fun i => u32 (gt i)])] := Sep.start hX (List.forall_mem_cons.2 ⟨hk, List.forall_mem_cons.2 ⟨hL, List.forall_mem_cons.2 ⟨hG, fun _ h => by cases h⟩⟩⟩)
  refine wp_seq_k fun K0 hK0 => ?_; refine S_region ?_; refine S_eff E rfl (fun K hK => ?_); refine eff_alloc (z := [.key []]) H rfl (by kernel_rfl) ?_; clear H; intro b4 w H _; refine hK _ _ ?_; clear hK K; refine S_put E rfl rfl ?_; clear E a; intro a E; refine hK0 _ _ ?_; refine wp_seq_k fun K1 hK1 => ?_; refine S_region ?_; refine S_val E (pk_move rfl rfl) rfl rfl rfl ?_; clear E a; intro a E; refine S_eff E rfl (fun K hK => ?_); refine eff_call E rfl rfl rfl (by kernel_rfl) ?_; refine (RPad_any (by_ := 54) h64 (by decide) H.xk (H.fact 0 rfl)).mono ?_; rintro e w ⟨A7, c7, rfl, H1⟩
  replace H := H.call H1
  clear H1; replace H : Sep _ _ _ _ [_] [_, _, _, _] := H; refine hK _ _ ?_; clear hK K; refine S_put E rfl rfl ?_; clear E a; intro a E; refine S_val E (pk_move rfl rfl) rfl rfl rfl ?_; clear E a; intro a E; refine S_eff E rfl (fun K hK => ?_); refine eff_call E rfl rfl rfl (by kernel_rfl) ?_; refine (All_any (by omega) H.xk (H.fact 2 rfl)).mono ?_; rintro e w ⟨A9, c9, rfl, H1⟩
  replace H := H.call H1
  clear H1; replace H : Sep _ _ _ _ [_] [_, _, _, _, _] := H; refine hK _ _ ?_; clear hK K; refine S_put E rfl rfl ?_; clear E a; intro a E; refine S_eff E rfl (fun K hK => ?_); refine eff_bslice (sz := 1) (z := [.one (.slice none 0 0), .one (.slice none 0 0)]) E H rfl Tryd.underlying30 (by kernel_rfl) (by decide) (by kernel_rfl) ⟨_, [.one _], 0, _, rfl, rfl, rfl, rfl, ⟨_, [.one _], 1, _, rfl, rfl, rfl, rfl, rfl⟩⟩ ?_; clear H; intro b10 w H _; refine hK _ _ ?_; clear hK K; refine S_put E rfl rfl ?_; clear E a; intro a E; refine S_eff E rfl (fun K hK => ?_); refine eff_call E rfl rfl rfl (by kernel_rfl) ?_
  have HB := H.lend 0 rfl
  have hli := liF_at (T := TextT) (its := [((heldV key 54, (A7, c7)) : List Nat × TextT.μ), (ps.flatten, (A9, c9))]) (c := 2) (xs := [heldV key 54, ps.flatten]) (HB.fact 0 rfl) text2 (nest_snoc (its := [_]) (q := ((ps.flatten, (A9, c9)) : List Nat × TextT.μ)) (nest_snoc (its := []) (q := ((heldV key 54, (A7, c7)) : List Nat × TextT.μ)) nest_nil (HB.fact 2 rfl)) (HB.fact 1 rfl)) rfl (by show 2 ≤ 2; decide) (by show 2 ≤ _; decide)
  have H2 := HB.refacts (R' := [_, _]) (List.forall_mem_cons.2 ⟨hli, List.forall_mem_cons.2 ⟨HB.fact 5 rfl, List.forall_mem_nil _⟩⟩)
  clear HB hli; refine (RSum_any (ps := [heldV key 54, ps.flatten]) (by rw [List.flatten_cons, List.flatten_cons, List.flatten_nil, List.append_nil, List.length_append, heldV_len]; omega) H2.xk (H2.fact 0 rfl) (H2.fact 1 rfl)).mono ?_; rintro e w ⟨rfl, H1⟩
  have F := H1.frm
  replace H := H.grow F
  refine hK _ _ ?_; clear hK K; refine S_put E rfl rfl ?_; clear E a; intro a E; clear F; clear H2; refine S_eff E rfl (fun K hK => ?_); refine eff_alloc (z := [.key []]) H rfl (by kernel_rfl) ?_; clear H; intro b5 w H _; refine hK _ _ ?_; clear hK K; refine S_put E rfl rfl ?_; clear E a; intro a E; refine S_eff E rfl (fun K hK => ?_); refine eff_store 0 E H rfl rfl rfl rfl rfl (by repeat (first | exact trivial | refine ⟨rfl, ?_⟩ | refine ⟨fun _ _ => rfl, ?_⟩)) rfl (by kernel_rfl) rfl ?_; clear H; intro w H _; replace H : Sep _ _ _ _ [_, _, _] _ := H; refine hK _ _ ?_; clear hK K; refine S_put0 rfl ?_; refine hK1 _ _ ?_; refine wp_seq_k fun K2 hK2 => ?_; refine C_region E H [] 3 [(0, false), (2, false), (1, true)] (by kernel_rfl) (by kernel_rfl) (fun w HS => ?_)
  (simp only [canOps, List.getElem?_cons_zero, List.getElem?_cons_succ, List.drop_succ_cons, List.drop_zero])
  clear H
  have H := HS
  have hsz : w.heap.size ≤ w.heap.size := Nat.le_refl _
  have HK : CanB.Keep (fun k => k < w.heap.size ∧ k ∉ []) w w := CanB.Keep.refl _ _
  refine C_val E HK (pk_move rfl rfl) rfl rfl rfl (fun _ _ _ _ h => h) ?_; clear E a; intro a E; refine C_val E HK (pk_subP (N := 32) (sz := 1) rfl (by kernel_rfl) rfl) rfl rfl rfl (fun _ _ _ _ h => h) ?_; clear E a; intro a E; refine C_eff E rfl (fun K hK => ?_); refine eff_call E rfl rfl rfl (by kernel_rfl) ?_; refine (RPad_any (by_ := 92) h64 (by decide) H.xk (H.fact 2 rfl)).mono ?_; rintro e w ⟨A13, c13, rfl, H1⟩
  have F := H1.frm
  replace H := H.call H1
  clear H1; replace H : Sep _ _ _ _ [_, _, _] [_, _, _, _, _, _] := H
  have hk := keep_frm (D := []) F hsz (by simp)
  refine hK _ _ hk ?_; clear hK K
  replace HK := HK.trans hk
  replace hsz := Nat.le_trans hsz (F).size
  clear hk; refine C_put E rfl rfl ?_; clear E a; intro a E; clear F; refine CanB.wpCan_nil ?_
  try (simp only [List.take_succ_cons, List.take_zero, List.drop_succ_cons, List.drop_zero])
  clear HS HK hsz; refine S_eff E rfl (fun K hK => ?_); refine eff_bslice (sz := 1) (z := [.one (.slice none 0 0), .one (.slice none 0 0)]) E H rfl Tryd.underlying30 (by kernel_rfl) (by decide) (by kernel_rfl) ⟨_, [.one _], 0, _, rfl, rfl, rfl, rfl, ⟨_, [.one _], 1, _, rfl, rfl, rfl, rfl, rfl⟩⟩ ?_; clear H; intro b15 w H _; refine hK _ _ ?_; clear hK K; refine S_put E rfl rfl ?_; clear E a; intro a E; refine S_eff E rfl (fun K hK => ?_); refine eff_call E rfl rfl rfl (by kernel_rfl) ?_
  have HB := (H.lend 0 rfl).lend 0 rfl
  have hin := txF_at (k := (sumV gt [heldV key 54, ps.flatten])) (c := 32) (HB.fact 0 rfl) (by rw [cl_key, keyL_self (sumV_len _ _)]) (by rw [sumV_len]; omega) (by rw [sumV_len]; omega) (sumV_byte _ _)
  have hli := liF_at (T := TextT) (its := [((heldV key 92, (A13, c13)) : List Nat × TextT.μ), ((sumV gt [heldV key 54, ps.flatten]), (some ⟨b5, 0, none⟩, 32))]) (c := 2) (xs := [heldV key 92, (sumV gt [heldV key 54, ps.flatten])]) (HB.fact 1 rfl) (by rw [← text2, heldV_len, sumV_len]) (nest_snoc (its := [_]) (q := (((sumV gt [heldV key 54, ps.flatten]), (some ⟨b5, 0, none⟩, 32)) : List Nat × TextT.μ)) (nest_snoc (its := []) (q := ((heldV key 92, (A13, c13)) : List Nat × TextT.μ)) nest_nil (HB.fact 2 rfl)) hin) rfl (by show 2 ≤ 2; decide) (by show 2 ≤ _; decide)
  have H2 := HB.refacts (R' := [_, _]) (List.forall_mem_cons.2 ⟨hli, List.forall_mem_cons.2 ⟨HB.fact 7 rfl, List.forall_mem_nil _⟩⟩)
  clear HB hin hli; refine (RSum_any (ps := [heldV key 92, (sumV gt [heldV key 54, ps.flatten])]) (by rw [List.flatten_cons, List.flatten_cons, List.flatten_nil, List.append_nil, List.length_append, heldV_len, sumV_len]; omega) H2.xk (H2.fact 0 rfl) (H2.fact 1 rfl)).mono ?_; rintro e w ⟨rfl, H1⟩
  have F := H1.frm
  replace H := H.grow F
  refine hK _ _ ?_; clear hK K; refine S_put E rfl rfl ?_; clear E a; intro a E; clear F; clear H2; refine S_eff E rfl (fun K hK => ?_); refine eff_store 3 E H rfl rfl rfl rfl rfl (by repeat (first | exact trivial | refine ⟨rfl, ?_⟩ | refine ⟨fun _ _ => rfl, ?_⟩)) rfl (by kernel_rfl) rfl ?_; clear H; intro w H _; replace H : Sep _ _ _ _ [_, _, _, _] _ := H; refine hK _ _ ?_; clear hK K; refine S_put0 rfl ?_; refine hK2 _ _ ?_; refine wp_ret ?_
  repeat (first | refine then_ret ?_ | refine block_ret ?_)
  refine ret1 rfl E (by exact resC (n := 32) H 3 rfl rfl rfl (by kernel_rfl)) ?_; refine ⟨?_, (H.refacts (List.forall_mem_nil _)).popL.popL.popL.popL⟩
  rw [mac_flat]
set_option maxRecDepth 100000 in
set_option maxHeartbeats 1000000 in
theorem RExpand_any {n ic : Nat} {IA : Option Addr} {k info : List Nat} {gt : Nat → Nat} (hk32 : k.length = 32) (hkb : ∀ x ∈ k, x < 256) (hn : n ≤ 8160) (hi20 : info.length ≤ 1048576) {X : List Nat} {w0 : World} (hX : ∀ k ∈ X, k < w0.heap.size) (hI : St (TxF IA ic info) w0 X) (hG : St (AtC ⟨1, 0, none⟩ [.row 64 fun i => u32 (gt i)]) w0 X) :
    Calls Tryd.prog 30 #[.agg (ca [.key k]), .slice IA info.length ic, .int .i64 ((n : Nat) : Int)] w0 fun e w' => ∃ A' c', e = .returned (.tuple #[.slice A' n c', .int .i64 0]) ∧ Sep X [] w0 w' [] [TxF A' c' (expV gt k info n)] := by
  refine calls_env Tryd.ntmps30 Tryd.func30 rfl rfl fun a E => ?_; replace E : Env a _ [(0, _), (1, _), (2, _)] := E
  have H : Sep X [] w0 w0 [] [(TxF IA ic info), (AtC ⟨1, 0, none⟩ [.row 64 fun i => u32 (gt i)])] := Sep.start hX (List.forall_mem_cons.2 ⟨hI, List.forall_mem_cons.2 ⟨hG, fun _ h => by cases h⟩⟩)
  refine wp_seq_k fun K0 hK0 => ?_; refine S_region ?_; refine S_eff E rfl (fun K hK => ?_); refine eff_box E H rfl rfl rfl ?_; clear H; intro b3 w H _; refine hK _ _ ?_; clear hK K; refine S_put E rfl rfl ?_; clear E a; intro a E; refine S_val E (pk_assign rfl rfl) rfl rfl rfl ?_; clear E a; intro a E; refine S_val E (pk_assign rfl rfl) rfl rfl rfl ?_; clear E a; intro a E; refine hK0 _ _ ?_; refine wp_seq_k fun K1 hK1 => ?_; refine wp_seq_k fun K2 hK2 => ?_; refine S_region ?_; refine S_val E (pk_move rfl rfl) rfl rfl rfl ?_; clear E a; intro a E; refine S_val E (pk_int (v := .bool false) rfl rfl rfl (congrArg (fun b => some (Value.bool b)) (decide_eq_false (by omega)))) rfl rfl rfl ?_; clear E a; intro a E; refine S_val E (pk_move rfl rfl) rfl rfl rfl ?_; clear E a; intro a E; refine S_val E (pk_move rfl rfl) rfl rfl rfl ?_; clear E a; intro a E
  refine S_val E (pk_int (v := .bool false) rfl rfl rfl (congrArg (fun b => some (Value.bool b)) (decide_eq_false (by omega)))) rfl rfl rfl ?_; clear E a; intro a E; refine S_val E (pk_pick rfl rfl rfl) rfl rfl rfl ?_; clear E a; intro a E; refine hK2 _ _ ?_; refine S_else E rfl ?_; refine wp_skip ?_; refine hK1 _ _ ?_; refine wp_seq_k fun K3 hK3 => ?_; refine wp_seq_k fun K4 hK4 => ?_; refine S_region ?_; refine S_val E (pk_move rfl rfl) rfl rfl rfl ?_; clear E a; intro a E; refine S_val E (pk_len rfl rfl (by kernel_rfl)) rfl rfl rfl ?_; clear E a; intro a E; refine S_val E (pk_int (v := .bool false) rfl rfl rfl (congrArg (fun b => some (Value.bool b)) (decide_eq_false (by omega)))) rfl rfl rfl ?_; clear E a; intro a E; refine hK4 _ _ ?_; refine S_else E rfl ?_; refine wp_skip ?_; refine hK3 _ _ ?_; refine wp_seq_k fun K5 hK5 => ?_; refine S_region ?_
  refine S_val E (pk_assign rfl rfl) rfl rfl rfl ?_; clear E a; intro a E; refine S_val E (pk_assign rfl rfl) rfl rfl rfl ?_; clear E a; intro a E; refine hK5 _ _ ?_; refine wp_seq_k fun K6 hK6 => ?_; refine wp_seq_k fun K7 hK7 => ?_; refine S_region ?_; refine S_val E (pk_assign rfl rfl) rfl rfl rfl ?_; clear E a; intro a E; refine hK7 _ _ ?_; refine wp_block ?_
  refine S_loopI (γ := Nat × List Nat × List Nat × Option Addr × Nat × Option Addr × Nat) [1, 2, 3] (fun g => [(8, .slice g.2.2.2.2.2.1 g.2.2.1.length g.2.2.2.2.2.2), (9, .slice g.2.2.2.1 g.2.1.length g.2.2.2.2.1), (10, .int .i64 ((g.1 + 1 : Nat) : Int))]) (fun g => [.row (.slice g.2.2.2.2.2.1 g.2.2.1.length g.2.2.2.2.2.2) 5 1 g.2.2.1.length (g.2.2.1.map bv), .blk b3 (ca [.key k]) 23 ]) (fun g => [TxF g.2.2.2.1 g.2.2.2.2.1 g.2.1, TxF IA ic info, AtC ⟨1, 0, none⟩ [.row 64 fun i => u32 (gt i)]]) (fun g => g.1 * 32 < n + 32 ∧ exT gt k info g.1 = (g.2.1, g.2.2.1)) (fun g => 8192 - g.1 * 32) ((0, [], [], none, 0, none, 0)) E ((H.know txF_nil).rownil _ _) (by repeat (first | exact trivial | refine ⟨rfl, ?_⟩)) (⟨by show 0 * 32 < n + 32; omega, rfl⟩) ?_; clear E H; intro g a w E H hφ
  replace E : Env a _ [(8, _), (9, _), (10, _), (1, _), (2, _), (3, _)] := E; replace H : Sep _ _ _ _ [_, _] [_, _, _] := H
  obtain ⟨j, last, out, LA, lc, OA, oc⟩ := g
  simp only at E H hφ ⊢
  obtain ⟨hj, hex0⟩ := hφ
  have hex := exT_len gt k info j
  rw [hex0] at hex
  simp only at hex
  refine wp_seq_k fun K8 hK8 => ?_; refine wp_seq_k fun K9 hK9 => ?_; refine S_region ?_; refine S_val E (pk_move rfl rfl) rfl rfl rfl ?_; clear E a; intro a E; refine S_val E (pk_len rfl rfl (by kernel_rfl)) rfl rfl rfl ?_; clear E a; intro a E; refine S_val E (pk_move rfl rfl) rfl rfl rfl ?_; clear E a; intro a E; refine S_val E (pk_int rfl rfl rfl rfl) rfl rfl rfl ?_; clear E a; intro a E; refine hK9 _ _ ?_; refine env_split (d := 24) E rfl ?_ ?_
  · skip
    clear E; intro c24 E
    have hlt : out.length < n := by have := c24; simp only [decide_eq_true_eq] at this; omega
    refine S_then E rfl ?_; refine wp_skip ?_; refine hK8 _ _ ?_; refine wp_seq_k fun K10 hK10 => ?_; refine wp_block ?_; refine wp_seq_k fun K11 hK11 => ?_; refine S_region ?_; refine S_val E (pk_subP (N := 32) (sz := 1) rfl (by kernel_rfl) rfl) rfl rfl rfl ?_; clear E a; intro a E; refine S_val E (pk_move rfl rfl) rfl rfl rfl ?_; clear E a; intro a E; refine S_val E (pk_move rfl rfl) rfl rfl rfl ?_; clear E a; intro a E; refine S_val E (pk_move rfl rfl) rfl rfl rfl ?_; clear E a; intro a E; refine S_val E (pk_convw rfl rfl (by kernel_rfl) (by kernel_rfl) (wU8 (by omega) (by omega))) rfl rfl rfl ?_; clear E a; intro a E; refine S_eff E rfl (fun K hK => ?_); refine eff_bslice (sz := 1) (z := [.one (.int .u8 0)]) E H rfl Tryd.underlying24 (by kernel_rfl) (by decide) (by kernel_rfl) ⟨_, [.one _], 0, _, rfl, rfl, rfl, rfl, rfl⟩ ?_; clear H; intro b32 w H _; refine hK _ _ ?_
    clear hK K; refine S_put E rfl rfl ?_; clear E a; intro a E; refine S_eff E rfl (fun K hK => ?_); refine eff_bslice (sz := 1) (z := [.one (.slice none 0 0), .one (.slice none 0 0), .one (.slice none 0 0)]) E H rfl Tryd.underlying30 (by kernel_rfl) (by decide) (by kernel_rfl) ⟨_, [.one _], 0, _, rfl, rfl, rfl, rfl, ⟨_, [.one _], 1, _, rfl, rfl, rfl, rfl, ⟨_, [.one _], 2, _, rfl, rfl, rfl, rfl, rfl⟩⟩⟩ ?_; clear H; intro b33 w H _; refine hK _ _ ?_; clear hK K; refine S_put E rfl rfl ?_; clear E a; intro a E; refine S_eff E rfl (fun K hK => ?_); refine eff_call E rfl rfl rfl (by kernel_rfl) ?_
    rw [show (Value.slice (some ⟨b3, 0, none⟩) 32 32) = .slice (some ⟨b3, 0, none⟩) k.length 32 from by rw [hk32]]
    have HB := ((H.lend 0 rfl).lend 0 rfl).lend 1 rfl
    have hkk := txF_at (k := k) (c := 32) (HB.fact 0 rfl) (by rw [cl_key, keyL_self hk32]) (by omega) (by omega) hkb
    have hby := txF_at (k := [j + 1]) (c := 1) (HB.fact 1 rfl) rfl (by show 1 ≤ 1; decide) (by show 1 ≤ _; decide) (fun x hx => by rw [List.mem_singleton.1 hx]; omega)
    have hli := liF_at (T := TextT) (its := [((last, (LA, lc)) : List Nat × TextT.μ), (info, (IA, ic)), ([j + 1], (some ⟨b32, 0, none⟩, 1))]) (c := 3) (xs := [last, info, [j + 1]]) (HB.fact 2 rfl) rfl (nest_snoc (its := [_, _]) (q := (([j + 1], (some ⟨b32, 0, none⟩, 1)) : List Nat × TextT.μ)) (nest_snoc (its := [_]) (q := ((info, (IA, ic)) : List Nat × TextT.μ)) (nest_snoc (its := []) (q := ((last, (LA, lc)) : List Nat × TextT.μ)) nest_nil (HB.fact 3 rfl)) (HB.fact 4 rfl)) hby) rfl (by show 3 ≤ 3; decide) (by show 3 ≤ _; decide)
    have H2 := HB.refacts (R' := [_, _, _]) (List.forall_mem_cons.2 ⟨hkk, List.forall_mem_cons.2 ⟨hli, List.forall_mem_cons.2 ⟨HB.fact 5 rfl, List.forall_mem_nil _⟩⟩⟩)
    clear HB hkk hby hli; refine (RMac_any (key := k) (ps := [last, info, [j + 1]]) (by omega) (by rw [List.flatten_cons, List.flatten_cons, List.flatten_cons, List.flatten_nil, List.append_nil, List.length_append, List.length_append]; have := hex.2.1; show _ + (_ + 1) ≤ _; omega) H2.xk (H2.fact 0 rfl) (H2.fact 1 rfl) (H2.fact 2 rfl)).mono ?_; rintro e w ⟨rfl, H1⟩
    have F := H1.frm
    replace H := H.grow F
    refine hK _ _ ?_; clear hK K; refine S_put E rfl rfl ?_; clear E a; intro a E; clear F; clear H2; refine S_eff E rfl (fun K hK => ?_); refine eff_alloc (z := [.key []]) H rfl (by kernel_rfl) ?_; clear H; intro b11 w H _; refine hK _ _ ?_; clear hK K; refine S_put E rfl rfl ?_; clear E a; intro a E; refine S_eff E rfl (fun K hK => ?_); refine eff_store 0 E H rfl rfl rfl rfl rfl (by repeat (first | exact trivial | refine ⟨rfl, ?_⟩ | refine ⟨fun _ _ => rfl, ?_⟩)) rfl (by kernel_rfl) rfl ?_; clear H; intro w H _; replace H : Sep _ _ _ _ [_, _, _, _, _] _ := H; refine hK _ _ ?_; clear hK K; refine S_put0 rfl ?_; refine hK11 _ _ ?_; refine wp_seq_k fun K12 hK12 => ?_
    have hT11 := txF_at (k := (macV gt k [last, info, [j + 1]])) (c := 32) ((H.lend 0 rfl).fact 0 rfl) (by rw [cl_key, keyL_self (macV_len _ _ _)]) (by rw [macV_len]; omega) (by rw [macV_len]; omega) (macV_byte _ _ _)
    replace H := (H.lend 0 rfl).know hT11
    replace H : Sep _ _ _ _ [_, _, _, _] [_, _, _, _, _] := H; clear hT11; refine S_region ?_; refine S_val E (pk_subP (N := 32) (sz := 1) rfl (by kernel_rfl) rfl) rfl rfl rfl ?_; clear E a; intro a E
    rw [show Value.slice (some ⟨b11, 0, none⟩) 32 32 = .slice (some ⟨b11, 0, none⟩) (macV gt k [last, info, [j + 1]]).length 32 from by rw [macV_len]] at E
    refine S_val E (pk_assign rfl rfl) rfl rfl rfl ?_; clear E a; intro a E; refine hK12 _ _ ?_; refine S_region ?_; refine S_val E (pk_move rfl rfl) rfl rfl rfl ?_; clear E a; intro a E; refine S_val E (pk_move rfl rfl) rfl rfl rfl ?_; clear E a; intro a E; refine S_eff E rfl (fun K hK => ?_); refine eff_appT (k := out) (m := (macV gt k [last, info, [j + 1]])) 2 E H (H.fact 0 rfl) rfl rfl rfl rfl ⟨Tryd.underlying24, by kernel_rfl⟩ (by rw [macV_len]; omega) ?_; clear H; intro A38 c38 w H F; replace H : Sep _ _ _ _ [_, _, _, _] _ := H; refine hK _ _ ?_; clear hK K; refine S_put E rfl rfl ?_; clear E a; intro a E; clear F; refine S_val E (pk_assign rfl rfl) rfl rfl rfl ?_; clear E a; intro a E; refine hK10 _ _ ?_; refine S_region ?_; refine S_val E (pk_move rfl rfl) rfl rfl rfl ?_; clear E a; intro a E
    refine S_val E (pk_intw rfl rfl rfl rfl (wI64 (by omega) (by omega))) rfl rfl rfl ?_; clear E a; intro a E; refine S_val E (pk_assign rfl rfl) rfl rfl rfl ?_; clear E a; intro a E; refine loop_end ?_
    exact ⟨(j + 1, (macV gt k [last, info, [j + 1]]), out ++ (macV gt k [last, info, [j + 1]]), some ⟨b11, 0, none⟩, 32, A38, c38), ⟨E.to (by repeat (first | exact trivial | refine ⟨rfl, ?_⟩)), H.popL.popL.drop2, ⟨by show (j + 1) * 32 < n + 32; omega, exT_succ hex0⟩⟩, by show 8192 - (j + 1) * 32 < 8192 - j * 32; omega⟩
  · skip
    clear E; intro c24 E
    have hge : ¬ out.length < n := by have := c24; simp only [decide_eq_false_iff_not] at this; omega
    obtain rfl : j = (n + 31) / 32 := by omega
    refine S_else E rfl ?_; refine wp_exit ?_
    repeat (first | refine then_exit ?_ | refine block_hit ?_ | refine block_miss (by decide) ?_)
    refine hK6 _ _ ?_; refine wp_seq_k fun K13 hK13 => ?_; refine S_region ?_; refine S_val E (pk_move rfl rfl) rfl rfl rfl ?_; clear E a; intro a E; refine S_val E (pk_move rfl rfl) rfl rfl rfl ?_; clear E a; intro a E
    have hoc : out.length ≤ oc := row_cap (H.holds _ (by simp) : (Res.row (.slice OA out.length oc) 5 1 out.length (out.map bv)).holds w)
    refine S_val E (pk_sub_hi (sz := 1) (hi := n) rfl (by kernel_rfl) rfl rfl rfl (by omega)) rfl rfl rfl ?_; clear E a; intro a E
    rw [sub_zero] at E
    refine S_val E (pk_assign rfl rfl) rfl rfl rfl ?_; clear E a; intro a E; refine S_val E (pk_assign rfl rfl) rfl rfl rfl ?_; clear E a; intro a E; refine hK13 _ _ ?_; refine wp_ret ?_
    repeat (first | refine then_ret ?_ | refine block_ret ?_)
    refine ret2 rfl E (resT rfl) (resT rfl) ?_
    have hT := H.rowTx (Sep.new_x H) (by omega) hex.2.2
    have hT2 := txF_take (hi := n) (hT.fact 0 rfl) (by omega)
    rw [show out.take n = expV gt k info n from by rw [expV, hex0]] at hT2
    exact ⟨OA, oc, rfl, ((hT.know hT2).refacts (List.forall_mem_cons.2 ⟨(hT.know hT2).fact 0 rfl, List.forall_mem_nil _⟩)).popL⟩
set_option maxRecDepth 100000 in
set_option maxHeartbeats 600000 in
theorem RText_any {A TA : Option Addr} {c0 tc : Nat} {m0 : List Nat} {ts : List (List Nat)} {tm : Nat → TextT.μ} (hm0 : m0.length ≤ 100000000) (hts : ts.length ≤ 1000000) {X : List Nat} {w0 : World} (hX : ∀ k ∈ X, k < w0.heap.size) (hA : St (TxF A c0 m0) w0 X) (hL : St (LiF TextT TA tc ts tm) w0 X) :
    Calls Tryd.prog 32 #[.slice A m0.length c0, .slice TA ts.length tc] w0 fun e w' => ∃ A' c', e = .returned (.tuple #[.slice A' (textV m0 ts).1.length c', .int .i64 (textV m0 ts).2]) ∧ Sep X [] w0 w' [.row (.slice A' (textV m0 ts).1.length c') 5 1 (textV m0 ts).1.length ((textV m0 ts).1.map bv)] [] := by
  refine calls_env Tryd.ntmps32 Tryd.func32 rfl rfl fun a E => ?_; replace E : Env a _ [(0, _), (1, _)] := E
  have H : Sep X [] w0 w0 [] [(TxF A c0 m0), (LiF TextT TA tc ts tm)] := Sep.start hX (List.forall_mem_cons.2 ⟨hA, List.forall_mem_cons.2 ⟨hL, fun _ h => by cases h⟩⟩)
  refine wp_seq_k fun K0 hK0 => ?_; refine S_region ?_; refine S_val E (pk_assign rfl rfl) rfl rfl rfl ?_; clear E a; intro a E; refine S_val E (pk_assign rfl rfl) rfl rfl rfl ?_; clear E a; intro a E; refine hK0 _ _ ?_; refine wp_seq_k fun K1 hK1 => ?_; refine S_region ?_; refine S_val E (pk_move rfl rfl) rfl rfl rfl ?_; clear E a; intro a E; refine S_eff E rfl (fun K hK => ?_); refine eff_call E rfl rfl rfl (by kernel_rfl) ?_; refine (rcopy_own H.xk (H.fact 0 rfl)).mono ?_; rintro e w ⟨A10, c10, rfl, H1⟩
  replace H := H.call H1
  clear H1; replace H : Sep _ _ _ _ [_] [_, _] := H; refine hK _ _ ?_; clear hK K; refine S_put E rfl rfl ?_; clear E a; intro a E; refine S_val E (pk_assign rfl rfl) rfl rfl rfl ?_; clear E a; intro a E; refine hK1 _ _ ?_; refine wp_seq_k fun K2 hK2 => ?_; refine wp_seq_k fun K3 hK3 => ?_; refine S_region ?_; refine S_val E (pk_move rfl rfl) rfl rfl rfl ?_; clear E a; intro a E; refine S_val E (pk_len rfl rfl (by kernel_rfl)) rfl rfl rfl ?_; clear E a; intro a E; refine S_val E (pk_move rfl rfl) rfl rfl rfl ?_; clear E a; intro a E; refine hK3 _ _ ?_; refine wp_block ?_
  refine S_loopI (γ := Nat × Option Addr × Nat) [11, 12] (fun g => [(6, .slice g.2.1 (m0 ++ encT (ts.take g.1)).length g.2.2), (13, .int .i64 (g.1 : Int))]) (fun g => [.row (.slice g.2.1 (m0 ++ encT (ts.take g.1)).length g.2.2) 5 1 (m0 ++ encT (ts.take g.1)).length ((m0 ++ encT (ts.take g.1)).map bv)]) (fun g => [TxF A c0 m0, LiF TextT TA tc ts tm]) (fun g => g.1 ≤ ts.length ∧ ∀ t ∈ ts.take g.1, t.length ≤ 65535) (fun g => ts.length - g.1) ((0, A10, c10)) E (by rw [List.take_zero, show encT [] = [] from rfl_encT, List.append_nil]; exact H) (by rw [List.take_zero, show encT [] = [] from rfl_encT, List.append_nil]; repeat (first | exact trivial | refine ⟨rfl, ?_⟩)) (⟨Nat.zero_le _, fun t ht => by simp at ht⟩) ?_; clear E H; intro g a w E H hφ; replace E : Env a _ [(6, _), (13, _), (11, _), (12, _)] := E; replace H : Sep _ _ _ _ [_] [_, _] := H
  obtain ⟨i, Ag, cg⟩ := g
  simp only at E H hφ ⊢
  obtain ⟨hφ, hsm⟩ := hφ
  refine wp_seq_k fun K4 hK4 => ?_; refine S_region ?_; refine S_val E (pk_int rfl rfl rfl rfl) rfl rfl rfl ?_; clear E a; intro a E; refine hK4 _ _ ?_; refine wp_seq_k fun K5 hK5 => ?_; refine env_split (d := 14) E rfl ?_ ?_
  · skip
    clear E; intro c14 E
    have hi : i < ts.length := by have := c14; simp only [decide_eq_true_eq] at this; omega
    have hx0 : ts[i]? = some ts[i] := List.getElem?_eq_getElem hi
    have hel : (m0 ++ encT (ts.take i)).length = m0.length + (encT (ts.take i)).length := List.length_append ..
    have hel2 := encT_len (ts.take i) hsm
    rw [List.length_take] at hel2
    refine S_then E rfl ?_; refine wp_skip ?_; refine hK5 _ _ ?_; refine wp_seq_k fun K6 hK6 => ?_; refine wp_block ?_; refine wp_seq_k fun K7 hK7 => ?_; refine S_region ?_
    obtain ⟨ad15, hA15, hc15, hn15⟩ := LiF.get (A := TA) (T := TextT) (i := i) (x := ts[i]) (by exact H.fact 1 rfl) hx0
    refine S_val E (pk_elA (sz := 1) hA15 rfl (by kernel_rfl) rfl rfl rfl (by omega)) rfl rfl rfl ?_; clear E a; intro a E
    replace H := (H.know hn15).know hc15
    clear hn15 hc15; replace H : Sep _ _ _ _ _ [_, _, _, _] := H; refine S_val E (pk_loadE1 (H.fact 0 rfl) (fun _ _ _ => trivial) rfl rfl rfl (by kernel_rfl)) rfl rfl rfl ?_; clear E a; intro a E; refine S_val E (pk_assign rfl rfl) rfl rfl rfl ?_; clear E a; intro a E; refine hK7 _ _ ?_; refine wp_seq_k fun K8 hK8 => ?_; refine wp_seq_k fun K9 hK9 => ?_; refine S_region ?_; refine S_val E (pk_move rfl rfl) rfl rfl rfl ?_; clear E a; intro a E; refine S_val E (pk_len rfl rfl (by kernel_rfl)) rfl rfl rfl ?_; clear E a; intro a E; refine S_val E (pk_int rfl rfl rfl rfl) rfl rfl rfl ?_; clear E a; intro a E; refine hK9 _ _ ?_; refine env_split (d := 19) E rfl ?_ ?_
    · skip
      clear E; intro c19 E
      have hbig : ¬ ts[i].length ≤ 65535 := by have := c19; simp only [decide_eq_true_eq] at this; omega
      have htv : textV m0 ts = ([], 4) := by unfold textV; rw [if_neg (fun h => hbig (h _ (List.getElem_mem hi)))]
      refine S_then E rfl ?_; refine wp_seq_k fun K10 hK10 => ?_; refine S_region ?_; refine S_val E (pk_assign rfl rfl) rfl rfl rfl ?_; clear E a; intro a E; refine S_val E (pk_assign rfl rfl) rfl rfl rfl ?_; clear E a; intro a E; refine hK10 _ _ ?_; refine wp_ret ?_
      repeat (first | refine then_ret ?_ | refine block_ret ?_)
      refine ret2 rfl E (resT rfl) (resT rfl) ?_
      rw [htv]
      exact ⟨none, 0, rfl, ((H.refacts (R' := []) (List.forall_mem_nil _)).popL).rownil _ _⟩
    · skip
      clear E; intro c19 E
      have hle : ts[i].length ≤ 65535 := by have := c19; simp only [decide_eq_false_iff_not] at this; omega
      refine S_else E rfl ?_; refine wp_skip ?_; refine hK8 _ _ ?_; refine S_region ?_; refine S_val E (pk_move rfl rfl) rfl rfl rfl ?_; clear E a; intro a E; refine S_val E (pk_move rfl rfl) rfl rfl rfl ?_; clear E a; intro a E; refine S_val E (pk_len rfl rfl (by kernel_rfl)) rfl rfl rfl ?_; clear E a; intro a E; refine S_val E (pk_convw rfl rfl (by kernel_rfl) (by kernel_rfl) (wU64 (by omega) (by omega))) rfl rfl rfl ?_; clear E a; intro a E; refine S_eff E rfl (fun K hK => ?_); refine eff_call E rfl rfl rfl (by kernel_rfl) ?_; refine (bytes_tx 2 ts[i].length (by decide) (by omega) H.xk).mono ?_; rintro e w ⟨A24, c24, rfl, H1⟩
      replace H := H.call H1
      clear H1; replace H : Sep _ _ _ _ [_] [_, _, _, _, _] := H; refine hK _ _ ?_; clear hK K; refine S_put E rfl rfl ?_; clear E a; intro a E; refine S_eff E rfl (fun K hK => ?_); refine eff_appT (k := (m0 ++ encT (ts.take i))) (m := beL 2 ts[i].length) 0 E H (H.fact 0 rfl) rfl rfl rfl rfl ⟨Tryd.underlying24, by kernel_rfl⟩ (by rw [hel, beL2_len]; omega) ?_; clear H; intro A25 c25 w H F; replace H : Sep _ _ _ _ [_] _ := H; refine hK _ _ ?_; clear hK K; refine S_put E rfl rfl ?_; clear E a; intro a E; clear F; refine S_val E (pk_move rfl rfl) rfl rfl rfl ?_; clear E a; intro a E; refine S_eff E rfl (fun K hK => ?_); refine eff_appT (k := ((m0 ++ encT (ts.take i)) ++ beL 2 ts[i].length)) (m := ts[i]) 0 E H (H.fact 2 rfl) rfl rfl rfl rfl ⟨Tryd.underlying24, by kernel_rfl⟩ (by rw [List.length_append, hel, beL2_len]; omega) ?_; clear H; intro A27 c27 w H F
      replace H : Sep _ _ _ _ [_] _ := H; refine hK _ _ ?_; clear hK K; refine S_put E rfl rfl ?_; clear E a; intro a E; clear F; refine S_val E (pk_assign rfl rfl) rfl rfl rfl ?_; clear E a; intro a E; refine hK6 _ _ ?_; refine S_region ?_; refine S_val E (pk_intw rfl rfl rfl rfl (wI64 (by omega) (by omega))) rfl rfl rfl ?_; clear E a; intro a E; refine S_val E (pk_move rfl rfl) rfl rfl rfl ?_; clear E a; intro a E
      rw [show (m0 ++ encT (ts.take i)) ++ beL 2 ts[i].length ++ ts[i] = m0 ++ encT (ts.take (i + 1)) from by rw [encT_succ hx0]; simp only [List.append_assoc]] at E H
      refine loop_end ?_
      exact ⟨(i + 1, A27, c27), ⟨E.to (by repeat (first | exact trivial | refine ⟨rfl, ?_⟩)), H.pop.pop.pop, ⟨by show i + 1 ≤ ts.length; omega, fun t ht => by rw [List.take_add_one, hx0] at ht; rcases List.mem_append.1 ht with h1 | h1; exact hsm t h1; simp only [Option.toList_some, List.mem_singleton] at h1; subst h1; exact hle⟩⟩, by show ts.length - (i + 1) < ts.length - i; omega⟩
  · skip
    clear E; intro c14 E
    obtain rfl : i = ts.length := by have := c14; simp only [decide_eq_false_iff_not] at this; omega
    rw [List.take_length] at E H hsm
    have htv : textV m0 ts = (m0 ++ encT ts, 0) := by unfold textV; rw [if_pos hsm]
    refine S_else E rfl ?_; refine wp_exit ?_
    repeat (first | refine then_exit ?_ | refine block_hit ?_ | refine block_miss (by decide) ?_)
    refine hK2 _ _ ?_; refine wp_seq_k fun K11 hK11 => ?_; refine S_region ?_; refine S_val E (pk_move rfl rfl) rfl rfl rfl ?_; clear E a; intro a E; refine S_val E (pk_assign rfl rfl) rfl rfl rfl ?_; clear E a; intro a E; refine S_val E (pk_assign rfl rfl) rfl rfl rfl ?_; clear E a; intro a E; refine hK11 _ _ ?_; refine wp_ret ?_
    repeat (first | refine then_ret ?_ | refine block_ret ?_)
    refine ret2 rfl E (resT rfl) (resT rfl) ?_
    rw [htv]
    exact ⟨Ag, cg, rfl, H.refacts (List.forall_mem_nil _)⟩
end Go.Proofs.YtlhhfngkfbbckaaDoor
namespace Go.Proofs.YtlhhfngkfbbckaaDoor
set_option linter.unusedSimpArgs false
set_option linter.unusedVariables false
open Go.RowKit

def streamL : List Nat := [115, 116, 114, 101, 97, 109]
def sumL : List Nat := [115, 117, 109]
/-- A key's keys: the stream's, and its nonce; the sum's. -/
def keyS (gt : Nat → Nat) (k : List Nat) : List Nat := expV gt k streamL 28
def keyM (gt : Nat → Nat) (k : List Nat) : List Nat := expV gt k sumL 32
def okT (ts : List (List Nat)) : Prop := ∀ t ∈ ts, t.length ≤ 65535
instance (ts : List (List Nat)) : Decidable (okT ts) := by unfold okT; infer_instance
def tagV (gt : Nat → Nat) (sum hid : List Nat) (ts : List (List Nat)) : List Nat := (macV gt sum [encT ts ++ beL 4 ts.length, hid]).take 16
def tagR (gt : Nat → Nat) (sum hid : List Nat) (ts : List (List Nat)) : List Nat × Int := if okT ts then (tagV gt sum hid ts, 0) else ([], 4)
theorem textV_ok {m : List Nat} {ts : List (List Nat)} (h : okT ts) : textV m ts = (m ++ encT ts, 0) := by unfold textV; exact if_pos h
theorem textV_no {m : List Nat} {ts : List (List Nat)} (h : ¬ okT ts) : textV m ts = ([], 4) := by unfold textV; exact if_neg h
theorem tagV_len (gt : Nat → Nat) (sum hid : List Nat) (ts : List (List Nat)) : (tagV gt sum hid ts).length = 16 := by unfold tagV; rw [List.length_take, macV_len]; rfl
theorem tagV_byte (gt : Nat → Nat) (sum hid : List Nat) (ts : List (List Nat)) : ∀ x ∈ tagV gt sum hid ts, x < 256 := fun x hx => macV_byte _ _ _ x (List.mem_of_mem_take hx)
attribute [local irreducible] macV expV
section
variable {P : Program} {o : Oper} {a : Act} {w ws : World} {Q : Exit → Act → World → Prop} {N d : Nat} {l : List (Nat × Value)} {v : Value} {S : Nat → Prop} {K : Act → World → Prop} {x y : Operand}
  {X G : List Nat} {w0 : World} {L L' : List Res} {R : List (World → Prop)}
theorem heap_freeze {b e n : Nat} {C : Array Value} (h : w.heap[b]? = some (.cells C e (0, 0))) : (w.freeze ⟨b, n, none⟩ 1).heap[b]? = some (.cells C e (n, n + 1)) ∧ Frm [b] w (w.freeze ⟨b, n, none⟩ 1) := by
  unfold World.freeze
  rw [if_neg (by decide)]
  refine ⟨?_, rfl, rfl, rfl, by simp, fun k _ hn => ?_⟩
  · show (w.heap.modify b _)[b]? = _
    rw [Array.getElem?_modify, if_pos rfl, h]
    rfl
  · show (w.heap.modify b _)[k]? = _
    rw [Array.getElem?_modify, if_neg (fun e => hn (by rw [← e]; exact List.mem_singleton.2 rfl))]
/-- A constant's bytes: read from now on. -/
theorem eff_const {t e b n c : Nat} {cs : List Chunk} (i : Nat) (E : Env a N l) (H : Sep X [] w0 w L R) (ho : o.op = .convert t t x) (hx : ev l x = some (.slice (some ⟨b, 0, none⟩) n c)) (ht : P.underlying t = some (.slice e)) (he : P.underlying e = some (.int .u8)) (hi : L[i]? = some (.blk b (ca cs) e))
    (hL : L.eraseIdx i = L') (h : ∀ w', Sep X [] w0 w' L' (AtC ⟨b, 0, none⟩ cs :: R) → Frm [b] w w' → K (a.put o.dst (.slice (some ⟨b, 0, none⟩) n c)) w') : o.wp P a w K Q := by
  subst hL
  have hb : w.heap[b]? = some (.cells (ca cs) e (0, 0)) := H.holds _ (List.mem_of_getElem? hi)
  have hsh : w.shape? b = some (e, (ca cs).size) := by unfold World.shape?; rw [hb]
  obtain ⟨h1, h2⟩ := heap_freeze (n := (ca cs).size) hb
  have hr : (convert t t (.slice (some ⟨b, 0, none⟩) n c)).run P w = .ok (.slice (some ⟨b, 0, none⟩) n c) (w.freeze ⟨b, (ca cs).size, none⟩ 1) := by
    simp [convert, run_underlying ht, run_underlying he, markStringish, hsh]
  unfold Oper.wp execOp
  simp only [ho, E.ev hx, Sem.run_bind, hr, Result.andThen_ok, Sem.run_pure]
  have H1 := (H.at_ i _ hi).turn (q' := .obj b (.cells (ca cs) e ((ca cs).size, (ca cs).size + 1))) h2 h1 (by simp [Res.keys]) (by simp [Res.keys])
  have hf := H1.freezeX (Sep.new_x H1)
  exact h _ (hf.pop.know ((hf.facts _ (List.mem_cons_self ..)).imp fun w2 hw => at_blk (t := e) hw)) h2
theorem pk_subPh {t N sz hi : Nat} {ad : Addr} {j : Int} (ho : o.op = .slice t x none (some y) none) (ht : arK P t = some (N, sz)) (hx : ev l x = some (.pointer (some ad))) (hy : ev l y = some (.int .i64 j)) (hj : j = (hi : Int)) (hh : hi ≤ N) : PK P S ws l o (.slice (some ad) hi N) := fun w' _ a _ E => by
  obtain ⟨e, h1, h2⟩ := arK_of ht
  unfold execOp
  rw [ho]
  simp only [E.ev hx, E.ev hy, Instr.sliceAt, Instr.sliceBounds, Instr.sureAddr, Option.map_none, Option.map_some, Sem.run_bind, Sem.run_pure, Result.andThen_ok, run_underlying h1, run_sizeOf_of h2, run_bound hj hh, Nat.zero_mul, addr_add_zero, ite_self, Nat.sub_zero]
end
section
variable {X : List Nat} {w0 : World} {A : Option Addr} {c : Nat} {k : List Nat}
theorem num4_any (hX : ∀ i ∈ X, i < w0.heap.size) (h : St (TxF A c k) w0 X) (hk : k.length ≤ 100000000000) {n q : Nat} (hn : n < 4294967296) (hq : AtC ⟨q, 0, none⟩ [.one (.int .u64 ((n : Nat) : Int))] w0) :
    Calls Tryd.prog 28 #[.slice A k.length c, .int .i64 4, .slice (some ⟨q, 0, none⟩) 1 1] w0 fun e w' => ∃ A' c', e = .returned (.tuple #[.slice A' (k ++ beL 4 n).length c', .int .i64 0]) ∧ Sep X [] w0 w' [] [TxF A' c' (k ++ beL 4 n)] := by
  have hc : w0.cell? ⟨q, 0, none⟩ = some (.int .u64 ((n : Nat) : Int)) := by have := hq 0 _ rfl; rwa [addr_add_zero] at this
  refine (Num_txt A k.length c k hk 4 n (by omega) (by omega) (by omega) (by show n < 256 ^ 4; omega) q w0 (World.block_lt_of_cell? _ _ hc) hc h.now.txt).mono ?_
  rintro e w2 ⟨v, rfl, ho, hb⟩
  obtain ⟨A', c', rfl, h2⟩ := own_sep (X := X) hX ho hb
  exact ⟨A', c', rfl, h2.rowTx (Sep.new_x h2) (by rw [List.length_append]; simp [beL, beK]; omega) (fun x hx => by rcases List.mem_append.1 hx with h1 | h1; exact h.now.byt x h1; exact beL_lt _ _ x h1)⟩
theorem arr_ca (n : Nat) (f : Nat → Nat) : arr .u8 n (fun i => ((f i : Nat) : Int)) = ca [.row n fun i => bv (f i)] := by simp [arr, arrV, ca, cl, Chunk.cells, bv]
/-- A text, by a key's stream. -/
def strV (x : List Nat) (l : List Nat) : List Nat := ctrL (fun i => ((x.getD i 0 : Nat) : Int)) (fun i => (((x.drop 16).getD i 0 : Nat) : Int)) 0 l
theorem getD_byte {x : List Nat} (hx : ∀ z ∈ x, z < 256) (i : Nat) : x.getD i 0 < 256 := by
  rw [List.getD_eq_getElem?_getD]
  cases h : x[i]? with
  | none => simp
  | some z => exact hx z (List.mem_of_getElem? h)
theorem ctr_own (hX : ∀ i ∈ X, i < w0.heap.size) (h : St (TxF A c k) w0 X) (hk : k.length ≤ 1048576) {x : List Nat} (hx : ∀ z ∈ x, z < 256) :
    Calls Tryd.prog 19 #[.agg (ca [.row 16 fun i => bv (x.getD i 0)]), .agg (ca [.row 12 fun i => bv ((x.drop 16).getD i 0)]), .int .u32 0, .slice A k.length c] w0 fun e w' => ∃ A' c', e = .returned (.tuple #[.slice A' (strV x k).length c', .int .i64 0]) ∧ Sep X [] w0 w' [.row (.slice A' (strV x k).length c') 5 1 (strV x k).length ((strV x k).map bv)] [] := by
  have hn := h.now
  rw [← arr_ca, ← arr_ca]
  refine (Ctr_yes (fun i => ((x.getD i 0 : Nat) : Int)) (fun i => (((x.drop 16).getD i 0 : Nat) : Int)) (fun i _ => ⟨by omega, by have := getD_byte hx i; omega⟩) (fun i _ => ⟨by omega, by have := getD_byte (x := x.drop 16) (fun z hz => hx z (List.mem_of_mem_drop hz)) i; omega⟩) 0 (by omega) A k.length c k w0 hn.txt hn.byt hk (by omega)).mono ?_
  rintro e w2 ⟨v, rfl, ho, hb⟩
  obtain ⟨A', c', rfl, h2⟩ := own_sep (X := X) hX ho hb
  exact ⟨A', c', rfl, h2⟩
theorem strV_len (x l : List Nat) : (strV x l).length = l.length := ctrL_len _ _ _ _
theorem strV_byte (x l : List Nat) : ∀ z ∈ strV x l, z < 256 := ctrL_lt _ _ _ _
end
theorem row_take {n m : Nat} {k : List Nat} (hk : k.length = n) (hm : m ≤ n) : cl [.row m fun i => bv (k.getD i 0)] = (k.take m).map bv := by
  simp only [cl, Chunk.cells, List.append_nil]
  apply List.ext_getElem?
  intro i
  by_cases hi : i < m
  · simp [hi, List.getD_eq_getElem?_getD, List.getElem?_eq_getElem (show i < k.length by omega)]
  · rw [List.getElem?_eq_none (by simp; omega), List.getElem?_eq_none (by simp; omega)]
set_option maxRecDepth 100000 in
set_option maxHeartbeats 1000000 in
theorem keysOf_any {k : List Nat} {gt : Nat → Nat} (hk32 : k.length = 32) (hkb : ∀ x ∈ k, x < 256) {X : List Nat} {w0 : World} (hX : ∀ k ∈ X, k < w0.heap.size) (hG : St (AtC ⟨2, 0, none⟩ [.row 64 fun i => u32 (gt i)]) w0 X) :
    Calls Tryd.prog 18 #[.agg (ca [.key k])] w0 fun e w' => ∃ A' c', e = .returned (.tuple #[.agg (ca [.row 16 (fun i => bv ((keyS gt k).getD i 0)), .row 12 (fun i => bv (((keyS gt k).drop 16).getD i 0)), .one (.slice A' (keyM gt k).length c')]), .int .i64 0]) ∧ Sep X [] w0 w' [] [TxF A' c' (keyM gt k)] := by
  have hlS : (keyS gt k).length = 28 := expV_len _ _ _ _
  have hlM : (keyM gt k).length = 32 := expV_len _ _ _ _
  have hlD : ((keyS gt k).drop 16).length = 12 := by rw [List.length_drop, hlS]
  refine calls_env Tryd.ntmps18 Tryd.func18 rfl rfl fun a E => ?_; replace E : Env a _ [(0, _)] := E
  have H : Sep X [] w0 w0 [] [(AtC ⟨2, 0, none⟩ [.row 64 fun i => u32 (gt i)])] := Sep.start hX (List.forall_mem_cons.2 ⟨hG, fun _ h => by cases h⟩)
  refine wp_seq_k fun K0 hK0 => ?_; refine S_region ?_; refine S_eff E rfl (fun K hK => ?_); refine eff_box E H rfl rfl rfl ?_; clear H; intro b1 w H _; refine hK _ _ ?_; clear hK K; refine S_put E rfl rfl ?_; clear E a; intro a E; refine S_eff E rfl (fun K hK => ?_); refine eff_alloc (z := [.row 16 fun _ => .int .u8 0, .row 12 fun _ => .int .u8 0, .one (.slice none 0 0)]) H rfl (by kernel_rfl) ?_; clear H; intro b2 w H _; refine hK _ _ ?_; clear hK K; refine S_put E rfl rfl ?_; clear E a; intro a E; refine S_val E (pk_assign rfl rfl) rfl rfl rfl ?_; clear E a; intro a E; refine hK0 _ _ ?_; refine wp_seq_k fun K1 hK1 => ?_; refine S_region ?_; refine S_val E (pk_load (n := 32) H 1 rfl rfl rfl trivial rfl (by kernel_rfl)) rfl rfl rfl ?_; clear E a; intro a E; refine S_eff E rfl (fun K hK => ?_)
  refine eff_bslice (sz := 1) (z := [.one (.int .u8 0), .one (.int .u8 0), .one (.int .u8 0), .one (.int .u8 0), .one (.int .u8 0), .one (.int .u8 0)]) E H rfl Tryd.underlying24 (by kernel_rfl) (by decide) (by kernel_rfl) ⟨_, [.one _], 0, _, rfl, rfl, rfl, rfl, ⟨_, [.one _], 1, _, rfl, rfl, rfl, rfl, ⟨_, [.one _], 2, _, rfl, rfl, rfl, rfl, ⟨_, [.one _], 3, _, rfl, rfl, rfl, rfl, ⟨_, [.one _], 4, _, rfl, rfl, rfl, rfl, ⟨_, [.one _], 5, _, rfl, rfl, rfl, rfl, rfl⟩⟩⟩⟩⟩⟩ ?_; clear H; intro b7 w H _; refine hK _ _ ?_; clear hK K; refine S_put E rfl rfl ?_; clear E a; intro a E; refine S_eff E rfl (fun K hK => ?_); refine eff_const 0 E H rfl rfl Tryd.underlying24 Tryd.underlying5 rfl rfl ?_; clear H; intro w H F; replace H : Sep _ _ _ _ [_, _] [_, _] := H; refine hK _ _ ?_; clear hK K; refine S_put E rfl rfl ?_; clear E a; intro a E; clear F
  refine S_eff E rfl (fun K hK => ?_); refine eff_call E rfl rfl rfl (by kernel_rfl) ?_
  have hinf := txF_at (k := streamL) (c := 6) (H.fact 0 rfl) rfl (by show 6 ≤ 6; decide) (by show 6 ≤ _; decide) (by decide)
  refine (Expand_any (n := 28) (k := k) (info := streamL) hk32 hkb (by omega) (by show 6 ≤ 1048576; decide) H.xk hinf (H.fact 1 rfl)).mono ?_; rintro e w ⟨A9, c9, rfl, H1⟩
  replace H := H.call H1
  clear H1; replace H : Sep _ _ _ _ [_, _] [_, _, _] := H; refine hK _ _ ?_; clear hK K; refine S_put E rfl rfl ?_; clear E a; intro a E; clear hinf; refine S_val E (pk_move rfl rfl) rfl rfl rfl ?_; clear E a; intro a E; refine S_val E (pk_extract rfl rfl rfl) rfl rfl rfl ?_; clear E a; intro a E; refine S_val E (pk_extract rfl rfl rfl) rfl rfl rfl ?_; clear E a; intro a E; refine S_val E (pk_assign rfl rfl) rfl rfl rfl ?_; clear E a; intro a E; refine S_val E (pk_assign rfl rfl) rfl rfl rfl ?_; clear E a; intro a E; refine hK1 _ _ ?_; refine wp_seq_k fun K2 hK2 => ?_; refine wp_seq_k fun K3 hK3 => ?_; refine S_region ?_; refine S_val E (pk_move rfl rfl) rfl rfl rfl ?_; clear E a; intro a E; refine S_val E (pk_int (v := .bool false) rfl rfl rfl (congrArg (fun b => some (Value.bool b)) (rfl))) rfl rfl rfl ?_; clear E a; intro a E; refine hK3 _ _ ?_; refine S_else E rfl ?_
  refine wp_skip ?_; refine hK2 _ _ ?_; refine wp_seq_k fun K4 hK4 => ?_
  rw [show Value.slice A9 28 c9 = .slice A9 (keyS gt k).length c9 from by rw [hlS]] at E
  replace H : Sep _ _ _ _ [_, _] [TxF A9 c9 (keyS gt k), _, _] := H; refine S_region ?_; refine S_val E (pk_fieldAddr (off := 0) rfl rfl (by kernel_rfl)) rfl rfl rfl ?_; clear E a; intro a E; refine S_val E (pk_subP (N := 16) (sz := 1) rfl (by kernel_rfl) rfl) rfl rfl rfl ?_; clear E a; intro a E; refine S_val E (pk_move rfl rfl) rfl rfl rfl ?_; clear E a; intro a E; refine S_eff E rfl (fun K hK => ?_); refine eff_copyT (k := keyS gt k) (m := 16) (new := [.row 16 fun i => bv ((keyS gt k).getD i 0)]) 0 E H (H.fact 0 rfl) rfl rfl rfl rfl (by kernel_rfl) rfl (by rw [hlS]; rfl) (row_take hlS (by omega)) rfl rfl ?_; clear H; intro w H F; replace H : Sep _ _ _ _ [_, _] _ := H; refine hK _ _ ?_; clear hK K; refine S_put E rfl rfl ?_; clear E a; intro a E; clear F; refine hK4 _ _ ?_; refine wp_seq_k fun K5 hK5 => ?_
  obtain ⟨A23, c23, h23, hT23⟩ := txF_drop (lo := 16) (H.fact 0 rfl) (by omega)
  replace H := H.know hT23
  replace H : Sep _ _ _ _ [_, _] [_, _, _, _] := H; refine C_region E H [] 4 [(0, false), (1, false), (2, false), (3, false)] (by kernel_rfl) (by kernel_rfl) (fun w HS => ?_)
  (simp only [canOps, List.getElem?_cons_zero, List.getElem?_cons_succ, List.drop_succ_cons, List.drop_zero])
  clear H
  have H := HS
  have hsz : w.heap.size ≤ w.heap.size := Nat.le_refl _
  have HK : CanB.Keep (fun k => k < w.heap.size ∧ k ∉ []) w w := CanB.Keep.refl _ _
  refine C_val E HK (pk_fieldAddr (off := 16) rfl rfl (by kernel_rfl)) rfl rfl rfl (fun _ _ _ _ h => h) ?_; clear E a; intro a E; refine C_val E HK (pk_subP (N := 12) (sz := 1) rfl (by kernel_rfl) rfl) rfl rfl rfl (fun _ _ _ _ h => h) ?_; clear E a; intro a E; refine C_val E HK (pk_move rfl rfl) rfl rfl rfl (fun _ _ _ _ h => h) ?_; clear E a; intro a E; refine C_val E HK (pk_sub_lo (sz := 1) (lo := 16) rfl (by kernel_rfl) rfl rfl rfl (by omega)) rfl rfl rfl (fun _ _ _ _ h => h) ?_; clear E a; intro a E
  rw [h23] at E
  refine CanB.wpCan_nil ?_
  try (simp only [List.take_succ_cons, List.take_zero, List.drop_succ_cons, List.drop_zero])
  clear HS HK hsz; refine S_eff E rfl (fun K hK => ?_); refine eff_copyT (k := (keyS gt k).drop 16) (m := 12) (new := [.row 12 fun i => bv (((keyS gt k).drop 16).getD i 0)]) 0 E H (H.fact 0 rfl) rfl rfl rfl rfl (by kernel_rfl) rfl (by rw [hlD]; rfl) (row_take hlD (by omega)) rfl rfl ?_; clear H; intro w H F; replace H : Sep _ _ _ _ [_, _] _ := H; refine hK _ _ ?_; clear hK K; refine S_put E rfl rfl ?_; clear E a; intro a E; clear F; refine hK5 _ _ ?_; refine wp_seq_k fun K6 hK6 => ?_; refine S_region ?_; refine S_val E (pk_load (n := 32) H 1 rfl rfl rfl trivial rfl (by kernel_rfl)) rfl rfl rfl ?_; clear E a; intro a E; refine S_eff E rfl (fun K hK => ?_)
  refine eff_bslice (sz := 1) (z := [.one (.int .u8 0), .one (.int .u8 0), .one (.int .u8 0)]) E H rfl Tryd.underlying24 (by kernel_rfl) (by decide) (by kernel_rfl) ⟨_, [.one _], 0, _, rfl, rfl, rfl, rfl, ⟨_, [.one _], 1, _, rfl, rfl, rfl, rfl, ⟨_, [.one _], 2, _, rfl, rfl, rfl, rfl, rfl⟩⟩⟩ ?_; clear H; intro b27 w H _; refine hK _ _ ?_; clear hK K; refine S_put E rfl rfl ?_; clear E a; intro a E; refine S_eff E rfl (fun K hK => ?_); refine eff_const 0 E H rfl rfl Tryd.underlying24 Tryd.underlying5 rfl rfl ?_; clear H; intro w H F; replace H : Sep _ _ _ _ [_, _] [_, _, _, _, _] := H; refine hK _ _ ?_; clear hK K; refine S_put E rfl rfl ?_; clear E a; intro a E; clear F; refine S_eff E rfl (fun K hK => ?_); refine eff_call E rfl rfl rfl (by kernel_rfl) ?_
  have hinf := txF_at (k := sumL) (c := 3) (H.fact 0 rfl) rfl (by show 3 ≤ 3; decide) (by show 3 ≤ _; decide) (by decide)
  refine (Expand_any (n := 32) (k := k) (info := sumL) hk32 hkb (by omega) (by show 3 ≤ 1048576; decide) H.xk hinf (H.fact 4 rfl)).mono ?_; rintro e w ⟨A29, c29, rfl, H1⟩
  replace H := H.call H1
  clear H1; replace H : Sep _ _ _ _ [_, _] [_, _, _, _, _, _] := H; refine hK _ _ ?_; clear hK K; refine S_put E rfl rfl ?_; clear E a; intro a E; clear hinf; refine S_val E (pk_move rfl rfl) rfl rfl rfl ?_; clear E a; intro a E; refine S_val E (pk_extract rfl rfl rfl) rfl rfl rfl ?_; clear E a; intro a E; refine S_val E (pk_extract rfl rfl rfl) rfl rfl rfl ?_; clear E a; intro a E; refine S_val E (pk_fieldAddr (off := 28) rfl rfl (by kernel_rfl)) rfl rfl rfl ?_; clear E a; intro a E; refine S_eff E rfl (fun K hK => ?_); refine eff_store 0 (new := [.one _]) E H rfl rfl rfl rfl rfl (by repeat (first | exact trivial | refine ⟨rfl, ?_⟩ | refine ⟨fun _ _ => rfl, ?_⟩)) rfl (by kernel_rfl) rfl ?_; clear H; intro w H _; replace H : Sep _ _ _ _ [_, _] _ := H; refine hK _ _ ?_; clear hK K; refine S_put0 rfl ?_; refine S_val E (pk_assign rfl rfl) rfl rfl rfl ?_; clear E a; intro a E
  rw [show Value.slice A29 32 c29 = .slice A29 (keyM gt k).length c29 from by rw [hlM]] at E H
  replace H : Sep _ _ _ _ [_, _] [TxF A29 c29 (keyM gt k), _, _, _, _, _] := H; refine hK6 _ _ ?_; refine wp_seq_k fun K7 hK7 => ?_; refine S_region ?_; refine S_val E (pk_load (n := 29) H 0 rfl rfl rfl trivial rfl (by kernel_rfl)) rfl rfl rfl ?_; clear E a; intro a E; refine S_val E (pk_move rfl rfl) rfl rfl rfl ?_; clear E a; intro a E; refine S_eff E rfl (fun K hK => ?_); refine eff_store 0 E H rfl rfl rfl rfl rfl (by repeat (first | exact trivial | refine ⟨rfl, ?_⟩ | refine ⟨fun _ _ => rfl, ?_⟩)) rfl (by kernel_rfl) rfl ?_; clear H; intro w H _; replace H : Sep _ _ _ _ [_, _] _ := H; refine hK _ _ ?_; clear hK K; refine S_put0 rfl ?_; refine S_val E (pk_assign rfl rfl) rfl rfl rfl ?_; clear E a; intro a E; refine hK7 _ _ ?_; refine wp_ret ?_
  repeat (first | refine then_ret ?_ | refine block_ret ?_)
  refine ret2 rfl E (by exact resC (n := 29) H 0 rfl rfl rfl (by kernel_rfl)) (resT rfl) ?_
  exact ⟨A29, c29, rfl, (H.refacts (List.forall_mem_cons.2 ⟨H.fact 0 rfl, List.forall_mem_nil _⟩)).popL.popL⟩
set_option maxRecDepth 100000 in
set_option maxHeartbeats 1000000 in
theorem tag_any {SA HA TA : Option Addr} {sc hc tc : Nat} {sum hid : List Nat} {ts : List (List Nat)} {tm : Nat → TextT.μ} {gt : Nat → Nat} {f1 f2 : Nat → Nat} (hs32 : sum.length = 32) (hhl : hid.length ≤ 100000000) (hts : ts.length ≤ 1000) {X : List Nat} {w0 : World} (hX : ∀ k ∈ X, k < w0.heap.size) (hS : St (TxF SA sc sum) w0 X) (hH : St (TxF HA hc hid) w0 X) (hL : St (LiF TextT TA tc ts tm) w0 X) (hG : St (AtC ⟨2, 0, none⟩ [.row 64 fun i => u32 (gt i)]) w0 X) :
    Calls Tryd.prog 20 #[.agg (ca [.row 16 (fun i => bv (f1 i)), .row 12 (fun i => bv (f2 i)), .one (.slice SA sum.length sc)]), .slice HA hid.length hc, .slice TA ts.length tc] w0 fun e w' => ∃ A' c', e = .returned (.tuple #[.slice A' (tagR gt sum hid ts).1.length c', .int .i64 (tagR gt sum hid ts).2]) ∧ Sep X [] w0 w' [] [TxF A' c' (tagR gt sum hid ts).1] := by
  refine calls_env Tryd.ntmps20 Tryd.func20 rfl rfl fun a E => ?_; replace E : Env a _ [(0, _), (1, _), (2, _)] := E
  have H : Sep X [] w0 w0 [] [(TxF SA sc sum), (TxF HA hc hid), (LiF TextT TA tc ts tm), (AtC ⟨2, 0, none⟩ [.row 64 fun i => u32 (gt i)])] := Sep.start hX (List.forall_mem_cons.2 ⟨hS, List.forall_mem_cons.2 ⟨hH, List.forall_mem_cons.2 ⟨hL, List.forall_mem_cons.2 ⟨hG, fun _ h => by cases h⟩⟩⟩⟩)
  refine wp_seq_k fun K0 hK0 => ?_; refine S_region ?_; refine S_eff E rfl (fun K hK => ?_); refine eff_box E H rfl rfl rfl ?_; clear H; intro b3 w H _; refine hK _ _ ?_; clear hK K; refine S_put E rfl rfl ?_; clear E a; intro a E; refine S_val E (pk_assign rfl rfl) rfl rfl rfl ?_; clear E a; intro a E; refine S_val E (pk_assign rfl rfl) rfl rfl rfl ?_; clear E a; intro a E; refine hK0 _ _ ?_; refine wp_seq_k fun K1 hK1 => ?_; refine S_region ?_; refine S_val E (pk_move rfl rfl) rfl rfl rfl ?_; clear E a; intro a E; refine S_eff E rfl (fun K hK => ?_); refine eff_call E rfl rfl rfl (by kernel_rfl) ?_; refine (Text_any (m0 := []) (ts := ts) (by show 0 ≤ 100000000; decide) (by omega) H.xk txF_nil (H.fact 2 rfl)).mono ?_; rintro e w ⟨A13, c13, rfl, H1⟩
  replace H := H.call H1
  clear H1; replace H : Sep _ _ _ _ [_] [_, _, _, _, _] := H; refine hK _ _ ?_; clear hK K; refine S_put E rfl rfl ?_; clear E a; intro a E; refine S_val E (pk_move rfl rfl) rfl rfl rfl ?_; clear E a; intro a E; refine S_val E (pk_extract rfl rfl rfl) rfl rfl rfl ?_; clear E a; intro a E; refine S_val E (pk_extract rfl rfl rfl) rfl rfl rfl ?_; clear E a; intro a E; refine S_val E (pk_assign rfl rfl) rfl rfl rfl ?_; clear E a; intro a E; refine S_val E (pk_assign rfl rfl) rfl rfl rfl ?_; clear E a; intro a E; refine hK1 _ _ ?_; refine wp_seq_k fun K2 hK2 => ?_; refine wp_seq_k fun K3 hK3 => ?_; refine S_region ?_; refine S_val E (pk_move rfl rfl) rfl rfl rfl ?_; clear E a; intro a E; refine S_val E (pk_int rfl rfl rfl rfl) rfl rfl rfl ?_; clear E a; intro a E; refine hK3 _ _ ?_; refine env_split (d := 17) E rfl ?_ ?_
  · skip
    clear E; intro c17 E
    have hok : ¬ okT ts := fun h => by
      rw [textV_ok h] at c17
      cases c17
    have htv : textV [] ts = ([], 4) := textV_no hok
    have htr : tagR gt sum hid ts = ([], 4) := by unfold tagR; rw [if_neg hok]
    refine S_then E rfl ?_; refine wp_seq_k fun K4 hK4 => ?_; refine S_region ?_; refine S_val E (pk_move rfl rfl) rfl rfl rfl ?_; clear E a; intro a E; refine S_val E (pk_assign rfl rfl) rfl rfl rfl ?_; clear E a; intro a E; refine S_val E (pk_assign rfl rfl) rfl rfl rfl ?_; clear E a; intro a E; refine hK4 _ _ ?_; refine wp_ret ?_
    repeat (first | refine then_ret ?_ | refine block_ret ?_)
    refine ret2 rfl E (resT rfl) (resT rfl) ?_
    rw [htr]
    exact ⟨none, 0, by rw [htv]; rfl, ((H.know txF_nil).refacts (List.forall_mem_cons.2 ⟨txF_nil, List.forall_mem_nil _⟩)).popL⟩
  · skip
    clear E; intro c17 E
    have hok : okT ts := by
      refine Classical.byContradiction fun h => ?_
      rw [textV_no h] at c17
      cases c17
    have htv : textV [] ts = (encT ts, 0) := textV_ok hok
    have htr : tagR gt sum hid ts = (tagV gt sum hid ts, 0) := by unfold tagR; rw [if_pos hok]
    rw [htv] at E H
    simp only at E H
    have hps : ∀ p ∈ [encT ts ++ beL 4 ts.length, hid], p.length ≤ 100000000 := fun p h => by
      simp only [List.mem_cons, List.not_mem_nil, or_false] at h
      rcases h with rfl | rfl
      · rw [List.length_append]; have := encT_len ts hok; have h4 : (beL 4 ts.length).length = 4 := by simp [beL, beK]
        omega
      · exact hhl
    refine S_else E rfl ?_; refine wp_skip ?_; refine hK2 _ _ ?_; refine wp_seq_k fun K5 hK5 => ?_; refine wp_seq_k fun K6 hK6 => ?_; refine S_region ?_; refine S_val E (pk_move rfl rfl) rfl rfl rfl ?_; clear E a; intro a E; refine S_val E (pk_move rfl rfl) rfl rfl rfl ?_; clear E a; intro a E; refine S_val E (pk_len rfl rfl (by kernel_rfl)) rfl rfl rfl ?_; clear E a; intro a E; refine S_val E (pk_convw rfl rfl (by kernel_rfl) (by kernel_rfl) (wU64 (by omega) (by omega))) rfl rfl rfl ?_; clear E a; intro a E; refine S_eff E rfl (fun K hK => ?_); refine eff_bslice (sz := 1) (z := [.one (.int .u64 0)]) E H rfl Tryd.underlying83 (by kernel_rfl) (by decide) (by kernel_rfl) ⟨_, [.one _], 0, _, rfl, rfl, rfl, rfl, rfl⟩ ?_; clear H; intro b24 w H _; refine hK _ _ ?_; clear hK K; refine S_put E rfl rfl ?_; clear E a; intro a E; refine S_eff E rfl (fun K hK => ?_)
    refine eff_call E rfl rfl rfl (by kernel_rfl) ?_; refine (num4_any (k := encT ts) (n := ts.length) (q := b24) H.xk (H.fact 0 rfl) (by have := encT_len ts hok; omega) (by omega) (at_blk (t := 55) (fr := (0, 0)) (H.holds (.blk b24 (ca [.one (.int .u64 ((ts.length : Nat) : Int))]) 55) (by simp)))).mono ?_; rintro e w ⟨A25, c25, rfl, H1⟩
    replace H := H.call H1
    clear H1; replace H : Sep _ _ _ _ [_, _] [_, _, _, _, _, _] := H; refine hK _ _ ?_; clear hK K; refine S_put E rfl rfl ?_; clear E a; intro a E; refine S_val E (pk_move rfl rfl) rfl rfl rfl ?_; clear E a; intro a E; refine S_val E (pk_extract rfl rfl rfl) rfl rfl rfl ?_; clear E a; intro a E; refine S_val E (pk_extract rfl rfl rfl) rfl rfl rfl ?_; clear E a; intro a E; refine S_val E (pk_assign rfl rfl) rfl rfl rfl ?_; clear E a; intro a E; refine S_val E (pk_assign rfl rfl) rfl rfl rfl ?_; clear E a; intro a E; refine hK6 _ _ ?_; refine wp_seq_k fun K7 hK7 => ?_; refine S_region ?_; refine S_val E (pk_move rfl rfl) rfl rfl rfl ?_; clear E a; intro a E; refine S_val E (pk_int (v := .bool false) rfl rfl rfl (congrArg (fun b => some (Value.bool b)) (rfl))) rfl rfl rfl ?_; clear E a; intro a E; refine hK7 _ _ ?_; refine S_else E rfl ?_; refine wp_skip ?_; refine hK5 _ _ ?_
    refine wp_seq_k fun K8 hK8 => ?_; refine S_region ?_; refine S_val E (pk_fieldAddr (off := 28) rfl rfl (by kernel_rfl)) rfl rfl rfl ?_; clear E a; intro a E; refine S_val E (pk_load1 H 1 rfl rfl rfl trivial rfl (by kernel_rfl)) rfl rfl rfl ?_; clear E a; intro a E; refine S_val E (pk_move rfl rfl) rfl rfl rfl ?_; clear E a; intro a E; refine S_val E (pk_move rfl rfl) rfl rfl rfl ?_; clear E a; intro a E; refine S_eff E rfl (fun K hK => ?_); refine eff_bslice (sz := 1) (z := [.one (.slice none 0 0), .one (.slice none 0 0)]) E H rfl Tryd.underlying30 (by kernel_rfl) (by decide) (by kernel_rfl) ⟨_, [.one _], 0, _, rfl, rfl, rfl, rfl, ⟨_, [.one _], 1, _, rfl, rfl, rfl, rfl, rfl⟩⟩ ?_; clear H; intro b35 w H _; refine hK _ _ ?_; clear hK K; refine S_put E rfl rfl ?_; clear E a; intro a E; refine S_eff E rfl (fun K hK => ?_); refine eff_call E rfl rfl rfl (by kernel_rfl) ?_
    have HB := H.lend 0 rfl
    have hli := liF_at (T := TextT) (its := [((encT ts ++ beL 4 ts.length, (A25, c25)) : List Nat × TextT.μ), (hid, (HA, hc))]) (c := 2) (xs := [encT ts ++ beL 4 ts.length, hid]) (HB.fact 0 rfl) text2 (nest_snoc (its := [_]) (q := ((hid, (HA, hc)) : List Nat × TextT.μ)) (nest_snoc (its := []) (q := ((encT ts ++ beL 4 ts.length, (A25, c25)) : List Nat × TextT.μ)) nest_nil (HB.fact 1 rfl)) (HB.fact 4 rfl)) rfl (by show 2 ≤ 2; decide) (by show 2 ≤ _; decide)
    have H2 := HB.refacts (R' := [_, _, _]) (List.forall_mem_cons.2 ⟨HB.fact 3 rfl, List.forall_mem_cons.2 ⟨hli, List.forall_mem_cons.2 ⟨HB.fact 6 rfl, List.forall_mem_nil _⟩⟩⟩)
    clear HB hli; refine (Mac_any (key := sum) (ps := [encT ts ++ beL 4 ts.length, hid]) (by omega) hps (by show 2 ≤ 900000; decide) H2.xk (H2.fact 0 rfl) (H2.fact 1 rfl) (H2.fact 2 rfl)).mono ?_; rintro e w ⟨rfl, H1⟩
    have F := H1.frm
    replace H := H.grow F
    refine hK _ _ ?_; clear hK K; refine S_put E rfl rfl ?_; clear E a; intro a E; clear F; clear H2; refine S_eff E rfl (fun K hK => ?_); refine eff_alloc (z := [.key []]) H rfl (by kernel_rfl) ?_; clear H; intro b10 w H _; refine hK _ _ ?_; clear hK K; refine S_put E rfl rfl ?_; clear E a; intro a E; refine S_eff E rfl (fun K hK => ?_); refine eff_store 0 E H rfl rfl rfl rfl rfl (by repeat (first | exact trivial | refine ⟨rfl, ?_⟩ | refine ⟨fun _ _ => rfl, ?_⟩)) rfl (by kernel_rfl) rfl ?_; clear H; intro w H _; replace H : Sep _ _ _ _ [_, _, _, _] _ := H; refine hK _ _ ?_; clear hK K; refine S_put0 rfl ?_; refine hK8 _ _ ?_; refine wp_seq_k fun K9 hK9 => ?_; refine S_region ?_; refine S_val E (pk_subPh (N := 32) (sz := 1) (hi := 16) rfl (by kernel_rfl) rfl rfl rfl (by omega)) rfl rfl rfl ?_; clear E a; intro a E; refine S_val E (pk_assign rfl rfl) rfl rfl rfl ?_; clear E a; intro a E
    refine S_val E (pk_assign rfl rfl) rfl rfl rfl ?_; clear E a; intro a E; refine hK9 _ _ ?_; refine wp_ret ?_
    repeat (first | refine then_ret ?_ | refine block_ret ?_)
    refine ret2 rfl E (resT rfl) (resT rfl) ?_
    have hT := txF_take (hi := 16) (txF_at (k := macV gt sum [encT ts ++ beL 4 ts.length, hid]) (c := 32) ((H.lend 0 rfl).fact 0 rfl) (by rw [cl_key, keyL_self (macV_len _ _ _)]) (by rw [macV_len]; omega) (by rw [macV_len]; omega) (macV_byte _ _ _)) (by rw [macV_len]; omega)
    rw [htr]
    exact ⟨some ⟨b10, 0, none⟩, 32, by simp only [tagV_len], (((H.lend 0 rfl).know hT).refacts (List.forall_mem_cons.2 ⟨((H.lend 0 rfl).know hT).fact 0 rfl, List.forall_mem_nil _⟩)).popL.popL.popL⟩
def longV (n : Int) : Int × Int := if n < 0 ∨ 1048576 < n then (0, 1) else (n + 16, 0)
end Go.Proofs.YtlhhfngkfbbckaaDoor
namespace Go.Proofs.YtlhhfngkfbbckaaDoor
set_option linter.unusedSimpArgs false
set_option linter.unusedVariables false
open Go.RowKit

/-- A text sealed with a key, with texts beside; or why not. -/
def sealR (gt : Nat → Nat) (k plain : List Nat) (ts : List (List Nat)) : List Nat × Int :=
  if okT ts then (strV (keyS gt k) plain ++ tagV gt (keyM gt k) (strV (keyS gt k) plain) ts, 0) else ([], 4)
/-- Bytes opened. -/
def openR (gt : Nat → Nat) (k bs : List Nat) (ts : List (List Nat)) : List Nat × Int :=
  if bs.length < 16 then ([], 2) else if 1048592 < bs.length then ([], 4) else if ¬ okT ts then ([], 4) else
  if tagV gt (keyM gt k) (bs.take (bs.length - 16)) ts = bs.drop (bs.length - 16) then (strV (keyS gt k) (bs.take (bs.length - 16)), 0) else ([], 5)
theorem sealR_byte (gt : Nat → Nat) (k plain : List Nat) (ts : List (List Nat)) : ∀ x ∈ (sealR gt k plain ts).1, x < 256 := by
  unfold sealR
  split
  · intro x hx
    rcases List.mem_append.1 hx with h | h
    · exact strV_byte _ _ x h
    · exact tagV_byte _ _ _ _ x h
  · intro x hx; cases hx
theorem sealR_len (gt : Nat → Nat) (k plain : List Nat) (ts : List (List Nat)) : (sealR gt k plain ts).1.length ≤ plain.length + 16 := by
  unfold sealR
  split
  · rw [List.length_append, strV_len, tagV_len]; omega
  · exact Nat.zero_le _
attribute [local irreducible] macV expV strV tagV
set_option maxRecDepth 100000 in
set_option maxHeartbeats 1000000 in
theorem Seal_any {PA TA : Option Addr} {pc tc : Nat} {k plain : List Nat} {ts : List (List Nat)} {tm : Nat → TextT.μ} {gt : Nat → Nat} (hk32 : k.length = 32) (hkb : ∀ x ∈ k, x < 256) (hpl : plain.length ≤ 1048576) (hts : ts.length ≤ 1000) {X : List Nat} {w0 : World} (hX : ∀ k ∈ X, k < w0.heap.size) (hP : St (TxF PA pc plain) w0 X) (hL : St (LiF TextT TA tc ts tm) w0 X) (hG : St (AtC ⟨2, 0, none⟩ [.row 64 fun i => u32 (gt i)]) w0 X) :
    Calls Tryd.prog 9 #[.agg (ca [.key k]), .slice PA plain.length pc, .slice TA ts.length tc] w0 fun e w' => ∃ A' c', e = .returned (.tuple #[.slice A' (sealR gt k plain ts).1.length c', .int .i64 (sealR gt k plain ts).2]) ∧ Sep X [] w0 w' [.row (.slice A' (sealR gt k plain ts).1.length c') 5 1 (sealR gt k plain ts).1.length ((sealR gt k plain ts).1.map bv)] [] := by
  have hlM : (keyM gt k).length = 32 := expV_len _ _ _ _
  have hSb : ∀ z ∈ keyS gt k, z < 256 := expV_byte _ _ _ _
  refine calls_env Tryd.ntmps9 Tryd.func9 rfl rfl fun a E => ?_; replace E : Env a _ [(0, _), (1, _), (2, _)] := E
  have H : Sep X [] w0 w0 [] [(TxF PA pc plain), (LiF TextT TA tc ts tm), (AtC ⟨2, 0, none⟩ [.row 64 fun i => u32 (gt i)])] := Sep.start hX (List.forall_mem_cons.2 ⟨hP, List.forall_mem_cons.2 ⟨hL, List.forall_mem_cons.2 ⟨hG, fun _ h => by cases h⟩⟩⟩)
  refine wp_seq_k fun K0 hK0 => ?_; refine S_region ?_; refine S_eff E rfl (fun K hK => ?_); refine eff_box E H rfl rfl rfl ?_; clear H; intro b3 w H _; refine hK _ _ ?_; clear hK K; refine S_put E rfl rfl ?_; clear E a; intro a E; refine S_val E (pk_assign rfl rfl) rfl rfl rfl ?_; clear E a; intro a E; refine S_val E (pk_assign rfl rfl) rfl rfl rfl ?_; clear E a; intro a E; refine hK0 _ _ ?_; refine wp_seq_k fun K1 hK1 => ?_; refine S_region ?_; refine S_val E (pk_load (n := 32) H 0 rfl rfl rfl trivial rfl (by kernel_rfl)) rfl rfl rfl ?_; clear E a; intro a E; refine S_eff E rfl (fun K hK => ?_); refine eff_call E rfl rfl rfl (by kernel_rfl) ?_; refine (keysOf_any (k := k) hk32 hkb H.xk (H.fact 2 rfl)).mono ?_; rintro e w ⟨A14, c14, rfl, H1⟩
  replace H := H.call H1
  clear H1; replace H : Sep _ _ _ _ [_] [_, _, _, _] := H; refine hK _ _ ?_; clear hK K; refine S_put E rfl rfl ?_; clear E a; intro a E; refine S_val E (pk_move rfl rfl) rfl rfl rfl ?_; clear E a; intro a E; refine S_val E (pk_extract rfl rfl rfl) rfl rfl rfl ?_; clear E a; intro a E; refine S_val E (pk_extract rfl rfl rfl) rfl rfl rfl ?_; clear E a; intro a E; refine S_eff E rfl (fun K hK => ?_); refine eff_alloc (z := [.row 16 fun _ => .int .u8 0, .row 12 fun _ => .int .u8 0, .one (.slice none 0 0)]) H rfl (by kernel_rfl) ?_; clear H; intro b8 w H _; refine hK _ _ ?_; clear hK K; refine S_put E rfl rfl ?_; clear E a; intro a E; refine S_eff E rfl (fun K hK => ?_); refine eff_store 0 E H rfl rfl rfl rfl rfl (by repeat (first | exact trivial | refine ⟨rfl, ?_⟩ | refine ⟨fun _ _ => rfl, ?_⟩)) rfl (by kernel_rfl) rfl ?_; clear H; intro w H _; replace H : Sep _ _ _ _ [_, _] _ := H
  refine hK _ _ ?_; clear hK K; refine S_put0 rfl ?_; refine S_val E (pk_assign rfl rfl) rfl rfl rfl ?_; clear E a; intro a E; refine hK1 _ _ ?_; refine wp_seq_k fun K2 hK2 => ?_; refine wp_seq_k fun K3 hK3 => ?_; refine S_region ?_; refine S_val E (pk_move rfl rfl) rfl rfl rfl ?_; clear E a; intro a E; refine S_val E (pk_int (v := .bool false) rfl rfl rfl (congrArg (fun b => some (Value.bool b)) (rfl))) rfl rfl rfl ?_; clear E a; intro a E; refine hK3 _ _ ?_; refine S_else E rfl ?_; refine wp_skip ?_; refine hK2 _ _ ?_; refine wp_seq_k fun K4 hK4 => ?_; refine S_region ?_; refine S_val E (pk_fieldAddr (off := 0) rfl rfl (by kernel_rfl)) rfl rfl rfl ?_; clear E a; intro a E; refine S_val E (pk_load (n := 16) H 0 rfl rfl rfl trivial rfl (by kernel_rfl)) rfl rfl rfl ?_; clear E a; intro a E; refine S_val E (pk_fieldAddr (off := 16) rfl rfl (by kernel_rfl)) rfl rfl rfl ?_; clear E a
  intro a E; refine S_val E (pk_load (n := 12) H 0 rfl rfl rfl trivial rfl (by kernel_rfl)) rfl rfl rfl ?_; clear E a; intro a E; refine S_val E (pk_move rfl rfl) rfl rfl rfl ?_; clear E a; intro a E; refine S_eff E rfl (fun K hK => ?_); refine eff_call E rfl rfl rfl (by kernel_rfl) ?_; refine (ctr_own (k := plain) (x := keyS gt k) H.xk (H.fact 1 rfl) hpl hSb).mono ?_; rintro e w ⟨A26, c26, rfl, H1⟩
  replace H := H.call H1
  clear H1; replace H : Sep _ _ _ _ [_, _, _] [_, _, _, _] := H; refine hK _ _ ?_; clear hK K; refine S_put E rfl rfl ?_; clear E a; intro a E; refine S_val E (pk_move rfl rfl) rfl rfl rfl ?_; clear E a; intro a E; refine S_val E (pk_extract rfl rfl rfl) rfl rfl rfl ?_; clear E a; intro a E; refine S_val E (pk_extract rfl rfl rfl) rfl rfl rfl ?_; clear E a; intro a E; refine S_val E (pk_assign rfl rfl) rfl rfl rfl ?_; clear E a; intro a E; refine S_val E (pk_assign rfl rfl) rfl rfl rfl ?_; clear E a; intro a E; refine hK4 _ _ ?_; refine wp_seq_k fun K5 hK5 => ?_; refine wp_seq_k fun K6 hK6 => ?_; refine S_region ?_; refine S_val E (pk_move rfl rfl) rfl rfl rfl ?_; clear E a; intro a E; refine S_val E (pk_int (v := .bool false) rfl rfl rfl (congrArg (fun b => some (Value.bool b)) (rfl))) rfl rfl rfl ?_; clear E a; intro a E; refine hK6 _ _ ?_; refine S_else E rfl ?_; refine wp_skip ?_
  refine hK5 _ _ ?_; refine wp_seq_k fun K7 hK7 => ?_; refine S_region ?_; refine S_val E (pk_load (n := 29) H 1 rfl rfl rfl trivial rfl (by kernel_rfl)) rfl rfl rfl ?_; clear E a; intro a E; refine S_val E (pk_move rfl rfl) rfl rfl rfl ?_; clear E a; intro a E; refine S_val E (pk_move rfl rfl) rfl rfl rfl ?_; clear E a; intro a E; refine S_eff E rfl (fun K hK => ?_); refine eff_call E rfl rfl rfl (by kernel_rfl) ?_
  have HR := H.rowTx (Sep.new_x H) (by rw [strV_len]; omega) (strV_byte _ _)
  refine (tag_any (sum := keyM gt k) (hid := (strV (keyS gt k) plain)) (ts := ts) hlM (by rw [strV_len]; omega) hts HR.xk (HR.fact 1 rfl) (HR.fact 0 rfl) (HR.fact 3 rfl) (HR.fact 4 rfl)).mono ?_; rintro e w ⟨A36, c36, rfl, H1⟩
  have F := H1.frm
  replace H := H.grow F
  refine hK _ _ ?_; clear hK K; refine S_put E rfl rfl ?_; clear E a; intro a E; clear F
  have hT36 := H1.fact 0 rfl
  clear H1 HR; refine S_val E (pk_move rfl rfl) rfl rfl rfl ?_; clear E a; intro a E; refine S_val E (pk_extract rfl rfl rfl) rfl rfl rfl ?_; clear E a; intro a E; refine S_val E (pk_extract rfl rfl rfl) rfl rfl rfl ?_; clear E a; intro a E; refine S_val E (pk_assign rfl rfl) rfl rfl rfl ?_; clear E a; intro a E; refine S_val E (pk_assign rfl rfl) rfl rfl rfl ?_; clear E a; intro a E; refine hK7 _ _ ?_; refine wp_seq_k fun K8 hK8 => ?_; refine wp_seq_k fun K9 hK9 => ?_; refine S_region ?_; refine S_val E (pk_move rfl rfl) rfl rfl rfl ?_; clear E a; intro a E; refine S_val E (pk_int rfl rfl rfl rfl) rfl rfl rfl ?_; clear E a; intro a E; refine hK9 _ _ ?_; refine env_split (d := 40) E rfl ?_ ?_
  · skip
    clear E; intro c40 E
    have hok : ¬ okT ts := fun h => by
      rw [show tagR gt (keyM gt k) (strV (keyS gt k) plain) ts = (tagV gt (keyM gt k) (strV (keyS gt k) plain) ts, 0) from by unfold tagR; rw [if_pos h]] at c40
      cases c40
    have htr : tagR gt (keyM gt k) (strV (keyS gt k) plain) ts = ([], 4) := by unfold tagR; rw [if_neg hok]
    have hsr : sealR gt k plain ts = ([], 4) := by unfold sealR; rw [if_neg hok]
    refine S_then E rfl ?_; refine wp_seq_k fun K10 hK10 => ?_; refine S_region ?_; refine S_val E (pk_move rfl rfl) rfl rfl rfl ?_; clear E a; intro a E; refine S_val E (pk_assign rfl rfl) rfl rfl rfl ?_; clear E a; intro a E; refine S_val E (pk_assign rfl rfl) rfl rfl rfl ?_; clear E a; intro a E; refine hK10 _ _ ?_; refine wp_ret ?_
    repeat (first | refine then_ret ?_ | refine block_ret ?_)
    refine ret2 rfl E (resT rfl) (resT rfl) ?_
    rw [hsr]
    exact ⟨none, 0, by rw [htr]; rfl, (((H.refacts (R' := []) (List.forall_mem_nil _)).popL.popL.popL).rownil _ _)⟩
  · skip
    clear E; intro c40 E
    have hok : okT ts := by
      refine Classical.byContradiction fun h => ?_
      rw [show tagR gt (keyM gt k) (strV (keyS gt k) plain) ts = ([], 4) from by unfold tagR; rw [if_neg h]] at c40
      cases c40
    have htr : tagR gt (keyM gt k) (strV (keyS gt k) plain) ts = (tagV gt (keyM gt k) (strV (keyS gt k) plain) ts, 0) := by unfold tagR; rw [if_pos hok]
    have hsr : sealR gt k plain ts = ((strV (keyS gt k) plain) ++ tagV gt (keyM gt k) (strV (keyS gt k) plain) ts, 0) := by unfold sealR; rw [if_pos hok]
    rw [htr] at E hT36
    simp only at E hT36
    refine S_else E rfl ?_; refine wp_skip ?_; refine hK8 _ _ ?_; refine wp_seq_k fun K11 hK11 => ?_; refine S_region ?_; refine S_val E (pk_move rfl rfl) rfl rfl rfl ?_; clear E a; intro a E; refine S_val E (pk_move rfl rfl) rfl rfl rfl ?_; clear E a; intro a E; refine S_eff E rfl (fun K hK => ?_); refine eff_appT (k := (strV (keyS gt k) plain)) (m := tagV gt (keyM gt k) (strV (keyS gt k) plain) ts) 0 E H hT36 rfl rfl rfl rfl ⟨Tryd.underlying24, by kernel_rfl⟩ (by rw [strV_len, tagV_len]; omega) ?_; clear H; intro A44 c44 w H F; replace H : Sep _ _ _ _ [_, _, _] _ := H; refine hK _ _ ?_; clear hK K; refine S_put E rfl rfl ?_; clear E a; intro a E; clear F; refine S_val E (pk_assign rfl rfl) rfl rfl rfl ?_; clear E a; intro a E; refine S_val E (pk_assign rfl rfl) rfl rfl rfl ?_; clear E a; intro a E; refine hK11 _ _ ?_; refine wp_ret ?_
    repeat (first | refine then_ret ?_ | refine block_ret ?_)
    refine ret2 rfl E (resT rfl) (resT rfl) ?_
    rw [hsr]
    exact ⟨A44, c44, rfl, ((((H.refacts (R' := []) (List.forall_mem_nil _)).perm (L' := [_, _, _]) ((List.Perm.swap _ _ _).trans (List.Perm.cons _ (List.Perm.swap _ _ _)))).popL).popL)⟩
set_option maxRecDepth 100000 in
set_option maxHeartbeats 1000000 in
theorem Open_any {BA TA : Option Addr} {bc tc : Nat} {k bs : List Nat} {ts : List (List Nat)} {tm : Nat → TextT.μ} {gt : Nat → Nat} (hk32 : k.length = 32) (hkb : ∀ x ∈ k, x < 256) (hts : ts.length ≤ 1000) {X : List Nat} {w0 : World} (hX : ∀ k ∈ X, k < w0.heap.size) (hB : St (TxF BA bc bs) w0 X) (hL : St (LiF TextT TA tc ts tm) w0 X) (hG : St (AtC ⟨2, 0, none⟩ [.row 64 fun i => u32 (gt i)]) w0 X) :
    Calls Tryd.prog 13 #[.agg (ca [.key k]), .slice BA bs.length bc, .slice TA ts.length tc] w0 fun e w' => ∃ A' c', e = .returned (.tuple #[.slice A' (openR gt k bs ts).1.length c', .int .i64 (openR gt k bs ts).2]) ∧ Sep X [] w0 w' [] [TxF A' c' (openR gt k bs ts).1] := by
  have hlM : (keyM gt k).length = 32 := expV_len _ _ _ _
  have hSb : ∀ z ∈ keyS gt k, z < 256 := expV_byte _ _ _ _
  have hbl := hB.now.len
  have hbc := hB.now.cap
  refine calls_env Tryd.ntmps13 Tryd.func13 rfl rfl fun a E => ?_; replace E : Env a _ [(0, _), (1, _), (2, _)] := E
  have H : Sep X [] w0 w0 [] [(TxF BA bc bs), (LiF TextT TA tc ts tm), (AtC ⟨2, 0, none⟩ [.row 64 fun i => u32 (gt i)])] := Sep.start hX (List.forall_mem_cons.2 ⟨hB, List.forall_mem_cons.2 ⟨hL, List.forall_mem_cons.2 ⟨hG, fun _ h => by cases h⟩⟩⟩)
  refine wp_seq_k fun K0 hK0 => ?_; refine S_region ?_; refine S_eff E rfl (fun K hK => ?_); refine eff_box E H rfl rfl rfl ?_; clear H; intro b3 w H _; refine hK _ _ ?_; clear hK K; refine S_put E rfl rfl ?_; clear E a; intro a E; refine S_val E (pk_assign rfl rfl) rfl rfl rfl ?_; clear E a; intro a E; refine S_val E (pk_assign rfl rfl) rfl rfl rfl ?_; clear E a; intro a E; refine hK0 _ _ ?_; refine wp_seq_k fun K1 hK1 => ?_; refine S_region ?_; refine S_val E (pk_move rfl rfl) rfl rfl rfl ?_; clear E a; intro a E; refine S_val E (pk_len rfl rfl (by kernel_rfl)) rfl rfl rfl ?_; clear E a; intro a E; refine S_val E (pk_intw rfl rfl rfl rfl (wI64 (by omega) (by omega))) rfl rfl rfl ?_; clear E a; intro a E; refine S_val E (pk_assign rfl rfl) rfl rfl rfl ?_; clear E a; intro a E; refine hK1 _ _ ?_; refine wp_seq_k fun K2 hK2 => ?_; refine wp_block ?_; refine wp_seq_k fun K3 hK3 => ?_
  refine S_region ?_; refine S_val E (pk_move rfl rfl) rfl rfl rfl ?_; clear E a; intro a E; refine S_val E (pk_int rfl rfl rfl rfl) rfl rfl rfl ?_; clear E a; intro a E; refine S_val E (pk_assign rfl rfl) rfl rfl rfl ?_; clear E a; intro a E; refine hK3 _ _ ?_; refine env_split (d := 15) E rfl ?_ ?_
  · skip
    clear E; intro c15 E
    have hlt : bs.length < 16 := by have := c15; simp only [decide_eq_true_eq] at this; omega
    have hor : openR gt k bs ts = ([], 2) := by unfold openR; rw [if_pos hlt]
    refine S_then E rfl ?_; refine wp_seq_k fun K4 hK4 => ?_; refine S_region ?_; refine S_val E (pk_assign rfl rfl) rfl rfl rfl ?_; clear E a; intro a E; refine S_val E (pk_assign rfl rfl) rfl rfl rfl ?_; clear E a; intro a E; refine hK4 _ _ ?_; refine wp_ret ?_
    repeat (first | refine then_ret ?_ | refine block_ret ?_)
    refine ret2 rfl E (resT rfl) (resT rfl) ?_
    rw [hor]
    exact ⟨none, 0, rfl, ((H.refacts (R' := [_]) (List.forall_mem_cons.2 ⟨txF_nil, List.forall_mem_nil _⟩))).popL⟩
  · skip
    clear E; intro c15 E
    have hlt : ¬ bs.length < 16 := by have := c15; simp only [decide_eq_false_iff_not] at this; omega
    refine S_else E rfl ?_; refine wp_seq_k fun K5 hK5 => ?_; refine S_region ?_; refine S_val E (pk_move rfl rfl) rfl rfl rfl ?_; clear E a; intro a E; refine S_val E (pk_int rfl rfl rfl rfl) rfl rfl rfl ?_; clear E a; intro a E; refine S_val E (pk_assign rfl rfl) rfl rfl rfl ?_; clear E a; intro a E; refine hK5 _ _ ?_; refine env_split (d := 18) E rfl ?_ ?_
    · skip
      clear E; intro c18 E
      have hgt : 1048592 < bs.length := by have := c18; simp only [decide_eq_true_eq] at this; omega
      have hor : openR gt k bs ts = ([], 4) := by unfold openR; rw [if_neg hlt, if_pos hgt]
      refine S_then E rfl ?_; refine wp_seq_k fun K6 hK6 => ?_; refine S_region ?_; refine S_val E (pk_assign rfl rfl) rfl rfl rfl ?_; clear E a; intro a E; refine S_val E (pk_assign rfl rfl) rfl rfl rfl ?_; clear E a; intro a E; refine hK6 _ _ ?_; refine wp_ret ?_
      repeat (first | refine then_ret ?_ | refine block_ret ?_)
      refine ret2 rfl E (resT rfl) (resT rfl) ?_
      rw [hor]
      exact ⟨none, 0, rfl, ((H.refacts (R' := [_]) (List.forall_mem_cons.2 ⟨txF_nil, List.forall_mem_nil _⟩))).popL⟩
    · skip
      clear E; intro c18 E
      have hgt : ¬ 1048592 < bs.length := by have := c18; simp only [decide_eq_false_iff_not] at this; omega
      obtain ⟨n, hn⟩ : ∃ n, bs.length = n + 16 := ⟨bs.length - 16, by omega⟩
      rw [show ((bs.length : Nat) : Int) - 16 = ((n : Nat) : Int) from by omega] at E
      have hbt : (bs.take n).length = n := by rw [List.length_take]; omega
      have hn16 : bs.length - 16 = n := by omega
      refine S_else E rfl ?_; refine wp_skip ?_; refine hK2 _ _ ?_; refine wp_seq_k fun K7 hK7 => ?_; refine S_region ?_; refine S_val E (pk_load (n := 32) H 0 rfl rfl rfl trivial rfl (by kernel_rfl)) rfl rfl rfl ?_; clear E a; intro a E; refine S_eff E rfl (fun K hK => ?_); refine eff_call E rfl rfl rfl (by kernel_rfl) ?_; refine (keysOf_any (k := k) hk32 hkb H.xk (H.fact 2 rfl)).mono ?_; rintro e w ⟨A23, c23, rfl, H1⟩
      replace H := H.call H1
      clear H1; replace H : Sep _ _ _ _ [_] [_, _, _, _] := H; refine hK _ _ ?_; clear hK K; refine S_put E rfl rfl ?_; clear E a; intro a E; refine S_val E (pk_move rfl rfl) rfl rfl rfl ?_; clear E a; intro a E; refine S_val E (pk_extract rfl rfl rfl) rfl rfl rfl ?_; clear E a; intro a E; refine S_val E (pk_extract rfl rfl rfl) rfl rfl rfl ?_; clear E a; intro a E; refine S_eff E rfl (fun K hK => ?_); refine eff_alloc (z := [.row 16 fun _ => .int .u8 0, .row 12 fun _ => .int .u8 0, .one (.slice none 0 0)]) H rfl (by kernel_rfl) ?_; clear H; intro b9 w H _; refine hK _ _ ?_; clear hK K; refine S_put E rfl rfl ?_; clear E a; intro a E; refine S_eff E rfl (fun K hK => ?_); refine eff_store 0 E H rfl rfl rfl rfl rfl (by repeat (first | exact trivial | refine ⟨rfl, ?_⟩ | refine ⟨fun _ _ => rfl, ?_⟩)) rfl (by kernel_rfl) rfl ?_; clear H; intro w H _; replace H : Sep _ _ _ _ [_, _] _ := H
      refine hK _ _ ?_; clear hK K; refine S_put0 rfl ?_; refine S_val E (pk_assign rfl rfl) rfl rfl rfl ?_; clear E a; intro a E; refine hK7 _ _ ?_; refine wp_seq_k fun K8 hK8 => ?_; refine wp_seq_k fun K9 hK9 => ?_; refine S_region ?_; refine S_val E (pk_move rfl rfl) rfl rfl rfl ?_; clear E a; intro a E; refine S_val E (pk_int (v := .bool false) rfl rfl rfl (congrArg (fun b => some (Value.bool b)) (rfl))) rfl rfl rfl ?_; clear E a; intro a E; refine hK9 _ _ ?_; refine S_else E rfl ?_; refine wp_skip ?_; refine hK8 _ _ ?_; refine wp_seq_k fun K10 hK10 => ?_
      replace H := H.know (txF_take (hi := n) (H.fact 1 rfl) (by omega))
      replace H : Sep _ _ _ _ [_, _] [_, _, _, _, _] := H; refine C_region E H [] 10 [(0, false), (1, false), (2, false), (3, false), (4, false), (5, true), (6, false), (7, false), (8, false), (9, false)] (by kernel_rfl) (by kernel_rfl) (fun w HS => ?_)
      (simp only [canOps, List.getElem?_cons_zero, List.getElem?_cons_succ, List.drop_succ_cons, List.drop_zero])
      clear H
      have H := HS
      have hsz : w.heap.size ≤ w.heap.size := Nat.le_refl _
      have HK : CanB.Keep (fun k => k < w.heap.size ∧ k ∉ []) w w := CanB.Keep.refl _ _
      refine C_val E HK (pk_load (n := 29) HS 0 rfl rfl rfl (HS.inS 0 rfl (by simp)) rfl (by kernel_rfl)) rfl rfl rfl (fun _ _ _ _ h => h) ?_; clear E a; intro a E; refine C_val E HK (pk_move rfl rfl) rfl rfl rfl (fun _ _ _ _ h => h) ?_; clear E a; intro a E; refine C_val E HK (pk_move rfl rfl) rfl rfl rfl (fun _ _ _ _ h => h) ?_; clear E a; intro a E; refine C_val E HK (pk_sub_hi (sz := 1) (hi := n) rfl (by kernel_rfl) rfl rfl rfl (by omega)) rfl rfl rfl (fun _ _ _ _ h => h) ?_; clear E a; intro a E
      rw [sub_zero, show Value.slice BA n bc = .slice BA (bs.take n).length bc from by rw [hbt]] at E
      refine C_val E HK (pk_move rfl rfl) rfl rfl rfl (fun _ _ _ _ h => h) ?_; clear E a; intro a E; refine C_eff E rfl (fun K hK => ?_); refine eff_call E rfl rfl rfl (by kernel_rfl) ?_; refine (tag_any (sum := keyM gt k) (hid := (bs.take n)) (ts := ts) hlM (by rw [hbt]; omega) hts H.xk (H.fact 1 rfl) (H.fact 0 rfl) (H.fact 3 rfl) (H.fact 4 rfl)).mono ?_; rintro e w ⟨A35, c35, rfl, H1⟩
      have F := H1.frm
      replace H := H.call H1
      clear H1; replace H : Sep _ _ _ _ [_, _] [_, _, _, _, _, _] := H
      have hk := keep_frm (D := []) F hsz (by simp)
      refine hK _ _ hk ?_; clear hK K
      replace HK := HK.trans hk
      replace hsz := Nat.le_trans hsz (F).size
      clear hk; refine C_put E rfl rfl ?_; clear E a; intro a E; clear F; refine C_val E HK (pk_move rfl rfl) rfl rfl rfl (fun _ _ _ _ h => h) ?_; clear E a; intro a E; refine C_val E HK (pk_extract rfl rfl rfl) rfl rfl rfl (fun _ _ _ _ h => h) ?_; clear E a; intro a E; refine C_val E HK (pk_extract rfl rfl rfl) rfl rfl rfl (fun _ _ _ _ h => h) ?_; clear E a; intro a E; refine C_val E HK (pk_assign rfl rfl) rfl rfl rfl (fun _ _ _ _ h => h) ?_; clear E a; intro a E; refine CanB.wpCan_nil ?_
      try (simp only [List.take_succ_cons, List.take_zero, List.drop_succ_cons, List.drop_zero])
      clear HS HK hsz; refine S_val E (pk_assign rfl rfl) rfl rfl rfl ?_; clear E a; intro a E; refine hK10 _ _ ?_; refine wp_seq_k fun K11 hK11 => ?_; refine wp_block ?_; refine wp_seq_k fun K12 hK12 => ?_; refine S_region ?_; refine S_val E (pk_move rfl rfl) rfl rfl rfl ?_; clear E a; intro a E; refine S_val E (pk_int rfl rfl rfl rfl) rfl rfl rfl ?_; clear E a; intro a E; refine S_val E (pk_assign rfl rfl) rfl rfl rfl ?_; clear E a; intro a E; refine hK12 _ _ ?_; refine env_split (d := 38) E rfl ?_ ?_
      · skip
        clear E; intro c38 E
        have hok : ¬ okT ts := fun h => by
          rw [show tagR gt (keyM gt k) (bs.take n) ts = (tagV gt (keyM gt k) (bs.take n) ts, 0) from by unfold tagR; rw [if_pos h]] at c38
          cases c38
        have htr : tagR gt (keyM gt k) (bs.take n) ts = ([], 4) := by unfold tagR; rw [if_neg hok]
        have hor : openR gt k bs ts = ([], 4) := by unfold openR; rw [if_neg hlt, if_neg hgt, if_pos hok]
        refine S_then E rfl ?_; refine wp_seq_k fun K13 hK13 => ?_; refine S_region ?_; refine S_val E (pk_move rfl rfl) rfl rfl rfl ?_; clear E a; intro a E; refine S_val E (pk_assign rfl rfl) rfl rfl rfl ?_; clear E a; intro a E; refine S_val E (pk_assign rfl rfl) rfl rfl rfl ?_; clear E a; intro a E; refine hK13 _ _ ?_; refine wp_ret ?_
        repeat (first | refine then_ret ?_ | refine block_ret ?_)
        refine ret2 rfl E (resT rfl) (resT rfl) ?_
        rw [hor]
        exact ⟨none, 0, by rw [htr]; rfl, ((H.refacts (R' := [_]) (List.forall_mem_cons.2 ⟨txF_nil, List.forall_mem_nil _⟩))).popL.popL⟩
      · skip
        clear E; intro c38 E
        have hok : okT ts := by
          refine Classical.byContradiction fun h => ?_
          rw [show tagR gt (keyM gt k) (bs.take n) ts = ([], 4) from by unfold tagR; rw [if_neg h]] at c38
          cases c38
        have htr : tagR gt (keyM gt k) (bs.take n) ts = (tagV gt (keyM gt k) (bs.take n) ts, 0) := by unfold tagR; rw [if_pos hok]
        rw [htr] at E H
        simp only at E H
        refine S_else E rfl ?_; refine wp_seq_k fun K14 hK14 => ?_; refine S_region ?_; refine S_val E (pk_move rfl rfl) rfl rfl rfl ?_; clear E a; intro a E; refine S_val E (pk_move rfl rfl) rfl rfl rfl ?_; clear E a; intro a E; refine S_val E (pk_move rfl rfl) rfl rfl rfl ?_; clear E a; intro a E
        obtain ⟨A46, c46, h46, hT46⟩ := txF_drop (lo := n) (H.fact 3 rfl) (by omega)
        refine S_val E (pk_sub_lo (sz := 1) (lo := n) rfl (by kernel_rfl) rfl rfl rfl (by omega)) rfl rfl rfl ?_; clear E a; intro a E
        rw [h46] at E
        replace H := H.know hT46
        clear h46 hT46; replace H : Sep _ _ _ _ _ [_, _, _, _, _, _, _] := H; refine S_eff E rfl (fun K hK => ?_); refine eff_call E rfl rfl rfl (by kernel_rfl) ?_; refine (Equal_any (ka := tagV gt (keyM gt k) (bs.take n) ts) (kb := (bs.drop n)) H.xk (H.fact 1 rfl) (H.fact 0 rfl)).mono ?_; rintro e w ⟨rfl, H1⟩
        replace H := H.call H1
        clear H1; replace H : Sep _ _ _ _ [_, _] [_, _, _, _, _, _, _] := H; refine hK _ _ ?_; clear hK K; refine S_put E rfl rfl ?_; clear E a; intro a E; refine S_val E (pk_not rfl rfl) rfl rfl rfl ?_; clear E a; intro a E; refine S_val E (pk_assign rfl rfl) rfl rfl rfl ?_; clear E a; intro a E; refine hK14 _ _ ?_; refine env_split (d := 42) E rfl ?_ ?_
        · skip
          clear E; intro c42 E
          have hne : ¬ tagV gt (keyM gt k) (bs.take n) ts = (bs.drop n) := by have := c42; simpa using this
          have hor : openR gt k bs ts = ([], 5) := by unfold openR; rw [if_neg hlt, if_neg hgt, if_neg (fun h => h hok), hn16, if_neg hne]
          refine S_then E rfl ?_; refine wp_seq_k fun K15 hK15 => ?_; refine S_region ?_; refine S_val E (pk_assign rfl rfl) rfl rfl rfl ?_; clear E a; intro a E; refine S_val E (pk_assign rfl rfl) rfl rfl rfl ?_; clear E a; intro a E; refine hK15 _ _ ?_; refine wp_ret ?_
          repeat (first | refine then_ret ?_ | refine block_ret ?_)
          refine ret2 rfl E (resT rfl) (resT rfl) ?_
          rw [hor]
          exact ⟨none, 0, rfl, ((H.refacts (R' := [_]) (List.forall_mem_cons.2 ⟨txF_nil, List.forall_mem_nil _⟩))).popL.popL⟩
        · skip
          clear E; intro c42 E
          have heq : tagV gt (keyM gt k) (bs.take n) ts = (bs.drop n) := by have := c42; simpa using this
          have hor : openR gt k bs ts = (strV (keyS gt k) (bs.take n), 0) := by unfold openR; rw [if_neg hlt, if_neg hgt, if_neg (fun h => h hok), hn16, if_pos heq]
          refine S_else E rfl ?_; refine wp_skip ?_; refine hK11 _ _ ?_; refine wp_seq_k fun K16 hK16 => ?_; refine C_region E H [] 10 [(0, false), (1, false), (2, false), (3, false), (4, false), (5, false), (6, false), (7, true), (8, false), (9, false)] (by kernel_rfl) (by kernel_rfl) (fun w HS => ?_)
          (simp only [canOps, List.getElem?_cons_zero, List.getElem?_cons_succ, List.drop_succ_cons, List.drop_zero])
          clear H
          have H := HS
          have hsz : w.heap.size ≤ w.heap.size := Nat.le_refl _
          have HK : CanB.Keep (fun k => k < w.heap.size ∧ k ∉ []) w w := CanB.Keep.refl _ _
          refine C_val E HK (pk_fieldAddr (off := 0) rfl rfl (by kernel_rfl)) rfl rfl rfl (fun _ _ _ _ h => h) ?_; clear E a; intro a E; refine C_val E HK (pk_load (n := 16) HS 0 rfl rfl rfl (HS.inS 0 rfl (by simp)) rfl (by kernel_rfl)) rfl rfl rfl (fun _ _ _ _ h => h) ?_; clear E a; intro a E; refine C_val E HK (pk_fieldAddr (off := 16) rfl rfl (by kernel_rfl)) rfl rfl rfl (fun _ _ _ _ h => h) ?_; clear E a; intro a E; refine C_val E HK (pk_load (n := 12) HS 0 rfl rfl rfl (HS.inS 0 rfl (by simp)) rfl (by kernel_rfl)) rfl rfl rfl (fun _ _ _ _ h => h) ?_; clear E a; intro a E; refine C_val E HK (pk_move rfl rfl) rfl rfl rfl (fun _ _ _ _ h => h) ?_; clear E a; intro a E; refine C_val E HK (pk_move rfl rfl) rfl rfl rfl (fun _ _ _ _ h => h) ?_; clear E a; intro a E; refine C_val E HK (pk_sub_hi (sz := 1) (hi := n) rfl (by kernel_rfl) rfl rfl rfl (by omega)) rfl rfl rfl (fun _ _ _ _ h => h) ?_
          clear E a; intro a E
          rw [sub_zero, show Value.slice BA n bc = .slice BA (bs.take n).length bc from by rw [hbt]] at E
          refine C_eff E rfl (fun K hK => ?_); refine eff_call E rfl rfl rfl (by kernel_rfl) ?_; refine (ctr_own (k := (bs.take n)) (x := keyS gt k) H.xk (H.fact 2 rfl) (by rw [hbt]; omega) hSb).mono ?_; rintro e w ⟨A56, c56, rfl, H1⟩
          have F := H1.frm
          replace H := H.call H1
          clear H1; replace H : Sep _ _ _ _ [_, _, _] [_, _, _, _, _, _, _] := H
          have hk := keep_frm (D := []) F hsz (by simp)
          refine hK _ _ hk ?_; clear hK K
          replace HK := HK.trans hk
          replace hsz := Nat.le_trans hsz (F).size
          clear hk; refine C_put E rfl rfl ?_; clear E a; intro a E; clear F; refine C_val E HK (pk_extract rfl rfl rfl) rfl rfl rfl (fun _ _ _ _ h => h) ?_; clear E a; intro a E; refine C_val E HK (pk_extract rfl rfl rfl) rfl rfl rfl (fun _ _ _ _ h => h) ?_; clear E a; intro a E; refine CanB.wpCan_nil ?_
          try (simp only [List.take_succ_cons, List.take_zero, List.drop_succ_cons, List.drop_zero])
          clear HS HK hsz; refine S_val E (pk_assign rfl rfl) rfl rfl rfl ?_; clear E a; intro a E; refine S_val E (pk_assign rfl rfl) rfl rfl rfl ?_; clear E a; intro a E; refine hK16 _ _ ?_; refine wp_ret ?_
          repeat (first | refine then_ret ?_ | refine block_ret ?_)
          refine ret2 rfl E (resT rfl) (resT rfl) ?_
          rw [hor]
          have hT := H.rowTx (Sep.new_x H) (by rw [strV_len]; omega) (strV_byte _ _)
          exact ⟨A56, c56, rfl, ((hT.refacts (List.forall_mem_cons.2 ⟨hT.fact 0 rfl, List.forall_mem_nil _⟩)).popL).popL⟩
set_option maxRecDepth 100000 in
set_option maxHeartbeats 400000 in
theorem Long_any {n : Int} (hn : -9223372036854775808 ≤ n ∧ n ≤ 9223372036854775807) {X : List Nat} {w0 : World} (hX : ∀ k ∈ X, k < w0.heap.size) :
    Calls Tryd.prog 16 #[.int .i64 n] w0 fun e w' => e = .returned (.tuple #[.int .i64 (longV n).1, .int .i64 (longV n).2]) ∧ Sep X [] w0 w' [] [] := by
  refine calls_env Tryd.ntmps16 Tryd.func16 rfl rfl fun a E => ?_; replace E : Env a _ [(0, _)] := E
  have H : Sep X [] w0 w0 [] [] := Sep.start hX (fun _ h => by cases h)
  refine wp_seq_k fun K0 hK0 => ?_; refine S_region ?_; refine S_val E (pk_assign rfl rfl) rfl rfl rfl ?_; clear E a; intro a E; refine S_val E (pk_assign rfl rfl) rfl rfl rfl ?_; clear E a; intro a E; refine hK0 _ _ ?_; refine wp_seq_k fun K1 hK1 => ?_; refine wp_seq_k fun K2 hK2 => ?_; refine S_region ?_; refine S_val E (pk_move rfl rfl) rfl rfl rfl ?_; clear E a; intro a E; refine S_val E (pk_int rfl rfl rfl rfl) rfl rfl rfl ?_; clear E a; intro a E; refine S_val E (pk_move rfl rfl) rfl rfl rfl ?_; clear E a; intro a E; refine env_split (d := 6) E rfl ?_ ?_
  · skip
    clear E; intro c6 E
    have hlo : n < 0 := by simpa using c6
    refine S_skip E rfl rfl rfl ?_; clear E a; intro a E; refine S_skip E rfl rfl rfl ?_; clear E a; intro a E; refine S_val E (pk_pick rfl rfl rfl) rfl rfl rfl ?_; clear E a; intro a E; refine hK2 _ _ ?_; refine S_then E rfl ?_; refine wp_seq_k fun K3 hK3 => ?_; refine S_region ?_; refine S_val E (pk_assign rfl rfl) rfl rfl rfl ?_; clear E a; intro a E; refine S_val E (pk_assign rfl rfl) rfl rfl rfl ?_; clear E a; intro a E; refine hK3 _ _ ?_; refine wp_ret ?_
    repeat (first | refine then_ret ?_ | refine block_ret ?_)
    refine ret2 rfl E (resT rfl) (resT rfl) ?_
    have hb : n < 0 ∨ 1048576 < n := by
      first | exact .inl hlo | exact .inr (by simpa using c9)
    rw [show longV n = (0, 1) from by unfold longV; rw [if_pos hb]]
    exact ⟨rfl, H⟩
  · skip
    clear E; intro c6 E
    have hlo : ¬ n < 0 := by simpa using c6
    refine S_val E (pk_move rfl rfl) rfl rfl rfl ?_; clear E a; intro a E; refine S_val E (pk_int rfl rfl rfl rfl) rfl rfl rfl ?_; clear E a; intro a E; refine S_val E (pk_pick rfl rfl rfl) rfl rfl rfl ?_; clear E a; intro a E; refine hK2 _ _ ?_; refine env_split (d := 9) E rfl ?_ ?_
    · skip
      clear E; intro c9 E; refine S_then E rfl ?_; refine wp_seq_k fun K4 hK4 => ?_; refine S_region ?_; refine S_val E (pk_assign rfl rfl) rfl rfl rfl ?_; clear E a; intro a E; refine S_val E (pk_assign rfl rfl) rfl rfl rfl ?_; clear E a; intro a E; refine hK4 _ _ ?_; refine wp_ret ?_
      repeat (first | refine then_ret ?_ | refine block_ret ?_)
      refine ret2 rfl E (resT rfl) (resT rfl) ?_
      have hb : n < 0 ∨ 1048576 < n := by
        first | exact .inl hlo | exact .inr (by simpa using c9)
      rw [show longV n = (0, 1) from by unfold longV; rw [if_pos hb]]
      exact ⟨rfl, H⟩
    · skip
      clear E; intro c9 E
      have hhi : n ≤ 1048576 := by have := c9; simp only [decide_eq_false_iff_not] at this; omega
      refine S_else E rfl ?_; refine wp_skip ?_; refine hK1 _ _ ?_; refine wp_seq_k fun K5 hK5 => ?_; refine S_region ?_; refine S_val E (pk_move rfl rfl) rfl rfl rfl ?_; clear E a; intro a E; refine S_val E (pk_intw rfl rfl rfl rfl (wI64 (by omega) (by omega))) rfl rfl rfl ?_; clear E a; intro a E; refine S_val E (pk_assign rfl rfl) rfl rfl rfl ?_; clear E a; intro a E; refine S_val E (pk_assign rfl rfl) rfl rfl rfl ?_; clear E a; intro a E; refine hK5 _ _ ?_; refine wp_ret ?_
      repeat (first | refine then_ret ?_ | refine block_ret ?_)
      refine ret2 rfl E (resT rfl) (resT rfl) ?_
      have hb : ¬ (n < 0 ∨ 1048576 < n) := by omega
      rw [show longV n = (n + 16, 0) from by unfold longV; rw [if_neg hb]]
      exact ⟨rfl, H⟩
end Go.Proofs.YtlhhfngkfbbckaaDoor
namespace Go.Proofs.YtlhhfngkfbbckaaDoor
set_option linter.unusedSimpArgs false
set_option linter.unusedVariables false
open Go.RowKit

theorem sealR_nil (gt : Nat → Nat) (k plain : List Nat) : ∃ t, t.length = 16 ∧ (∀ x ∈ t, x < 256) ∧ sealR gt k plain [] = (strV (keyS gt k) plain ++ t, 0) :=
  ⟨tagV gt (keyM gt k) (strV (keyS gt k) plain) [], tagV_len _ _ _ _, tagV_byte _ _ _ _, by unfold sealR; rw [if_pos (show okT [] from fun t ht => by cases ht)]⟩
def key1 : List Nat := 1 :: List.replicate 31 0
def helloL : List Nat := [104, 101, 108, 108, 111]
attribute [local irreducible] strV keyS keyM tagV
section
variable {P : Program} {o : Oper} {ws : World} {l : List (Nat × Value)} {S : Nat → Prop}
theorem pk_buildC {ty : TypeId} {parts : Array (Nat × Operand)} {z r : List Chunk} {n : Nat} (cs : List Chunk) (ho : o.op = .build ty parts) (ht : arK P ty = some (n, 1)) (hz : zeroC P ty = some (ca z)) (hp : Parts (fun i => some (i * 1, 1)) l parts.toList z r) (hr : ca r = ca cs) : PK P S ws l o (.agg (ca cs)) := fun w' _ a N E => by
  obtain ⟨i, zv, h1, h2, h3⟩ := zeroC_of hz
  obtain ⟨e, h4, h5⟩ := arK_of ht
  obtain ⟨ie, h6, h7⟩ := Option.map_eq_some_iff.1 h5
  have hb : P.built ty (parts.toList.map fun (i, x) => (i, a.eval x)) = some (ca cs) := by
    unfold Program.built
    simp only [h1, h4, h2, h6, h3, h7]
    rw [← hr]
    exact parts_fill E _ _ _ hp
  unfold execOp
  rw [ho]
  simp only [Sem.run_bind]
  rw [run_build w' ty (parts.map fun (i, x) => (i, a.eval x)) _ (by rw [Array.toList_map]; exact hb)]
  rfl
end
set_option maxRecDepth 100000 in
set_option maxHeartbeats 600000 in
theorem live07_any {gt : Nat → Nat} {X : List Nat} {w0 : World} (hX : ∀ k ∈ X, k < w0.heap.size) (hG : St (AtC ⟨2, 0, none⟩ [.row 64 fun i => u32 (gt i)]) w0 X) :
    Calls Tryd.prog 8 #[] w0 fun e w' => e = .returned (.bool true) ∧ Sep X [] w0 w' [] [] := by
  refine calls_env Tryd.ntmps8 Tryd.func8 rfl rfl fun a E => ?_; replace E : Env a _ [] := E
  have H : Sep X [] w0 w0 [] [(AtC ⟨2, 0, none⟩ [.row 64 fun i => u32 (gt i)])] := Sep.start hX (List.forall_mem_cons.2 ⟨hG, fun _ h => by cases h⟩)
  refine wp_seq_k fun K0 hK0 => ?_; refine S_region ?_; refine S_val E (pk_assign rfl rfl) rfl rfl rfl ?_; clear E a; intro a E; refine hK0 _ _ ?_; refine wp_seq_k fun K1 hK1 => ?_; refine S_region ?_
  refine S_val E (pk_buildC (n := 32) (z := [.one (.int .u8 0), .one (.int .u8 0), .one (.int .u8 0), .one (.int .u8 0), .one (.int .u8 0), .one (.int .u8 0), .one (.int .u8 0), .one (.int .u8 0), .one (.int .u8 0), .one (.int .u8 0), .one (.int .u8 0), .one (.int .u8 0), .one (.int .u8 0), .one (.int .u8 0), .one (.int .u8 0), .one (.int .u8 0), .one (.int .u8 0), .one (.int .u8 0), .one (.int .u8 0), .one (.int .u8 0), .one (.int .u8 0), .one (.int .u8 0), .one (.int .u8 0), .one (.int .u8 0), .one (.int .u8 0), .one (.int .u8 0), .one (.int .u8 0), .one (.int .u8 0), .one (.int .u8 0), .one (.int .u8 0), .one (.int .u8 0), .one (.int .u8 0)]) [.key key1] rfl (by kernel_rfl) (by kernel_rfl) ⟨_, [.one _], 0, _, rfl, rfl, rfl, rfl, rfl⟩ rfl) rfl rfl rfl ?_; clear E a; intro a E; refine S_eff E rfl (fun K hK => ?_)
  refine eff_bslice (sz := 1) (z := [.one (.int .u8 0), .one (.int .u8 0), .one (.int .u8 0), .one (.int .u8 0), .one (.int .u8 0)]) E H rfl Tryd.underlying24 (by kernel_rfl) (by decide) (by kernel_rfl) ⟨_, [.one _], 0, _, rfl, rfl, rfl, rfl, ⟨_, [.one _], 1, _, rfl, rfl, rfl, rfl, ⟨_, [.one _], 2, _, rfl, rfl, rfl, rfl, ⟨_, [.one _], 3, _, rfl, rfl, rfl, rfl, ⟨_, [.one _], 4, _, rfl, rfl, rfl, rfl, rfl⟩⟩⟩⟩⟩ ?_; clear H; intro b5 w H _; refine hK _ _ ?_; clear hK K; refine S_put E rfl rfl ?_; clear E a; intro a E; refine S_eff E rfl (fun K hK => ?_); refine eff_const 0 E H rfl rfl Tryd.underlying24 Tryd.underlying5 rfl rfl ?_; clear H; intro w H F; replace H : Sep _ _ _ _ [] [_, _] := H; refine hK _ _ ?_; clear hK K; refine S_put E rfl rfl ?_; clear E a; intro a E; clear F; refine S_eff E rfl (fun K hK => ?_)
  refine eff_call E rfl rfl rfl (by kernel_rfl) ?_
  have hinf := txF_at (k := helloL) (c := 5) (H.fact 0 rfl) rfl (by show 5 ≤ 5; decide) (by show 5 ≤ _; decide) (by decide)
  refine (Seal_any (k := key1) (plain := helloL) (ts := []) (tm := fun _ => TextT.dft) (by decide) (by decide) (by decide) (by show 0 ≤ 1000; decide) H.xk hinf liF_nil (H.fact 1 rfl)).mono ?_; rintro e w ⟨A7, c7, rfl, H1⟩
  replace H := H.call H1
  clear H1; replace H : Sep _ _ _ _ [_] [_, _] := H; refine hK _ _ ?_; clear hK K; refine S_put E rfl rfl ?_; clear E a; intro a E; clear hinf
  obtain ⟨T, hlT, hbT, hsT⟩ := sealR_nil gt key1 helloL
  rw [hsT] at E H
  simp only at E H
  have hlTx : (strV (keyS gt key1) helloL ++ T).length = helloL.length + 16 := by rw [List.length_append, strV_len, hlT]
  refine S_val E (pk_move rfl rfl) rfl rfl rfl ?_; clear E a; intro a E; refine S_val E (pk_extract rfl rfl rfl) rfl rfl rfl ?_; clear E a; intro a E; refine S_val E (pk_extract rfl rfl rfl) rfl rfl rfl ?_; clear E a; intro a E; refine S_val E (pk_assign rfl rfl) rfl rfl rfl ?_; clear E a; intro a E; refine S_val E (pk_assign rfl rfl) rfl rfl rfl ?_; clear E a; intro a E; refine hK1 _ _ ?_; refine wp_seq_k fun K2 hK2 => ?_; refine S_region ?_; refine S_val E (pk_move rfl rfl) rfl rfl rfl ?_; clear E a; intro a E; refine S_val E (pk_int (v := .bool true) rfl rfl rfl (congrArg (fun b => some (Value.bool b)) (rfl))) rfl rfl rfl ?_; clear E a; intro a E; refine S_val E (pk_move rfl rfl) rfl rfl rfl ?_; clear E a; intro a E; refine S_val E (pk_move rfl rfl) rfl rfl rfl ?_; clear E a; intro a E; refine S_val E (pk_len rfl rfl (by kernel_rfl)) rfl rfl rfl ?_; clear E a; intro a E
  refine S_val E (pk_int (v := .bool true) rfl rfl rfl (congrArg (fun b => some (Value.bool b)) (by rw [hlTx]; rfl))) rfl rfl rfl ?_; clear E a; intro a E; refine S_val E (pk_pick rfl rfl rfl) rfl rfl rfl ?_; clear E a; intro a E; refine S_val E (pk_assign rfl rfl) rfl rfl rfl ?_; clear E a; intro a E; refine hK2 _ _ ?_; refine wp_ret ?_
  repeat (first | refine then_ret ?_ | refine block_ret ?_)
  refine ret1 rfl E (resT rfl) ?_
  exact ⟨rfl, (H.refacts (List.forall_mem_nil _)).popL⟩
end Go.Proofs.YtlhhfngkfbbckaaDoor
namespace Go.Proofs.YtlhhfngkfbbckaaDoor
set_option linter.unusedSimpArgs false
set_option linter.unusedVariables false
open Go.RowKit


def cutM (xs : List Nat) : Nat := (xs.map (min · 70000)).sum
theorem cutM_take {xs : List Nat} {k x : Nat} (h : xs[k]? = some x) : cutM (xs.take (k + 1)) = cutM (xs.take k) + min x 70000 := by
  unfold cutM
  rw [List.take_add_one, h, List.map_append, List.sum_append]
  simp
theorem cutM_le (xs : List Nat) : cutM xs ≤ 70000 * xs.length := by
  unfold cutM
  induction xs with
  | nil => simp
  | cons a l ih => simp only [List.map_cons, List.sum_cons, List.length_cons]; omega
theorem cutM_step {xs : List Nat} {k : Nat} {z : Int} (hk : k < xs.length) (hz : xs.length ≤ 200 → z = (cutM (xs.take k) : Int)) :
    xs.length ≤ 200 → IntKind.i64.wrap (z + min ((xs[k] : Nat) : Int) 70000) = (cutM (xs.take (k + 1)) : Int) := by
  intro h
  have h1 := cutM_le (xs.take k)
  rw [List.length_take] at h1
  rw [hz h, cutM_take (List.getElem?_eq_getElem hk), wI64 (by omega) (by omega)]
  omega
def fewM (xs : List (List Nat)) : Bool := decide (xs.length ≤ 200) && decide (cutM (xs.map List.length) ≤ 140000)
theorem fewM_len {xs : List (List Nat)} (h : fewM xs = true) : xs.length ≤ 1000 := by
  unfold fewM at h
  simp only [Bool.and_eq_true, decide_eq_true_eq] at h
  omega
theorem sameP {X : List Nat} {w0 : World} {A A' : Option Addr} {c c' : Nat} {l l' : List Nat} (h : St (TxF A c l) w0 X) (h' : St (TxF A' c' l') w0 X) :
    Calls Tryd.prog 11 #[.slice A l.length c, .slice A' l'.length c'] w0 fun e w' => e = .returned (.bool (decide (l = l'))) ∧ w0 = w' :=
  Same_txt A l.length c l A' l'.length c' l' _ w0 h.now.txt h'.now.txt h.now.byt h'.now.byt
attribute [local irreducible] encI
set_option maxRecDepth 100000 in
set_option maxHeartbeats 4000000 in
theorem rFewM_any {LA : Option Addr} {lc : Nat} {xs : List (List Nat)} {lm : Nat → TextT.μ} {X : List Nat} {w0 : World} (hX : ∀ k ∈ X, k < w0.heap.size) (hL : St (LiF TextT LA lc xs lm) w0 X) :
    Calls Tryd.prog 10 #[.slice LA xs.length lc] w0 fun e w' => e = .returned (.bool (fewM xs)) ∧ Sep X [] w0 w' [] [] := by
  have hLb := hL.now.big
  refine calls_env Tryd.ntmps10 Tryd.func10 rfl rfl fun a E => ?_; replace E : Env a _ [(0, _)] := E
  have H : Sep X [] w0 w0 [] [(LiF TextT LA lc xs lm)] := Sep.start hX (List.forall_mem_cons.2 ⟨hL, fun _ h => by cases h⟩)
  refine wp_seq_k fun K0 hK0 => ?_; refine S_region ?_; refine S_val E (pk_assign rfl rfl) rfl rfl rfl ?_; clear E a; intro a E; refine hK0 _ _ ?_; refine wp_seq_k fun K1 hK1 => ?_; refine S_region ?_; refine S_val E (pk_assign rfl rfl) rfl rfl rfl ?_; clear E a; intro a E; refine hK1 _ _ ?_; refine wp_seq_k fun K2 hK2 => ?_; refine wp_seq_k fun K3 hK3 => ?_; refine S_region ?_; refine S_val E (pk_move rfl rfl) rfl rfl rfl ?_; clear E a; intro a E; refine S_val E (pk_len rfl rfl (by kernel_rfl)) rfl rfl rfl ?_; clear E a; intro a E; refine S_val E (pk_move rfl rfl) rfl rfl rfl ?_; clear E a; intro a E; refine hK3 _ _ ?_; refine wp_block ?_
  refine S_loopK (γ := Nat × Int) [0, 6, 7] (fun g => [(3, .int .i64 g.2), (8, .int .i64 (g.1 : Int))]) (fun g => g.1 ≤ xs.length ∧ ((xs.map List.length).length ≤ 200 → g.2 = (cutM ((xs.map List.length).take g.1) : Int))) (fun g => xs.length - g.1) ((0, 0)) E H (by repeat (first | exact trivial | refine ⟨rfl, ?_⟩)) (⟨Nat.zero_le _, fun _ => rfl⟩) ?_; clear E H; intro g a w E H hφ; replace E : Env a _ [(3, _), (8, _), (0, _), (6, _), (7, _)] := E; replace H : Sep _ _ _ _ [] [_] := H; refine wp_seq_k fun K4 hK4 => ?_; refine S_region ?_; refine S_val E (pk_int rfl rfl rfl rfl) rfl rfl rfl ?_; clear E a; intro a E; refine hK4 _ _ ?_; refine wp_seq_k fun K5 hK5 => ?_; refine env_split (d := 9) E rfl ?_ ?_
  · skip
    clear E; intro c9 E
    have hk : g.1 < xs.length := by simpa using c9
    have hx0 : xs[g.1]? = some xs[g.1] := List.getElem?_eq_getElem hk
    refine S_then E rfl ?_; refine wp_skip ?_; refine hK5 _ _ ?_; refine wp_seq_k fun K6 hK6 => ?_; refine wp_block ?_; refine wp_seq_k fun K7 hK7 => ?_; refine S_region ?_
    obtain ⟨ad10, hA10, hc10, hn10⟩ := LiF.get (A := LA) (T := TextT) (i := g.1) (x := xs[g.1]) (by exact H.fact 0 rfl) hx0
    refine S_val E (pk_elA (sz := 1) hA10 rfl (by kernel_rfl) rfl rfl rfl (by omega)) rfl rfl rfl ?_; clear E a; intro a E
    replace H := (H.know hn10).know hc10
    clear hn10 hc10; replace H : Sep _ _ _ _ _ [_, _, _] := H; refine S_val E (pk_loadE1 (H.fact 0 rfl) (fun _ _ _ => trivial) rfl rfl rfl (by kernel_rfl)) rfl rfl rfl ?_; clear E a; intro a E; refine S_val E (pk_assign rfl rfl) rfl rfl rfl ?_; clear E a; intro a E; refine hK7 _ _ ?_; refine S_region ?_; refine S_val E (pk_move rfl rfl) rfl rfl rfl ?_; clear E a; intro a E; refine S_val E (pk_move rfl rfl) rfl rfl rfl ?_; clear E a; intro a E; refine S_val E (pk_len rfl rfl (by kernel_rfl)) rfl rfl rfl ?_; clear E a; intro a E; refine S_val E (pk_min rfl rfl rfl) rfl rfl rfl ?_; clear E a; intro a E; refine S_val E (pk_int rfl rfl rfl rfl) rfl rfl rfl ?_; clear E a; intro a E; refine S_val E (pk_assign rfl rfl) rfl rfl rfl ?_; clear E a; intro a E; refine hK6 _ _ ?_; refine S_region ?_; refine S_val E (pk_intw rfl rfl rfl rfl (wI64 (by omega) (by omega))) rfl rfl rfl ?_; clear E a
    intro a E; refine S_val E (pk_move rfl rfl) rfl rfl rfl ?_; clear E a; intro a E; refine loop_end ?_
    exact ⟨(g.1 + 1, IntKind.i64.wrap (g.2 + min ((xs[g.1].length : Nat) : Int) 70000)), ⟨E.to (by repeat (first | exact trivial | refine ⟨rfl, ?_⟩)), H.pop.pop, ⟨by omega, fun h => by have := cutM_step (xs := (xs.map List.length)) (k := g.1) (by rw [List.length_map]; omega) hφ.2 h; rw [List.getElem_map] at this; exact this⟩⟩, by omega⟩
  · skip
    clear E; intro c9 E
    have hk : ¬ g.1 < xs.length := by simpa using c9
    refine S_else E rfl ?_; refine wp_exit ?_
    repeat (first | refine then_exit ?_ | refine block_hit ?_ | refine block_miss (by decide) ?_)
    refine hK2 _ _ ?_; refine wp_seq_k fun K8 hK8 => ?_; refine S_region ?_; refine S_val E (pk_move rfl rfl) rfl rfl rfl ?_; clear E a; intro a E; refine S_val E (pk_len rfl rfl (by kernel_rfl)) rfl rfl rfl ?_; clear E a; intro a E; refine S_val E (pk_int rfl rfl rfl rfl) rfl rfl rfl ?_; clear E a; intro a E; refine S_val E (pk_move rfl rfl) rfl rfl rfl ?_; clear E a; intro a E; refine env_split (d := 21) E rfl ?_ ?_
    · skip
      clear E; intro c21 E; refine S_val E (pk_move rfl rfl) rfl rfl rfl ?_; clear E a; intro a E; refine S_val E (pk_int rfl rfl rfl rfl) rfl rfl rfl ?_; clear E a; intro a E; refine S_val E (pk_pick rfl rfl rfl) rfl rfl rfl ?_; clear E a; intro a E; refine S_val E (pk_assign rfl rfl) rfl rfl rfl ?_; clear E a; intro a E; refine hK8 _ _ ?_; refine wp_ret ?_
      repeat (first | refine then_ret ?_ | refine block_ret ?_)
      refine ret1 rfl E (resT rfl) ?_; refine ⟨?_, H.keepLR (L := []) (R := [])⟩
      have hg : g.1 = xs.length := by omega
      have hz := hφ.2
      rw [hg, ← List.length_map (f := List.length), List.take_length, List.length_map] at hz
      have e : fewM xs = (decide (xs.length ≤ 200) && decide (g.2 ≤ 140000)) := by
        unfold fewM
        by_cases h : xs.length ≤ 200
        · rw [hz h]; congr 1; rw [Bool.eq_iff_iff]; simp; omega
        · rw [decide_eq_false h, Bool.false_and, Bool.false_and]
      rw [e]
      clear e hz hφ
      simp_all
      try omega
    · skip
      clear E; intro c21 E; refine S_skip E rfl rfl rfl ?_; clear E a; intro a E; refine S_skip E rfl rfl rfl ?_; clear E a; intro a E; refine S_val E (pk_pick rfl rfl rfl) rfl rfl rfl ?_; clear E a; intro a E; refine S_val E (pk_assign rfl rfl) rfl rfl rfl ?_; clear E a; intro a E; refine hK8 _ _ ?_; refine wp_ret ?_
      repeat (first | refine then_ret ?_ | refine block_ret ?_)
      refine ret1 rfl E (resT rfl) ?_; refine ⟨?_, H.keepLR (L := []) (R := [])⟩
      have hg : g.1 = xs.length := by omega
      have hz := hφ.2
      rw [hg, ← List.length_map (f := List.length), List.take_length, List.length_map] at hz
      have e : fewM xs = (decide (xs.length ≤ 200) && decide (g.2 ≤ 140000)) := by
        unfold fewM
        by_cases h : xs.length ≤ 200
        · rw [hz h]; congr 1; rw [Bool.eq_iff_iff]; simp; omega
        · rw [decide_eq_false h, Bool.false_and, Bool.false_and]
      rw [e]
      clear e hz hφ
      simp_all
      try omega
end Go.Proofs.YtlhhfngkfbbckaaDoor
