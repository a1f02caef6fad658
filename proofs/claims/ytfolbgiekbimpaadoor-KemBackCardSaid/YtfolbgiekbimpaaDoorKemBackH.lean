/- A buffer that is written nothing. The library's buffer, laid at this program (written by the kit's own tool). Texts are written, one behind the other. A key's keys; what stands behind what is sealed. Keys held against each other; a text as a key; a string's bytes. Keys of keys. Texts, one behind the other: slices.Concat. What is sealed, and opened. Pairs, the key of two, boxes (layer 8). -/
import Derived.Test.YtfolbgiekbimpaaDoorKemBackG
import Derived.Lib.Buffer
import Derived.Shelf.Bytes.WriteAny
import Derived.Shelf.Bytes.Bytes
import Derived.Lib.AppendZeros
namespace Go.Proofs.YtfolbgiekbimpaaDoor
set_option linter.unusedSimpArgs false
set_option linter.unusedVariables false
open Go.RowKit

section
variable {P : Program} {o : Oper} {a : Act} {w ws : World} {Q : Exit → Act → World → Prop} {N d : Nat} {l : List (Nat × Value)} {v : Value} {S : Nat → Prop} {K : Act → World → Prop} {x y : Operand}
theorem pk_capS {t : TypeId} {A : Option Addr} {n c : Nat} (ho : o.op = .call { callee := .builtin .cap, args := #[x], argTypes := #[t] }) (hx : ev l x = some (.slice A n c)) (ht : isSl P t = true) : PK P S ws l o (.int .i64 c) := fun w' _ a N E => by
  obtain ⟨e, hu⟩ := isSl_of ht
  unfold execOp; rw [ho]
  simp [resolve, invoke, builtin, E.ev hx, Builtin.cap_, run_underlying hu, Sem.run_bind, goInt]
theorem eff_copy0 {dT sT dn dc c : Nat} {A B : Option Addr} (E : Env a N l) (ho : o.op = .call { callee := .builtin .copy, args := #[x, y], argTypes := #[dT, sT] }) (hx : ev l x = some (.slice A dn dc)) (hy : ev l y = some (.slice B 0 c)) (hT : elK P dT = some 1) (h : K (a.put o.dst (.int .i64 0)) w) : o.wp P a w K Q := by
  obtain ⟨e, he, hs⟩ := elK_of hT
  have hr := run_copy_none (P := P) w dT sT o.type e A B dn dc 0 c he hs (Nat.zero_min _)
  unfold Oper.wp execOp
  simp only [ho, resolve, invoke, builtin, Sem.run_bind, Sem.run_pure, Result.andThen_ok, List.map_toArray, List.map_cons, List.map_nil, E.ev hx, E.ev hy, hr]
  exact h
end
set_option maxRecDepth 100000 in
set_option maxHeartbeats 400000 in
theorem tryGrow0_any {b rc : Nat} {lr : Int} {RA : Option Addr} {k : List Nat} (hkl : k.length ≤ 140737488355328) (hrc : rc ≤ 9223372036854775807) {X : List Nat} {w0 : World} (hX : ∀ k ∈ X, k < w0.heap.size) (H0 : Sep X (keysR [.blk b (ca [.one (.slice RA k.length rc), .one (.int .i64 0), .one (.int .i8 lr)]) 88, .row (.slice RA k.length rc) 5 1 k.length (k.map bv)]) w0 w0 [.blk b (ca [.one (.slice RA k.length rc), .one (.int .i64 0), .one (.int .i8 lr)]) 88, .row (.slice RA k.length rc) 5 1 k.length (k.map bv)] []) :
    Calls Tryd.prog 66 #[.pointer (some ⟨b, 0, none⟩), .int .i64 0] w0 fun e w' => e = .returned (.tuple #[.int .i64 k.length, .bool true]) ∧ Sep X (keysR [.blk b (ca [.one (.slice RA k.length rc), .one (.int .i64 0), .one (.int .i8 lr)]) 88, .row (.slice RA k.length rc) 5 1 k.length (k.map bv)]) w0 w' [.blk b (ca [.one (.slice RA k.length rc), .one (.int .i64 0), .one (.int .i8 lr)]) 88, .row (.slice RA k.length rc) 5 1 k.length (k.map bv)] [] := by
  refine calls_env Tryd.ntmps66 Tryd.func66 rfl rfl fun a E => ?_; replace E : Env a _ [(0, _), (1, _)] := E
  have H := H0
  have hcap : k.length ≤ rc := row_cap (H0.holds _ (by simp) : (Res.row (.slice RA k.length rc) 5 1 k.length (k.map bv)).holds w0)
  have hH := H0
  refine wp_seq_k fun K0 hK0 => ?_; refine S_region ?_; refine S_val E (pk_assign rfl rfl) rfl rfl rfl ?_; clear E a; intro a E; refine S_val E (pk_assign rfl rfl) rfl rfl rfl ?_; clear E a; intro a E; refine hK0 _ _ ?_; refine wp_seq_k fun K1 hK1 => ?_; refine wp_seq_k fun K2 hK2 => ?_; refine S_region ?_; refine S_val E (pk_move rfl rfl) rfl rfl rfl ?_; clear E a; intro a E; refine S_val E (pk_nilck rfl rfl) rfl rfl rfl ?_; clear E a; intro a E; refine S_val E (pk_fieldAddr (off := 0) rfl rfl (by kernel_rfl)) rfl rfl rfl ?_; clear E a; intro a E; refine S_val E (pk_load1 H 0 rfl rfl rfl trivial rfl (by kernel_rfl)) rfl rfl rfl ?_; clear E a; intro a E; refine S_val E (pk_len rfl rfl (by kernel_rfl)) rfl rfl rfl ?_; clear E a; intro a E; refine S_val E (pk_assign rfl rfl) rfl rfl rfl ?_; clear E a; intro a E; refine hK2 _ _ ?_; refine wp_seq_k fun K3 hK3 => ?_; refine S_region ?_
  refine S_val E (pk_move rfl rfl) rfl rfl rfl ?_; clear E a; intro a E; refine S_val E (pk_move rfl rfl) rfl rfl rfl ?_; clear E a; intro a E; refine S_val E (pk_nilck rfl rfl) rfl rfl rfl ?_; clear E a; intro a E; refine S_val E (pk_fieldAddr (off := 0) rfl rfl (by kernel_rfl)) rfl rfl rfl ?_; clear E a; intro a E; refine S_val E (pk_load1 H 0 rfl rfl rfl trivial rfl (by kernel_rfl)) rfl rfl rfl ?_; clear E a; intro a E; refine S_val E (pk_capS rfl rfl (by kernel_rfl)) rfl rfl rfl ?_; clear E a; intro a E; refine S_val E (pk_move rfl rfl) rfl rfl rfl ?_; clear E a; intro a E; refine S_val E (pk_intw rfl rfl rfl rfl (wI64 (by omega) (by omega))) rfl rfl rfl ?_; clear E a; intro a E; refine S_val E (pk_int (v := .bool true) rfl rfl rfl (congrArg (fun b => some (Value.bool b)) (decide_eq_true (by omega)))) rfl rfl rfl ?_; clear E a; intro a E; refine hK3 _ _ ?_; refine S_then E rfl ?_
  refine wp_seq_k fun K4 hK4 => ?_; refine S_region ?_; refine S_val E (pk_move rfl rfl) rfl rfl rfl ?_; clear E a; intro a E; refine S_val E (pk_move rfl rfl) rfl rfl rfl ?_; clear E a; intro a E; refine S_val E (pk_nilck rfl rfl) rfl rfl rfl ?_; clear E a; intro a E; refine S_val E (pk_fieldAddr (off := 0) rfl rfl (by kernel_rfl)) rfl rfl rfl ?_; clear E a; intro a E; refine S_val E (pk_load1 H 0 rfl rfl rfl trivial rfl (by kernel_rfl)) rfl rfl rfl ?_; clear E a; intro a E; refine S_val E (pk_move rfl rfl) rfl rfl rfl ?_; clear E a; intro a E; refine S_val E (pk_move rfl rfl) rfl rfl rfl ?_; clear E a; intro a E; refine S_val E (pk_intw rfl rfl rfl rfl (wI64 (by omega) (by omega))) rfl rfl rfl ?_; clear E a; intro a E; refine S_val E (pk_sub_hi (sz := 1) (hi := k.length) rfl (by kernel_rfl) rfl rfl (by omega) hcap) rfl rfl rfl ?_; clear E a; intro a E
  rw [sub_zero] at E
  refine S_val E (pk_nilck rfl rfl) rfl rfl rfl ?_; clear E a; intro a E; refine S_val E (pk_fieldAddr (off := 0) rfl rfl (by kernel_rfl)) rfl rfl rfl ?_; clear E a; intro a E; refine S_eff E rfl (fun K hK => ?_); refine eff_store 0 (new := [.one _]) E H rfl rfl rfl rfl rfl (by repeat (first | exact trivial | refine ⟨rfl, ?_⟩ | refine ⟨fun _ _ => rfl, ?_⟩)) rfl (by kernel_rfl) rfl ?_; clear H; intro w H _; replace H : Sep _ _ _ _ [_, _] _ := H; refine hK _ _ ?_; clear hK K; refine S_put0 rfl ?_; refine hK4 _ _ ?_; refine wp_seq_k fun K5 hK5 => ?_; refine S_region ?_; refine S_val E (pk_move rfl rfl) rfl rfl rfl ?_; clear E a; intro a E; refine S_val E (pk_assign rfl rfl) rfl rfl rfl ?_; clear E a; intro a E; refine S_val E (pk_assign rfl rfl) rfl rfl rfl ?_; clear E a; intro a E; refine hK5 _ _ ?_; refine wp_ret ?_
  repeat (first | refine then_ret ?_ | refine block_ret ?_)
  refine ret2 rfl E (resT rfl) (resT rfl) ?_
  exact ⟨rfl, H⟩
set_option maxRecDepth 100000 in
set_option maxHeartbeats 400000 in
theorem writeNil_any {b rc : Nat} {lr : Int} {RA : Option Addr} {k : List Nat} {A0 : Option Addr} {c0 : Nat} (hkl : k.length ≤ 140737488355328) (hrc : rc ≤ 9223372036854775807) {X : List Nat} {w0 : World} (hX : ∀ k ∈ X, k < w0.heap.size) (H0 : Sep X (keysR [.blk b (ca [.one (.slice RA k.length rc), .one (.int .i64 0), .one (.int .i8 lr)]) 88, .row (.slice RA k.length rc) 5 1 k.length (k.map bv)]) w0 w0 [.blk b (ca [.one (.slice RA k.length rc), .one (.int .i64 0), .one (.int .i8 lr)]) 88, .row (.slice RA k.length rc) 5 1 k.length (k.map bv)] []) :
    Calls Tryd.prog 49 #[.pointer (some ⟨b, 0, none⟩), .slice A0 0 c0] w0 fun e w' => e = .returned (.tuple #[.int .i64 0, .nilIface]) ∧ Sep X (keysR [.blk b (ca [.one (.slice RA k.length rc), .one (.int .i64 0), .one (.int .i8 lr)]) 88, .row (.slice RA k.length rc) 5 1 k.length (k.map bv)]) w0 w' [.blk b (ca [.one (.slice RA k.length rc), .one (.int .i64 0), .one (.int .i8 0)]) 88, .row (.slice RA k.length rc) 5 1 k.length (k.map bv)] [] := by
  refine calls_env Tryd.ntmps49 Tryd.func49 rfl rfl fun a E => ?_; replace E : Env a _ [(0, _), (1, _)] := E
  have H := H0
  have hcap : k.length ≤ rc := row_cap (H0.holds _ (by simp) : (Res.row (.slice RA k.length rc) 5 1 k.length (k.map bv)).holds w0)
  have hH := H0
  refine wp_seq_k fun K0 hK0 => ?_; refine S_region ?_; refine S_val E (pk_assign rfl rfl) rfl rfl rfl ?_; clear E a; intro a E; refine S_val E (pk_assign rfl rfl) rfl rfl rfl ?_; clear E a; intro a E; refine hK0 _ _ ?_; refine wp_seq_k fun K1 hK1 => ?_; refine S_region ?_; refine S_val E (pk_move rfl rfl) rfl rfl rfl ?_; clear E a; intro a E; refine S_val E (pk_nilck rfl rfl) rfl rfl rfl ?_; clear E a; intro a E; refine S_val E (pk_fieldAddr (off := 2) rfl rfl (by kernel_rfl)) rfl rfl rfl ?_; clear E a; intro a E; refine S_eff E rfl (fun K hK => ?_); refine eff_store 0 (new := [.one _]) E H rfl rfl rfl rfl rfl (by repeat (first | exact trivial | refine ⟨rfl, ?_⟩ | refine ⟨fun _ _ => rfl, ?_⟩)) rfl (by kernel_rfl) rfl ?_; clear H; intro w H _; replace H : Sep _ _ _ _ [_, _] _ := H; refine hK _ _ ?_; clear hK K; refine S_put0 rfl ?_; refine hK1 _ _ ?_; refine wp_seq_k fun K2 hK2 => ?_
  refine S_region ?_; refine S_val E (pk_move rfl rfl) rfl rfl rfl ?_; clear E a; intro a E; refine S_val E (pk_move rfl rfl) rfl rfl rfl ?_; clear E a; intro a E; refine S_val E (pk_len rfl rfl (by kernel_rfl)) rfl rfl rfl ?_; clear E a; intro a E; refine S_eff E rfl (fun K hK => ?_); refine eff_call E rfl rfl rfl (by kernel_rfl) ?_; refine (tryGrow0_any (b := b) (k := k) (rc := rc) (RA := RA) hkl hrc (Sep.giveA (L1 := [_, _]) (L := []) H).xlt (Sep.giveA (L1 := [_, _]) (L := []) H)).mono ?_; rintro e w ⟨rfl, H1⟩
  replace H := Sep.callA (L1 := [_, _]) (L := []) H H1
  clear H1; replace H : Sep _ _ _ _ [_, _] [] := H; refine hK _ _ ?_; clear hK K; refine S_put E rfl rfl ?_; clear E a; intro a E; refine S_val E (pk_move rfl rfl) rfl rfl rfl ?_; clear E a; intro a E; refine S_val E (pk_extract rfl rfl rfl) rfl rfl rfl ?_; clear E a; intro a E; refine S_val E (pk_extract rfl rfl rfl) rfl rfl rfl ?_; clear E a; intro a E; refine S_val E (pk_assign rfl rfl) rfl rfl rfl ?_; clear E a; intro a E; refine S_val E (pk_assign rfl rfl) rfl rfl rfl ?_; clear E a; intro a E; refine hK2 _ _ ?_; refine wp_seq_k fun K3 hK3 => ?_; refine wp_seq_k fun K4 hK4 => ?_; refine S_region ?_; refine S_val E (pk_move rfl rfl) rfl rfl rfl ?_; clear E a; intro a E; refine S_val E (pk_not rfl rfl) rfl rfl rfl ?_; clear E a; intro a E; refine hK4 _ _ ?_; refine S_else E rfl ?_; refine wp_skip ?_; refine hK3 _ _ ?_; refine wp_seq_k fun K5 hK5 => ?_; refine S_region ?_
  refine S_val E (pk_move rfl rfl) rfl rfl rfl ?_; clear E a; intro a E; refine S_val E (pk_nilck rfl rfl) rfl rfl rfl ?_; clear E a; intro a E; refine S_val E (pk_fieldAddr (off := 0) rfl rfl (by kernel_rfl)) rfl rfl rfl ?_; clear E a; intro a E; refine S_val E (pk_load1 H 0 rfl rfl rfl trivial rfl (by kernel_rfl)) rfl rfl rfl ?_; clear E a; intro a E; refine S_val E (pk_move rfl rfl) rfl rfl rfl ?_; clear E a; intro a E; refine S_val E (pk_sub_lo (sz := 1) (lo := k.length) rfl (by kernel_rfl) rfl rfl rfl (Nat.le_refl _)) rfl rfl rfl ?_; clear E a; intro a E; refine S_val E (pk_move rfl rfl) rfl rfl rfl ?_; clear E a; intro a E; refine S_eff E rfl (fun K hK => ?_); refine eff_copy0 E rfl rfl rfl (by kernel_rfl) ?_; refine hK _ _ ?_; clear hK K; refine S_put E rfl rfl ?_; clear E a; intro a E; refine S_val E (pk_assign rfl rfl) rfl rfl rfl ?_; clear E a; intro a E
  refine S_val E (pk_assign rfl rfl) rfl rfl rfl ?_; clear E a; intro a E; refine hK5 _ _ ?_; refine wp_ret ?_
  repeat (first | refine then_ret ?_ | refine block_ret ?_)
  refine ret2 rfl E (resT rfl) (resT rfl) ?_
  exact ⟨rfl, H⟩
end Go.Proofs.YtfolbgiekbimpaaDoor
namespace Go.Proofs.YtfolbgiekbimpaaDoor
open Go.Shelf
def lays180_ren : Go.Shelf.Ren := ⟨fun | 180 => 49 | 251 => 66 | 252 => 67 | 181 => 80 | 184 => 81 | 290 => 82 | 324 => 89 | n => n, fun | 130 => 113 | 37 => 32 | 3 => 3 | 75 => 90 | 0 => 0 | 93 => 88 | 91 => 86 | 131 => 114 | 4 => 4 | 20 => 20 | 5 => 5 | 80 => 154 | 9 => 9 | n => n, fun | 14 => 0 | n => n⟩
theorem lays180 : Go.Proofs.LaysM.n180 Tryd.prog lays180_ren := {
  mixed := by kernel_rfl
  f180 := Tryd.func49.trans (congrArg some (by kernel_rfl))
  f181 := Tryd.func80.trans (congrArg some (by kernel_rfl))
  f184 := Tryd.func81.trans (congrArg some (by kernel_rfl))
  f251 := Tryd.func66.trans (congrArg some (by kernel_rfl))
  f252 := Tryd.func67.trans (congrArg some (by kernel_rfl))
  f290 := Tryd.func82.trans (congrArg some (by kernel_rfl))
  f324 := Tryd.func89.trans (congrArg some (by kernel_rfl))
  t0 := Tryd.underlying0
  a0 := Tryd.isAgg0
  z0 := Tryd.sizeOf0
  v0 := Tryd.zeroValue0
  t3 := Tryd.underlying3
  a3 := Tryd.isAgg3
  z3 := Tryd.sizeOf3
  v3 := Tryd.zeroValue3
  t4 := Tryd.underlying4
  a4 := Tryd.isAgg4
  z4 := Tryd.sizeOf4
  v4 := Tryd.zeroValue4
  t20 := Tryd.underlying20
  a20 := Tryd.isAgg20
  z20 := Tryd.sizeOf20
  v20 := Tryd.zeroValue20
  t37 := Tryd.underlying32
  a37 := Tryd.isAgg32
  z37 := Tryd.sizeOf32
  v37 := Tryd.zeroValue32
  t75 := Tryd.underlying90
  a75 := Tryd.isAgg90
  z75 := Tryd.sizeOf90
  v75 := Tryd.zeroValue90
  t91 := Tryd.underlying86
  a91 := Tryd.isAgg86
  z91 := Tryd.sizeOf86
  v91 := Tryd.zeroValue86
  t93 := Tryd.underlying88
  a93 := Tryd.isAgg88
  z93 := Tryd.sizeOf88
  v93 := Tryd.zeroValue88
  t130 := Tryd.underlying113
  a130 := Tryd.isAgg113
  z130 := Tryd.sizeOf113
  v130 := Tryd.zeroValue113
  t131 := Tryd.underlying114
  a131 := Tryd.isAgg114
  z131 := Tryd.sizeOf114
  v131 := Tryd.zeroValue114
  g14 := by kernel_rfl
  t5 := Tryd.underlying5
  a5 := Tryd.isAgg5
  z5 := Tryd.sizeOf5
  v5 := Tryd.zeroValue5
  t9 := Tryd.underlying9
  a9 := Tryd.isAgg9
  z9 := Tryd.sizeOf9
  v9 := Tryd.zeroValue9
  t80 := Tryd.underlying154
  a80 := Tryd.isAgg154
  z80 := Tryd.sizeOf154
  v80 := Tryd.zeroValue154
  i0 := by kernel_rfl
  i3 := by kernel_rfl
  i4 := by kernel_rfl
  i5 := by kernel_rfl
  i9 := by kernel_rfl
  i20 := by kernel_rfl
  i37 := by kernel_rfl
  i75 := by kernel_rfl
  i80 := by kernel_rfl
  i91 := by kernel_rfl
  i93 := by kernel_rfl
  i130 := by kernel_rfl
  i131 := by kernel_rfl
  m14 := by kernel_rfl }
def lays183_ren : Go.Shelf.Ren := ⟨fun | 183 => 51 | n => n, fun | 130 => 113 | 37 => 32 | 0 => 0 | 93 => 88 | 3 => 3 | 5 => 5 | 91 => 86 | n => n, fun | n => n⟩
theorem lays183 : Go.Proofs.LaysM.n183 Tryd.prog lays183_ren := {
  mixed := by kernel_rfl
  f183 := Tryd.func51.trans (congrArg some (by kernel_rfl))
  t0 := Tryd.underlying0
  a0 := Tryd.isAgg0
  z0 := Tryd.sizeOf0
  v0 := Tryd.zeroValue0
  t3 := Tryd.underlying3
  a3 := Tryd.isAgg3
  z3 := Tryd.sizeOf3
  v3 := Tryd.zeroValue3
  t37 := Tryd.underlying32
  a37 := Tryd.isAgg32
  z37 := Tryd.sizeOf32
  v37 := Tryd.zeroValue32
  t93 := Tryd.underlying88
  a93 := Tryd.isAgg88
  z93 := Tryd.sizeOf88
  v93 := Tryd.zeroValue88
  t130 := Tryd.underlying113
  a130 := Tryd.isAgg113
  z130 := Tryd.sizeOf113
  v130 := Tryd.zeroValue113
  t5 := Tryd.underlying5
  a5 := Tryd.isAgg5
  z5 := Tryd.sizeOf5
  v5 := Tryd.zeroValue5
  t91 := Tryd.underlying86
  a91 := Tryd.isAgg86
  z91 := Tryd.sizeOf86
  v91 := Tryd.zeroValue86
  i0 := by kernel_rfl
  i3 := by kernel_rfl
  i5 := by kernel_rfl
  i37 := by kernel_rfl
  i91 := by kernel_rfl
  i93 := by kernel_rfl
  i130 := by kernel_rfl }
end Go.Proofs.YtfolbgiekbimpaaDoor
namespace Go.Proofs.YtfolbgiekbimpaaDoor
set_option linter.unusedSimpArgs false
set_option linter.unusedVariables false
open Go.RowKit

/-- A buffer that only this call has written. -/
def BufF (B b : Nat) (k : List Nat) (w : World) : Prop := Lib.IsBuffer 88 5 B b (k.map bv) w
def encT (ts : List (List Nat)) : List Nat := ts.flatMap fun t => beL 2 t.length ++ t
/-- Texts, each with its length ahead; or why not. -/
def textV (m : List Nat) (ts : List (List Nat)) : List Nat × Int := if ∀ t ∈ ts, t.length ≤ 65535 then (m ++ encT ts, 0) else ([], 4)
theorem beL2_len (n : Nat) : (beL 2 n).length = 2 := by simp [beL, beK]
theorem encT_succ {ts : List (List Nat)} {i : Nat} {t : List Nat} (h : ts[i]? = some t) : encT (ts.take (i + 1)) = encT (ts.take i) ++ beL 2 t.length ++ t := by
  unfold encT
  rw [List.take_add_one, h, List.flatMap_append]
  simp
theorem encT_len (ts : List (List Nat)) (h : ∀ t ∈ ts, t.length ≤ 65535) : (encT ts).length ≤ 65537 * ts.length := by
  induction ts with
  | nil => simp [encT]
  | cons t ts ih =>
    have h1 := ih fun x hx => h x (List.mem_cons_of_mem _ hx)
    have h2 := h t (List.mem_cons_self ..)
    have h3 : (beL 2 t.length).length = 2 := by simp [beL, beK]
    have e : encT (t :: ts) = beL 2 t.length ++ t ++ encT ts := by simp [encT]
    rw [e, List.length_append, List.length_append, h3, List.length_cons]
    omega
theorem encT_byte (ts : List (List Nat)) (h : ∀ t ∈ ts, ∀ x ∈ t, x < 256) : ∀ x ∈ encT ts, x < 256 := fun x hx => by
  obtain ⟨t, ht, hx⟩ := List.mem_flatMap.1 hx
  rcases List.mem_append.1 hx with h1 | h1
  · exact beL_lt _ _ x h1
  · exact h t ht x h1
section
variable {X : List Nat} {w0 w w' : World} {L : List Res} {R : List (World → Prop)} {B b c : Nat} {k m : List Nat} {A : Option Addr} {Y : List Nat}
theorem buf_st (h : BufF B b k w) (hX : ∀ i ∈ X, i < B) : St (BufF B b k) w X := fun w2 hk => by
  obtain ⟨hB, v, lr, hb, hrow, hne⟩ := h
  refine ⟨hB, v, lr, (hk b (lt_of_block hb) fun hm => by have := hX b hm; omega).trans hb, ⟨hrow.1, ?_⟩, hne⟩
  rcases hrow.2 with h2 | ⟨g, cap, cur, rfl, h3, hh, h4⟩
  · exact .inl h2
  · exact .inr ⟨g, cap, cur, rfl, h3, (hk g (lt_of_block hh) fun hm => by have := hX g hm; omega).trans hh, h4⟩
theorem buf_sep (hX : ∀ i ∈ X, i < w0.heap.size) (hb : Below w0.heap.size w0 w) (h : BufF w0.heap.size b k w) (hf : ∀ r ∈ R, St r w0 X) : Sep X [] w0 w [] (BufF w0.heap.size b k :: R) :=
  ⟨Frm.of_below hb, hX, fun _ h => (by cases h), List.nodup_nil, fun _ h => (by cases h), fun r hr => by
    rw [keysR, List.append_nil]
    rcases List.mem_cons.1 hr with rfl | hr
    · exact buf_st h hX
    · exact (hf r hr).step hb.size (fun i hi _ => hb.block i hi) fun i hi => .inl hi⟩
theorem buf_of_blk (H : Sep X [] w0 w (.blk b (ca [.one (.slice none 0 0), .one (.int .i64 0), .one (.int .i8 0)]) 88 :: L) R) : Sep X [] w0 w L (BufF w0.heap.size b [] :: R) := by
  have hm : w0.heap.size ≤ b := by
    rcases H.mine b (by simp [keysR, Res.keys]) with h | h
    · cases h
    · exact h
  have hf := H.freezeX (Sep.new_x H)
  refine hf.pop.know ((hf.facts _ (List.mem_cons_self ..)).imp fun w2 h => ⟨hm, .slice none 0 0, 0, h, World.ownsRow_nil _ _ _ _, by simp [Value.ownBlock]⟩)
theorem bufWrite_any (H : Sep X [] w0 w [] (BufF w0.heap.size b k :: R)) (hf : ∀ r ∈ R, St r w0 X) (hm : TxF A c m w) (hne : m ≠ [] → ∀ ad, A = some ad → ad.block ≠ b) (hl : k.length + m.length ≤ 140737488355328) :
    Calls Tryd.prog 49 #[.pointer (some ⟨b, 0, none⟩), .slice A m.length c] w fun e w' => ∃ z, e = .returned z ∧ Sep X [] w0 w' [] (BufF w0.heap.size b (k ++ m) :: R) := by
  have hI : BufF w0.heap.size b k w := (H.facts _ (List.mem_cons_self ..)).now
  have hB := H.frm.below
  by_cases h0 : m = []
  · subst h0
    obtain ⟨hb, v, lr, hh, hrow, hne2⟩ := hI
    have hrow' := hrow
    rw [List.length_map] at hrow'
    obtain ⟨RA, rc, hv, hrc⟩ : ∃ RA rc, v = .slice RA k.length rc ∧ rc ≤ 9223372036854775807 := by
      rcases hrow'.2 with ⟨h1, h2⟩ | ⟨g, cap, cur, h1, h3, _, _, h5, _⟩
      · exact ⟨none, 0, by rw [h1, h2], by omega⟩
      · exact ⟨_, _, h1, by unfold maxLen at h5; omega⟩
    subst hv
    have hap : ∀ g, (Value.slice RA k.length rc).ownBlock = some g → g ≠ b ∧ w0.heap.size ≤ g := fun g hg => ⟨fun e => hne2 (by rw [hg, e]), (World.ownsRow.lt hrow' g hg).1⟩
    have HS : Sep [] (keysR [.blk b (ca [.one (.slice RA k.length rc), .one (.int .i64 0), .one (.int .i8 lr)]) 88, .row (.slice RA k.length rc) 5 1 k.length (k.map bv)]) w w [.blk b (ca [.one (.slice RA k.length rc), .one (.int .i64 0), .one (.int .i8 lr)]) 88, .row (.slice RA k.length rc) 5 1 k.length (k.map bv)] [] :=
      ⟨Frm.refl _ _, fun _ h => (by cases h), fun r hr => by
        simp only [List.mem_cons, List.not_mem_nil, or_false] at hr
        rcases hr with rfl | rfl
        · exact hh
        · refine ⟨hrow'.1, ?_⟩
          rcases hrow'.2 with h2 | ⟨g, cap, cur, h1, h3, h4⟩
          · exact .inl h2
          · exact .inr ⟨g, cap, cur, h1, Nat.zero_le _, h4⟩, by
        cases hq : (Value.slice RA k.length rc).ownBlock with
        | none => simp [keysR, Res.keys, hq]
        | some g => have := (hap g hq).1; simp [keysR, Res.keys, hq, Ne.symm this], fun k hk => .inl hk, fun _ h => (by cases h)⟩
    refine (writeNil_any (k := k) (by simpa using hl) hrc (fun _ h => by cases h) HS).mono ?_
    rintro e w2 ⟨rfl, H2⟩
    refine ⟨_, rfl, ?_⟩
    rw [List.append_nil]
    have hlt := hB.size
    refine buf_sep H.xlt ⟨H2.frm.os.trans hB.os, H2.frm.tape.trans hB.tape, H2.frm.output.trans hB.output, Nat.le_trans hlt H2.frm.size, fun i hi => (H2.frm.block i (by omega) fun hm => ?_).trans (hB.block i hi)⟩ ⟨hb, .slice RA k.length rc, 0, H2.holds (.blk b (ca [.one (.slice RA k.length rc), .one (.int .i64 0), .one (.int .i8 0)]) 88) (by simp), ?_, hne2⟩ hf
    · simp only [keysR, Res.keys, List.mem_append, List.mem_singleton, Option.mem_toList, List.not_mem_nil, or_false] at hm
      rcases hm with h | h
      · omega
      · have := (hap i h).2; omega
    · have h2 : w2.ownsRow 0 5 1 (.slice RA k.length rc) k.length (k.map bv) := H2.holds (.row (.slice RA k.length rc) 5 1 k.length (k.map bv)) (by simp)
      rw [List.length_map]
      refine ⟨h2.1, ?_⟩
      rcases h2.2 with h3 | ⟨g, cap, cur, h1, h3, h4⟩
      · exact .inl h3
      · exact .inr ⟨g, cap, cur, h1, (hap g (by rw [h1]; rfl)).2, h4⟩
  · have hpos : 0 < m.length := List.length_pos_iff.2 h0
    cases A with
    | none => have := (hm.nil rfl).1; omega
    | some ad =>
      have h := Any.Buffer_Write_any lays180 w0.heap.size b (k.map bv) (m.map bv) ad m.length c w hI hB.size (fun v hv => by obtain ⟨z, _, rfl⟩ := List.mem_map.1 hv; rfl) (by simp) (hne h0 ad rfl)
        (by have := txF_cells (m := m.length) hm ad rfl; rwa [List.take_length] at this) (fun v hv => by obtain ⟨z, _, rfl⟩ := List.mem_map.1 hv; rfl) (by simpa using hl)
      refine Calls.mono h ?_
      rintro e w2 ⟨rfl, h1, h2, -⟩
      refine ⟨_, rfl, buf_sep H.xlt (hB.trans h2) ?_ hf⟩
      unfold BufF
      rw [List.map_append]
      exact h1
theorem bufBytes_any (H : Sep X [] w0 w [] (BufF w0.heap.size b k :: R)) (hf : ∀ r ∈ R, St r w0 X) (hl : k.length ≤ 140737488355328) (hk : ∀ x ∈ k, x < 256) :
    Calls Tryd.prog 51 #[.pointer (some ⟨b, 0, none⟩)] w fun e w' => ∃ A' c', e = .returned (.slice A' k.length c') ∧ Sep X [] w0 w' [] [TxF A' c' k] := by
  have hI : BufF w0.heap.size b k w := (H.facts _ (List.mem_cons_self ..)).now
  have h := Any.Buffer_Bytes lays183 w0.heap.size b (k.map bv) w hI
  refine Calls.mono h ?_
  rintro e w2 ⟨v, rfl, h1, n, rfl⟩
  have h1' : (w.drewN n).ownsRow w0.heap.size 5 1 v k.length (k.map bv) := by have := h1; rwa [List.length_map] at this
  have hb : Below w0.heap.size w0 (w.drewN n) := H.frm.below.trans ⟨rfl, rfl, rfl, Nat.le_refl _, fun _ _ => rfl⟩
  obtain ⟨A', c', rfl, h2⟩ := own_sep (X := X) (w0 := w0) (k := k) H.xlt h1' hb
  exact ⟨A', c', rfl, h2.rowTx (Sep.new_x h2) hl hk⟩
theorem put2_any (hX : ∀ i ∈ X, i < w0.heap.size) {n : Nat} (hn : n < 18446744073709551616) :
    Calls Tryd.prog 50 #[.slice none 0 0, .int .i64 2, .int .u64 ((n : Nat) : Int)] w0 fun e w' => ∃ A' c', e = .returned (.slice A' (beL 2 n).length c') ∧ Sep X [] w0 w' [] [TxF A' c' (beL 2 n)] ∧ ∀ q, q < w0.heap.size → ∀ ad, A' = some ad → ad.block ≠ q := by
  refine (put_any (.slice none 0 0) [] w0.heap.size 2 n (by omega) hn (by decide) w0 Own.nil_ (Nat.le_refl _)).mono ?_
  rintro e w2 ⟨⟨v, rfl, ho⟩, hb⟩
  rw [List.nil_append] at ho
  have hlt := ho.lt
  obtain ⟨A', c', rfl, h2⟩ := own_sep (X := X) hX ho hb
  refine ⟨A', c', rfl, h2.rowTx (Sep.new_x h2) (by simp [beL, beK]) (beL_lt _ _), fun q hq ad hA e => ?_⟩
  subst hA
  have h3 := ho.2
  rcases h3 with ⟨h4, _⟩ | ⟨g, cap, cur, h4, h5, _⟩
  · cases h4
  · injection h4 with h4
    injection h4 with h4
    subst h4
    simp only at e
    omega
end
set_option maxRecDepth 100000 in
set_option maxHeartbeats 600000 in
theorem Text_any {A TA : Option Addr} {c0 tc : Nat} {m0 : List Nat} {ts : List (List Nat)} {tm : Nat → TextT.μ} (hm0 : m0.length ≤ 100000000) (hts : ts.length ≤ 1000000) {X : List Nat} {w0 : World} (hX : ∀ k ∈ X, k < w0.heap.size) (hA : St (TxF A c0 m0) w0 X) (hL : St (LiF TextT TA tc ts tm) w0 X) :
    Calls Tryd.prog 32 #[.slice A m0.length c0, .slice TA ts.length tc] w0 fun e w' => ∃ A' c', e = .returned (.tuple #[.slice A' (textV m0 ts).1.length c', .int .i64 (textV m0 ts).2]) ∧ Sep X [] w0 w' [] [TxF A' c' (textV m0 ts).1] := by
  refine calls_env Tryd.ntmps32 Tryd.func32 rfl rfl fun a E => ?_; replace E : Env a _ [(0, _), (1, _)] := E
  have H : Sep X [] w0 w0 [] [(TxF A c0 m0), (LiF TextT TA tc ts tm)] := Sep.start hX (List.forall_mem_cons.2 ⟨hA, List.forall_mem_cons.2 ⟨hL, fun _ h => by cases h⟩⟩)
  refine wp_seq_k fun K0 hK0 => ?_; refine S_region ?_; refine S_val E (pk_assign rfl rfl) rfl rfl rfl ?_; clear E a; intro a E; refine S_val E (pk_assign rfl rfl) rfl rfl rfl ?_; clear E a; intro a E; refine hK0 _ _ ?_; refine wp_seq_k fun K1 hK1 => ?_; refine S_region ?_; refine S_eff E rfl (fun K hK => ?_); refine eff_alloc (z := [.one (.slice none 0 0), .one (.int .i64 0), .one (.int .i8 0)]) H rfl (by kernel_rfl) ?_; clear H; intro b6 w H _; refine hK _ _ ?_; clear hK K; refine S_put E rfl rfl ?_; clear E a; intro a E
  replace H := buf_of_blk H
  replace H : Sep _ _ _ _ [] [_, _, _] := H
  have hb6 : w0.heap.size ≤ b6 := (St.now (H.fact 0 rfl)).1
  refine hK1 _ _ ?_; refine wp_seq_k fun K2 hK2 => ?_; refine S_region ?_; refine S_val E (pk_move rfl rfl) rfl rfl rfl ?_; clear E a; intro a E; refine S_eff E rfl (fun K hK => ?_); refine eff_call E rfl rfl rfl (by kernel_rfl) ?_
  have HB := H.refacts (R' := [_, _, _]) (List.forall_mem_cons.2 ⟨H.fact 0 rfl, List.forall_mem_cons.2 ⟨H.fact 1 rfl, List.forall_mem_cons.2 ⟨H.fact 2 rfl, List.forall_mem_nil _⟩⟩⟩)
  refine (bufWrite_any (k := []) HB (List.forall_mem_cons.2 ⟨hA, List.forall_mem_cons.2 ⟨hL, List.forall_mem_nil _⟩⟩) (St.now (H.fact 1 rfl)) (fun hne0 ad hA2 => by obtain ⟨z, hz⟩ := List.exists_mem_of_ne_nil _ hne0; obtain ⟨q, hq⟩ := List.mem_iff_getElem?.1 hz; have h1 := World.block_lt_of_cell? _ _ (hA.now.at_ ad hA2 q z hq); rw [add_block] at h1; omega) (by simp only [List.length_nil]; omega)).mono ?_; rintro e w ⟨z24, rfl, H1⟩
  replace H := H1
  clear H1; replace H : Sep _ _ _ _ [] [_, _, _] := H; refine hK _ _ ?_; clear hK K; refine S_put E rfl rfl ?_; clear E a; intro a E; clear HB; refine hK2 _ _ ?_; refine wp_seq_k fun K3 hK3 => ?_; refine wp_seq_k fun K4 hK4 => ?_; refine S_region ?_; refine S_val E (pk_move rfl rfl) rfl rfl rfl ?_; clear E a; intro a E; refine S_val E (pk_len rfl rfl (by kernel_rfl)) rfl rfl rfl ?_; clear E a; intro a E; refine S_val E (pk_move rfl rfl) rfl rfl rfl ?_; clear E a; intro a E; refine hK4 _ _ ?_; refine wp_block ?_
  refine S_loopI (γ := Nat) [6, 11, 12] (fun i => [(13, .int .i64 (i : Int))]) (fun i => []) (fun i => [BufF w0.heap.size b6 (m0 ++ encT (ts.take i)), TxF A c0 m0, LiF TextT TA tc ts tm]) (fun i => i ≤ ts.length ∧ ∀ t ∈ ts.take i, t.length ≤ 65535) (fun i => ts.length - i) (0) E (by show Sep _ _ _ _ [] [BufF _ _ (m0 ++ encT (ts.take 0)), _, _]; rw [List.take_zero, show encT [] = [] from rfl, List.append_nil]; exact H) (by repeat (first | exact trivial | refine ⟨rfl, ?_⟩)) (⟨Nat.zero_le _, fun t ht => by simp at ht⟩) ?_; clear E H; intro i a w E H hφ; replace E : Env a _ [(13, _), (6, _), (11, _), (12, _)] := E; replace H : Sep _ _ _ _ [] [_, _, _] := H
  obtain ⟨hφ, hsm⟩ := hφ
  refine wp_seq_k fun K5 hK5 => ?_; refine S_region ?_; refine S_val E (pk_int rfl rfl rfl rfl) rfl rfl rfl ?_; clear E a; intro a E; refine hK5 _ _ ?_; refine wp_seq_k fun K6 hK6 => ?_; refine env_split (d := 14) E rfl ?_ ?_
  · skip
    clear E; intro c14 E
    have hi : i < ts.length := by have := c14; simp only [decide_eq_true_eq] at this; omega
    have hx0 : ts[i]? = some ts[i] := List.getElem?_eq_getElem hi
    obtain ⟨adi, hti⟩ := LiF.get hL hx0
    obtain ⟨_, hti⟩ := hti
    have hel : (m0 ++ encT (ts.take i)).length = m0.length + (encT (ts.take i)).length := List.length_append ..
    have hel2 := encT_len (ts.take i) hsm
    rw [List.length_take] at hel2
    refine S_then E rfl ?_; refine wp_skip ?_; refine hK6 _ _ ?_; refine wp_seq_k fun K7 hK7 => ?_; refine wp_block ?_; refine wp_seq_k fun K8 hK8 => ?_; refine S_region ?_
    obtain ⟨ad15, hA15, hc15, hn15⟩ := LiF.get (A := TA) (T := TextT) (i := i) (x := ts[i]) (by exact H.fact 2 rfl) hx0
    refine S_val E (pk_elA (sz := 1) hA15 rfl (by kernel_rfl) rfl rfl rfl (by omega)) rfl rfl rfl ?_; clear E a; intro a E
    replace H := (H.know hn15).know hc15
    clear hn15 hc15; replace H : Sep _ _ _ _ _ [_, _, _, _, _] := H; refine S_val E (pk_loadE1 (H.fact 0 rfl) (fun _ _ _ => trivial) rfl rfl rfl (by kernel_rfl)) rfl rfl rfl ?_; clear E a; intro a E; refine S_val E (pk_assign rfl rfl) rfl rfl rfl ?_; clear E a; intro a E; refine hK8 _ _ ?_; refine wp_seq_k fun K9 hK9 => ?_; refine wp_seq_k fun K10 hK10 => ?_; refine S_region ?_; refine S_val E (pk_move rfl rfl) rfl rfl rfl ?_; clear E a; intro a E; refine S_val E (pk_len rfl rfl (by kernel_rfl)) rfl rfl rfl ?_; clear E a; intro a E; refine S_val E (pk_int rfl rfl rfl rfl) rfl rfl rfl ?_; clear E a; intro a E; refine hK10 _ _ ?_; refine env_split (d := 19) E rfl ?_ ?_
    · skip
      clear E; intro c19 E
      have hbig : ¬ ts[i].length ≤ 65535 := by have := c19; simp only [decide_eq_true_eq] at this; omega
      have htv : textV m0 ts = ([], 4) := by unfold textV; rw [if_neg (fun h => hbig (h _ (List.getElem_mem hi)))]
      refine S_then E rfl ?_; refine wp_seq_k fun K11 hK11 => ?_; refine S_region ?_; refine S_val E (pk_assign rfl rfl) rfl rfl rfl ?_; clear E a; intro a E; refine S_val E (pk_assign rfl rfl) rfl rfl rfl ?_; clear E a; intro a E; refine hK11 _ _ ?_; refine wp_ret ?_
      repeat (first | refine then_ret ?_ | refine block_ret ?_)
      refine ret2 rfl E (resT rfl) (resT rfl) ?_
      rw [htv]
      exact ⟨none, 0, rfl, (H.know txF_nil).refacts (List.forall_mem_cons.2 ⟨txF_nil, List.forall_mem_nil _⟩)⟩
    · skip
      clear E; intro c19 E
      have hle : ts[i].length ≤ 65535 := by have := c19; simp only [decide_eq_false_iff_not] at this; omega
      refine S_else E rfl ?_; refine wp_skip ?_; refine hK9 _ _ ?_; refine wp_seq_k fun K12 hK12 => ?_; refine S_region ?_; refine S_val E (pk_move rfl rfl) rfl rfl rfl ?_; clear E a; intro a E; refine S_val E (pk_len rfl rfl (by kernel_rfl)) rfl rfl rfl ?_; clear E a; intro a E; refine S_val E (pk_convw rfl rfl (by kernel_rfl) (by kernel_rfl) (wU64 (by omega) (by omega))) rfl rfl rfl ?_; clear E a; intro a E; refine S_eff E rfl (fun K hK => ?_); refine eff_call E rfl rfl rfl (by kernel_rfl) ?_
      have hbl : b6 < w.heap.size := Lib.IsBuffer.lt (St.now (H.fact 2 rfl))
      refine (put2_any (n := ts[i].length) H.xk (by omega)).mono ?_; rintro e w ⟨A23, c23, rfl, H1, hq23⟩
      replace H := H.call H1
      clear H1; replace H : Sep _ _ _ _ [] [_, _, _, _, _, _] := H; refine hK _ _ ?_; clear hK K; refine S_put E rfl rfl ?_; clear E a; intro a E
      have hne23 := hq23 _ hbl
      clear hq23 hbl; refine S_eff E rfl (fun K hK => ?_); refine eff_call E rfl rfl rfl (by kernel_rfl) ?_
      have HB := H.refacts (R' := [_, _, _]) (List.forall_mem_cons.2 ⟨H.fact 3 rfl, List.forall_mem_cons.2 ⟨H.fact 4 rfl, List.forall_mem_cons.2 ⟨H.fact 5 rfl, List.forall_mem_nil _⟩⟩⟩)
      refine (bufWrite_any (k := (m0 ++ encT (ts.take i))) HB (List.forall_mem_cons.2 ⟨hA, List.forall_mem_cons.2 ⟨hL, List.forall_mem_nil _⟩⟩) (St.now (H.fact 0 rfl)) (fun _ => hne23) (by rw [hel, beL2_len]; omega)).mono ?_; rintro e w ⟨z24, rfl, H1⟩
      replace H := H1
      clear H1; replace H : Sep _ _ _ _ [] [_, _, _] := H; refine hK _ _ ?_; clear hK K; refine S_put E rfl rfl ?_; clear E a; intro a E; clear HB; refine hK12 _ _ ?_; refine S_region ?_; refine S_val E (pk_move rfl rfl) rfl rfl rfl ?_; clear E a; intro a E; refine S_eff E rfl (fun K hK => ?_); refine eff_call E rfl rfl rfl (by kernel_rfl) ?_
      have HB := H.refacts (R' := [_, _, _]) (List.forall_mem_cons.2 ⟨H.fact 0 rfl, List.forall_mem_cons.2 ⟨H.fact 1 rfl, List.forall_mem_cons.2 ⟨H.fact 2 rfl, List.forall_mem_nil _⟩⟩⟩)
      refine (bufWrite_any (k := ((m0 ++ encT (ts.take i)) ++ beL 2 ts[i].length)) HB (List.forall_mem_cons.2 ⟨hA, List.forall_mem_cons.2 ⟨hL, List.forall_mem_nil _⟩⟩) (St.now (hti.2.step H.frm.size (fun q hq _ => H.frm.block q hq (by simp)) (fun q hq => .inl hq))) (fun hne0 ad hA2 => by obtain ⟨z, hz⟩ := List.exists_mem_of_ne_nil _ hne0; obtain ⟨q, hq⟩ := List.mem_iff_getElem?.1 hz; have h1 := World.block_lt_of_cell? _ _ (hti.2.now.at_ ad hA2 q z hq); rw [add_block] at h1; omega) (by rw [List.length_append, hel, beL2_len]; omega)).mono ?_; rintro e w ⟨z24, rfl, H1⟩
      replace H := H1
      clear H1; replace H : Sep _ _ _ _ [] [_, _, _] := H; refine hK _ _ ?_; clear hK K; refine S_put E rfl rfl ?_; clear E a; intro a E; clear HB; refine hK7 _ _ ?_; refine S_region ?_; refine S_val E (pk_intw rfl rfl rfl rfl (wI64 (by omega) (by omega))) rfl rfl rfl ?_; clear E a; intro a E; refine S_val E (pk_move rfl rfl) rfl rfl rfl ?_; clear E a; intro a E
      rw [show (m0 ++ encT (ts.take i)) ++ beL 2 ts[i].length ++ ts[i] = m0 ++ encT (ts.take (i + 1)) from by rw [encT_succ hx0]; simp only [List.append_assoc]] at H
      refine loop_end ?_
      exact ⟨i + 1, ⟨E.to (by repeat (first | exact trivial | refine ⟨rfl, ?_⟩)), H, ⟨by omega, fun t ht => by rw [List.take_add_one, hx0] at ht; rcases List.mem_append.1 ht with h1 | h1; exact hsm t h1; simp only [Option.toList_some, List.mem_singleton] at h1; subst h1; exact hle⟩⟩, by omega⟩
  · skip
    clear E; intro c14 E
    obtain rfl : i = ts.length := by have := c14; simp only [decide_eq_false_iff_not] at this; omega
    rw [List.take_length] at H hsm
    have hall := hsm
    have htv : textV m0 ts = (m0 ++ encT ts, 0) := by unfold textV; rw [if_pos hall]
    have hbyte : ∀ x ∈ m0 ++ encT ts, x < 256 := fun x hx => by
      rcases List.mem_append.1 hx with h1 | h1
      · exact hA.now.byt x h1
      · exact encT_byte ts (fun t ht => by
          obtain ⟨q, hq⟩ := List.mem_iff_getElem?.1 ht
          obtain ⟨_, _, _, h3⟩ := LiF.get hL hq
          exact (St.now h3 : TxF _ _ _ _).byt) x h1
    refine S_else E rfl ?_; refine wp_exit ?_
    repeat (first | refine then_exit ?_ | refine block_hit ?_ | refine block_miss (by decide) ?_)
    refine hK3 _ _ ?_; refine wp_seq_k fun K13 hK13 => ?_; refine S_region ?_; refine S_eff E rfl (fun K hK => ?_); refine eff_call E rfl rfl rfl (by kernel_rfl) ?_; refine (bufBytes_any (k := m0 ++ encT ts) H (List.forall_mem_cons.2 ⟨hA, List.forall_mem_cons.2 ⟨hL, List.forall_mem_nil _⟩⟩) (by rw [List.length_append]; have := encT_len ts hall; omega) hbyte).mono ?_; rintro e w ⟨A28, c28, rfl, H1⟩
    replace H := H1
    clear H1; replace H : Sep _ _ _ _ [] [_] := H; refine hK _ _ ?_; clear hK K; refine S_put E rfl rfl ?_; clear E a; intro a E; refine S_val E (pk_assign rfl rfl) rfl rfl rfl ?_; clear E a; intro a E; refine S_val E (pk_assign rfl rfl) rfl rfl rfl ?_; clear E a; intro a E; refine hK13 _ _ ?_; refine wp_ret ?_
    repeat (first | refine then_ret ?_ | refine block_ret ?_)
    refine ret2 rfl E (resT rfl) (resT rfl) ?_
    rw [htv]
    exact ⟨A28, c28, rfl, H⟩
end Go.Proofs.YtfolbgiekbimpaaDoor
namespace Go.Proofs.YtfolbgiekbimpaaDoor
set_option linter.unusedSimpArgs false
set_option linter.unusedVariables false
open Go.RowKit

def streamL : List Nat := [115, 116, 114, 101, 97, 109]
def sumL : List Nat := [115, 117, 109]
/-- A key's keys: the stream's, and its nonce; the sum's. -/
def keyS (gt : Nat → Nat) (k : List Nat) : List Nat := expV gt k streamL 28
def keyM (gt : Nat → Nat) (k : List Nat) : List Nat := expV gt k sumL 32
def okT (ts : List (List Nat)) : Prop := ∀ t ∈ ts, t.length ≤ 65535
instance (ts : List (List Nat)) : Decidable (okT ts) := by unfold okT; infer_instance
def tagV (gt : Nat → Nat) (sum hid : List Nat) (ts : List (List Nat)) : List Nat := (macV gt sum [encT ts ++ beL 4 ts.length, hid]).take 16
def tagR (gt : Nat → Nat) (sum hid : List Nat) (ts : List (List Nat)) : List Nat × Int := if okT ts then (tagV gt sum hid ts, 0) else ([], 4)
theorem textV_ok {m : List Nat} {ts : List (List Nat)} (h : okT ts) : textV m ts = (m ++ encT ts, 0) := by unfold textV; exact if_pos h
theorem textV_no {m : List Nat} {ts : List (List Nat)} (h : ¬ okT ts) : textV m ts = ([], 4) := by unfold textV; exact if_neg h
theorem tagV_len (gt : Nat → Nat) (sum hid : List Nat) (ts : List (List Nat)) : (tagV gt sum hid ts).length = 16 := by unfold tagV; rw [List.length_take, macV_len]; rfl
theorem tagV_byte (gt : Nat → Nat) (sum hid : List Nat) (ts : List (List Nat)) : ∀ x ∈ tagV gt sum hid ts, x < 256 := fun x hx => macV_byte _ _ _ x (List.mem_of_mem_take hx)
attribute [local irreducible] macV expV
section
variable {P : Program} {o : Oper} {a : Act} {w ws : World} {Q : Exit → Act → World → Prop} {N d : Nat} {l : List (Nat × Value)} {v : Value} {S : Nat → Prop} {K : Act → World → Prop} {x y : Operand}
  {X G : List Nat} {w0 : World} {L L' : List Res} {R : List (World → Prop)}
theorem heap_freeze {b e n : Nat} {C : Array Value} (h : w.heap[b]? = some (.cells C e (0, 0))) : (w.freeze ⟨b, n, none⟩ 1).heap[b]? = some (.cells C e (n, n + 1)) ∧ Frm [b] w (w.freeze ⟨b, n, none⟩ 1) := by
  unfold World.freeze
  rw [if_neg (by decide)]
  refine ⟨?_, rfl, rfl, rfl, by simp, fun k _ hn => ?_⟩
  · show (w.heap.modify b _)[b]? = _
    rw [Array.getElem?_modify, if_pos rfl, h]
    rfl
  · show (w.heap.modify b _)[k]? = _
    rw [Array.getElem?_modify, if_neg (fun e => hn (by rw [← e]; exact List.mem_singleton.2 rfl))]
/-- A constant's bytes: read from now on. -/
theorem eff_const {t e b n c : Nat} {cs : List Chunk} (i : Nat) (E : Env a N l) (H : Sep X [] w0 w L R) (ho : o.op = .convert t t x) (hx : ev l x = some (.slice (some ⟨b, 0, none⟩) n c)) (ht : P.underlying t = some (.slice e)) (he : P.underlying e = some (.int .u8)) (hi : L[i]? = some (.blk b (ca cs) e))
    (hL : L.eraseIdx i = L') (h : ∀ w', Sep X [] w0 w' L' (AtC ⟨b, 0, none⟩ cs :: R) → Frm [b] w w' → K (a.put o.dst (.slice (some ⟨b, 0, none⟩) n c)) w') : o.wp P a w K Q := by
  subst hL
  have hb : w.heap[b]? = some (.cells (ca cs) e (0, 0)) := H.holds _ (List.mem_of_getElem? hi)
  have hsh : w.shape? b = some (e, (ca cs).size) := by unfold World.shape?; rw [hb]
  obtain ⟨h1, h2⟩ := heap_freeze (n := (ca cs).size) hb
  have hr : (convert t t (.slice (some ⟨b, 0, none⟩) n c)).run P w = .ok (.slice (some ⟨b, 0, none⟩) n c) (w.freeze ⟨b, (ca cs).size, none⟩ 1) := by
    simp [convert, run_underlying ht, run_underlying he, markStringish, hsh]
  unfold Oper.wp execOp
  simp only [ho, E.ev hx, Sem.run_bind, hr, Result.andThen_ok, Sem.run_pure]
  have H1 := (H.at_ i _ hi).turn (q' := .obj b (.cells (ca cs) e ((ca cs).size, (ca cs).size + 1))) h2 h1 (by simp [Res.keys]) (by simp [Res.keys])
  have hf := H1.freezeX (Sep.new_x H1)
  exact h _ (hf.pop.know ((hf.facts _ (List.mem_cons_self ..)).imp fun w2 hw => at_blk (t := e) hw)) h2
theorem pk_subPh {t N sz hi : Nat} {ad : Addr} {j : Int} (ho : o.op = .slice t x none (some y) none) (ht : arK P t = some (N, sz)) (hx : ev l x = some (.pointer (some ad))) (hy : ev l y = some (.int .i64 j)) (hj : j = (hi : Int)) (hh : hi ≤ N) : PK P S ws l o (.slice (some ad) hi N) := fun w' _ a _ E => by
  obtain ⟨e, h1, h2⟩ := arK_of ht
  unfold execOp
  rw [ho]
  simp only [E.ev hx, E.ev hy, Instr.sliceAt, Instr.sliceBounds, Instr.sureAddr, Option.map_none, Option.map_some, Sem.run_bind, Sem.run_pure, Result.andThen_ok, run_underlying h1, run_sizeOf_of h2, run_bound hj hh, Nat.zero_mul, addr_add_zero, ite_self, Nat.sub_zero]
end
section
variable {X : List Nat} {w0 : World} {A : Option Addr} {c : Nat} {k : List Nat}
theorem num4_any (hX : ∀ i ∈ X, i < w0.heap.size) (h : St (TxF A c k) w0 X) (hk : k.length ≤ 100000000000) {n q : Nat} (hn : n < 4294967296) (hq : AtC ⟨q, 0, none⟩ [.one (.int .u64 ((n : Nat) : Int))] w0) :
    Calls Tryd.prog 57 #[.slice A k.length c, .int .i64 4, .slice (some ⟨q, 0, none⟩) 1 1] w0 fun e w' => ∃ A' c', e = .returned (.tuple #[.slice A' (k ++ beL 4 n).length c', .int .i64 0]) ∧ Sep X [] w0 w' [] [TxF A' c' (k ++ beL 4 n)] := by
  have hc : w0.cell? ⟨q, 0, none⟩ = some (.int .u64 ((n : Nat) : Int)) := by have := hq 0 _ rfl; rwa [addr_add_zero] at this
  refine (Num_txt A k.length c k hk 4 n (by omega) (by omega) (by omega) (by show n < 256 ^ 4; omega) q w0 (World.block_lt_of_cell? _ _ hc) hc h.now.txt).mono ?_
  rintro e w2 ⟨v, rfl, ho, hb⟩
  obtain ⟨A', c', rfl, h2⟩ := own_sep (X := X) hX ho hb
  exact ⟨A', c', rfl, h2.rowTx (Sep.new_x h2) (by rw [List.length_append]; simp [beL, beK]; omega) (fun x hx => by rcases List.mem_append.1 hx with h1 | h1; exact h.now.byt x h1; exact beL_lt _ _ x h1)⟩
theorem arr_ca (n : Nat) (f : Nat → Nat) : arr .u8 n (fun i => ((f i : Nat) : Int)) = ca [.row n fun i => bv (f i)] := by simp [arr, arrV, ca, cl, Chunk.cells, bv]
/-- A text, by a key's stream. -/
def strV (x : List Nat) (l : List Nat) : List Nat := ctrL (fun i => ((x.getD i 0 : Nat) : Int)) (fun i => (((x.drop 16).getD i 0 : Nat) : Int)) 0 l
theorem getD_byte {x : List Nat} (hx : ∀ z ∈ x, z < 256) (i : Nat) : x.getD i 0 < 256 := by
  rw [List.getD_eq_getElem?_getD]
  cases h : x[i]? with
  | none => simp
  | some z => exact hx z (List.mem_of_getElem? h)
theorem ctr_own (hX : ∀ i ∈ X, i < w0.heap.size) (h : St (TxF A c k) w0 X) (hk : k.length ≤ 1048576) {x : List Nat} (hx : ∀ z ∈ x, z < 256) :
    Calls Tryd.prog 36 #[.agg (ca [.row 16 fun i => bv (x.getD i 0)]), .agg (ca [.row 12 fun i => bv ((x.drop 16).getD i 0)]), .int .u32 0, .slice A k.length c] w0 fun e w' => ∃ A' c', e = .returned (.tuple #[.slice A' (strV x k).length c', .int .i64 0]) ∧ Sep X [] w0 w' [.row (.slice A' (strV x k).length c') 5 1 (strV x k).length ((strV x k).map bv)] [] := by
  have hn := h.now
  rw [← arr_ca, ← arr_ca]
  refine (Ctr_yes (fun i => ((x.getD i 0 : Nat) : Int)) (fun i => (((x.drop 16).getD i 0 : Nat) : Int)) (fun i _ => ⟨by omega, by have := getD_byte hx i; omega⟩) (fun i _ => ⟨by omega, by have := getD_byte (x := x.drop 16) (fun z hz => hx z (List.mem_of_mem_drop hz)) i; omega⟩) 0 (by omega) A k.length c k w0 hn.txt hn.byt hk (by omega)).mono ?_
  rintro e w2 ⟨v, rfl, ho, hb⟩
  obtain ⟨A', c', rfl, h2⟩ := own_sep (X := X) hX ho hb
  exact ⟨A', c', rfl, h2⟩
theorem strV_len (x l : List Nat) : (strV x l).length = l.length := ctrL_len _ _ _ _
theorem strV_byte (x l : List Nat) : ∀ z ∈ strV x l, z < 256 := ctrL_lt _ _ _ _
end
theorem row_take {n m : Nat} {k : List Nat} (hk : k.length = n) (hm : m ≤ n) : cl [.row m fun i => bv (k.getD i 0)] = (k.take m).map bv := by
  simp only [cl, Chunk.cells, List.append_nil]
  apply List.ext_getElem?
  intro i
  by_cases hi : i < m
  · simp [hi, List.getD_eq_getElem?_getD, List.getElem?_eq_getElem (show i < k.length by omega)]
  · rw [List.getElem?_eq_none (by simp; omega), List.getElem?_eq_none (by simp; omega)]
set_option maxRecDepth 100000 in
set_option maxHeartbeats 1000000 in
theorem keysOf_any {k : List Nat} {gt : Nat → Nat} (hk32 : k.length = 32) (hkb : ∀ x ∈ k, x < 256) {X : List Nat} {w0 : World} (hX : ∀ k ∈ X, k < w0.heap.size) (hG : St (AtC ⟨1, 0, none⟩ [.row 64 fun i => u32 (gt i)]) w0 X) :
    Calls Tryd.prog 35 #[.agg (ca [.key k])] w0 fun e w' => ∃ A' c', e = .returned (.tuple #[.agg (ca [.row 16 (fun i => bv ((keyS gt k).getD i 0)), .row 12 (fun i => bv (((keyS gt k).drop 16).getD i 0)), .one (.slice A' (keyM gt k).length c')]), .int .i64 0]) ∧ Sep X [] w0 w' [] [TxF A' c' (keyM gt k)] := by
  have hlS : (keyS gt k).length = 28 := expV_len _ _ _ _
  have hlM : (keyM gt k).length = 32 := expV_len _ _ _ _
  have hlD : ((keyS gt k).drop 16).length = 12 := by rw [List.length_drop, hlS]
  refine calls_env Tryd.ntmps35 Tryd.func35 rfl rfl fun a E => ?_; replace E : Env a _ [(0, _)] := E
  have H : Sep X [] w0 w0 [] [(AtC ⟨1, 0, none⟩ [.row 64 fun i => u32 (gt i)])] := Sep.start hX (List.forall_mem_cons.2 ⟨hG, fun _ h => by cases h⟩)
  refine wp_seq_k fun K0 hK0 => ?_; refine S_region ?_; refine S_eff E rfl (fun K hK => ?_); refine eff_box E H rfl rfl rfl ?_; clear H; intro b1 w H _; refine hK _ _ ?_; clear hK K; refine S_put E rfl rfl ?_; clear E a; intro a E; refine S_eff E rfl (fun K hK => ?_); refine eff_alloc (z := [.row 16 fun _ => .int .u8 0, .row 12 fun _ => .int .u8 0, .one (.slice none 0 0)]) H rfl (by kernel_rfl) ?_; clear H; intro b2 w H _; refine hK _ _ ?_; clear hK K; refine S_put E rfl rfl ?_; clear E a; intro a E; refine S_val E (pk_assign rfl rfl) rfl rfl rfl ?_; clear E a; intro a E; refine hK0 _ _ ?_; refine wp_seq_k fun K1 hK1 => ?_; refine S_region ?_; refine S_val E (pk_load (n := 32) H 1 rfl rfl rfl trivial rfl (by kernel_rfl)) rfl rfl rfl ?_; clear E a; intro a E; refine S_eff E rfl (fun K hK => ?_)
  refine eff_bslice (sz := 1) (z := [.one (.int .u8 0), .one (.int .u8 0), .one (.int .u8 0), .one (.int .u8 0), .one (.int .u8 0), .one (.int .u8 0)]) E H rfl Tryd.underlying32 (by kernel_rfl) (by decide) (by kernel_rfl) ⟨_, [.one _], 0, _, rfl, rfl, rfl, rfl, ⟨_, [.one _], 1, _, rfl, rfl, rfl, rfl, ⟨_, [.one _], 2, _, rfl, rfl, rfl, rfl, ⟨_, [.one _], 3, _, rfl, rfl, rfl, rfl, ⟨_, [.one _], 4, _, rfl, rfl, rfl, rfl, ⟨_, [.one _], 5, _, rfl, rfl, rfl, rfl, rfl⟩⟩⟩⟩⟩⟩ ?_; clear H; intro b7 w H _; refine hK _ _ ?_; clear hK K; refine S_put E rfl rfl ?_; clear E a; intro a E; refine S_eff E rfl (fun K hK => ?_); refine eff_const 0 E H rfl rfl Tryd.underlying32 Tryd.underlying5 rfl rfl ?_; clear H; intro w H F; replace H : Sep _ _ _ _ [_, _] [_, _] := H; refine hK _ _ ?_; clear hK K; refine S_put E rfl rfl ?_; clear E a; intro a E; clear F
  refine S_eff E rfl (fun K hK => ?_); refine eff_call E rfl rfl rfl (by kernel_rfl) ?_
  have hinf := txF_at (k := streamL) (c := 6) (H.fact 0 rfl) rfl (by show 6 ≤ 6; decide) (by show 6 ≤ _; decide) (by decide)
  refine (Expand_any (n := 28) (k := k) (info := streamL) hk32 hkb (by omega) (by show 6 ≤ 1048576; decide) H.xk hinf (H.fact 1 rfl)).mono ?_; rintro e w ⟨A9, c9, rfl, H1⟩
  replace H := H.call H1
  clear H1; replace H : Sep _ _ _ _ [_, _] [_, _, _] := H; refine hK _ _ ?_; clear hK K; refine S_put E rfl rfl ?_; clear E a; intro a E; clear hinf; refine S_val E (pk_move rfl rfl) rfl rfl rfl ?_; clear E a; intro a E; refine S_val E (pk_extract rfl rfl rfl) rfl rfl rfl ?_; clear E a; intro a E; refine S_val E (pk_extract rfl rfl rfl) rfl rfl rfl ?_; clear E a; intro a E; refine S_val E (pk_assign rfl rfl) rfl rfl rfl ?_; clear E a; intro a E; refine S_val E (pk_assign rfl rfl) rfl rfl rfl ?_; clear E a; intro a E; refine hK1 _ _ ?_; refine wp_seq_k fun K2 hK2 => ?_; refine wp_seq_k fun K3 hK3 => ?_; refine S_region ?_; refine S_val E (pk_move rfl rfl) rfl rfl rfl ?_; clear E a; intro a E; refine S_val E (pk_int (v := .bool false) rfl rfl rfl (congrArg (fun b => some (Value.bool b)) (rfl))) rfl rfl rfl ?_; clear E a; intro a E; refine hK3 _ _ ?_; refine S_else E rfl ?_
  refine wp_skip ?_; refine hK2 _ _ ?_; refine wp_seq_k fun K4 hK4 => ?_
  rw [show Value.slice A9 28 c9 = .slice A9 (keyS gt k).length c9 from by rw [hlS]] at E
  replace H : Sep _ _ _ _ [_, _] [TxF A9 c9 (keyS gt k), _, _] := H; refine S_region ?_; refine S_val E (pk_fieldAddr (off := 0) rfl rfl (by kernel_rfl)) rfl rfl rfl ?_; clear E a; intro a E; refine S_val E (pk_subP (N := 16) (sz := 1) rfl (by kernel_rfl) rfl) rfl rfl rfl ?_; clear E a; intro a E; refine S_val E (pk_move rfl rfl) rfl rfl rfl ?_; clear E a; intro a E; refine S_eff E rfl (fun K hK => ?_); refine eff_copyT (k := keyS gt k) (m := 16) (new := [.row 16 fun i => bv ((keyS gt k).getD i 0)]) 0 E H (H.fact 0 rfl) rfl rfl rfl rfl (by kernel_rfl) rfl (by rw [hlS]; rfl) (row_take hlS (by omega)) rfl rfl ?_; clear H; intro w H F; replace H : Sep _ _ _ _ [_, _] _ := H; refine hK _ _ ?_; clear hK K; refine S_put E rfl rfl ?_; clear E a; intro a E; clear F; refine hK4 _ _ ?_; refine wp_seq_k fun K5 hK5 => ?_
  obtain ⟨A23, c23, h23, hT23⟩ := txF_drop (lo := 16) (H.fact 0 rfl) (by omega)
  replace H := H.know hT23
  replace H : Sep _ _ _ _ [_, _] [_, _, _, _] := H; refine C_region E H [] 4 [(0, false), (1, false), (2, false), (3, false)] (by kernel_rfl) (by kernel_rfl) (fun w HS => ?_)
  (simp only [canOps, List.getElem?_cons_zero, List.getElem?_cons_succ, List.drop_succ_cons, List.drop_zero])
  clear H
  have H := HS
  have hsz : w.heap.size ≤ w.heap.size := Nat.le_refl _
  have HK : CanB.Keep (fun k => k < w.heap.size ∧ k ∉ []) w w := CanB.Keep.refl _ _
  refine C_val E HK (pk_fieldAddr (off := 16) rfl rfl (by kernel_rfl)) rfl rfl rfl (fun _ _ _ _ h => h) ?_; clear E a; intro a E; refine C_val E HK (pk_subP (N := 12) (sz := 1) rfl (by kernel_rfl) rfl) rfl rfl rfl (fun _ _ _ _ h => h) ?_; clear E a; intro a E; refine C_val E HK (pk_move rfl rfl) rfl rfl rfl (fun _ _ _ _ h => h) ?_; clear E a; intro a E; refine C_val E HK (pk_sub_lo (sz := 1) (lo := 16) rfl (by kernel_rfl) rfl rfl rfl (by omega)) rfl rfl rfl (fun _ _ _ _ h => h) ?_; clear E a; intro a E
  rw [h23] at E
  refine CanB.wpCan_nil ?_
  try (simp only [List.take_succ_cons, List.take_zero, List.drop_succ_cons, List.drop_zero])
  clear HS HK hsz; refine S_eff E rfl (fun K hK => ?_); refine eff_copyT (k := (keyS gt k).drop 16) (m := 12) (new := [.row 12 fun i => bv (((keyS gt k).drop 16).getD i 0)]) 0 E H (H.fact 0 rfl) rfl rfl rfl rfl (by kernel_rfl) rfl (by rw [hlD]; rfl) (row_take hlD (by omega)) rfl rfl ?_; clear H; intro w H F; replace H : Sep _ _ _ _ [_, _] _ := H; refine hK _ _ ?_; clear hK K; refine S_put E rfl rfl ?_; clear E a; intro a E; clear F; refine hK5 _ _ ?_; refine wp_seq_k fun K6 hK6 => ?_; refine S_region ?_; refine S_val E (pk_load (n := 32) H 1 rfl rfl rfl trivial rfl (by kernel_rfl)) rfl rfl rfl ?_; clear E a; intro a E; refine S_eff E rfl (fun K hK => ?_)
  refine eff_bslice (sz := 1) (z := [.one (.int .u8 0), .one (.int .u8 0), .one (.int .u8 0)]) E H rfl Tryd.underlying32 (by kernel_rfl) (by decide) (by kernel_rfl) ⟨_, [.one _], 0, _, rfl, rfl, rfl, rfl, ⟨_, [.one _], 1, _, rfl, rfl, rfl, rfl, ⟨_, [.one _], 2, _, rfl, rfl, rfl, rfl, rfl⟩⟩⟩ ?_; clear H; intro b27 w H _; refine hK _ _ ?_; clear hK K; refine S_put E rfl rfl ?_; clear E a; intro a E; refine S_eff E rfl (fun K hK => ?_); refine eff_const 0 E H rfl rfl Tryd.underlying32 Tryd.underlying5 rfl rfl ?_; clear H; intro w H F; replace H : Sep _ _ _ _ [_, _] [_, _, _, _, _] := H; refine hK _ _ ?_; clear hK K; refine S_put E rfl rfl ?_; clear E a; intro a E; clear F; refine S_eff E rfl (fun K hK => ?_); refine eff_call E rfl rfl rfl (by kernel_rfl) ?_
  have hinf := txF_at (k := sumL) (c := 3) (H.fact 0 rfl) rfl (by show 3 ≤ 3; decide) (by show 3 ≤ _; decide) (by decide)
  refine (Expand_any (n := 32) (k := k) (info := sumL) hk32 hkb (by omega) (by show 3 ≤ 1048576; decide) H.xk hinf (H.fact 4 rfl)).mono ?_; rintro e w ⟨A29, c29, rfl, H1⟩
  replace H := H.call H1
  clear H1; replace H : Sep _ _ _ _ [_, _] [_, _, _, _, _, _] := H; refine hK _ _ ?_; clear hK K; refine S_put E rfl rfl ?_; clear E a; intro a E; clear hinf; refine S_val E (pk_move rfl rfl) rfl rfl rfl ?_; clear E a; intro a E; refine S_val E (pk_extract rfl rfl rfl) rfl rfl rfl ?_; clear E a; intro a E; refine S_val E (pk_extract rfl rfl rfl) rfl rfl rfl ?_; clear E a; intro a E; refine S_val E (pk_fieldAddr (off := 28) rfl rfl (by kernel_rfl)) rfl rfl rfl ?_; clear E a; intro a E; refine S_eff E rfl (fun K hK => ?_); refine eff_store 0 (new := [.one _]) E H rfl rfl rfl rfl rfl (by repeat (first | exact trivial | refine ⟨rfl, ?_⟩ | refine ⟨fun _ _ => rfl, ?_⟩)) rfl (by kernel_rfl) rfl ?_; clear H; intro w H _; replace H : Sep _ _ _ _ [_, _] _ := H; refine hK _ _ ?_; clear hK K; refine S_put0 rfl ?_; refine S_val E (pk_assign rfl rfl) rfl rfl rfl ?_; clear E a; intro a E
  rw [show Value.slice A29 32 c29 = .slice A29 (keyM gt k).length c29 from by rw [hlM]] at E H
  replace H : Sep _ _ _ _ [_, _] [TxF A29 c29 (keyM gt k), _, _, _, _, _] := H; refine hK6 _ _ ?_; refine wp_seq_k fun K7 hK7 => ?_; refine S_region ?_; refine S_val E (pk_load (n := 29) H 0 rfl rfl rfl trivial rfl (by kernel_rfl)) rfl rfl rfl ?_; clear E a; intro a E; refine S_val E (pk_move rfl rfl) rfl rfl rfl ?_; clear E a; intro a E; refine S_eff E rfl (fun K hK => ?_); refine eff_store 0 E H rfl rfl rfl rfl rfl (by repeat (first | exact trivial | refine ⟨rfl, ?_⟩ | refine ⟨fun _ _ => rfl, ?_⟩)) rfl (by kernel_rfl) rfl ?_; clear H; intro w H _; replace H : Sep _ _ _ _ [_, _] _ := H; refine hK _ _ ?_; clear hK K; refine S_put0 rfl ?_; refine S_val E (pk_assign rfl rfl) rfl rfl rfl ?_; clear E a; intro a E; refine hK7 _ _ ?_; refine wp_ret ?_
  repeat (first | refine then_ret ?_ | refine block_ret ?_)
  refine ret2 rfl E (by exact resC (n := 29) H 0 rfl rfl rfl (by kernel_rfl)) (resT rfl) ?_
  exact ⟨A29, c29, rfl, (H.refacts (List.forall_mem_cons.2 ⟨H.fact 0 rfl, List.forall_mem_nil _⟩)).popL.popL⟩
set_option maxRecDepth 100000 in
set_option maxHeartbeats 1000000 in
theorem tag_any {SA HA TA : Option Addr} {sc hc tc : Nat} {sum hid : List Nat} {ts : List (List Nat)} {tm : Nat → TextT.μ} {gt : Nat → Nat} {f1 f2 : Nat → Nat} (hs32 : sum.length = 32) (hhl : hid.length ≤ 100000000) (hts : ts.length ≤ 1000) {X : List Nat} {w0 : World} (hX : ∀ k ∈ X, k < w0.heap.size) (hS : St (TxF SA sc sum) w0 X) (hH : St (TxF HA hc hid) w0 X) (hL : St (LiF TextT TA tc ts tm) w0 X) (hG : St (AtC ⟨1, 0, none⟩ [.row 64 fun i => u32 (gt i)]) w0 X) :
    Calls Tryd.prog 37 #[.agg (ca [.row 16 (fun i => bv (f1 i)), .row 12 (fun i => bv (f2 i)), .one (.slice SA sum.length sc)]), .slice HA hid.length hc, .slice TA ts.length tc] w0 fun e w' => ∃ A' c', e = .returned (.tuple #[.slice A' (tagR gt sum hid ts).1.length c', .int .i64 (tagR gt sum hid ts).2]) ∧ Sep X [] w0 w' [] [TxF A' c' (tagR gt sum hid ts).1] := by
  refine calls_env Tryd.ntmps37 Tryd.func37 rfl rfl fun a E => ?_; replace E : Env a _ [(0, _), (1, _), (2, _)] := E
  have H : Sep X [] w0 w0 [] [(TxF SA sc sum), (TxF HA hc hid), (LiF TextT TA tc ts tm), (AtC ⟨1, 0, none⟩ [.row 64 fun i => u32 (gt i)])] := Sep.start hX (List.forall_mem_cons.2 ⟨hS, List.forall_mem_cons.2 ⟨hH, List.forall_mem_cons.2 ⟨hL, List.forall_mem_cons.2 ⟨hG, fun _ h => by cases h⟩⟩⟩⟩)
  refine wp_seq_k fun K0 hK0 => ?_; refine S_region ?_; refine S_eff E rfl (fun K hK => ?_); refine eff_box E H rfl rfl rfl ?_; clear H; intro b3 w H _; refine hK _ _ ?_; clear hK K; refine S_put E rfl rfl ?_; clear E a; intro a E; refine S_val E (pk_assign rfl rfl) rfl rfl rfl ?_; clear E a; intro a E; refine S_val E (pk_assign rfl rfl) rfl rfl rfl ?_; clear E a; intro a E; refine hK0 _ _ ?_; refine wp_seq_k fun K1 hK1 => ?_; refine S_region ?_; refine S_val E (pk_move rfl rfl) rfl rfl rfl ?_; clear E a; intro a E; refine S_eff E rfl (fun K hK => ?_); refine eff_call E rfl rfl rfl (by kernel_rfl) ?_; refine (Text_any (m0 := []) (ts := ts) (by show 0 ≤ 100000000; decide) (by omega) H.xk txF_nil (H.fact 2 rfl)).mono ?_; rintro e w ⟨A13, c13, rfl, H1⟩
  replace H := H.call H1
  clear H1; replace H : Sep _ _ _ _ [_] [_, _, _, _, _] := H; refine hK _ _ ?_; clear hK K; refine S_put E rfl rfl ?_; clear E a; intro a E; refine S_val E (pk_move rfl rfl) rfl rfl rfl ?_; clear E a; intro a E; refine S_val E (pk_extract rfl rfl rfl) rfl rfl rfl ?_; clear E a; intro a E; refine S_val E (pk_extract rfl rfl rfl) rfl rfl rfl ?_; clear E a; intro a E; refine S_val E (pk_assign rfl rfl) rfl rfl rfl ?_; clear E a; intro a E; refine S_val E (pk_assign rfl rfl) rfl rfl rfl ?_; clear E a; intro a E; refine hK1 _ _ ?_; refine wp_seq_k fun K2 hK2 => ?_; refine wp_seq_k fun K3 hK3 => ?_; refine S_region ?_; refine S_val E (pk_move rfl rfl) rfl rfl rfl ?_; clear E a; intro a E; refine S_val E (pk_int rfl rfl rfl rfl) rfl rfl rfl ?_; clear E a; intro a E; refine hK3 _ _ ?_; refine env_split (d := 17) E rfl ?_ ?_
  · skip
    clear E; intro c17 E
    have hok : ¬ okT ts := fun h => by
      rw [textV_ok h] at c17
      cases c17
    have htv : textV [] ts = ([], 4) := textV_no hok
    have htr : tagR gt sum hid ts = ([], 4) := by unfold tagR; rw [if_neg hok]
    refine S_then E rfl ?_; refine wp_seq_k fun K4 hK4 => ?_; refine S_region ?_; refine S_val E (pk_move rfl rfl) rfl rfl rfl ?_; clear E a; intro a E; refine S_val E (pk_assign rfl rfl) rfl rfl rfl ?_; clear E a; intro a E; refine S_val E (pk_assign rfl rfl) rfl rfl rfl ?_; clear E a; intro a E; refine hK4 _ _ ?_; refine wp_ret ?_
    repeat (first | refine then_ret ?_ | refine block_ret ?_)
    refine ret2 rfl E (resT rfl) (resT rfl) ?_
    rw [htr]
    exact ⟨none, 0, by rw [htv]; rfl, ((H.know txF_nil).refacts (List.forall_mem_cons.2 ⟨txF_nil, List.forall_mem_nil _⟩)).popL⟩
  · skip
    clear E; intro c17 E
    have hok : okT ts := by
      refine Classical.byContradiction fun h => ?_
      rw [textV_no h] at c17
      cases c17
    have htv : textV [] ts = (encT ts, 0) := textV_ok hok
    have htr : tagR gt sum hid ts = (tagV gt sum hid ts, 0) := by unfold tagR; rw [if_pos hok]
    rw [htv] at E H
    simp only at E H
    have hps : ∀ p ∈ [encT ts ++ beL 4 ts.length, hid], p.length ≤ 100000000 := fun p h => by
      simp only [List.mem_cons, List.not_mem_nil, or_false] at h
      rcases h with rfl | rfl
      · rw [List.length_append]; have := encT_len ts hok; have h4 : (beL 4 ts.length).length = 4 := by simp [beL, beK]
        omega
      · exact hhl
    refine S_else E rfl ?_; refine wp_skip ?_; refine hK2 _ _ ?_; refine wp_seq_k fun K5 hK5 => ?_; refine wp_seq_k fun K6 hK6 => ?_; refine S_region ?_; refine S_val E (pk_move rfl rfl) rfl rfl rfl ?_; clear E a; intro a E; refine S_val E (pk_move rfl rfl) rfl rfl rfl ?_; clear E a; intro a E; refine S_val E (pk_len rfl rfl (by kernel_rfl)) rfl rfl rfl ?_; clear E a; intro a E; refine S_val E (pk_convw rfl rfl (by kernel_rfl) (by kernel_rfl) (wU64 (by omega) (by omega))) rfl rfl rfl ?_; clear E a; intro a E; refine S_eff E rfl (fun K hK => ?_); refine eff_bslice (sz := 1) (z := [.one (.int .u64 0)]) E H rfl Tryd.underlying104 (by kernel_rfl) (by decide) (by kernel_rfl) ⟨_, [.one _], 0, _, rfl, rfl, rfl, rfl, rfl⟩ ?_; clear H; intro b24 w H _; refine hK _ _ ?_; clear hK K; refine S_put E rfl rfl ?_; clear E a; intro a E; refine S_eff E rfl (fun K hK => ?_)
    refine eff_call E rfl rfl rfl (by kernel_rfl) ?_; refine (num4_any (k := encT ts) (n := ts.length) (q := b24) H.xk (H.fact 0 rfl) (by have := encT_len ts hok; omega) (by omega) (at_blk (t := 49) (fr := (0, 0)) (H.holds (.blk b24 (ca [.one (.int .u64 ((ts.length : Nat) : Int))]) 49) (by simp)))).mono ?_; rintro e w ⟨A25, c25, rfl, H1⟩
    replace H := H.call H1
    clear H1; replace H : Sep _ _ _ _ [_, _] [_, _, _, _, _, _] := H; refine hK _ _ ?_; clear hK K; refine S_put E rfl rfl ?_; clear E a; intro a E; refine S_val E (pk_move rfl rfl) rfl rfl rfl ?_; clear E a; intro a E; refine S_val E (pk_extract rfl rfl rfl) rfl rfl rfl ?_; clear E a; intro a E; refine S_val E (pk_extract rfl rfl rfl) rfl rfl rfl ?_; clear E a; intro a E; refine S_val E (pk_assign rfl rfl) rfl rfl rfl ?_; clear E a; intro a E; refine S_val E (pk_assign rfl rfl) rfl rfl rfl ?_; clear E a; intro a E; refine hK6 _ _ ?_; refine wp_seq_k fun K7 hK7 => ?_; refine S_region ?_; refine S_val E (pk_move rfl rfl) rfl rfl rfl ?_; clear E a; intro a E; refine S_val E (pk_int (v := .bool false) rfl rfl rfl (congrArg (fun b => some (Value.bool b)) (rfl))) rfl rfl rfl ?_; clear E a; intro a E; refine hK7 _ _ ?_; refine S_else E rfl ?_; refine wp_skip ?_; refine hK5 _ _ ?_
    refine wp_seq_k fun K8 hK8 => ?_; refine S_region ?_; refine S_val E (pk_fieldAddr (off := 28) rfl rfl (by kernel_rfl)) rfl rfl rfl ?_; clear E a; intro a E; refine S_val E (pk_load1 H 1 rfl rfl rfl trivial rfl (by kernel_rfl)) rfl rfl rfl ?_; clear E a; intro a E; refine S_val E (pk_move rfl rfl) rfl rfl rfl ?_; clear E a; intro a E; refine S_val E (pk_move rfl rfl) rfl rfl rfl ?_; clear E a; intro a E; refine S_eff E rfl (fun K hK => ?_); refine eff_bslice (sz := 1) (z := [.one (.slice none 0 0), .one (.slice none 0 0)]) E H rfl Tryd.underlying37 (by kernel_rfl) (by decide) (by kernel_rfl) ⟨_, [.one _], 0, _, rfl, rfl, rfl, rfl, ⟨_, [.one _], 1, _, rfl, rfl, rfl, rfl, rfl⟩⟩ ?_; clear H; intro b35 w H _; refine hK _ _ ?_; clear hK K; refine S_put E rfl rfl ?_; clear E a; intro a E; refine S_eff E rfl (fun K hK => ?_); refine eff_call E rfl rfl rfl (by kernel_rfl) ?_
    have HB := H.lend 0 rfl
    have hli := liF_at (T := TextT) (its := [((encT ts ++ beL 4 ts.length, (A25, c25)) : List Nat × TextT.μ), (hid, (HA, hc))]) (c := 2) (xs := [encT ts ++ beL 4 ts.length, hid]) (HB.fact 0 rfl) text2 (nest_snoc (its := [_]) (q := ((hid, (HA, hc)) : List Nat × TextT.μ)) (nest_snoc (its := []) (q := ((encT ts ++ beL 4 ts.length, (A25, c25)) : List Nat × TextT.μ)) nest_nil (HB.fact 1 rfl)) (HB.fact 4 rfl)) rfl (by show 2 ≤ 2; decide) (by show 2 ≤ _; decide)
    have H2 := HB.refacts (R' := [_, _, _]) (List.forall_mem_cons.2 ⟨HB.fact 3 rfl, List.forall_mem_cons.2 ⟨hli, List.forall_mem_cons.2 ⟨HB.fact 6 rfl, List.forall_mem_nil _⟩⟩⟩)
    clear HB hli; refine (Mac_any (key := sum) (ps := [encT ts ++ beL 4 ts.length, hid]) (by omega) hps (by show 2 ≤ 900000; decide) H2.xk (H2.fact 0 rfl) (H2.fact 1 rfl) (H2.fact 2 rfl)).mono ?_; rintro e w ⟨rfl, H1⟩
    have F := H1.frm
    replace H := H.grow F
    refine hK _ _ ?_; clear hK K; refine S_put E rfl rfl ?_; clear E a; intro a E; clear F; clear H2; refine S_eff E rfl (fun K hK => ?_); refine eff_alloc (z := [.key []]) H rfl (by kernel_rfl) ?_; clear H; intro b10 w H _; refine hK _ _ ?_; clear hK K; refine S_put E rfl rfl ?_; clear E a; intro a E; refine S_eff E rfl (fun K hK => ?_); refine eff_store 0 E H rfl rfl rfl rfl rfl (by repeat (first | exact trivial | refine ⟨rfl, ?_⟩ | refine ⟨fun _ _ => rfl, ?_⟩)) rfl (by kernel_rfl) rfl ?_; clear H; intro w H _; replace H : Sep _ _ _ _ [_, _, _, _] _ := H; refine hK _ _ ?_; clear hK K; refine S_put0 rfl ?_; refine hK8 _ _ ?_; refine wp_seq_k fun K9 hK9 => ?_; refine S_region ?_; refine S_val E (pk_subPh (N := 32) (sz := 1) (hi := 16) rfl (by kernel_rfl) rfl rfl rfl (by omega)) rfl rfl rfl ?_; clear E a; intro a E; refine S_val E (pk_assign rfl rfl) rfl rfl rfl ?_; clear E a; intro a E
    refine S_val E (pk_assign rfl rfl) rfl rfl rfl ?_; clear E a; intro a E; refine hK9 _ _ ?_; refine wp_ret ?_
    repeat (first | refine then_ret ?_ | refine block_ret ?_)
    refine ret2 rfl E (resT rfl) (resT rfl) ?_
    have hT := txF_take (hi := 16) (txF_at (k := macV gt sum [encT ts ++ beL 4 ts.length, hid]) (c := 32) ((H.lend 0 rfl).fact 0 rfl) (by rw [cl_key, keyL_self (macV_len _ _ _)]) (by rw [macV_len]; omega) (by rw [macV_len]; omega) (macV_byte _ _ _)) (by rw [macV_len]; omega)
    rw [htr]
    exact ⟨some ⟨b10, 0, none⟩, 32, by simp only [tagV_len], (((H.lend 0 rfl).know hT).refacts (List.forall_mem_cons.2 ⟨((H.lend 0 rfl).know hT).fact 0 rfl, List.forall_mem_nil _⟩)).popL.popL.popL⟩
end Go.Proofs.YtfolbgiekbimpaaDoor
namespace Go.Proofs.YtfolbgiekbimpaaDoor
set_option linter.unusedSimpArgs false
set_option linter.unusedVariables false
open Go.RowKit

theorem keyL_get (k : List Nat) (j : Nat) (hj : j < 32) : (keyL k)[j]? = some (k.getD j 0) := by
  unfold keyL
  rw [List.getElem?_map, List.getElem?_range hj]
  rfl
theorem keyL_eq {k m : List Nat} : keyL k = keyL m ↔ ∀ i, i < 32 → k.getD i 0 = m.getD i 0 := by
  constructor
  · intro h i hi
    have h1 := keyL_get k i hi
    rw [h, keyL_get m i hi] at h1
    exact (Option.some.inj h1).symm
  · intro h
    unfold keyL
    exact List.map_congr_left fun i hi => h i (List.mem_range.1 hi)
theorem ca_key_arr (k : List Nat) : ca [.key k] = arr .u8 32 fun i => ((k.getD i 0 : Nat) : Int) := by
  rw [arr_ca]
  simp only [ca]
  congr 1
section
variable {P : Program} {o : Oper} {a : Act} {w ws : World} {Q : Exit → Act → World → Prop} {N d : Nat} {l : List (Nat × Value)} {v : Value} {S : Nat → Prop} {K : Act → World → Prop} {x y : Operand}
  {X G : List Nat} {w0 : World} {L L' : List Res} {R : List (World → Prop)}
theorem pk_eqK {t u : TypeId} {k m : List Nat} (ho : o.op = .binOp .eql t x y u) (hT : IntsT P t .u8 32) (hx : ev l x = some (.agg (ca [.key k]))) (hy : ev l y = some (.agg (ca [.key m]))) : PK P S ws l o (.bool (decide (keyL k = keyL m))) := fun w' _ a N E => by
  have h := run_op_eqArr (w := w') (op := .eql) ho hT ((E.ev hx).trans (by rw [ca_key_arr])) ((E.ev hy).trans (by rw [ca_key_arr]))
  rw [h]
  congr 3
  rw [Bool.eq_iff_iff, decide_eq_true_iff, keyL_eq, sameTo_iff]
  constructor
  · intro hs i hi; have := hs i hi; rw [Nat.zero_add] at this; omega
  · intro hs i hi; rw [Nat.zero_add, hs i hi]
theorem pk_arrA {t n' sz n c : Nat} {A : Option Addr} (ho : o.op = .sliceToArrayPointer t x) (ht : arK P t = some (n', sz)) (hx : ev l x = some (.slice A n c)) (hn : n' ≤ n) : PK P S ws l o (.pointer A) := fun w' _ a _ E => by
  obtain ⟨e, h1, h2⟩ := arK_of ht
  unfold execOp
  rw [ho]
  simp only [E.ev hx, Instr.arrayAt, Sem.run_bind, run_underlying h1, Result.andThen_ok]
  rw [if_neg (by omega)]
  rfl
theorem pk_buildC {ty : TypeId} {parts : Array (Nat × Operand)} {z r : List Chunk} {n : Nat} (cs : List Chunk) (ho : o.op = .build ty parts) (ht : arK P ty = some (n, 1)) (hz : zeroC P ty = some (ca z)) (hp : Parts (fun i => some (i * 1, 1)) l parts.toList z r) (hr : ca r = ca cs) : PK P S ws l o (.agg (ca cs)) := fun w' _ a N E => by
  obtain ⟨i, zv, h1, h2, h3⟩ := zeroC_of hz
  obtain ⟨e, h4, h5⟩ := arK_of ht
  obtain ⟨ie, h6, h7⟩ := Option.map_eq_some_iff.1 h5
  have hb : P.built ty (parts.toList.map fun (i, x) => (i, a.eval x)) = some (ca cs) := by
    unfold Program.built
    simp only [h1, h4, h2, h6, h3, h7]
    rw [← hr]
    exact parts_fill E _ _ _ hp
  unfold execOp
  rw [ho]
  simp only [Sem.run_bind]
  rw [run_build w' ty (parts.map fun (i, x) => (i, a.eval x)) _ (by rw [Array.toList_map]; exact hb)]
  rfl
/-- A text's beginning, as a key. -/
theorem txF_key {A : Option Addr} {c : Nat} {k : List Nat} {Y : List Nat} (h : St (TxF A c k) w Y) (hk : 32 ≤ k.length) : ∃ ad, A = some ad ∧ St (AtC ad [.key k]) w Y := by
  cases A with
  | none => have := h.now.nil rfl; omega
  | some ad =>
    refine ⟨ad, rfl, fun w' hw j u hu => ?_⟩
    have hT := h w' hw
    rw [cl_key, List.getElem?_map] at hu
    by_cases hj : j < 32
    · rw [keyL_get k j hj, Option.map_some, Option.some.injEq] at hu
      subst hu
      refine hT.at_ ad rfl j _ ?_
      rw [List.getD_eq_getElem?_getD, List.getElem?_eq_getElem (show j < k.length by omega)]
      rfl
    · rw [List.getElem?_eq_none (by rw [keyL_len]; omega)] at hu
      cases hu
/-- A string's bytes: read from now on. -/
theorem eff_strB {t t' e : TypeId} {s : ByteArray} {k : List Nat} (E : Env a N l) (H : Sep X [] w0 w L R) (ho : o.op = .convert t t' x) (hx : ev l x = some (.string s)) (ht : P.underlying t = some .string) (ht' : P.underlying t' = some (.slice e)) (he : P.underlying e = some (.int .u8)) (hk : s.data.toList.map UInt8.toNat = k) (hl : k.length ≤ 1000)
    (h : ∀ A c w', Sep X [] w0 w' L (TxF A c k :: R) → Frm [] w w' → K (a.put o.dst (.slice A k.length c)) w') : o.wp P a w K Q := by
  have hsz : s.size = k.length := by rw [← hk, List.length_map]; rfl
  have hr := run_bytes_of_string w t t' e s ht ht' he
  obtain ⟨C, hC⟩ : ∃ C, bytesRow s (grownCap w s.size 0 e) = C := ⟨_, rfl⟩
  obtain ⟨g, hg⟩ : ∃ g, grownCap w s.size 0 e = g := ⟨_, rfl⟩
  have hge : s.size ≤ g := by rw [← hg]; exact grownCap_ge w s.size 0 e
  rw [hC, hg] at hr
  have hCk : ∀ i z, k[i]? = some z → C[i]? = some (bv z) := fun i z hi => by
    rw [← hk, List.getElem?_map, Option.map_eq_some_iff] at hi
    obtain ⟨b, hb, rfl⟩ := hi
    have hlt : i < s.data.size := by
      rw [← Array.length_toList]
      exact (List.getElem?_eq_some_iff.1 hb).1
    rw [← hC]
    unfold bytesRow
    rw [Array.getElem?_append_left (by rw [Array.size_map]; exact hlt), Array.getElem?_map, ← Array.getElem?_toList, hb]
    rfl
  unfold Oper.wp execOp
  simp only [ho, E.ev hx, Sem.run_bind, hr, Result.andThen_ok, Sem.run_pure]
  have hf : Frm [] w (w.drew.alloc (.cells C e (C.size, C.size + 1))) := Frm.of_below (((Below.refl _ _).drew).alloc (Nat.le_refl _) _)
  have hH := H.own (q := .obj w.heap.size (.cells C e (C.size, C.size + 1))) hf (heap_alloc_new w.drew _) (by simp [Res.keys]) (by simp [Res.keys])
  have hF := hH.freezeX (Sep.new_x hH)
  have hT : St (TxF (some ⟨w.heap.size, 0, none⟩) g k) (w.drew.alloc (.cells C e (C.size, C.size + 1))) (X ++ keysR L) := (hF.facts _ (List.mem_cons_self ..)).imp fun w2 hw => ⟨by omega, by omega, fun z hz => by
      rw [← hk] at hz
      obtain ⟨b, _, rfl⟩ := List.mem_map.1 hz
      exact b.toNat_lt, (fun hn => by cases hn), fun ad had i z hi => by
      obtain rfl := Option.some.inj had
      rw [addr_add]
      unfold World.cell?
      have hw' : w2.heap[w.heap.size]? = some (.cells C e (C.size, C.size + 1)) := hw
      simp only [hw', Nat.zero_add, Option.isSome_none, Bool.false_eq_true, if_false]
      exact hCk i z hi⟩
  rw [hsz]
  exact h _ _ _ (hF.pop.know hT) hf
end
end Go.Proofs.YtfolbgiekbimpaaDoor
namespace Go.Proofs.YtfolbgiekbimpaaDoor
set_option linter.unusedSimpArgs false
set_option linter.unusedVariables false
open Go.RowKit

def cotL : List Nat := [99, 111, 116, 101, 114, 105, 101]
/-- A key of a key, of a label and contexts. -/
def derV (gt : Nat → Nat) (k lab : List Nat) (ts : List (List Nat)) : List Nat := expV gt k (encT (cotL :: lab :: ts)) 32
/-- Contexts that are few and small. -/
def smallT (ts : List (List Nat)) : Prop := ts.length ≤ 100 ∧ ∀ t ∈ ts, t.length ≤ 1000
theorem smallT_nil : smallT [] := ⟨by show 0 ≤ 100; decide, fun t h => by cases h⟩
theorem smallT_ok {ts : List (List Nat)} (h : smallT ts) : okT ts := fun t ht => by have := h.2 t ht; omega
theorem encT_small : ∀ (ts : List (List Nat)), (∀ t ∈ ts, t.length ≤ 1000) → (encT ts).length ≤ 1002 * ts.length
  | [], _ => Nat.le_refl _
  | t :: ts, h => by
    have h1 := encT_small ts fun t ht => h t (List.mem_cons_of_mem _ ht)
    have h2 := h t (List.mem_cons_self ..)
    show ((beL 2 t.length ++ t) ++ encT ts).length ≤ _
    rw [List.length_append, List.length_append, beL2_len, List.length_cons]
    omega
theorem encT_two (a b : List Nat) (ts : List (List Nat)) : encT [a, b] ++ encT ts = encT (a :: b :: ts) := by
  unfold encT
  rw [← List.flatMap_append]
  rfl
theorem derV_len (gt : Nat → Nat) (k lab : List Nat) (ts : List (List Nat)) : (derV gt k lab ts).length = 32 := expV_len _ _ _ _
theorem derV_byte (gt : Nat → Nat) (k lab : List Nat) (ts : List (List Nat)) : ∀ x ∈ derV gt k lab ts, x < 256 := expV_byte _ _ _ _
theorem okT_two {lab : List Nat} (h : lab.length ≤ 100) : okT [cotL, lab] := fun t ht => by
  simp only [List.mem_cons, List.not_mem_nil, or_false] at ht
  rcases ht with rfl | rfl
  · show 7 ≤ 65535; decide
  · omega
attribute [local irreducible] macV expV
set_option maxRecDepth 100000 in
set_option maxHeartbeats 1000000 in
theorem Derive_any {s : ByteArray} {TA : Option Addr} {tc : Nat} {k lab : List Nat} {ts : List (List Nat)} {tm : Nat → TextT.μ} {gt : Nat → Nat} (hs : s.data.toList.map UInt8.toNat = lab) (hlab : lab.length ≤ 100) (hk32 : k.length = 32) (hkb : ∀ x ∈ k, x < 256) (hts : smallT ts) {X : List Nat} {w0 : World} (hX : ∀ k ∈ X, k < w0.heap.size) (hL : St (LiF TextT TA tc ts tm) w0 X) (hG : St (AtC ⟨1, 0, none⟩ [.row 64 fun i => u32 (gt i)]) w0 X) :
    Calls Tryd.prog 16 #[.agg (ca [.key k]), .string s, .slice TA ts.length tc] w0 fun e w' => e = .returned (.tuple #[.agg (ca [.key (derV gt k lab ts)]), .int .i64 0]) ∧ Sep X [] w0 w' [] [] := by
  have hst := hts.1
  have hsl := encT_small ts hts.2
  have hs2 : (encT [cotL, lab]).length = 11 + lab.length := by
    show ((beL 2 cotL.length ++ cotL) ++ ((beL 2 lab.length ++ lab) ++ [])).length = _
    rw [List.length_append, List.length_append, List.length_append, List.length_append, beL2_len, beL2_len]
    show 2 + 7 + (2 + lab.length + 0) = _
    omega
  have hln : (encT [cotL, lab] ++ encT ts).length ≤ 1048576 := by rw [List.length_append]; omega
  refine calls_env Tryd.ntmps16 Tryd.func16 rfl rfl fun a E => ?_; replace E : Env a _ [(0, _), (1, _), (2, _)] := E
  have H : Sep X [] w0 w0 [] [(LiF TextT TA tc ts tm), (AtC ⟨1, 0, none⟩ [.row 64 fun i => u32 (gt i)])] := Sep.start hX (List.forall_mem_cons.2 ⟨hL, List.forall_mem_cons.2 ⟨hG, fun _ h => by cases h⟩⟩)
  refine wp_seq_k fun K0 hK0 => ?_; refine S_region ?_; refine S_eff E rfl (fun K hK => ?_); refine eff_box E H rfl rfl rfl ?_; clear H; intro b3 w H _; refine hK _ _ ?_; clear hK K; refine S_put E rfl rfl ?_; clear E a; intro a E; refine S_eff E rfl (fun K hK => ?_); refine eff_alloc (z := [.key []]) H rfl (by kernel_rfl) ?_; clear H; intro b6 w H _; refine hK _ _ ?_; clear hK K; refine S_put E rfl rfl ?_; clear E a; intro a E; refine S_val E (pk_assign rfl rfl) rfl rfl rfl ?_; clear E a; intro a E; refine hK0 _ _ ?_; refine wp_seq_k fun K1 hK1 => ?_; refine S_region ?_; refine S_eff E rfl (fun K hK => ?_)
  refine eff_bslice (sz := 1) (z := [.one (.int .u8 0), .one (.int .u8 0), .one (.int .u8 0), .one (.int .u8 0), .one (.int .u8 0), .one (.int .u8 0), .one (.int .u8 0)]) E H rfl Tryd.underlying32 (by kernel_rfl) (by decide) (by kernel_rfl) ⟨_, [.one _], 0, _, rfl, rfl, rfl, rfl, ⟨_, [.one _], 1, _, rfl, rfl, rfl, rfl, ⟨_, [.one _], 2, _, rfl, rfl, rfl, rfl, ⟨_, [.one _], 3, _, rfl, rfl, rfl, rfl, ⟨_, [.one _], 4, _, rfl, rfl, rfl, rfl, ⟨_, [.one _], 5, _, rfl, rfl, rfl, rfl, ⟨_, [.one _], 6, _, rfl, rfl, rfl, rfl, rfl⟩⟩⟩⟩⟩⟩⟩ ?_; clear H; intro b12 w H _; refine hK _ _ ?_; clear hK K; refine S_put E rfl rfl ?_; clear E a; intro a E; refine S_eff E rfl (fun K hK => ?_); refine eff_const 0 E H rfl rfl Tryd.underlying32 Tryd.underlying5 rfl rfl ?_; clear H; intro w H F; replace H : Sep _ _ _ _ [_, _] [_, _, _] := H; refine hK _ _ ?_; clear hK K
  refine S_put E rfl rfl ?_; clear E a; intro a E; clear F; refine S_val E (pk_move rfl rfl) rfl rfl rfl ?_; clear E a; intro a E; refine S_eff E rfl (fun K hK => ?_); refine eff_strB (k := lab) E H rfl rfl Tryd.underlying9 Tryd.underlying32 Tryd.underlying5 hs (by omega) ?_; clear H; intro A15 c15 w H F; replace H : Sep _ _ _ _ [_, _] [_, _, _, _] := H; refine hK _ _ ?_; clear hK K; refine S_put E rfl rfl ?_; clear E a; intro a E; clear F; refine S_eff E rfl (fun K hK => ?_); refine eff_bslice (sz := 1) (z := [.one (.slice none 0 0), .one (.slice none 0 0)]) E H rfl Tryd.underlying37 (by kernel_rfl) (by decide) (by kernel_rfl) ⟨_, [.one _], 0, _, rfl, rfl, rfl, rfl, ⟨_, [.one _], 1, _, rfl, rfl, rfl, rfl, rfl⟩⟩ ?_; clear H; intro b16 w H _; refine hK _ _ ?_; clear hK K; refine S_put E rfl rfl ?_; clear E a; intro a E
  refine S_eff E rfl (fun K hK => ?_); refine eff_call E rfl rfl rfl (by kernel_rfl) ?_
  have HB := H.lend 0 rfl
  have hco := txF_at (k := cotL) (c := 7) (HB.fact 2 rfl) rfl (by show 7 ≤ 7; decide) (by show 7 ≤ _; decide) (by decide)
  have hli := liF_at (T := TextT) (its := [((cotL, (some ⟨b12, 0, none⟩, 7)): List Nat × TextT.μ), (lab, (A15, c15))]) (c := 2) (xs := [cotL, lab]) (HB.fact 0 rfl) (by rw [← text2]; rfl) (nest_snoc (its := [_]) (q := ((lab, (A15, c15)): List Nat × TextT.μ)) (nest_snoc (its := []) (q := ((cotL, (some ⟨b12, 0, none⟩, 7)): List Nat × TextT.μ)) nest_nil hco) (HB.fact 1 rfl)) rfl (by show 2 ≤ 2; decide) (by show 2 ≤ _; decide)
  have H2 := HB.know hli
  clear H HB hli hco
  have H := H2
  clear H2; replace H : Sep _ _ _ _ [_, _] [_, _, _, _, _, _] := H; refine (Text_any (m0 := []) (ts := [cotL, lab]) (by show 0 ≤ 100000000; decide) (by show 2 ≤ 1000000; decide) H.xk txF_nil (H.fact 0 rfl)).mono ?_; rintro e w ⟨A17, c17, rfl, H1⟩
  replace H := H.call H1
  clear H1; replace H : Sep _ _ _ _ [_, _] [_, _, _, _, _, _, _] := H; refine hK _ _ ?_; clear hK K; refine S_put E rfl rfl ?_; clear E a; intro a E; refine S_val E (pk_move rfl rfl) rfl rfl rfl ?_; clear E a; intro a E; refine S_val E (pk_extract rfl rfl rfl) rfl rfl rfl ?_; clear E a; intro a E; refine S_val E (pk_extract rfl rfl rfl) rfl rfl rfl ?_; clear E a; intro a E; refine S_val E (pk_assign rfl rfl) rfl rfl rfl ?_; clear E a; intro a E; refine S_val E (pk_assign rfl rfl) rfl rfl rfl ?_; clear E a; intro a E
  rw [textV_ok (okT_two hlab)] at E H
  simp only [List.nil_append] at E H
  refine hK1 _ _ ?_; refine wp_seq_k fun K2 hK2 => ?_; refine wp_seq_k fun K3 hK3 => ?_; refine S_region ?_; refine S_val E (pk_move rfl rfl) rfl rfl rfl ?_; clear E a; intro a E; refine S_val E (pk_int (v := .bool true) rfl rfl rfl (congrArg (fun b => some (Value.bool b)) (rfl))) rfl rfl rfl ?_; clear E a; intro a E; refine hK3 _ _ ?_; refine S_then E rfl ?_; refine S_region ?_; refine S_val E (pk_move rfl rfl) rfl rfl rfl ?_; clear E a; intro a E; refine S_val E (pk_move rfl rfl) rfl rfl rfl ?_; clear E a; intro a E; refine S_eff E rfl (fun K hK => ?_); refine eff_call E rfl rfl rfl (by kernel_rfl) ?_; refine (Text_any (m0 := encT [cotL, lab]) (ts := ts) (by omega) (by omega) H.xk (H.fact 0 rfl) (H.fact 5 rfl)).mono ?_; rintro e w ⟨A25, c25, rfl, H1⟩
  replace H := H.call H1
  clear H1; replace H : Sep _ _ _ _ [_, _] [_, _, _, _, _, _, _, _] := H; refine hK _ _ ?_; clear hK K; refine S_put E rfl rfl ?_; clear E a; intro a E; refine S_val E (pk_move rfl rfl) rfl rfl rfl ?_; clear E a; intro a E; refine S_val E (pk_extract rfl rfl rfl) rfl rfl rfl ?_; clear E a; intro a E; refine S_val E (pk_extract rfl rfl rfl) rfl rfl rfl ?_; clear E a; intro a E; refine S_val E (pk_assign rfl rfl) rfl rfl rfl ?_; clear E a; intro a E; refine S_val E (pk_assign rfl rfl) rfl rfl rfl ?_; clear E a; intro a E
  rw [textV_ok (smallT_ok hts)] at E H
  simp only at E H
  refine hK2 _ _ ?_; refine wp_seq_k fun K4 hK4 => ?_; refine wp_seq_k fun K5 hK5 => ?_; refine S_region ?_; refine S_val E (pk_move rfl rfl) rfl rfl rfl ?_; clear E a; intro a E; refine S_val E (pk_int (v := .bool false) rfl rfl rfl (congrArg (fun b => some (Value.bool b)) (rfl))) rfl rfl rfl ?_; clear E a; intro a E; refine hK5 _ _ ?_; refine S_else E rfl ?_; refine wp_skip ?_; refine hK4 _ _ ?_; refine wp_seq_k fun K6 hK6 => ?_; refine S_region ?_; refine S_val E (pk_load (n := 32) H 1 rfl rfl rfl trivial rfl (by kernel_rfl)) rfl rfl rfl ?_; clear E a; intro a E; refine S_val E (pk_move rfl rfl) rfl rfl rfl ?_; clear E a; intro a E; refine S_eff E rfl (fun K hK => ?_); refine eff_call E rfl rfl rfl (by kernel_rfl) ?_; refine (Expand_any (n := 32) (k := k) (info := (encT [cotL, lab] ++ encT ts)) hk32 hkb (by omega) hln H.xk (H.fact 0 rfl) (H.fact 7 rfl)).mono ?_
  rintro e w ⟨A35, c35, rfl, H1⟩
  replace H := H.call H1
  clear H1; replace H : Sep _ _ _ _ [_, _] [_, _, _, _, _, _, _, _, _] := H; refine hK _ _ ?_; clear hK K; refine S_put E rfl rfl ?_; clear E a; intro a E; refine S_val E (pk_move rfl rfl) rfl rfl rfl ?_; clear E a; intro a E; refine S_val E (pk_extract rfl rfl rfl) rfl rfl rfl ?_; clear E a; intro a E; refine S_val E (pk_extract rfl rfl rfl) rfl rfl rfl ?_; clear E a; intro a E; refine S_val E (pk_assign rfl rfl) rfl rfl rfl ?_; clear E a; intro a E; refine S_val E (pk_assign rfl rfl) rfl rfl rfl ?_; clear E a; intro a E; refine hK6 _ _ ?_; refine wp_seq_k fun K7 hK7 => ?_; refine wp_seq_k fun K8 hK8 => ?_; refine S_region ?_; refine S_val E (pk_move rfl rfl) rfl rfl rfl ?_; clear E a; intro a E; refine S_val E (pk_int (v := .bool false) rfl rfl rfl (congrArg (fun b => some (Value.bool b)) (rfl))) rfl rfl rfl ?_; clear E a; intro a E; refine hK8 _ _ ?_; refine S_else E rfl ?_
  refine wp_skip ?_; refine hK7 _ _ ?_; refine wp_seq_k fun K9 hK9 => ?_
  rw [encT_two] at H
  have hX32 : (expV gt k (encT (cotL :: lab :: ts)) 32).length = 32 := expV_len _ _ _ _
  obtain ⟨ad, hA35, hT35⟩ := txF_key (H.fact 0 rfl) (by omega)
  subst hA35
  replace H := H.know hT35
  clear hT35; replace H : Sep _ _ _ _ [_, _] [_, _, _, _, _, _, _, _, _, _] := H; refine S_region ?_; refine S_val E (pk_move rfl rfl) rfl rfl rfl ?_; clear E a; intro a E; refine S_val E (pk_arrA (n' := 32) (sz := 1) rfl (by kernel_rfl) rfl (by omega)) rfl rfl rfl ?_; clear E a; intro a E; refine S_val E (pk_loadE (n := 32) (H.fact 0 rfl) (fun _ _ _ => trivial) rfl rfl rfl (by kernel_rfl)) rfl rfl rfl ?_; clear E a; intro a E; refine S_eff E rfl (fun K hK => ?_); refine eff_store 0 E H rfl rfl rfl rfl rfl (by repeat (first | exact trivial | refine ⟨rfl, ?_⟩ | refine ⟨fun _ _ => rfl, ?_⟩)) rfl (by kernel_rfl) rfl ?_; clear H; intro w H _; replace H : Sep _ _ _ _ [_, _] _ := H; refine hK _ _ ?_; clear hK K; refine S_put0 rfl ?_; refine S_val E (pk_assign rfl rfl) rfl rfl rfl ?_; clear E a; intro a E; refine hK9 _ _ ?_; refine wp_ret ?_
  repeat (first | refine then_ret ?_ | refine block_ret ?_)
  refine ret2 rfl E (by exact resC (n := 32) H 0 rfl rfl rfl (by kernel_rfl)) (resT rfl) ?_
  exact ⟨rfl, (H.refacts (R' := []) (List.forall_mem_nil _)).popL.popL⟩
set_option maxRecDepth 100000 in
set_option maxHeartbeats 1000000 in
theorem kderive_any {s : ByteArray} {k lab : List Nat} {gt : Nat → Nat} (hs : s.data.toList.map UInt8.toNat = lab) (hlab : lab.length ≤ 100) (hk32 : k.length = 32) (hkb : ∀ x ∈ k, x < 256) {X : List Nat} {w0 : World} (hX : ∀ k ∈ X, k < w0.heap.size) (hG : St (AtC ⟨1, 0, none⟩ [.row 64 fun i => u32 (gt i)]) w0 X) :
    Calls Tryd.prog 14 #[.agg (ca [.key k]), .string s] w0 fun e w' => e = .returned (.agg (ca [.key (derV gt k lab [])])) ∧ Sep X [] w0 w' [] [] := by
  refine calls_env Tryd.ntmps14 Tryd.func14 rfl rfl fun a E => ?_; replace E : Env a _ [(0, _), (1, _)] := E
  have H : Sep X [] w0 w0 [] [(AtC ⟨1, 0, none⟩ [.row 64 fun i => u32 (gt i)])] := Sep.start hX (List.forall_mem_cons.2 ⟨hG, fun _ h => by cases h⟩)
  refine wp_seq_k fun K0 hK0 => ?_; refine S_region ?_; refine S_eff E rfl (fun K hK => ?_); refine eff_box E H rfl rfl rfl ?_; clear H; intro b2 w H _; refine hK _ _ ?_; clear hK K; refine S_put E rfl rfl ?_; clear E a; intro a E; refine S_eff E rfl (fun K hK => ?_); refine eff_alloc (z := [.key []]) H rfl (by kernel_rfl) ?_; clear H; intro b4 w H _; refine hK _ _ ?_; clear hK K; refine S_put E rfl rfl ?_; clear E a; intro a E; refine hK0 _ _ ?_; refine wp_seq_k fun K1 hK1 => ?_; refine S_region ?_; refine S_val E (pk_load (n := 32) H 1 rfl rfl rfl trivial rfl (by kernel_rfl)) rfl rfl rfl ?_; clear E a; intro a E; refine S_val E (pk_move rfl rfl) rfl rfl rfl ?_; clear E a; intro a E; refine S_eff E rfl (fun K hK => ?_); refine eff_call E rfl rfl rfl (by kernel_rfl) ?_
  refine (Derive_any (k := k) (lab := lab) (ts := []) (tm := fun _ => TextT.dft) hs hlab hk32 hkb smallT_nil H.xk liF_nil (H.fact 0 rfl)).mono ?_; rintro e w ⟨rfl, H1⟩
  replace H := H.call H1
  clear H1; replace H : Sep _ _ _ _ [_, _] [_] := H; refine hK _ _ ?_; clear hK K; refine S_put E rfl rfl ?_; clear E a; intro a E; refine S_val E (pk_move rfl rfl) rfl rfl rfl ?_; clear E a; intro a E; refine S_val E (pk_extract rfl rfl rfl) rfl rfl rfl ?_; clear E a; intro a E; refine S_val E (pk_extract rfl rfl rfl) rfl rfl rfl ?_; clear E a; intro a E; refine S_eff E rfl (fun K hK => ?_); refine eff_alloc (z := [.key []]) H rfl (by kernel_rfl) ?_; clear H; intro b5 w H _; refine hK _ _ ?_; clear hK K; refine S_put E rfl rfl ?_; clear E a; intro a E; refine S_eff E rfl (fun K hK => ?_); refine eff_store 0 E H rfl rfl rfl rfl rfl (by repeat (first | exact trivial | refine ⟨rfl, ?_⟩ | refine ⟨fun _ _ => rfl, ?_⟩)) rfl (by kernel_rfl) rfl ?_; clear H; intro w H _; replace H : Sep _ _ _ _ [_, _, _] _ := H; refine hK _ _ ?_; clear hK K; refine S_put0 rfl ?_
  refine S_val E (pk_assign rfl rfl) rfl rfl rfl ?_; clear E a; intro a E; refine hK1 _ _ ?_; refine wp_seq_k fun K2 hK2 => ?_; refine wp_seq_k fun K3 hK3 => ?_; refine S_region ?_; refine S_val E (pk_move rfl rfl) rfl rfl rfl ?_; clear E a; intro a E; refine S_val E (pk_int (v := .bool false) rfl rfl rfl (congrArg (fun b => some (Value.bool b)) (rfl))) rfl rfl rfl ?_; clear E a; intro a E; refine hK3 _ _ ?_; refine S_else E rfl ?_; refine wp_skip ?_; refine hK2 _ _ ?_; refine wp_seq_k fun K4 hK4 => ?_; refine S_region ?_; refine S_val E (pk_load (n := 32) H 0 rfl rfl rfl trivial rfl (by kernel_rfl)) rfl rfl rfl ?_; clear E a; intro a E; refine S_eff E rfl (fun K hK => ?_); refine eff_store 1 E H rfl rfl rfl rfl rfl (by repeat (first | exact trivial | refine ⟨rfl, ?_⟩ | refine ⟨fun _ _ => rfl, ?_⟩)) rfl (by kernel_rfl) rfl ?_; clear H; intro w H _; replace H : Sep _ _ _ _ [_, _, _] _ := H
  refine hK _ _ ?_; clear hK K; refine S_put0 rfl ?_; refine hK4 _ _ ?_; refine wp_ret ?_
  repeat (first | refine then_ret ?_ | refine block_ret ?_)
  refine ret1 rfl E (by exact resC (n := 32) H 1 rfl rfl rfl (by kernel_rfl)) ?_
  exact ⟨rfl, (H.refacts (R' := []) (List.forall_mem_nil _)).popL.popL.popL⟩
set_option maxRecDepth 100000 in
set_option maxHeartbeats 1000000 in
theorem Extract_any {LA SA : Option Addr} {lc sc : Nat} {salt sec : List Nat} {gt : Nat → Nat} (h64 : salt.length ≤ 64) (hsl : sec.length ≤ 100000000) {X : List Nat} {w0 : World} (hX : ∀ k ∈ X, k < w0.heap.size) (hL : St (TxF LA lc salt) w0 X) (hS : St (TxF SA sc sec) w0 X) (hG : St (AtC ⟨1, 0, none⟩ [.row 64 fun i => u32 (gt i)]) w0 X) :
    Calls Tryd.prog 17 #[.slice LA salt.length lc, .slice SA sec.length sc] w0 fun e w' => e = .returned (.agg (ca [.key (macV gt salt [sec])])) ∧ Sep X [] w0 w' [] [] := by
  refine calls_env Tryd.ntmps17 Tryd.func17 rfl rfl fun a E => ?_; replace E : Env a _ [(0, _), (1, _)] := E
  have H : Sep X [] w0 w0 [] [(TxF LA lc salt), (TxF SA sc sec), (AtC ⟨1, 0, none⟩ [.row 64 fun i => u32 (gt i)])] := Sep.start hX (List.forall_mem_cons.2 ⟨hL, List.forall_mem_cons.2 ⟨hS, List.forall_mem_cons.2 ⟨hG, fun _ h => by cases h⟩⟩⟩)
  refine wp_seq_k fun K0 hK0 => ?_; refine S_region ?_; refine S_eff E rfl (fun K hK => ?_); refine eff_alloc (z := [.key []]) H rfl (by kernel_rfl) ?_; clear H; intro b4 w H _; refine hK _ _ ?_; clear hK K; refine S_put E rfl rfl ?_; clear E a; intro a E; refine hK0 _ _ ?_; refine wp_seq_k fun K1 hK1 => ?_; refine S_region ?_; refine S_val E (pk_move rfl rfl) rfl rfl rfl ?_; clear E a; intro a E; refine S_val E (pk_move rfl rfl) rfl rfl rfl ?_; clear E a; intro a E; refine S_eff E rfl (fun K hK => ?_); refine eff_bslice (sz := 1) (z := [.one (.slice none 0 0)]) E H rfl Tryd.underlying37 (by kernel_rfl) (by decide) (by kernel_rfl) ⟨_, [.one _], 0, _, rfl, rfl, rfl, rfl, rfl⟩ ?_; clear H; intro b7 w H _; refine hK _ _ ?_; clear hK K; refine S_put E rfl rfl ?_; clear E a; intro a E; refine S_eff E rfl (fun K hK => ?_); refine eff_call E rfl rfl rfl (by kernel_rfl) ?_
  have HB := H.lend 0 rfl
  have hli := liF_at (T := TextT) (its := [((sec, (SA, sc)): List Nat × TextT.μ)]) (c := 1) (xs := [sec]) (HB.fact 0 rfl) rfl (nest_snoc (its := []) (q := ((sec, (SA, sc)): List Nat × TextT.μ)) nest_nil (HB.fact 2 rfl)) rfl (by show 1 ≤ 1; decide) (by show 1 ≤ _; decide)
  have H2 := HB.refacts (R' := [_, _, _]) (List.forall_mem_cons.2 ⟨HB.fact 1 rfl, List.forall_mem_cons.2 ⟨hli, List.forall_mem_cons.2 ⟨HB.fact 3 rfl, List.forall_mem_nil _⟩⟩⟩)
  clear HB hli; refine (Mac_any (key := salt) (ps := [sec]) h64 (fun p hp => by rw [List.mem_singleton.1 hp]; exact hsl) (by show 1 ≤ 900000; decide) H2.xk (H2.fact 0 rfl) (H2.fact 1 rfl) (H2.fact 2 rfl)).mono ?_; rintro e w ⟨rfl, H1⟩
  have F := H1.frm
  replace H := H.grow F
  refine hK _ _ ?_; clear hK K; refine S_put E rfl rfl ?_; clear E a; intro a E; clear F; clear H1 H2; refine S_eff E rfl (fun K hK => ?_); refine eff_store 1 E H rfl rfl rfl rfl rfl (by repeat (first | exact trivial | refine ⟨rfl, ?_⟩ | refine ⟨fun _ _ => rfl, ?_⟩)) rfl (by kernel_rfl) rfl ?_; clear H; intro w H _; replace H : Sep _ _ _ _ [_, _] _ := H; refine hK _ _ ?_; clear hK K; refine S_put0 rfl ?_; refine hK1 _ _ ?_; refine wp_ret ?_
  repeat (first | refine then_ret ?_ | refine block_ret ?_)
  refine ret1 rfl E (by exact resC (n := 32) H 1 rfl rfl rfl (by kernel_rfl)) ?_
  exact ⟨rfl, (H.refacts (R' := []) (List.forall_mem_nil _)).popL.popL⟩
end Go.Proofs.YtfolbgiekbimpaaDoor
namespace Go.Proofs.YtfolbgiekbimpaaDoor
set_option linter.unusedSimpArgs false
set_option linter.unusedVariables false
open Go.RowKit

theorem grow_any (n : Nat) (hn : n ≤ 1000000000000) (w : World) :
    Calls Tryd.prog 38 #[.slice none 0 0, .int .i64 (n : Int)] w fun e w' => ∃ v, e = .returned v ∧ Own w' w.heap.size 5 v [] ∧ Below w.heap.size w w' := by
  by_cases h0 : n = 0
  · subst h0
    go_enter Tryd.func38, Tryd.ntmps38
    go_wp2
    go_ret
    exact ⟨_, rfl, Own.nil_, Below.refl _ _⟩
  · have hinfo := BT.info
    cases hi : (Tryd.prog).info? 5 with
    | none => rw [hi] at hinfo; cases hinfo
    | some i =>
      rw [hi] at hinfo
      simp only [Option.map_some, Option.some.injEq, Prod.mk.injEq] at hinfo
      obtain ⟨h1, h2, h3⟩ := hinfo
      have hrz := fun ty => Lib.run_append_nil_zeros (P := Tryd.prog) w 32 3 ty 5 i (.int .u8 0) .i64 .i64 Tryd.underlying32 Tryd.underlying3 hi h1 n (by omega) (by rw [h2]; decide) (by omega) (by rw [h3]; omega)
      obtain ⟨G, hG⟩ : ∃ G, grownCap w n 0 5 = G := ⟨_, rfl⟩
      have hGn : n ≤ G := by rw [← hG]; exact grownCap_ge w n 0 5
      have hGm : G ≤ maxLen := by rw [← hG]; exact grownCap_le_maxLen w n 0 5 (by unfold maxLen; omega)
      rw [hG] at hrz
      obtain ⟨C, hC⟩ : ∃ C, Builtin.zeroCells (Value.int .u8 0).cells n ++ Builtin.zeroCells (Value.int .u8 0).cells (G - n) = C := ⟨_, rfl⟩
      have hCs : C.size = G := by
        rw [← hC, Array.size_append, size_zeroCells, size_zeroCells]
        show n * 1 + (G - n) * 1 = G
        omega
      rw [hC] at hrz
      clear hC hG h1 h2 h3 hi
      have e1 : wrap64 ((n : Int) - 0) = (n : Int) := by unfold wrap64; omega
      have hG63 : G ≤ 9223372036854775807 := by unfold maxLen at hGm; omega
      go_enter Tryd.func38, Tryd.ntmps38
      go_wp2_with (at_builtin; refine Lib.wpList_append_run _ rfl _ _ _ _ rfl _ _ rfl rfl _ _ (hrz _) ?_)
      go_wp2
      go_ret
      refine ⟨_, rfl, ⟨rfl, .inr ⟨w.heap.size, G, C, rfl, Nat.le_refl _, ?_, Nat.zero_le _, hGm, by omega, by simp⟩⟩, ((Below.refl _ _).drew).alloc (Nat.le_refl _) _⟩
      exact heap_alloc_new w.drew _
theorem catf_succ {ps : List (List Nat)} {i : Nat} {p : List Nat} (h : ps[i]? = some p) : (ps.take (i + 1)).flatten = (ps.take i).flatten ++ p := by
  rw [List.take_add_one, h, List.flatten_append]
  simp
theorem catf_le (ps : List (List Nat)) (i : Nat) : (ps.take i).flatten.length ≤ ps.flatten.length := by
  have h := congrArg (fun l => l.flatten.length) (List.take_append_drop i ps)
  simp only [List.flatten_append, List.length_append] at h
  omega
theorem grow_sep {n : Nat} (hn : n ≤ 1000000000000) {X : List Nat} {w0 : World} (hX : ∀ k ∈ X, k < w0.heap.size) :
    Calls Tryd.prog 38 #[.slice none 0 0, .int .i64 (n : Int)] w0 fun e w' => ∃ A' c', e = .returned (.slice A' 0 c') ∧ Sep X [] w0 w' [.row (.slice A' 0 c') 5 1 0 (([] : List Nat).map bv)] [] := by
  refine (grow_any n hn w0).mono ?_
  rintro e w' ⟨v, rfl, ho, hb⟩
  obtain ⟨A', c', rfl, h1⟩ := own_sep hX ho hb
  exact ⟨A', c', rfl, h1⟩
set_option maxRecDepth 100000 in
set_option maxHeartbeats 600000 in
theorem Concat_any {PA : Option Addr} {pc : Nat} {ps : List (List Nat)} {pm : Nat → TextT.μ} (hfl : ps.flatten.length ≤ 100000000000) {X : List Nat} {w0 : World} (hX : ∀ k ∈ X, k < w0.heap.size) (hL : St (LiF TextT PA pc ps pm) w0 X) :
    Calls Tryd.prog 19 #[.slice PA ps.length pc] w0 fun e w' => ∃ A' c', e = .returned (.slice A' ps.flatten.length c') ∧ Sep X [] w0 w' [] [TxF A' c' ps.flatten] := by
  have hpsl := hL.now.big
  refine calls_env Tryd.ntmps19 Tryd.func19 rfl rfl fun a E => ?_; replace E : Env a _ [(0, _)] := E
  have H : Sep X [] w0 w0 [] [(LiF TextT PA pc ps pm)] := Sep.start hX (List.forall_mem_cons.2 ⟨hL, fun _ h => by cases h⟩)
  refine wp_seq_k fun K0 hK0 => ?_; refine S_region ?_; refine S_val E (pk_assign rfl rfl) rfl rfl rfl ?_; clear E a; intro a E; refine hK0 _ _ ?_; refine wp_seq_k fun K1 hK1 => ?_; refine S_region ?_; refine S_val E (pk_assign rfl rfl) rfl rfl rfl ?_; clear E a; intro a E; refine hK1 _ _ ?_; refine wp_seq_k fun K2 hK2 => ?_; refine wp_seq_k fun K3 hK3 => ?_; refine S_region ?_; refine S_val E (pk_move rfl rfl) rfl rfl rfl ?_; clear E a; intro a E; refine S_val E (pk_len rfl rfl (by kernel_rfl)) rfl rfl rfl ?_; clear E a; intro a E; refine S_val E (pk_move rfl rfl) rfl rfl rfl ?_; clear E a; intro a E; refine hK3 _ _ ?_; refine wp_block ?_
  refine S_loopK (γ := Nat) [0, 9, 10] (fun k => [(3, .int .i64 (((ps.take k).flatten.length : Nat) : Int)), (11, .int .i64 (k : Int))]) (fun k => k ≤ ps.length) (fun k => ps.length - k) (0) E H (by repeat (first | exact trivial | refine ⟨rfl, ?_⟩)) (Nat.zero_le _) ?_; clear E H; intro k a w E H hφ; replace E : Env a _ [(3, _), (11, _), (0, _), (9, _), (10, _)] := E; replace H : Sep _ _ _ _ [] [_] := H; refine wp_seq_k fun K4 hK4 => ?_; refine S_region ?_; refine S_val E (pk_int rfl rfl rfl rfl) rfl rfl rfl ?_; clear E a; intro a E; refine hK4 _ _ ?_; refine wp_seq_k fun K5 hK5 => ?_; refine env_split (d := 12) E rfl ?_ ?_
  · skip
    clear E; intro c12 E
    have hik : k < ps.length := by have := c12; simp only [decide_eq_true_eq] at this; omega
    have hx0 : ps[k]? = some ps[k] := List.getElem?_eq_getElem hik
    have hle := catf_le ps (k + 1)
    rw [catf_succ hx0, List.length_append] at hle
    refine S_then E rfl ?_; refine wp_skip ?_; refine hK5 _ _ ?_; refine wp_seq_k fun K6 hK6 => ?_; refine wp_block ?_; refine wp_seq_k fun K7 hK7 => ?_; refine S_region ?_
    obtain ⟨ad13, hA13, hc13, hn13⟩ := LiF.get (A := PA) (T := TextT) (i := k) (x := ps[k]) (by exact H.fact 0 rfl) hx0
    refine S_val E (pk_elA (sz := 1) hA13 rfl (by kernel_rfl) rfl rfl rfl (by omega)) rfl rfl rfl ?_; clear E a; intro a E
    replace H := (H.know hn13).know hc13
    clear hn13 hc13; replace H : Sep _ _ _ _ _ [_, _, _] := H; refine S_val E (pk_loadE1 (H.fact 0 rfl) (fun _ _ _ => trivial) rfl rfl rfl (by kernel_rfl)) rfl rfl rfl ?_; clear E a; intro a E; refine S_val E (pk_assign rfl rfl) rfl rfl rfl ?_; clear E a; intro a E; refine hK7 _ _ ?_; refine wp_seq_k fun K8 hK8 => ?_; refine S_region ?_; refine S_val E (pk_move rfl rfl) rfl rfl rfl ?_; clear E a; intro a E; refine S_val E (pk_move rfl rfl) rfl rfl rfl ?_; clear E a; intro a E; refine S_val E (pk_len rfl rfl (by kernel_rfl)) rfl rfl rfl ?_; clear E a; intro a E; refine S_val E (pk_intw rfl rfl rfl rfl (wI64 (by omega) (by omega))) rfl rfl rfl ?_; clear E a; intro a E
    rw [show (((ps.take k).flatten.length : Nat) : Int) + ((ps[k].length : Nat) : Int) = (((ps.take (k + 1)).flatten.length : Nat) : Int) from by rw [catf_succ hx0, List.length_append]; omega] at E
    refine S_val E (pk_assign rfl rfl) rfl rfl rfl ?_; clear E a; intro a E; refine hK8 _ _ ?_; refine wp_seq_k fun K9 hK9 => ?_; refine S_region ?_; refine S_val E (pk_move rfl rfl) rfl rfl rfl ?_; clear E a; intro a E; refine S_val E (pk_int (v := .bool false) rfl rfl rfl (congrArg (fun b => some (Value.bool b)) (decide_eq_false (by omega)))) rfl rfl rfl ?_; clear E a; intro a E; refine hK9 _ _ ?_; refine S_else E rfl ?_; refine wp_skip ?_; refine hK6 _ _ ?_; refine S_region ?_; refine S_val E (pk_intw rfl rfl rfl rfl (wI64 (by omega) (by omega))) rfl rfl rfl ?_; clear E a; intro a E; refine S_val E (pk_move rfl rfl) rfl rfl rfl ?_; clear E a; intro a E; refine loop_end ?_
    exact ⟨k + 1, ⟨E.to (by repeat (first | exact trivial | refine ⟨rfl, ?_⟩)), H.pop.pop, by omega⟩, by omega⟩
  · skip
    clear E; intro c12 E
    obtain rfl : k = ps.length := by have := c12; simp only [decide_eq_false_iff_not] at this; omega
    rw [List.take_length] at E
    refine S_else E rfl ?_; refine wp_exit ?_
    repeat (first | refine then_exit ?_ | refine block_hit ?_ | refine block_miss (by decide) ?_)
    refine hK2 _ _ ?_; refine wp_seq_k fun K10 hK10 => ?_; refine S_region ?_; refine S_val E (pk_move rfl rfl) rfl rfl rfl ?_; clear E a; intro a E; refine S_eff E rfl (fun K hK => ?_); refine eff_call E rfl rfl rfl (by kernel_rfl) ?_; refine (grow_sep (n := ps.flatten.length) (by omega) H.xk).mono ?_; rintro e w ⟨A24, c24, rfl, H1⟩
    replace H := H.call H1
    clear H1; replace H : Sep _ _ _ _ [_] [_] := H; refine hK _ _ ?_; clear hK K; refine S_put E rfl rfl ?_; clear E a; intro a E; refine S_val E (pk_assign rfl rfl) rfl rfl rfl ?_; clear E a; intro a E; refine hK10 _ _ ?_; refine wp_seq_k fun K11 hK11 => ?_; refine wp_seq_k fun K12 hK12 => ?_; refine S_region ?_; refine S_val E (pk_move rfl rfl) rfl rfl rfl ?_; clear E a; intro a E; refine S_val E (pk_len rfl rfl (by kernel_rfl)) rfl rfl rfl ?_; clear E a; intro a E; refine S_val E (pk_move rfl rfl) rfl rfl rfl ?_; clear E a; intro a E; refine hK12 _ _ ?_; refine wp_block ?_
    refine S_loopI (γ := Nat × Option Addr × Nat) [25, 26] (fun g => [(6, .slice g.2.1 (ps.take g.1).flatten.length g.2.2), (27, .int .i64 (g.1 : Int))]) (fun g => [.row (.slice g.2.1 (ps.take g.1).flatten.length g.2.2) 5 1 (ps.take g.1).flatten.length ((ps.take g.1).flatten.map bv)]) (fun g => [LiF TextT PA pc ps pm]) (fun g => g.1 ≤ ps.length ∧ ∀ x ∈ (ps.take g.1).flatten, x < 256) (fun g => ps.length - g.1) ((0, A24, c24)) E H (by repeat (first | exact trivial | refine ⟨rfl, ?_⟩)) (⟨Nat.zero_le _, fun x hx => by cases hx⟩) ?_; clear E H; intro g a w E H hφ; replace E : Env a _ [(6, _), (27, _), (25, _), (26, _)] := E; replace H : Sep _ _ _ _ [_] [_] := H
    obtain ⟨i, Ag, cg⟩ := g
    simp only at E H hφ ⊢
    obtain ⟨hi, hib⟩ := hφ
    refine wp_seq_k fun K13 hK13 => ?_; refine S_region ?_; refine S_val E (pk_int rfl rfl rfl rfl) rfl rfl rfl ?_; clear E a; intro a E; refine hK13 _ _ ?_; refine wp_seq_k fun K14 hK14 => ?_; refine env_split (d := 28) E rfl ?_ ?_
    · skip
      clear E; intro c28 E
      have hik : i < ps.length := by have := c28; simp only [decide_eq_true_eq] at this; omega
      have hx0 : ps[i]? = some ps[i] := List.getElem?_eq_getElem hik
      have hle := catf_le ps (i + 1)
      rw [catf_succ hx0, List.length_append] at hle
      refine S_then E rfl ?_; refine wp_skip ?_; refine hK14 _ _ ?_; refine wp_seq_k fun K15 hK15 => ?_; refine wp_block ?_; refine wp_seq_k fun K16 hK16 => ?_; refine S_region ?_
      obtain ⟨ad29, hA29, hc29, hn29⟩ := LiF.get (A := PA) (T := TextT) (i := i) (x := ps[i]) (by exact H.fact 0 rfl) hx0
      refine S_val E (pk_elA (sz := 1) hA29 rfl (by kernel_rfl) rfl rfl rfl (by omega)) rfl rfl rfl ?_; clear E a; intro a E
      replace H := (H.know hn29).know hc29
      clear hn29 hc29; replace H : Sep _ _ _ _ _ [_, _, _] := H; refine S_val E (pk_loadE1 (H.fact 0 rfl) (fun _ _ _ => trivial) rfl rfl rfl (by kernel_rfl)) rfl rfl rfl ?_; clear E a; intro a E; refine S_val E (pk_assign rfl rfl) rfl rfl rfl ?_; clear E a; intro a E; refine hK16 _ _ ?_; refine S_region ?_; refine S_val E (pk_move rfl rfl) rfl rfl rfl ?_; clear E a; intro a E; refine S_val E (pk_move rfl rfl) rfl rfl rfl ?_; clear E a; intro a E; refine S_eff E rfl (fun K hK => ?_); refine eff_appT (k := (ps.take i).flatten) (m := ps[i]) 0 E H (H.fact 1 rfl) rfl rfl rfl rfl ⟨Tryd.underlying32, by kernel_rfl⟩ (by omega) ?_; clear H; intro A33 c33 w H F; replace H : Sep _ _ _ _ [_] _ := H; refine hK _ _ ?_; clear hK K; refine S_put E rfl rfl ?_; clear E a; intro a E; clear F; refine S_val E (pk_assign rfl rfl) rfl rfl rfl ?_; clear E a; intro a E; refine hK15 _ _ ?_
      refine S_region ?_; refine S_val E (pk_intw rfl rfl rfl rfl (wI64 (by omega) (by omega))) rfl rfl rfl ?_; clear E a; intro a E; refine S_val E (pk_move rfl rfl) rfl rfl rfl ?_; clear E a; intro a E
      have hpb : ∀ x ∈ ps[i], x < 256 := (St.now (H.fact 1 rfl : St (TxF (pm i).1 (pm i).2 ps[i]) w _)).byt
      rw [← catf_succ hx0] at E H
      refine loop_end ?_
      exact ⟨(i + 1, A33, c33), ⟨E.to (by repeat (first | exact trivial | refine ⟨rfl, ?_⟩)), H.pop.pop, ⟨by show i + 1 ≤ ps.length; omega, fun x hx => by rw [catf_succ hx0] at hx; rcases List.mem_append.1 hx with h1 | h1; exact hib x h1; exact hpb x h1⟩⟩, by show ps.length - (i + 1) < ps.length - i; omega⟩
    · skip
      clear E; intro c28 E
      obtain rfl : i = ps.length := by have := c28; simp only [decide_eq_false_iff_not] at this; omega
      rw [List.take_length] at E H hib
      refine S_else E rfl ?_; refine wp_exit ?_
      repeat (first | refine then_exit ?_ | refine block_hit ?_ | refine block_miss (by decide) ?_)
      refine hK11 _ _ ?_; refine wp_seq_k fun K17 hK17 => ?_; refine S_region ?_; refine S_val E (pk_move rfl rfl) rfl rfl rfl ?_; clear E a; intro a E; refine S_val E (pk_assign rfl rfl) rfl rfl rfl ?_; clear E a; intro a E; refine hK17 _ _ ?_; refine wp_ret ?_
      repeat (first | refine then_ret ?_ | refine block_ret ?_)
      refine ret1 rfl E (resT rfl) ?_
      have hT := H.rowTx (Sep.new_x H) (by omega) hib
      exact ⟨Ag, cg, rfl, hT.refacts (List.forall_mem_cons.2 ⟨hT.fact 0 rfl, List.forall_mem_nil _⟩)⟩
end Go.Proofs.YtfolbgiekbimpaaDoor
namespace Go.Proofs.YtfolbgiekbimpaaDoor
set_option linter.unusedSimpArgs false
set_option linter.unusedVariables false
open Go.RowKit

/-- A text sealed with a key, with texts beside; or why not. -/
def sealR (gt : Nat → Nat) (k plain : List Nat) (ts : List (List Nat)) : List Nat × Int :=
  if okT ts then (strV (keyS gt k) plain ++ tagV gt (keyM gt k) (strV (keyS gt k) plain) ts, 0) else ([], 4)
/-- Bytes opened. -/
def openR (gt : Nat → Nat) (k bs : List Nat) (ts : List (List Nat)) : List Nat × Int :=
  if bs.length < 16 then ([], 2) else if 1048592 < bs.length then ([], 4) else if ¬ okT ts then ([], 4) else
  if tagV gt (keyM gt k) (bs.take (bs.length - 16)) ts = bs.drop (bs.length - 16) then (strV (keyS gt k) (bs.take (bs.length - 16)), 0) else ([], 5)
theorem sealR_byte (gt : Nat → Nat) (k plain : List Nat) (ts : List (List Nat)) : ∀ x ∈ (sealR gt k plain ts).1, x < 256 := by
  unfold sealR
  split
  · intro x hx
    rcases List.mem_append.1 hx with h | h
    · exact strV_byte _ _ x h
    · exact tagV_byte _ _ _ _ x h
  · intro x hx; cases hx
theorem sealR_len (gt : Nat → Nat) (k plain : List Nat) (ts : List (List Nat)) : (sealR gt k plain ts).1.length ≤ plain.length + 16 := by
  unfold sealR
  split
  · rw [List.length_append, strV_len, tagV_len]; omega
  · exact Nat.zero_le _
attribute [local irreducible] macV expV strV tagV
set_option maxRecDepth 100000 in
set_option maxHeartbeats 1000000 in
theorem Seal_any {PA TA : Option Addr} {pc tc : Nat} {k plain : List Nat} {ts : List (List Nat)} {tm : Nat → TextT.μ} {gt : Nat → Nat} (hk32 : k.length = 32) (hkb : ∀ x ∈ k, x < 256) (hpl : plain.length ≤ 1048576) (hts : ts.length ≤ 1000) {X : List Nat} {w0 : World} (hX : ∀ k ∈ X, k < w0.heap.size) (hP : St (TxF PA pc plain) w0 X) (hL : St (LiF TextT TA tc ts tm) w0 X) (hG : St (AtC ⟨1, 0, none⟩ [.row 64 fun i => u32 (gt i)]) w0 X) :
    Calls Tryd.prog 18 #[.agg (ca [.key k]), .slice PA plain.length pc, .slice TA ts.length tc] w0 fun e w' => ∃ A' c', e = .returned (.tuple #[.slice A' (sealR gt k plain ts).1.length c', .int .i64 (sealR gt k plain ts).2]) ∧ Sep X [] w0 w' [.row (.slice A' (sealR gt k plain ts).1.length c') 5 1 (sealR gt k plain ts).1.length ((sealR gt k plain ts).1.map bv)] [] := by
  have hlM : (keyM gt k).length = 32 := expV_len _ _ _ _
  have hSb : ∀ z ∈ keyS gt k, z < 256 := expV_byte _ _ _ _
  refine calls_env Tryd.ntmps18 Tryd.func18 rfl rfl fun a E => ?_; replace E : Env a _ [(0, _), (1, _), (2, _)] := E
  have H : Sep X [] w0 w0 [] [(TxF PA pc plain), (LiF TextT TA tc ts tm), (AtC ⟨1, 0, none⟩ [.row 64 fun i => u32 (gt i)])] := Sep.start hX (List.forall_mem_cons.2 ⟨hP, List.forall_mem_cons.2 ⟨hL, List.forall_mem_cons.2 ⟨hG, fun _ h => by cases h⟩⟩⟩)
  refine wp_seq_k fun K0 hK0 => ?_; refine S_region ?_; refine S_eff E rfl (fun K hK => ?_); refine eff_box E H rfl rfl rfl ?_; clear H; intro b3 w H _; refine hK _ _ ?_; clear hK K; refine S_put E rfl rfl ?_; clear E a; intro a E; refine S_val E (pk_assign rfl rfl) rfl rfl rfl ?_; clear E a; intro a E; refine S_val E (pk_assign rfl rfl) rfl rfl rfl ?_; clear E a; intro a E; refine hK0 _ _ ?_; refine wp_seq_k fun K1 hK1 => ?_; refine S_region ?_; refine S_val E (pk_load (n := 32) H 0 rfl rfl rfl trivial rfl (by kernel_rfl)) rfl rfl rfl ?_; clear E a; intro a E; refine S_eff E rfl (fun K hK => ?_); refine eff_call E rfl rfl rfl (by kernel_rfl) ?_; refine (keysOf_any (k := k) hk32 hkb H.xk (H.fact 2 rfl)).mono ?_; rintro e w ⟨A14, c14, rfl, H1⟩
  replace H := H.call H1
  clear H1; replace H : Sep _ _ _ _ [_] [_, _, _, _] := H; refine hK _ _ ?_; clear hK K; refine S_put E rfl rfl ?_; clear E a; intro a E; refine S_val E (pk_move rfl rfl) rfl rfl rfl ?_; clear E a; intro a E; refine S_val E (pk_extract rfl rfl rfl) rfl rfl rfl ?_; clear E a; intro a E; refine S_val E (pk_extract rfl rfl rfl) rfl rfl rfl ?_; clear E a; intro a E; refine S_eff E rfl (fun K hK => ?_); refine eff_alloc (z := [.row 16 fun _ => .int .u8 0, .row 12 fun _ => .int .u8 0, .one (.slice none 0 0)]) H rfl (by kernel_rfl) ?_; clear H; intro b8 w H _; refine hK _ _ ?_; clear hK K; refine S_put E rfl rfl ?_; clear E a; intro a E; refine S_eff E rfl (fun K hK => ?_); refine eff_store 0 E H rfl rfl rfl rfl rfl (by repeat (first | exact trivial | refine ⟨rfl, ?_⟩ | refine ⟨fun _ _ => rfl, ?_⟩)) rfl (by kernel_rfl) rfl ?_; clear H; intro w H _; replace H : Sep _ _ _ _ [_, _] _ := H
  refine hK _ _ ?_; clear hK K; refine S_put0 rfl ?_; refine S_val E (pk_assign rfl rfl) rfl rfl rfl ?_; clear E a; intro a E; refine hK1 _ _ ?_; refine wp_seq_k fun K2 hK2 => ?_; refine wp_seq_k fun K3 hK3 => ?_; refine S_region ?_; refine S_val E (pk_move rfl rfl) rfl rfl rfl ?_; clear E a; intro a E; refine S_val E (pk_int (v := .bool false) rfl rfl rfl (congrArg (fun b => some (Value.bool b)) (rfl))) rfl rfl rfl ?_; clear E a; intro a E; refine hK3 _ _ ?_; refine S_else E rfl ?_; refine wp_skip ?_; refine hK2 _ _ ?_; refine wp_seq_k fun K4 hK4 => ?_; refine S_region ?_; refine S_val E (pk_fieldAddr (off := 0) rfl rfl (by kernel_rfl)) rfl rfl rfl ?_; clear E a; intro a E; refine S_val E (pk_load (n := 16) H 0 rfl rfl rfl trivial rfl (by kernel_rfl)) rfl rfl rfl ?_; clear E a; intro a E; refine S_val E (pk_fieldAddr (off := 16) rfl rfl (by kernel_rfl)) rfl rfl rfl ?_; clear E a
  intro a E; refine S_val E (pk_load (n := 12) H 0 rfl rfl rfl trivial rfl (by kernel_rfl)) rfl rfl rfl ?_; clear E a; intro a E; refine S_val E (pk_move rfl rfl) rfl rfl rfl ?_; clear E a; intro a E; refine S_eff E rfl (fun K hK => ?_); refine eff_call E rfl rfl rfl (by kernel_rfl) ?_; refine (ctr_own (k := plain) (x := keyS gt k) H.xk (H.fact 1 rfl) hpl hSb).mono ?_; rintro e w ⟨A26, c26, rfl, H1⟩
  replace H := H.call H1
  clear H1; replace H : Sep _ _ _ _ [_, _, _] [_, _, _, _] := H; refine hK _ _ ?_; clear hK K; refine S_put E rfl rfl ?_; clear E a; intro a E; refine S_val E (pk_move rfl rfl) rfl rfl rfl ?_; clear E a; intro a E; refine S_val E (pk_extract rfl rfl rfl) rfl rfl rfl ?_; clear E a; intro a E; refine S_val E (pk_extract rfl rfl rfl) rfl rfl rfl ?_; clear E a; intro a E; refine S_val E (pk_assign rfl rfl) rfl rfl rfl ?_; clear E a; intro a E; refine S_val E (pk_assign rfl rfl) rfl rfl rfl ?_; clear E a; intro a E; refine hK4 _ _ ?_; refine wp_seq_k fun K5 hK5 => ?_; refine wp_seq_k fun K6 hK6 => ?_; refine S_region ?_; refine S_val E (pk_move rfl rfl) rfl rfl rfl ?_; clear E a; intro a E; refine S_val E (pk_int (v := .bool false) rfl rfl rfl (congrArg (fun b => some (Value.bool b)) (rfl))) rfl rfl rfl ?_; clear E a; intro a E; refine hK6 _ _ ?_; refine S_else E rfl ?_; refine wp_skip ?_
  refine hK5 _ _ ?_; refine wp_seq_k fun K7 hK7 => ?_; refine S_region ?_; refine S_val E (pk_load (n := 29) H 1 rfl rfl rfl trivial rfl (by kernel_rfl)) rfl rfl rfl ?_; clear E a; intro a E; refine S_val E (pk_move rfl rfl) rfl rfl rfl ?_; clear E a; intro a E; refine S_val E (pk_move rfl rfl) rfl rfl rfl ?_; clear E a; intro a E; refine S_eff E rfl (fun K hK => ?_); refine eff_call E rfl rfl rfl (by kernel_rfl) ?_
  have HR := H.rowTx (Sep.new_x H) (by rw [strV_len]; omega) (strV_byte _ _)
  refine (tag_any (sum := keyM gt k) (hid := (strV (keyS gt k) plain)) (ts := ts) hlM (by rw [strV_len]; omega) hts HR.xk (HR.fact 1 rfl) (HR.fact 0 rfl) (HR.fact 3 rfl) (HR.fact 4 rfl)).mono ?_; rintro e w ⟨A36, c36, rfl, H1⟩
  have F := H1.frm
  replace H := H.grow F
  refine hK _ _ ?_; clear hK K; refine S_put E rfl rfl ?_; clear E a; intro a E; clear F
  have hT36 := H1.fact 0 rfl
  clear H1 HR; refine S_val E (pk_move rfl rfl) rfl rfl rfl ?_; clear E a; intro a E; refine S_val E (pk_extract rfl rfl rfl) rfl rfl rfl ?_; clear E a; intro a E; refine S_val E (pk_extract rfl rfl rfl) rfl rfl rfl ?_; clear E a; intro a E; refine S_val E (pk_assign rfl rfl) rfl rfl rfl ?_; clear E a; intro a E; refine S_val E (pk_assign rfl rfl) rfl rfl rfl ?_; clear E a; intro a E; refine hK7 _ _ ?_; refine wp_seq_k fun K8 hK8 => ?_; refine wp_seq_k fun K9 hK9 => ?_; refine S_region ?_; refine S_val E (pk_move rfl rfl) rfl rfl rfl ?_; clear E a; intro a E; refine S_val E (pk_int rfl rfl rfl rfl) rfl rfl rfl ?_; clear E a; intro a E; refine hK9 _ _ ?_; refine env_split (d := 40) E rfl ?_ ?_
  · skip
    clear E; intro c40 E
    have hok : ¬ okT ts := fun h => by
      rw [show tagR gt (keyM gt k) (strV (keyS gt k) plain) ts = (tagV gt (keyM gt k) (strV (keyS gt k) plain) ts, 0) from by unfold tagR; rw [if_pos h]] at c40
      cases c40
    have htr : tagR gt (keyM gt k) (strV (keyS gt k) plain) ts = ([], 4) := by unfold tagR; rw [if_neg hok]
    have hsr : sealR gt k plain ts = ([], 4) := by unfold sealR; rw [if_neg hok]
    refine S_then E rfl ?_; refine wp_seq_k fun K10 hK10 => ?_; refine S_region ?_; refine S_val E (pk_move rfl rfl) rfl rfl rfl ?_; clear E a; intro a E; refine S_val E (pk_assign rfl rfl) rfl rfl rfl ?_; clear E a; intro a E; refine S_val E (pk_assign rfl rfl) rfl rfl rfl ?_; clear E a; intro a E; refine hK10 _ _ ?_; refine wp_ret ?_
    repeat (first | refine then_ret ?_ | refine block_ret ?_)
    refine ret2 rfl E (resT rfl) (resT rfl) ?_
    rw [hsr]
    exact ⟨none, 0, by rw [htr]; rfl, (((H.refacts (R' := []) (List.forall_mem_nil _)).popL.popL.popL).rownil _ _)⟩
  · skip
    clear E; intro c40 E
    have hok : okT ts := by
      refine Classical.byContradiction fun h => ?_
      rw [show tagR gt (keyM gt k) (strV (keyS gt k) plain) ts = ([], 4) from by unfold tagR; rw [if_neg h]] at c40
      cases c40
    have htr : tagR gt (keyM gt k) (strV (keyS gt k) plain) ts = (tagV gt (keyM gt k) (strV (keyS gt k) plain) ts, 0) := by unfold tagR; rw [if_pos hok]
    have hsr : sealR gt k plain ts = ((strV (keyS gt k) plain) ++ tagV gt (keyM gt k) (strV (keyS gt k) plain) ts, 0) := by unfold sealR; rw [if_pos hok]
    rw [htr] at E hT36
    simp only at E hT36
    refine S_else E rfl ?_; refine wp_skip ?_; refine hK8 _ _ ?_; refine wp_seq_k fun K11 hK11 => ?_; refine S_region ?_; refine S_val E (pk_move rfl rfl) rfl rfl rfl ?_; clear E a; intro a E; refine S_val E (pk_move rfl rfl) rfl rfl rfl ?_; clear E a; intro a E; refine S_eff E rfl (fun K hK => ?_); refine eff_appT (k := (strV (keyS gt k) plain)) (m := tagV gt (keyM gt k) (strV (keyS gt k) plain) ts) 0 E H hT36 rfl rfl rfl rfl ⟨Tryd.underlying32, by kernel_rfl⟩ (by rw [strV_len, tagV_len]; omega) ?_; clear H; intro A44 c44 w H F; replace H : Sep _ _ _ _ [_, _, _] _ := H; refine hK _ _ ?_; clear hK K; refine S_put E rfl rfl ?_; clear E a; intro a E; clear F; refine S_val E (pk_assign rfl rfl) rfl rfl rfl ?_; clear E a; intro a E; refine S_val E (pk_assign rfl rfl) rfl rfl rfl ?_; clear E a; intro a E; refine hK11 _ _ ?_; refine wp_ret ?_
    repeat (first | refine then_ret ?_ | refine block_ret ?_)
    refine ret2 rfl E (resT rfl) (resT rfl) ?_
    rw [hsr]
    exact ⟨A44, c44, rfl, ((((H.refacts (R' := []) (List.forall_mem_nil _)).perm (L' := [_, _, _]) ((List.Perm.swap _ _ _).trans (List.Perm.cons _ (List.Perm.swap _ _ _)))).popL).popL)⟩
set_option maxRecDepth 100000 in
set_option maxHeartbeats 1000000 in
theorem Open_any {BA TA : Option Addr} {bc tc : Nat} {k bs : List Nat} {ts : List (List Nat)} {tm : Nat → TextT.μ} {gt : Nat → Nat} (hk32 : k.length = 32) (hkb : ∀ x ∈ k, x < 256) (hts : ts.length ≤ 1000) {X : List Nat} {w0 : World} (hX : ∀ k ∈ X, k < w0.heap.size) (hB : St (TxF BA bc bs) w0 X) (hL : St (LiF TextT TA tc ts tm) w0 X) (hG : St (AtC ⟨1, 0, none⟩ [.row 64 fun i => u32 (gt i)]) w0 X) :
    Calls Tryd.prog 20 #[.agg (ca [.key k]), .slice BA bs.length bc, .slice TA ts.length tc] w0 fun e w' => ∃ A' c', e = .returned (.tuple #[.slice A' (openR gt k bs ts).1.length c', .int .i64 (openR gt k bs ts).2]) ∧ Sep X [] w0 w' [] [TxF A' c' (openR gt k bs ts).1] := by
  have hlM : (keyM gt k).length = 32 := expV_len _ _ _ _
  have hSb : ∀ z ∈ keyS gt k, z < 256 := expV_byte _ _ _ _
  have hbl := hB.now.len
  have hbc := hB.now.cap
  refine calls_env Tryd.ntmps20 Tryd.func20 rfl rfl fun a E => ?_; replace E : Env a _ [(0, _), (1, _), (2, _)] := E
  have H : Sep X [] w0 w0 [] [(TxF BA bc bs), (LiF TextT TA tc ts tm), (AtC ⟨1, 0, none⟩ [.row 64 fun i => u32 (gt i)])] := Sep.start hX (List.forall_mem_cons.2 ⟨hB, List.forall_mem_cons.2 ⟨hL, List.forall_mem_cons.2 ⟨hG, fun _ h => by cases h⟩⟩⟩)
  refine wp_seq_k fun K0 hK0 => ?_; refine S_region ?_; refine S_eff E rfl (fun K hK => ?_); refine eff_box E H rfl rfl rfl ?_; clear H; intro b3 w H _; refine hK _ _ ?_; clear hK K; refine S_put E rfl rfl ?_; clear E a; intro a E; refine S_val E (pk_assign rfl rfl) rfl rfl rfl ?_; clear E a; intro a E; refine S_val E (pk_assign rfl rfl) rfl rfl rfl ?_; clear E a; intro a E; refine hK0 _ _ ?_; refine wp_seq_k fun K1 hK1 => ?_; refine S_region ?_; refine S_val E (pk_move rfl rfl) rfl rfl rfl ?_; clear E a; intro a E; refine S_val E (pk_len rfl rfl (by kernel_rfl)) rfl rfl rfl ?_; clear E a; intro a E; refine S_val E (pk_intw rfl rfl rfl rfl (wI64 (by omega) (by omega))) rfl rfl rfl ?_; clear E a; intro a E; refine S_val E (pk_assign rfl rfl) rfl rfl rfl ?_; clear E a; intro a E; refine hK1 _ _ ?_; refine wp_seq_k fun K2 hK2 => ?_; refine wp_block ?_; refine wp_seq_k fun K3 hK3 => ?_
  refine S_region ?_; refine S_val E (pk_move rfl rfl) rfl rfl rfl ?_; clear E a; intro a E; refine S_val E (pk_int rfl rfl rfl rfl) rfl rfl rfl ?_; clear E a; intro a E; refine S_val E (pk_assign rfl rfl) rfl rfl rfl ?_; clear E a; intro a E; refine hK3 _ _ ?_; refine env_split (d := 15) E rfl ?_ ?_
  · skip
    clear E; intro c15 E
    have hlt : bs.length < 16 := by have := c15; simp only [decide_eq_true_eq] at this; omega
    have hor : openR gt k bs ts = ([], 2) := by unfold openR; rw [if_pos hlt]
    refine S_then E rfl ?_; refine wp_seq_k fun K4 hK4 => ?_; refine S_region ?_; refine S_val E (pk_assign rfl rfl) rfl rfl rfl ?_; clear E a; intro a E; refine S_val E (pk_assign rfl rfl) rfl rfl rfl ?_; clear E a; intro a E; refine hK4 _ _ ?_; refine wp_ret ?_
    repeat (first | refine then_ret ?_ | refine block_ret ?_)
    refine ret2 rfl E (resT rfl) (resT rfl) ?_
    rw [hor]
    exact ⟨none, 0, rfl, ((H.refacts (R' := [_]) (List.forall_mem_cons.2 ⟨txF_nil, List.forall_mem_nil _⟩))).popL⟩
  · skip
    clear E; intro c15 E
    have hlt : ¬ bs.length < 16 := by have := c15; simp only [decide_eq_false_iff_not] at this; omega
    refine S_else E rfl ?_; refine wp_seq_k fun K5 hK5 => ?_; refine S_region ?_; refine S_val E (pk_move rfl rfl) rfl rfl rfl ?_; clear E a; intro a E; refine S_val E (pk_int rfl rfl rfl rfl) rfl rfl rfl ?_; clear E a; intro a E; refine S_val E (pk_assign rfl rfl) rfl rfl rfl ?_; clear E a; intro a E; refine hK5 _ _ ?_; refine env_split (d := 18) E rfl ?_ ?_
    · skip
      clear E; intro c18 E
      have hgt : 1048592 < bs.length := by have := c18; simp only [decide_eq_true_eq] at this; omega
      have hor : openR gt k bs ts = ([], 4) := by unfold openR; rw [if_neg hlt, if_pos hgt]
      refine S_then E rfl ?_; refine wp_seq_k fun K6 hK6 => ?_; refine S_region ?_; refine S_val E (pk_assign rfl rfl) rfl rfl rfl ?_; clear E a; intro a E; refine S_val E (pk_assign rfl rfl) rfl rfl rfl ?_; clear E a; intro a E; refine hK6 _ _ ?_; refine wp_ret ?_
      repeat (first | refine then_ret ?_ | refine block_ret ?_)
      refine ret2 rfl E (resT rfl) (resT rfl) ?_
      rw [hor]
      exact ⟨none, 0, rfl, ((H.refacts (R' := [_]) (List.forall_mem_cons.2 ⟨txF_nil, List.forall_mem_nil _⟩))).popL⟩
    · skip
      clear E; intro c18 E
      have hgt : ¬ 1048592 < bs.length := by have := c18; simp only [decide_eq_false_iff_not] at this; omega
      obtain ⟨n, hn⟩ : ∃ n, bs.length = n + 16 := ⟨bs.length - 16, by omega⟩
      rw [show ((bs.length : Nat) : Int) - 16 = ((n : Nat) : Int) from by omega] at E
      have hbt : (bs.take n).length = n := by rw [List.length_take]; omega
      have hn16 : bs.length - 16 = n := by omega
      refine S_else E rfl ?_; refine wp_skip ?_; refine hK2 _ _ ?_; refine wp_seq_k fun K7 hK7 => ?_; refine S_region ?_; refine S_val E (pk_load (n := 32) H 0 rfl rfl rfl trivial rfl (by kernel_rfl)) rfl rfl rfl ?_; clear E a; intro a E; refine S_eff E rfl (fun K hK => ?_); refine eff_call E rfl rfl rfl (by kernel_rfl) ?_; refine (keysOf_any (k := k) hk32 hkb H.xk (H.fact 2 rfl)).mono ?_; rintro e w ⟨A23, c23, rfl, H1⟩
      replace H := H.call H1
      clear H1; replace H : Sep _ _ _ _ [_] [_, _, _, _] := H; refine hK _ _ ?_; clear hK K; refine S_put E rfl rfl ?_; clear E a; intro a E; refine S_val E (pk_move rfl rfl) rfl rfl rfl ?_; clear E a; intro a E; refine S_val E (pk_extract rfl rfl rfl) rfl rfl rfl ?_; clear E a; intro a E; refine S_val E (pk_extract rfl rfl rfl) rfl rfl rfl ?_; clear E a; intro a E; refine S_eff E rfl (fun K hK => ?_); refine eff_alloc (z := [.row 16 fun _ => .int .u8 0, .row 12 fun _ => .int .u8 0, .one (.slice none 0 0)]) H rfl (by kernel_rfl) ?_; clear H; intro b9 w H _; refine hK _ _ ?_; clear hK K; refine S_put E rfl rfl ?_; clear E a; intro a E; refine S_eff E rfl (fun K hK => ?_); refine eff_store 0 E H rfl rfl rfl rfl rfl (by repeat (first | exact trivial | refine ⟨rfl, ?_⟩ | refine ⟨fun _ _ => rfl, ?_⟩)) rfl (by kernel_rfl) rfl ?_; clear H; intro w H _; replace H : Sep _ _ _ _ [_, _] _ := H
      refine hK _ _ ?_; clear hK K; refine S_put0 rfl ?_; refine S_val E (pk_assign rfl rfl) rfl rfl rfl ?_; clear E a; intro a E; refine hK7 _ _ ?_; refine wp_seq_k fun K8 hK8 => ?_; refine wp_seq_k fun K9 hK9 => ?_; refine S_region ?_; refine S_val E (pk_move rfl rfl) rfl rfl rfl ?_; clear E a; intro a E; refine S_val E (pk_int (v := .bool false) rfl rfl rfl (congrArg (fun b => some (Value.bool b)) (rfl))) rfl rfl rfl ?_; clear E a; intro a E; refine hK9 _ _ ?_; refine S_else E rfl ?_; refine wp_skip ?_; refine hK8 _ _ ?_; refine wp_seq_k fun K10 hK10 => ?_
      replace H := H.know (txF_take (hi := n) (H.fact 1 rfl) (by omega))
      replace H : Sep _ _ _ _ [_, _] [_, _, _, _, _] := H; refine C_region E H [] 10 [(0, false), (1, false), (2, false), (3, false), (4, false), (5, true), (6, false), (7, false), (8, false), (9, false)] (by kernel_rfl) (by kernel_rfl) (fun w HS => ?_)
      (simp only [canOps, List.getElem?_cons_zero, List.getElem?_cons_succ, List.drop_succ_cons, List.drop_zero])
      clear H
      have H := HS
      have hsz : w.heap.size ≤ w.heap.size := Nat.le_refl _
      have HK : CanB.Keep (fun k => k < w.heap.size ∧ k ∉ []) w w := CanB.Keep.refl _ _
      refine C_val E HK (pk_load (n := 29) HS 0 rfl rfl rfl (HS.inS 0 rfl (by simp)) rfl (by kernel_rfl)) rfl rfl rfl (fun _ _ _ _ h => h) ?_; clear E a; intro a E; refine C_val E HK (pk_move rfl rfl) rfl rfl rfl (fun _ _ _ _ h => h) ?_; clear E a; intro a E; refine C_val E HK (pk_move rfl rfl) rfl rfl rfl (fun _ _ _ _ h => h) ?_; clear E a; intro a E; refine C_val E HK (pk_sub_hi (sz := 1) (hi := n) rfl (by kernel_rfl) rfl rfl rfl (by omega)) rfl rfl rfl (fun _ _ _ _ h => h) ?_; clear E a; intro a E
      rw [sub_zero, show Value.slice BA n bc = .slice BA (bs.take n).length bc from by rw [hbt]] at E
      refine C_val E HK (pk_move rfl rfl) rfl rfl rfl (fun _ _ _ _ h => h) ?_; clear E a; intro a E; refine C_eff E rfl (fun K hK => ?_); refine eff_call E rfl rfl rfl (by kernel_rfl) ?_; refine (tag_any (sum := keyM gt k) (hid := (bs.take n)) (ts := ts) hlM (by rw [hbt]; omega) hts H.xk (H.fact 1 rfl) (H.fact 0 rfl) (H.fact 3 rfl) (H.fact 4 rfl)).mono ?_; rintro e w ⟨A35, c35, rfl, H1⟩
      have F := H1.frm
      replace H := H.call H1
      clear H1; replace H : Sep _ _ _ _ [_, _] [_, _, _, _, _, _] := H
      have hk := keep_frm (D := []) F hsz (by simp)
      refine hK _ _ hk ?_; clear hK K
      replace HK := HK.trans hk
      replace hsz := Nat.le_trans hsz (F).size
      clear hk; refine C_put E rfl rfl ?_; clear E a; intro a E; clear F; refine C_val E HK (pk_move rfl rfl) rfl rfl rfl (fun _ _ _ _ h => h) ?_; clear E a; intro a E; refine C_val E HK (pk_extract rfl rfl rfl) rfl rfl rfl (fun _ _ _ _ h => h) ?_; clear E a; intro a E; refine C_val E HK (pk_extract rfl rfl rfl) rfl rfl rfl (fun _ _ _ _ h => h) ?_; clear E a; intro a E; refine C_val E HK (pk_assign rfl rfl) rfl rfl rfl (fun _ _ _ _ h => h) ?_; clear E a; intro a E; refine CanB.wpCan_nil ?_
      try (simp only [List.take_succ_cons, List.take_zero, List.drop_succ_cons, List.drop_zero])
      clear HS HK hsz; refine S_val E (pk_assign rfl rfl) rfl rfl rfl ?_; clear E a; intro a E; refine hK10 _ _ ?_; refine wp_seq_k fun K11 hK11 => ?_; refine wp_block ?_; refine wp_seq_k fun K12 hK12 => ?_; refine S_region ?_; refine S_val E (pk_move rfl rfl) rfl rfl rfl ?_; clear E a; intro a E; refine S_val E (pk_int rfl rfl rfl rfl) rfl rfl rfl ?_; clear E a; intro a E; refine S_val E (pk_assign rfl rfl) rfl rfl rfl ?_; clear E a; intro a E; refine hK12 _ _ ?_; refine env_split (d := 38) E rfl ?_ ?_
      · skip
        clear E; intro c38 E
        have hok : ¬ okT ts := fun h => by
          rw [show tagR gt (keyM gt k) (bs.take n) ts = (tagV gt (keyM gt k) (bs.take n) ts, 0) from by unfold tagR; rw [if_pos h]] at c38
          cases c38
        have htr : tagR gt (keyM gt k) (bs.take n) ts = ([], 4) := by unfold tagR; rw [if_neg hok]
        have hor : openR gt k bs ts = ([], 4) := by unfold openR; rw [if_neg hlt, if_neg hgt, if_pos hok]
        refine S_then E rfl ?_; refine wp_seq_k fun K13 hK13 => ?_; refine S_region ?_; refine S_val E (pk_move rfl rfl) rfl rfl rfl ?_; clear E a; intro a E; refine S_val E (pk_assign rfl rfl) rfl rfl rfl ?_; clear E a; intro a E; refine S_val E (pk_assign rfl rfl) rfl rfl rfl ?_; clear E a; intro a E; refine hK13 _ _ ?_; refine wp_ret ?_
        repeat (first | refine then_ret ?_ | refine block_ret ?_)
        refine ret2 rfl E (resT rfl) (resT rfl) ?_
        rw [hor]
        exact ⟨none, 0, by rw [htr]; rfl, ((H.refacts (R' := [_]) (List.forall_mem_cons.2 ⟨txF_nil, List.forall_mem_nil _⟩))).popL.popL⟩
      · skip
        clear E; intro c38 E
        have hok : okT ts := by
          refine Classical.byContradiction fun h => ?_
          rw [show tagR gt (keyM gt k) (bs.take n) ts = ([], 4) from by unfold tagR; rw [if_neg h]] at c38
          cases c38
        have htr : tagR gt (keyM gt k) (bs.take n) ts = (tagV gt (keyM gt k) (bs.take n) ts, 0) := by unfold tagR; rw [if_pos hok]
        rw [htr] at E H
        simp only at E H
        refine S_else E rfl ?_; refine wp_seq_k fun K14 hK14 => ?_; refine S_region ?_; refine S_val E (pk_move rfl rfl) rfl rfl rfl ?_; clear E a; intro a E; refine S_val E (pk_move rfl rfl) rfl rfl rfl ?_; clear E a; intro a E; refine S_val E (pk_move rfl rfl) rfl rfl rfl ?_; clear E a; intro a E
        obtain ⟨A46, c46, h46, hT46⟩ := txF_drop (lo := n) (H.fact 3 rfl) (by omega)
        refine S_val E (pk_sub_lo (sz := 1) (lo := n) rfl (by kernel_rfl) rfl rfl rfl (by omega)) rfl rfl rfl ?_; clear E a; intro a E
        rw [h46] at E
        replace H := H.know hT46
        clear h46 hT46; replace H : Sep _ _ _ _ _ [_, _, _, _, _, _, _] := H; refine S_eff E rfl (fun K hK => ?_); refine eff_call E rfl rfl rfl (by kernel_rfl) ?_; refine (Equal_any (ka := tagV gt (keyM gt k) (bs.take n) ts) (kb := (bs.drop n)) H.xk (H.fact 1 rfl) (H.fact 0 rfl)).mono ?_; rintro e w ⟨rfl, H1⟩
        replace H := H.call H1
        clear H1; replace H : Sep _ _ _ _ [_, _] [_, _, _, _, _, _, _] := H; refine hK _ _ ?_; clear hK K; refine S_put E rfl rfl ?_; clear E a; intro a E; refine S_val E (pk_not rfl rfl) rfl rfl rfl ?_; clear E a; intro a E; refine S_val E (pk_assign rfl rfl) rfl rfl rfl ?_; clear E a; intro a E; refine hK14 _ _ ?_; refine env_split (d := 42) E rfl ?_ ?_
        · skip
          clear E; intro c42 E
          have hne : ¬ tagV gt (keyM gt k) (bs.take n) ts = (bs.drop n) := by have := c42; simpa using this
          have hor : openR gt k bs ts = ([], 5) := by unfold openR; rw [if_neg hlt, if_neg hgt, if_neg (fun h => h hok), hn16, if_neg hne]
          refine S_then E rfl ?_; refine wp_seq_k fun K15 hK15 => ?_; refine S_region ?_; refine S_val E (pk_assign rfl rfl) rfl rfl rfl ?_; clear E a; intro a E; refine S_val E (pk_assign rfl rfl) rfl rfl rfl ?_; clear E a; intro a E; refine hK15 _ _ ?_; refine wp_ret ?_
          repeat (first | refine then_ret ?_ | refine block_ret ?_)
          refine ret2 rfl E (resT rfl) (resT rfl) ?_
          rw [hor]
          exact ⟨none, 0, rfl, ((H.refacts (R' := [_]) (List.forall_mem_cons.2 ⟨txF_nil, List.forall_mem_nil _⟩))).popL.popL⟩
        · skip
          clear E; intro c42 E
          have heq : tagV gt (keyM gt k) (bs.take n) ts = (bs.drop n) := by have := c42; simpa using this
          have hor : openR gt k bs ts = (strV (keyS gt k) (bs.take n), 0) := by unfold openR; rw [if_neg hlt, if_neg hgt, if_neg (fun h => h hok), hn16, if_pos heq]
          refine S_else E rfl ?_; refine wp_skip ?_; refine hK11 _ _ ?_; refine wp_seq_k fun K16 hK16 => ?_; refine C_region E H [] 10 [(0, false), (1, false), (2, false), (3, false), (4, false), (5, false), (6, false), (7, true), (8, false), (9, false)] (by kernel_rfl) (by kernel_rfl) (fun w HS => ?_)
          (simp only [canOps, List.getElem?_cons_zero, List.getElem?_cons_succ, List.drop_succ_cons, List.drop_zero])
          clear H
          have H := HS
          have hsz : w.heap.size ≤ w.heap.size := Nat.le_refl _
          have HK : CanB.Keep (fun k => k < w.heap.size ∧ k ∉ []) w w := CanB.Keep.refl _ _
          refine C_val E HK (pk_fieldAddr (off := 0) rfl rfl (by kernel_rfl)) rfl rfl rfl (fun _ _ _ _ h => h) ?_; clear E a; intro a E; refine C_val E HK (pk_load (n := 16) HS 0 rfl rfl rfl (HS.inS 0 rfl (by simp)) rfl (by kernel_rfl)) rfl rfl rfl (fun _ _ _ _ h => h) ?_; clear E a; intro a E; refine C_val E HK (pk_fieldAddr (off := 16) rfl rfl (by kernel_rfl)) rfl rfl rfl (fun _ _ _ _ h => h) ?_; clear E a; intro a E; refine C_val E HK (pk_load (n := 12) HS 0 rfl rfl rfl (HS.inS 0 rfl (by simp)) rfl (by kernel_rfl)) rfl rfl rfl (fun _ _ _ _ h => h) ?_; clear E a; intro a E; refine C_val E HK (pk_move rfl rfl) rfl rfl rfl (fun _ _ _ _ h => h) ?_; clear E a; intro a E; refine C_val E HK (pk_move rfl rfl) rfl rfl rfl (fun _ _ _ _ h => h) ?_; clear E a; intro a E; refine C_val E HK (pk_sub_hi (sz := 1) (hi := n) rfl (by kernel_rfl) rfl rfl rfl (by omega)) rfl rfl rfl (fun _ _ _ _ h => h) ?_
          clear E a; intro a E
          rw [sub_zero, show Value.slice BA n bc = .slice BA (bs.take n).length bc from by rw [hbt]] at E
          refine C_eff E rfl (fun K hK => ?_); refine eff_call E rfl rfl rfl (by kernel_rfl) ?_; refine (ctr_own (k := (bs.take n)) (x := keyS gt k) H.xk (H.fact 2 rfl) (by rw [hbt]; omega) hSb).mono ?_; rintro e w ⟨A56, c56, rfl, H1⟩
          have F := H1.frm
          replace H := H.call H1
          clear H1; replace H : Sep _ _ _ _ [_, _, _] [_, _, _, _, _, _, _] := H
          have hk := keep_frm (D := []) F hsz (by simp)
          refine hK _ _ hk ?_; clear hK K
          replace HK := HK.trans hk
          replace hsz := Nat.le_trans hsz (F).size
          clear hk; refine C_put E rfl rfl ?_; clear E a; intro a E; clear F; refine C_val E HK (pk_extract rfl rfl rfl) rfl rfl rfl (fun _ _ _ _ h => h) ?_; clear E a; intro a E; refine C_val E HK (pk_extract rfl rfl rfl) rfl rfl rfl (fun _ _ _ _ h => h) ?_; clear E a; intro a E; refine CanB.wpCan_nil ?_
          try (simp only [List.take_succ_cons, List.take_zero, List.drop_succ_cons, List.drop_zero])
          clear HS HK hsz; refine S_val E (pk_assign rfl rfl) rfl rfl rfl ?_; clear E a; intro a E; refine S_val E (pk_assign rfl rfl) rfl rfl rfl ?_; clear E a; intro a E; refine hK16 _ _ ?_; refine wp_ret ?_
          repeat (first | refine then_ret ?_ | refine block_ret ?_)
          refine ret2 rfl E (resT rfl) (resT rfl) ?_
          rw [hor]
          have hT := H.rowTx (Sep.new_x H) (by rw [strV_len]; omega) (strV_byte _ _)
          exact ⟨A56, c56, rfl, ((hT.refacts (List.forall_mem_cons.2 ⟨hT.fact 0 rfl, List.forall_mem_nil _⟩)).popL).popL⟩
end Go.Proofs.YtfolbgiekbimpaaDoor
namespace Go.Proofs.YtfolbgiekbimpaaDoor
set_option linter.unusedSimpArgs false
set_option linter.unusedVariables false
open Go.RowKit

def pairL : List Nat := [112, 97, 105, 114]
def boxL : List Nat := [98, 111, 120]
def kkeyL : List Nat := [107, 101, 121]
/-- A point, multiplied by a number; the point 9, multiplied. -/
def multK (k u : List Nat) : List Nat := (List.range 32).map fun i => byteN (multV (fun i => k.getD i 0) (keyU fun i => u.getD i 0)) i
def baseK (k : List Nat) : List Nat := (List.range 32).map fun i => byteN (multV (fun i => k.getD i 0) (keyU nineN)) i
theorem multK_len (k u : List Nat) : (multK k u).length = 32 := by simp [multK]
theorem baseK_len (k : List Nat) : (baseK k).length = 32 := by simp [baseK]
theorem multK_byte (k u : List Nat) : ∀ x ∈ multK k u, x < 256 := fun x hx => by
  obtain ⟨i, _, rfl⟩ := List.mem_map.1 hx
  exact byteN_lt _ _
theorem baseK_byte (k : List Nat) : ∀ x ∈ baseK k, x < 256 := fun x hx => by
  obtain ⟨i, _, rfl⟩ := List.mem_map.1 hx
  exact byteN_lt _ _
theorem arr_range (f : Nat → Nat) : arr .u8 32 (fun i => ((f i : Nat) : Int)) = ca [.key ((List.range 32).map f)] := by
  rw [arr_ca]
  simp only [ca]
  congr 1
theorem sep_bel {X : List Nat} {w0 w' : World} (hX : ∀ k ∈ X, k < w0.heap.size) (hb : Below w0.heap.size w0 w') : Sep X [] w0 w' [] [] :=
  ⟨Frm.of_below hb, hX, fun _ h => (by cases h), List.nodup_nil, fun _ h => (by cases h), fun _ h => by cases h⟩
section
variable {X : List Nat} {w0 : World} {k u : List Nat}
theorem mult_sep (hX : ∀ i ∈ X, i < w0.heap.size) (hk : ∀ x ∈ k, x < 256) (hu : ∀ x ∈ u, x < 256) :
    Calls Tryd.prog 15 #[.agg (ca [.key k]), .agg (ca [.key u])] w0 fun e w' => e = .returned (.agg (ca [.key (multK k u)])) ∧ Sep X [] w0 w' [] [] := by
  rw [ca_key_arr, ca_key_arr]
  refine (Mult_any (fun i => k.getD i 0) (fun i => u.getD i 0) (fun i _ => getD_byte hk i) (fun i _ => getD_byte hu i) w0).mono ?_
  rintro e w' ⟨rfl, hb⟩
  exact ⟨by rw [arr_range]; rfl, sep_bel hX hb⟩
theorem base_sep (hX : ∀ i ∈ X, i < w0.heap.size) (hk : ∀ x ∈ k, x < 256) :
    Calls Tryd.prog 9 #[.agg (ca [.key k])] w0 fun e w' => e = .returned (.agg (ca [.key (baseK k)])) ∧ Sep X [] w0 w' [] [] := by
  rw [ca_key_arr]
  refine (Base_any (fun i => k.getD i 0) (fun i _ => getD_byte hk i) w0).mono ?_
  rintro e w' ⟨rfl, hb⟩
  exact ⟨by rw [arr_range]; rfl, sep_bel hX hb⟩
end
/-- A seed's secret, and its point. -/
def pairS (gt : Nat → Nat) (seed : List Nat) : List Nat := derV gt seed pairL []
def pairP (gt : Nat → Nat) (seed : List Nat) : List Nat := baseK (pairS gt seed)
/-- The key of two. -/
def sharedK (gt : Nat → Nat) (both mine theirs : List Nat) : List Nat := derV gt (macV gt [] [both]) kkeyL [mine, theirs]
def noneK (k : List Nat) : Prop := keyL k = keyL []
instance (k : List Nat) : Decidable (noneK k) := by unfold noneK; infer_instance
def sharedR (gt : Nat → Nat) (sec oth mine theirs : List Nat) : List Nat × Int := if noneK (multK sec oth) then ([], 1) else (sharedK gt (multK sec oth) mine theirs, 0)
/-- A text boxed for a point; or why not. -/
def boxSec (gt : Nat → Nat) (seed : List Nat) : List Nat := pairS gt (derV gt seed boxL [])
def boxPt (gt : Nat → Nat) (seed : List Nat) : List Nat := pairP gt (derV gt seed boxL [])
def kboxR (gt : Nat → Nat) (point seed plain : List Nat) (ts : List (List Nat)) : List Nat × Int :=
  if noneK (multK (boxSec gt seed) point) then ([], 1) else
  if okT ts then (boxPt gt seed ++ (sealR gt (sharedK gt (multK (boxSec gt seed) point) (boxPt gt seed) point) plain ts).1, 0) else ([], 4)
/-- Bytes unboxed by a secret. -/
def unboxR (gt : Nat → Nat) (sec b : List Nat) (ts : List (List Nat)) : List Nat × Int :=
  if b.length < 32 then ([], 2) else if noneK (multK sec (b.take 32)) then ([], 1) else
  openR gt (sharedK gt (multK sec (b.take 32)) (b.take 32) (baseK sec)) (b.drop 32) ts
theorem pairS_len (gt : Nat → Nat) (seed : List Nat) : (pairS gt seed).length = 32 := derV_len _ _ _ _
theorem pairS_byte (gt : Nat → Nat) (seed : List Nat) : ∀ x ∈ pairS gt seed, x < 256 := derV_byte _ _ _ _
theorem pairP_len (gt : Nat → Nat) (seed : List Nat) : (pairP gt seed).length = 32 := baseK_len _
theorem pairP_byte (gt : Nat → Nat) (seed : List Nat) : ∀ x ∈ pairP gt seed, x < 256 := baseK_byte _
theorem sharedK_len (gt : Nat → Nat) (both mine theirs : List Nat) : (sharedK gt both mine theirs).length = 32 := derV_len _ _ _ _
theorem sharedK_byte (gt : Nat → Nat) (both mine theirs : List Nat) : ∀ x ∈ sharedK gt both mine theirs, x < 256 := derV_byte _ _ _ _
theorem boxSec_byte (gt : Nat → Nat) (seed : List Nat) : ∀ x ∈ boxSec gt seed, x < 256 := derV_byte _ _ _ _
theorem boxPt_len (gt : Nat → Nat) (seed : List Nat) : (boxPt gt seed).length = 32 := baseK_len _
theorem boxPt_byte (gt : Nat → Nat) (seed : List Nat) : ∀ x ∈ boxPt gt seed, x < 256 := baseK_byte _
theorem small_two {a b : List Nat} (ha : a.length = 32) (hb : b.length = 32) : smallT [a, b] := ⟨by show 2 ≤ 100; decide, fun t ht => by
  simp only [List.mem_cons, List.not_mem_nil, or_false] at ht
  rcases ht with rfl | rfl <;> omega⟩
theorem shared_yes {gt : Nat → Nat} {sec oth mine theirs : List Nat} (h : ¬ noneK (multK sec oth)) : sharedR gt sec oth mine theirs = (sharedK gt (multK sec oth) mine theirs, 0) := by unfold sharedR; rw [if_neg h]
theorem shared_no {gt : Nat → Nat} {sec oth mine theirs : List Nat} (h : noneK (multK sec oth)) : sharedR gt sec oth mine theirs = ([], 1) := by unfold sharedR; rw [if_pos h]
attribute [local irreducible] macV expV derV multK baseK sealR openR strV tagV
set_option maxRecDepth 100000 in
set_option maxHeartbeats 600000 in
theorem Pair_any {seed : List Nat} {gt : Nat → Nat} (hs32 : seed.length = 32) (hsb : ∀ x ∈ seed, x < 256) {X : List Nat} {w0 : World} (hX : ∀ k ∈ X, k < w0.heap.size) (hG : St (AtC ⟨1, 0, none⟩ [.row 64 fun i => u32 (gt i)]) w0 X) :
    Calls Tryd.prog 7 #[.agg (ca [.key seed])] w0 fun e w' => e = .returned (.tuple #[.agg (ca [.key (pairS gt seed)]), .agg (ca [.key (pairP gt seed)])]) ∧ Sep X [] w0 w' [] [] := by
  refine calls_env Tryd.ntmps7 Tryd.func7 rfl rfl fun a E => ?_; replace E : Env a _ [(0, _)] := E
  have H : Sep X [] w0 w0 [] [(AtC ⟨1, 0, none⟩ [.row 64 fun i => u32 (gt i)])] := Sep.start hX (List.forall_mem_cons.2 ⟨hG, fun _ h => by cases h⟩)
  refine wp_seq_k fun K0 hK0 => ?_; refine S_region ?_; refine S_eff E rfl (fun K hK => ?_); refine eff_box E H rfl rfl rfl ?_; clear H; intro b1 w H _; refine hK _ _ ?_; clear hK K; refine S_put E rfl rfl ?_; clear E a; intro a E; refine S_eff E rfl (fun K hK => ?_); refine eff_alloc (z := [.key []]) H rfl (by kernel_rfl) ?_; clear H; intro b2 w H _; refine hK _ _ ?_; clear hK K; refine S_put E rfl rfl ?_; clear E a; intro a E; refine S_eff E rfl (fun K hK => ?_); refine eff_alloc (z := [.key []]) H rfl (by kernel_rfl) ?_; clear H; intro b3 w H _; refine hK _ _ ?_; clear hK K; refine S_put E rfl rfl ?_; clear E a; intro a E; refine hK0 _ _ ?_; refine wp_seq_k fun K1 hK1 => ?_; refine S_region ?_; refine S_val E (pk_load (n := 32) H 2 rfl rfl rfl trivial rfl (by kernel_rfl)) rfl rfl rfl ?_; clear E a; intro a E; refine S_eff E rfl (fun K hK => ?_)
  refine eff_call E rfl rfl rfl (by kernel_rfl) ?_; refine (kderive_any (k := seed) (lab := pairL) rfl (by decide) hs32 hsb H.xk (H.fact 0 rfl)).mono ?_; rintro e w ⟨rfl, H1⟩
  replace H := H.call H1
  clear H1; replace H : Sep _ _ _ _ [_, _, _] [_] := H; refine hK _ _ ?_; clear hK K; refine S_put E rfl rfl ?_; clear E a; intro a E; refine S_eff E rfl (fun K hK => ?_); refine eff_alloc (z := [.key []]) H rfl (by kernel_rfl) ?_; clear H; intro b4 w H _; refine hK _ _ ?_; clear hK K; refine S_put E rfl rfl ?_; clear E a; intro a E; refine S_eff E rfl (fun K hK => ?_); refine eff_store 0 E H rfl rfl rfl rfl rfl (by repeat (first | exact trivial | refine ⟨rfl, ?_⟩ | refine ⟨fun _ _ => rfl, ?_⟩)) rfl (by kernel_rfl) rfl ?_; clear H; intro w H _; replace H : Sep _ _ _ _ [_, _, _, _] _ := H; refine hK _ _ ?_; clear hK K; refine S_put0 rfl ?_; refine hK1 _ _ ?_; refine wp_seq_k fun K2 hK2 => ?_; refine C_region E H [] 3 [(0, false), (1, false), (2, true)] (by kernel_rfl) (by kernel_rfl) (fun w HS => ?_)
  (simp only [canOps, List.getElem?_cons_zero, List.getElem?_cons_succ, List.drop_succ_cons, List.drop_zero])
  clear H
  have H := HS
  have hsz : w.heap.size ≤ w.heap.size := Nat.le_refl _
  have HK : CanB.Keep (fun k => k < w.heap.size ∧ k ∉ []) w w := CanB.Keep.refl _ _
  refine C_val E HK (pk_load (n := 32) HS 0 rfl rfl rfl (HS.inS 0 rfl (by simp)) rfl (by kernel_rfl)) rfl rfl rfl (fun _ _ _ _ h => h) ?_; clear E a; intro a E; refine C_val E HK (pk_load (n := 32) HS 0 rfl rfl rfl (HS.inS 0 rfl (by simp)) rfl (by kernel_rfl)) rfl rfl rfl (fun _ _ _ _ h => h) ?_; clear E a; intro a E; refine C_eff E rfl (fun K hK => ?_); refine eff_call E rfl rfl rfl (by kernel_rfl) ?_; refine (base_sep (k := derV gt seed pairL []) H.xk (derV_byte _ _ _ _)).mono ?_; rintro e w ⟨rfl, H1⟩
  have F := H1.frm
  replace H := H.call H1
  clear H1; replace H : Sep _ _ _ _ [_, _, _, _] [_] := H
  have hk := keep_frm (D := []) F hsz (by simp)
  refine hK _ _ hk ?_; clear hK K
  replace HK := HK.trans hk
  replace hsz := Nat.le_trans hsz (F).size
  clear hk; refine C_put E rfl rfl ?_; clear E a; intro a E; clear F; refine CanB.wpCan_nil ?_
  try (simp only [List.take_succ_cons, List.take_zero, List.drop_succ_cons, List.drop_zero])
  clear HS HK hsz; refine S_eff E rfl (fun K hK => ?_); refine eff_store 2 E H rfl rfl rfl rfl rfl (by repeat (first | exact trivial | refine ⟨rfl, ?_⟩ | refine ⟨fun _ _ => rfl, ?_⟩)) rfl (by kernel_rfl) rfl ?_; clear H; intro w H _; replace H : Sep _ _ _ _ [_, _, _, _] _ := H; refine hK _ _ ?_; clear hK K; refine S_put0 rfl ?_; refine S_eff E rfl (fun K hK => ?_); refine eff_store 1 E H rfl rfl rfl rfl rfl (by repeat (first | exact trivial | refine ⟨rfl, ?_⟩ | refine ⟨fun _ _ => rfl, ?_⟩)) rfl (by kernel_rfl) rfl ?_; clear H; intro w H _; replace H : Sep _ _ _ _ [_, _, _, _] _ := H; refine hK _ _ ?_; clear hK K; refine S_put0 rfl ?_; refine hK2 _ _ ?_; refine wp_ret ?_
  repeat (first | refine then_ret ?_ | refine block_ret ?_)
  refine ret2 rfl E (by exact resC (n := 32) H 2 rfl rfl rfl (by kernel_rfl)) (by exact resC (n := 32) H 1 rfl rfl rfl (by kernel_rfl)) ?_
  exact ⟨rfl, (H.refacts (R' := []) (List.forall_mem_nil _)).popL.popL.popL.popL⟩
set_option maxRecDepth 100000 in
set_option maxHeartbeats 1000000 in
theorem Shared_any {sec oth mine theirs : List Nat} {gt : Nat → Nat} (hsb : ∀ x ∈ sec, x < 256) (hob : ∀ x ∈ oth, x < 256) (hm32 : mine.length = 32) (hmb : ∀ x ∈ mine, x < 256) (ht32 : theirs.length = 32) (htb : ∀ x ∈ theirs, x < 256) {X : List Nat} {w0 : World} (hX : ∀ k ∈ X, k < w0.heap.size) (hG : St (AtC ⟨1, 0, none⟩ [.row 64 fun i => u32 (gt i)]) w0 X) :
    Calls Tryd.prog 8 #[.agg (ca [.key sec]), .agg (ca [.key oth]), .agg (ca [.key mine]), .agg (ca [.key theirs])] w0 fun e w' => e = .returned (.tuple #[.agg (ca [.key (sharedR gt sec oth mine theirs).1]), .int .i64 (sharedR gt sec oth mine theirs).2]) ∧ Sep X [] w0 w' [] [] := by
  have hB32 : (multK sec oth).length = 32 := multK_len _ _
  refine calls_env Tryd.ntmps8 Tryd.func8 rfl rfl fun a E => ?_; replace E : Env a _ [(0, _), (1, _), (2, _), (3, _)] := E
  have H : Sep X [] w0 w0 [] [(AtC ⟨1, 0, none⟩ [.row 64 fun i => u32 (gt i)])] := Sep.start hX (List.forall_mem_cons.2 ⟨hG, fun _ h => by cases h⟩)
  refine wp_seq_k fun K0 hK0 => ?_; refine S_region ?_; refine S_eff E rfl (fun K hK => ?_); refine eff_box E H rfl rfl rfl ?_; clear H; intro b4 w H _; refine hK _ _ ?_; clear hK K; refine S_put E rfl rfl ?_; clear E a; intro a E; refine S_eff E rfl (fun K hK => ?_); refine eff_box E H rfl rfl rfl ?_; clear H; intro b5 w H _; refine hK _ _ ?_; clear hK K; refine S_put E rfl rfl ?_; clear E a; intro a E; refine S_eff E rfl (fun K hK => ?_); refine eff_box E H rfl rfl rfl ?_; clear H; intro b6 w H _; refine hK _ _ ?_; clear hK K; refine S_put E rfl rfl ?_; clear E a; intro a E; refine S_eff E rfl (fun K hK => ?_); refine eff_box E H rfl rfl rfl ?_; clear H; intro b7 w H _; refine hK _ _ ?_; clear hK K; refine S_put E rfl rfl ?_; clear E a; intro a E; refine S_eff E rfl (fun K hK => ?_); refine eff_alloc (z := [.key []]) H rfl (by kernel_rfl) ?_; clear H; intro b8 w H _; refine hK _ _ ?_
  clear hK K; refine S_put E rfl rfl ?_; clear E a; intro a E; refine S_val E (pk_assign rfl rfl) rfl rfl rfl ?_; clear E a; intro a E; refine hK0 _ _ ?_; refine wp_seq_k fun K1 hK1 => ?_; refine S_region ?_; refine S_val E (pk_load (n := 32) H 4 rfl rfl rfl trivial rfl (by kernel_rfl)) rfl rfl rfl ?_; clear E a; intro a E; refine S_val E (pk_load (n := 32) H 3 rfl rfl rfl trivial rfl (by kernel_rfl)) rfl rfl rfl ?_; clear E a; intro a E; refine S_eff E rfl (fun K hK => ?_); refine eff_call E rfl rfl rfl (by kernel_rfl) ?_; refine (mult_sep (k := sec) (u := oth) H.xk hsb hob).mono ?_; rintro e w ⟨rfl, H1⟩
  replace H := H.call H1
  clear H1; replace H : Sep _ _ _ _ [_, _, _, _, _] [_] := H; refine hK _ _ ?_; clear hK K; refine S_put E rfl rfl ?_; clear E a; intro a E; refine S_eff E rfl (fun K hK => ?_); refine eff_alloc (z := [.key []]) H rfl (by kernel_rfl) ?_; clear H; intro b10 w H _; refine hK _ _ ?_; clear hK K; refine S_put E rfl rfl ?_; clear E a; intro a E; refine S_eff E rfl (fun K hK => ?_); refine eff_store 0 E H rfl rfl rfl rfl rfl (by repeat (first | exact trivial | refine ⟨rfl, ?_⟩ | refine ⟨fun _ _ => rfl, ?_⟩)) rfl (by kernel_rfl) rfl ?_; clear H; intro w H _; replace H : Sep _ _ _ _ [_, _, _, _, _, _] _ := H; refine hK _ _ ?_; clear hK K; refine S_put0 rfl ?_; refine hK1 _ _ ?_; refine wp_seq_k fun K2 hK2 => ?_; refine wp_seq_k fun K3 hK3 => ?_; refine S_region ?_; refine S_val E (pk_load (n := 32) H 0 rfl rfl rfl trivial rfl (by kernel_rfl)) rfl rfl rfl ?_; clear E a; intro a E
  refine S_val E (pk_buildC (n := 32) (z := [.key []]) [.key []] rfl (by kernel_rfl) (by kernel_rfl) rfl rfl) rfl rfl rfl ?_; clear E a; intro a E; refine S_val E (pk_eqK rfl (⟨_, Tryd.underlying23, Tryd.underlying5, by kernel_rfl, by kernel_rfl⟩) rfl rfl) rfl rfl rfl ?_; clear E a; intro a E; refine hK3 _ _ ?_; refine env_split (d := 16) E rfl ?_ ?_
  · skip
    clear E; intro c16 E
    have hno : noneK (multK sec oth) := by simpa [noneK] using c16
    refine S_then E rfl ?_; refine wp_seq_k fun K4 hK4 => ?_; refine S_region ?_; refine S_val E (pk_buildC (n := 32) (z := [.key []]) [.key []] rfl (by kernel_rfl) (by kernel_rfl) rfl rfl) rfl rfl rfl ?_; clear E a; intro a E; refine S_eff E rfl (fun K hK => ?_); refine eff_store 1 E H rfl rfl rfl rfl rfl (by repeat (first | exact trivial | refine ⟨rfl, ?_⟩ | refine ⟨fun _ _ => rfl, ?_⟩)) rfl (by kernel_rfl) rfl ?_; clear H; intro w H _; replace H : Sep _ _ _ _ [_, _, _, _, _, _] _ := H; refine hK _ _ ?_; clear hK K; refine S_put0 rfl ?_; refine S_val E (pk_assign rfl rfl) rfl rfl rfl ?_; clear E a; intro a E; refine hK4 _ _ ?_; refine wp_ret ?_
    repeat (first | refine then_ret ?_ | refine block_ret ?_)
    refine ret2 rfl E (by exact resC (n := 32) H 1 rfl rfl rfl (by kernel_rfl)) (resT rfl) ?_
    exact ⟨by rw [shared_no hno], H.keepLR (L := []) (R := [])⟩
  · skip
    clear E; intro c16 E
    have hno : ¬ noneK (multK sec oth) := by simpa [noneK] using c16
    refine S_else E rfl ?_; refine wp_skip ?_; refine hK2 _ _ ?_; refine wp_seq_k fun K5 hK5 => ?_; refine T_region E H [] 8 (.pure 0 (.pure 2 (.pure 3 (.eff 1 (.eff 4 (.eff 5 (.pure 6 (.pure 7 .nil)) .nil) .nil) (.eff 4 (.eff 1 (.eff 5 (.pure 6 (.pure 7 .nil)) .nil) .nil) .nil))))) (by kernel_rfl) (by kernel_rfl) (fun w HS => ?_)
    simp only [CanB.opsT, List.getElem?_cons_zero, List.getElem?_cons_succ, List.drop_succ_cons, List.drop_zero]
    clear H
    have H := HS
    have hsz : w.heap.size ≤ w.heap.size := Nat.le_refl _
    have HK : CanB.Keep (fun k => k < w.heap.size ∧ k ∉ []) w w := CanB.Keep.refl _ _
    refine T_val E HK (pk_subP (N := 32) (sz := 1) rfl (by kernel_rfl) rfl) rfl rfl rfl (fun _ _ _ _ h => h) ?_; clear E a; intro a E
    rw [show Value.slice (some ⟨b10, 0, none⟩) 32 32 = .slice (some ⟨b10, 0, none⟩) (multK sec oth).length 32 from by rw [hB32]] at E
    refine T_val E HK (pk_subP (N := 32) (sz := 1) rfl (by kernel_rfl) rfl) rfl rfl rfl (fun _ _ _ _ h => h) ?_; clear E a; intro a E; refine T_val E HK (pk_subP (N := 32) (sz := 1) rfl (by kernel_rfl) rfl) rfl rfl rfl (fun _ _ _ _ h => h) ?_; clear E a; intro a E; refine T_alt ?_ ?_
    · skip
      refine T_eff E rfl (fun K hK => ?_); refine eff_call E rfl rfl rfl (by kernel_rfl) ?_
      have HB := H.lend 0 rfl
      have hin := txF_at (k := (multK sec oth)) (c := 32) (HB.fact 0 rfl) (by rw [cl_key, keyL_self hB32]) (by omega) (by omega) (multK_byte _ _)
      refine (Extract_any (salt := []) (sec := (multK sec oth)) (by show 0 ≤ 64; decide) (by omega) HB.xk txF_nil hin (HB.fact 1 rfl)).mono ?_; rintro e w ⟨rfl, H1⟩
      have F := H1.frm
      replace H := H.grow F
      have hk := keep_frm (D := []) F hsz (by simp)
      refine hK _ _ hk ?_; clear hK K
      replace HK := HK.trans hk
      replace hsz := Nat.le_trans hsz (F).size
      clear hk; refine T_put E rfl rfl ?_; clear E a; intro a E; clear F; clear H1 HB hin; refine T_eff E rfl (fun K hK => ?_); refine eff_bslice (sz := 1) (z := [.one (.slice none 0 0), .one (.slice none 0 0)]) E H rfl Tryd.underlying37 (by kernel_rfl) (by decide) (by kernel_rfl) ⟨_, [.one _], 0, _, rfl, rfl, rfl, rfl, ⟨_, [.one _], 1, _, rfl, rfl, rfl, rfl, rfl⟩⟩ ?_; clear H; intro b22 w H F
      have hk := keep_frm (D := []) F hsz (by simp)
      refine hK _ _ hk ?_; clear hK K
      replace HK := HK.trans hk
      replace hsz := Nat.le_trans hsz (F).size
      clear hk; refine T_put E rfl rfl ?_; clear E a; intro a E; clear F; refine T_eff E rfl (fun K hK => ?_); refine eff_call E rfl rfl rfl (by kernel_rfl) ?_
      have HB := ((H.lend 0 rfl).lend 2 rfl).lend 2 rfl
      have hm := txF_at (k := mine) (c := 32) (HB.fact 0 rfl) (by rw [cl_key, keyL_self hm32]) (by omega) (by omega) hmb
      have ht := txF_at (k := theirs) (c := 32) (HB.fact 1 rfl) (by rw [cl_key, keyL_self ht32]) (by omega) (by omega) htb
      have hli := liF_at (T := TextT) (its := [((mine, (some ⟨b6, 0, none⟩, 32)): List Nat × TextT.μ), (theirs, (some ⟨b7, 0, none⟩, 32))]) (c := 2) (xs := [mine, theirs]) (HB.fact 2 rfl) (by rw [← text2, hm32, ht32]) (nest_snoc (its := [_]) (q := ((theirs, (some ⟨b7, 0, none⟩, 32)): List Nat × TextT.μ)) (nest_snoc (its := []) (q := ((mine, (some ⟨b6, 0, none⟩, 32)): List Nat × TextT.μ)) nest_nil hm) ht) rfl (by show 2 ≤ 2; decide) (by show 2 ≤ _; decide)
      have H2 := HB.refacts (R' := [_, _]) (List.forall_mem_cons.2 ⟨hli, List.forall_mem_cons.2 ⟨HB.fact 3 rfl, List.forall_mem_nil _⟩⟩)
      clear HB hm ht hli; refine (Derive_any (k := macV gt [] [(multK sec oth)]) (lab := kkeyL) (ts := [mine, theirs]) rfl (by decide) (macV_len _ _ _) (macV_byte _ _ _) (small_two hm32 ht32) H2.xk (H2.fact 0 rfl) (H2.fact 1 rfl)).mono ?_; rintro e w ⟨rfl, H1⟩
      have F := H1.frm
      replace H := H.grow F
      have hk := keep_frm (D := []) F hsz (by simp)
      refine hK _ _ hk ?_; clear hK K
      replace HK := HK.trans hk
      replace hsz := Nat.le_trans hsz (F).size
      clear hk; refine T_put E rfl rfl ?_; clear E a; intro a E; clear F; clear H1 H2; refine T_val E HK (pk_extract rfl rfl rfl) rfl rfl rfl (fun _ _ _ _ h => h) ?_; clear E a; intro a E; refine T_val E HK (pk_extract rfl rfl rfl) rfl rfl rfl (fun _ _ _ _ h => h) ?_; clear E a; intro a E; refine T_nil ?_
      try (simp only [List.take_succ_cons, List.take_zero, List.drop_succ_cons, List.drop_zero])
      clear HS HK hsz; refine S_eff E rfl (fun K hK => ?_); refine eff_store 2 E H rfl rfl rfl rfl rfl (by repeat (first | exact trivial | refine ⟨rfl, ?_⟩ | refine ⟨fun _ _ => rfl, ?_⟩)) rfl (by kernel_rfl) rfl ?_; clear H; intro w H _; replace H : Sep _ _ _ _ [_, _, _, _, _, _, _] _ := H; refine hK _ _ ?_; clear hK K; refine S_put0 rfl ?_; refine S_val E (pk_assign rfl rfl) rfl rfl rfl ?_; clear E a; intro a E; refine hK5 _ _ ?_; refine wp_ret ?_
      repeat (first | refine then_ret ?_ | refine block_ret ?_)
      refine ret2 rfl E (by exact resC (n := 32) H 2 rfl rfl rfl (by kernel_rfl)) (resT rfl) ?_
      exact ⟨by rw [shared_yes hno]; rfl, H.keepLR (L := []) (R := [])⟩
    · skip
      refine T_one ?_; refine T_eff E rfl (fun K hK => ?_); refine eff_bslice (sz := 1) (z := [.one (.slice none 0 0), .one (.slice none 0 0)]) E H rfl Tryd.underlying37 (by kernel_rfl) (by decide) (by kernel_rfl) ⟨_, [.one _], 0, _, rfl, rfl, rfl, rfl, ⟨_, [.one _], 1, _, rfl, rfl, rfl, rfl, rfl⟩⟩ ?_; clear H; intro b22 w H F
      have hk := keep_frm (D := []) F hsz (by simp)
      refine hK _ _ hk ?_; clear hK K
      replace HK := HK.trans hk
      replace hsz := Nat.le_trans hsz (F).size
      clear hk; refine T_put E rfl rfl ?_; clear E a; intro a E; clear F; refine T_eff E rfl (fun K hK => ?_); refine eff_call E rfl rfl rfl (by kernel_rfl) ?_
      have HB := H.lend 1 rfl
      have hin := txF_at (k := (multK sec oth)) (c := 32) (HB.fact 0 rfl) (by rw [cl_key, keyL_self hB32]) (by omega) (by omega) (multK_byte _ _)
      refine (Extract_any (salt := []) (sec := (multK sec oth)) (by show 0 ≤ 64; decide) (by omega) HB.xk txF_nil hin (HB.fact 1 rfl)).mono ?_; rintro e w ⟨rfl, H1⟩
      have F := H1.frm
      replace H := H.grow F
      have hk := keep_frm (D := []) F hsz (by simp)
      refine hK _ _ hk ?_; clear hK K
      replace HK := HK.trans hk
      replace hsz := Nat.le_trans hsz (F).size
      clear hk; refine T_put E rfl rfl ?_; clear E a; intro a E; clear F; clear H1 HB hin; refine T_eff E rfl (fun K hK => ?_); refine eff_call E rfl rfl rfl (by kernel_rfl) ?_
      have HB := ((H.lend 0 rfl).lend 2 rfl).lend 2 rfl
      have hm := txF_at (k := mine) (c := 32) (HB.fact 0 rfl) (by rw [cl_key, keyL_self hm32]) (by omega) (by omega) hmb
      have ht := txF_at (k := theirs) (c := 32) (HB.fact 1 rfl) (by rw [cl_key, keyL_self ht32]) (by omega) (by omega) htb
      have hli := liF_at (T := TextT) (its := [((mine, (some ⟨b6, 0, none⟩, 32)): List Nat × TextT.μ), (theirs, (some ⟨b7, 0, none⟩, 32))]) (c := 2) (xs := [mine, theirs]) (HB.fact 2 rfl) (by rw [← text2, hm32, ht32]) (nest_snoc (its := [_]) (q := ((theirs, (some ⟨b7, 0, none⟩, 32)): List Nat × TextT.μ)) (nest_snoc (its := []) (q := ((mine, (some ⟨b6, 0, none⟩, 32)): List Nat × TextT.μ)) nest_nil hm) ht) rfl (by show 2 ≤ 2; decide) (by show 2 ≤ _; decide)
      have H2 := HB.refacts (R' := [_, _]) (List.forall_mem_cons.2 ⟨hli, List.forall_mem_cons.2 ⟨HB.fact 3 rfl, List.forall_mem_nil _⟩⟩)
      clear HB hm ht hli; refine (Derive_any (k := macV gt [] [(multK sec oth)]) (lab := kkeyL) (ts := [mine, theirs]) rfl (by decide) (macV_len _ _ _) (macV_byte _ _ _) (small_two hm32 ht32) H2.xk (H2.fact 0 rfl) (H2.fact 1 rfl)).mono ?_; rintro e w ⟨rfl, H1⟩
      have F := H1.frm
      replace H := H.grow F
      have hk := keep_frm (D := []) F hsz (by simp)
      refine hK _ _ hk ?_; clear hK K
      replace HK := HK.trans hk
      replace hsz := Nat.le_trans hsz (F).size
      clear hk; refine T_put E rfl rfl ?_; clear E a; intro a E; clear F; clear H1 H2; refine T_val E HK (pk_extract rfl rfl rfl) rfl rfl rfl (fun _ _ _ _ h => h) ?_; clear E a; intro a E; refine T_val E HK (pk_extract rfl rfl rfl) rfl rfl rfl (fun _ _ _ _ h => h) ?_; clear E a; intro a E; refine T_nil ?_
      try (simp only [List.take_succ_cons, List.take_zero, List.drop_succ_cons, List.drop_zero])
      clear HS HK hsz; refine S_eff E rfl (fun K hK => ?_); refine eff_store 2 E H rfl rfl rfl rfl rfl (by repeat (first | exact trivial | refine ⟨rfl, ?_⟩ | refine ⟨fun _ _ => rfl, ?_⟩)) rfl (by kernel_rfl) rfl ?_; clear H; intro w H _; replace H : Sep _ _ _ _ [_, _, _, _, _, _, _] _ := H; refine hK _ _ ?_; clear hK K; refine S_put0 rfl ?_; refine S_val E (pk_assign rfl rfl) rfl rfl rfl ?_; clear E a; intro a E; refine hK5 _ _ ?_; refine wp_ret ?_
      repeat (first | refine then_ret ?_ | refine block_ret ?_)
      refine ret2 rfl E (by exact resC (n := 32) H 2 rfl rfl rfl (by kernel_rfl)) (resT rfl) ?_
      exact ⟨by rw [shared_yes hno]; rfl, H.keepLR (L := []) (R := [])⟩
end Go.Proofs.YtfolbgiekbimpaaDoor
