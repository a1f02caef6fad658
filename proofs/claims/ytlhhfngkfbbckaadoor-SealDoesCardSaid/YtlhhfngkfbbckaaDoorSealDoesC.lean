/- SHA-256, the reference: the words of a block, the words behind it. The walk of the reference's Bytes. SHA-256, the reference: the sum of parts. A region that draws its order: what each operation gives is told in whatever order; no program is in sight. SHA-256: the sum of parts. Sums with a key. Sums held against one another; bytes made of a key, turn by turn. Bytes made of a key. -/
import Derived.Test.YtlhhfngkfbbckaaDoorSealDoesB
import Derived.WalkKit
import Derived.WalkSpells
import Derived.WalkLawsBesides
import Derived.Deep.QuietTactic
import Derived.BigQuiet
import Derived.StillTailTactics
import Derived.Lib.Hide
import Derived.Deep.LoopGhost
import Derived.Outline
import Derived.Deep.DeepFit
import Derived.Deep.RegionHeld3
import Derived.Deep.RegionLaw
import Derived.Maps.AppendAt
import Derived.Deep.AppendLies
import Derived.Deep.Draws
import Derived.Laws.OwnMore
import Derived.Laws.AppendOwnNone
import Derived.OwnWalk
import Derived.Below
import Derived.OrdersHeld
import Derived.Laws.StructEq
import Derived.Test.YtlhhfngkfbbckaaDoorRows
import Derived.Lib.SliceRun
import Derived.Laws.IdiomStrings
import Derived.Deep.Cut
import Derived.Deep.CutBlock
import Derived.Deep.CutRange
import Derived.DataElems
import Derived.Great.BuildSlice
import Derived.Laws.Entries
import Derived.Laws.Tables
import Derived.SizedLaws
import Derived.Laws.Small
import Derived.Laws.MakeOwn
import Derived.Laws.CopyRow
import Derived.Laws.IdiomCopy
import Derived.Test.YtlhhfngkfbbckaaDoorChecked
namespace Go.Proofs.YtlhhfngkfbbckaaDoor
set_option linter.unusedSimpArgs false
set_option linter.unusedVariables false
open Go.RowKit


def wPre (k : List Nat) (n : Nat) : Nat → Nat := fun i => if i < n then wrdR k i else 0
theorem wPre_lt (k : List Nat) {n i : Nat} (h : i < n) : wPre k n i = wrdR k i := if_pos h
theorem wPre_succ (k : List Nat) (n j : Nat) : upd (fun i => u32 (wPre k n i)) n (u32 (wrdR k n)) j = u32 (wPre k (n + 1) j) := by
  rw [upd_u32]
  congr 2
  unfold upd wPre
  by_cases h : j = n
  · subst h; simp
  · rw [if_neg h]
    by_cases h2 : j < n
    · rw [if_pos h2, if_pos (by omega)]
    · rw [if_neg h2, if_neg (by omega)]
theorem wrd_low (k : List Nat) {n : Nat} (h : n < 16) : addW (addW (addW (mulW (k.getD (4 * n) 0 % 4294967296) 16777216) (mulW (k.getD (4 * n + 1) 0 % 4294967296) 65536)) (mulW (k.getD (4 * n + 2) 0 % 4294967296) 256)) (k.getD (4 * n + 3) 0 % 4294967296) = wrdR k n := by
  have e : ∀ j, (k.drop (4 * n)).getD j 0 = k.getD (4 * n + j) 0 := fun j => by rw [List.getD_eq_getElem?_getD, List.getElem?_drop, ← List.getD_eq_getElem?_getD]
  rw [wrdR, if_pos h, wordR, e, e, e, e]
  all_goals rfl
theorem wrd_high (k : List Nat) {n : Nat} (h : 16 ≤ n) : addW (addW (addW (wPre k n (n - 16)) (xorW (xorW (rorR (wPre k n (n - 15)) 7) (rorR (wPre k n (n - 15)) 18)) (shrW (wPre k n (n - 15)) 3))) (wPre k n (n - 7))) (xorW (xorW (rorR (wPre k n (n - 2)) 17) (rorR (wPre k n (n - 2)) 19)) (shrW (wPre k n (n - 2)) 10)) = wrdR k n := by
  rw [wPre_lt k (show n - 16 < n by omega), wPre_lt k (show n - 15 < n by omega), wPre_lt k (show n - 7 < n by omega), wPre_lt k (show n - 2 < n by omega)]
  conv => rhs; rw [wrdR, if_neg (show ¬ n < 16 by omega)]
  rfl
theorem t1R_eq (gt : Nat → Nat) (k : List Nat) (v : Nat → Nat) {t : Nat} (ht : t < 64) : addW (addW (addW (addW (v 7) (xorW (xorW (rorR (v 4) 6) (rorR (v 4) 11)) (rorR (v 4) 25))) (xorW (andW (v 4) (v 5)) (andW (notW (v 4)) (v 6)))) (gt t)) (wPre k 64 t) = t1R gt k v t := by
  rw [wPre_lt k ht]; rfl
theorem t2R_eq (v : Nat → Nat) : addW (xorW (xorW (rorR (v 0) 2) (rorR (v 0) 13)) (rorR (v 0) 22)) (xorW (xorW (andW (v 0) (v 1)) (andW (v 0) (v 2))) (andW (v 1) (v 2))) = t2R v := rfl
theorem vR_succ {gt h v : Nat → Nat} {k : List Nat} {t : Nat} (hM : v = vR gt k h t) : stepV v (t1R gt k v t) (t2R v) = vR gt k h (t + 1) := by
  rw [vR, ← hM]
theorem at_row {ad : Addr} {n i : Nat} {f : Nat → Value} {w : World} (hi : i < n) (h : AtC ad [.row n f] w) : AtC (ad.add i) [.one (f i)] w := fun j u hu => by
  cases j with
  | succ j => simp [cl, Chunk.cells] at hu
  | zero =>
    obtain rfl : f i = u := by simpa [cl, Chunk.cells] using hu
    rw [addr_add_zero]
    exact h i _ (by simp [cl, Chunk.cells, hi])
attribute [local irreducible] addW xorW andW orW shlW shrW mulW notW rorR t1R t2R
section
variable {P : Program} {o : Oper} {ws : World} {l : List (Nat × Value)} {S : Nat → Prop} {t u : TypeId} {x y : Operand} {m n : Nat}
theorem pk_mulW (ho : o.op = .binOp .mul t x y u) (hx : ev l x = some (u32 m)) (hy : ev l y = some (u32 n)) : PK P S ws l o (u32 (mulW m n)) :=
  pk_int ho hx hy (by
    unfold mulW
    simp only [intRes, ← wrap32]
    norm_cast)
theorem pk_notW (ho : o.op = .unOp .xor t x) (hx : ev l x = some (u32 m)) : PK P S ws l o (u32 (notW m)) := fun w' _ a N E => by
  have e : IntKind.u32.wrap (((BitVec.ofInt 32 ((4294967295 : Nat) : Int) ^^^ BitVec.ofInt 32 (m : Int)).toNat : Nat) : Int) = ((notW m : Nat) : Int) := by
    rw [xor32]; unfold notW xorW; rw [Nat.xor_comm]
  have h : Op.intBits BinOp.xor IntKind.u32 (if IntKind.u32.signed = true then -1 else IntKind.u32.max) ((m : Nat) : Int) = pure (u32 (notW m)) := congrArg (fun z => (pure (Value.int .u32 z) : Sem Value)) e
  unfold execOp; rw [ho]; simp only [E.ev hx, Op.unary, h, Sem.run_bind, Sem.run_pure, Result.andThen_ok]
end
set_option maxRecDepth 100000 in
set_option maxHeartbeats 400000 in
theorem ror_any {x n : Nat} (h1 : 1 ≤ n) (h2 : n < 32) {X : List Nat} {w0 : World} (hX : ∀ k ∈ X, k < w0.heap.size) :
    Calls Tryd.prog 79 #[u32 x, .int .i64 ((n : Nat) : Int)] w0 fun e w' => e = .returned (u32 (rorR x n)) ∧ Sep X [] w0 w' [] [] := by
  refine calls_env Tryd.ntmps79 Tryd.func79 rfl rfl fun a E => ?_; replace E : Env a _ [(0, _), (1, _)] := E
  have H : Sep X [] w0 w0 [] [] := Sep.start hX (fun _ h => by cases h)
  refine wp_seq_k fun K0 hK0 => ?_; refine S_region ?_; refine S_val E (pk_assign rfl rfl) rfl rfl rfl ?_; clear E a; intro a E; refine hK0 _ _ ?_; refine wp_seq_k fun K1 hK1 => ?_; refine C_region E H [] 7 [(0, false), (1, false), (2, false), (3, false), (4, false), (5, false), (6, false)] (by kernel_rfl) (by kernel_rfl) (fun w HS => ?_)
  (simp only [canOps, List.getElem?_cons_zero, List.getElem?_cons_succ, List.drop_succ_cons, List.drop_zero])
  clear H
  have H := HS
  have hsz : w.heap.size ≤ w.heap.size := Nat.le_refl _
  have HK : CanB.Keep (fun k => k < w.heap.size ∧ k ∉ []) w w := CanB.Keep.refl _ _
  refine C_val E HK (pk_move rfl rfl) rfl rfl rfl (fun _ _ _ _ h => h) ?_; clear E a; intro a E; refine C_val E HK (pk_move rfl rfl) rfl rfl rfl (fun _ _ _ _ h => h) ?_; clear E a; intro a E; refine C_val E HK (pk_shrW rfl rfl rfl rfl) rfl rfl rfl (fun _ _ _ _ h => h) ?_; clear E a; intro a E; refine C_val E HK (pk_move rfl rfl) rfl rfl rfl (fun _ _ _ _ h => h) ?_; clear E a; intro a E; refine C_val E HK (pk_move rfl rfl) rfl rfl rfl (fun _ _ _ _ h => h) ?_; clear E a; intro a E; refine C_val E HK (pk_intw rfl rfl rfl rfl (wI64 (by omega) (by omega))) rfl rfl rfl (fun _ _ _ _ h => h) ?_; clear E a; intro a E; refine C_val E HK (pk_shlW (k := 32 - n) rfl rfl rfl (by omega)) rfl rfl rfl (fun _ _ _ _ h => h) ?_; clear E a; intro a E; refine CanB.wpCan_nil ?_
  try (simp only [List.take_succ_cons, List.take_zero, List.drop_succ_cons, List.drop_zero])
  clear HS HK hsz; refine S_val E (pk_orW rfl rfl rfl) rfl rfl rfl ?_; clear E a; intro a E; refine S_val E (pk_assign rfl rfl) rfl rfl rfl ?_; clear E a; intro a E; refine hK1 _ _ ?_; refine wp_ret ?_
  repeat (first | refine then_ret ?_ | refine block_ret ?_)
  refine ret1 rfl E (resT rfl) ?_; refine ⟨?_, H⟩
  rw [rorR]
set_option maxRecDepth 100000 in
set_option maxHeartbeats 1000000 in
theorem words_any {A : Option Addr} {c : Nat} {tx : List Nat} (hl : tx.length = 64) {X : List Nat} {w0 : World} (hX : ∀ k ∈ X, k < w0.heap.size) (hk : St (TxF A c tx) w0 X) :
    Calls Tryd.prog 78 #[.slice A tx.length c] w0 fun e w' => e = .returned (.agg (ca [.row 64 fun i => u32 (wPre tx 64 i)])) ∧ Sep X [] w0 w' [] [] := by
  obtain ⟨ad, hA⟩ : ∃ ad, A = some ad := by
    cases hq : A with
    | some ad => exact ⟨ad, rfl⟩
    | none => have := (hk.now.nil hq).1; omega
  have hg : ∀ i, i < 64 → tx[i]? = some (tx.getD i 0) := fun i hi => by rw [List.getD_eq_getElem?_getD, List.getElem?_eq_getElem (show i < tx.length by omega)]; rfl
  refine calls_env Tryd.ntmps78 Tryd.func78 rfl rfl fun a E => ?_; replace E : Env a _ [(0, _)] := E
  have H : Sep X [] w0 w0 [] [(TxF A c tx)] := Sep.start hX (List.forall_mem_cons.2 ⟨hk, fun _ h => by cases h⟩)
  refine wp_seq_k fun K0 hK0 => ?_; refine S_region ?_; refine S_eff E rfl (fun K hK => ?_); refine eff_alloc (z := [.row 64 fun _ => .int .u32 0]) H rfl (by kernel_rfl) ?_; clear H; intro b2 w H _; refine hK _ _ ?_; clear hK K; refine S_put E rfl rfl ?_; clear E a; intro a E; refine hK0 _ _ ?_; refine wp_seq_k fun K1 hK1 => ?_; refine S_region ?_; refine S_eff E rfl (fun K hK => ?_); refine eff_alloc (z := [.row 64 fun _ => .int .u32 0]) H rfl (by kernel_rfl) ?_; clear H; intro b3 w H _; refine hK _ _ ?_; clear hK K; refine S_put E rfl rfl ?_; clear E a; intro a E; refine hK1 _ _ ?_; refine wp_seq_k fun K2 hK2 => ?_; refine wp_seq_k fun K3 hK3 => ?_; refine S_region ?_; refine S_val E (pk_move rfl rfl) rfl rfl rfl ?_; clear E a; intro a E; refine hK3 _ _ ?_; refine wp_block ?_
  have e0 : (fun i => u32 (wPre tx 0 i)) = fun _ => Value.int .u32 0 := by funext i; simp [wPre]
  rw [← e0] at H
  refine S_loopI (γ := Nat) [0, 2, 3] (fun n => [(10, .int .i64 (n : Int))]) (fun n => [.blk b3 (ca [.row 64 fun i => u32 (wPre tx n i)]) 119, .blk b2 (ca [.row 64 fun i => u32 (wPre tx 0 i)]) 119 ]) (fun n => [TxF A c tx]) (fun n => n ≤ 16) (fun n => 16 - n) (0) E H (by repeat (first | exact trivial | refine ⟨rfl, ?_⟩)) (by omega) ?_; clear E H; intro n a w E H hφ; replace E : Env a _ [(10, _), (0, _), (2, _), (3, _)] := E; replace H : Sep _ _ _ _ [_, _] [_] := H; refine wp_seq_k fun K4 hK4 => ?_; refine S_region ?_; refine S_val E (pk_int rfl rfl rfl rfl) rfl rfl rfl ?_; clear E a; intro a E; refine hK4 _ _ ?_; refine wp_seq_k fun K5 hK5 => ?_; refine env_split (d := 11) E rfl ?_ ?_
  · skip
    clear E; intro c11 E
    have hn : n < 16 := by have := c11; simp only [decide_eq_true_eq] at this; omega
    refine S_then E rfl ?_; refine wp_skip ?_; refine hK5 _ _ ?_; refine wp_seq_k fun K6 hK6 => ?_; refine wp_block ?_; refine wp_seq_k fun K7 hK7 => ?_; refine S_region ?_; refine S_val E (pk_move rfl rfl) rfl rfl rfl ?_; clear E a; intro a E; refine S_val E (pk_assign rfl rfl) rfl rfl rfl ?_; clear E a; intro a E; refine hK7 _ _ ?_; refine C_region E H [] 34 [(0, false), (1, false), (2, false), (3, false), (4, false), (5, false), (6, false), (7, false), (8, false), (9, false), (10, false), (11, false), (12, false), (13, false), (14, false), (15, false), (16, false), (17, false), (18, false), (19, false), (20, false), (21, false), (22, false), (23, false), (24, false), (25, false), (26, false), (27, false), (28, false), (29, false), (30, false), (31, false), (32, false), (33, false)] (by kernel_rfl) (by kernel_rfl) (fun w HS => ?_)
    (simp only [canOps, List.getElem?_cons_zero, List.getElem?_cons_succ, List.drop_succ_cons, List.drop_zero])
    clear H
    have H := HS
    have hsz : w.heap.size ≤ w.heap.size := Nat.le_refl _
    have HK : CanB.Keep (fun k => k < w.heap.size ∧ k ∉ []) w w := CanB.Keep.refl _ _
    refine C_val E HK (pk_move rfl rfl) rfl rfl rfl (fun _ _ _ _ h => h) ?_; clear E a; intro a E; refine C_val E HK (pk_move rfl rfl) rfl rfl rfl (fun _ _ _ _ h => h) ?_; clear E a; intro a E; refine C_val E HK (pk_move rfl rfl) rfl rfl rfl (fun _ _ _ _ h => h) ?_; clear E a; intro a E; refine C_val E HK (pk_intw rfl rfl rfl rfl (wI64 (by omega) (by omega))) rfl rfl rfl (fun _ _ _ _ h => h) ?_; clear E a; intro a E; refine C_val E HK (pk_elA (sz := 1) (i := 4 * n) hA rfl (by kernel_rfl) rfl rfl (by omega) (by omega)) rfl rfl rfl (fun _ _ _ _ h => h) ?_; clear E a; intro a E; refine C_val E HK (pk_byte (HS.fact 0 rfl) (fun k h _ => ⟨h, by simp⟩) hA rfl rfl (hg (4 * n) (by omega)) (by kernel_rfl)) rfl rfl rfl (fun _ _ _ _ h => h) ?_; clear E a; intro a E; refine C_val E HK (pk_b32 rfl rfl (by kernel_rfl) (by kernel_rfl)) rfl rfl rfl (fun _ _ _ _ h => h) ?_; clear E a; intro a E
    refine C_val E HK (pk_mulW (n := 16777216) rfl rfl rfl) rfl rfl rfl (fun _ _ _ _ h => h) ?_; clear E a; intro a E; refine C_val E HK (pk_move rfl rfl) rfl rfl rfl (fun _ _ _ _ h => h) ?_; clear E a; intro a E; refine C_val E HK (pk_move rfl rfl) rfl rfl rfl (fun _ _ _ _ h => h) ?_; clear E a; intro a E; refine C_val E HK (pk_intw rfl rfl rfl rfl (wI64 (by omega) (by omega))) rfl rfl rfl (fun _ _ _ _ h => h) ?_; clear E a; intro a E; refine C_val E HK (pk_intw rfl rfl rfl rfl (wI64 (by omega) (by omega))) rfl rfl rfl (fun _ _ _ _ h => h) ?_; clear E a; intro a E; refine C_val E HK (pk_elA (sz := 1) (i := 4 * n + 1) hA rfl (by kernel_rfl) rfl rfl (by omega) (by omega)) rfl rfl rfl (fun _ _ _ _ h => h) ?_; clear E a; intro a E; refine C_val E HK (pk_byte (HS.fact 0 rfl) (fun k h _ => ⟨h, by simp⟩) hA rfl rfl (hg (4 * n + 1) (by omega)) (by kernel_rfl)) rfl rfl rfl (fun _ _ _ _ h => h) ?_
    clear E a; intro a E; refine C_val E HK (pk_b32 rfl rfl (by kernel_rfl) (by kernel_rfl)) rfl rfl rfl (fun _ _ _ _ h => h) ?_; clear E a; intro a E; refine C_val E HK (pk_mulW (n := 65536) rfl rfl rfl) rfl rfl rfl (fun _ _ _ _ h => h) ?_; clear E a; intro a E; refine C_val E HK (pk_addW rfl rfl rfl) rfl rfl rfl (fun _ _ _ _ h => h) ?_; clear E a; intro a E; refine C_val E HK (pk_move rfl rfl) rfl rfl rfl (fun _ _ _ _ h => h) ?_; clear E a; intro a E; refine C_val E HK (pk_move rfl rfl) rfl rfl rfl (fun _ _ _ _ h => h) ?_; clear E a; intro a E; refine C_val E HK (pk_intw rfl rfl rfl rfl (wI64 (by omega) (by omega))) rfl rfl rfl (fun _ _ _ _ h => h) ?_; clear E a; intro a E; refine C_val E HK (pk_intw rfl rfl rfl rfl (wI64 (by omega) (by omega))) rfl rfl rfl (fun _ _ _ _ h => h) ?_; clear E a; intro a E
    refine C_val E HK (pk_elA (sz := 1) (i := 4 * n + 2) hA rfl (by kernel_rfl) rfl rfl (by omega) (by omega)) rfl rfl rfl (fun _ _ _ _ h => h) ?_; clear E a; intro a E; refine C_val E HK (pk_byte (HS.fact 0 rfl) (fun k h _ => ⟨h, by simp⟩) hA rfl rfl (hg (4 * n + 2) (by omega)) (by kernel_rfl)) rfl rfl rfl (fun _ _ _ _ h => h) ?_; clear E a; intro a E; refine C_val E HK (pk_b32 rfl rfl (by kernel_rfl) (by kernel_rfl)) rfl rfl rfl (fun _ _ _ _ h => h) ?_; clear E a; intro a E; refine C_val E HK (pk_mulW (n := 256) rfl rfl rfl) rfl rfl rfl (fun _ _ _ _ h => h) ?_; clear E a; intro a E; refine C_val E HK (pk_addW rfl rfl rfl) rfl rfl rfl (fun _ _ _ _ h => h) ?_; clear E a; intro a E; refine C_val E HK (pk_move rfl rfl) rfl rfl rfl (fun _ _ _ _ h => h) ?_; clear E a; intro a E; refine C_val E HK (pk_move rfl rfl) rfl rfl rfl (fun _ _ _ _ h => h) ?_; clear E a; intro a E
    refine C_val E HK (pk_intw rfl rfl rfl rfl (wI64 (by omega) (by omega))) rfl rfl rfl (fun _ _ _ _ h => h) ?_; clear E a; intro a E; refine C_val E HK (pk_intw rfl rfl rfl rfl (wI64 (by omega) (by omega))) rfl rfl rfl (fun _ _ _ _ h => h) ?_; clear E a; intro a E; refine C_val E HK (pk_elA (sz := 1) (i := 4 * n + 3) hA rfl (by kernel_rfl) rfl rfl (by omega) (by omega)) rfl rfl rfl (fun _ _ _ _ h => h) ?_; clear E a; intro a E; refine C_val E HK (pk_byte (HS.fact 0 rfl) (fun k h _ => ⟨h, by simp⟩) hA rfl rfl (hg (4 * n + 3) (by omega)) (by kernel_rfl)) rfl rfl rfl (fun _ _ _ _ h => h) ?_; clear E a; intro a E; refine C_val E HK (pk_b32 rfl rfl (by kernel_rfl) (by kernel_rfl)) rfl rfl rfl (fun _ _ _ _ h => h) ?_; clear E a; intro a E; refine C_val E HK (pk_addW rfl rfl rfl) rfl rfl rfl (fun _ _ _ _ h => h) ?_; clear E a; intro a E; refine CanB.wpCan_nil ?_
    try (simp only [List.take_succ_cons, List.take_zero, List.drop_succ_cons, List.drop_zero])
    clear HS HK hsz; refine S_val E (pk_elP1 (i := n) rfl (by kernel_rfl) rfl rfl rfl (show n < 64 by omega)) rfl rfl rfl ?_; clear E a; intro a E; refine S_eff E rfl (fun K hK => ?_); refine eff_storeRowF (off := 0) (fun i => u32 (wPre tx (n + 1) i)) 0 E H rfl rfl rfl (show n < 64 by omega) rfl rfl rfl rfl rfl rfl (by kernel_rfl) (fun j => by rw [wrd_low tx hn]; exact wPre_succ tx n j) rfl ?_; clear H; intro w H F; replace H : Sep _ _ _ _ [_, _] _ := H; refine hK _ _ ?_; clear hK K; refine S_put0 rfl ?_; clear F; refine hK6 _ _ ?_; refine S_region ?_; refine S_val E (pk_intw rfl rfl rfl rfl (wI64 (by omega) (by omega))) rfl rfl rfl ?_; clear E a; intro a E; refine S_val E (pk_move rfl rfl) rfl rfl rfl ?_; clear E a; intro a E; refine loop_end ?_
    exact ⟨n + 1, ⟨E.to (by repeat (first | exact trivial | refine ⟨rfl, ?_⟩)), H, by omega⟩, by omega⟩
  · skip
    clear E; intro c11 E
    obtain rfl : n = 16 := by have := c11; simp only [decide_eq_false_iff_not] at this; omega
    refine S_else E rfl ?_; refine wp_exit ?_
    repeat (first | refine then_exit ?_ | refine block_hit ?_ | refine block_miss (by decide) ?_)
    refine hK2 _ _ ?_; refine wp_seq_k fun K8 hK8 => ?_; refine wp_seq_k fun K9 hK9 => ?_; refine S_region ?_; refine S_val E (pk_assign rfl rfl) rfl rfl rfl ?_; clear E a; intro a E; refine hK9 _ _ ?_; refine wp_block ?_; refine S_loopI (γ := Nat) [2, 3] (fun n => [(5, .int .i64 (n : Int))]) (fun n => [.blk b3 (ca [.row 64 fun i => u32 (wPre tx n i)]) 119, .blk b2 (ca [.row 64 fun i => u32 (wPre tx 0 i)]) 119 ]) (fun n => [TxF A c tx]) (fun n => 16 ≤ n ∧ n ≤ 64) (fun n => 64 - n) (16) E H (by repeat (first | exact trivial | refine ⟨rfl, ?_⟩)) (⟨by omega, by omega⟩) ?_; clear E H; intro n a w E H hφ; replace E : Env a _ [(5, _), (2, _), (3, _)] := E; replace H : Sep _ _ _ _ [_, _] [_] := H; refine wp_seq_k fun K10 hK10 => ?_; refine wp_seq_k fun K11 hK11 => ?_; refine S_region ?_; refine S_val E (pk_move rfl rfl) rfl rfl rfl ?_; clear E a; intro a E
    refine S_val E (pk_int rfl rfl rfl rfl) rfl rfl rfl ?_; clear E a; intro a E; refine hK11 _ _ ?_; refine env_split (d := 50) E rfl ?_ ?_
    · skip
      clear E; intro c50 E
      have hn : n < 64 := by have := c50; simp only [decide_eq_true_eq] at this; omega
      refine S_then E rfl ?_; refine wp_skip ?_; refine hK10 _ _ ?_; refine wp_seq_k fun K12 hK12 => ?_; refine wp_block ?_; refine wp_seq_k fun K13 hK13 => ?_; refine S_region ?_; refine S_val E (pk_move rfl rfl) rfl rfl rfl ?_; clear E a; intro a E; refine S_val E (pk_intw rfl rfl rfl rfl (wI64 (by omega) (by omega))) rfl rfl rfl ?_; clear E a; intro a E; refine S_val E (pk_elP1 (i := n - 15) rfl (by kernel_rfl) rfl rfl (by omega) (show n - 15 < 64 by omega)) rfl rfl rfl ?_; clear E a; intro a E; refine S_val E (pk_loadRow (i := n - 15) (off := 0) H 0 rfl trivial rfl (show n - 15 < 64 by omega) rfl rfl rfl (by kernel_rfl)) rfl rfl rfl ?_; clear E a; intro a E; refine S_val E (pk_assign rfl rfl) rfl rfl rfl ?_; clear E a; intro a E; refine hK13 _ _ ?_; refine wp_seq_k fun K14 hK14 => ?_; refine S_region ?_; refine S_val E (pk_move rfl rfl) rfl rfl rfl ?_; clear E a; intro a E
      refine S_val E (pk_intw rfl rfl rfl rfl (wI64 (by omega) (by omega))) rfl rfl rfl ?_; clear E a; intro a E; refine S_val E (pk_elP1 (i := n - 2) rfl (by kernel_rfl) rfl rfl (by omega) (show n - 2 < 64 by omega)) rfl rfl rfl ?_; clear E a; intro a E; refine S_val E (pk_loadRow (i := n - 2) (off := 0) H 0 rfl trivial rfl (show n - 2 < 64 by omega) rfl rfl rfl (by kernel_rfl)) rfl rfl rfl ?_; clear E a; intro a E; refine S_val E (pk_assign rfl rfl) rfl rfl rfl ?_; clear E a; intro a E; refine hK14 _ _ ?_; refine wp_seq_k fun K15 hK15 => ?_; refine S_region ?_; refine S_val E (pk_move rfl rfl) rfl rfl rfl ?_; clear E a; intro a E; refine S_eff E rfl (fun K hK => ?_); refine eff_call E rfl rfl rfl (by kernel_rfl) ?_; refine (ror_any (n := 7) (by omega) (by omega) H.xk).mono ?_; rintro e w ⟨rfl, H1⟩
      replace H := H.call H1
      clear H1; replace H : Sep _ _ _ _ [_, _] [_] := H; refine hK _ _ ?_; clear hK K; refine S_put E rfl rfl ?_; clear E a; intro a E; refine S_val E (pk_move rfl rfl) rfl rfl rfl ?_; clear E a; intro a E; refine S_eff E rfl (fun K hK => ?_); refine eff_call E rfl rfl rfl (by kernel_rfl) ?_; refine (ror_any (n := 18) (by omega) (by omega) H.xk).mono ?_; rintro e w ⟨rfl, H1⟩
      replace H := H.call H1
      clear H1; replace H : Sep _ _ _ _ [_, _] [_] := H; refine hK _ _ ?_; clear hK K; refine S_put E rfl rfl ?_; clear E a; intro a E; refine S_val E (pk_xorW rfl rfl rfl) rfl rfl rfl ?_; clear E a; intro a E; refine S_val E (pk_move rfl rfl) rfl rfl rfl ?_; clear E a; intro a E; refine S_val E (pk_shrW (k := 3) rfl rfl rfl rfl) rfl rfl rfl ?_; clear E a; intro a E; refine S_val E (pk_xorW rfl rfl rfl) rfl rfl rfl ?_; clear E a; intro a E; refine S_val E (pk_assign rfl rfl) rfl rfl rfl ?_; clear E a; intro a E; refine hK15 _ _ ?_; refine wp_seq_k fun K16 hK16 => ?_; refine S_region ?_; refine S_val E (pk_move rfl rfl) rfl rfl rfl ?_; clear E a; intro a E; refine S_eff E rfl (fun K hK => ?_); refine eff_call E rfl rfl rfl (by kernel_rfl) ?_; refine (ror_any (n := 17) (by omega) (by omega) H.xk).mono ?_; rintro e w ⟨rfl, H1⟩
      replace H := H.call H1
      clear H1; replace H : Sep _ _ _ _ [_, _] [_] := H; refine hK _ _ ?_; clear hK K; refine S_put E rfl rfl ?_; clear E a; intro a E; refine S_val E (pk_move rfl rfl) rfl rfl rfl ?_; clear E a; intro a E; refine S_eff E rfl (fun K hK => ?_); refine eff_call E rfl rfl rfl (by kernel_rfl) ?_; refine (ror_any (n := 19) (by omega) (by omega) H.xk).mono ?_; rintro e w ⟨rfl, H1⟩
      replace H := H.call H1
      clear H1; replace H : Sep _ _ _ _ [_, _] [_] := H; refine hK _ _ ?_; clear hK K; refine S_put E rfl rfl ?_; clear E a; intro a E; refine S_val E (pk_xorW rfl rfl rfl) rfl rfl rfl ?_; clear E a; intro a E; refine S_val E (pk_move rfl rfl) rfl rfl rfl ?_; clear E a; intro a E; refine S_val E (pk_shrW (k := 10) rfl rfl rfl rfl) rfl rfl rfl ?_; clear E a; intro a E; refine S_val E (pk_xorW rfl rfl rfl) rfl rfl rfl ?_; clear E a; intro a E; refine S_val E (pk_assign rfl rfl) rfl rfl rfl ?_; clear E a; intro a E; refine hK16 _ _ ?_; refine C_region E H [] 14 [(0, false), (1, false), (2, false), (3, false), (4, false), (5, false), (6, false), (7, false), (8, false), (9, false), (10, false), (11, false), (12, false), (13, false)] (by kernel_rfl) (by kernel_rfl) (fun w HS => ?_)
      (simp only [canOps, List.getElem?_cons_zero, List.getElem?_cons_succ, List.drop_succ_cons, List.drop_zero])
      clear H
      have H := HS
      have hsz : w.heap.size ≤ w.heap.size := Nat.le_refl _
      have HK : CanB.Keep (fun k => k < w.heap.size ∧ k ∉ []) w w := CanB.Keep.refl _ _
      refine C_val E HK (pk_move rfl rfl) rfl rfl rfl (fun _ _ _ _ h => h) ?_; clear E a; intro a E; refine C_val E HK (pk_move rfl rfl) rfl rfl rfl (fun _ _ _ _ h => h) ?_; clear E a; intro a E; refine C_val E HK (pk_intw rfl rfl rfl rfl (wI64 (by omega) (by omega))) rfl rfl rfl (fun _ _ _ _ h => h) ?_; clear E a; intro a E; refine C_val E HK (pk_elP1 (i := n - 16) rfl (by kernel_rfl) rfl rfl (by omega) (show n - 16 < 64 by omega)) rfl rfl rfl (fun _ _ _ _ h => h) ?_; clear E a; intro a E; refine C_val E HK (pk_loadRow (i := n - 16) (off := 0) HS 0 rfl (HS.inS 0 rfl (by simp)) rfl (show n - 16 < 64 by omega) rfl rfl rfl (by kernel_rfl)) rfl rfl rfl (fun _ _ _ _ h => h) ?_; clear E a; intro a E; refine C_val E HK (pk_move rfl rfl) rfl rfl rfl (fun _ _ _ _ h => h) ?_; clear E a; intro a E; refine C_val E HK (pk_addW rfl rfl rfl) rfl rfl rfl (fun _ _ _ _ h => h) ?_; clear E a; intro a E
      refine C_val E HK (pk_move rfl rfl) rfl rfl rfl (fun _ _ _ _ h => h) ?_; clear E a; intro a E; refine C_val E HK (pk_intw rfl rfl rfl rfl (wI64 (by omega) (by omega))) rfl rfl rfl (fun _ _ _ _ h => h) ?_; clear E a; intro a E; refine C_val E HK (pk_elP1 (i := n - 7) rfl (by kernel_rfl) rfl rfl (by omega) (show n - 7 < 64 by omega)) rfl rfl rfl (fun _ _ _ _ h => h) ?_; clear E a; intro a E; refine C_val E HK (pk_loadRow (i := n - 7) (off := 0) HS 0 rfl (HS.inS 0 rfl (by simp)) rfl (show n - 7 < 64 by omega) rfl rfl rfl (by kernel_rfl)) rfl rfl rfl (fun _ _ _ _ h => h) ?_; clear E a; intro a E; refine C_val E HK (pk_addW rfl rfl rfl) rfl rfl rfl (fun _ _ _ _ h => h) ?_; clear E a; intro a E; refine C_val E HK (pk_move rfl rfl) rfl rfl rfl (fun _ _ _ _ h => h) ?_; clear E a; intro a E; refine C_val E HK (pk_addW rfl rfl rfl) rfl rfl rfl (fun _ _ _ _ h => h) ?_; clear E a; intro a E
      refine CanB.wpCan_nil ?_
      try (simp only [List.take_succ_cons, List.take_zero, List.drop_succ_cons, List.drop_zero])
      clear HS HK hsz; refine S_val E (pk_elP1 (i := n) rfl (by kernel_rfl) rfl rfl rfl hn) rfl rfl rfl ?_; clear E a; intro a E; refine S_eff E rfl (fun K hK => ?_); refine eff_storeRowF (off := 0) (fun i => u32 (wPre tx (n + 1) i)) 0 E H rfl rfl rfl hn rfl rfl rfl rfl rfl rfl (by kernel_rfl) (fun j => by rw [wrd_high tx hφ.1]; exact wPre_succ tx n j) rfl ?_; clear H; intro w H F; replace H : Sep _ _ _ _ [_, _] _ := H; refine hK _ _ ?_; clear hK K; refine S_put0 rfl ?_; clear F; refine hK12 _ _ ?_; refine S_region ?_; refine S_val E (pk_move rfl rfl) rfl rfl rfl ?_; clear E a; intro a E; refine S_val E (pk_intw rfl rfl rfl rfl (wI64 (by omega) (by omega))) rfl rfl rfl ?_; clear E a; intro a E; refine S_val E (pk_assign rfl rfl) rfl rfl rfl ?_; clear E a; intro a E; refine loop_end ?_
      exact ⟨n + 1, ⟨E.to (by repeat (first | exact trivial | refine ⟨rfl, ?_⟩)), H, ⟨by omega, by omega⟩⟩, by omega⟩
    · skip
      clear E; intro c50 E
      obtain rfl : n = 64 := by have := c50; simp only [decide_eq_false_iff_not] at this; omega
      refine S_else E rfl ?_; refine wp_exit ?_
      repeat (first | refine then_exit ?_ | refine block_hit ?_ | refine block_miss (by decide) ?_)
      refine hK8 _ _ ?_; refine wp_seq_k fun K17 hK17 => ?_; refine S_region ?_; refine S_val E (pk_load (n := 64) H 0 rfl rfl rfl trivial rfl (by kernel_rfl)) rfl rfl rfl ?_; clear E a; intro a E; refine S_eff E rfl (fun K hK => ?_); refine eff_store 1 E H rfl rfl rfl rfl rfl (by repeat (first | exact trivial | refine ⟨rfl, ?_⟩ | refine ⟨fun _ _ => rfl, ?_⟩)) rfl (by kernel_rfl) rfl ?_; clear H; intro w H _; replace H : Sep _ _ _ _ [_, _] _ := H; refine hK _ _ ?_; clear hK K; refine S_put0 rfl ?_; refine hK17 _ _ ?_; refine wp_ret ?_
      repeat (first | refine then_ret ?_ | refine block_ret ?_)
      refine ret1 rfl E (by exact resC (n := 64) H 1 rfl rfl rfl (by kernel_rfl)) ?_
      exact ⟨rfl, H.pop.popL.popL⟩
set_option maxRecDepth 100000 in
set_option maxHeartbeats 1000000 in
theorem Block_any {h gt : Nat → Nat} {A : Option Addr} {c : Nat} {tx : List Nat} (hl : tx.length = 64) {X : List Nat} {w0 : World} (hX : ∀ k ∈ X, k < w0.heap.size) (hk : St (TxF A c tx) w0 X) (hG : St (AtC ⟨1, 0, none⟩ [.row 64 fun i => u32 (gt i)]) w0 X) :
    Calls Tryd.prog 69 #[.agg (ca [.row 8 fun i => u32 (h i)]), .slice A tx.length c] w0 fun e w' => e = .returned (.agg (ca [.row 8 fun i => u32 (blockR gt h tx i)])) ∧ Sep X [] w0 w' [] [] := by
  refine calls_env Tryd.ntmps69 Tryd.func69 rfl rfl fun a E => ?_; replace E : Env a _ [(0, _), (1, _)] := E
  have H : Sep X [] w0 w0 [] [(TxF A c tx), (AtC ⟨1, 0, none⟩ [.row 64 fun i => u32 (gt i)])] := Sep.start hX (List.forall_mem_cons.2 ⟨hk, List.forall_mem_cons.2 ⟨hG, fun _ h => by cases h⟩⟩)
  refine wp_seq_k fun K0 hK0 => ?_; refine S_region ?_; refine S_eff E rfl (fun K hK => ?_); refine eff_box E H rfl rfl rfl ?_; clear H; intro b2 w H _; refine hK _ _ ?_; clear hK K; refine S_put E rfl rfl ?_; clear E a; intro a E; refine S_eff E rfl (fun K hK => ?_); refine eff_alloc (z := [.row 8 fun _ => .int .u32 0]) H rfl (by kernel_rfl) ?_; clear H; intro b4 w H _; refine hK _ _ ?_; clear hK K; refine S_put E rfl rfl ?_; clear E a; intro a E; refine hK0 _ _ ?_; refine wp_seq_k fun K1 hK1 => ?_; refine S_region ?_; refine S_val E (pk_move rfl rfl) rfl rfl rfl ?_; clear E a; intro a E; refine S_eff E rfl (fun K hK => ?_); refine eff_call E rfl rfl rfl (by kernel_rfl) ?_; refine (words_any hl H.xk (H.fact 0 rfl)).mono ?_; rintro e w ⟨rfl, H1⟩
  replace H := H.call H1
  clear H1; replace H : Sep _ _ _ _ [_, _] [_, _] := H; refine hK _ _ ?_; clear hK K; refine S_put E rfl rfl ?_; clear E a; intro a E; refine S_eff E rfl (fun K hK => ?_); refine eff_alloc (z := [.row 64 fun _ => .int .u32 0]) H rfl (by kernel_rfl) ?_; clear H; intro b5 w H _; refine hK _ _ ?_; clear hK K; refine S_put E rfl rfl ?_; clear E a; intro a E; refine S_eff E rfl (fun K hK => ?_); refine eff_store 0 E H rfl rfl rfl rfl rfl (by repeat (first | exact trivial | refine ⟨rfl, ?_⟩ | refine ⟨fun _ _ => rfl, ?_⟩)) rfl (by kernel_rfl) rfl ?_; clear H; intro w H _; replace H : Sep _ _ _ _ [_, _, _] _ := H; refine hK _ _ ?_; clear hK K; refine S_put0 rfl ?_; refine hK1 _ _ ?_; refine wp_seq_k fun K2 hK2 => ?_; refine S_region ?_; refine S_val E (pk_load (n := 8) H 2 rfl rfl rfl trivial rfl (by kernel_rfl)) rfl rfl rfl ?_; clear E a; intro a E; refine S_eff E rfl (fun K hK => ?_)
  refine eff_alloc (z := [.row 8 fun _ => .int .u32 0]) H rfl (by kernel_rfl) ?_; clear H; intro b6 w H _; refine hK _ _ ?_; clear hK K; refine S_put E rfl rfl ?_; clear E a; intro a E; refine S_eff E rfl (fun K hK => ?_); refine eff_store 0 E H rfl rfl rfl rfl rfl (by repeat (first | exact trivial | refine ⟨rfl, ?_⟩ | refine ⟨fun _ _ => rfl, ?_⟩)) rfl (by kernel_rfl) rfl ?_; clear H; intro w H _; replace H : Sep _ _ _ _ [_, _, _, _] _ := H; refine hK _ _ ?_; clear hK K; refine S_put0 rfl ?_; refine hK2 _ _ ?_; refine wp_seq_k fun K3 hK3 => ?_; refine wp_seq_k fun K4 hK4 => ?_; refine S_region ?_; refine S_val E (pk_move rfl rfl) rfl rfl rfl ?_; clear E a; intro a E; refine hK4 _ _ ?_; refine wp_block ?_
  refine S_loopI (γ := Nat × (Nat → Nat)) [2, 4, 5, 6] (fun g => [(16, .int .i64 (g.1 : Int))]) (fun g => [.blk b6 (ca [.row 8 fun i => u32 (g.2 i)]) 101, .blk b5 (ca [.row 64 fun i => u32 (wPre tx 64 i)]) 119, .blk b4 (ca [.row 8 fun _ => .int .u32 0]) 101, .blk b2 (ca [.row 8 fun i => u32 (h i)]) 101 ]) (fun g => [TxF A c tx, AtC ⟨1, 0, none⟩ [.row 64 fun i => u32 (gt i)]]) (fun g => g.1 ≤ 64 ∧ g.2 = vR gt tx h g.1) (fun g => 64 - g.1) ((0, h)) E H (by repeat (first | exact trivial | refine ⟨rfl, ?_⟩)) (⟨by omega, rfl⟩) ?_; clear E H; intro g a w E H hφ; replace E : Env a _ [(16, _), (2, _), (4, _), (5, _), (6, _)] := E; replace H : Sep _ _ _ _ [_, _, _, _] [_, _] := H
  obtain ⟨t, vv⟩ := g
  simp only at E H hφ ⊢
  obtain ⟨hφ, hM⟩ := hφ
  refine wp_seq_k fun K5 hK5 => ?_; refine S_region ?_; refine S_val E (pk_int rfl rfl rfl rfl) rfl rfl rfl ?_; clear E a; intro a E; refine hK5 _ _ ?_; refine wp_seq_k fun K6 hK6 => ?_; refine env_split (d := 17) E rfl ?_ ?_
  · skip
    clear E; intro c17 E
    have ht64 : t < 64 := by have := c17; simp only [decide_eq_true_eq] at this; omega
    refine S_then E rfl ?_; refine wp_skip ?_; refine hK6 _ _ ?_; refine wp_seq_k fun K7 hK7 => ?_; refine wp_block ?_; refine wp_seq_k fun K8 hK8 => ?_; refine S_region ?_; refine S_val E (pk_move rfl rfl) rfl rfl rfl ?_; clear E a; intro a E; refine S_val E (pk_assign rfl rfl) rfl rfl rfl ?_; clear E a; intro a E; refine hK8 _ _ ?_; refine wp_seq_k fun K9 hK9 => ?_; refine C_region E H [] 5 [(0, false), (1, false), (2, false), (3, false), (4, false)] (by kernel_rfl) (by kernel_rfl) (fun w HS => ?_)
    (simp only [canOps, List.getElem?_cons_zero, List.getElem?_cons_succ, List.drop_succ_cons, List.drop_zero])
    clear H
    have H := HS
    have hsz : w.heap.size ≤ w.heap.size := Nat.le_refl _
    have HK : CanB.Keep (fun k => k < w.heap.size ∧ k ∉ []) w w := CanB.Keep.refl _ _
    refine C_val E HK (pk_elP1 (i := 0) rfl (by kernel_rfl) rfl rfl rfl (show 0 < 8 by decide)) rfl rfl rfl (fun _ _ _ _ h => h) ?_; clear E a; intro a E; refine C_val E HK (pk_loadRow (i := 0) (off := 0) HS 0 rfl (HS.inS 0 rfl (by simp)) rfl (show 0 < 8 by decide) rfl rfl rfl (by kernel_rfl)) rfl rfl rfl (fun _ _ _ _ h => h) ?_; clear E a; intro a E; refine C_val E HK (pk_elP1 (i := 4) rfl (by kernel_rfl) rfl rfl rfl (show 4 < 8 by decide)) rfl rfl rfl (fun _ _ _ _ h => h) ?_; clear E a; intro a E; refine C_val E HK (pk_loadRow (i := 4) (off := 0) HS 0 rfl (HS.inS 0 rfl (by simp)) rfl (show 4 < 8 by decide) rfl rfl rfl (by kernel_rfl)) rfl rfl rfl (fun _ _ _ _ h => h) ?_; clear E a; intro a E; refine C_val E HK (pk_assign rfl rfl) rfl rfl rfl (fun _ _ _ _ h => h) ?_; clear E a; intro a E; refine CanB.wpCan_nil ?_
    try (simp only [List.take_succ_cons, List.take_zero, List.drop_succ_cons, List.drop_zero])
    clear HS HK hsz; refine S_val E (pk_assign rfl rfl) rfl rfl rfl ?_; clear E a; intro a E; refine hK9 _ _ ?_; refine wp_seq_k fun K10 hK10 => ?_
    replace H := H.know ((H.fact 1 rfl).imp fun w h => at_row ht64 h)
    replace H : Sep _ _ _ _ [_, _, _, _] [_, _, _] := H; refine C_region E H [] 29 [(0, false), (1, false), (2, false), (4, false), (7, false), (11, false), (12, false), (13, false), (14, false), (15, false), (16, false), (17, false), (18, false), (19, false), (20, false), (22, false), (23, false), (24, false), (26, false), (27, false), (28, false), (3, true), (5, true), (6, false), (8, true), (9, false), (10, false), (21, false), (25, false)] (by kernel_rfl) (by kernel_rfl) (fun w HS => ?_)
    (simp only [canOps, List.getElem?_cons_zero, List.getElem?_cons_succ, List.drop_succ_cons, List.drop_zero])
    clear H
    have H := HS
    have hsz : w.heap.size ≤ w.heap.size := Nat.le_refl _
    have HK : CanB.Keep (fun k => k < w.heap.size ∧ k ∉ []) w w := CanB.Keep.refl _ _
    refine C_val E HK (pk_elP1 (i := 7) rfl (by kernel_rfl) rfl rfl rfl (show 7 < 8 by decide)) rfl rfl rfl (fun _ _ _ _ h => h) ?_; clear E a; intro a E; refine C_val E HK (pk_loadRow (i := 7) (off := 0) HS 0 rfl (HS.inS 0 rfl (by simp)) rfl (show 7 < 8 by decide) rfl rfl rfl (by kernel_rfl)) rfl rfl rfl (fun _ _ _ _ h => h) ?_; clear E a; intro a E; refine C_val E HK (pk_move rfl rfl) rfl rfl rfl (fun _ _ _ _ h => h) ?_; clear E a; intro a E; refine C_val E HK (pk_move rfl rfl) rfl rfl rfl (fun _ _ _ _ h => h) ?_; clear E a; intro a E; refine C_val E HK (pk_move rfl rfl) rfl rfl rfl (fun _ _ _ _ h => h) ?_; clear E a; intro a E; refine C_val E HK (pk_move rfl rfl) rfl rfl rfl (fun _ _ _ _ h => h) ?_; clear E a; intro a E; refine C_val E HK (pk_elP1 (i := 5) rfl (by kernel_rfl) rfl rfl rfl (show 5 < 8 by decide)) rfl rfl rfl (fun _ _ _ _ h => h) ?_; clear E a; intro a E
    refine C_val E HK (pk_loadRow (i := 5) (off := 0) HS 0 rfl (HS.inS 0 rfl (by simp)) rfl (show 5 < 8 by decide) rfl rfl rfl (by kernel_rfl)) rfl rfl rfl (fun _ _ _ _ h => h) ?_; clear E a; intro a E; refine C_val E HK (pk_andW rfl rfl rfl) rfl rfl rfl (fun _ _ _ _ h => h) ?_; clear E a; intro a E; refine C_val E HK (pk_move rfl rfl) rfl rfl rfl (fun _ _ _ _ h => h) ?_; clear E a; intro a E; refine C_val E HK (pk_notW rfl rfl) rfl rfl rfl (fun _ _ _ _ h => h) ?_; clear E a; intro a E; refine C_val E HK (pk_elP1 (i := 6) rfl (by kernel_rfl) rfl rfl rfl (show 6 < 8 by decide)) rfl rfl rfl (fun _ _ _ _ h => h) ?_; clear E a; intro a E; refine C_val E HK (pk_loadRow (i := 6) (off := 0) HS 0 rfl (HS.inS 0 rfl (by simp)) rfl (show 6 < 8 by decide) rfl rfl rfl (by kernel_rfl)) rfl rfl rfl (fun _ _ _ _ h => h) ?_; clear E a; intro a E
    refine C_val E HK (pk_andW rfl rfl rfl) rfl rfl rfl (fun _ _ _ _ h => h) ?_; clear E a; intro a E; refine C_val E HK (pk_xorW rfl rfl rfl) rfl rfl rfl (fun _ _ _ _ h => h) ?_; clear E a; intro a E; refine C_val E HK (pk_move rfl rfl) rfl rfl rfl (fun _ _ _ _ h => h) ?_; clear E a; intro a E; refine C_val E HK (pk_elP1 (i := t) rfl (by kernel_rfl) rfl rfl rfl ht64) rfl rfl rfl (fun _ _ _ _ h => h) ?_; clear E a; intro a E; refine C_val E HK (pk_loadE1 (HS.fact 0 rfl) (fun k h _ => ⟨h, by simp⟩) rfl rfl rfl (by kernel_rfl)) rfl rfl rfl (fun _ _ _ _ h => h) ?_; clear E a; intro a E; refine C_val E HK (pk_move rfl rfl) rfl rfl rfl (fun _ _ _ _ h => h) ?_; clear E a; intro a E; refine C_val E HK (pk_elP1 (i := t) rfl (by kernel_rfl) rfl rfl rfl ht64) rfl rfl rfl (fun _ _ _ _ h => h) ?_; clear E a; intro a E
    refine C_val E HK (pk_loadRow (i := t) (off := 0) HS 1 rfl (HS.inS 1 rfl (by simp)) rfl ht64 rfl rfl rfl (by kernel_rfl)) rfl rfl rfl (fun _ _ _ _ h => h) ?_; clear E a; intro a E; refine C_eff E rfl (fun K hK => ?_); refine eff_call E rfl rfl rfl (by kernel_rfl) ?_; refine (ror_any (n := 6) (by omega) (by omega) H.xk).mono ?_; rintro e w ⟨rfl, H1⟩
    have F := H1.frm
    replace H := H.call H1
    clear H1; replace H : Sep _ _ _ _ [_, _, _, _] [_, _, _] := H
    have hk := keep_frm (D := []) F hsz (by simp)
    refine hK _ _ hk ?_; clear hK K
    replace HK := HK.trans hk
    replace hsz := Nat.le_trans hsz (F).size
    clear hk; refine C_put E rfl rfl ?_; clear E a; intro a E; clear F; refine C_eff E rfl (fun K hK => ?_); refine eff_call E rfl rfl rfl (by kernel_rfl) ?_; refine (ror_any (n := 11) (by omega) (by omega) H.xk).mono ?_; rintro e w ⟨rfl, H1⟩
    have F := H1.frm
    replace H := H.call H1
    clear H1; replace H : Sep _ _ _ _ [_, _, _, _] [_, _, _] := H
    have hk := keep_frm (D := []) F hsz (by simp)
    refine hK _ _ hk ?_; clear hK K
    replace HK := HK.trans hk
    replace hsz := Nat.le_trans hsz (F).size
    clear hk; refine C_put E rfl rfl ?_; clear E a; intro a E; clear F; refine C_val E HK (pk_xorW rfl rfl rfl) rfl rfl rfl (fun _ _ _ _ h => h) ?_; clear E a; intro a E; refine C_eff E rfl (fun K hK => ?_); refine eff_call E rfl rfl rfl (by kernel_rfl) ?_; refine (ror_any (n := 25) (by omega) (by omega) H.xk).mono ?_; rintro e w ⟨rfl, H1⟩
    have F := H1.frm
    replace H := H.call H1
    clear H1; replace H : Sep _ _ _ _ [_, _, _, _] [_, _, _] := H
    have hk := keep_frm (D := []) F hsz (by simp)
    refine hK _ _ hk ?_; clear hK K
    replace HK := HK.trans hk
    replace hsz := Nat.le_trans hsz (F).size
    clear hk; refine C_put E rfl rfl ?_; clear E a; intro a E; clear F; refine C_val E HK (pk_xorW rfl rfl rfl) rfl rfl rfl (fun _ _ _ _ h => h) ?_; clear E a; intro a E; refine C_val E HK (pk_addW rfl rfl rfl) rfl rfl rfl (fun _ _ _ _ h => h) ?_; clear E a; intro a E; refine C_val E HK (pk_addW rfl rfl rfl) rfl rfl rfl (fun _ _ _ _ h => h) ?_; clear E a; intro a E; refine C_val E HK (pk_addW rfl rfl rfl) rfl rfl rfl (fun _ _ _ _ h => h) ?_; clear E a; intro a E; refine CanB.wpCan_nil ?_
    try (simp only [List.take_succ_cons, List.take_zero, List.drop_succ_cons, List.drop_zero])
    clear HS HK hsz; refine S_val E (pk_addW rfl rfl rfl) rfl rfl rfl ?_; clear E a; intro a E; refine S_val E (pk_assignE rfl rfl (congrArg (fun z => u32 z) (t1R_eq gt tx vv ht64))) rfl rfl rfl ?_; clear E a; intro a E; refine hK10 _ _ ?_; refine wp_seq_k fun K11 hK11 => ?_; refine C_region E H [] 23 [(0, false), (2, false), (5, false), (8, false), (9, false), (10, false), (11, false), (12, false), (13, false), (14, false), (15, false), (16, false), (17, false), (18, false), (19, false), (20, false), (21, false), (22, false), (1, true), (3, true), (4, false), (6, true), (7, false)] (by kernel_rfl) (by kernel_rfl) (fun w HS => ?_)
    (simp only [canOps, List.getElem?_cons_zero, List.getElem?_cons_succ, List.drop_succ_cons, List.drop_zero])
    clear H
    have H := HS
    have hsz : w.heap.size ≤ w.heap.size := Nat.le_refl _
    have HK : CanB.Keep (fun k => k < w.heap.size ∧ k ∉ []) w w := CanB.Keep.refl _ _
    refine C_val E HK (pk_move rfl rfl) rfl rfl rfl (fun _ _ _ _ h => h) ?_; clear E a; intro a E; refine C_val E HK (pk_move rfl rfl) rfl rfl rfl (fun _ _ _ _ h => h) ?_; clear E a; intro a E; refine C_val E HK (pk_move rfl rfl) rfl rfl rfl (fun _ _ _ _ h => h) ?_; clear E a; intro a E; refine C_val E HK (pk_move rfl rfl) rfl rfl rfl (fun _ _ _ _ h => h) ?_; clear E a; intro a E; refine C_val E HK (pk_elP1 (i := 1) rfl (by kernel_rfl) rfl rfl rfl (show 1 < 8 by decide)) rfl rfl rfl (fun _ _ _ _ h => h) ?_; clear E a; intro a E; refine C_val E HK (pk_loadRow (i := 1) (off := 0) HS 0 rfl (HS.inS 0 rfl (by simp)) rfl (show 1 < 8 by decide) rfl rfl rfl (by kernel_rfl)) rfl rfl rfl (fun _ _ _ _ h => h) ?_; clear E a; intro a E; refine C_val E HK (pk_andW rfl rfl rfl) rfl rfl rfl (fun _ _ _ _ h => h) ?_; clear E a; intro a E
    refine C_val E HK (pk_move rfl rfl) rfl rfl rfl (fun _ _ _ _ h => h) ?_; clear E a; intro a E; refine C_val E HK (pk_elP1 (i := 2) rfl (by kernel_rfl) rfl rfl rfl (show 2 < 8 by decide)) rfl rfl rfl (fun _ _ _ _ h => h) ?_; clear E a; intro a E; refine C_val E HK (pk_loadRow (i := 2) (off := 0) HS 0 rfl (HS.inS 0 rfl (by simp)) rfl (show 2 < 8 by decide) rfl rfl rfl (by kernel_rfl)) rfl rfl rfl (fun _ _ _ _ h => h) ?_; clear E a; intro a E; refine C_val E HK (pk_andW rfl rfl rfl) rfl rfl rfl (fun _ _ _ _ h => h) ?_; clear E a; intro a E; refine C_val E HK (pk_xorW rfl rfl rfl) rfl rfl rfl (fun _ _ _ _ h => h) ?_; clear E a; intro a E; refine C_val E HK (pk_elP1 (i := 1) rfl (by kernel_rfl) rfl rfl rfl (show 1 < 8 by decide)) rfl rfl rfl (fun _ _ _ _ h => h) ?_; clear E a; intro a E
    refine C_val E HK (pk_loadRow (i := 1) (off := 0) HS 0 rfl (HS.inS 0 rfl (by simp)) rfl (show 1 < 8 by decide) rfl rfl rfl (by kernel_rfl)) rfl rfl rfl (fun _ _ _ _ h => h) ?_; clear E a; intro a E; refine C_val E HK (pk_elP1 (i := 2) rfl (by kernel_rfl) rfl rfl rfl (show 2 < 8 by decide)) rfl rfl rfl (fun _ _ _ _ h => h) ?_; clear E a; intro a E; refine C_val E HK (pk_loadRow (i := 2) (off := 0) HS 0 rfl (HS.inS 0 rfl (by simp)) rfl (show 2 < 8 by decide) rfl rfl rfl (by kernel_rfl)) rfl rfl rfl (fun _ _ _ _ h => h) ?_; clear E a; intro a E; refine C_val E HK (pk_andW rfl rfl rfl) rfl rfl rfl (fun _ _ _ _ h => h) ?_; clear E a; intro a E; refine C_val E HK (pk_xorW rfl rfl rfl) rfl rfl rfl (fun _ _ _ _ h => h) ?_; clear E a; intro a E; refine C_eff E rfl (fun K hK => ?_); refine eff_call E rfl rfl rfl (by kernel_rfl) ?_; refine (ror_any (n := 2) (by omega) (by omega) H.xk).mono ?_
    rintro e w ⟨rfl, H1⟩
    have F := H1.frm
    replace H := H.call H1
    clear H1; replace H : Sep _ _ _ _ [_, _, _, _] [_, _, _] := H
    have hk := keep_frm (D := []) F hsz (by simp)
    refine hK _ _ hk ?_; clear hK K
    replace HK := HK.trans hk
    replace hsz := Nat.le_trans hsz (F).size
    clear hk; refine C_put E rfl rfl ?_; clear E a; intro a E; clear F; refine C_eff E rfl (fun K hK => ?_); refine eff_call E rfl rfl rfl (by kernel_rfl) ?_; refine (ror_any (n := 13) (by omega) (by omega) H.xk).mono ?_; rintro e w ⟨rfl, H1⟩
    have F := H1.frm
    replace H := H.call H1
    clear H1; replace H : Sep _ _ _ _ [_, _, _, _] [_, _, _] := H
    have hk := keep_frm (D := []) F hsz (by simp)
    refine hK _ _ hk ?_; clear hK K
    replace HK := HK.trans hk
    replace hsz := Nat.le_trans hsz (F).size
    clear hk; refine C_put E rfl rfl ?_; clear E a; intro a E; clear F; refine C_val E HK (pk_xorW rfl rfl rfl) rfl rfl rfl (fun _ _ _ _ h => h) ?_; clear E a; intro a E; refine C_eff E rfl (fun K hK => ?_); refine eff_call E rfl rfl rfl (by kernel_rfl) ?_; refine (ror_any (n := 22) (by omega) (by omega) H.xk).mono ?_; rintro e w ⟨rfl, H1⟩
    have F := H1.frm
    replace H := H.call H1
    clear H1; replace H : Sep _ _ _ _ [_, _, _, _] [_, _, _] := H
    have hk := keep_frm (D := []) F hsz (by simp)
    refine hK _ _ hk ?_; clear hK K
    replace HK := HK.trans hk
    replace hsz := Nat.le_trans hsz (F).size
    clear hk; refine C_put E rfl rfl ?_; clear E a; intro a E; clear F; refine C_val E HK (pk_xorW rfl rfl rfl) rfl rfl rfl (fun _ _ _ _ h => h) ?_; clear E a; intro a E; refine CanB.wpCan_nil ?_
    try (simp only [List.take_succ_cons, List.take_zero, List.drop_succ_cons, List.drop_zero])
    clear HS HK hsz; refine S_val E (pk_addW rfl rfl rfl) rfl rfl rfl ?_; clear E a; intro a E; refine S_val E (pk_assignE rfl rfl (congrArg (fun z => u32 z) (t2R_eq vv))) rfl rfl rfl ?_; clear E a; intro a E; refine hK11 _ _ ?_; refine S_region ?_; refine S_val E (pk_move rfl rfl) rfl rfl rfl ?_; clear E a; intro a E; refine S_val E (pk_move rfl rfl) rfl rfl rfl ?_; clear E a; intro a E; refine S_val E (pk_addW rfl rfl rfl) rfl rfl rfl ?_; clear E a; intro a E; refine S_val E (pk_elP1 (i := 0) rfl (by kernel_rfl) rfl rfl rfl (show 0 < 8 by decide)) rfl rfl rfl ?_; clear E a; intro a E; refine S_val E (pk_loadRow (i := 0) (off := 0) H 0 rfl trivial rfl (show 0 < 8 by decide) rfl rfl rfl (by kernel_rfl)) rfl rfl rfl ?_; clear E a; intro a E; refine S_val E (pk_elP1 (i := 1) rfl (by kernel_rfl) rfl rfl rfl (show 1 < 8 by decide)) rfl rfl rfl ?_; clear E a; intro a E
    refine S_val E (pk_loadRow (i := 1) (off := 0) H 0 rfl trivial rfl (show 1 < 8 by decide) rfl rfl rfl (by kernel_rfl)) rfl rfl rfl ?_; clear E a; intro a E; refine S_val E (pk_elP1 (i := 2) rfl (by kernel_rfl) rfl rfl rfl (show 2 < 8 by decide)) rfl rfl rfl ?_; clear E a; intro a E; refine S_val E (pk_loadRow (i := 2) (off := 0) H 0 rfl trivial rfl (show 2 < 8 by decide) rfl rfl rfl (by kernel_rfl)) rfl rfl rfl ?_; clear E a; intro a E; refine S_val E (pk_elP1 (i := 3) rfl (by kernel_rfl) rfl rfl rfl (show 3 < 8 by decide)) rfl rfl rfl ?_; clear E a; intro a E; refine S_val E (pk_loadRow (i := 3) (off := 0) H 0 rfl trivial rfl (show 3 < 8 by decide) rfl rfl rfl (by kernel_rfl)) rfl rfl rfl ?_; clear E a; intro a E; refine S_val E (pk_move rfl rfl) rfl rfl rfl ?_; clear E a; intro a E; refine S_val E (pk_addW rfl rfl rfl) rfl rfl rfl ?_; clear E a; intro a E
    refine S_val E (pk_elP1 (i := 4) rfl (by kernel_rfl) rfl rfl rfl (show 4 < 8 by decide)) rfl rfl rfl ?_; clear E a; intro a E; refine S_val E (pk_loadRow (i := 4) (off := 0) H 0 rfl trivial rfl (show 4 < 8 by decide) rfl rfl rfl (by kernel_rfl)) rfl rfl rfl ?_; clear E a; intro a E; refine S_val E (pk_elP1 (i := 5) rfl (by kernel_rfl) rfl rfl rfl (show 5 < 8 by decide)) rfl rfl rfl ?_; clear E a; intro a E; refine S_val E (pk_loadRow (i := 5) (off := 0) H 0 rfl trivial rfl (show 5 < 8 by decide) rfl rfl rfl (by kernel_rfl)) rfl rfl rfl ?_; clear E a; intro a E; refine S_val E (pk_elP1 (i := 6) rfl (by kernel_rfl) rfl rfl rfl (show 6 < 8 by decide)) rfl rfl rfl ?_; clear E a; intro a E; refine S_val E (pk_loadRow (i := 6) (off := 0) H 0 rfl trivial rfl (show 6 < 8 by decide) rfl rfl rfl (by kernel_rfl)) rfl rfl rfl ?_; clear E a; intro a E
    refine S_val E (pk_build8 (n := 8) (z := [.one (.int .u32 0), .one (.int .u32 0), .one (.int .u32 0), .one (.int .u32 0), .one (.int .u32 0), .one (.int .u32 0), .one (.int .u32 0), .one (.int .u32 0)]) (f := fun i => u32 (stepV vv (t1R gt tx vv t) (t2R vv) i)) rfl (by kernel_rfl) (by kernel_rfl) (⟨_, [.one _], 0, _, rfl, rfl, rfl, rfl, ⟨_, [.one _], 1, _, rfl, rfl, rfl, rfl, ⟨_, [.one _], 2, _, rfl, rfl, rfl, rfl, ⟨_, [.one _], 3, _, rfl, rfl, rfl, rfl, ⟨_, [.one _], 4, _, rfl, rfl, rfl, rfl, ⟨_, [.one _], 5, _, rfl, rfl, rfl, rfl, ⟨_, [.one _], 6, _, rfl, rfl, rfl, rfl, ⟨_, [.one _], 7, _, rfl, rfl, rfl, rfl, rfl⟩⟩⟩⟩⟩⟩⟩⟩) rfl) rfl rfl rfl ?_; clear E a; intro a E; refine S_eff E rfl (fun K hK => ?_); refine eff_store 0 E H rfl rfl rfl rfl rfl (by repeat (first | exact trivial | refine ⟨rfl, ?_⟩ | refine ⟨fun _ _ => rfl, ?_⟩)) rfl (by kernel_rfl) rfl ?_; clear H; intro w H _
    replace H : Sep _ _ _ _ [_, _, _, _] _ := H; refine hK _ _ ?_; clear hK K; refine S_put0 rfl ?_; refine hK7 _ _ ?_; refine S_region ?_; refine S_val E (pk_intw rfl rfl rfl rfl (wI64 (by omega) (by omega))) rfl rfl rfl ?_; clear E a; intro a E; refine S_val E (pk_move rfl rfl) rfl rfl rfl ?_; clear E a; intro a E; refine loop_end ?_
    exact ⟨(t + 1, stepV vv (t1R gt tx vv t) (t2R vv)), ⟨E.to (by repeat (first | exact trivial | refine ⟨rfl, ?_⟩)), H.pop, ⟨by show t + 1 ≤ 64; omega, vR_succ hM⟩⟩, by show 64 - (t + 1) < 64 - t; omega⟩
  · skip
    clear E; intro c17 E
    obtain rfl : t = 64 := by have := c17; simp only [decide_eq_false_iff_not] at this; omega
    refine S_else E rfl ?_; refine wp_exit ?_
    repeat (first | refine then_exit ?_ | refine block_hit ?_ | refine block_miss (by decide) ?_)
    refine hK3 _ _ ?_; refine wp_seq_k fun K12 hK12 => ?_; refine wp_seq_k fun K13 hK13 => ?_; refine S_region ?_; refine S_val E (pk_move rfl rfl) rfl rfl rfl ?_; clear E a; intro a E; refine hK13 _ _ ?_; refine wp_block ?_
    have e0 : (fun i => u32 (outW h vv 0 i)) = fun i => u32 (h i) := by funext i; simp [outW]
    rw [← e0] at H
    refine S_loopI (γ := Nat) [2, 4, 6] (fun n => [(98, .int .i64 (n : Int))]) (fun n => [.blk b6 (ca [.row 8 fun i => u32 (vv i)]) 101, .blk b5 (ca [.row 64 fun i => u32 (wPre tx 64 i)]) 119, .blk b4 (ca [.row 8 fun _ => .int .u32 0]) 101, .blk b2 (ca [.row 8 fun i => u32 (outW h vv n i)]) 101 ]) (fun n => [TxF A c tx, AtC ⟨1, 0, none⟩ [.row 64 fun i => u32 (gt i)]]) (fun n => n ≤ 8) (fun n => 8 - n) (0) E H (by repeat (first | exact trivial | refine ⟨rfl, ?_⟩)) (by omega) ?_; clear E H; intro n a w E H hφ; replace E : Env a _ [(98, _), (2, _), (4, _), (6, _)] := E; replace H : Sep _ _ _ _ [_, _, _, _] [_, _] := H; refine wp_seq_k fun K14 hK14 => ?_; refine S_region ?_; refine S_val E (pk_int rfl rfl rfl rfl) rfl rfl rfl ?_; clear E a; intro a E; refine hK14 _ _ ?_; refine wp_seq_k fun K15 hK15 => ?_
    refine env_split (d := 99) E rfl ?_ ?_
    · skip
      clear E; intro c99 E
      have hn : n < 8 := by have := c99; simp only [decide_eq_true_eq] at this; omega
      refine S_then E rfl ?_; refine wp_skip ?_; refine hK15 _ _ ?_; refine wp_seq_k fun K16 hK16 => ?_; refine wp_block ?_; refine wp_seq_k fun K17 hK17 => ?_; refine S_region ?_; refine S_val E (pk_move rfl rfl) rfl rfl rfl ?_; clear E a; intro a E; refine S_val E (pk_assign rfl rfl) rfl rfl rfl ?_; clear E a; intro a E; refine hK17 _ _ ?_; refine C_region E H [] 6 [(0, false), (1, false), (2, false), (3, false), (4, false), (5, false)] (by kernel_rfl) (by kernel_rfl) (fun w HS => ?_)
      (simp only [canOps, List.getElem?_cons_zero, List.getElem?_cons_succ, List.drop_succ_cons, List.drop_zero])
      clear H
      have H := HS
      have hsz : w.heap.size ≤ w.heap.size := Nat.le_refl _
      have HK : CanB.Keep (fun k => k < w.heap.size ∧ k ∉ []) w w := CanB.Keep.refl _ _
      refine C_val E HK (pk_move rfl rfl) rfl rfl rfl (fun _ _ _ _ h => h) ?_; clear E a; intro a E; refine C_val E HK (pk_elP1 (i := n) rfl (by kernel_rfl) rfl rfl rfl hn) rfl rfl rfl (fun _ _ _ _ h => h) ?_; clear E a; intro a E; refine C_val E HK (pk_loadRow (i := n) (off := 0) HS 3 rfl (HS.inS 3 rfl (by simp)) rfl hn rfl rfl rfl (by kernel_rfl)) rfl rfl rfl (fun _ _ _ _ h => h) ?_; clear E a; intro a E; refine C_val E HK (pk_move rfl rfl) rfl rfl rfl (fun _ _ _ _ h => h) ?_; clear E a; intro a E; refine C_val E HK (pk_elP1 (i := n) rfl (by kernel_rfl) rfl rfl rfl hn) rfl rfl rfl (fun _ _ _ _ h => h) ?_; clear E a; intro a E; refine C_val E HK (pk_loadRow (i := n) (off := 0) HS 0 rfl (HS.inS 0 rfl (by simp)) rfl hn rfl rfl rfl (by kernel_rfl)) rfl rfl rfl (fun _ _ _ _ h => h) ?_; clear E a; intro a E; refine CanB.wpCan_nil ?_
      try (simp only [List.take_succ_cons, List.take_zero, List.drop_succ_cons, List.drop_zero])
      clear HS HK hsz; refine S_val E (pk_addW rfl rfl rfl) rfl rfl rfl ?_; clear E a; intro a E; refine S_val E (pk_elP1 (i := n) rfl (by kernel_rfl) rfl rfl rfl hn) rfl rfl rfl ?_; clear E a; intro a E; refine S_eff E rfl (fun K hK => ?_); refine eff_storeRowF (off := 0) (fun i => u32 (outW h vv (n + 1) i)) 3 E H rfl rfl rfl hn rfl rfl rfl rfl rfl rfl (by kernel_rfl) (fun j => by rw [outW_at]; exact outW_succ _ _ n j) rfl ?_; clear H; intro w H F; replace H : Sep _ _ _ _ [_, _, _, _] _ := H; refine hK _ _ ?_; clear hK K; refine S_put0 rfl ?_; clear F; refine hK16 _ _ ?_; refine S_region ?_; refine S_val E (pk_intw rfl rfl rfl rfl (wI64 (by omega) (by omega))) rfl rfl rfl ?_; clear E a; intro a E; refine S_val E (pk_move rfl rfl) rfl rfl rfl ?_; clear E a; intro a E; refine loop_end ?_
      exact ⟨n + 1, ⟨E.to (by repeat (first | exact trivial | refine ⟨rfl, ?_⟩)), H, by omega⟩, by omega⟩
    · skip
      clear E; intro c99 E
      obtain rfl : n = 8 := by have := c99; simp only [decide_eq_false_iff_not] at this; omega
      refine S_else E rfl ?_; refine wp_exit ?_
      repeat (first | refine then_exit ?_ | refine block_hit ?_ | refine block_miss (by decide) ?_)
      refine hK12 _ _ ?_; refine wp_seq_k fun K18 hK18 => ?_; refine S_region ?_; refine S_val E (pk_load (n := 8) H 3 rfl rfl rfl trivial rfl (by kernel_rfl)) rfl rfl rfl ?_; clear E a; intro a E; refine S_eff E rfl (fun K hK => ?_); refine eff_store 2 E H rfl rfl rfl rfl rfl (by repeat (first | exact trivial | refine ⟨rfl, ?_⟩ | refine ⟨fun _ _ => rfl, ?_⟩)) rfl (by kernel_rfl) rfl ?_; clear H; intro w H _; replace H : Sep _ _ _ _ [_, _, _, _] _ := H; refine hK _ _ ?_; clear hK K; refine S_put0 rfl ?_; refine hK18 _ _ ?_; refine wp_ret ?_
      repeat (first | refine then_ret ?_ | refine block_ret ?_)
      refine ret1 rfl E (by exact resC (n := 8) H 2 rfl rfl rfl (by kernel_rfl)) ?_
      have hB : blockR gt h tx = outW h vv 8 := by rw [blockR, ← hM]
      rw [hB]
      exact ⟨rfl, H.pop.pop.popL.popL.popL.popL⟩
end Go.Proofs.YtlhhfngkfbbckaaDoor
namespace Go.Proofs.YtlhhfngkfbbckaaDoor
set_option linter.unusedSimpArgs false
set_option linter.unusedVariables false
open Go.RowKit
attribute [local irreducible] beL beK
theorem cell_new1 (w : World) (v : Value) (t : TypeId) : (w.alloc (.cells #[v] t)).cell? ⟨w.heap.size, 0, none⟩ = some v := by
  rw [cell_of_row _ _ _ _ _ _ (heap_alloc_new w (.cells #[v] t))]; rfl
theorem cell_below {B : Nat} {w w' : World} {g o : Nat} {v : Value} (hb : Below B w w') (hg : g < B) (h : w.cell? ⟨g, o, none⟩ = some v) : w'.cell? ⟨g, o, none⟩ = some v := (hb.cell (p := ⟨g, o, none⟩) hg).trans h
theorem beL_cons (k n : Nat) : beL (k + 1) n = (n / 2 ^ (8 * k) % 256) :: beL k n := by
  unfold beL beK
  rw [List.range_succ_eq_map, List.map_cons, List.map_map]
  congr 1
  apply List.map_congr_left
  intro i hi
  have := List.mem_range.1 hi
  simp only [Function.comp]
  rw [show k + 1 - 1 - (i + 1) = k - 1 - i from by omega]
theorem beL_zero (n : Nat) : beL 0 n = [] := by unfold beL beK; rfl
theorem beL_len (k n : Nat) : (beL k n).length = k := by unfold beL; exact beK_len k n k
theorem own_one (w : World) (e : TypeId) (x : Nat) : Own (w.alloc (.cells #[bv x] e)) w.heap.size e (.slice (some ⟨w.heap.size, 0, none⟩) 1 1) [x] :=
  ⟨rfl, .inr ⟨w.heap.size, 1, #[bv x], rfl, Nat.le_refl _, heap_alloc_new w _, Nat.le_refl _, (by decide), rfl, rfl⟩⟩
set_option maxRecDepth 100000 in
set_option maxHeartbeats 2000000 in
theorem Bytes_any (W n : Nat) (hW : W ≤ 8) (hn : n < 18446744073709551616) (w : World) :
    Calls Tryd.prog 33 #[.int .i64 W, .int .u64 n] w (RetOwn w (beL W n)) := by
  have HN := Lib.hid hn
  clear hn
  go_enter Tryd.func33, Tryd.ntmps33
  go_wp2
  go_loopg [1, 5, 7] W (fun k x v i wr => ∃ (m : Nat) (A : Option Addr) (c : Nat), m + k = W ∧ i = .int .i64 m ∧ x = .int .u64 ((n / 2 ^ (8 * m) : Nat) : Int) ∧ v = .slice A m c ∧ Txt wr wr.heap.size A m c (beL m n) ∧ Own wr w.heap.size 5 v (beL m n) ∧ Below w.heap.size w wr)
  case atStart => exact ⟨0, none, 0, by omega, rfl, (by rw [Nat.mul_zero, Nat.pow_zero, Nat.div_one]), rfl, (by rw [beL_zero]; exact Txt.nil_), (by rw [beL_zero]; exact Own.nil_), Below.refl _ _⟩
  case round =>
    obtain ⟨m, A, c, hm, rfl, rfl, rfl, ht, ho, hB⟩ := hrel
    have hm' := Lib.hid hm
    have HT := Lib.hid ht
    have HO := Lib.hid ho
    clear hm ht ho
    by_cases hlt : m < W
    · obtain ⟨q, hq⟩ : ∃ q, q = n / 2 ^ (8 * m) := ⟨_, rfl⟩
      rw [← hq]
      have qb : q < 18446744073709551616 := by rw [hq]; exact Nat.lt_of_le_of_lt (Nat.div_le_self _ _) HN.out
      have e1 : n / 2 ^ (8 * (m + 1)) = q / 256 := by rw [hq, Nat.mul_add, Nat.pow_add, ← Nat.div_div_eq_div_mul]
      have e2 : beL (m + 1) n = (q % 256) :: beL m n := by rw [hq]; exact beL_cons m n
      have E1 := Lib.hid e1
      have E2 := Lib.hid e2
      clear hq e1 e2
      have qb' : (q : Int) ≤ 18446744073709551615 := by omega
      have QB := Lib.hid qb
      clear qb
      obtain ⟨x, hx⟩ : ∃ x, x = q % 256 := ⟨_, rfl⟩
      have ex : (q : Int) % 256 = (x : Int) := by omega
      have xb : x < 256 := by omega
      have HX := Lib.hid hx
      clear hx
      go_wp2_with (refine wpList_append_txt rfl rfl BT rfl rfl (own_one wr 5 x) (HT.out.below' ((Below.refl _ _).alloc (Nat.le_refl _) _) (Nat.le_refl _)) (by simp; omega) (by simp) ?_; intro v1 w1 hown hg hat)
      have hB1 : Below w.heap.size w w1 := own_below (hB.alloc hB.size _) (own_one wr 5 x) hg hB.size (by simp; have := hB.size; omega)
      have el : [x] ++ beL m n = beL (m + 1) n := by rw [E2.out, HX.out]; rfl
      rw [el] at hown
      obtain ⟨A1, c1, hv1, ht1⟩ := hown.txt
      rw [beL_len] at hv1 ht1
      subst hv1
      have HO1 := Lib.hid (hown.mono hB.size)
      have HT1 := Lib.hid ht1
      clear hown ht1 el
      go_roundg (gk - 1)
      case measure => have := hm'.out; omega
      case rel =>
        have hm'' := hm'.out
        exact ⟨m + 1, A1, c1, by omega, by go_num, (by rw [E1.out]; congr 1), rfl, HT1.out, HO1.out, hB1⟩
    · obtain rfl : m = W := by have := hm'.out; omega
      go_wp2
      go_ret
      exact ⟨_, rfl, HO.out, hB⟩
end Go.Proofs.YtlhhfngkfbbckaaDoor
namespace Go.Proofs.YtlhhfngkfbbckaaDoor
set_option linter.unusedSimpArgs false
set_option linter.unusedVariables false
open Go.RowKit

/-! ### The plain law: block by block or at once, part by part or at once -/
theorem feed_app (gt : Nat → Nat) : ∀ (n : Nat) (h : Nat → Nat) (l b : List Nat), l.length ≤ n → feed gt h (l ++ b) = feed gt (feed gt h l).1 ((feed gt h l).2 ++ b)
  | 0, h, l, b, hl => by rw [feed_end (l := l) (by omega)]
  | n + 1, h, l, b, hl => by
    by_cases h1 : 64 ≤ l.length
    · rw [feed_step (l := l ++ b) (by rw [List.length_append]; omega), feed_step h1, List.take_append_of_le_length h1, List.drop_append_of_le_length h1]
      exact feed_app gt n _ _ _ (by rw [List.length_drop]; omega)
    · rw [feed_end h1]
theorem shaAll_from (gt : Nat → Nat) : ∀ (ps : List (List Nat)) (h : Nat → Nat) (n : Nat) (r : List Nat), r.length < 64 → ps.foldl (takeV gt) (h, n, r) = ((feed gt h (r ++ ps.flatten)).1, n + ps.flatten.length, (feed gt h (r ++ ps.flatten)).2)
  | [], h, n, r, hr => by
    rw [List.foldl_nil, List.flatten_nil, List.append_nil, feed_end (by omega)]; rfl
  | p :: ps, h, n, r, hr => by
    rw [List.foldl_cons]
    have e : takeV gt (h, n, r) p = ((feed gt h (r ++ p)).1, n + p.length, (feed gt h (r ++ p)).2) := rfl
    rw [e, shaAll_from gt ps _ _ _ (feed_len gt _ _ _ (Nat.le_refl _)), ← feed_app gt _ _ _ _ (Nat.le_refl _), List.flatten_cons, List.append_assoc, List.length_append, Nat.add_assoc]
/-- The sum hangs on the parts' bytes alone. -/
theorem sumV_flat (gt : Nat → Nat) (ps : List (List Nat)) : sumV gt ps = wordsB (feed gt iv0 (ps.flatten ++ tailV ps.flatten.length)).1 8 := by
  have h := shaAll_from gt ps iv0 0 [] (by show 0 < 64; decide)
  rw [List.nil_append, Nat.zero_add] at h
  rw [sumV, finV, shaAll, h, ← feed_app gt _ _ _ _ (Nat.le_refl _)]
theorem bit_be (m : Nat) : bitB m 8 = beL 8 m := rfl
theorem word_be (x : Nat) : wordB x = beL 4 x := by
  show [x / 2 ^ (min 24 32) % 256, x / 2 ^ (min 16 32) % 256, x / 2 ^ (min 8 32) % 256, x % 256] = [x / 2 ^ (8 * (4 - 1 - 0)) % 256, x / 2 ^ (8 * (4 - 1 - 1)) % 256, x / 2 ^ (8 * (4 - 1 - 2)) % 256, x / 2 ^ (8 * (4 - 1 - 3)) % 256]
  simp
theorem tail_mod (n : Nat) : (n + (tailV n).length) % 64 = 0 := by
  unfold tailV
  rw [List.length_append, padV_len, bitB_len]
  omega
theorem tailV_byte (n : Nat) : ∀ x ∈ tailV n, x < 256 := fun x hx => by
  rcases List.mem_append.1 hx with h | h
  · exact padV_byte n x h
  · exact bitB_byte _ _ x h
theorem tailV_len (n : Nat) : (tailV n).length ≤ 72 := by unfold tailV; rw [List.length_append, bitB_len, padV_len]; omega
theorem out_lt (h v : Nat → Nat) (n i : Nat) (hi : i < n) : outW h v n i < 4294967296 := by
  unfold outW
  rw [if_pos hi]
  exact Nat.mod_lt _ (by decide)
theorem iv0_lt : ∀ i, i < 8 → iv0 i < 4294967296 := by decide
theorem rflat_succ {ps : List (List Nat)} {i : Nat} {p : List Nat} (h : ps[i]? = some p) : (ps.take (i + 1)).flatten = (ps.take i).flatten ++ p := by
  rw [List.take_add_one, h, List.flatten_append]; simp
theorem flat_le (ps : List (List Nat)) (i : Nat) : (ps.take i).flatten.length ≤ ps.flatten.length := by
  have h := congrArg (fun l => l.flatten.length) (List.take_append_drop i ps)
  simp only [List.flatten_append, List.length_append] at h
  omega
theorem row_key (l : List Nat) : ca [.row 32 fun j => bv (l.getD j 0)] = ca [.key l] := rfl
theorem getD_snoc (l : List Nat) (z j : Nat) : upd (fun j => bv (l.getD j 0)) l.length (bv z) j = bv ((l ++ [z]).getD j 0) := by
  unfold upd
  by_cases h : j = l.length
  · subst h; simp
  · rw [if_neg h]
    show bv (l.getD j 0) = bv ((l ++ [z]).getD j 0)
    rw [List.getD_eq_getElem?_getD, List.getD_eq_getElem?_getD]
    by_cases h2 : j < l.length
    · rw [List.getElem?_append_left h2]
    · rw [List.getElem?_eq_none (by omega), List.getElem?_eq_none (by rw [List.length_append, List.length_singleton]; omega)]
theorem blockF_lt (gt h : Nat → Nat) (k : List Nat) : ∀ i, i < 8 → blockF gt h k i < 4294967296 := fun i hi => by
  unfold blockF; exact out_lt _ _ 8 i hi
theorem getD_lt {l : List Nat} (h : ∀ x ∈ l, x < 256) : ∀ i, l.getD i 0 < 256 := fun i => by
  rw [List.getD_eq_getElem?_getD]
  cases hq : l[i]? with
  | none => simp
  | some z => exact h z (List.mem_of_getElem? hq)
attribute [local irreducible] addW xorW andW orW shlW shrW mulW notW rorR blockF blockR beL
section
variable {X : List Nat} {w0 w : World} {A : Option Addr} {c : Nat} {k : List Nat} {Y : List Nat}
theorem txF_sub {lo hi : Nat} (h : St (TxF A c k) w Y) (hlo : lo ≤ hi) (hhi : hi ≤ k.length) : ∃ A' c', subSl A 1 lo hi c = .slice A' ((k.drop lo).take (hi - lo)).length c' ∧ St (TxF A' c' ((k.drop lo).take (hi - lo))) w Y := by
  obtain ⟨A', c', h1, h2⟩ := txF_drop (lo := lo) h (by omega)
  refine ⟨A', c', ?_, txF_take h2 (by rw [List.length_drop]; omega)⟩
  unfold subSl at h1 ⊢
  injection h1 with e1 e2 e3
  rw [e1, e3, List.length_take, List.length_drop, Nat.min_eq_left (by omega)]
theorem pk_remN {P : Program} {S : Nat → Prop} {ws : World} {l : List (Nat × Value)} {o : Oper} {t u : TypeId} {x y : Operand} {m n : Nat} (ho : o.op = .binOp .rem t x y u) (hx : ev l x = some (.int .i64 ((m : Nat) : Int))) (hy : ev l y = some (.int .i64 ((n : Nat) : Int))) (hn : n ≠ 0) : PK P S ws l o (.int .i64 ((m % n : Nat) : Int)) := by
  have h := pk_rem (S := S) (ws := ws) (P := P) ho hx hy (by omega)
  rwa [← Int.ofNat_tmod] at h
theorem bytes_tx (W n : Nat) (hW : W ≤ 8) (hn : n < 18446744073709551616) (hX : ∀ k ∈ X, k < w0.heap.size) :
    Calls Tryd.prog 33 #[.int .i64 W, .int .u64 n] w0 fun e w' => ∃ A' c', e = .returned (.slice A' (beL W n).length c') ∧ Sep X [] w0 w' [] [TxF A' c' (beL W n)] := by
  refine (Bytes_any W n hW hn w0).mono ?_
  rintro e w' ⟨v, rfl, ho, hb⟩
  obtain ⟨A', c', rfl, h1⟩ := own_sep hX ho hb
  exact ⟨A', c', rfl, h1.rowTx (Sep.new_x h1) (by rw [beL_len]; omega) (beL_lt _ _)⟩
theorem rcopy_own (hX : ∀ k ∈ X, k < w0.heap.size) (h : St (TxF A c k) w0 X) :
    Calls Tryd.prog 12 #[.slice A k.length c] w0 fun e w' => ∃ A' c', e = .returned (.slice A' k.length c') ∧ Sep X [] w0 w' [.row (.slice A' k.length c') 5 1 k.length (k.map bv)] [] := by
  have hn := h.now
  refine (Copy_any A k.length c k w0 hn.txt hn.len).mono ?_
  rintro e w' ⟨v, rfl, ho, hb⟩
  obtain ⟨A', c', rfl, h1⟩ := own_sep hX ho hb
  exact ⟨A', c', rfl, h1⟩
end
set_option maxRecDepth 100000 in
set_option maxHeartbeats 600000 in
theorem All_any {PA : Option Addr} {pc : Nat} {ps : List (List Nat)} {pm : Nat → TextT.μ} (hfl : ps.flatten.length ≤ 1000000000000) {X : List Nat} {w0 : World} (hX : ∀ k ∈ X, k < w0.heap.size) (hL : St (LiF TextT PA pc ps pm) w0 X) :
    Calls Tryd.prog 52 #[.slice PA ps.length pc] w0 fun e w' => ∃ A' c', e = .returned (.slice A' ps.flatten.length c') ∧ Sep X [] w0 w' [] [TxF A' c' ps.flatten] := by
  have hpsl := hL.now.big
  refine calls_env Tryd.ntmps52 Tryd.func52 rfl rfl fun a E => ?_
  replace E : Env a _ [(0, _)] := E
  have H : Sep X [] w0 w0 [] [(LiF TextT PA pc ps pm)] := Sep.start hX (List.forall_mem_cons.2 ⟨hL, fun _ h => by cases h⟩)
  refine wp_seq_k fun K0 hK0 => ?_
  refine S_region ?_
  refine S_val E (pk_assign rfl rfl) rfl rfl rfl ?_
  clear E a
  intro a E
  refine hK0 _ _ ?_
  refine wp_seq_k fun K1 hK1 => ?_
  refine S_region ?_
  refine S_val E (pk_assign rfl rfl) rfl rfl rfl ?_
  clear E a
  intro a E
  refine hK1 _ _ ?_
  refine wp_seq_k fun K2 hK2 => ?_
  refine wp_seq_k fun K3 hK3 => ?_
  refine S_region ?_
  refine S_val E (pk_move rfl rfl) rfl rfl rfl ?_
  clear E a
  intro a E
  refine S_val E (pk_len rfl rfl (by kernel_rfl)) rfl rfl rfl ?_
  clear E a
  intro a E
  refine S_val E (pk_move rfl rfl) rfl rfl rfl ?_
  clear E a
  intro a E
  refine hK3 _ _ ?_
  refine wp_block ?_
  refine S_loopI (γ := Nat × Option Addr × Nat) [6, 7] (fun g => [(3, .slice g.2.1 (ps.take g.1).flatten.length g.2.2), (8, .int .i64 (g.1 : Int))]) (fun g => [.row (.slice g.2.1 (ps.take g.1).flatten.length g.2.2) 5 1 (ps.take g.1).flatten.length ((ps.take g.1).flatten.map bv)]) (fun g => [LiF TextT PA pc ps pm]) (fun g => g.1 ≤ ps.length ∧ ∀ x ∈ (ps.take g.1).flatten, x < 256) (fun g => ps.length - g.1) ((0, none, 0)) E (H.rownil _ _) (by repeat (first | exact trivial | refine ⟨rfl, ?_⟩)) (⟨Nat.zero_le _, fun x hx => by cases hx⟩) ?_
  clear E H
  intro g a w E H hφ
  replace E : Env a _ [(3, _), (8, _), (6, _), (7, _)] := E
  replace H : Sep _ _ _ _ [_] [_] := H
  obtain ⟨i, Ag, cg⟩ := g
  simp only at E H hφ ⊢
  obtain ⟨hi, hib⟩ := hφ
  refine wp_seq_k fun K4 hK4 => ?_
  refine S_region ?_
  refine S_val E (pk_int rfl rfl rfl rfl) rfl rfl rfl ?_
  clear E a
  intro a E
  refine hK4 _ _ ?_
  refine wp_seq_k fun K5 hK5 => ?_
  refine env_split (d := 9) E rfl ?_ ?_
  · skip
    clear E
    intro c9 E
    have hik : i < ps.length := by have := c9; simp only [decide_eq_true_eq] at this; omega
    have hx0 : ps[i]? = some ps[i] := List.getElem?_eq_getElem hik
    have hle := flat_le ps (i + 1)
    rw [rflat_succ hx0, List.length_append] at hle
    refine S_then E rfl ?_
    refine wp_skip ?_
    refine hK5 _ _ ?_
    refine wp_seq_k fun K6 hK6 => ?_
    refine wp_block ?_
    refine wp_seq_k fun K7 hK7 => ?_
    refine S_region ?_
    obtain ⟨ad10, hA10, hc10, hn10⟩ := LiF.get (A := PA) (T := TextT) (i := i) (x := ps[i]) (by exact H.fact 0 rfl) hx0
    refine S_val E (pk_elA (sz := 1) hA10 rfl (by kernel_rfl) rfl rfl rfl (by omega)) rfl rfl rfl ?_
    clear E a
    intro a E
    replace H := (H.know hn10).know hc10
    clear hn10 hc10
    replace H : Sep _ _ _ _ _ [_, _, _] := H
    first | (refine S_val E (pk_load1 H 0 rfl rfl rfl trivial rfl (by kernel_rfl)) rfl rfl rfl ?_; trace "@@All_any:0:0") | (refine S_val E (pk_loadF1 (H.fact 0 rfl) (fun _ _ _ => trivial) rfl rfl rfl (by kernel_rfl)) rfl rfl rfl ?_; trace "@@All_any:0:1") | (refine S_val E (pk_loadF1 (H.fact 1 rfl) (fun _ _ _ => trivial) rfl rfl rfl (by kernel_rfl)) rfl rfl rfl ?_; trace "@@All_any:0:2") | (refine S_val E (pk_loadF1 (H.fact 2 rfl) (fun _ _ _ => trivial) rfl rfl rfl (by kernel_rfl)) rfl rfl rfl ?_; trace "@@All_any:0:3") | (refine S_val E (pk_loadE1 (H.fact 0 rfl) (fun _ _ _ => trivial) rfl rfl rfl (by kernel_rfl)) rfl rfl rfl ?_; trace "@@All_any:0:4") | (refine S_val E (pk_loadE1 (H.fact 1 rfl) (fun _ _ _ => trivial) rfl rfl rfl (by kernel_rfl)) rfl rfl rfl ?_; trace "@@All_any:0:5") | (refine S_val E (pk_loadE1 (H.fact 2 rfl) (fun _ _ _ => trivial) rfl rfl rfl (by kernel_rfl)) rfl rfl rfl ?_; trace "@@All_any:0:6")
    clear E a
    intro a E
    refine S_val E (pk_assign rfl rfl) rfl rfl rfl ?_
    clear E a
    intro a E
    refine hK7 _ _ ?_
    refine S_region ?_
    refine S_val E (pk_move rfl rfl) rfl rfl rfl ?_
    clear E a
    intro a E
    refine S_val E (pk_move rfl rfl) rfl rfl rfl ?_
    clear E a
    intro a E
    refine S_eff E rfl (fun K hK => ?_)
    refine eff_appT (k := (ps.take i).flatten) (m := ps[i]) 0 E H (H.fact 1 rfl) rfl rfl rfl rfl ⟨Tryd.underlying24, by kernel_rfl⟩ (by omega) ?_
    clear H
    intro A14 c14 w H F
    replace H : Sep _ _ _ _ [_] _ := H
    refine hK _ _ ?_
    clear hK K
    refine S_put E rfl rfl ?_
    clear E a
    intro a E
    clear F
    refine S_val E (pk_assign rfl rfl) rfl rfl rfl ?_
    clear E a
    intro a E
    refine hK6 _ _ ?_
    refine S_region ?_
    refine S_val E (pk_intw rfl rfl rfl rfl (wI64 (by omega) (by omega))) rfl rfl rfl ?_
    clear E a
    intro a E
    refine S_val E (pk_move rfl rfl) rfl rfl rfl ?_
    clear E a
    intro a E
    have hpb : ∀ x ∈ ps[i], x < 256 := (St.now (H.fact 1 rfl : St (TxF (pm i).1 (pm i).2 ps[i]) w _)).byt
    rw [← rflat_succ hx0] at E H
    refine loop_end ?_
    exact ⟨(i + 1, A14, c14), ⟨E.to (by repeat (first | exact trivial | refine ⟨rfl, ?_⟩)), H.pop.pop, ⟨by show i + 1 ≤ ps.length; omega, fun x hx => by rw [rflat_succ hx0] at hx; rcases List.mem_append.1 hx with h1 | h1; exact hib x h1; exact hpb x h1⟩⟩, by show ps.length - (i + 1) < ps.length - i; omega⟩
  · skip
    clear E
    intro c9 E
    obtain rfl : i = ps.length := by have := c9; simp only [decide_eq_false_iff_not] at this; omega
    rw [List.take_length] at E H hib
    refine S_else E rfl ?_
    refine wp_exit ?_
    repeat (first | refine then_exit ?_ | refine block_hit ?_ | refine block_miss (by decide) ?_)
    refine hK2 _ _ ?_
    refine wp_seq_k fun K8 hK8 => ?_
    refine S_region ?_
    refine S_val E (pk_move rfl rfl) rfl rfl rfl ?_
    clear E a
    intro a E
    refine S_val E (pk_assign rfl rfl) rfl rfl rfl ?_
    clear E a
    intro a E
    refine hK8 _ _ ?_
    refine wp_ret ?_
    repeat (first | refine then_ret ?_ | refine block_ret ?_)
    refine ret1 rfl E (resT rfl) ?_
    have hT := H.rowTx (Sep.new_x H) (by omega) hib
    exact ⟨Ag, cg, rfl, hT.refacts (List.forall_mem_cons.2 ⟨hT.fact 0 rfl, List.forall_mem_nil _⟩)⟩
set_option maxRecDepth 100000 in
set_option maxHeartbeats 600000 in
theorem Padded_any {A : Option Addr} {c : Nat} {k : List Nat} (hkl : k.length ≤ 1000000000000) {X : List Nat} {w0 : World} (hX : ∀ k ∈ X, k < w0.heap.size) (hk : St (TxF A c k) w0 X) :
    Calls Tryd.prog 67 #[.slice A k.length c] w0 fun e w' => ∃ A' c', e = .returned (.slice A' (k ++ tailV k.length).length c') ∧ Sep X [] w0 w' [] [TxF A' c' (k ++ tailV k.length)] := by
  refine calls_env Tryd.ntmps67 Tryd.func67 rfl rfl fun a E => ?_; replace E : Env a _ [(0, _)] := E
  have H : Sep X [] w0 w0 [] [(TxF A c k)] := Sep.start hX (List.forall_mem_cons.2 ⟨hk, fun _ h => by cases h⟩)
  refine wp_seq_k fun K0 hK0 => ?_; refine S_region ?_; refine S_val E (pk_assign rfl rfl) rfl rfl rfl ?_; clear E a; intro a E; refine hK0 _ _ ?_; refine wp_seq_k fun K1 hK1 => ?_; refine S_region ?_; refine S_val E (pk_move rfl rfl) rfl rfl rfl ?_; clear E a; intro a E; refine S_eff E rfl (fun K hK => ?_); refine eff_call E rfl rfl rfl (by kernel_rfl) ?_; refine (rcopy_own H.xk (H.fact 0 rfl)).mono ?_; rintro e w ⟨A5, c5, rfl, H1⟩
  replace H := H.call H1
  clear H1; replace H : Sep _ _ _ _ [_] [_] := H; refine hK _ _ ?_; clear hK K; refine S_put E rfl rfl ?_; clear E a; intro a E; refine S_eff E rfl (fun K hK => ?_); refine eff_bslice (sz := 1) (z := [.one (.int .u8 0)]) E H rfl Tryd.underlying24 (by kernel_rfl) (by decide) (by kernel_rfl) ⟨_, [.one _], 0, _, rfl, rfl, rfl, rfl, rfl⟩ ?_; clear H; intro b6 w H _; refine hK _ _ ?_; clear hK K; refine S_put E rfl rfl ?_; clear E a; intro a E; refine S_eff E rfl (fun K hK => ?_); refine eff_appB (k := k) (z := 128) 1 0 E H rfl rfl rfl rfl rfl ⟨Tryd.underlying24, by kernel_rfl⟩ (by omega) ?_; clear H; intro A7 c7 w H F; replace H : Sep _ _ _ _ [_, _] _ := H; refine hK _ _ ?_; clear hK K; refine S_put E rfl rfl ?_; clear E a; intro a E; clear F; refine S_val E (pk_assign rfl rfl) rfl rfl rfl ?_; clear E a; intro a E; refine hK1 _ _ ?_; refine wp_seq_k fun K2 hK2 => ?_
  refine wp_block ?_; refine S_loopI (γ := Nat × Option Addr × Nat) [0] (fun g => [(3, .slice g.2.1 (k ++ 128 :: List.replicate g.1 0).length g.2.2)]) (fun g => [.row (.slice g.2.1 (k ++ 128 :: List.replicate g.1 0).length g.2.2) 5 1 (k ++ 128 :: List.replicate g.1 0).length ((k ++ 128 :: List.replicate g.1 0).map bv)]) (fun g => [TxF A c k]) (fun g => g.1 ≤ 63 - (k.length + 8) % 64) (fun g => 64 - g.1) ((0, A7, c7)) E H.popL (by repeat (first | exact trivial | refine ⟨rfl, ?_⟩)) (Nat.zero_le _) ?_; clear E H; intro g a w E H hφ; replace E : Env a _ [(3, _), (0, _)] := E; replace H : Sep _ _ _ _ [_] [_] := H
  obtain ⟨j, Ag, cg⟩ := g
  simp only at E H hφ ⊢
  have hjl : (k ++ 128 :: List.replicate j 0).length = k.length + 1 + j := by rw [List.length_append, List.length_cons, List.length_replicate]; omega
  refine wp_seq_k fun K3 hK3 => ?_; refine wp_seq_k fun K4 hK4 => ?_; refine S_region ?_; refine S_val E (pk_move rfl rfl) rfl rfl rfl ?_; clear E a; intro a E; refine S_val E (pk_len rfl rfl (by kernel_rfl)) rfl rfl rfl ?_; clear E a; intro a E; refine S_val E (pk_remN (n := 64) rfl rfl rfl (by decide)) rfl rfl rfl ?_; clear E a; intro a E; refine S_val E (pk_int rfl rfl rfl rfl) rfl rfl rfl ?_; clear E a; intro a E; refine hK4 _ _ ?_; refine env_split (d := 11) E rfl ?_ ?_
  · skip
    clear E; intro c11 E
    have hne : k.length + 1 + j - (k.length + 1 + j) / 64 * 64 ≠ 56 := by
      have h := c11
      rw [bne_iff_ne, hjl] at h
      omega
    refine S_then E rfl ?_; refine wp_skip ?_; refine hK3 _ _ ?_; refine wp_block ?_; refine S_region ?_; refine S_val E (pk_move rfl rfl) rfl rfl rfl ?_; clear E a; intro a E; refine S_eff E rfl (fun K hK => ?_); refine eff_bslice (sz := 1) (z := [.one (.int .u8 0)]) E H rfl Tryd.underlying24 (by kernel_rfl) (by decide) (by kernel_rfl) ⟨_, [.one _], 0, _, rfl, rfl, rfl, rfl, rfl⟩ ?_; clear H; intro b13 w H _; refine hK _ _ ?_; clear hK K; refine S_put E rfl rfl ?_; clear E a; intro a E; refine S_eff E rfl (fun K hK => ?_); refine eff_appB (k := (k ++ 128 :: List.replicate j 0)) (z := 0) 1 0 E H rfl rfl rfl rfl rfl ⟨Tryd.underlying24, by kernel_rfl⟩ (by omega) ?_; clear H; intro A14 c14 w H F; replace H : Sep _ _ _ _ [_, _] _ := H; refine hK _ _ ?_; clear hK K; refine S_put E rfl rfl ?_; clear E a; intro a E; clear F
    refine S_val E (pk_assign rfl rfl) rfl rfl rfl ?_; clear E a; intro a E
    rw [show (k ++ 128 :: List.replicate j 0) ++ [0] = (k ++ 128 :: List.replicate (j + 1) 0) from by rw [List.replicate_succ', List.append_assoc]; rfl] at E H
    refine block_norm (loop_end ?_)
    exact ⟨(j + 1, A14, c14), ⟨E.to (by repeat (first | exact trivial | refine ⟨rfl, ?_⟩)), H.popL, by show j + 1 ≤ 63 - (k.length + 8) % 64; omega⟩, by show 64 - (j + 1) < 64 - j; omega⟩
  · skip
    clear E; intro c11 E
    have heq : (k.length + 1 + j) % 64 = 56 := by
      have h := c11
      rw [bne_eq_false_iff_eq, hjl] at h
      omega
    obtain rfl : j = 63 - (k.length + 8) % 64 := by omega
    refine S_else E rfl ?_; refine wp_exit ?_
    repeat (first | refine then_exit ?_ | refine block_hit ?_ | refine block_miss (by decide) ?_)
    refine hK2 _ _ ?_; refine wp_seq_k fun K5 hK5 => ?_; refine S_region ?_; refine S_val E (pk_move rfl rfl) rfl rfl rfl ?_; clear E a; intro a E; refine S_val E (pk_move rfl rfl) rfl rfl rfl ?_; clear E a; intro a E; refine S_val E (pk_len rfl rfl (by kernel_rfl)) rfl rfl rfl ?_; clear E a; intro a E; refine S_val E (pk_convw rfl rfl (by kernel_rfl) (by kernel_rfl) (wU64 (by omega) (by omega))) rfl rfl rfl ?_; clear E a; intro a E; refine S_val E (pk_intw rfl rfl rfl rfl (wU64 (by omega) (by omega))) rfl rfl rfl ?_; clear E a; intro a E
    rw [show (8 : Int) * ((k.length : Nat) : Int) = ((8 * k.length : Nat) : Int) from by omega] at E
    refine S_eff E rfl (fun K hK => ?_); refine eff_call E rfl rfl rfl (by kernel_rfl) ?_; refine (bytes_tx 8 (8 * k.length) (by decide) (by omega) H.xk).mono ?_; rintro e w ⟨A20, c20, rfl, H1⟩
    replace H := H.call H1
    clear H1; replace H : Sep _ _ _ _ [_] [_, _] := H; refine hK _ _ ?_; clear hK K; refine S_put E rfl rfl ?_; clear E a; intro a E; refine S_eff E rfl (fun K hK => ?_); refine eff_appT (k := (k ++ 128 :: List.replicate (63 - (k.length + 8) % 64) 0)) (m := beL 8 (8 * k.length)) 0 E H (H.fact 0 rfl) rfl rfl rfl rfl ⟨Tryd.underlying24, by kernel_rfl⟩ (by rw [hjl, beL_len]; omega) ?_; clear H; intro A21 c21 w H F; replace H : Sep _ _ _ _ [_] _ := H; refine hK _ _ ?_; clear hK K; refine S_put E rfl rfl ?_; clear E a; intro a E; clear F; refine S_val E (pk_assign rfl rfl) rfl rfl rfl ?_; clear E a; intro a E; refine hK5 _ _ ?_; refine wp_ret ?_
    repeat (first | refine then_ret ?_ | refine block_ret ?_)
    refine ret1 rfl E (resT rfl) ?_
    have et : (k ++ 128 :: List.replicate (63 - (k.length + 8) % 64) 0) ++ beL 8 (8 * k.length) = k ++ tailV k.length := by
      rw [tailV, padV, bit_be, show k.length * 2 ^ 3 % 18446744073709551616 = 8 * k.length from by omega, List.append_assoc]
    rw [et] at H
    have hT := H.rowTx (Sep.new_x H) (by have := tailV_len k.length; rw [List.length_append]; omega) (fun x hx => by rcases List.mem_append.1 hx with h1 | h1; exact hk.now.byt x h1; exact tailV_byte _ x h1)
    exact ⟨A21, c21, by rw [et], hT.refacts (List.forall_mem_cons.2 ⟨hT.fact 0 rfl, List.forall_mem_nil _⟩)⟩
set_option maxRecDepth 100000 in
set_option maxHeartbeats 400000 in
theorem RFirst_any  {X : List Nat} {w0 : World} (hX : ∀ k ∈ X, k < w0.heap.size) :
    Calls Tryd.prog 68 #[] w0 fun e w' => e = .returned (.agg (ca [.row 8 (fun i => u32 (iv0 i))])) ∧ Sep X [] w0 w' [] [] := by
  refine calls_env Tryd.ntmps68 Tryd.func68 rfl rfl fun a E => ?_; replace E : Env a _ [] := E
  have H : Sep X [] w0 w0 [] [] := Sep.start hX (fun _ h => by cases h)
  refine wp_seq_k fun K0 hK0 => ?_; refine S_region ?_; refine S_eff E rfl (fun K hK => ?_); refine eff_alloc (z := [.row 8 fun _ => .int .u32 0]) H rfl (by kernel_rfl) ?_; clear H; intro b0 w H _; refine hK _ _ ?_; clear hK K; refine S_put E rfl rfl ?_; clear E a; intro a E; refine hK0 _ _ ?_; refine wp_seq_k fun K1 hK1 => ?_; refine S_region ?_
  refine S_val E (pk_build8 (n := 8) (z := [.one (.int .u32 0), .one (.int .u32 0), .one (.int .u32 0), .one (.int .u32 0), .one (.int .u32 0), .one (.int .u32 0), .one (.int .u32 0), .one (.int .u32 0)]) (f := fun i => u32 (iv0 i)) rfl (by kernel_rfl) (by kernel_rfl) (⟨_, [.one _], 0, _, rfl, rfl, rfl, rfl, ⟨_, [.one _], 1, _, rfl, rfl, rfl, rfl, ⟨_, [.one _], 2, _, rfl, rfl, rfl, rfl, ⟨_, [.one _], 3, _, rfl, rfl, rfl, rfl, ⟨_, [.one _], 4, _, rfl, rfl, rfl, rfl, ⟨_, [.one _], 5, _, rfl, rfl, rfl, rfl, ⟨_, [.one _], 6, _, rfl, rfl, rfl, rfl, ⟨_, [.one _], 7, _, rfl, rfl, rfl, rfl, rfl⟩⟩⟩⟩⟩⟩⟩⟩) rfl) rfl rfl rfl ?_; clear E a; intro a E; refine S_eff E rfl (fun K hK => ?_); refine eff_store 0 E H rfl rfl rfl rfl rfl (by repeat (first | exact trivial | refine ⟨rfl, ?_⟩ | refine ⟨fun _ _ => rfl, ?_⟩)) rfl (by kernel_rfl) rfl ?_; clear H; intro w H _; replace H : Sep _ _ _ _ [_] _ := H
  refine hK _ _ ?_; clear hK K; refine S_put0 rfl ?_; refine hK1 _ _ ?_; refine wp_ret ?_
  repeat (first | refine then_ret ?_ | refine block_ret ?_)
  refine ret1 rfl E (by exact resC (n := 8) H 0 rfl rfl rfl (by kernel_rfl)) ?_
  exact ⟨rfl, H.popL⟩
set_option maxRecDepth 100000 in
set_option maxHeartbeats 1000000 in
theorem KeyB_any {h : Nat → Nat} (hh : ∀ i, i < 8 → h i < 4294967296) {X : List Nat} {w0 : World} (hX : ∀ k ∈ X, k < w0.heap.size) :
    Calls Tryd.prog 70 #[.agg (ca [.row 8 fun i => u32 (h i)])] w0 fun e w' => e = .returned (.agg (ca [.key (wordsB h 8)])) ∧ Sep X [] w0 w' [] [] := by
  refine calls_env Tryd.ntmps70 Tryd.func70 rfl rfl fun a E => ?_; replace E : Env a _ [(0, _)] := E
  have H : Sep X [] w0 w0 [] [] := Sep.start hX (fun _ h => by cases h)
  refine wp_seq_k fun K0 hK0 => ?_; refine S_region ?_; refine S_eff E rfl (fun K hK => ?_); refine eff_box E H rfl rfl rfl ?_; clear H; intro b1 w H _; refine hK _ _ ?_; clear hK K; refine S_put E rfl rfl ?_; clear E a; intro a E; refine S_eff E rfl (fun K hK => ?_); refine eff_alloc (z := [.key []]) H rfl (by kernel_rfl) ?_; clear H; intro b2 w H _; refine hK _ _ ?_; clear hK K; refine S_put E rfl rfl ?_; clear E a; intro a E; refine hK0 _ _ ?_; refine wp_seq_k fun K1 hK1 => ?_; refine S_region ?_; refine S_eff E rfl (fun K hK => ?_); refine eff_alloc (z := [.key []]) H rfl (by kernel_rfl) ?_; clear H; intro b3 w H _; refine hK _ _ ?_; clear hK K; refine S_put E rfl rfl ?_; clear E a; intro a E; refine hK1 _ _ ?_; refine wp_seq_k fun K2 hK2 => ?_; refine wp_seq_k fun K3 hK3 => ?_; refine S_region ?_
  refine S_val E (pk_load (n := 8) H 2 rfl rfl rfl trivial rfl (by kernel_rfl)) rfl rfl rfl ?_; clear E a; intro a E; refine S_val E (pk_move rfl rfl) rfl rfl rfl ?_; clear E a; intro a E; refine hK3 _ _ ?_; refine wp_block ?_; refine S_loopI (γ := Nat) [2, 3, 8] (fun i => [(9, .int .i64 (i : Int))]) (fun i => [.blk b3 (ca [.row 32 fun j => bv ((wordsB h i).getD j 0)]) 23, .blk b2 (ca [.key []]) 23, .blk b1 (ca [.row 8 fun i => u32 (h i)]) 101 ]) (fun i => []) (fun i => i ≤ 8) (fun i => 8 - i) (0) E H (by repeat (first | exact trivial | refine ⟨rfl, ?_⟩)) (by omega) ?_; clear E H; intro i a w E H hφ; replace E : Env a _ [(9, _), (2, _), (3, _), (8, _)] := E; replace H : Sep _ _ _ _ [_, _, _] [] := H; refine wp_seq_k fun K4 hK4 => ?_; refine S_region ?_; refine S_val E (pk_int rfl rfl rfl rfl) rfl rfl rfl ?_; clear E a; intro a E; refine hK4 _ _ ?_
  refine wp_seq_k fun K5 hK5 => ?_; refine env_split (d := 10) E rfl ?_ ?_
  · skip
    clear E; intro c10 E
    have hi8 : i < 8 := by have := c10; simp only [decide_eq_true_eq] at this; omega
    have hhi := hh i hi8
    have hbl : (beL 4 (h i)).length = 4 := beL_len 4 _
    have hwl : (wordsB h i).length = 4 * i := wordsB_len h i
    refine S_then E rfl ?_; refine wp_skip ?_; refine hK5 _ _ ?_; refine wp_seq_k fun K6 hK6 => ?_; refine wp_block ?_; refine wp_seq_k fun K7 hK7 => ?_; refine S_region ?_; refine S_val E (pk_move rfl rfl) rfl rfl rfl ?_; clear E a; intro a E; refine S_val E (pk_index (i := i) rfl (by kernel_rfl) rfl rfl rfl hi8) rfl rfl rfl ?_; clear E a; intro a E; refine S_val E (pk_assign rfl rfl) rfl rfl rfl ?_; clear E a; intro a E; refine S_val E (pk_assign rfl rfl) rfl rfl rfl ?_; clear E a; intro a E; refine hK7 _ _ ?_; refine wp_seq_k fun K8 hK8 => ?_; refine S_region ?_; refine S_val E (pk_move rfl rfl) rfl rfl rfl ?_; clear E a; intro a E; refine S_val E (pk_convw rfl rfl (by kernel_rfl) (by kernel_rfl) (wU64 (by omega) (by omega))) rfl rfl rfl ?_; clear E a; intro a E; refine S_eff E rfl (fun K hK => ?_); refine eff_call E rfl rfl rfl (by kernel_rfl) ?_
    refine (bytes_tx 4 (h i) (by decide) (by omega) H.xk).mono ?_; rintro e w ⟨A15, c15, rfl, H1⟩
    replace H := H.call H1
    clear H1; replace H : Sep _ _ _ _ [_, _, _] [_] := H; refine hK _ _ ?_; clear hK K; refine S_put E rfl rfl ?_; clear E a; intro a E; refine S_val E (pk_len rfl rfl (by kernel_rfl)) rfl rfl rfl ?_; clear E a; intro a E; refine S_val E (pk_move rfl rfl) rfl rfl rfl ?_; clear E a; intro a E; refine hK8 _ _ ?_; refine wp_block ?_; refine S_loopI (γ := Nat) [2, 3, 4, 8, 9, 15, 16] (fun m => [(17, .int .i64 (m : Int))]) (fun m => [.blk b3 (ca [.row 32 fun j => bv ((wordsB h i ++ (beL 4 (h i)).take m).getD j 0)]) 23, .blk b2 (ca [.key []]) 23, .blk b1 (ca [.row 8 fun i => u32 (h i)]) 101 ]) (fun m => [TxF A15 c15 (beL 4 (h i))]) (fun m => m ≤ 4) (fun m => 4 - m) (0) E (by rw [List.take_zero, List.append_nil]; exact H) (by repeat (first | exact trivial | refine ⟨rfl, ?_⟩)) (by omega) ?_; clear E H; intro m a w E H hφ
    replace E : Env a _ [(17, _), (2, _), (3, _), (4, _), (8, _), (9, _), (15, _), (16, _)] := E; replace H : Sep _ _ _ _ [_, _, _] [_] := H; refine wp_seq_k fun K9 hK9 => ?_; refine S_region ?_; refine S_val E (pk_int rfl rfl rfl rfl) rfl rfl rfl ?_; clear E a; intro a E; refine hK9 _ _ ?_; refine wp_seq_k fun K10 hK10 => ?_; refine env_split (d := 18) E rfl ?_ ?_
    · skip
      clear E; intro c18 E
      have hm4 : m < 4 := by have := c18; simp only [decide_eq_true_eq] at this; omega
      obtain ⟨z, hz⟩ : ∃ z, (beL 4 (h i))[m]? = some z := ⟨_, List.getElem?_eq_getElem (by omega)⟩
      have hlm : (wordsB h i ++ (beL 4 (h i)).take m).length = 4 * i + m := by rw [List.length_append, hwl, List.length_take]; omega
      refine S_then E rfl ?_; refine wp_skip ?_; refine hK10 _ _ ?_; refine wp_seq_k fun K11 hK11 => ?_; refine wp_block ?_; refine wp_seq_k fun K12 hK12 => ?_; refine S_region ?_; refine S_val E (pk_move rfl rfl) rfl rfl rfl ?_; clear E a; intro a E
      obtain ⟨ad, hA⟩ : ∃ ad, A15 = some ad := by
        cases hq : A15 with
        | some ad => exact ⟨ad, rfl⟩
        | none => have := ((St.now (H.fact 0 rfl)).nil hq).1; omega
      refine S_val E (pk_elA (sz := 1) (i := m) hA rfl (by kernel_rfl) rfl rfl rfl (by omega)) rfl rfl rfl ?_; clear E a; intro a E; refine S_val E (pk_byte (H.fact 0 rfl) (fun _ _ _ => trivial) hA rfl rfl hz (by kernel_rfl)) rfl rfl rfl ?_; clear E a; intro a E; refine S_val E (pk_assign rfl rfl) rfl rfl rfl ?_; clear E a; intro a E; refine S_val E (pk_assign rfl rfl) rfl rfl rfl ?_; clear E a; intro a E; refine hK12 _ _ ?_; refine S_region ?_; refine S_val E (pk_move rfl rfl) rfl rfl rfl ?_; clear E a; intro a E; refine S_val E (pk_intw rfl rfl rfl rfl (wI64 (by omega) (by omega))) rfl rfl rfl ?_; clear E a; intro a E; refine S_val E (pk_move rfl rfl) rfl rfl rfl ?_; clear E a; intro a E; refine S_val E (pk_intw rfl rfl rfl rfl (wI64 (by omega) (by omega))) rfl rfl rfl ?_; clear E a; intro a E; refine S_val E (pk_move rfl rfl) rfl rfl rfl ?_; clear E a; intro a E
      refine S_val E (pk_elP1 (M := 32) (i := 4 * i + m) rfl (by kernel_rfl) rfl rfl (by omega) (by omega)) rfl rfl rfl ?_; clear E a; intro a E; refine S_eff E rfl (fun K hK => ?_); refine eff_storeRowF (off := 0) (fun j => bv ((wordsB h i ++ (beL 4 (h i)).take (m + 1)).getD j 0)) 0 E H rfl rfl rfl (show 4 * i + m < 32 by omega) rfl rfl rfl rfl rfl rfl (by kernel_rfl) (fun j => by rw [← hlm, getD_snoc, List.append_assoc, List.take_add_one, hz]; rfl) rfl ?_; clear H; intro w H F; replace H : Sep _ _ _ _ [_, _, _] _ := H; refine hK _ _ ?_; clear hK K; refine S_put0 rfl ?_; clear F; refine hK11 _ _ ?_; refine S_region ?_; refine S_val E (pk_intw rfl rfl rfl rfl (wI64 (by omega) (by omega))) rfl rfl rfl ?_; clear E a; intro a E; refine S_val E (pk_move rfl rfl) rfl rfl rfl ?_; clear E a; intro a E; refine loop_end ?_
      exact ⟨m + 1, ⟨E.to (by repeat (first | exact trivial | refine ⟨rfl, ?_⟩)), H, by omega⟩, by omega⟩
    · skip
      clear E; intro c18 E
      obtain rfl : m = 4 := by have := c18; simp only [decide_eq_false_iff_not] at this; omega
      rw [show wordsB h i ++ (beL 4 (h i)).take 4 = wordsB h (i + 1) from by rw [List.take_of_length_le (by omega), ← word_be, wordsB_succ]] at H
      refine S_else E rfl ?_; refine wp_exit ?_
      repeat (first | refine then_exit ?_ | refine block_hit ?_ | refine block_miss (by decide) ?_)
      refine hK6 _ _ ?_; refine S_region ?_; refine S_val E (pk_intw rfl rfl rfl rfl (wI64 (by omega) (by omega))) rfl rfl rfl ?_; clear E a; intro a E; refine S_val E (pk_move rfl rfl) rfl rfl rfl ?_; clear E a; intro a E; refine loop_end ?_
      exact ⟨i + 1, ⟨E.to (by repeat (first | exact trivial | refine ⟨rfl, ?_⟩)), H.pop, by omega⟩, by omega⟩
  · skip
    clear E; intro c10 E
    obtain rfl : i = 8 := by have := c10; simp only [decide_eq_false_iff_not] at this; omega
    refine S_else E rfl ?_; refine wp_exit ?_
    repeat (first | refine then_exit ?_ | refine block_hit ?_ | refine block_miss (by decide) ?_)
    refine hK2 _ _ ?_; refine wp_seq_k fun K13 hK13 => ?_
    rw [row_key] at H
    refine S_region ?_; refine S_val E (pk_load (n := 32) H 0 rfl rfl rfl trivial rfl (by kernel_rfl)) rfl rfl rfl ?_; clear E a; intro a E; refine S_eff E rfl (fun K hK => ?_); refine eff_store 1 E H rfl rfl rfl rfl rfl (by repeat (first | exact trivial | refine ⟨rfl, ?_⟩ | refine ⟨fun _ _ => rfl, ?_⟩)) rfl (by kernel_rfl) rfl ?_; clear H; intro w H _; replace H : Sep _ _ _ _ [_, _, _] _ := H; refine hK _ _ ?_; clear hK K; refine S_put0 rfl ?_; refine hK13 _ _ ?_; refine wp_ret ?_
    repeat (first | refine then_ret ?_ | refine block_ret ?_)
    refine ret1 rfl E (by exact resC (n := 32) H 1 rfl rfl rfl (by kernel_rfl)) ?_
    exact ⟨rfl, H.popL.popL.popL⟩
set_option maxRecDepth 100000 in
set_option maxHeartbeats 1000000 in
theorem RSum_any {PA : Option Addr} {pc : Nat} {ps : List (List Nat)} {pm : Nat → TextT.μ} {gt : Nat → Nat} (hfl : ps.flatten.length ≤ 100000000000) {X : List Nat} {w0 : World} (hX : ∀ k ∈ X, k < w0.heap.size) (hL : St (LiF TextT PA pc ps pm) w0 X) (hG : St (AtC ⟨1, 0, none⟩ [.row 64 fun i => u32 (gt i)]) w0 X) :
    Calls Tryd.prog 50 #[.slice PA ps.length pc] w0 fun e w' => e = .returned (.agg (ca [.key (sumV gt ps)])) ∧ Sep X [] w0 w' [] [] := by
  have htl := tailV_len ps.flatten.length
  have htm := tail_mod ps.flatten.length
  have htb : ∀ x ∈ (ps.flatten ++ tailV ps.flatten.length), x < 256 := fun x hx => by
    rcases List.mem_append.1 hx with h1 | h1
    · obtain ⟨p, hp, hx⟩ := List.mem_flatten.1 h1
      obtain ⟨q, hq⟩ := List.mem_iff_getElem?.1 hp
      obtain ⟨_, _, _, h3⟩ := LiF.get hL hq
      exact (St.now h3 : TxF _ _ _ _).byt x hx
    · exact tailV_byte _ x h1
  have hPl : (ps.flatten ++ tailV ps.flatten.length).length = ps.flatten.length + (tailV ps.flatten.length).length := List.length_append ..
  refine calls_env Tryd.ntmps50 Tryd.func50 rfl rfl fun a E => ?_
  replace E : Env a _ [(0, _)] := E
  have H : Sep X [] w0 w0 [] [(LiF TextT PA pc ps pm), (AtC ⟨1, 0, none⟩ [.row 64 fun i => u32 (gt i)])] := Sep.start hX (List.forall_mem_cons.2 ⟨hL, List.forall_mem_cons.2 ⟨hG, fun _ h => by cases h⟩⟩)
  refine wp_seq_k fun K0 hK0 => ?_
  refine S_region ?_
  refine S_eff E rfl (fun K hK => ?_)
  refine eff_alloc (z := [.key []]) H rfl (by kernel_rfl) ?_
  clear H
  intro b2 w H _
  refine hK _ _ ?_
  clear hK K
  refine S_put E rfl rfl ?_
  clear E a
  intro a E
  refine hK0 _ _ ?_
  refine wp_seq_k fun K1 hK1 => ?_
  refine S_region ?_
  refine S_val E (pk_move rfl rfl) rfl rfl rfl ?_
  clear E a
  intro a E
  refine S_eff E rfl (fun K hK => ?_)
  refine eff_call E rfl rfl rfl (by kernel_rfl) ?_
  refine (All_any (by omega) H.xk (H.fact 0 rfl)).mono ?_
  rintro e w ⟨A7, c7, rfl, H1⟩
  replace H := H.call H1
  clear H1
  replace H : Sep _ _ _ _ [_] [_, _, _] := H
  refine hK _ _ ?_
  clear hK K
  refine S_put E rfl rfl ?_
  clear E a
  intro a E
  refine S_eff E rfl (fun K hK => ?_)
  refine eff_call E rfl rfl rfl (by kernel_rfl) ?_
  refine (Padded_any (k := ps.flatten) (by omega) H.xk (H.fact 0 rfl)).mono ?_
  rintro e w ⟨A8, c8, rfl, H1⟩
  replace H := H.call H1
  clear H1
  replace H : Sep _ _ _ _ [_] [_, _, _, _] := H
  refine hK _ _ ?_
  clear hK K
  refine S_put E rfl rfl ?_
  clear E a
  intro a E
  refine S_val E (pk_assign rfl rfl) rfl rfl rfl ?_
  clear E a
  intro a E
  refine hK1 _ _ ?_
  refine wp_seq_k fun K2 hK2 => ?_
  refine S_region ?_
  refine S_eff E rfl (fun K hK => ?_)
  refine eff_call E rfl rfl rfl (by kernel_rfl) ?_
  refine (RFirst_any H.xk).mono ?_
  rintro e w ⟨rfl, H1⟩
  replace H := H.call H1
  clear H1
  replace H : Sep _ _ _ _ [_] [_, _, _, _] := H
  refine hK _ _ ?_
  clear hK K
  refine S_put E rfl rfl ?_
  clear E a
  intro a E
  refine S_eff E rfl (fun K hK => ?_)
  refine eff_alloc (z := [.row 8 fun _ => .int .u32 0]) H rfl (by kernel_rfl) ?_
  clear H
  intro b4 w H _
  refine hK _ _ ?_
  clear hK K
  refine S_put E rfl rfl ?_
  clear E a
  intro a E
  refine S_eff E rfl (fun K hK => ?_)
  first | (refine eff_store 0 E H rfl rfl rfl rfl rfl (by repeat (first | exact trivial | refine ⟨rfl, ?_⟩ | refine ⟨fun _ _ => rfl, ?_⟩)) rfl (by kernel_rfl) rfl ?_; trace "@@RSum_any:0:0") | (refine eff_store 1 E H rfl rfl rfl rfl rfl (by repeat (first | exact trivial | refine ⟨rfl, ?_⟩ | refine ⟨fun _ _ => rfl, ?_⟩)) rfl (by kernel_rfl) rfl ?_; trace "@@RSum_any:0:1")
  clear H
  intro w H _
  replace H : Sep _ _ _ _ [_, _] _ := H
  refine hK _ _ ?_
  clear hK K
  refine S_put0 rfl ?_
  refine hK2 _ _ ?_
  refine wp_seq_k fun K3 hK3 => ?_
  refine wp_seq_k fun K4 hK4 => ?_
  refine S_region ?_
  refine S_val E (pk_assign rfl rfl) rfl rfl rfl ?_
  clear E a
  intro a E
  refine hK4 _ _ ?_
  refine wp_block ?_
  refine S_loopI (γ := Nat × (Nat → Nat)) [2, 3, 4] (fun g => [(5, .int .i64 ((64 * g.1 : Nat) : Int))]) (fun g => [.blk b4 (ca [.row 8 fun i => u32 (g.2 i)]) 101, .blk b2 (ca [.key []]) 23 ]) (fun g => [TxF A8 c8 (ps.flatten ++ tailV ps.flatten.length), AtC ⟨1, 0, none⟩ [.row 64 fun i => u32 (gt i)]]) (fun g => 64 * g.1 ≤ (ps.flatten ++ tailV ps.flatten.length).length ∧ (feed gt g.2 ((ps.flatten ++ tailV ps.flatten.length).drop (64 * g.1))).1 = (feed gt iv0 (ps.flatten ++ tailV ps.flatten.length)).1 ∧ ∀ i, i < 8 → g.2 i < 4294967296) (fun g => (ps.flatten ++ tailV ps.flatten.length).length - 64 * g.1) ((0, iv0)) E (H.refacts (List.forall_mem_cons.2 ⟨H.fact 0 rfl, List.forall_mem_cons.2 ⟨H.fact 3 rfl, List.forall_mem_nil _⟩⟩)) (by repeat (first | exact trivial | refine ⟨rfl, ?_⟩)) (⟨Nat.zero_le _, by rw [Nat.mul_zero, List.drop_zero], iv0_lt⟩) ?_
  clear E H
  intro g a w E H hφ
  replace E : Env a _ [(5, _), (2, _), (3, _), (4, _)] := E
  replace H : Sep _ _ _ _ [_, _] [_, _] := H
  obtain ⟨j, hh⟩ := g
  simp only at E H hφ ⊢
  obtain ⟨hj, hfd, hlt⟩ := hφ
  refine wp_seq_k fun K5 hK5 => ?_
  refine wp_seq_k fun K6 hK6 => ?_
  refine S_region ?_
  refine S_val E (pk_move rfl rfl) rfl rfl rfl ?_
  clear E a
  intro a E
  refine S_val E (pk_move rfl rfl) rfl rfl rfl ?_
  clear E a
  intro a E
  refine S_val E (pk_len rfl rfl (by kernel_rfl)) rfl rfl rfl ?_
  clear E a
  intro a E
  refine S_val E (pk_int rfl rfl rfl rfl) rfl rfl rfl ?_
  clear E a
  intro a E
  refine hK6 _ _ ?_
  refine env_split (d := 13) E rfl ?_ ?_
  · skip
    clear E
    intro c13 E
    have hjl : 64 * j + 64 ≤ (ps.flatten ++ tailV ps.flatten.length).length := by have := c13; simp only [decide_eq_true_eq] at this; omega
    refine S_then E rfl ?_
    refine wp_skip ?_
    refine hK5 _ _ ?_
    refine wp_seq_k fun K7 hK7 => ?_
    refine wp_block ?_
    refine C_region E H [] 6 [(0, false), (1, false), (2, false), (3, false), (4, false), (5, false)] (by kernel_rfl) (by kernel_rfl) (fun w HS => ?_)
    (simp only [canOps, List.getElem?_cons_zero, List.getElem?_cons_succ, List.drop_succ_cons, List.drop_zero])
    clear H
    have H := HS
    have hsz : w.heap.size ≤ w.heap.size := Nat.le_refl _
    have HK : CanB.Keep (fun k => k < w.heap.size ∧ k ∉ []) w w := CanB.Keep.refl _ _
    first | (refine C_val E HK (pk_load (n := 8) HS 0 rfl rfl rfl (HS.inS 0 rfl (by simp)) rfl (by kernel_rfl)) rfl rfl rfl (fun _ _ _ _ h => h) ?_; trace "@@RSum_any:1:0") | (refine C_val E HK (pk_load (n := 8) HS 1 rfl rfl rfl (HS.inS 1 rfl (by simp)) rfl (by kernel_rfl)) rfl rfl rfl (fun _ _ _ _ h => h) ?_; trace "@@RSum_any:1:1") | (refine C_val E HK (pk_loadE (n := 8) (HS.fact 0 rfl) (fun k h _ => ⟨h, by simp⟩) rfl rfl rfl (by kernel_rfl)) rfl rfl rfl (fun _ _ _ _ h => h) ?_; trace "@@RSum_any:1:2") | (refine C_val E HK (pk_loadE (n := 8) (HS.fact 1 rfl) (fun k h _ => ⟨h, by simp⟩) rfl rfl rfl (by kernel_rfl)) rfl rfl rfl (fun _ _ _ _ h => h) ?_; trace "@@RSum_any:1:3") | (refine C_val E HK (pk_loadF (n := 8) (HS.fact 0 rfl) (fun k h _ => ⟨h, by simp⟩) rfl rfl rfl (by kernel_rfl)) rfl rfl rfl (fun _ _ _ _ h => h) ?_; trace "@@RSum_any:1:4") | (refine C_val E HK (pk_loadF (n := 8) (HS.fact 1 rfl) (fun k h _ => ⟨h, by simp⟩) rfl rfl rfl (by kernel_rfl)) rfl rfl rfl (fun _ _ _ _ h => h) ?_; trace "@@RSum_any:1:5")
    clear E a
    intro a E
    refine C_val E HK (pk_move rfl rfl) rfl rfl rfl (fun _ _ _ _ h => h) ?_
    clear E a
    intro a E
    refine C_val E HK (pk_move rfl rfl) rfl rfl rfl (fun _ _ _ _ h => h) ?_
    clear E a
    intro a E
    refine C_val E HK (pk_move rfl rfl) rfl rfl rfl (fun _ _ _ _ h => h) ?_
    clear E a
    intro a E
    refine C_val E HK (pk_intw rfl rfl rfl rfl (wI64 (by omega) (by omega))) rfl rfl rfl (fun _ _ _ _ h => h) ?_
    clear E a
    intro a E
    obtain ⟨A21, c21, h21, hT21⟩ := txF_sub (lo := 64 * j) (hi := 64 * j + 64) (HS.fact 0 rfl) (by omega) (by omega)
    refine C_val E HK (pk_sub_lh (sz := 1) (lo := 64 * j) (hi := 64 * j + 64) rfl (by kernel_rfl) rfl rfl rfl (by omega) (by omega) (by omega) (by have := (St.now (HS.fact 0 rfl)).cap; omega)) rfl rfl rfl (fun _ _ _ _ h => h) ?_
    clear E a
    intro a E
    rw [h21, show 64 * j + 64 - 64 * j = 64 from by omega] at E
    rw [show 64 * j + 64 - 64 * j = 64 from by omega] at hT21
    refine CanB.wpCan_nil ?_
    try (simp only [List.take_succ_cons, List.take_zero, List.drop_succ_cons, List.drop_zero])
    clear HS HK hsz
    refine S_eff E rfl (fun K hK => ?_)
    refine eff_call E rfl rfl rfl (by kernel_rfl) ?_
    replace H := H.know (hT21.step (Nat.le_refl _) (fun _ _ _ => rfl) (fun k hk => .inl hk))
    replace H : Sep _ _ _ _ [_, _] [_, _, _] := H
    refine (Block_any (h := hh) (gt := gt) (tx := ((ps.flatten ++ tailV ps.flatten.length).drop (64 * j)).take 64) (by rw [List.length_take, List.length_drop]; omega) H.xk (H.fact 0 rfl) (H.fact 2 rfl)).mono ?_
    rintro e w ⟨rfl, H1⟩
    replace H := H.call H1
    clear H1
    replace H : Sep _ _ _ _ [_, _] [_, _, _] := H
    refine hK _ _ ?_
    clear hK K
    refine S_put E rfl rfl ?_
    clear E a
    intro a E
    refine S_eff E rfl (fun K hK => ?_)
    first | (refine eff_store 0 E H rfl rfl rfl rfl rfl (by repeat (first | exact trivial | refine ⟨rfl, ?_⟩ | refine ⟨fun _ _ => rfl, ?_⟩)) rfl (by kernel_rfl) rfl ?_; trace "@@RSum_any:2:0") | (refine eff_store 1 E H rfl rfl rfl rfl rfl (by repeat (first | exact trivial | refine ⟨rfl, ?_⟩ | refine ⟨fun _ _ => rfl, ?_⟩)) rfl (by kernel_rfl) rfl ?_; trace "@@RSum_any:2:1")
    clear H
    intro w H _
    replace H : Sep _ _ _ _ [_, _] _ := H
    refine hK _ _ ?_
    clear hK K
    refine S_put0 rfl ?_
    replace H := H.pop
    replace H : Sep _ _ _ _ [_, _] [_, _] := H
    rw [← block_eq gt hh _ (getD_lt (fun x hx => htb x (List.mem_of_mem_drop (List.mem_of_mem_take hx))))] at H
    refine hK7 _ _ ?_
    refine S_region ?_
    refine S_val E (pk_move rfl rfl) rfl rfl rfl ?_
    clear E a
    intro a E
    refine S_val E (pk_intw rfl rfl rfl rfl (wI64 (by omega) (by omega))) rfl rfl rfl ?_
    clear E a
    intro a E
    refine S_val E (pk_assign rfl rfl) rfl rfl rfl ?_
    clear E a
    intro a E
    rw [show ((64 * j : Nat) : Int) + 64 = ((64 * (j + 1) : Nat) : Int) from by omega] at E
    refine loop_end ?_
    exact ⟨(j + 1, blockF gt hh (((ps.flatten ++ tailV ps.flatten.length).drop (64 * j)).take 64)), ⟨E.to (by repeat (first | exact trivial | refine ⟨rfl, ?_⟩)), H, ⟨by show 64 * (j + 1) ≤ (ps.flatten ++ tailV ps.flatten.length).length; omega, by show (feed gt (blockF gt hh (((ps.flatten ++ tailV ps.flatten.length).drop (64 * j)).take 64)) ((ps.flatten ++ tailV ps.flatten.length).drop (64 * (j + 1)))).1 = _; rw [show (ps.flatten ++ tailV ps.flatten.length).drop (64 * (j + 1)) = ((ps.flatten ++ tailV ps.flatten.length).drop (64 * j)).drop 64 from by rw [List.drop_drop]; rfl, ← feed_step (by rw [List.length_drop]; omega)]; exact hfd, fun i hi => blockF_lt gt hh _ i hi⟩⟩, by show (ps.flatten ++ tailV ps.flatten.length).length - 64 * (j + 1) < (ps.flatten ++ tailV ps.flatten.length).length - 64 * j; omega⟩
  · skip
    clear E
    intro c13 E
    have hje : ¬ 64 ≤ ((ps.flatten ++ tailV ps.flatten.length).drop (64 * j)).length := by have := c13; simp only [decide_eq_false_iff_not] at this; rw [List.length_drop]; omega
    rw [feed_end hje] at hfd
    simp only at hfd
    refine S_else E rfl ?_
    refine wp_exit ?_
    repeat (first | refine then_exit ?_ | refine block_hit ?_ | refine block_miss (by decide) ?_)
    refine hK3 _ _ ?_
    refine wp_seq_k fun K8 hK8 => ?_
    refine S_region ?_
    first | (refine S_val E (pk_load (n := 8) H 0 rfl rfl rfl trivial rfl (by kernel_rfl)) rfl rfl rfl ?_; trace "@@RSum_any:3:0") | (refine S_val E (pk_load (n := 8) H 1 rfl rfl rfl trivial rfl (by kernel_rfl)) rfl rfl rfl ?_; trace "@@RSum_any:3:1") | (refine S_val E (pk_loadE (n := 8) (H.fact 0 rfl) (fun _ _ _ => trivial) rfl rfl rfl (by kernel_rfl)) rfl rfl rfl ?_; trace "@@RSum_any:3:2") | (refine S_val E (pk_loadE (n := 8) (H.fact 1 rfl) (fun _ _ _ => trivial) rfl rfl rfl (by kernel_rfl)) rfl rfl rfl ?_; trace "@@RSum_any:3:3") | (refine S_val E (pk_loadF (n := 8) (H.fact 0 rfl) (fun _ _ _ => trivial) rfl rfl rfl (by kernel_rfl)) rfl rfl rfl ?_; trace "@@RSum_any:3:4") | (refine S_val E (pk_loadF (n := 8) (H.fact 1 rfl) (fun _ _ _ => trivial) rfl rfl rfl (by kernel_rfl)) rfl rfl rfl ?_; trace "@@RSum_any:3:5")
    clear E a
    intro a E
    refine S_eff E rfl (fun K hK => ?_)
    refine eff_call E rfl rfl rfl (by kernel_rfl) ?_
    refine (KeyB_any (h := hh) hlt H.xk).mono ?_
    rintro e w ⟨rfl, H1⟩
    replace H := H.call H1
    clear H1
    replace H : Sep _ _ _ _ [_, _] [_, _] := H
    refine hK _ _ ?_
    clear hK K
    refine S_put E rfl rfl ?_
    clear E a
    intro a E
    refine S_eff E rfl (fun K hK => ?_)
    first | (refine eff_store 0 E H rfl rfl rfl rfl rfl (by repeat (first | exact trivial | refine ⟨rfl, ?_⟩ | refine ⟨fun _ _ => rfl, ?_⟩)) rfl (by kernel_rfl) rfl ?_; trace "@@RSum_any:4:0") | (refine eff_store 1 E H rfl rfl rfl rfl rfl (by repeat (first | exact trivial | refine ⟨rfl, ?_⟩ | refine ⟨fun _ _ => rfl, ?_⟩)) rfl (by kernel_rfl) rfl ?_; trace "@@RSum_any:4:1")
    clear H
    intro w H _
    replace H : Sep _ _ _ _ [_, _] _ := H
    refine hK _ _ ?_
    clear hK K
    refine S_put0 rfl ?_
    refine hK8 _ _ ?_
    refine wp_ret ?_
    repeat (first | refine then_ret ?_ | refine block_ret ?_)
    refine ret1 rfl E (by first | (exact resC (n := 32) H 0 rfl rfl rfl (by kernel_rfl); trace "@@RSum_any:5:0") | (exact resC (n := 32) H 1 rfl rfl rfl (by kernel_rfl); trace "@@RSum_any:5:1")) ?_
    refine ⟨?_, (H.refacts (List.forall_mem_nil _)).popL.popL⟩
    rw [sumV_flat, ← hfd]
end Go.Proofs.YtlhhfngkfbbckaaDoor
namespace Go.Proofs.YtlhhfngkfbbckaaDoor
set_option linter.unusedSimpArgs false
set_option linter.unusedVariables false
open Go.RowKit

/-- What a value is to be, in a world. -/
abbrev Fact := Value → World → Prop

/-- A frame, into which values are put. -/
def fillA : List Oper → Act → List Value → Act
  | o :: l, a, x :: xs => fillA l (a.put o.dst x) xs
  | _, a, _ => a
def allV : Nat → (List Value → Prop) → Prop
  | 0, p => p []
  | n + 1, p => ∀ x, allV n fun xs => p (x :: xs)
theorem allV_of : ∀ (n : Nat) (p : List Value → Prop), allV n p → ∀ xs, xs.length = n → p xs
  | 0, p, h, xs, hx => by cases xs with | nil => exact h | cons x xs => simp at hx
  | n + 1, p, h, xs, hx => by
    cases xs with
    | nil => simp at hx
    | cons x xs => exact allV_of n (fun xs => p (x :: xs)) (h x) xs (by simpa using hx)
def factAt (R : List Fact) (xs : List Value) (w : World) (j : Nat) : Prop :=
  match R[j]?, xs[j]? with
  | some r, some x => r x w
  | _, _ => True
def under (R : List Fact) (xs : List Value) (w : World) : List Nat → Prop → Prop
  | [], p => p
  | j :: js, p => factAt R xs w j → under R xs w js p
theorem under_of {R : List Fact} {xs : List Value} {w : World} {p : Prop} : ∀ (js : List Nat), under R xs w js p → (∀ j ∈ js, factAt R xs w j) → p
  | [], h, _ => h
  | j :: js, h, hj => under_of js (h (hj j (by simp))) (fun k hk => hj k (by simp [hk]))
/-- What an operation gives, where it is wanted. -/
def freeOp (P : Program) (ops : Array Oper) (Q : Exit → Act → World → Prop) (o : Oper) (r : Fact) (a : Act) (w : World) : Prop :=
  if Region.wanted o (yielded ops a.tmps) then o.wp P a w (fun a' w' => Below w.heap.size w w' ∧ ∃ v, a' = a.put o.dst v ∧ r v w') Q else r undef w
def freeOps (P : Program) (ops : Array Oper) (Q : Exit → Act → World → Prop) (n : Nat) (hd : List Oper) (a : Act) (w0 : World) (R : List Fact) : List (Oper × Fact × List Nat) → Prop
  | [] => True
  | (o, r, js) :: l => (allV n fun xs => ∀ w', Below w0.heap.size w0 w' → under R xs w' js (freeOp P ops Q o r (fillA hd a xs) w')) ∧ freeOps P ops Q n hd a w0 R l

def dstsB : List Oper → Bool
  | [] => true
  | o :: l => (o.dst.isNone || l.all fun o' => o'.dst != o.dst) && dstsB l
def predsB (ops : List Oper) : Nat → List (List Nat) → Bool
  | _, [] => true
  | i, js :: l => (match ops[i]? with | some o => (o.after.all fun e => !Region.binds .any e || decide (e.on < i)) && js.all (fun j => o.after.any fun e => Region.binds .any e && e.on == j) | none => false) && predsB ops (i + 1) l
def freeB (l : List Oper) (n : Nat) (ps : List (List Nat)) : Bool :=
  Region.noSelect l.toArray && decide (n < l.length) && decide (ps.length = n) && Region.sinkB .any l.toArray n && Region.chainB .any l.toArray n && dstsB (l.take n) && predsB l 0 ps &&
    Region.seqB .any l.toArray (l.length - n) n (List.replicate n true ++ List.replicate (l.length - n) false).toArray

theorem put_comm (a : Act) {d d' : Option Tmp} (x y : Value) (h : d = none ∨ d' = none ∨ d ≠ d') : (a.put d x).put d' y = (a.put d' y).put d x := by
  cases d with
  | none => rfl
  | some d =>
    cases d' with
    | none => rfl
    | some d' =>
      have hne : d ≠ d' := by
        rcases h with h | h | h
        · cases h
        · cases h
        · exact fun e => h (by rw [e])
      simp only [Act.put]
      rw [Array.setIfInBounds_comm _ _ hne]
theorem put_put (a : Act) (d : Option Tmp) (x y : Value) : (a.put d x).put d y = a.put d y := by
  cases d with
  | none => rfl
  | some d => simp only [Act.put]; rw [Array.setIfInBounds_setIfInBounds]
theorem put_own (a : Act) (d : Option Tmp) : ∃ x, a.put d x = a := by
  cases d with
  | none => exact ⟨undef, rfl⟩
  | some d =>
    by_cases h : d < a.tmps.size
    · refine ⟨a.tmps[d], ?_⟩
      simp only [Act.put]
      rw [Array.setIfInBounds_def, dif_pos h, Array.set_getElem_self]
    · refine ⟨undef, ?_⟩
      simp only [Act.put]
      rw [Array.setIfInBounds_def, dif_neg h]
theorem fill_own : ∀ (l : List Oper) (a : Act), ∃ xs, xs.length = l.length ∧ fillA l a xs = a
  | [], a => ⟨[], rfl, rfl⟩
  | o :: l, a => by
    obtain ⟨x, hx⟩ := put_own a o.dst
    obtain ⟨xs, hl, hf⟩ := fill_own l a
    exact ⟨x :: xs, by simp [hl], by simp only [fillA]; rw [hx, hf]⟩
theorem fill_put : ∀ (l : List Oper) (a : Act) (xs : List Value) (d : Option Tmp) (y : Value), (d = none ∨ ∀ o ∈ l, o.dst ≠ d) → (fillA l a xs).put d y = fillA l (a.put d y) xs
  | [], a, xs, d, y, _ => rfl
  | o :: l, a, [], d, y, _ => rfl
  | o :: l, a, x :: xs, d, y, h => by
    simp only [fillA]
    rw [fill_put l _ xs d y (h.imp id fun h o' ho' => h o' (by simp [ho']))]
    rw [put_comm a x y (by rcases h with h | h; exact .inr (.inl h); exact .inr (.inr (h o (by simp))))]
theorem fill_set : ∀ (l : List Oper) (i : Nat) (o : Oper) (a : Act) (xs : List Value) (v : Value), dstsB l = true → l[i]? = some o → i < xs.length → (fillA l a xs).put o.dst v = fillA l a (xs.set i v)
  | [], _, _, _, _, _, _, h, _ => by simp at h
  | p :: l, i, o, a, [], v, _, _, h => by simp at h
  | p :: l, 0, o, a, x :: xs, v, hd, ho, _ => by
    simp only [List.getElem?_cons_zero, Option.some.injEq] at ho
    subst ho
    simp only [fillA, List.set_cons_zero]
    simp only [dstsB, Bool.and_eq_true, Bool.or_eq_true, Option.isNone_iff_eq_none, List.all_eq_true, bne_iff_ne] at hd
    rw [fill_put l _ xs _ v hd.1, put_put]
  | p :: l, i + 1, o, a, x :: xs, v, hd, ho, hi => by
    simp only [List.getElem?_cons_succ] at ho
    simp only [fillA, List.set_cons_succ]
    simp only [dstsB, Bool.and_eq_true] at hd
    exact fill_set l i o _ xs v hd.2 ho (by simpa using hi)

/-- How many of the head are not listed. -/
def restN (n : Nat) (listed : Array Bool) : Nat := ((List.range n).filter fun i => !listed.getD i true).length
theorem rest_set (n : Nat) (listed : Array Bool) (i : Nat) (hi : i < n) (hl : listed.getD i true = false) : restN n listed = restN n (listed.setIfInBounds i true) + 1 := by
  have key : ∀ m, ((List.range m).filter fun k => !listed.getD k true).length = ((List.range m).filter fun k => !(listed.setIfInBounds i true).getD k true).length + if i < m then 1 else 0 := by
    intro m
    induction m with
    | zero => rfl
    | succ m ih =>
      rw [List.range_succ, List.filter_append, List.filter_append, List.length_append, List.length_append, ih]
      by_cases h : i = m
      · subst h
        have hs : (listed.setIfInBounds i true).getD i true = true := getD_set_true' listed i
        simp only [List.filter_cons, List.filter_nil, hl, hs]
        simp
      · have hs : (listed.setIfInBounds i true).getD m true = listed.getD m true := getD_set_ne true h
        simp only [List.filter_cons, List.filter_nil, hs]
        by_cases h2 : i < m
        · simp only [if_pos h2, if_pos (show i < m + 1 by omega)]; omega
        · simp only [if_neg h2, if_neg (show ¬ i < m + 1 by omega)]; omega
  have := key n
  rw [if_pos hi] at this
  exact this
where
  getD_set_true' (listed : Array Bool) (i : Nat) : (listed.setIfInBounds i true).getD i true = true := by
    simp [Array.getElem?_setIfInBounds]
    split <;> simp
theorem rest_zero (n : Nat) (listed : Array Bool) (h : restN n listed = 0) (i : Nat) (hi : i < n) : listed.getD i true = true := by
  unfold restN at h
  rw [List.length_eq_zero_iff, List.filter_eq_nil_iff] at h
  have := h i (List.mem_range.2 hi)
  simpa using this
theorem rest_pos (n : Nat) (listed : Array Bool) {f : Nat} (h : restN n listed = f + 1) : ∃ i, i < n ∧ listed.getD i true = false ∧ ∀ j, j < i → listed.getD j true = true := by
  have hex : ∃ i, i < n ∧ listed.getD i true = false := by
    refine Classical.byContradiction fun hno => ?_
    have : restN n listed = 0 := by
      unfold restN
      rw [List.length_eq_zero_iff, List.filter_eq_nil_iff]
      intro i hi
      have hi' := List.mem_range.1 hi
      cases hb : listed.getD i true
      · exact absurd ⟨i, hi', hb⟩ hno
      · simp
    omega
  obtain ⟨i, hi, hl⟩ := hex
  induction i using Nat.strongRecOn with
  | _ i ih =>
    by_cases hm : ∃ j, j < i ∧ listed.getD j true = false
    · obtain ⟨j, hj, hjl⟩ := hm
      exact ih j hj (by omega) hjl
    · refine ⟨i, hi, hl, fun j hj => ?_⟩
      cases hb : listed.getD j true
      · exact absurd ⟨j, hj, hb⟩ hm
      · rfl

section
variable {P : Program} {Q : Exit → Act → World → Prop} {l : List Oper} {n : Nat} {a : Act} {w0 : World}
theorem freeOps_get {R : List Fact} {hd : List Oper} : ∀ (items : List (Oper × Fact × List Nat)), freeOps P l.toArray Q n hd a w0 R items → ∀ (i : Nat) (o : Oper) (r : Fact) (js : List Nat), items[i]? = some (o, r, js) →
    allV n fun xs => ∀ w', Below w0.heap.size w0 w' → under R xs w' js (freeOp P l.toArray Q o r (fillA hd a xs) w')
  | [], _, _, _, _, _, h => by simp at h
  | (o', r', js') :: items, h, 0, o, r, js, hi => by
    simp only [List.getElem?_cons_zero, Option.some.injEq, Prod.mk.injEq] at hi
    obtain ⟨rfl, rfl, rfl⟩ := hi
    exact h.1
  | (o', r', js') :: items, h, i + 1, o, r, js, hi => freeOps_get items h.2 i o r js (by simpa using hi)

theorem predsB_get (ops : List Oper) : ∀ (ps : List (List Nat)) (k : Nat), predsB ops k ps = true → ∀ i js, ps[i]? = some js → ∃ o, ops[k + i]? = some o ∧ (∀ e ∈ o.after, Region.binds .any e = true → e.on < k + i) ∧ ∀ j ∈ js, ∃ e ∈ o.after, Region.binds .any e = true ∧ e.on = j
  | [], _, _, _, _, h => by simp at h
  | js :: ps, k, hB, 0, js', h => by
    simp only [predsB, Bool.and_eq_true] at hB
    obtain ⟨h1, _⟩ := hB
    simp only [List.getElem?_cons_zero, Option.some.injEq] at h
    subst h
    cases ho : ops[k]? with
    | none => rw [ho] at h1; cases h1
    | some o =>
      rw [ho] at h1
      simp only [Bool.and_eq_true, Array.all_eq_true', List.all_eq_true, Bool.or_eq_true, Bool.not_eq_true', decide_eq_true_eq, Array.any_eq_true', beq_iff_eq] at h1
      refine ⟨o, rfl, fun e he hb => ?_, fun j hj => ?_⟩
      · rcases h1.1 e he with h | h
        · rw [hb] at h; cases h
        · simpa using h
      · obtain ⟨e, he, hb, h⟩ := h1.2 j hj
        exact ⟨e, he, hb, h⟩
  | js :: ps, k, hB, i + 1, js', h => by
    simp only [predsB, Bool.and_eq_true] at hB
    have := predsB_get ops ps (k + 1) hB.2 i js' (by simpa using h)
    rwa [show k + 1 + i = k + (i + 1) from by omega] at this

/-- Facts that are kept where blocks that were there are. -/
def Stays (r : Fact) : Prop := ∀ v w w', Below w.heap.size w w' → r v w → r v w'

/-- **A region that draws its order: each operation of the head, told by itself.** R: what each gives; ps: behind which of the others it comes. -/
theorem wp_region_free {id : Nat} {w : World} (n : Nat) (R : List Fact) (ps : List (List Nat)) (hm : P.follows .mixedOrders = true) (hB : freeB l n ps = true) (hR : R.length = n) (hst : ∀ r ∈ R, Stays r)
    (hop : freeOps P l.toArray Q n (l.take n) a w.drew R ((l.take n).zip (R.zip ps)))
    (hend : allV n fun xs => ∀ w', Below w.heap.size w.drew w' → under R xs w' (List.range n) (wpList P l.toArray Q (l.drop n) (fillA (l.take n) a xs) w')) : (Code.region id l.toArray true).wp P Q a w := by
  simp only [freeB, Bool.and_eq_true, decide_eq_true_eq] at hB
  obtain ⟨⟨⟨⟨⟨⟨⟨hsel, hn⟩, hp⟩, hs⟩, hc⟩, hd⟩, hps⟩, hseq⟩ := hB
  have hn' : n < l.toArray.size := by simpa using hn
  have inv0 : HeadInv .any l.toArray n (Array.replicate l.toArray.size false) :=
    ⟨by simp, fun j oj _ hl => (by rw [getD_replicate_false] at hl; cases hl), fun t _ ht => getD_in (by simpa using ht) (getD_replicate_false _ _)⟩
  have main : ∀ (f : Nat) (listed : Array Bool) (xs : List Value) (w' : World), HeadInv .any l.toArray n listed → restN n listed = f → xs.length = n → Below w.heap.size w.drew w' →
      (∀ j, j < n → listed.getD j true = true → factAt R xs w' j) →
      wpAnyC P .any l.toArray Q (fun _ => True) n (fun listed' a' w' => Region.seqB .any l.toArray (l.toArray.size - n) n listed' = true ∧ wpList P l.toArray Q (l.drop n) a' w') f listed (fillA (l.take n) a xs) w' := by
    intro f
    induction f with
    | zero =>
      intro listed xs w' inv hr hx hb hf
      refine ⟨?_, under_of _ (allV_of n _ hend xs hx w' hb) (fun j hj => hf j (List.mem_range.1 hj) (rest_zero n listed hr j (List.mem_range.1 hj)))⟩
      have e : listed = (List.replicate n true ++ List.replicate (l.length - n) false).toArray := by
        apply Array.ext_getElem?
        intro i
        have hsz := inv.size
        simp only [List.size_toArray] at hsz
        by_cases hi : i < n
        · have h1 := rest_zero n listed hr i hi
          have h2 : i < listed.size := by omega
          simp [h2] at h1
          simp [List.getElem?_append, hi, h2, h1]
        · by_cases hi2 : i < l.length
          · have h1 := inv.tail i (by omega) (by simpa using hi2)
            have h2 : i < listed.size := by omega
            simp [h2] at h1
            simp only [List.getElem?_toArray, List.getElem?_append, List.length_replicate, hi, if_false, List.getElem?_replicate]
            rw [if_pos (by omega), Array.getElem?_eq_getElem h2, h1]
          · rw [Array.getElem?_eq_none (by omega)]
            simp only [List.getElem?_toArray, List.getElem?_append, List.length_replicate, hi, if_false, List.getElem?_replicate]
            rw [if_neg (by omega)]
      rw [e]
      simpa using hseq
    | succ f ih =>
      intro listed xs w' inv hr hx hb hf
      obtain ⟨i, hi, hil, hmin⟩ := rest_pos n listed hr
      refine ⟨?_, fun j hj => ?_⟩
      · intro h0
        obtain ⟨o, ho, he, _⟩ := predsB_get l ps 0 hps i ps[i] (by simp)
        have : i ∈ Region.ready .any l.toArray listed := mem_ready.2 ⟨hil, o, by simpa using ho, fun e hee hbe => by
          have h1 := he e hee hbe
          have h2 := hmin e.on (by omega)
          have h3 : e.on < listed.size := by rw [inv.size]; simp; omega
          simp [h3] at h2 ⊢
          exact h2⟩
        rw [h0] at this
        cases this
      · have hjn : j < n := by
          rcases Nat.lt_or_ge j n with h | h
          · exact h
          · exact absurd hj (tail_waits hs hc hn' inv _ i rfl hi hil j h)
        refine ⟨hjn, ?_⟩
        obtain ⟨hjl, oj, hoj, hall⟩ := mem_ready.1 hj
        have hoj' : l[j]? = some oj := by simpa using hoj
        have hjp : j < ps.length := by omega
        have hjR : j < R.length := by omega
        have hit : ((l.take n).zip (R.zip ps))[j]? = some (oj, R[j], ps[j]) := by
          rw [List.getElem?_zip_eq_some]
          refine ⟨by rw [List.getElem?_take, if_pos hjn]; exact hoj', ?_⟩
          rw [List.getElem?_zip_eq_some]
          exact ⟨by simp [hjR], by simp [hjp]⟩
        obtain ⟨oj', hoj2, _, hpj⟩ := predsB_get l ps 0 hps j ps[j] (by simp [hjp])
        obtain rfl : oj' = oj := by
          rw [Nat.zero_add, hoj'] at hoj2
          exact (Option.some.inj hoj2).symm
        have hfree := under_of _ (allV_of n _ (freeOps_get _ hop j oj' R[j] ps[j] hit) xs hx w' hb) (fun k hk => by
          obtain ⟨e, hee, hbe, hek⟩ := hpj k hk
          have h1 := hall e hee hbe
          rw [hek] at h1
          by_cases hkn : k < n
          · refine hf k hkn ?_
            by_cases h2 : k < listed.size
            · simp [h2] at h1 ⊢; exact h1
            · simp [Array.getElem?_eq_none (Nat.le_of_not_lt h2)] at h1
          · unfold factAt
            rw [List.getElem?_eq_none (l := R) (by omega)]
            trivial)
        have go : ∀ (v : Value) (w2 : World), Below w'.heap.size w' w2 → R[j] v w2 →
            wpAnyC P .any l.toArray Q (fun _ => True) n (fun listed' a' w' => Region.seqB .any l.toArray (l.toArray.size - n) n listed' = true ∧ wpList P l.toArray Q (l.drop n) a' w') f (listed.setIfInBounds j true) ((fillA (l.take n) a xs).put oj'.dst v) w2 := by
          intro v w2 hb2 hv
          rw [fill_set (l.take n) j oj' a xs v hd (by rw [List.getElem?_take, if_pos hjn]; exact hoj') (by omega)]
          refine ih _ _ _ (inv.set hj hjn) ?_ (by simpa using hx) (hb.trans (hb2.mono hb.size)) (fun k hk hkl => ?_)
          · have := rest_set n listed j hjn hjl
            omega
          · by_cases hkj : k = j
            · subst hkj
              unfold factAt
              simp only [List.getElem?_eq_getElem hjR, List.getElem?_set_self (show k < xs.length by omega)]
              exact hv
            · have h1 := hf k hk (by rwa [getD_set_ne true (Ne.symm hkj)] at hkl)
              unfold factAt at h1 ⊢
              rw [List.getElem?_set_ne (Ne.symm hkj)]
              have hkR : k < R.length := by omega
              have hkx : k < xs.length := by omega
              simp only [List.getElem?_eq_getElem hkR, List.getElem?_eq_getElem hkx] at h1 ⊢
              exact hst _ (List.getElem_mem hkR) _ _ _ hb2 h1
        unfold wpOp
        simp only [hoj]
        unfold freeOp at hfree
        split
        · rename_i hw
          rw [if_pos hw] at hfree
          refine .inl (Oper.wp_mono (fun a' w2 h => ?_) hfree)
          obtain ⟨hb2, v, rfl, hv⟩ := h
          exact ⟨trivial, go v w2 hb2 hv⟩
        · rename_i hw
          rw [if_neg hw] at hfree
          exact ⟨trivial, go undef w' (Below.refl _ _) hfree⟩
  obtain ⟨xs0, hx0, hf0⟩ := fill_own (l.take n) a
  have H := main n (Array.replicate l.toArray.size false) xs0 w.drew inv0 (by
    unfold restN
    rw [List.filter_eq_self.2 (fun i hi => ?_)]
    · simp
    · have := List.mem_range.1 hi
      have : i < l.length := by omega
      simp [this]) (by simp at hx0; omega) (Below.refl _ _) (fun j hj hl => by
    have : j < l.length := by omega
    simp [this] at hl)
  rw [hf0] at H
  refine wp_region_any hm ?_
  have hdl : (l.drop n).length = l.toArray.size - n := by simp
  have := wpAny_of_anyC (g := l.toArray.size - n) (fun listed a' w' hL => by
    have := wpAny_of_seq (md := .any) (Q' := Q) (l.drop n) n listed a' w' (fun j => by simp [List.getElem?_drop]) (by rw [hdl]; exact hL.1) hL.2
    rwa [hdl] at this) _ _ _ _ H
  rw [show n + (l.toArray.size - n) = l.toArray.size by omega] at this
  exact this

/-! ### Single operations -/
variable {ops : Array Oper} {o : Oper} {r : Fact} {w : World}
theorem free_v {v : Value} (hg : Region.wanted o (yielded ops a.tmps) = true) (hr : (execOp a.eval o).run P w = .ok (.value v) w) (h : r v w) : freeOp P ops Q o r a w := by
  unfold freeOp
  rw [if_pos hg]
  unfold Oper.wp
  rw [hr]
  exact ⟨Below.refl _ _, v, rfl, h⟩
theorem free_e (hg : Region.wanted o (yielded ops a.tmps) = true) (h : ∀ K : Act → World → Prop, (∀ v w', Below w.heap.size w w' → r v w' → K (a.put o.dst v) w') → o.wp P a w K Q) : freeOp P ops Q o r a w := by
  unfold freeOp
  rw [if_pos hg]
  exact h _ fun v w' hb hv => ⟨hb, v, rfl, hv⟩
theorem free_move {x : Operand} (hg : Region.wanted o (yielded ops a.tmps) = true) (ho : o.op = .move x) (h : r (a.eval x) w) : freeOp P ops Q o r a w :=
  free_v hg (by unfold execOp; rw [ho]; rfl) h
theorem free_load_arr {ty : TypeId} {x : Operand} {m t g : Nat} {k : IntKind} {f : Nat → Int} {fr : Nat × Nat} (hg : Region.wanted o (yielded ops a.tmps) = true) (ho : o.op = .load ty x) (hx : a.eval x = .pointer (some ⟨g, 0, none⟩)) (hT : RowT P ty m)
    (hc : w.heap[g]? = some (.cells (arr k m f) t fr)) (h : r (.agg (arr k m f)) w) : freeOp P ops Q o r a w := free_v hg (run_op_load ho hx (run_loadVar_arr0 hT hc)) h
theorem st_nil : ∀ r ∈ ([] : List Fact), Stays r := fun _ h => by cases h
theorem st_cons {r : Fact} {R : List Fact} (h : Stays r) (hR : ∀ r ∈ R, Stays r) : ∀ r' ∈ r :: R, Stays r' := fun r' hr => by
  rcases List.mem_cons.1 hr with rfl | hr
  · exact h
  · exact hR _ hr
/-- A value, and nothing else. -/
def Is (v : Value) : Fact := fun x _ => x = v
theorem is_stays (v : Value) : Stays (Is v) := fun _ _ _ _ h => h
/-- A new block. -/
def NewAt (N : Nat) (b : Obj) : Fact := fun x w => ∃ B, x = .pointer (some ⟨B, 0, none⟩) ∧ N ≤ B ∧ w.heap[B]? = some b
theorem new_stays (N : Nat) (b : Obj) : Stays (NewAt N b) := fun _ _ _ hb ⟨B, h1, h2, h3⟩ => ⟨B, h1, h2, (hb.block B (lt_of_block h3)).trans h3⟩
end
end Go.Proofs.YtlhhfngkfbbckaaDoor
namespace Go.Proofs.YtlhhfngkfbbckaaDoor
set_option linter.unusedSimpArgs false
set_option linter.unusedVariables false
open Go.RowKit

attribute [local irreducible] addW xorW andW orW shlW shrW smallW greatW wordV blockF
set_option maxRecDepth 100000 in
set_option maxHeartbeats 1000000 in
theorem Sum_any {PA : Option Addr} {pc : Nat} {ps : List (List Nat)} {pm : Nat → TextT.μ} {gt : Nat → Nat} (hp : ∀ p ∈ ps, p.length ≤ 100000000) (hP : ps.length ≤ 1000000) {X : List Nat} {w0 : World} (hX : ∀ k ∈ X, k < w0.heap.size) (hL : St (LiF TextT PA pc ps pm) w0 X) (hG : St (AtC ⟨2, 0, none⟩ [.row 64 fun i => u32 (gt i)]) w0 X) :
    Calls Tryd.prog 47 #[.slice PA ps.length pc] w0 fun e w' => e = .returned (.agg (ca [.key (sumV gt ps)])) ∧ Sep X [] w0 w' [] [] := by
  refine calls_env Tryd.ntmps47 Tryd.func47 rfl rfl fun a E => ?_; replace E : Env a _ [(0, _)] := E
  have H : Sep X [] w0 w0 [] [(LiF TextT PA pc ps pm), (AtC ⟨2, 0, none⟩ [.row 64 fun i => u32 (gt i)])] := Sep.start hX (List.forall_mem_cons.2 ⟨hL, List.forall_mem_cons.2 ⟨hG, fun _ h => by cases h⟩⟩)
  refine wp_seq_k fun K0 hK0 => ?_; refine S_region ?_; refine S_eff E rfl (fun K hK => ?_); refine eff_alloc (z := [.key []]) H rfl (by kernel_rfl) ?_; clear H; intro b2 w H _; refine hK _ _ ?_; clear hK K; refine S_put E rfl rfl ?_; clear E a; intro a E; refine hK0 _ _ ?_; refine wp_seq_k fun K1 hK1 => ?_; refine S_region ?_; refine S_eff E rfl (fun K hK => ?_); refine eff_call E rfl rfl rfl (by kernel_rfl) ?_; refine (shaNew_any H.xk).mono ?_; rintro e w ⟨rfl, H1⟩
  replace H := H.call H1
  clear H1; replace H : Sep _ _ _ _ [_] [_, _] := H; refine hK _ _ ?_; clear hK K; refine S_put E rfl rfl ?_; clear E a; intro a E; refine S_eff E rfl (fun K hK => ?_); refine eff_alloc (z := [.row 8 fun _ => .int .u32 0, .one (.int .u64 0), .one (.slice none 0 0)]) H rfl (by kernel_rfl) ?_; clear H; intro b3 w H _; refine hK _ _ ?_; clear hK K; refine S_put E rfl rfl ?_; clear E a; intro a E; refine S_eff E rfl (fun K hK => ?_); refine eff_store 0 E H rfl rfl rfl rfl rfl (by repeat (first | exact trivial | refine ⟨rfl, ?_⟩ | refine ⟨fun _ _ => rfl, ?_⟩)) rfl (by kernel_rfl) rfl ?_; clear H; intro w H _; replace H : Sep _ _ _ _ [_, _] _ := H; refine hK _ _ ?_; clear hK K; refine S_put0 rfl ?_; refine hK1 _ _ ?_; refine wp_seq_k fun K2 hK2 => ?_; refine wp_seq_k fun K3 hK3 => ?_; refine S_region ?_; refine S_val E (pk_move rfl rfl) rfl rfl rfl ?_; clear E a; intro a E
  refine S_val E (pk_len rfl rfl (by kernel_rfl)) rfl rfl rfl ?_; clear E a; intro a E; refine S_val E (pk_move rfl rfl) rfl rfl rfl ?_; clear E a; intro a E; refine hK3 _ _ ?_; refine wp_block ?_
  refine S_loopI (γ := Nat × (Nat → Nat) × Nat × List Nat × Option Addr × Nat) [2, 3, 7, 8] (fun g => [(9, .int .i64 (g.1 : Int))]) (fun g => [.blk b3 (ca [.row 8 (fun i => u32 (g.2.1 i)), .one (.int .u64 ((g.2.2.1 : Nat) : Int)), .one (.slice g.2.2.2.2.1 g.2.2.2.1.length g.2.2.2.2.2)]) 103, .row (.slice g.2.2.2.2.1 g.2.2.2.1.length g.2.2.2.2.2) 5 1 g.2.2.2.1.length (g.2.2.2.1.map bv), .blk b2 (ca [.key ([])]) 23 ]) (fun g => [LiF TextT PA pc ps pm, AtC ⟨2, 0, none⟩ [.row 64 fun i => u32 (gt i)]]) (fun g => g.1 ≤ ps.length ∧ shaAll gt (ps.take g.1) = (g.2.1, g.2.2.1, g.2.2.2.1) ∧ g.2.2.1 ≤ g.1 * 100000000 ∧ g.2.2.2.1.length < 64 ∧ ∀ x ∈ g.2.2.2.1, x < 256) (fun g => ps.length - g.1) ((0, iv0, 0, [], none, 0)) E ((H.rownil _ _).perm (List.Perm.swap _ _ _)) (by repeat (first | exact trivial | refine ⟨rfl, ?_⟩)) (⟨Nat.zero_le _, rfl, Nat.zero_le _, by show 0 < 64; decide, fun x hx => by cases hx⟩) ?_
  clear E H; intro g a w E H hφ; replace E : Env a _ [(9, _), (2, _), (3, _), (7, _), (8, _)] := E; replace H : Sep _ _ _ _ [_, _, _] [_, _] := H
  obtain ⟨i, hh, nn, rr, RA1, rc1⟩ := g
  simp only at E H hφ ⊢
  obtain ⟨hi, hsh, hnn, hrl, hrb⟩ := hφ
  refine wp_seq_k fun K4 hK4 => ?_; refine S_region ?_; refine S_val E (pk_int rfl rfl rfl rfl) rfl rfl rfl ?_; clear E a; intro a E; refine hK4 _ _ ?_; refine wp_seq_k fun K5 hK5 => ?_; refine env_split (d := 10) E rfl ?_ ?_
  · skip
    clear E; intro c10 E
    have hik : i < ps.length := by have := c10; simp only [decide_eq_true_eq] at this; omega
    have hx0 : ps[i]? = some ps[i] := List.getElem?_eq_getElem hik
    refine S_then E rfl ?_; refine wp_skip ?_; refine hK5 _ _ ?_; refine wp_seq_k fun K6 hK6 => ?_; refine wp_block ?_; refine wp_seq_k fun K7 hK7 => ?_; refine S_region ?_
    obtain ⟨ad11, hA11, hc11, hn11⟩ := LiF.get (A := PA) (T := TextT) (i := i) (x := ps[i]) (by exact H.fact 0 rfl) hx0
    refine S_val E (pk_elA (sz := 1) hA11 rfl (by kernel_rfl) rfl rfl rfl (by omega)) rfl rfl rfl ?_; clear E a; intro a E
    replace H := (H.know hn11).know hc11
    clear hn11 hc11; replace H : Sep _ _ _ _ _ [_, _, _, _] := H; refine S_val E (pk_loadE1 (H.fact 0 rfl) (fun _ _ _ => trivial) rfl rfl rfl (by kernel_rfl)) rfl rfl rfl ?_; clear E a; intro a E; refine S_val E (pk_assign rfl rfl) rfl rfl rfl ?_; clear E a; intro a E; refine hK7 _ _ ?_; refine S_region ?_; refine S_val E (pk_move rfl rfl) rfl rfl rfl ?_; clear E a; intro a E; refine S_eff E rfl (fun K hK => ?_); refine eff_call E rfl rfl rfl (by kernel_rfl) ?_
    have hpl : ps[i].length ≤ 100000000 := hp _ (List.getElem_mem hik)
    obtain ⟨⟨h2, r2⟩, hFF⟩ : ∃ z, feed gt hh (rr ++ ps[i]) = z := ⟨_, rfl⟩
    have hpb : ∀ x ∈ ps[i], x < 256 := (St.now (H.fact 1 rfl : St (TxF (pm i).1 (pm i).2 ps[i]) w _)).byt
    have HG := (Sep.giveA (L1 := [_, _]) (L := [_]) H).refacts (R' := [TxF (pm i).1 (pm i).2 ps[i], _]) (List.forall_mem_cons.2 ⟨(Sep.giveA (L1 := [_, _]) (L := [_]) H).fact 1 rfl, List.forall_mem_cons.2 ⟨(Sep.giveA (L1 := [_, _]) (L := [_]) H).fact 3 rfl, List.forall_mem_nil _⟩⟩)
    have HD := Sep.giveD (L1 := [_, _]) (L := [_]) H
    refine (take_any (sb := b3) (n := nn) (rest := rr) (bs := ps[i]) hFF (by omega) (by omega) (by omega) hrb HG.xlt HG HD).mono ?_; rintro e w ⟨rfl, RA2, rc2, H1⟩
    replace H := Sep.callA (L1 := [_, _]) (L := [_]) H H1
    clear H1; replace H : Sep _ _ _ _ [_, _, _] [_, _, _, _] := H; refine hK _ _ ?_; clear hK K; refine S_put E rfl rfl ?_; clear E a; intro a E; clear HG HD; refine hK6 _ _ ?_; refine S_region ?_; refine S_val E (pk_intw rfl rfl rfl rfl (wI64 (by omega) (by omega))) rfl rfl rfl ?_; clear E a; intro a E; refine S_val E (pk_move rfl rfl) rfl rfl rfl ?_; clear E a; intro a E; refine loop_end ?_
    exact ⟨(i + 1, h2, nn + ps[i].length, r2, RA2, rc2), ⟨E.to (by repeat (first | exact trivial | refine ⟨rfl, ?_⟩)), H.pop.pop, ⟨by show i + 1 ≤ ps.length; omega, by show shaAll gt (ps.take (i + 1)) = (h2, nn + ps[i].length, r2); rw [shaAll_succ hx0, hsh, takeV, hFF], by show nn + ps[i].length ≤ (i + 1) * 100000000; omega, by have := feed_len gt _ hh (rr ++ ps[i]) (Nat.le_refl _); rw [hFF] at this; exact this, by have := feed_byte gt _ hh (rr ++ ps[i]) (Nat.le_refl _) (fun x hx => by rcases List.mem_append.1 hx with h1 | h1; exact hrb x h1; exact hpb x h1); rw [hFF] at this; exact this⟩⟩, by show ps.length - (i + 1) < ps.length - i; omega⟩
  · skip
    clear E; intro c10 E
    obtain rfl : i = ps.length := by have := c10; simp only [decide_eq_false_iff_not] at this; omega
    rw [List.take_length] at hsh
    refine S_else E rfl ?_; refine wp_exit ?_
    repeat (first | refine then_exit ?_ | refine block_hit ?_ | refine block_miss (by decide) ?_)
    refine hK2 _ _ ?_; refine wp_seq_k fun K8 hK8 => ?_; replace H : Sep _ _ _ _ [_, _] [_, _, _] := (H.at_ 1 _ rfl).rowTx (Sep.new_x (H.at_ 1 _ rfl)) (by omega) hrb; refine S_region ?_; refine S_val E (pk_load (n := 10) H 0 rfl rfl rfl trivial rfl (by kernel_rfl)) rfl rfl rfl ?_; clear E a; intro a E; refine S_eff E rfl (fun K hK => ?_); refine eff_call E rfl rfl rfl (by kernel_rfl) ?_; refine (finish_any (n := nn) (rest := rr) (by omega) (by omega) H.xk (H.fact 0 rfl) (H.fact 2 rfl)).mono ?_; rintro e w ⟨rfl, H1⟩
    replace H := H.call H1
    clear H1; replace H : Sep _ _ _ _ [_, _] [_, _, _] := H; refine hK _ _ ?_; clear hK K; refine S_put E rfl rfl ?_; clear E a; intro a E; refine S_eff E rfl (fun K hK => ?_); refine eff_store 1 E H rfl rfl rfl rfl rfl (by repeat (first | exact trivial | refine ⟨rfl, ?_⟩ | refine ⟨fun _ _ => rfl, ?_⟩)) rfl (by kernel_rfl) rfl ?_; clear H; intro w H _; replace H : Sep _ _ _ _ [_, _] _ := H; refine hK _ _ ?_; clear hK K; refine S_put0 rfl ?_; refine hK8 _ _ ?_; refine wp_ret ?_
    repeat (first | refine then_ret ?_ | refine block_ret ?_)
    refine ret1 rfl E (by exact resC (n := 32) H 1 rfl rfl rfl (by kernel_rfl)) ?_; refine ⟨?_, (H.refacts (List.forall_mem_nil _)).popL.popL⟩
    rw [sumV, hsh]
end Go.Proofs.YtlhhfngkfbbckaaDoor
namespace Go.Proofs.YtlhhfngkfbbckaaDoor
set_option linter.unusedSimpArgs false
set_option linter.unusedVariables false
open Go.RowKit


def heldV (key : List Nat) (by_ : Nat) : List Nat := (List.range 64).map fun i => (key.getD i 0 % 256) ^^^ (by_ % 256)
/-- A sum with a key. -/
def macV (gt : Nat → Nat) (key : List Nat) (ps : List (List Nat)) : List Nat := sumV gt [heldV key 92, sumV gt (heldV key 54 :: ps)]
theorem heldV_len (key : List Nat) (by_ : Nat) : (heldV key by_).length = 64 := by simp [heldV]
theorem heldV_byte (key : List Nat) (by_ : Nat) : ∀ z ∈ heldV key by_, z < 256 := fun z hz => by
  obtain ⟨i, _, rfl⟩ := List.mem_map.1 hz
  exact Nat.xor_lt_two_pow (n := 8) (by omega) (by omega)
theorem macV_len (gt : Nat → Nat) (key : List Nat) (ps : List (List Nat)) : (macV gt key ps).length = 32 := sumV_len _ _
theorem macV_byte (gt : Nat → Nat) (key : List Nat) (ps : List (List Nat)) : ∀ z ∈ macV gt key ps, z < 256 := sumV_byte _ _
theorem row_copy (n : Nat) (k : List Nat) (h : k.length ≤ n) : (List.range n).map (fun i => bv (k.getD i 0)) = ((List.range n).map fun _ => bv 0).take 0 ++ k.map bv ++ ((List.range n).map fun _ => bv 0).drop (0 + k.length) := by
  apply List.ext_getElem?
  intro i
  rw [List.take_zero, List.nil_append, Nat.zero_add]
  by_cases hi : i < n
  · rcases Nat.lt_or_ge i k.length with h1 | h1
    · rw [List.getElem?_append_left (by simpa using h1)]
      simp [hi, List.getD_eq_getElem?_getD, List.getElem?_eq_getElem h1]
    · rw [List.getElem?_append_right (by simpa using h1), List.getElem?_drop]
      simp [hi, List.getD_eq_getElem?_getD, List.getElem?_eq_none h1, show k.length + (i - k.length) = i by omega]
  · rw [List.getElem?_eq_none (by simp; omega), List.getElem?_eq_none (by simp; omega)]
def mixB (key : List Nat) (by_ i j : Nat) : Nat := if j < i then (key.getD j 0 % 256) ^^^ (by_ % 256) else key.getD j 0
theorem mixB_succ (key : List Nat) (by_ i j : Nat) : upd (fun j => bv (mixB key by_ i j)) i (bv ((key.getD i 0 % 256) ^^^ (by_ % 256))) j = bv (mixB key by_ (i + 1) j) := by
  unfold upd mixB
  by_cases h : j = i
  · subst h; simp
  · rw [if_neg h]
    show bv (if j < i then _ else _) = _
    by_cases h2 : j < i
    · rw [if_pos h2, if_pos (by omega)]
    · rw [if_neg h2, if_neg (by omega)]
theorem mixB_at (key : List Nat) (by_ i : Nat) : mixB key by_ i i = key.getD i 0 := by simp [mixB]
theorem cl_held (key : List Nat) (by_ : Nat) : cl [.row 64 (fun j => bv (mixB key by_ 64 j))] = (heldV key by_).map bv := by
  simp only [cl, Chunk.cells, List.append_nil, heldV, List.map_map]
  apply List.map_congr_left
  intro i hi
  simp only [Function.comp, mixB, if_pos (List.mem_range.1 hi)]
theorem xor_zero_iff (a b : Nat) : a ^^^ b = 0 ↔ a = b := by
  constructor
  · intro h
    have := congrArg (· ^^^ b) h
    simpa [Nat.xor_assoc] using this
  · rintro rfl; exact Nat.xor_self _
def farV (a b : List Nat) : Nat → Nat
  | 0 => 0
  | i + 1 => (farV a b i % 256) ||| (((a.getD i 0 % 256) ^^^ (b.getD i 0 % 256)) % 256)
theorem farV_zero (a b : List Nat) (ha : ∀ x ∈ a, x < 256) (hb : ∀ x ∈ b, x < 256) (hl : a.length = b.length) : ∀ i, i ≤ a.length → (farV a b i < 256 ∧ (farV a b i = 0 ↔ a.take i = b.take i))
  | 0, _ => by simp [farV]
  | i + 1, hi => by
    obtain ⟨h1, h2⟩ := farV_zero a b ha hb hl i (by omega)
    have hia : i < a.length := by omega
    have hib : i < b.length := by omega
    have e1 : a.getD i 0 = a[i] := by rw [List.getD_eq_getElem?_getD, List.getElem?_eq_getElem hia]; rfl
    have e2 : b.getD i 0 = b[i] := by rw [List.getD_eq_getElem?_getD, List.getElem?_eq_getElem hib]; rfl
    have ba := ha _ (List.getElem_mem hia)
    have bb := hb _ (List.getElem_mem hib)
    have hx : a[i] ^^^ b[i] < 256 := Nat.xor_lt_two_pow (n := 8) ba bb
    rw [farV, e1, e2, Nat.mod_eq_of_lt h1, Nat.mod_eq_of_lt ba, Nat.mod_eq_of_lt bb, Nat.mod_eq_of_lt hx]
    refine ⟨Nat.or_lt_two_pow (n := 8) h1 hx, ?_⟩
    rw [Nat.or_eq_zero_iff, h2, xor_zero_iff, List.take_add_one, List.take_add_one, List.getElem?_eq_getElem hia, List.getElem?_eq_getElem hib]
    constructor
    · rintro ⟨h3, h4⟩; rw [h3, h4]
    · intro h3
      have := List.append_inj h3 (by simp; omega)
      simpa using this
attribute [local irreducible] addW xorW andW orW shlW shrW smallW greatW wordV blockF sumV
section
variable {P : Program} {o : Oper} {a : Act} {w ws : World} {N : Nat} {l : List (Nat × Value)} {v : Value} {X G : List Nat} {w0 : World} {L : List Res} {R : List (World → Prop)}
/-- Cells as a list that is read. -/
theorem liF_at {α : Type} {T : Ty α} {ad : Addr} {cs : List Chunk} {its : List (α × T.μ)} {c : Nat} {xs : List α} {Y : List Nat} (h : St (AtC ad cs) w Y) (hcl : cl cs = rowC T its) (hn : St (NestF T its) w Y) (hx : its.map Prod.fst = xs) (hc : its.length ≤ c) (hb : its.length ≤ 9223372036854775807) :
    St (LiF T (some ad) c xs (fun i => ((its[i]?).map Prod.snd).getD T.dft)) w Y := fun w' hk => by
  subst hx
  refine ⟨by simpa using hc, by simpa using hb, (fun hA => by cases hA), fun ad' hA i x hx => ?_⟩
  obtain rfl := Option.some.inj hA
  rw [List.getElem?_map, Option.map_eq_some_iff] at hx
  obtain ⟨p, hp, rfl⟩ := hx
  simp only [hp, Option.map_some, Option.getD_some]
  refine ⟨fun j u hu => ?_, hn w' hk p (List.mem_of_getElem? hp)⟩
  rw [Addr.add_add]
  refine h w' hk _ u ?_
  rw [hcl]
  exact rowC_at its i j p u hp hu
/-- A block as a row of elements. -/
theorem Sep.rowOfL {b e sz n : Nat} {cs : List Chunk} {xs : List Value} (H : Sep X G w0 w (.blk b (ca cs) e :: L) R) (hxs : cl cs = xs) (hl : xs.length = n * sz) (hc : n ≤ 140737488355328) : Sep X G w0 w (.row (.slice (some ⟨b, 0, none⟩) n n) e sz n xs :: L) R :=
  H.turn (Frm.refl _ _) ⟨hl, .inr ⟨b, n, _, rfl, Nat.zero_le _, H.holds _ (List.mem_cons_self ..), Nat.le_refl _, by unfold maxLen; omega, by rw [ca_size, ← cl_len, hxs, hl], by
    simp only [ca, hxs]
    rw [← hl, List.take_length]⟩⟩ (fun k hk => .inl (by simpa [Res.keys, Value.ownBlock] using hk)) (by simp [Res.keys, Value.ownBlock])
theorem text1 {A : Option Addr} {c : Nat} {k : List Nat} : cl [.one (.slice A k.length c)] = rowC TextT [((k, (A, c)) : List Nat × TextT.μ)] := rfl
theorem text2 {A B : Option Addr} {c d : Nat} {k m : List Nat} : cl [.one (.slice A k.length c), .one (.slice B m.length d)] = rowC TextT [((k, (A, c)) : List Nat × TextT.μ), (m, (B, d))] := rfl
end
set_option maxRecDepth 100000 in
set_option maxHeartbeats 400000 in
theorem held_any {A : Option Addr} {c by_ : Nat} {key : List Nat} (h64 : key.length ≤ 64) {X : List Nat} {w0 : World} (hX : ∀ k ∈ X, k < w0.heap.size) (hk : St (TxF A c key) w0 X) :
    Calls Tryd.prog 48 #[.slice A key.length c, bv by_] w0 fun e w' => ∃ A' c', e = .returned (.slice A' (heldV key by_).length c') ∧ Sep X [] w0 w' [] [TxF A' c' (heldV key by_)] := by
  refine calls_env Tryd.ntmps48 Tryd.func48 rfl rfl fun a E => ?_; replace E : Env a _ [(0, _), (1, _)] := E
  have H : Sep X [] w0 w0 [] [(TxF A c key)] := Sep.start hX (List.forall_mem_cons.2 ⟨hk, fun _ h => by cases h⟩)
  refine wp_seq_k fun K0 hK0 => ?_; refine S_region ?_; refine S_val E (pk_assign rfl rfl) rfl rfl rfl ?_; clear E a; intro a E; refine hK0 _ _ ?_; refine wp_seq_k fun K1 hK1 => ?_; refine wp_seq_k fun K2 hK2 => ?_; refine S_region ?_; refine S_val E (pk_move rfl rfl) rfl rfl rfl ?_; clear E a; intro a E; refine S_val E (pk_len rfl rfl (by kernel_rfl)) rfl rfl rfl ?_; clear E a; intro a E; refine S_val E (pk_int rfl rfl rfl rfl) rfl rfl rfl ?_; clear E a; intro a E; refine hK2 _ _ ?_; refine env_split (d := 10) E rfl ?_ ?_
  · skip
    clear E; intro c10 E
    exfalso; have := c10; simp only [decide_eq_true_eq] at this; omega --done
  · skip
    clear E; intro c10 E; refine S_else E rfl ?_; refine wp_skip ?_; refine hK1 _ _ ?_; refine wp_seq_k fun K3 hK3 => ?_; refine S_region ?_; refine S_eff E rfl (fun K hK => ?_); refine eff_make (n := 64) (c := 64) E H rfl ⟨Tryd.underlying24, Tryd.underlying5, by kernel_rfl⟩ rfl rfl rfl rfl (by omega) (by omega) ?_; clear H; intro b15 w H F; refine hK _ _ ?_; clear hK K; refine S_put E rfl rfl ?_; clear E a; intro a E; clear F; refine S_val E (pk_assign rfl rfl) rfl rfl rfl ?_; clear E a; intro a E; refine hK3 _ _ ?_; refine wp_seq_k fun K4 hK4 => ?_; refine S_region ?_; refine S_val E (pk_move rfl rfl) rfl rfl rfl ?_; clear E a; intro a E; refine S_val E (pk_move rfl rfl) rfl rfl rfl ?_; clear E a; intro a E; refine S_eff E rfl (fun K hK => ?_)
    refine eff_copy (news := key.map bv) (m := key.length) (cs' := [.row 64 fun i => bv (key.getD i 0)]) 0 E H rfl rfl rfl rfl (by kernel_rfl) rfl (by omega) (by simp) (fun hA => (hk.now.nil hA).1) (by have := txF_cells (m := key.length) (St.now (H.fact 0 rfl)); rwa [List.take_length] at this) (fun u hu => by obtain ⟨z, _, rfl⟩ := List.mem_map.1 hu; rfl) (by simp only [cl, Chunk.cells, List.append_nil]; exact row_copy 64 key h64) (by simp [lens, Chunk.len]; omega) rfl ?_; clear H; intro w H F; replace H : Sep _ _ _ _ [_] _ := H; refine hK _ _ ?_; clear hK K; refine S_put E rfl rfl ?_; clear E a; intro a E; clear F; refine hK4 _ _ ?_; refine wp_seq_k fun K5 hK5 => ?_; refine wp_seq_k fun K6 hK6 => ?_; refine S_region ?_; refine S_val E (pk_move rfl rfl) rfl rfl rfl ?_; clear E a; intro a E; refine S_val E (pk_len rfl rfl (by kernel_rfl)) rfl rfl rfl ?_; clear E a; intro a E
    refine S_val E (pk_move rfl rfl) rfl rfl rfl ?_; clear E a; intro a E; refine hK6 _ _ ?_; refine wp_block ?_
    have e0 : (fun j => bv (key.getD j 0)) = fun j => bv (mixB key by_ 0 j) := by funext j; simp [mixB]
    rw [e0] at H
    refine S_loopI (γ := Nat) [1, 6, 20] (fun i => [(21, .int .i64 (i : Int))]) (fun i => [.blk b15 (ca [.row 64 (fun j => bv (mixB key by_ i j))]) 5 ]) (fun i => [TxF A c key]) (fun i => i ≤ 64) (fun i => 64 - i) (0) E H (by repeat (first | exact trivial | refine ⟨rfl, ?_⟩)) (by omega) ?_; clear E H; intro i a w E H hφ; replace E : Env a _ [(21, _), (1, _), (6, _), (20, _)] := E; replace H : Sep _ _ _ _ [_] [_] := H; refine wp_seq_k fun K7 hK7 => ?_; refine S_region ?_; refine S_val E (pk_int rfl rfl rfl rfl) rfl rfl rfl ?_; clear E a; intro a E; refine hK7 _ _ ?_; refine wp_seq_k fun K8 hK8 => ?_; refine env_split (d := 22) E rfl ?_ ?_
    · skip
      clear E; intro c22 E
      have hi : i < 64 := by have := c22; simp only [decide_eq_true_eq] at this; omega
      refine S_then E rfl ?_; refine wp_skip ?_; refine hK8 _ _ ?_; refine wp_seq_k fun K9 hK9 => ?_; refine wp_block ?_; refine wp_seq_k fun K10 hK10 => ?_; refine S_region ?_; refine S_val E (pk_move rfl rfl) rfl rfl rfl ?_; clear E a; intro a E; refine S_val E (pk_assign rfl rfl) rfl rfl rfl ?_; clear E a; intro a E; refine hK10 _ _ ?_; refine S_region ?_; refine S_val E (pk_move rfl rfl) rfl rfl rfl ?_; clear E a; intro a E; refine S_val E (pk_move rfl rfl) rfl rfl rfl ?_; clear E a; intro a E; refine S_val E (pk_elA (sz := 1) (i := i) rfl rfl (by kernel_rfl) rfl rfl rfl hi) rfl rfl rfl ?_; clear E a; intro a E; refine S_val E (pk_loadRow (i := i) (off := 0) H 0 rfl trivial rfl hi rfl rfl (by rw [Nat.mul_one]) (by kernel_rfl)) rfl rfl rfl ?_; clear E a; intro a E; refine S_val E (pk_move rfl rfl) rfl rfl rfl ?_; clear E a; intro a E; refine S_val E (pk_xorB rfl rfl rfl) rfl rfl rfl ?_
      clear E a; intro a E; refine S_val E (pk_elA (sz := 1) (i := i) rfl rfl (by kernel_rfl) rfl rfl rfl hi) rfl rfl rfl ?_; clear E a; intro a E; refine S_eff E rfl (fun K hK => ?_); refine eff_storeRowF (off := 0) (i := i) (fun j => bv (mixB key by_ (i + 1) j)) 0 E H rfl rfl rfl hi rfl rfl (by rw [Nat.mul_one]) rfl rfl rfl (by kernel_rfl) (fun j => by rw [mixB_at]; exact mixB_succ key by_ i j) rfl ?_; clear H; intro w H F; replace H : Sep _ _ _ _ [_] _ := H; refine hK _ _ ?_; clear hK K; refine S_put0 rfl ?_; clear F; refine hK9 _ _ ?_; refine S_region ?_; refine S_val E (pk_intw rfl rfl rfl rfl (wI64 (by omega) (by omega))) rfl rfl rfl ?_; clear E a; intro a E; refine S_val E (pk_move rfl rfl) rfl rfl rfl ?_; clear E a; intro a E; refine loop_end ?_
      exact ⟨i + 1, ⟨E.to (by repeat (first | exact trivial | refine ⟨rfl, ?_⟩)), H, by omega⟩, by omega⟩
    · skip
      clear E; intro c22 E
      obtain rfl : i = 64 := by have := c22; simp only [decide_eq_false_iff_not] at this; omega
      refine S_else E rfl ?_; refine wp_exit ?_
      repeat (first | refine then_exit ?_ | refine block_hit ?_ | refine block_miss (by decide) ?_)
      refine hK5 _ _ ?_; refine wp_seq_k fun K11 hK11 => ?_; refine S_region ?_; refine S_val E (pk_move rfl rfl) rfl rfl rfl ?_; clear E a; intro a E; refine S_val E (pk_assign rfl rfl) rfl rfl rfl ?_; clear E a; intro a E; refine hK11 _ _ ?_; refine wp_ret ?_
      repeat (first | refine then_ret ?_ | refine block_ret ?_)
      refine ret1 rfl E (resT rfl) ?_
      have hT := txF_at (k := heldV key by_) (c := 64) ((H.lend 0 rfl).fact 0 rfl) (cl_held key by_) (by rw [heldV_len]; omega) (by rw [heldV_len]; omega) (heldV_byte key by_)
      exact ⟨some ⟨b15, 0, none⟩, 64, by rw [heldV_len], ((H.lend 0 rfl).know hT).refacts (List.forall_mem_cons.2 ⟨((H.lend 0 rfl).know hT).fact 0 rfl, List.forall_mem_nil _⟩)⟩
set_option maxRecDepth 100000 in
set_option maxHeartbeats 600000 in
theorem Mac_any {A PA : Option Addr} {c pc : Nat} {key : List Nat} {ps : List (List Nat)} {pm : Nat → TextT.μ} {gt : Nat → Nat} (h64 : key.length ≤ 64) (hp : ∀ p ∈ ps, p.length ≤ 100000000) (hP : ps.length ≤ 900000) {X : List Nat} {w0 : World} (hX : ∀ k ∈ X, k < w0.heap.size) (hk : St (TxF A c key) w0 X) (hL : St (LiF TextT PA pc ps pm) w0 X) (hG : St (AtC ⟨2, 0, none⟩ [.row 64 fun i => u32 (gt i)]) w0 X) :
    Calls Tryd.prog 29 #[.slice A key.length c, .slice PA ps.length pc] w0 fun e w' => e = .returned (.agg (ca [.key (macV gt key ps)])) ∧ Sep X [] w0 w' [] [] := by
  have hpA : ∀ p ∈ heldV key 54 :: ps, p.length ≤ 100000000 := fun p h => by rcases List.mem_cons.1 h with rfl | h; rw [heldV_len]; omega; exact hp p h
  have hpB : ∀ p ∈ [heldV key 92, (sumV gt (heldV key 54 :: ps))], p.length ≤ 100000000 := fun p h => by simp only [List.mem_cons, List.not_mem_nil, or_false] at h; rcases h with rfl | rfl; rw [heldV_len]; omega; rw [sumV_len]; omega
  refine calls_env Tryd.ntmps29 Tryd.func29 rfl rfl fun a E => ?_; replace E : Env a _ [(0, _), (1, _)] := E
  have H : Sep X [] w0 w0 [] [(TxF A c key), (LiF TextT PA pc ps pm), (AtC ⟨2, 0, none⟩ [.row 64 fun i => u32 (gt i)])] := Sep.start hX (List.forall_mem_cons.2 ⟨hk, List.forall_mem_cons.2 ⟨hL, List.forall_mem_cons.2 ⟨hG, fun _ h => by cases h⟩⟩⟩)
  refine wp_seq_k fun K0 hK0 => ?_; refine S_region ?_; refine S_eff E rfl (fun K hK => ?_); refine eff_alloc (z := [.key []]) H rfl (by kernel_rfl) ?_; clear H; intro b4 w H _; refine hK _ _ ?_; clear hK K; refine S_put E rfl rfl ?_; clear E a; intro a E; refine hK0 _ _ ?_; refine wp_seq_k fun K1 hK1 => ?_; refine S_region ?_; refine S_val E (pk_move rfl rfl) rfl rfl rfl ?_; clear E a; intro a E; refine S_eff E rfl (fun K hK => ?_); refine eff_call E rfl rfl rfl (by kernel_rfl) ?_; refine (held_any (by_ := 54) h64 H.xk (H.fact 0 rfl)).mono ?_; rintro e w ⟨A7, c7, rfl, H1⟩
  replace H := H.call H1
  clear H1; replace H : Sep _ _ _ _ [_] [_, _, _, _] := H; refine hK _ _ ?_; clear hK K; refine S_put E rfl rfl ?_; clear E a; intro a E; refine S_eff E rfl (fun K hK => ?_); refine eff_bslice (sz := 1) (z := [.one (.slice none 0 0)]) E H rfl Tryd.underlying30 (by kernel_rfl) (by decide) (by kernel_rfl) ⟨_, [.one _], 0, _, rfl, rfl, rfl, rfl, rfl⟩ ?_; clear H; intro b8 w H _; refine hK _ _ ?_; clear hK K; refine S_put E rfl rfl ?_; clear E a; intro a E; refine S_val E (pk_move rfl rfl) rfl rfl rfl ?_; clear E a; intro a E
  replace H := H.rowOfL (sz := 1) (n := 1) (text1 (A := A7) (c := c7) (k := heldV key 54)) rfl (by omega)
  refine S_eff E rfl (fun K hK => ?_); refine eff_appL (T := TextT) (by_ := 24) (its := [((heldV key 54, (A7, c7)) : List Nat × TextT.μ)]) 0 E H (H.fact 2 rfl) rfl rfl rfl rfl ⟨Tryd.underlying30, by kernel_rfl⟩ (by simp only [List.length_cons, List.length_nil]; omega) (by simp only [List.length_cons, List.length_nil]; omega) ?_; clear H; intro A10 c10 w hcap10 H F; replace H : Sep _ _ _ _ [_, _] _ := H; refine hK _ _ ?_; clear hK K; refine S_put E rfl rfl ?_; clear E a; intro a E; clear F
  have HN := H.know (nest_app (a := [((heldV key 54, (A7, c7)) : List Nat × TextT.μ)]) (nest_snoc (its := []) (q := ((heldV key 54, (A7, c7)) : List Nat × TextT.μ)) nest_nil (H.fact 0 rfl)) (nest_items (H.fact 2 rfl)))
  obtain ⟨m10, HZ⟩ := HN.freezeL (xs := heldV key 54 :: ps) rfl (by simp) (by rw [List.map_append, items_fst]; rfl)
  clear H HN
  have H := HZ
  clear HZ; replace H : Sep _ _ _ _ [_] [_, _, _, _, _, _] := H
  rw [show ([((heldV key 54, (A7, c7)) : List Nat × TextT.μ)] ++ itemsOf TextT ps pm).length = (heldV key 54 :: ps).length from by simp [itms_len]] at E
  refine S_eff E rfl (fun K hK => ?_); refine eff_call E rfl rfl rfl (by kernel_rfl) ?_; refine (Sum_any (ps := heldV key 54 :: ps) hpA (by simp only [List.length_cons]; omega) H.xk (H.fact 0 rfl) (H.fact 5 rfl)).mono ?_; rintro e w ⟨rfl, H1⟩
  replace H := H.call H1
  clear H1; replace H : Sep _ _ _ _ [_] [_, _, _, _, _, _] := H; refine hK _ _ ?_; clear hK K; refine S_put E rfl rfl ?_; clear E a; intro a E; refine S_eff E rfl (fun K hK => ?_); refine eff_alloc (z := [.key []]) H rfl (by kernel_rfl) ?_; clear H; intro b5 w H _; refine hK _ _ ?_; clear hK K; refine S_put E rfl rfl ?_; clear E a; intro a E; refine S_eff E rfl (fun K hK => ?_); refine eff_store 0 E H rfl rfl rfl rfl rfl (by repeat (first | exact trivial | refine ⟨rfl, ?_⟩ | refine ⟨fun _ _ => rfl, ?_⟩)) rfl (by kernel_rfl) rfl ?_; clear H; intro w H _; replace H : Sep _ _ _ _ [_, _] _ := H; refine hK _ _ ?_; clear hK K; refine S_put0 rfl ?_; refine hK1 _ _ ?_; refine wp_seq_k fun K2 hK2 => ?_; refine C_region E H [] 3 [(0, false), (2, false), (1, true)] (by kernel_rfl) (by kernel_rfl) (fun w HS => ?_)
  (simp only [canOps, List.getElem?_cons_zero, List.getElem?_cons_succ, List.drop_succ_cons, List.drop_zero])
  clear H
  have H := HS
  have hsz : w.heap.size ≤ w.heap.size := Nat.le_refl _
  have HK : CanB.Keep (fun k => k < w.heap.size ∧ k ∉ []) w w := CanB.Keep.refl _ _
  refine C_val E HK (pk_move rfl rfl) rfl rfl rfl (fun _ _ _ _ h => h) ?_; clear E a; intro a E; refine C_val E HK (pk_subP (N := 32) (sz := 1) rfl (by kernel_rfl) rfl) rfl rfl rfl (fun _ _ _ _ h => h) ?_; clear E a; intro a E; refine C_eff E rfl (fun K hK => ?_); refine eff_call E rfl rfl rfl (by kernel_rfl) ?_; refine (held_any (by_ := 92) h64 H.xk (H.fact 3 rfl)).mono ?_; rintro e w ⟨A13, c13, rfl, H1⟩
  have F := H1.frm
  replace H := H.call H1
  clear H1; replace H : Sep _ _ _ _ [_, _] [_, _, _, _, _, _, _] := H
  have hk := keep_frm (D := []) F hsz (by simp)
  refine hK _ _ hk ?_; clear hK K
  replace HK := HK.trans hk
  replace hsz := Nat.le_trans hsz (F).size
  clear hk; refine C_put E rfl rfl ?_; clear E a; intro a E; clear F; refine CanB.wpCan_nil ?_
  try (simp only [List.take_succ_cons, List.take_zero, List.drop_succ_cons, List.drop_zero])
  clear HS HK hsz; refine S_eff E rfl (fun K hK => ?_); refine eff_bslice (sz := 1) (z := [.one (.slice none 0 0), .one (.slice none 0 0)]) E H rfl Tryd.underlying30 (by kernel_rfl) (by decide) (by kernel_rfl) ⟨_, [.one _], 0, _, rfl, rfl, rfl, rfl, ⟨_, [.one _], 1, _, rfl, rfl, rfl, rfl, rfl⟩⟩ ?_; clear H; intro b15 w H _; refine hK _ _ ?_; clear hK K; refine S_put E rfl rfl ?_; clear E a; intro a E; refine S_eff E rfl (fun K hK => ?_); refine eff_call E rfl rfl rfl (by kernel_rfl) ?_
  have HB := (H.lend 0 rfl).lend 0 rfl
  have hin := txF_at (k := (sumV gt (heldV key 54 :: ps))) (c := 32) (HB.fact 0 rfl) (by rw [cl_key, keyL_self (sumV_len _ _)]) (by rw [sumV_len]; omega) (by rw [sumV_len]; omega) (sumV_byte _ _)
  have hli := liF_at (T := TextT) (its := [((heldV key 92, (A13, c13)) : List Nat × TextT.μ), ((sumV gt (heldV key 54 :: ps)), (some ⟨b5, 0, none⟩, 32))]) (c := 2) (xs := [heldV key 92, (sumV gt (heldV key 54 :: ps))]) (HB.fact 1 rfl) (by rw [← text2, heldV_len, sumV_len]) (nest_snoc (its := [_]) (q := (((sumV gt (heldV key 54 :: ps)), (some ⟨b5, 0, none⟩, 32)) : List Nat × TextT.μ)) (nest_snoc (its := []) (q := ((heldV key 92, (A13, c13)) : List Nat × TextT.μ)) nest_nil (HB.fact 2 rfl)) hin) rfl (by show 2 ≤ 2; decide) (by show 2 ≤ _; decide)
  have H2 := HB.refacts (R' := [_, _]) (List.forall_mem_cons.2 ⟨hli, List.forall_mem_cons.2 ⟨HB.fact 8 rfl, List.forall_mem_nil _⟩⟩)
  clear HB hin hli; refine (Sum_any (ps := [heldV key 92, (sumV gt (heldV key 54 :: ps))]) hpB (by show 2 ≤ 1000000; decide) H2.xk (H2.fact 0 rfl) (H2.fact 1 rfl)).mono ?_; rintro e w ⟨rfl, H1⟩
  have F := H1.frm
  replace H := H.grow F
  refine hK _ _ ?_; clear hK K; refine S_put E rfl rfl ?_; clear E a; intro a E; clear F; clear H2; refine S_eff E rfl (fun K hK => ?_); refine eff_store 2 E H rfl rfl rfl rfl rfl (by repeat (first | exact trivial | refine ⟨rfl, ?_⟩ | refine ⟨fun _ _ => rfl, ?_⟩)) rfl (by kernel_rfl) rfl ?_; clear H; intro w H _; replace H : Sep _ _ _ _ [_, _, _] _ := H; refine hK _ _ ?_; clear hK K; refine S_put0 rfl ?_; refine hK2 _ _ ?_; refine wp_ret ?_
  repeat (first | refine then_ret ?_ | refine block_ret ?_)
  refine ret1 rfl E (by exact resC (n := 32) H 2 rfl rfl rfl (by kernel_rfl)) ?_; refine ⟨?_, (H.refacts (List.forall_mem_nil _)).popL.popL.popL⟩
  rw [macV]
end Go.Proofs.YtlhhfngkfbbckaaDoor
namespace Go.Proofs.YtlhhfngkfbbckaaDoor
set_option linter.unusedSimpArgs false
set_option linter.unusedVariables false
open Go.RowKit


theorem farV_succ (a b : List Nat) (i : Nat) : (farV a b i % 256) ||| (((a.getD i 0 % 256) ^^^ (b.getD i 0 % 256)) % 256) = farV a b (i + 1) := by rw [farV]
theorem farV_dec {a b : List Nat} (ha : ∀ x ∈ a, x < 256) (hb : ∀ x ∈ b, x < 256) (hl : a.length = b.length) : (((farV a b a.length : Nat) : Int) == 0) = decide (a = b) := by
  have h := (farV_zero a b ha hb hl a.length (Nat.le_refl _)).2
  rw [List.take_length, hl, List.take_length] at h
  rw [hl]
  by_cases h1 : a = b
  · rw [h.2 h1, decide_eq_true h1]; rfl
  · rw [decide_eq_false h1, beq_eq_false_iff_ne]
    intro h2
    exact h1 (h.1 (by omega))
attribute [local irreducible] addW xorW andW orW shlW shrW smallW greatW wordV blockF sumV
def IsV (v : Value) : Fact := fun x _ => x = v
def NewB (z : Nat) (e : TypeId) : Fact := fun x w => ∃ b, x = .slice (some ⟨b, 0, none⟩) 1 1 ∧ w.heap[b]? = some (.cells (ca [.one (bv z)]) e (0, 0))
def NewL3 (u v : Value) (z : Nat) (e t : TypeId) : Fact := fun x w => ∃ b b', x = .slice (some ⟨b, 0, none⟩) 3 3 ∧ w.heap[b]? = some (.cells (ca [.one u, .one v, .one (.slice (some ⟨b', 0, none⟩) 1 1)]) t (0, 0)) ∧ w.heap[b']? = some (.cells (ca [.one (bv z)]) e (0, 0))
def NewK (B : Nat) (t : TypeId) (cs : List Chunk) : Fact := fun x w => ∃ b, x = .pointer (some ⟨b, 0, none⟩) ∧ B ≤ b ∧ w.heap[b]? = some (.cells (ca cs) t (0, 0))
theorem isV_eq {v x : Value} {w : World} (h : IsV v x w) : x = v := h
theorem isV_stays (v : Value) : Stays (IsV v) := fun _ _ _ _ h => h
theorem newB_stays (z : Nat) (e : TypeId) : Stays (NewB z e) := fun _ _ _ hb ⟨b, h1, h2⟩ => ⟨b, h1, (hb.block b (lt_of_block h2)).trans h2⟩
theorem newL3_stays (u v : Value) (z : Nat) (e t : TypeId) : Stays (NewL3 u v z e t) := fun _ _ _ hb ⟨b, b', h1, h2, h3⟩ => ⟨b, b', h1, (hb.block b (lt_of_block h2)).trans h2, (hb.block b' (lt_of_block h3)).trans h3⟩
theorem newK_stays (B : Nat) (t : TypeId) (cs : List Chunk) : Stays (NewK B t cs) := fun _ _ _ hb ⟨b, h1, h0, h2⟩ => ⟨b, h1, h0, (hb.block b (lt_of_block h2)).trans h2⟩
section
variable {P : Program} {ops : Array Oper} {rest : List Oper} {o : Oper} {a : Act} {w ws : World} {Q : Exit → Act → World → Prop} {N d : Nat} {l : List (Nat × Value)} {v : Value} {r : Fact} {X G : List Nat} {w0 : World} {L : List Res} {R : List (World → Prop)} {x y : Operand} {t u : TypeId}
theorem F_val (E : Env a N l) (hv : PK P allS w l o v) (hg : gd ops l o = some true) (h : r v w) : freeOp P ops Q o r a w := by
  unfold freeOp
  rw [if_pos (gd_wanted E hg)]
  unfold Oper.wp
  rw [hv w (CanB.Keep.refl _ _) a N E]
  exact ⟨Below.refl _ _, v, rfl, h⟩
theorem F_eff (E : Env a N l) (hg : gd ops l o = some true) (h : ∀ K : Act → World → Prop, (∀ v w', Below w.heap.size w w' → r v w' → K (a.put o.dst v) w') → o.wp P a w K Q) : freeOp P ops Q o r a w := by
  unfold freeOp
  rw [if_pos (gd_wanted E hg)]
  exact h _ fun v w' hb hr => ⟨hb, v, rfl, hr⟩
theorem F_alloc {ty : TypeId} {z : List Chunk} (E : Env a N l) (ho : o.op = .alloc ty) (hz : zeroC P ty = some (ca z)) (hg : gd ops l o = some true) (h : ∀ w', w'.heap[w.heap.size]? = some (.cells (ca z) ty (0, 0)) → r (.pointer (some ⟨w.heap.size, 0, none⟩)) w') : freeOp P ops Q o r a w := by
  unfold freeOp
  rw [if_pos (gd_wanted E hg)]
  obtain ⟨i, zv, h1, h2, h3⟩ := zeroC_of hz
  have hr : (execOp a.eval o).run P w = .ok (.value (.pointer (some ⟨w.heap.size, 0, none⟩))) (w.alloc (.cells (ca z) ty)) := by
    unfold execOp
    simp [ho, Instr.alloc, zeroValue, typeInfo, h1, h2, newVar, newRow, newObj, h3, Sem.run_bind]
    rfl
  unfold Oper.wp
  rw [hr]
  exact ⟨(Below.refl _ _).alloc (Nat.le_refl _) _, _, rfl, h _ (heap_alloc_new w _)⟩
theorem free_gen (E : Env a N l) (h : ∀ a, Env a N l → freeOp P ops Q o r a w) : freeOp P ops Q o r a w := h a E
theorem act_gen (E : Env a N l) (h : ∀ a, Env a N l → wpList P ops Q rest a w) : wpList P ops Q rest a w := h a E
theorem at_heap {b t : Nat} {cs : List Chunk} (h : w.heap[b]? = some (.cells (ca cs) t (0, 0))) : St (AtC ⟨b, 0, none⟩ cs) w [] := fun w' hk => at_blk (t := t) (fr := (0, 0)) ((hk b (lt_of_block h) (by simp)).trans h)
theorem pk_addB {m n : Nat} (ho : o.op = .binOp .add t x y u) (hx : ev l x = some (bv m)) (hy : ev l y = some (.int .u8 1)) {S : Nat → Prop} : PK P S ws l o (bv ((m + 1) % 256)) :=
  pk_int ho hx hy (by
    have h := wrap8 (m + 1)
    rw [Int.natCast_add] at h
    exact congrArg (fun z => some (Value.int .u8 z)) h)
theorem St.low {r : World → Prop} {Y : List Nat} (h : St r w Y) : St r w [] := h.mono fun _ hk => by cases hk
end
attribute [local irreducible] freeOp
set_option maxRecDepth 100000 in
set_option maxHeartbeats 400000 in
theorem Equal_any {KA KB : Option Addr} {ca_ cb : Nat} {ka kb : List Nat} {X : List Nat} {w0 : World} (hX : ∀ k ∈ X, k < w0.heap.size) (hA : St (TxF KA ca_ ka) w0 X) (hB : St (TxF KB cb kb) w0 X) :
    Calls Tryd.prog 21 #[.slice KA ka.length ca_, .slice KB kb.length cb] w0 fun e w' => e = .returned (.bool (decide (ka = kb))) ∧ Sep X [] w0 w' [] [] := by
  have hal := hA.now.len
  have hab := hA.now.byt
  have hbb := hB.now.byt
  refine calls_env Tryd.ntmps21 Tryd.func21 rfl rfl fun a E => ?_; replace E : Env a _ [(0, _), (1, _)] := E
  have H : Sep X [] w0 w0 [] [(TxF KA ca_ ka), (TxF KB cb kb)] := Sep.start hX (List.forall_mem_cons.2 ⟨hA, List.forall_mem_cons.2 ⟨hB, fun _ h => by cases h⟩⟩)
  refine wp_seq_k fun K0 hK0 => ?_; refine S_region ?_; refine S_val E (pk_assign rfl rfl) rfl rfl rfl ?_; clear E a; intro a E; refine hK0 _ _ ?_; refine wp_seq_k fun K1 hK1 => ?_; refine wp_seq_k fun K2 hK2 => ?_; refine S_region ?_; refine S_val E (pk_move rfl rfl) rfl rfl rfl ?_; clear E a; intro a E; refine S_val E (pk_len rfl rfl (by kernel_rfl)) rfl rfl rfl ?_; clear E a; intro a E; refine S_val E (pk_move rfl rfl) rfl rfl rfl ?_; clear E a; intro a E; refine S_val E (pk_len rfl rfl (by kernel_rfl)) rfl rfl rfl ?_; clear E a; intro a E; refine S_val E (pk_int rfl rfl rfl rfl) rfl rfl rfl ?_; clear E a; intro a E; refine hK2 _ _ ?_; refine env_split (d := 11) E rfl ?_ ?_
  · skip
    clear E; intro c11 E
    have hne : ka ≠ kb := fun h => by subst h; simp at c11
    refine S_then E rfl ?_; refine wp_seq_k fun K3 hK3 => ?_; refine S_region ?_; refine S_val E (pk_assign rfl rfl) rfl rfl rfl ?_; clear E a; intro a E; refine hK3 _ _ ?_; refine wp_ret ?_
    repeat (first | refine then_ret ?_ | refine block_ret ?_)
    refine ret1 rfl E (resT rfl) ?_
    exact ⟨congrArg (fun b => Ending.returned (Value.bool b)) (decide_eq_false hne).symm, H.pop.pop⟩
  · skip
    clear E; intro c11 E
    have hll : ka.length = kb.length := by have := c11; simp only [bne_eq_false_iff_eq] at this; omega
    refine S_else E rfl ?_; refine wp_skip ?_; refine hK1 _ _ ?_; refine wp_seq_k fun K4 hK4 => ?_; refine S_region ?_; refine S_val E (pk_assign rfl rfl) rfl rfl rfl ?_; clear E a; intro a E; refine hK4 _ _ ?_; refine wp_seq_k fun K5 hK5 => ?_; refine wp_seq_k fun K6 hK6 => ?_; refine S_region ?_; refine S_val E (pk_move rfl rfl) rfl rfl rfl ?_; clear E a; intro a E; refine S_val E (pk_len rfl rfl (by kernel_rfl)) rfl rfl rfl ?_; clear E a; intro a E; refine S_val E (pk_move rfl rfl) rfl rfl rfl ?_; clear E a; intro a E; refine hK6 _ _ ?_; refine wp_block ?_; refine S_loopK (γ := Nat) [0, 1, 13] (fun i => [(5, bv (farV ka kb i)), (14, .int .i64 (i : Int))]) (fun i => i ≤ ka.length) (fun i => ka.length - i) (0) E H (by repeat (first | exact trivial | refine ⟨rfl, ?_⟩)) (Nat.zero_le _) ?_; clear E H; intro i a w E H hφ; replace E : Env a _ [(5, _), (14, _), (0, _), (1, _), (13, _)] := E
    replace H : Sep _ _ _ _ [] [_, _] := H; refine wp_seq_k fun K7 hK7 => ?_; refine S_region ?_; refine S_val E (pk_int rfl rfl rfl rfl) rfl rfl rfl ?_; clear E a; intro a E; refine hK7 _ _ ?_; refine wp_seq_k fun K8 hK8 => ?_; refine env_split (d := 15) E rfl ?_ ?_
    · skip
      clear E; intro c15 E
      have hi : i < ka.length := by have := c15; simp only [decide_eq_true_eq] at this; omega
      obtain ⟨aA, hAA⟩ : ∃ ad, KA = some ad := by
        cases hq : KA with
        | some ad => exact ⟨ad, rfl⟩
        | none => have := (hA.now.nil hq).1; omega
      obtain ⟨aB, hBB⟩ : ∃ ad, KB = some ad := by
        cases hq : KB with
        | some ad => exact ⟨ad, rfl⟩
        | none => have := (hB.now.nil hq).1; omega
      have ga : ka[i]? = some (ka.getD i 0) := by rw [List.getD_eq_getElem?_getD, List.getElem?_eq_getElem hi]; rfl
      have gb : kb[i]? = some (kb.getD i 0) := by rw [List.getD_eq_getElem?_getD, List.getElem?_eq_getElem (show i < kb.length by omega)]; rfl
      refine S_then E rfl ?_; refine wp_skip ?_; refine hK8 _ _ ?_; refine wp_seq_k fun K9 hK9 => ?_; refine wp_block ?_; refine wp_seq_k fun K10 hK10 => ?_; refine S_region ?_; refine S_val E (pk_move rfl rfl) rfl rfl rfl ?_; clear E a; intro a E; refine S_val E (pk_assign rfl rfl) rfl rfl rfl ?_; clear E a; intro a E; refine hK10 _ _ ?_; refine C_region E H [] 10 [(0, false), (1, false), (2, false), (3, false), (4, false), (5, false), (6, false), (7, false), (8, false), (9, false)] (by kernel_rfl) (by kernel_rfl) (fun w HS => ?_)
      (simp only [canOps, List.getElem?_cons_zero, List.getElem?_cons_succ, List.drop_succ_cons, List.drop_zero])
      clear H
      have H := HS
      have hsz : w.heap.size ≤ w.heap.size := Nat.le_refl _
      have HK : CanB.Keep (fun k => k < w.heap.size ∧ k ∉ []) w w := CanB.Keep.refl _ _
      refine C_val E HK (pk_move rfl rfl) rfl rfl rfl (fun _ _ _ _ h => h) ?_; clear E a; intro a E; refine C_val E HK (pk_move rfl rfl) rfl rfl rfl (fun _ _ _ _ h => h) ?_; clear E a; intro a E; refine C_val E HK (pk_move rfl rfl) rfl rfl rfl (fun _ _ _ _ h => h) ?_; clear E a; intro a E; refine C_val E HK (pk_elA (sz := 1) (i := i) hAA rfl (by kernel_rfl) rfl rfl rfl hi) rfl rfl rfl (fun _ _ _ _ h => h) ?_; clear E a; intro a E; refine C_val E HK (pk_byte (HS.fact 0 rfl) (fun k h _ => ⟨h, by simp⟩) hAA rfl rfl ga (by kernel_rfl)) rfl rfl rfl (fun _ _ _ _ h => h) ?_; clear E a; intro a E; refine C_val E HK (pk_move rfl rfl) rfl rfl rfl (fun _ _ _ _ h => h) ?_; clear E a; intro a E; refine C_val E HK (pk_move rfl rfl) rfl rfl rfl (fun _ _ _ _ h => h) ?_; clear E a; intro a E
      refine C_val E HK (pk_elA (sz := 1) (i := i) hBB rfl (by kernel_rfl) rfl rfl rfl (by omega)) rfl rfl rfl (fun _ _ _ _ h => h) ?_; clear E a; intro a E; refine C_val E HK (pk_byte (HS.fact 1 rfl) (fun k h _ => ⟨h, by simp⟩) hBB rfl rfl gb (by kernel_rfl)) rfl rfl rfl (fun _ _ _ _ h => h) ?_; clear E a; intro a E; refine C_val E HK (pk_xorB rfl rfl rfl) rfl rfl rfl (fun _ _ _ _ h => h) ?_; clear E a; intro a E; refine CanB.wpCan_nil ?_
      try (simp only [List.take_succ_cons, List.take_zero, List.drop_succ_cons, List.drop_zero])
      clear HS HK hsz; refine S_val E (pk_orB rfl rfl rfl) rfl rfl rfl ?_; clear E a; intro a E; refine S_val E (pk_assignE rfl rfl (congrArg bv (farV_succ ka kb i))) rfl rfl rfl ?_; clear E a; intro a E; refine hK9 _ _ ?_; refine S_region ?_; refine S_val E (pk_intw rfl rfl rfl rfl (wI64 (by omega) (by omega))) rfl rfl rfl ?_; clear E a; intro a E; refine S_val E (pk_move rfl rfl) rfl rfl rfl ?_; clear E a; intro a E; refine loop_end ?_
      exact ⟨i + 1, ⟨E.to (by repeat (first | exact trivial | refine ⟨rfl, ?_⟩)), H, by omega⟩, by omega⟩
    · skip
      clear E; intro c15 E
      obtain rfl : i = ka.length := by have := c15; simp only [decide_eq_false_iff_not] at this; omega
      refine S_else E rfl ?_; refine wp_exit ?_
      repeat (first | refine then_exit ?_ | refine block_hit ?_ | refine block_miss (by decide) ?_)
      refine hK5 _ _ ?_; refine wp_seq_k fun K11 hK11 => ?_; refine S_region ?_; refine S_val E (pk_move rfl rfl) rfl rfl rfl ?_; clear E a; intro a E; refine S_val E (pk_int rfl rfl rfl rfl) rfl rfl rfl ?_; clear E a; intro a E; refine S_val E (pk_assign rfl rfl) rfl rfl rfl ?_; clear E a; intro a E; refine hK11 _ _ ?_; refine wp_ret ?_
      repeat (first | refine then_ret ?_ | refine block_ret ?_)
      refine ret1 rfl E (resT rfl) ?_
      exact ⟨congrArg (fun b => Ending.returned (Value.bool b)) (farV_dec hab hbb hll), H.pop.pop⟩
set_option maxRecDepth 100000 in
set_option maxHeartbeats 8000000 in
theorem more_any {b9 b3 b8 b4 t9 t8 j lc ic : Nat} {LA IA : Option Addr} {k last info : List Nat} {gt : Nat → Nat} (hk32 : k.length = 32) (hkb : ∀ x ∈ k, x < 256) (hll : last.length ≤ 100000000) (hil : info.length ≤ 100000000) {X : List Nat} {w0 : World} (hX : ∀ k ∈ X, k < w0.heap.size) (H0 : Sep X (keysR [.blk b9 (ca [.one (bv j)]) t9, .blk b8 (ca [.one (.slice LA last.length lc)]) t8]) w0 w0 [.blk b9 (ca [.one (bv j)]) t9, .blk b8 (ca [.one (.slice LA last.length lc)]) t8] [AtC ⟨b3, 0, none⟩ [.key k], AtC ⟨b4, 0, none⟩ [.one (.slice IA info.length ic)], TxF LA lc last, TxF IA ic info, AtC ⟨2, 0, none⟩ [.row 64 fun i => u32 (gt i)]]) (hd : ∀ k ∈ keysR [.blk b9 (ca [.one (bv j)]) t9, .blk b8 (ca [.one (.slice LA last.length lc)]) t8], k ∉ X) :
    Calls Tryd.prog 35 #[.pointer (some ⟨b9, 0, none⟩), .pointer (some ⟨b3, 0, none⟩), .pointer (some ⟨b8, 0, none⟩), .pointer (some ⟨b4, 0, none⟩)] w0 fun e w' => ∃ g, e = .returned (.slice (some ⟨g, 0, none⟩) 32 32) ∧ Sep X (keysR [.blk b9 (ca [.one (bv j)]) t9, .blk b8 (ca [.one (.slice LA last.length lc)]) t8]) w0 w' [.blk b9 (ca [.one (bv ((j + 1) % 256))]) t9, .blk b8 (ca [.one (.slice (some ⟨g, 0, none⟩) 32 32)]) t8] [TxF (some ⟨g, 0, none⟩) 32 (macV gt k [last, info, [((j + 1) % 256)]])] := by
  refine calls_env Tryd.ntmps35 Tryd.func35 rfl rfl fun a E => ?_; replace E : Env a _ [(0, _), (1, _), (2, _), (3, _)] := E
  have H := H0
  have hps : ∀ p ∈ [last, info, [((j + 1) % 256)]], p.length ≤ 100000000 := fun p h => by simp only [List.mem_cons, List.not_mem_nil, or_false] at h; rcases h with rfl | rfl | rfl; exact hll; exact hil; show 1 ≤ 100000000; decide
  refine wp_seq_k fun K0 hK0 => ?_; refine S_region ?_; refine S_val E (pk_assign rfl rfl) rfl rfl rfl ?_; clear E a; intro a E; refine hK0 _ _ ?_; refine wp_seq_k fun K1 hK1 => ?_; refine S_region ?_; refine S_val E (pk_load1 H 0 rfl rfl rfl trivial rfl (by kernel_rfl)) rfl rfl rfl ?_; clear E a; intro a E; refine S_val E (pk_addB (n := 0) rfl rfl rfl) rfl rfl rfl ?_; clear E a; intro a E; refine S_eff E rfl (fun K hK => ?_); refine eff_store 0 (new := [.one _]) E H rfl rfl rfl rfl rfl (by repeat (first | exact trivial | refine ⟨rfl, ?_⟩ | refine ⟨fun _ _ => rfl, ?_⟩)) rfl (by kernel_rfl) rfl ?_; clear H; intro w H _; replace H : Sep _ _ _ _ [_, _] _ := H; refine hK _ _ ?_; clear hK K; refine S_put0 rfl ?_; refine hK1 _ _ ?_; refine wp_seq_k fun K2 hK2 => ?_
  refine wp_region_free 8 [IsV (.slice (some ⟨b3, 0, none⟩) 32 32), IsV (.slice LA last.length lc), IsV (.slice IA info.length ic), IsV (bv ((j + 1) % 256)), NewB ((j + 1) % 256) 5, NewL3 (.slice LA last.length lc) (.slice IA info.length ic) ((j + 1) % 256) 5 24, IsV (.agg (ca [.key (macV gt k [last, info, [((j + 1) % 256)]])])), NewK w.drew.heap.size 23 [.key []] ]
    [[], [], [], [], [3], [1, 2, 4], [0, 5], [] ] (by kernel_rfl) (by kernel_rfl) rfl (List.forall_mem_cons.2 ⟨isV_stays _, List.forall_mem_cons.2 ⟨isV_stays _, List.forall_mem_cons.2 ⟨isV_stays _, List.forall_mem_cons.2 ⟨isV_stays _, List.forall_mem_cons.2 ⟨newB_stays _ _, List.forall_mem_cons.2 ⟨newL3_stays _ _ _ _ _, List.forall_mem_cons.2 ⟨isV_stays _, List.forall_mem_cons.2 ⟨newK_stays _ _ _, List.forall_mem_nil _⟩⟩⟩⟩⟩⟩⟩⟩) ?_ ?_
  · simp only [List.take_succ_cons, List.take_zero, List.zip_cons_cons, List.zip_nil_left, List.zip_nil_right, freeOps, allV, under, factAt, fillA, List.getElem?_cons_zero, List.getElem?_cons_succ]
    refine ⟨?_, ?_, ?_, ?_, ?_, ?_, ?_, ?_, trivial⟩
    · intro x0 x1 x2 x3 x4 x5 x6 x7 w' hb'
      exact F_val ((((((((E.put (d := 8) rfl).put (d := 9) rfl).put (d := 10) rfl).put (d := 11) rfl).put (d := 12) rfl).put (d := 13) rfl).put (d := 14) rfl).put (d := 5) rfl) (pk_subP (N := 32) (sz := 1) rfl (by kernel_rfl) rfl) rfl rfl
    · intro x0 x1 x2 x3 x4 x5 x6 x7 w' hb'
      have H' := H.drew.grow (Frm.of_below hb')
      exact F_val ((((((((E.put (d := 8) rfl).put (d := 9) rfl).put (d := 10) rfl).put (d := 11) rfl).put (d := 12) rfl).put (d := 13) rfl).put (d := 14) rfl).put (d := 5) rfl) (pk_load1 H' 1 rfl rfl rfl trivial rfl (by kernel_rfl)) rfl rfl
    · intro x0 x1 x2 x3 x4 x5 x6 x7 w' hb'
      have H' := H.drew.grow (Frm.of_below hb')
      exact F_val ((((((((E.put (d := 8) rfl).put (d := 9) rfl).put (d := 10) rfl).put (d := 11) rfl).put (d := 12) rfl).put (d := 13) rfl).put (d := 14) rfl).put (d := 5) rfl) (pk_loadE1 (H'.fact 1 rfl) (fun _ _ _ => trivial) rfl rfl rfl (by kernel_rfl)) rfl rfl
    · intro x0 x1 x2 x3 x4 x5 x6 x7 w' hb'
      have H' := H.drew.grow (Frm.of_below hb')
      exact F_val ((((((((E.put (d := 8) rfl).put (d := 9) rfl).put (d := 10) rfl).put (d := 11) rfl).put (d := 12) rfl).put (d := 13) rfl).put (d := 14) rfl).put (d := 5) rfl) (pk_load1 H' 0 rfl rfl rfl trivial rfl (by kernel_rfl)) rfl rfl
    · intro x0 x1 x2 x3 x4 x5 x6 x7 w' hb' e3
      have H' := H.drew.grow (Frm.of_below hb')
      replace e3 := isV_eq e3; subst e3
      refine free_gen ((((((((E.put (d := 8) rfl).put (d := 9) rfl).put (d := 10) rfl).put (d := 11) rfl).put (d := 12) rfl).put (d := 13) rfl).put (d := 14) rfl).put (d := 5) rfl) (fun a E => ?_); refine F_eff E rfl (fun K hK => ?_); refine eff_bslice (sz := 1) (z := [.one (.int .u8 0)]) E H' rfl Tryd.underlying24 (by kernel_rfl) (by decide) (by kernel_rfl) ⟨_, [.one _], 0, _, rfl, rfl, rfl, rfl, rfl⟩ ?_; intro b w2 H2 F
      exact hK _ _ F.below ⟨b, rfl, H2.holds _ (List.mem_cons_self ..)⟩
    · intro x0 x1 x2 x3 x4 x5 x6 x7 w' hb' e1 e2 e4
      have H' := H.drew.grow (Frm.of_below hb')
      replace e1 := isV_eq e1; subst e1
      replace e2 := isV_eq e2; subst e2
      obtain ⟨b', rfl, h4⟩ := e4
      refine free_gen ((((((((E.put (d := 8) rfl).put (d := 9) rfl).put (d := 10) rfl).put (d := 11) rfl).put (d := 12) rfl).put (d := 13) rfl).put (d := 14) rfl).put (d := 5) rfl) (fun a E => ?_); refine F_eff E rfl (fun K hK => ?_); refine eff_bslice (sz := 1) (z := [.one (.slice none 0 0), .one (.slice none 0 0), .one (.slice none 0 0)]) E H' rfl Tryd.underlying30 (by kernel_rfl) (by decide) (by kernel_rfl) ⟨_, [.one _], 0, _, rfl, rfl, rfl, rfl, ⟨_, [.one _], 1, _, rfl, rfl, rfl, rfl, ⟨_, [.one _], 2, _, rfl, rfl, rfl, rfl, rfl⟩⟩⟩ ?_; intro b w2 H2 F
      exact hK _ _ F.below ⟨b, b', rfl, H2.holds _ (List.mem_cons_self ..), (F.block b' (lt_of_block h4) (by simp)).trans h4⟩
    · intro x0 x1 x2 x3 x4 x5 x6 x7 w' hb' e0 e5
      have H' := H.drew.grow (Frm.of_below hb')
      replace e0 := isV_eq e0; subst e0
      obtain ⟨b, b', rfl, h5, h4⟩ := e5
      have hkk := txF_at (k := k) (c := 32) (St.low (H'.fact 0 rfl)) (by rw [cl_key, keyL_self hk32]) (by omega) (by omega) hkb
      have hz := txF_at (k := [((j + 1) % 256)]) (c := 1) (at_heap h4) rfl (by show 1 ≤ 1; decide) (by show 1 ≤ _; decide) (fun x hx => by rw [List.mem_singleton.1 hx]; exact Nat.mod_lt _ (by decide))
      have hli := liF_at (T := TextT) (its := [((last, (LA, lc)) : List Nat × TextT.μ), (info, (IA, ic)), ([((j + 1) % 256)], (some ⟨b', 0, none⟩, 1))]) (c := 3) (xs := [last, info, [((j + 1) % 256)]]) (at_heap h5) rfl (nest_snoc (its := [_, _]) (q := (([((j + 1) % 256)], (some ⟨b', 0, none⟩, 1)) : List Nat × TextT.μ)) (nest_snoc (its := [_]) (q := ((info, (IA, ic)) : List Nat × TextT.μ)) (nest_snoc (its := []) (q := ((last, (LA, lc)) : List Nat × TextT.μ)) nest_nil (St.low (H'.fact 2 rfl))) (St.low (H'.fact 3 rfl))) hz) rfl (by show 3 ≤ 3; decide) (by show 3 ≤ _; decide)
      refine free_gen ((((((((E.put (d := 8) rfl).put (d := 9) rfl).put (d := 10) rfl).put (d := 11) rfl).put (d := 12) rfl).put (d := 13) rfl).put (d := 14) rfl).put (d := 5) rfl) (fun a E => ?_); refine F_eff E rfl (fun K hK => ?_); refine eff_call E rfl rfl rfl (by kernel_rfl) ?_
      rw [show (Value.slice (some ⟨b3, 0, none⟩) 32 32) = .slice (some ⟨b3, 0, none⟩) k.length 32 from by rw [hk32]]
      refine (Mac_any (X := []) (key := k) (ps := [last, info, [((j + 1) % 256)]]) (by omega) hps (by show 3 ≤ 900000; decide) (fun _ h => by cases h) hkk hli (St.low (H'.fact 4 rfl))).mono ?_; rintro e w2 ⟨rfl, H2⟩
      exact hK _ _ H2.frm.below rfl
    · intro x0 x1 x2 x3 x4 x5 x6 x7 w' hb'
      exact F_alloc ((((((((E.put (d := 8) rfl).put (d := 9) rfl).put (d := 10) rfl).put (d := 11) rfl).put (d := 12) rfl).put (d := 13) rfl).put (d := 14) rfl).put (d := 5) rfl) rfl (z := [.key []]) (by kernel_rfl) rfl (fun w2 h => ⟨_, rfl, hb'.size, h⟩)
  simp only [List.take_succ_cons, List.take_zero, List.drop_succ_cons, List.drop_zero, allV, under, factAt, fillA, List.getElem?_cons_zero, List.getElem?_cons_succ, List.range_succ, List.range_zero, List.nil_append, List.cons_append]
  intro x0 x1 x2 x3 x4 x5 x6 x7 w' hb' e0 e1 e2 e3 e4 e5 e6 e7
  replace e6 := isV_eq e6; subst e6
  obtain ⟨b5, rfl, hB5, h5⟩ := e7
  refine @act_gen _ _ _ _ _ _ _ _ ((((((((E.put (d := 8) rfl).put (d := 9) rfl).put (d := 10) rfl).put (d := 11) rfl).put (d := 12) rfl).put (d := 13) rfl).put (d := 14) rfl).put (d := 5) rfl) ?_
  have H' := H.drew.own (Frm.of_below hb') (q := .blk b5 (ca [.key []]) 23) h5 (by intro k hk; simp only [Res.keys, List.mem_singleton] at hk; rw [hk]; exact hB5) (by simp [Res.keys])
  clear H E e0 e1 e2 e3 e4 e5 h5 hB5; intro a E
  have H := H'
  clear H'; refine S_eff E rfl (fun K hK => ?_); refine eff_store 0 E H rfl rfl rfl rfl rfl (by repeat (first | exact trivial | refine ⟨rfl, ?_⟩ | refine ⟨fun _ _ => rfl, ?_⟩)) rfl (by kernel_rfl) rfl ?_; clear H; intro w H F; replace H : Sep _ _ _ _ [_, _, _] _ := H; clear F; refine hK _ _ ?_; clear hK K; refine S_put0 rfl ?_; refine hK2 _ _ ?_; refine wp_seq_k fun K3 hK3 => ?_

  refine S_region ?_; refine S_val E (pk_subP (N := 32) (sz := 1) rfl (by kernel_rfl) rfl) rfl rfl rfl ?_; clear E a; intro a E; refine S_eff E rfl (fun K hK => ?_); refine eff_store 2 (new := [.one _]) E H rfl rfl rfl rfl rfl (by repeat (first | exact trivial | refine ⟨rfl, ?_⟩ | refine ⟨fun _ _ => rfl, ?_⟩)) rfl (by kernel_rfl) rfl ?_; clear H; intro w H _; replace H : Sep _ _ _ _ [_, _, _] _ := H; refine hK _ _ ?_; clear hK K; refine S_put0 rfl ?_; refine hK3 _ _ ?_; refine wp_seq_k fun K4 hK4 => ?_; refine S_region ?_; refine S_val E (pk_load1 H 2 rfl rfl rfl trivial rfl (by kernel_rfl)) rfl rfl rfl ?_; clear E a; intro a E; refine S_val E (pk_assign rfl rfl) rfl rfl rfl ?_; clear E a; intro a E; refine hK4 _ _ ?_; refine wp_ret ?_
  repeat (first | refine then_ret ?_ | refine block_ret ?_)
  refine ret1 rfl E (resT rfl) ?_
  have hX : ∀ i ∈ (Res.blk b5 (ca [.key (macV gt k [last, info, [((j + 1) % 256)]])]) 23).keys, i ∉ X := fun i hi => H.keys_x hd i (by simp only [keysR, List.mem_append]; exact .inl hi)
  have hT := txF_at (k := (macV gt k [last, info, [((j + 1) % 256)]])) (c := 32) (((H.freezeX hX).fact 0 rfl).imp fun w h => at_blk (t := 23) (fr := (0, 0)) h) (by rw [cl_key, keyL_self (macV_len _ _ _)]) (by rw [macV_len]; omega) (by rw [macV_len]; omega) (macV_byte _ _ _)
  exact ⟨b5, rfl, ((H.freezeX hX).know hT).refacts (List.forall_mem_cons.2 ⟨((H.freezeX hX).know hT).fact 0 rfl, List.forall_mem_nil _⟩)⟩
end Go.Proofs.YtlhhfngkfbbckaaDoor
namespace Go.Proofs.YtlhhfngkfbbckaaDoor
set_option linter.unusedSimpArgs false
set_option linter.unusedVariables false
open Go.RowKit


def exT (gt : Nat → Nat) (k info : List Nat) : Nat → List Nat × List Nat
  | 0 => ([], [])
  | j + 1 => (macV gt k [(exT gt k info j).1, info, [j + 1]], (exT gt k info j).2 ++ macV gt k [(exT gt k info j).1, info, [j + 1]])
/-- So many bytes of a key. -/
def expV (gt : Nat → Nat) (k info : List Nat) (n : Nat) : List Nat := (exT gt k info ((n + 31) / 32)).2.take n
theorem exT_succ {gt : Nat → Nat} {k info last out : List Nat} {j : Nat} (h : exT gt k info j = (last, out)) : exT gt k info (j + 1) = (macV gt k [last, info, [j + 1]], out ++ macV gt k [last, info, [j + 1]]) := by rw [exT, h]
theorem exT_len (gt : Nat → Nat) (k info : List Nat) : ∀ j, (exT gt k info j).2.length = 32 * j ∧ (exT gt k info j).1.length ≤ 32 ∧ (∀ x ∈ (exT gt k info j).2, x < 256)
  | 0 => ⟨rfl, by show 0 ≤ 32; decide, fun x hx => by cases hx⟩
  | j + 1 => by
    obtain ⟨h1, _, h3⟩ := exT_len gt k info j
    refine ⟨?_, ?_, ?_⟩
    · rw [exT, List.length_append, h1, macV_len]; omega
    · rw [exT]; show (macV _ _ _).length ≤ 32; rw [macV_len]; omega
    · rw [exT]
      intro x hx
      rcases List.mem_append.1 hx with h | h
      · exact h3 x h
      · exact macV_byte _ _ _ x h
theorem expV_len (gt : Nat → Nat) (k info : List Nat) (n : Nat) : (expV gt k info n).length = n := by
  unfold expV
  rw [List.length_take, (exT_len gt k info _).1]
  omega
theorem expV_byte (gt : Nat → Nat) (k info : List Nat) (n : Nat) : ∀ x ∈ expV gt k info n, x < 256 := fun x hx => (exT_len gt k info _).2.2 x (List.mem_of_mem_take hx)
attribute [local irreducible] addW xorW andW orW shlW shrW smallW greatW wordV blockF sumV macV
section
variable {P : Program} {o : Oper} {ws w : World} {l : List (Nat × Value)} {S : Nat → Prop}
theorem pk_sub_hm {t sz : Nat} {A : Option Addr} {n c hi mx : Nat} {x xh xm : Operand} {k i : Int} (ho : o.op = .slice t x none (some xh) (some xm)) (ht : elK P t = some sz) (hx : ev l x = some (.slice A n c)) (hh : ev l xh = some (.int .i64 k)) (hm : ev l xm = some (.int .i64 i)) (hk : k = (hi : Int)) (hi' : i = (mx : Int)) (hhm : hi ≤ mx) (hc : mx ≤ c) : PK P S ws l o (subSl A sz 0 hi mx) :=
  pk_sub ho ht hx fun a N w E => by
    unfold Instr.sliceBounds
    simp [E.ev hh, E.ev hm, run_bound hk hhm, run_bound hi' hc, Sem.run_bind]
theorem txF_cap {A : Option Addr} {c c' : Nat} {k : List Nat} {Y : List Nat} (h : St (TxF A c k) w Y) (hc : k.length = c') : St (TxF A c' k) w Y := fun w' hk => by
  have h' := h w' hk
  exact ⟨by omega, h'.len, h'.byt, fun hA => ⟨(h'.nil hA).1, by have := (h'.nil hA).1; omega⟩, h'.at_⟩
end
set_option maxRecDepth 100000 in
set_option maxHeartbeats 1000000 in
theorem Expand_any {n ic : Nat} {IA : Option Addr} {k info : List Nat} {gt : Nat → Nat} (hk32 : k.length = 32) (hkb : ∀ x ∈ k, x < 256) (hn : n ≤ 8160) (hi20 : info.length ≤ 1048576) {X : List Nat} {w0 : World} (hX : ∀ k ∈ X, k < w0.heap.size) (hI : St (TxF IA ic info) w0 X) (hG : St (AtC ⟨2, 0, none⟩ [.row 64 fun i => u32 (gt i)]) w0 X) :
    Calls Tryd.prog 24 #[.agg (ca [.key k]), .slice IA info.length ic, .int .i64 ((n : Nat) : Int)] w0 fun e w' => ∃ A' c', e = .returned (.tuple #[.slice A' n c', .int .i64 0]) ∧ Sep X [] w0 w' [] [TxF A' c' (expV gt k info n)] := by
  have hil : info.length ≤ 100000000 := by omega
  refine calls_env Tryd.ntmps24 Tryd.func24 rfl rfl fun a E => ?_; replace E : Env a _ [(0, _), (1, _), (2, _)] := E
  have H : Sep X [] w0 w0 [] [(TxF IA ic info), (AtC ⟨2, 0, none⟩ [.row 64 fun i => u32 (gt i)])] := Sep.start hX (List.forall_mem_cons.2 ⟨hI, List.forall_mem_cons.2 ⟨hG, fun _ h => by cases h⟩⟩)
  refine wp_seq_k fun K0 hK0 => ?_; refine S_region ?_; refine S_eff E rfl (fun K hK => ?_); refine eff_box E H rfl rfl rfl ?_; clear H; intro b3 w H _; refine hK _ _ ?_; clear hK K; refine S_put E rfl rfl ?_; clear E a; intro a E; refine S_eff E rfl (fun K hK => ?_); refine eff_box (z := [.one _]) E H rfl rfl rfl ?_; clear H; intro b4 w H _; refine hK _ _ ?_; clear hK K; refine S_put E rfl rfl ?_; clear E a; intro a E; refine S_val E (pk_assign rfl rfl) rfl rfl rfl ?_; clear E a; intro a E; refine S_val E (pk_assign rfl rfl) rfl rfl rfl ?_; clear E a; intro a E; refine hK0 _ _ ?_; refine wp_seq_k fun K1 hK1 => ?_; refine wp_block ?_; refine wp_seq_k fun K2 hK2 => ?_; refine S_region ?_; refine S_val E (pk_move rfl rfl) rfl rfl rfl ?_; clear E a; intro a E
  refine S_val E (pk_int (v := .bool false) rfl rfl rfl (congrArg (fun b => some (Value.bool b)) (decide_eq_false (by omega)))) rfl rfl rfl ?_; clear E a; intro a E; refine S_val E (pk_move rfl rfl) rfl rfl rfl ?_; clear E a; intro a E; refine S_val E (pk_move rfl rfl) rfl rfl rfl ?_; clear E a; intro a E; refine S_val E (pk_int (v := .bool false) rfl rfl rfl (congrArg (fun b => some (Value.bool b)) (decide_eq_false (by omega)))) rfl rfl rfl ?_; clear E a; intro a E; refine S_val E (pk_pick rfl rfl rfl) rfl rfl rfl ?_; clear E a; intro a E; refine S_val E (pk_assign rfl rfl) rfl rfl rfl ?_; clear E a; intro a E; refine hK2 _ _ ?_; refine S_else E rfl ?_; refine wp_seq_k fun K3 hK3 => ?_; refine S_region ?_; refine S_val E (pk_load1 H 0 rfl rfl rfl trivial rfl (by kernel_rfl)) rfl rfl rfl ?_; clear E a; intro a E; refine S_val E (pk_len rfl rfl (by kernel_rfl)) rfl rfl rfl ?_; clear E a
  intro a E; refine S_val E (pk_int (v := .bool false) rfl rfl rfl (congrArg (fun b => some (Value.bool b)) (decide_eq_false (by omega)))) rfl rfl rfl ?_; clear E a; intro a E; refine S_val E (pk_assign rfl rfl) rfl rfl rfl ?_; clear E a; intro a E; refine hK3 _ _ ?_; refine S_else E rfl ?_; refine wp_skip ?_; refine hK1 _ _ ?_; refine wp_seq_k fun K4 hK4 => ?_; refine S_region ?_; refine S_eff E rfl (fun K hK => ?_); refine eff_alloc (z := [.one (.slice none 0 0)]) H rfl (by kernel_rfl) ?_; clear H; intro b8 w H _; refine hK _ _ ?_; clear hK K; refine S_put E rfl rfl ?_; clear E a; intro a E; refine hK4 _ _ ?_; refine wp_seq_k fun K5 hK5 => ?_; refine S_region ?_; refine S_eff E rfl (fun K hK => ?_); refine eff_alloc (z := [.one (.int .u8 0)]) H rfl (by kernel_rfl) ?_; clear H; intro b9 w H _; refine hK _ _ ?_; clear hK K; refine S_put E rfl rfl ?_; clear E a; intro a E
  refine S_eff E rfl (fun K hK => ?_); refine eff_store 0 (new := [.one _]) E H rfl rfl rfl rfl rfl (by repeat (first | exact trivial | refine ⟨rfl, ?_⟩ | refine ⟨fun _ _ => rfl, ?_⟩)) rfl (by kernel_rfl) rfl ?_; clear H; intro w H _; replace H : Sep _ _ _ _ [_, _, _, _] _ := H; refine hK _ _ ?_; clear hK K; refine S_put0 rfl ?_; refine hK5 _ _ ?_; refine wp_seq_k fun K6 hK6 => ?_; refine S_region ?_; refine S_val E (pk_makeFunc rfl rfl rfl) rfl rfl rfl ?_; clear E a; intro a E; refine S_val E (pk_assign rfl rfl) rfl rfl rfl ?_; clear E a; intro a E; refine hK6 _ _ ?_; refine wp_seq_k fun K7 hK7 => ?_; refine S_region ?_; refine S_val E (pk_move rfl rfl) rfl rfl rfl ?_; clear E a; intro a E; refine S_val E (pk_intw rfl rfl rfl rfl (wI64 (by omega) (by omega))) rfl rfl rfl ?_; clear E a; intro a E; refine S_eff E rfl (fun K hK => ?_)
  refine eff_make (n := 0) (c := n + 64) E H rfl ⟨Tryd.underlying24, Tryd.underlying5, by kernel_rfl⟩ rfl rfl rfl (by omega) (by omega) (by omega) ?_; clear H; intro b26 w H F; refine hK _ _ ?_; clear hK K; refine S_put E rfl rfl ?_; clear E a; intro a E; clear F
  replace H := H.rowOf (n := 0) (by omega) (by omega)
  replace H : Sep _ _ _ _ [_, _, _] [_, _, _, _] := (H.lend 4 rfl).lend 3 rfl; refine S_val E (pk_assign rfl rfl) rfl rfl rfl ?_; clear E a; intro a E; refine hK7 _ _ ?_; refine wp_seq_k fun K8 hK8 => ?_; refine wp_block ?_
  refine S_loopI (γ := Nat × List Nat × List Nat × Option Addr × Nat × Option Addr × Nat) [2, 10] (fun g => [(11, .slice g.2.2.2.2.2.1 g.2.2.1.length g.2.2.2.2.2.2)]) (fun g => [.blk b9 (ca [.one (bv g.1)]) 5, .blk b8 (ca [.one (.slice g.2.2.2.1 g.2.1.length g.2.2.2.2.1)]) 24, .row (.slice g.2.2.2.2.2.1 g.2.2.1.length g.2.2.2.2.2.2) 5 1 g.2.2.1.length (g.2.2.1.map bv)]) (fun g => [TxF g.2.2.2.1 g.2.2.2.2.1 g.2.1, AtC ⟨b4, 0, none⟩ [.one (.slice IA info.length ic)], AtC ⟨b3, 0, none⟩ [.key k], TxF IA ic info, AtC ⟨2, 0, none⟩ [.row 64 fun i => u32 (gt i)]]) (fun g => g.1 * 32 < n + 32 ∧ exT gt k info g.1 = (g.2.1, g.2.2.1)) (fun g => 8192 - g.1 * 32) ((0, [], [], none, 0, some ⟨b26, 0, none⟩, n + 64)) E ((H.know txF_nil).perm ((List.Perm.swap _ _ _).trans (List.Perm.cons _ (List.Perm.swap _ _ _)))) (by repeat (first | exact trivial | refine ⟨rfl, ?_⟩)) (⟨by show 0 * 32 < n + 32; omega, rfl⟩) ?_
  clear E H; intro g a w E H hφ; replace E : Env a _ [(11, _), (2, _), (10, _)] := E; replace H : Sep _ _ _ _ [_, _, _] [_, _, _, _, _] := H
  obtain ⟨j, last, out, LA, lc, OA, oc⟩ := g
  simp only at E H hφ ⊢
  obtain ⟨hj, hex0⟩ := hφ
  have hex := exT_len gt k info j
  rw [hex0] at hex
  simp only at hex
  refine wp_seq_k fun K9 hK9 => ?_; refine wp_seq_k fun K10 hK10 => ?_; refine S_region ?_; refine S_val E (pk_move rfl rfl) rfl rfl rfl ?_; clear E a; intro a E; refine S_val E (pk_len rfl rfl (by kernel_rfl)) rfl rfl rfl ?_; clear E a; intro a E; refine S_val E (pk_move rfl rfl) rfl rfl rfl ?_; clear E a; intro a E; refine S_val E (pk_int rfl rfl rfl rfl) rfl rfl rfl ?_; clear E a; intro a E; refine hK10 _ _ ?_; refine env_split (d := 30) E rfl ?_ ?_
  · skip
    clear E; intro c30 E
    have hlt : out.length < n := by have := c30; simp only [decide_eq_true_eq] at this; omega
    refine S_then E rfl ?_; refine wp_skip ?_; refine hK9 _ _ ?_; refine wp_block ?_; refine S_region ?_; refine S_val E (pk_move rfl rfl) rfl rfl rfl ?_; clear E a; intro a E; refine S_val E (pk_move rfl rfl) rfl rfl rfl ?_; clear E a; intro a E; refine S_eff E rfl (fun K hK => ?_); refine eff_call E rfl rfl rfl (by kernel_rfl) ?_
    have HG := (Sep.giveA (L1 := [_, _]) (L := [_]) H).refacts (R' := [_, _, _, _, _]) (List.forall_mem_cons.2 ⟨(Sep.giveA (L1 := [_, _]) (L := [_]) H).fact 2 rfl, List.forall_mem_cons.2 ⟨(Sep.giveA (L1 := [_, _]) (L := [_]) H).fact 1 rfl, List.forall_mem_cons.2 ⟨(Sep.giveA (L1 := [_, _]) (L := [_]) H).fact 0 rfl, List.forall_mem_cons.2 ⟨(Sep.giveA (L1 := [_, _]) (L := [_]) H).fact 3 rfl, List.forall_mem_cons.2 ⟨(Sep.giveA (L1 := [_, _]) (L := [_]) H).fact 4 rfl, List.forall_mem_nil _⟩⟩⟩⟩⟩)
    have HD := Sep.giveD (L1 := [_, _]) (L := [_]) H
    refine (more_any (b9 := b9) (b3 := b3) (b8 := b8) (b4 := b4) (j := j) (k := k) (last := last) (info := info) hk32 hkb (by have := hex.2.1; omega) hil HG.xlt HG HD).mono ?_; rintro e w ⟨g33, rfl, H1⟩
    replace H := Sep.callA (L1 := [_, _]) (L := [_]) H H1
    clear H1; replace H : Sep _ _ _ _ [_, _, _] [_, _, _, _, _, _] := H; refine hK _ _ ?_; clear hK K; refine S_put E rfl rfl ?_; clear E a; intro a E; clear HG HD
    rw [show (j + 1) % 256 = j + 1 from Nat.mod_eq_of_lt (by omega)] at H
    rw [show Value.slice (some ⟨g33, 0, none⟩) 32 32 = .slice (some ⟨g33, 0, none⟩) (macV gt k [last, info, [j + 1]]).length 32 from by rw [macV_len]] at E H
    refine S_eff E rfl (fun K hK => ?_); refine eff_appT (k := out) (m := (macV gt k [last, info, [j + 1]])) 2 E H (H.fact 0 rfl) rfl rfl rfl rfl ⟨Tryd.underlying24, by kernel_rfl⟩ (by rw [macV_len]; omega) ?_; clear H; intro A34 c34 w H F; replace H : Sep _ _ _ _ [_, _, _] _ := H; refine hK _ _ ?_; clear hK K; refine S_put E rfl rfl ?_; clear E a; intro a E; clear F; refine S_val E (pk_assign rfl rfl) rfl rfl rfl ?_; clear E a; intro a E; refine block_norm (loop_end ?_)
    exact ⟨(j + 1, (macV gt k [last, info, [j + 1]]), out ++ (macV gt k [last, info, [j + 1]]), some ⟨g33, 0, none⟩, 32, A34, c34), ⟨E.to (by repeat (first | exact trivial | refine ⟨rfl, ?_⟩)), H.drop1, ⟨by show (j + 1) * 32 < n + 32; omega, exT_succ hex0⟩⟩, by show 8192 - (j + 1) * 32 < 8192 - j * 32; omega⟩
  · skip
    clear E; intro c30 E
    have hge : ¬ out.length < n := by have := c30; simp only [decide_eq_false_iff_not] at this; omega
    obtain rfl : j = (n + 31) / 32 := by omega
    refine S_else E rfl ?_; refine wp_exit ?_
    repeat (first | refine then_exit ?_ | refine block_hit ?_ | refine block_miss (by decide) ?_)
    refine hK8 _ _ ?_; refine wp_seq_k fun K11 hK11 => ?_; refine S_region ?_; refine S_val E (pk_move rfl rfl) rfl rfl rfl ?_; clear E a; intro a E; refine S_val E (pk_move rfl rfl) rfl rfl rfl ?_; clear E a; intro a E; refine S_val E (pk_move rfl rfl) rfl rfl rfl ?_; clear E a; intro a E
    have hoc : out.length ≤ oc := row_cap (H.holds _ (by simp) : (Res.row (.slice OA out.length oc) 5 1 out.length (out.map bv)).holds w)
    refine S_val E (pk_sub_hm (sz := 1) (hi := n) (mx := n) rfl (by kernel_rfl) rfl rfl rfl rfl rfl (Nat.le_refl _) (by omega)) rfl rfl rfl ?_; clear E a; intro a E
    rw [sub_zero] at E
    refine S_val E (pk_assign rfl rfl) rfl rfl rfl ?_; clear E a; intro a E; refine S_val E (pk_assign rfl rfl) rfl rfl rfl ?_; clear E a; intro a E; refine hK11 _ _ ?_; refine wp_ret ?_
    repeat (first | refine then_ret ?_ | refine block_ret ?_)
    refine ret2 rfl E (resT rfl) (resT rfl) ?_
    have hT := ((H.at_ 2 _ rfl).rowTx (Sep.new_x (H.at_ 2 _ rfl)) (by omega) hex.2.2)
    have hT2 := txF_cap (c' := n) (txF_take (hi := n) (hT.fact 0 rfl) (by omega)) (by rw [List.length_take]; omega)
    rw [show out.take n = expV gt k info n from by rw [expV, hex0]] at hT2
    exact ⟨OA, n, rfl, (((hT.know hT2).refacts (List.forall_mem_cons.2 ⟨(hT.know hT2).fact 0 rfl, List.forall_mem_nil _⟩)).popL).popL⟩
end Go.Proofs.YtlhhfngkfbbckaaDoor
