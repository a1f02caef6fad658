/- SHA-256: the sum. SHA-256: the sum of parts. Sums with a key. Sums held against one another; bytes made of a key, turn by turn. Bytes made of a key. The walk of the reference's Bytes. The walks of a number's bytes: wire.Num at one number, and the reference's. wire.Num at one number, behind a text. What layer 4 computes, on bytes as integers: the boxes and how they are found; no program is in sight. What layer 4 computes, on bytes as integers: a key's keys; no program is in sight. The reference's product of bytes, on numbers; no program is in sight. What layer 4 computes: a block's rounds; no p -/
import Derived.Test.YtfolbgiekbimpaaDoorKemBackB
import Derived.KernelRfl
import Derived.Deep.OwnRows
namespace Go.Proofs.YtfolbgiekbimpaaDoor
set_option linter.unusedSimpArgs false
set_option linter.unusedVariables false
open Go.RowKit


def iv0 : Nat → Nat
  | 0 => 1779033703
  | 1 => 3144134277
  | 2 => 1013904242
  | 3 => 2773480762
  | 4 => 1359893119
  | 5 => 2600822924
  | 6 => 528734635
  | _ => 1541459225
def padV (n : Nat) : List Nat := 128 :: List.replicate (63 - (n + 8) % 64) 0
def bitB (m j : Nat) : List Nat := (List.range j).map fun q => m / 2 ^ (8 * (7 - q)) % 256
def tailV (n : Nat) : List Nat := padV n ++ bitB (n * 2 ^ 3 % 18446744073709551616) 8
def wordB (x : Nat) : List Nat := [shrW x 24 % 256, shrW x 16 % 256, shrW x 8 % 256, x % 256]
def wordsB (h : Nat → Nat) (n : Nat) : List Nat := (List.range n).flatMap fun i => wordB (h i)
def finV (gt h : Nat → Nat) (n : Nat) (rest : List Nat) : List Nat := wordsB (feed gt h (rest ++ tailV n)).1 8
def takeV (gt : Nat → Nat) (s : (Nat → Nat) × Nat × List Nat) (b : List Nat) : (Nat → Nat) × Nat × List Nat := ((feed gt s.1 (s.2.2 ++ b)).1, s.2.1 + b.length, (feed gt s.1 (s.2.2 ++ b)).2)
def shaAll (gt : Nat → Nat) (ps : List (List Nat)) : (Nat → Nat) × Nat × List Nat := ps.foldl (takeV gt) (iv0, 0, [])
/-- The sum of parts. -/
def sumV (gt : Nat → Nat) (ps : List (List Nat)) : List Nat := finV gt (shaAll gt ps).1 (shaAll gt ps).2.1 (shaAll gt ps).2.2
theorem wordsB_succ (h : Nat → Nat) (n : Nat) : wordsB h (n + 1) = wordsB h n ++ wordB (h n) := by
  unfold wordsB
  rw [List.range_succ, List.flatMap_append]
  simp
theorem wordsB_len (h : Nat → Nat) : ∀ n, (wordsB h n).length = 4 * n
  | 0 => rfl
  | n + 1 => by rw [wordsB_succ, List.length_append, wordsB_len h n]; simp [wordB]; omega
theorem wordB_byte (x : Nat) : ∀ z ∈ wordB x, z < 256 := fun z hz => by
  simp only [wordB, List.mem_cons, List.not_mem_nil, or_false] at hz
  omega
theorem wordsB_byte (h : Nat → Nat) (n : Nat) : ∀ z ∈ wordsB h n, z < 256 := fun z hz => by
  obtain ⟨i, _, hi⟩ := List.mem_flatMap.1 hz
  exact wordB_byte _ z hi
theorem sumV_len (gt : Nat → Nat) (ps : List (List Nat)) : (sumV gt ps).length = 32 := wordsB_len _ 8
theorem sumV_byte (gt : Nat → Nat) (ps : List (List Nat)) : ∀ z ∈ sumV gt ps, z < 256 := wordsB_byte _ 8
theorem padV_len (n : Nat) : (padV n).length = 64 - (n + 8) % 64 := by
  have : (n + 8) % 64 < 64 := Nat.mod_lt _ (by decide)
  simp only [padV, List.length_cons, List.length_replicate]
  omega
theorem padV_cells (n : Nat) (f : Nat → Value) (hf : ∀ j, f j = bv (if j = 0 then 128 else 0)) : (List.range (64 - (n + 8) % 64)).map f = (padV n).map bv := by
  have : (n + 8) % 64 < 64 := Nat.mod_lt _ (by decide)
  apply List.ext_getElem?
  intro j
  by_cases hj : j < 64 - (n + 8) % 64
  · simp only [List.getElem?_map, List.getElem?_range hj, Option.map_some, hf]
    cases j with
    | zero => rfl
    | succ j => simp only [padV, List.getElem?_cons_succ, List.getElem?_replicate, if_pos (show j < 63 - (n + 8) % 64 by omega)]; rfl
  · rw [List.getElem?_eq_none (by simp; omega), List.getElem?_eq_none (by rw [List.length_map, padV_len]; omega)]
theorem padV_byte (n : Nat) : ∀ z ∈ padV n, z < 256 := fun z hz => by
  rcases List.mem_cons.1 hz with rfl | h
  · decide
  · rw [(List.mem_replicate.1 h).2]; decide
theorem bitB_succ (m j : Nat) : bitB m (j + 1) = bitB m j ++ [m / 2 ^ (8 * (7 - j)) % 256] := by
  unfold bitB; rw [List.range_succ, List.map_append]; rfl
theorem bitB_len (m j : Nat) : (bitB m j).length = j := by simp [bitB]
theorem bitB_byte (m j : Nat) : ∀ z ∈ bitB m j, z < 256 := fun z hz => by
  obtain ⟨q, _, rfl⟩ := List.mem_map.1 hz
  exact Nat.mod_lt _ (by decide)
theorem shaAll_succ {gt : Nat → Nat} {ps : List (List Nat)} {i : Nat} {b : List Nat} (hi : ps[i]? = some b) : shaAll gt (ps.take (i + 1)) = takeV gt (shaAll gt (ps.take i)) b := by
  unfold shaAll
  rw [List.take_add_one, hi, List.foldl_append]
  rfl
theorem feed_byte (gt : Nat → Nat) : ∀ (n : Nat) (h : Nat → Nat) (l : List Nat), l.length ≤ n → (∀ x ∈ l, x < 256) → ∀ x ∈ (feed gt h l).2, x < 256
  | 0, h, l, hl, hb => by rw [feed_end (by omega)]; exact hb
  | n + 1, h, l, hl, hb => by
    by_cases h1 : 64 ≤ l.length
    · rw [feed_step h1]; exact feed_byte gt n _ _ (by rw [List.length_drop]; omega) fun x hx => hb x (List.mem_of_mem_drop hx)
    · rw [feed_end h1]; exact hb
attribute [local irreducible] addW xorW andW orW shlW shrW smallW greatW wordV blockF
section
variable {P : Program} {o : Oper} {ws : World} {l : List (Nat × Value)} {S : Nat → Prop} {t u : TypeId} {x y : Operand} {m n : Nat}
theorem pk_shlU {k' : IntKind} {j : Int} {k : Nat} (ho : o.op = .binOp .shl t x y u) (hx : ev l x = some (.int .u64 ((m : Nat) : Int))) (hy : ev l y = some (.int k' j)) (hj : j = (k : Int)) (hk : k ≤ 64) : PK P S ws l o (.int .u64 ((m * 2 ^ k % 18446744073709551616 : Nat) : Int)) := by
  have h := pk_shl (S := S) (ws := ws) (P := P) ho hx hy (by omega)
  have e : IntKind.u64.wrap ((m : Int) * 2 ^ (min j.toNat IntKind.u64.bits)) = ((m * 2 ^ k % 18446744073709551616 : Nat) : Int) := by
    rw [← wrapN64, hj, Int.toNat_natCast]
    have : IntKind.u64.bits = 64 := rfl
    rw [this, Nat.min_eq_left hk]
    norm_cast
  rw [e] at h
  exact h
end
set_option maxRecDepth 100000 in
set_option maxHeartbeats 400000 in
theorem shaNew_any  {X : List Nat} {w0 : World} (hX : ∀ k ∈ X, k < w0.heap.size) :
    Calls Tryd.prog 68 #[] w0 fun e w' => e = .returned (.agg (ca [.row 8 (fun i => u32 (iv0 i)), .one (.int .u64 0), .one (.slice none 0 0)])) ∧ Sep X [] w0 w' [] [] := by
  refine calls_env Tryd.ntmps68 Tryd.func68 rfl rfl fun a E => ?_; replace E : Env a _ [] := E
  have H : Sep X [] w0 w0 [] [] := Sep.start hX (fun _ h => by cases h)
  refine wp_seq_k fun K0 hK0 => ?_; refine S_region ?_; refine S_eff E rfl (fun K hK => ?_); refine eff_alloc (z := [.row 8 fun _ => .int .u32 0, .one (.int .u64 0), .one (.slice none 0 0)]) H rfl (by kernel_rfl) ?_; clear H; intro b0 w H _; refine hK _ _ ?_; clear hK K; refine S_put E rfl rfl ?_; clear E a; intro a E; refine hK0 _ _ ?_; refine wp_seq_k fun K1 hK1 => ?_; refine S_region ?_
  refine S_val E (pk_build8 (n := 8) (z := [.one (.int .u32 0), .one (.int .u32 0), .one (.int .u32 0), .one (.int .u32 0), .one (.int .u32 0), .one (.int .u32 0), .one (.int .u32 0), .one (.int .u32 0)]) (f := fun i => u32 (iv0 i)) rfl (by kernel_rfl) (by kernel_rfl) (⟨_, [.one _], 0, _, rfl, rfl, rfl, rfl, ⟨_, [.one _], 1, _, rfl, rfl, rfl, rfl, ⟨_, [.one _], 2, _, rfl, rfl, rfl, rfl, ⟨_, [.one _], 3, _, rfl, rfl, rfl, rfl, ⟨_, [.one _], 4, _, rfl, rfl, rfl, rfl, ⟨_, [.one _], 5, _, rfl, rfl, rfl, rfl, ⟨_, [.one _], 6, _, rfl, rfl, rfl, rfl, ⟨_, [.one _], 7, _, rfl, rfl, rfl, rfl, rfl⟩⟩⟩⟩⟩⟩⟩⟩) rfl) rfl rfl rfl ?_; clear E a; intro a E; refine S_val E (pk_build (z := [.row 8 fun _ => .int .u32 0, .one (.int .u64 0), .one (.slice none 0 0)]) rfl (by kernel_rfl) (by kernel_rfl) ⟨_, _, 0, _, rfl, rfl, (by kernel_rfl), rfl, rfl⟩) rfl rfl rfl ?_; clear E a; intro a E
  refine S_eff E rfl (fun K hK => ?_); refine eff_store 0 E H rfl rfl rfl rfl rfl (by repeat (first | exact trivial | refine ⟨rfl, ?_⟩ | refine ⟨fun _ _ => rfl, ?_⟩)) rfl (by kernel_rfl) rfl ?_; clear H; intro w H _; replace H : Sep _ _ _ _ [_] _ := H; refine hK _ _ ?_; clear hK K; refine S_put0 rfl ?_; refine hK1 _ _ ?_; refine wp_ret ?_
  repeat (first | refine then_ret ?_ | refine block_ret ?_)
  refine ret1 rfl E (by exact resC (n := 10) H 0 rfl rfl rfl (by kernel_rfl)) ?_
  exact ⟨rfl, H.popL⟩
set_option maxRecDepth 100000 in
set_option maxHeartbeats 1000000 in
theorem finish_any {n rc : Nat} {h gt : Nat → Nat} {RA : Option Addr} {rest : List Nat} (hn : n ≤ 1000000000000000000) (hrl : rest.length ≤ 64) {X : List Nat} {w0 : World} (hX : ∀ k ∈ X, k < w0.heap.size) (hR : St (TxF RA rc rest) w0 X) (hG : St (AtC ⟨1, 0, none⟩ [.row 64 fun i => u32 (gt i)]) w0 X) :
    Calls Tryd.prog 70 #[.agg (ca [.row 8 (fun i => u32 (h i)), .one (.int .u64 ((n : Nat) : Int)), .one (.slice RA rest.length rc)])] w0 fun e w' => e = .returned (.agg (ca [.key (finV gt h n rest)])) ∧ Sep X [] w0 w' [] [] := by
  have hRb := hR.now.byt
  refine calls_env Tryd.ntmps70 Tryd.func70 rfl rfl fun a E => ?_; replace E : Env a _ [(0, _)] := E
  have H : Sep X [] w0 w0 [] [(TxF RA rc rest), (AtC ⟨1, 0, none⟩ [.row 64 fun i => u32 (gt i)])] := Sep.start hX (List.forall_mem_cons.2 ⟨hR, List.forall_mem_cons.2 ⟨hG, fun _ h => by cases h⟩⟩)
  refine wp_seq_k fun K0 hK0 => ?_; refine S_region ?_; refine S_eff E rfl (fun K hK => ?_); refine eff_box E H rfl rfl rfl ?_; clear H; intro b1 w H _; refine hK _ _ ?_; clear hK K; refine S_put E rfl rfl ?_; clear E a; intro a E; refine S_eff E rfl (fun K hK => ?_); refine eff_alloc (z := [.key []]) H rfl (by kernel_rfl) ?_; clear H; intro b2 w H _; refine hK _ _ ?_; clear hK K; refine S_put E rfl rfl ?_; clear E a; intro a E; refine hK0 _ _ ?_; refine wp_seq_k fun K1 hK1 => ?_; refine S_region ?_; refine S_val E (pk_fieldAddr (off := 8) rfl rfl (by kernel_rfl)) rfl rfl rfl ?_; clear E a; intro a E; refine S_val E (pk_load1 H 1 rfl rfl rfl trivial rfl (by kernel_rfl)) rfl rfl rfl ?_; clear E a; intro a E; refine S_val E (pk_shlU (k := 3) rfl rfl rfl rfl (by decide)) rfl rfl rfl ?_; clear E a; intro a E; refine S_val E (pk_assign rfl rfl) rfl rfl rfl ?_; clear E a; intro a E
  refine hK1 _ _ ?_; refine wp_seq_k fun K2 hK2 => ?_; refine S_region ?_; refine S_val E (pk_fieldAddr (off := 8) rfl rfl (by kernel_rfl)) rfl rfl rfl ?_; clear E a; intro a E; refine S_val E (pk_load1 H 1 rfl rfl rfl trivial rfl (by kernel_rfl)) rfl rfl rfl ?_; clear E a; intro a E; refine S_val E (pk_intw rfl rfl rfl rfl (wU64 (by omega) (by omega))) rfl rfl rfl ?_; clear E a; intro a E; refine S_val E (pk_rem rfl rfl rfl (by decide)) rfl rfl rfl ?_; clear E a; intro a E
  rw [show (((n : Nat) : Int) + 8).tmod 64 = (((n + 8) % 64 : Nat) : Int) from (Int.ofNat_tmod (n + 8) 64).symm] at E
  have hmod : (n + 8) % 64 < 64 := Nat.mod_lt _ (by decide)
  refine S_val E (pk_convw rfl rfl (by kernel_rfl) (by kernel_rfl) (wI64 (by omega) (by omega))) rfl rfl rfl ?_; clear E a; intro a E; refine S_val E (pk_intw rfl rfl rfl rfl (wI64 (by omega) (by omega))) rfl rfl rfl ?_; clear E a; intro a E
  rw [show (64 : Int) - (((n + 8) % 64 : Nat) : Int) = ((64 - (n + 8) % 64 : Nat) : Int) from by omega] at E
  refine S_eff E rfl (fun K hK => ?_); refine eff_make (n := 64 - (n + 8) % 64) (c := 128) E H rfl ⟨Tryd.underlying32, Tryd.underlying5, by kernel_rfl⟩ rfl rfl rfl rfl (by omega) (by omega) ?_; clear H; intro b17 w H F; refine hK _ _ ?_; clear hK K; refine S_put E rfl rfl ?_; clear E a; intro a E; clear F; refine S_val E (pk_assign rfl rfl) rfl rfl rfl ?_; clear E a; intro a E; refine hK2 _ _ ?_; refine wp_seq_k fun K3 hK3 => ?_; refine S_region ?_; refine S_val E (pk_move rfl rfl) rfl rfl rfl ?_; clear E a; intro a E; refine S_val E (pk_elA (sz := 1) (i := 0) rfl rfl (by kernel_rfl) rfl rfl rfl (by omega)) rfl rfl rfl ?_; clear E a; intro a E; refine S_eff E rfl (fun K hK => ?_)
  refine eff_storeRowF (off := 0) (i := 0) (fun j => bv (if j = 0 then 128 else 0)) 0 E H rfl rfl rfl (show 0 < 128 by decide) rfl rfl rfl rfl rfl rfl (by kernel_rfl) (fun j => by unfold upd; split <;> rfl) rfl ?_; clear H; intro w H F; replace H : Sep _ _ _ _ [_, _, _] _ := H; refine hK _ _ ?_; clear hK K; refine S_put0 rfl ?_; clear F
  replace H := H.rowOf (n := 64 - (n + 8) % 64) (by omega) (by omega)
  rw [padV_cells n _ (fun j => rfl), ← padV_len n] at H
  rw [← padV_len n] at E
  refine hK3 _ _ ?_; refine wp_seq_k fun K4 hK4 => ?_; refine wp_seq_k fun K5 hK5 => ?_; refine S_region ?_; refine S_val E (pk_assign rfl rfl) rfl rfl rfl ?_; clear E a; intro a E; refine hK5 _ _ ?_; refine wp_block ?_
  refine S_loopI (γ := Nat × Option Addr × Nat) [1, 2, 3] (fun g => [(4, .slice g.2.1 (padV n ++ bitB (n * 2 ^ 3 % 18446744073709551616) g.1).length g.2.2), (5, .int .i64 (7 - (g.1 : Int)))]) (fun g => [.row (.slice g.2.1 (padV n ++ bitB (n * 2 ^ 3 % 18446744073709551616) g.1).length g.2.2) 5 1 (padV n ++ bitB (n * 2 ^ 3 % 18446744073709551616) g.1).length ((padV n ++ bitB (n * 2 ^ 3 % 18446744073709551616) g.1).map bv), .blk b2 (ca [.key ([])]) 23, .blk b1 (ca [.row 8 (fun i => u32 (h i)), .one (.int .u64 ((n : Nat) : Int)), .one (.slice RA rest.length rc)]) 119 ]) (fun g => [TxF RA rc rest, AtC ⟨1, 0, none⟩ [.row 64 fun i => u32 (gt i)]]) (fun g => g.1 ≤ 8) (fun g => 8 - g.1) ((0, some ⟨b17, 0, none⟩, 128)) E (by show Sep _ _ _ _ [.row (.slice (some ⟨b17, 0, none⟩) (padV n ++ []).length 128) _ 1 (padV n ++ []).length ((padV n ++ []).map bv), _, _] _; rw [List.append_nil]; exact H) (by show Sub _ ([(4, Value.slice (some ⟨b17, 0, none⟩) (padV n ++ []).length 128), (5, Value.int .i64 (7 - ((0 : Nat) : Int)))]); rw [List.append_nil]; repeat (first | exact trivial | refine ⟨rfl, ?_⟩)) (by show 0 ≤ 8; omega) ?_
  clear E H; intro g a w E H hφ; replace E : Env a _ [(4, _), (5, _), (1, _), (2, _), (3, _)] := E; replace H : Sep _ _ _ _ [_, _, _] [_, _] := H
  obtain ⟨j, Ag, cg⟩ := g
  simp only at E H hφ ⊢
  refine wp_seq_k fun K6 hK6 => ?_; refine wp_seq_k fun K7 hK7 => ?_; refine S_region ?_; refine S_val E (pk_move rfl rfl) rfl rfl rfl ?_; clear E a; intro a E; refine S_val E (pk_int rfl rfl rfl rfl) rfl rfl rfl ?_; clear E a; intro a E; refine hK7 _ _ ?_; refine env_split (d := 21) E rfl ?_ ?_
  · skip
    clear E; intro c21 E
    have hj : j < 8 := by have := c21; simp only [decide_eq_true_eq] at this; omega
    refine S_then E rfl ?_; refine wp_skip ?_; refine hK6 _ _ ?_; refine wp_seq_k fun K8 hK8 => ?_; refine wp_block ?_; refine S_region ?_; refine S_val E (pk_move rfl rfl) rfl rfl rfl ?_; clear E a; intro a E; refine S_val E (pk_move rfl rfl) rfl rfl rfl ?_; clear E a; intro a E; refine S_val E (pk_move rfl rfl) rfl rfl rfl ?_; clear E a; intro a E; refine S_val E (pk_intw rfl rfl rfl rfl (wI64 (by omega) (by omega))) rfl rfl rfl ?_; clear E a; intro a E; refine S_val E (pk_shrU (k := 8 * (7 - j)) rfl rfl rfl (by omega) (by omega)) rfl rfl rfl ?_; clear E a; intro a E; refine S_val E (pk_lowb rfl rfl (by kernel_rfl) (by kernel_rfl)) rfl rfl rfl ?_; clear E a; intro a E; refine S_eff E rfl (fun K hK => ?_); refine eff_bslice (sz := 1) (z := [.one (.int .u8 0)]) E H rfl Tryd.underlying32 (by kernel_rfl) (by decide) (by kernel_rfl) ⟨_, [.one _], 0, _, rfl, rfl, rfl, rfl, rfl⟩ ?_
    clear H; intro b30 w H _; refine hK _ _ ?_; clear hK K; refine S_put E rfl rfl ?_; clear E a; intro a E; refine S_eff E rfl (fun K hK => ?_); refine eff_appB (k := padV n ++ bitB (n * 2 ^ 3 % 18446744073709551616) j) 1 0 E H rfl rfl rfl rfl rfl ⟨Tryd.underlying32, by kernel_rfl⟩ (by rw [List.length_append, bitB_len, padV_len]; omega) ?_; clear H; intro A31 c31 w H F; replace H : Sep _ _ _ _ [_, _, _, _] _ := H; refine hK _ _ ?_; clear hK K; refine S_put E rfl rfl ?_; clear E a; intro a E; clear F
    rw [List.append_assoc, ← bitB_succ] at E H
    refine S_val E (pk_assign rfl rfl) rfl rfl rfl ?_; clear E a; intro a E; refine hK8 _ _ ?_; refine S_region ?_; refine S_val E (pk_move rfl rfl) rfl rfl rfl ?_; clear E a; intro a E; refine S_val E (pk_intw rfl rfl rfl rfl (wI64 (by omega) (by omega))) rfl rfl rfl ?_; clear E a; intro a E; refine S_val E (pk_assign rfl rfl) rfl rfl rfl ?_; clear E a; intro a E
    rw [show (7 - (j : Int)) - 1 = 7 - ((j + 1 : Nat) : Int) from by omega] at E
    refine loop_end ?_
    exact ⟨(j + 1, A31, c31), ⟨E.to (by repeat (first | exact trivial | refine ⟨rfl, ?_⟩)), H.popL, by show j + 1 ≤ 8; omega⟩, by show 8 - (j + 1) < 8 - j; omega⟩
  · skip
    clear E; intro c21 E
    obtain rfl : j = 8 := by have := c21; simp only [decide_eq_false_iff_not] at this; omega
    refine S_else E rfl ?_; refine wp_exit ?_
    repeat (first | refine then_exit ?_ | refine block_hit ?_ | refine block_miss (by decide) ?_)
    refine hK4 _ _ ?_; refine wp_seq_k fun K9 hK9 => ?_; refine S_region ?_; refine S_val E (pk_fieldAddr (off := 9) rfl rfl (by kernel_rfl)) rfl rfl rfl ?_; clear E a; intro a E; refine S_val E (pk_load1 H 2 rfl rfl rfl trivial rfl (by kernel_rfl)) rfl rfl rfl ?_; clear E a; intro a E; refine S_eff E rfl (fun K hK => ?_); refine eff_call E rfl rfl rfl (by kernel_rfl) ?_; refine (clone_own H.xk (H.fact 0 rfl)).mono ?_; rintro e w ⟨A34, c34, rfl, H1⟩
    replace H := H.call H1
    clear H1; replace H : Sep _ _ _ _ [_, _, _, _] [_, _] := H; refine hK _ _ ?_; clear hK K; refine S_put E rfl rfl ?_; clear E a; intro a E; refine S_val E (pk_fieldAddr (off := 9) rfl rfl (by kernel_rfl)) rfl rfl rfl ?_; clear E a; intro a E; refine S_eff E rfl (fun K hK => ?_); refine eff_store 3 (new := [.one _]) E H rfl rfl rfl rfl rfl (by repeat (first | exact trivial | refine ⟨rfl, ?_⟩ | refine ⟨fun _ _ => rfl, ?_⟩)) rfl (by kernel_rfl) rfl ?_; clear H; intro w H _; replace H : Sep _ _ _ _ [_, _, _, _] _ := H; refine hK _ _ ?_; clear hK K; refine S_put0 rfl ?_; refine hK9 _ _ ?_; refine wp_seq_k fun K10 hK10 => ?_
    replace H := (H.at_ 1 _ rfl).rowTx (Sep.new_x (H.at_ 1 _ rfl)) (by rw [List.length_append, bitB_len, padV_len]; omega) (fun z hz => by rcases List.mem_append.1 hz with h1 | h1; exact padV_byte _ z h1; exact bitB_byte _ _ z h1)
    replace H : Sep _ _ _ _ [_, _, _] [_, _, _] := H.at_ 2 _ rfl
    obtain ⟨A4, hA4⟩ : ∃ z, z = Ag := ⟨_, rfl⟩
    obtain ⟨c4, hc4⟩ : ∃ z, z = cg := ⟨_, rfl⟩
    rw [← hA4, ← hc4] at E H
    change Sep _ _ _ _ _ [TxF _ _ (tailV n), _, _] at H
    refine S_region ?_; refine S_val E (pk_move rfl rfl) rfl rfl rfl ?_; clear E a; intro a E; refine S_eff E rfl (fun K hK => ?_); refine eff_call E rfl rfl rfl (by kernel_rfl) ?_
    have htl : (tailV n).length ≤ 72 := by unfold tailV; rw [List.length_append, bitB_len, padV_len]; omega
    obtain ⟨⟨h2, r2⟩, hFF⟩ : ∃ z, feed gt h (rest ++ tailV n) = z := ⟨_, rfl⟩
    have HG := (Sep.giveA (L1 := [_, _]) (L := [_]) H).refacts (R' := [_, _]) (List.forall_mem_cons.2 ⟨(Sep.giveA (L1 := [_, _]) (L := [_]) H).fact 0 rfl, List.forall_mem_cons.2 ⟨(Sep.giveA (L1 := [_, _]) (L := [_]) H).fact 2 rfl, List.forall_mem_nil _⟩⟩)
    have HD := Sep.giveD (L1 := [_, _]) (L := [_]) H
    refine (take_any (sb := b1) (n := n) (rest := rest) (bs := tailV n) hFF (by have := htl; omega) (by omega) (by omega) hRb HG.xlt HG HD).mono ?_; rintro e w ⟨rfl, RA2, rc2, H1⟩
    replace H := Sep.callA (L1 := [_, _]) (L := [_]) H H1
    clear H1; replace H : Sep _ _ _ _ [_, _, _] [_, _, _] := H; refine hK _ _ ?_; clear hK K; refine S_put E rfl rfl ?_; clear E a; intro a E; clear HG HD; refine hK10 _ _ ?_; refine wp_seq_k fun K11 hK11 => ?_; refine wp_seq_k fun K12 hK12 => ?_; refine S_region ?_; refine S_val E (pk_fieldAddr (off := 0) rfl rfl (by kernel_rfl)) rfl rfl rfl ?_; clear E a; intro a E; refine S_val E (pk_load (n := 8) H 0 rfl rfl rfl trivial rfl (by kernel_rfl)) rfl rfl rfl ?_; clear E a; intro a E; refine S_val E (pk_move rfl rfl) rfl rfl rfl ?_; clear E a; intro a E; refine hK12 _ _ ?_; refine wp_block ?_
    refine S_loopI (γ := Nat) [2, 39] (fun i => [(40, .int .i64 (i : Int))]) (fun i => [.blk b1 (ca [.row 8 (fun i => u32 (h2 i)), .one (.int .u64 ((n + (tailV n).length : Nat) : Int)), .one (.slice RA2 r2.length rc2)]) 119, .row (.slice RA2 r2.length rc2) 5 1 r2.length (r2.map bv), .blk b2 (ca [.key (wordsB h2 i)]) 23 ]) (fun i => [TxF A4 c4 (tailV n), TxF RA rc rest, AtC ⟨1, 0, none⟩ [.row 64 fun i => u32 (gt i)]]) (fun i => i ≤ 8) (fun i => 8 - i) (0) E H (by repeat (first | exact trivial | refine ⟨rfl, ?_⟩)) (by omega) ?_; clear E H; intro i a w E H hφ; replace E : Env a _ [(40, _), (2, _), (39, _)] := E; replace H : Sep _ _ _ _ [_, _, _] [_, _, _] := H; refine wp_seq_k fun K13 hK13 => ?_; refine S_region ?_; refine S_val E (pk_int rfl rfl rfl rfl) rfl rfl rfl ?_; clear E a; intro a E; refine hK13 _ _ ?_; refine wp_seq_k fun K14 hK14 => ?_
    refine env_split (d := 41) E rfl ?_ ?_
    · skip
      clear E; intro c41 E
      have hn8 : i < 8 := by have := c41; simp only [decide_eq_true_eq] at this; omega
      refine S_then E rfl ?_; refine wp_skip ?_; refine hK14 _ _ ?_; refine wp_seq_k fun K15 hK15 => ?_; refine wp_block ?_; refine wp_seq_k fun K16 hK16 => ?_; refine S_region ?_; refine S_val E (pk_move rfl rfl) rfl rfl rfl ?_; clear E a; intro a E; refine S_val E (pk_index (i := i) rfl (by kernel_rfl) rfl rfl rfl hn8) rfl rfl rfl ?_; clear E a; intro a E; refine S_val E (pk_assign rfl rfl) rfl rfl rfl ?_; clear E a; intro a E; refine S_val E (pk_assign rfl rfl) rfl rfl rfl ?_; clear E a; intro a E; refine hK16 _ _ ?_; refine S_region ?_; refine S_val E (pk_move rfl rfl) rfl rfl rfl ?_; clear E a; intro a E; refine S_val E (pk_intw rfl rfl rfl rfl (wI64 (by omega) (by omega))) rfl rfl rfl ?_; clear E a; intro a E; refine S_val E (pk_subPl (N := 32) (sz := 1) (lo := 4 * i) rfl (by kernel_rfl) rfl rfl (by omega) (by omega)) rfl rfl rfl ?_; clear E a; intro a E
      refine S_val E (pk_move rfl rfl) rfl rfl rfl ?_; clear E a; intro a E; refine S_val E (pk_shrW (k := 24) rfl rfl rfl rfl) rfl rfl rfl ?_; clear E a; intro a E; refine S_val E (pk_lowb rfl rfl (by kernel_rfl) (by kernel_rfl)) rfl rfl rfl ?_; clear E a; intro a E; refine S_val E (pk_move rfl rfl) rfl rfl rfl ?_; clear E a; intro a E; refine S_val E (pk_shrW (k := 16) rfl rfl rfl rfl) rfl rfl rfl ?_; clear E a; intro a E; refine S_val E (pk_lowb rfl rfl (by kernel_rfl) (by kernel_rfl)) rfl rfl rfl ?_; clear E a; intro a E; refine S_val E (pk_move rfl rfl) rfl rfl rfl ?_; clear E a; intro a E; refine S_val E (pk_shrW (k := 8) rfl rfl rfl rfl) rfl rfl rfl ?_; clear E a; intro a E; refine S_val E (pk_lowb rfl rfl (by kernel_rfl) (by kernel_rfl)) rfl rfl rfl ?_; clear E a; intro a E; refine S_val E (pk_move rfl rfl) rfl rfl rfl ?_; clear E a; intro a E
      refine S_val E (pk_lowb rfl rfl (by kernel_rfl) (by kernel_rfl)) rfl rfl rfl ?_; clear E a; intro a E; refine S_eff E rfl (fun K hK => ?_); refine eff_bslice (sz := 1) (z := [.one (.int .u8 0), .one (.int .u8 0), .one (.int .u8 0), .one (.int .u8 0)]) E H rfl Tryd.underlying32 (by kernel_rfl) (by decide) (by kernel_rfl) ⟨_, [.one _], 0, _, rfl, rfl, rfl, rfl, ⟨_, [.one _], 1, _, rfl, rfl, rfl, rfl, ⟨_, [.one _], 2, _, rfl, rfl, rfl, rfl, ⟨_, [.one _], 3, _, rfl, rfl, rfl, rfl, rfl⟩⟩⟩⟩ ?_; clear H; intro b58 w H _; refine hK _ _ ?_; clear hK K; refine S_put E rfl rfl ?_; clear E a; intro a E
      have hsrc : St (TxF (some ⟨b58, 0, none⟩) 4 (wordB (h2 i))) w (X ++ keysR _) := txF_at (k := wordB (h2 i)) ((H.lend 0 rfl).fact 0 rfl) rfl (show 4 ≤ 4 by decide) (show 4 ≤ 140737488355328 by decide) (wordB_byte _)
      have hwl : (wordsB h2 i).length = 4 * i := wordsB_len _ _
      refine S_eff E rfl (fun K hK => ?_); refine eff_copyKey (k := wordsB h2 i) (m := wordB (h2 i)) 3 E H hsrc rfl rfl (by rw [addr_add, Nat.zero_add, Nat.mul_one, hwl]) rfl (by kernel_rfl) rfl (by simp only [wordB, List.length_cons, List.length_nil]; omega) (by simp only [wordB, List.length_cons, List.length_nil]; omega) rfl ?_; clear H; intro w H F; replace H : Sep _ _ _ _ [_, _, _, _] _ := H; refine hK _ _ ?_; clear hK K; refine S_put E rfl rfl ?_; clear E a; intro a E; clear F hsrc
      rw [← wordsB_succ] at H
      refine hK15 _ _ ?_; refine S_region ?_; refine S_val E (pk_intw rfl rfl rfl rfl (wI64 (by omega) (by omega))) rfl rfl rfl ?_; clear E a; intro a E; refine S_val E (pk_move rfl rfl) rfl rfl rfl ?_; clear E a; intro a E; refine loop_end ?_
      exact ⟨i + 1, ⟨E.to (by repeat (first | exact trivial | refine ⟨rfl, ?_⟩)), H.popL, by omega⟩, by omega⟩
    · skip
      clear E; intro c41 E
      obtain rfl : i = 8 := by have := c41; simp only [decide_eq_false_iff_not] at this; omega
      refine S_else E rfl ?_; refine wp_exit ?_
      repeat (first | refine then_exit ?_ | refine block_hit ?_ | refine block_miss (by decide) ?_)
      refine hK11 _ _ ?_; refine wp_seq_k fun K17 hK17 => ?_; refine S_region ?_; refine S_val E (pk_load (n := 32) H 2 rfl rfl rfl trivial rfl (by kernel_rfl)) rfl rfl rfl ?_; clear E a; intro a E; refine S_eff E rfl (fun K hK => ?_); refine eff_store 2 E H rfl rfl rfl rfl rfl (by repeat (first | exact trivial | refine ⟨rfl, ?_⟩ | refine ⟨fun _ _ => rfl, ?_⟩)) rfl (by kernel_rfl) rfl ?_; clear H; intro w H _; replace H : Sep _ _ _ _ [_, _, _] _ := H; refine hK _ _ ?_; clear hK K; refine S_put0 rfl ?_; refine hK17 _ _ ?_; refine wp_ret ?_
      repeat (first | refine then_ret ?_ | refine block_ret ?_)
      refine ret1 rfl E (by exact resC (n := 32) H 2 rfl rfl rfl (by kernel_rfl)) ?_; refine ⟨?_, (H.refacts (List.forall_mem_nil _)).popL.popL.popL⟩
      rw [finV, hFF]
end Go.Proofs.YtfolbgiekbimpaaDoor
namespace Go.Proofs.YtfolbgiekbimpaaDoor
set_option linter.unusedSimpArgs false
set_option linter.unusedVariables false
open Go.RowKit

attribute [local irreducible] addW xorW andW orW shlW shrW smallW greatW wordV blockF
set_option maxRecDepth 100000 in
set_option maxHeartbeats 1000000 in
theorem Sum_any {PA : Option Addr} {pc : Nat} {ps : List (List Nat)} {pm : Nat → TextT.μ} {gt : Nat → Nat} (hp : ∀ p ∈ ps, p.length ≤ 100000000) (hP : ps.length ≤ 1000000) {X : List Nat} {w0 : World} (hX : ∀ k ∈ X, k < w0.heap.size) (hL : St (LiF TextT PA pc ps pm) w0 X) (hG : St (AtC ⟨1, 0, none⟩ [.row 64 fun i => u32 (gt i)]) w0 X) :
    Calls Tryd.prog 53 #[.slice PA ps.length pc] w0 fun e w' => e = .returned (.agg (ca [.key (sumV gt ps)])) ∧ Sep X [] w0 w' [] [] := by
  refine calls_env Tryd.ntmps53 Tryd.func53 rfl rfl fun a E => ?_; replace E : Env a _ [(0, _)] := E
  have H : Sep X [] w0 w0 [] [(LiF TextT PA pc ps pm), (AtC ⟨1, 0, none⟩ [.row 64 fun i => u32 (gt i)])] := Sep.start hX (List.forall_mem_cons.2 ⟨hL, List.forall_mem_cons.2 ⟨hG, fun _ h => by cases h⟩⟩)
  refine wp_seq_k fun K0 hK0 => ?_; refine S_region ?_; refine S_eff E rfl (fun K hK => ?_); refine eff_alloc (z := [.key []]) H rfl (by kernel_rfl) ?_; clear H; intro b2 w H _; refine hK _ _ ?_; clear hK K; refine S_put E rfl rfl ?_; clear E a; intro a E; refine hK0 _ _ ?_; refine wp_seq_k fun K1 hK1 => ?_; refine S_region ?_; refine S_eff E rfl (fun K hK => ?_); refine eff_call E rfl rfl rfl (by kernel_rfl) ?_; refine (shaNew_any H.xk).mono ?_; rintro e w ⟨rfl, H1⟩
  replace H := H.call H1
  clear H1; replace H : Sep _ _ _ _ [_] [_, _] := H; refine hK _ _ ?_; clear hK K; refine S_put E rfl rfl ?_; clear E a; intro a E; refine S_eff E rfl (fun K hK => ?_); refine eff_alloc (z := [.row 8 fun _ => .int .u32 0, .one (.int .u64 0), .one (.slice none 0 0)]) H rfl (by kernel_rfl) ?_; clear H; intro b3 w H _; refine hK _ _ ?_; clear hK K; refine S_put E rfl rfl ?_; clear E a; intro a E; refine S_eff E rfl (fun K hK => ?_); refine eff_store 0 E H rfl rfl rfl rfl rfl (by repeat (first | exact trivial | refine ⟨rfl, ?_⟩ | refine ⟨fun _ _ => rfl, ?_⟩)) rfl (by kernel_rfl) rfl ?_; clear H; intro w H _; replace H : Sep _ _ _ _ [_, _] _ := H; refine hK _ _ ?_; clear hK K; refine S_put0 rfl ?_; refine hK1 _ _ ?_; refine wp_seq_k fun K2 hK2 => ?_; refine wp_seq_k fun K3 hK3 => ?_; refine S_region ?_; refine S_val E (pk_move rfl rfl) rfl rfl rfl ?_; clear E a; intro a E
  refine S_val E (pk_len rfl rfl (by kernel_rfl)) rfl rfl rfl ?_; clear E a; intro a E; refine S_val E (pk_move rfl rfl) rfl rfl rfl ?_; clear E a; intro a E; refine hK3 _ _ ?_; refine wp_block ?_
  refine S_loopI (γ := Nat × (Nat → Nat) × Nat × List Nat × Option Addr × Nat) [2, 3, 7, 8] (fun g => [(9, .int .i64 (g.1 : Int))]) (fun g => [.blk b3 (ca [.row 8 (fun i => u32 (g.2.1 i)), .one (.int .u64 ((g.2.2.1 : Nat) : Int)), .one (.slice g.2.2.2.2.1 g.2.2.2.1.length g.2.2.2.2.2)]) 119, .row (.slice g.2.2.2.2.1 g.2.2.2.1.length g.2.2.2.2.2) 5 1 g.2.2.2.1.length (g.2.2.2.1.map bv), .blk b2 (ca [.key ([])]) 23 ]) (fun g => [LiF TextT PA pc ps pm, AtC ⟨1, 0, none⟩ [.row 64 fun i => u32 (gt i)]]) (fun g => g.1 ≤ ps.length ∧ shaAll gt (ps.take g.1) = (g.2.1, g.2.2.1, g.2.2.2.1) ∧ g.2.2.1 ≤ g.1 * 100000000 ∧ g.2.2.2.1.length < 64 ∧ ∀ x ∈ g.2.2.2.1, x < 256) (fun g => ps.length - g.1) ((0, iv0, 0, [], none, 0)) E ((H.rownil _ _).perm (List.Perm.swap _ _ _)) (by repeat (first | exact trivial | refine ⟨rfl, ?_⟩)) (⟨Nat.zero_le _, rfl, Nat.zero_le _, by show 0 < 64; decide, fun x hx => by cases hx⟩) ?_
  clear E H; intro g a w E H hφ; replace E : Env a _ [(9, _), (2, _), (3, _), (7, _), (8, _)] := E; replace H : Sep _ _ _ _ [_, _, _] [_, _] := H
  obtain ⟨i, hh, nn, rr, RA1, rc1⟩ := g
  simp only at E H hφ ⊢
  obtain ⟨hi, hsh, hnn, hrl, hrb⟩ := hφ
  refine wp_seq_k fun K4 hK4 => ?_; refine S_region ?_; refine S_val E (pk_int rfl rfl rfl rfl) rfl rfl rfl ?_; clear E a; intro a E; refine hK4 _ _ ?_; refine wp_seq_k fun K5 hK5 => ?_; refine env_split (d := 10) E rfl ?_ ?_
  · skip
    clear E; intro c10 E
    have hik : i < ps.length := by have := c10; simp only [decide_eq_true_eq] at this; omega
    have hx0 : ps[i]? = some ps[i] := List.getElem?_eq_getElem hik
    refine S_then E rfl ?_; refine wp_skip ?_; refine hK5 _ _ ?_; refine wp_seq_k fun K6 hK6 => ?_; refine wp_block ?_; refine wp_seq_k fun K7 hK7 => ?_; refine S_region ?_
    obtain ⟨ad11, hA11, hc11, hn11⟩ := LiF.get (A := PA) (T := TextT) (i := i) (x := ps[i]) (by exact H.fact 0 rfl) hx0
    refine S_val E (pk_elA (sz := 1) hA11 rfl (by kernel_rfl) rfl rfl rfl (by omega)) rfl rfl rfl ?_; clear E a; intro a E
    replace H := (H.know hn11).know hc11
    clear hn11 hc11; replace H : Sep _ _ _ _ _ [_, _, _, _] := H; refine S_val E (pk_loadE1 (H.fact 0 rfl) (fun _ _ _ => trivial) rfl rfl rfl (by kernel_rfl)) rfl rfl rfl ?_; clear E a; intro a E; refine S_val E (pk_assign rfl rfl) rfl rfl rfl ?_; clear E a; intro a E; refine hK7 _ _ ?_; refine S_region ?_; refine S_val E (pk_move rfl rfl) rfl rfl rfl ?_; clear E a; intro a E; refine S_eff E rfl (fun K hK => ?_); refine eff_call E rfl rfl rfl (by kernel_rfl) ?_
    have hpl : ps[i].length ≤ 100000000 := hp _ (List.getElem_mem hik)
    obtain ⟨⟨h2, r2⟩, hFF⟩ : ∃ z, feed gt hh (rr ++ ps[i]) = z := ⟨_, rfl⟩
    have hpb : ∀ x ∈ ps[i], x < 256 := (St.now (H.fact 1 rfl : St (TxF (pm i).1 (pm i).2 ps[i]) w _)).byt
    have HG := (Sep.giveA (L1 := [_, _]) (L := [_]) H).refacts (R' := [TxF (pm i).1 (pm i).2 ps[i], _]) (List.forall_mem_cons.2 ⟨(Sep.giveA (L1 := [_, _]) (L := [_]) H).fact 1 rfl, List.forall_mem_cons.2 ⟨(Sep.giveA (L1 := [_, _]) (L := [_]) H).fact 3 rfl, List.forall_mem_nil _⟩⟩)
    have HD := Sep.giveD (L1 := [_, _]) (L := [_]) H
    refine (take_any (sb := b3) (n := nn) (rest := rr) (bs := ps[i]) hFF (by omega) (by omega) (by omega) hrb HG.xlt HG HD).mono ?_; rintro e w ⟨rfl, RA2, rc2, H1⟩
    replace H := Sep.callA (L1 := [_, _]) (L := [_]) H H1
    clear H1; replace H : Sep _ _ _ _ [_, _, _] [_, _, _, _] := H; refine hK _ _ ?_; clear hK K; refine S_put E rfl rfl ?_; clear E a; intro a E; clear HG HD; refine hK6 _ _ ?_; refine S_region ?_; refine S_val E (pk_intw rfl rfl rfl rfl (wI64 (by omega) (by omega))) rfl rfl rfl ?_; clear E a; intro a E; refine S_val E (pk_move rfl rfl) rfl rfl rfl ?_; clear E a; intro a E; refine loop_end ?_
    exact ⟨(i + 1, h2, nn + ps[i].length, r2, RA2, rc2), ⟨E.to (by repeat (first | exact trivial | refine ⟨rfl, ?_⟩)), H.pop.pop, ⟨by show i + 1 ≤ ps.length; omega, by show shaAll gt (ps.take (i + 1)) = (h2, nn + ps[i].length, r2); rw [shaAll_succ hx0, hsh, takeV, hFF], by show nn + ps[i].length ≤ (i + 1) * 100000000; omega, by have := feed_len gt _ hh (rr ++ ps[i]) (Nat.le_refl _); rw [hFF] at this; exact this, by have := feed_byte gt _ hh (rr ++ ps[i]) (Nat.le_refl _) (fun x hx => by rcases List.mem_append.1 hx with h1 | h1; exact hrb x h1; exact hpb x h1); rw [hFF] at this; exact this⟩⟩, by show ps.length - (i + 1) < ps.length - i; omega⟩
  · skip
    clear E; intro c10 E
    obtain rfl : i = ps.length := by have := c10; simp only [decide_eq_false_iff_not] at this; omega
    rw [List.take_length] at hsh
    refine S_else E rfl ?_; refine wp_exit ?_
    repeat (first | refine then_exit ?_ | refine block_hit ?_ | refine block_miss (by decide) ?_)
    refine hK2 _ _ ?_; refine wp_seq_k fun K8 hK8 => ?_; replace H : Sep _ _ _ _ [_, _] [_, _, _] := (H.at_ 1 _ rfl).rowTx (Sep.new_x (H.at_ 1 _ rfl)) (by omega) hrb; refine S_region ?_; refine S_val E (pk_load (n := 10) H 0 rfl rfl rfl trivial rfl (by kernel_rfl)) rfl rfl rfl ?_; clear E a; intro a E; refine S_eff E rfl (fun K hK => ?_); refine eff_call E rfl rfl rfl (by kernel_rfl) ?_; refine (finish_any (n := nn) (rest := rr) (by omega) (by omega) H.xk (H.fact 0 rfl) (H.fact 2 rfl)).mono ?_; rintro e w ⟨rfl, H1⟩
    replace H := H.call H1
    clear H1; replace H : Sep _ _ _ _ [_, _] [_, _, _] := H; refine hK _ _ ?_; clear hK K; refine S_put E rfl rfl ?_; clear E a; intro a E; refine S_eff E rfl (fun K hK => ?_); refine eff_store 1 E H rfl rfl rfl rfl rfl (by repeat (first | exact trivial | refine ⟨rfl, ?_⟩ | refine ⟨fun _ _ => rfl, ?_⟩)) rfl (by kernel_rfl) rfl ?_; clear H; intro w H _; replace H : Sep _ _ _ _ [_, _] _ := H; refine hK _ _ ?_; clear hK K; refine S_put0 rfl ?_; refine hK8 _ _ ?_; refine wp_ret ?_
    repeat (first | refine then_ret ?_ | refine block_ret ?_)
    refine ret1 rfl E (by exact resC (n := 32) H 1 rfl rfl rfl (by kernel_rfl)) ?_; refine ⟨?_, (H.refacts (List.forall_mem_nil _)).popL.popL⟩
    rw [sumV, hsh]
end Go.Proofs.YtfolbgiekbimpaaDoor
namespace Go.Proofs.YtfolbgiekbimpaaDoor
set_option linter.unusedSimpArgs false
set_option linter.unusedVariables false
open Go.RowKit


def heldV (key : List Nat) (by_ : Nat) : List Nat := (List.range 64).map fun i => (key.getD i 0 % 256) ^^^ (by_ % 256)
/-- A sum with a key. -/
def macV (gt : Nat → Nat) (key : List Nat) (ps : List (List Nat)) : List Nat := sumV gt [heldV key 92, sumV gt (heldV key 54 :: ps)]
theorem heldV_len (key : List Nat) (by_ : Nat) : (heldV key by_).length = 64 := by simp [heldV]
theorem heldV_byte (key : List Nat) (by_ : Nat) : ∀ z ∈ heldV key by_, z < 256 := fun z hz => by
  obtain ⟨i, _, rfl⟩ := List.mem_map.1 hz
  exact Nat.xor_lt_two_pow (n := 8) (by omega) (by omega)
theorem macV_len (gt : Nat → Nat) (key : List Nat) (ps : List (List Nat)) : (macV gt key ps).length = 32 := sumV_len _ _
theorem macV_byte (gt : Nat → Nat) (key : List Nat) (ps : List (List Nat)) : ∀ z ∈ macV gt key ps, z < 256 := sumV_byte _ _
theorem row_copy (n : Nat) (k : List Nat) (h : k.length ≤ n) : (List.range n).map (fun i => bv (k.getD i 0)) = ((List.range n).map fun _ => bv 0).take 0 ++ k.map bv ++ ((List.range n).map fun _ => bv 0).drop (0 + k.length) := by
  apply List.ext_getElem?
  intro i
  rw [List.take_zero, List.nil_append, Nat.zero_add]
  by_cases hi : i < n
  · rcases Nat.lt_or_ge i k.length with h1 | h1
    · rw [List.getElem?_append_left (by simpa using h1)]
      simp [hi, List.getD_eq_getElem?_getD, List.getElem?_eq_getElem h1]
    · rw [List.getElem?_append_right (by simpa using h1), List.getElem?_drop]
      simp [hi, List.getD_eq_getElem?_getD, List.getElem?_eq_none h1, show k.length + (i - k.length) = i by omega]
  · rw [List.getElem?_eq_none (by simp; omega), List.getElem?_eq_none (by simp; omega)]
def mixB (key : List Nat) (by_ i j : Nat) : Nat := if j < i then (key.getD j 0 % 256) ^^^ (by_ % 256) else key.getD j 0
theorem mixB_succ (key : List Nat) (by_ i j : Nat) : upd (fun j => bv (mixB key by_ i j)) i (bv ((key.getD i 0 % 256) ^^^ (by_ % 256))) j = bv (mixB key by_ (i + 1) j) := by
  unfold upd mixB
  by_cases h : j = i
  · subst h; simp
  · rw [if_neg h]
    show bv (if j < i then _ else _) = _
    by_cases h2 : j < i
    · rw [if_pos h2, if_pos (by omega)]
    · rw [if_neg h2, if_neg (by omega)]
theorem mixB_at (key : List Nat) (by_ i : Nat) : mixB key by_ i i = key.getD i 0 := by simp [mixB]
theorem cl_held (key : List Nat) (by_ : Nat) : cl [.row 64 (fun j => bv (mixB key by_ 64 j))] = (heldV key by_).map bv := by
  simp only [cl, Chunk.cells, List.append_nil, heldV, List.map_map]
  apply List.map_congr_left
  intro i hi
  simp only [Function.comp, mixB, if_pos (List.mem_range.1 hi)]
theorem xor_zero_iff (a b : Nat) : a ^^^ b = 0 ↔ a = b := by
  constructor
  · intro h
    have := congrArg (· ^^^ b) h
    simpa [Nat.xor_assoc] using this
  · rintro rfl; exact Nat.xor_self _
def farV (a b : List Nat) : Nat → Nat
  | 0 => 0
  | i + 1 => (farV a b i % 256) ||| (((a.getD i 0 % 256) ^^^ (b.getD i 0 % 256)) % 256)
theorem farV_zero (a b : List Nat) (ha : ∀ x ∈ a, x < 256) (hb : ∀ x ∈ b, x < 256) (hl : a.length = b.length) : ∀ i, i ≤ a.length → (farV a b i < 256 ∧ (farV a b i = 0 ↔ a.take i = b.take i))
  | 0, _ => by simp [farV]
  | i + 1, hi => by
    obtain ⟨h1, h2⟩ := farV_zero a b ha hb hl i (by omega)
    have hia : i < a.length := by omega
    have hib : i < b.length := by omega
    have e1 : a.getD i 0 = a[i] := by rw [List.getD_eq_getElem?_getD, List.getElem?_eq_getElem hia]; rfl
    have e2 : b.getD i 0 = b[i] := by rw [List.getD_eq_getElem?_getD, List.getElem?_eq_getElem hib]; rfl
    have ba := ha _ (List.getElem_mem hia)
    have bb := hb _ (List.getElem_mem hib)
    have hx : a[i] ^^^ b[i] < 256 := Nat.xor_lt_two_pow (n := 8) ba bb
    rw [farV, e1, e2, Nat.mod_eq_of_lt h1, Nat.mod_eq_of_lt ba, Nat.mod_eq_of_lt bb, Nat.mod_eq_of_lt hx]
    refine ⟨Nat.or_lt_two_pow (n := 8) h1 hx, ?_⟩
    rw [Nat.or_eq_zero_iff, h2, xor_zero_iff, List.take_add_one, List.take_add_one, List.getElem?_eq_getElem hia, List.getElem?_eq_getElem hib]
    constructor
    · rintro ⟨h3, h4⟩; rw [h3, h4]
    · intro h3
      have := List.append_inj h3 (by simp; omega)
      simpa using this
attribute [local irreducible] addW xorW andW orW shlW shrW smallW greatW wordV blockF sumV
section
variable {P : Program} {o : Oper} {a : Act} {w ws : World} {N : Nat} {l : List (Nat × Value)} {v : Value} {X G : List Nat} {w0 : World} {L : List Res} {R : List (World → Prop)}
/-- Cells as a list that is read. -/
theorem liF_at {α : Type} {T : Ty α} {ad : Addr} {cs : List Chunk} {its : List (α × T.μ)} {c : Nat} {xs : List α} {Y : List Nat} (h : St (AtC ad cs) w Y) (hcl : cl cs = rowC T its) (hn : St (NestF T its) w Y) (hx : its.map Prod.fst = xs) (hc : its.length ≤ c) (hb : its.length ≤ 9223372036854775807) :
    St (LiF T (some ad) c xs (fun i => ((its[i]?).map Prod.snd).getD T.dft)) w Y := fun w' hk => by
  subst hx
  refine ⟨by simpa using hc, by simpa using hb, (fun hA => by cases hA), fun ad' hA i x hx => ?_⟩
  obtain rfl := Option.some.inj hA
  rw [List.getElem?_map, Option.map_eq_some_iff] at hx
  obtain ⟨p, hp, rfl⟩ := hx
  simp only [hp, Option.map_some, Option.getD_some]
  refine ⟨fun j u hu => ?_, hn w' hk p (List.mem_of_getElem? hp)⟩
  rw [Addr.add_add]
  refine h w' hk _ u ?_
  rw [hcl]
  exact rowC_at its i j p u hp hu
/-- A block as a row of elements. -/
theorem Sep.rowOfL {b e sz n : Nat} {cs : List Chunk} {xs : List Value} (H : Sep X G w0 w (.blk b (ca cs) e :: L) R) (hxs : cl cs = xs) (hl : xs.length = n * sz) (hc : n ≤ 140737488355328) : Sep X G w0 w (.row (.slice (some ⟨b, 0, none⟩) n n) e sz n xs :: L) R :=
  H.turn (Frm.refl _ _) ⟨hl, .inr ⟨b, n, _, rfl, Nat.zero_le _, H.holds _ (List.mem_cons_self ..), Nat.le_refl _, by unfold maxLen; omega, by rw [ca_size, ← cl_len, hxs, hl], by
    simp only [ca, hxs]
    rw [← hl, List.take_length]⟩⟩ (fun k hk => .inl (by simpa [Res.keys, Value.ownBlock] using hk)) (by simp [Res.keys, Value.ownBlock])
theorem text1 {A : Option Addr} {c : Nat} {k : List Nat} : cl [.one (.slice A k.length c)] = rowC TextT [((k, (A, c)) : List Nat × TextT.μ)] := rfl
theorem text2 {A B : Option Addr} {c d : Nat} {k m : List Nat} : cl [.one (.slice A k.length c), .one (.slice B m.length d)] = rowC TextT [((k, (A, c)) : List Nat × TextT.μ), (m, (B, d))] := rfl
end
set_option maxRecDepth 100000 in
set_option maxHeartbeats 400000 in
theorem held_any {A : Option Addr} {c by_ : Nat} {key : List Nat} (h64 : key.length ≤ 64) {X : List Nat} {w0 : World} (hX : ∀ k ∈ X, k < w0.heap.size) (hk : St (TxF A c key) w0 X) :
    Calls Tryd.prog 54 #[.slice A key.length c, bv by_] w0 fun e w' => ∃ A' c', e = .returned (.slice A' (heldV key by_).length c') ∧ Sep X [] w0 w' [] [TxF A' c' (heldV key by_)] := by
  refine calls_env Tryd.ntmps54 Tryd.func54 rfl rfl fun a E => ?_; replace E : Env a _ [(0, _), (1, _)] := E
  have H : Sep X [] w0 w0 [] [(TxF A c key)] := Sep.start hX (List.forall_mem_cons.2 ⟨hk, fun _ h => by cases h⟩)
  refine wp_seq_k fun K0 hK0 => ?_; refine S_region ?_; refine S_val E (pk_assign rfl rfl) rfl rfl rfl ?_; clear E a; intro a E; refine hK0 _ _ ?_; refine wp_seq_k fun K1 hK1 => ?_; refine wp_seq_k fun K2 hK2 => ?_; refine S_region ?_; refine S_val E (pk_move rfl rfl) rfl rfl rfl ?_; clear E a; intro a E; refine S_val E (pk_len rfl rfl (by kernel_rfl)) rfl rfl rfl ?_; clear E a; intro a E; refine S_val E (pk_int rfl rfl rfl rfl) rfl rfl rfl ?_; clear E a; intro a E; refine hK2 _ _ ?_; refine env_split (d := 10) E rfl ?_ ?_
  · skip
    clear E; intro c10 E
    exfalso; have := c10; simp only [decide_eq_true_eq] at this; omega --done
  · skip
    clear E; intro c10 E; refine S_else E rfl ?_; refine wp_skip ?_; refine hK1 _ _ ?_; refine wp_seq_k fun K3 hK3 => ?_; refine S_region ?_; refine S_eff E rfl (fun K hK => ?_); refine eff_make (n := 64) (c := 64) E H rfl ⟨Tryd.underlying32, Tryd.underlying5, by kernel_rfl⟩ rfl rfl rfl rfl (by omega) (by omega) ?_; clear H; intro b15 w H F; refine hK _ _ ?_; clear hK K; refine S_put E rfl rfl ?_; clear E a; intro a E; clear F; refine S_val E (pk_assign rfl rfl) rfl rfl rfl ?_; clear E a; intro a E; refine hK3 _ _ ?_; refine wp_seq_k fun K4 hK4 => ?_; refine S_region ?_; refine S_val E (pk_move rfl rfl) rfl rfl rfl ?_; clear E a; intro a E; refine S_val E (pk_move rfl rfl) rfl rfl rfl ?_; clear E a; intro a E; refine S_eff E rfl (fun K hK => ?_)
    refine eff_copy (news := key.map bv) (m := key.length) (cs' := [.row 64 fun i => bv (key.getD i 0)]) 0 E H rfl rfl rfl rfl (by kernel_rfl) rfl (by omega) (by simp) (fun hA => (hk.now.nil hA).1) (by have := txF_cells (m := key.length) (St.now (H.fact 0 rfl)); rwa [List.take_length] at this) (fun u hu => by obtain ⟨z, _, rfl⟩ := List.mem_map.1 hu; rfl) (by simp only [cl, Chunk.cells, List.append_nil]; exact row_copy 64 key h64) (by simp [lens, Chunk.len]; omega) rfl ?_; clear H; intro w H F; replace H : Sep _ _ _ _ [_] _ := H; refine hK _ _ ?_; clear hK K; refine S_put E rfl rfl ?_; clear E a; intro a E; clear F; refine hK4 _ _ ?_; refine wp_seq_k fun K5 hK5 => ?_; refine wp_seq_k fun K6 hK6 => ?_; refine S_region ?_; refine S_val E (pk_move rfl rfl) rfl rfl rfl ?_; clear E a; intro a E; refine S_val E (pk_len rfl rfl (by kernel_rfl)) rfl rfl rfl ?_; clear E a; intro a E
    refine S_val E (pk_move rfl rfl) rfl rfl rfl ?_; clear E a; intro a E; refine hK6 _ _ ?_; refine wp_block ?_
    have e0 : (fun j => bv (key.getD j 0)) = fun j => bv (mixB key by_ 0 j) := by funext j; simp [mixB]
    rw [e0] at H
    refine S_loopI (γ := Nat) [1, 6, 20] (fun i => [(21, .int .i64 (i : Int))]) (fun i => [.blk b15 (ca [.row 64 (fun j => bv (mixB key by_ i j))]) 5 ]) (fun i => [TxF A c key]) (fun i => i ≤ 64) (fun i => 64 - i) (0) E H (by repeat (first | exact trivial | refine ⟨rfl, ?_⟩)) (by omega) ?_; clear E H; intro i a w E H hφ; replace E : Env a _ [(21, _), (1, _), (6, _), (20, _)] := E; replace H : Sep _ _ _ _ [_] [_] := H; refine wp_seq_k fun K7 hK7 => ?_; refine S_region ?_; refine S_val E (pk_int rfl rfl rfl rfl) rfl rfl rfl ?_; clear E a; intro a E; refine hK7 _ _ ?_; refine wp_seq_k fun K8 hK8 => ?_; refine env_split (d := 22) E rfl ?_ ?_
    · skip
      clear E; intro c22 E
      have hi : i < 64 := by have := c22; simp only [decide_eq_true_eq] at this; omega
      refine S_then E rfl ?_; refine wp_skip ?_; refine hK8 _ _ ?_; refine wp_seq_k fun K9 hK9 => ?_; refine wp_block ?_; refine wp_seq_k fun K10 hK10 => ?_; refine S_region ?_; refine S_val E (pk_move rfl rfl) rfl rfl rfl ?_; clear E a; intro a E; refine S_val E (pk_assign rfl rfl) rfl rfl rfl ?_; clear E a; intro a E; refine hK10 _ _ ?_; refine S_region ?_; refine S_val E (pk_move rfl rfl) rfl rfl rfl ?_; clear E a; intro a E; refine S_val E (pk_move rfl rfl) rfl rfl rfl ?_; clear E a; intro a E; refine S_val E (pk_elA (sz := 1) (i := i) rfl rfl (by kernel_rfl) rfl rfl rfl hi) rfl rfl rfl ?_; clear E a; intro a E; refine S_val E (pk_loadRow (i := i) (off := 0) H 0 rfl trivial rfl hi rfl rfl (by rw [Nat.mul_one]) (by kernel_rfl)) rfl rfl rfl ?_; clear E a; intro a E; refine S_val E (pk_move rfl rfl) rfl rfl rfl ?_; clear E a; intro a E; refine S_val E (pk_xorB rfl rfl rfl) rfl rfl rfl ?_
      clear E a; intro a E; refine S_val E (pk_elA (sz := 1) (i := i) rfl rfl (by kernel_rfl) rfl rfl rfl hi) rfl rfl rfl ?_; clear E a; intro a E; refine S_eff E rfl (fun K hK => ?_); refine eff_storeRowF (off := 0) (i := i) (fun j => bv (mixB key by_ (i + 1) j)) 0 E H rfl rfl rfl hi rfl rfl (by rw [Nat.mul_one]) rfl rfl rfl (by kernel_rfl) (fun j => by rw [mixB_at]; exact mixB_succ key by_ i j) rfl ?_; clear H; intro w H F; replace H : Sep _ _ _ _ [_] _ := H; refine hK _ _ ?_; clear hK K; refine S_put0 rfl ?_; clear F; refine hK9 _ _ ?_; refine S_region ?_; refine S_val E (pk_intw rfl rfl rfl rfl (wI64 (by omega) (by omega))) rfl rfl rfl ?_; clear E a; intro a E; refine S_val E (pk_move rfl rfl) rfl rfl rfl ?_; clear E a; intro a E; refine loop_end ?_
      exact ⟨i + 1, ⟨E.to (by repeat (first | exact trivial | refine ⟨rfl, ?_⟩)), H, by omega⟩, by omega⟩
    · skip
      clear E; intro c22 E
      obtain rfl : i = 64 := by have := c22; simp only [decide_eq_false_iff_not] at this; omega
      refine S_else E rfl ?_; refine wp_exit ?_
      repeat (first | refine then_exit ?_ | refine block_hit ?_ | refine block_miss (by decide) ?_)
      refine hK5 _ _ ?_; refine wp_seq_k fun K11 hK11 => ?_; refine S_region ?_; refine S_val E (pk_move rfl rfl) rfl rfl rfl ?_; clear E a; intro a E; refine S_val E (pk_assign rfl rfl) rfl rfl rfl ?_; clear E a; intro a E; refine hK11 _ _ ?_; refine wp_ret ?_
      repeat (first | refine then_ret ?_ | refine block_ret ?_)
      refine ret1 rfl E (resT rfl) ?_
      have hT := txF_at (k := heldV key by_) (c := 64) ((H.lend 0 rfl).fact 0 rfl) (cl_held key by_) (by rw [heldV_len]; omega) (by rw [heldV_len]; omega) (heldV_byte key by_)
      exact ⟨some ⟨b15, 0, none⟩, 64, by rw [heldV_len], ((H.lend 0 rfl).know hT).refacts (List.forall_mem_cons.2 ⟨((H.lend 0 rfl).know hT).fact 0 rfl, List.forall_mem_nil _⟩)⟩
set_option maxRecDepth 100000 in
set_option maxHeartbeats 600000 in
theorem Mac_any {A PA : Option Addr} {c pc : Nat} {key : List Nat} {ps : List (List Nat)} {pm : Nat → TextT.μ} {gt : Nat → Nat} (h64 : key.length ≤ 64) (hp : ∀ p ∈ ps, p.length ≤ 100000000) (hP : ps.length ≤ 900000) {X : List Nat} {w0 : World} (hX : ∀ k ∈ X, k < w0.heap.size) (hk : St (TxF A c key) w0 X) (hL : St (LiF TextT PA pc ps pm) w0 X) (hG : St (AtC ⟨1, 0, none⟩ [.row 64 fun i => u32 (gt i)]) w0 X) :
    Calls Tryd.prog 34 #[.slice A key.length c, .slice PA ps.length pc] w0 fun e w' => e = .returned (.agg (ca [.key (macV gt key ps)])) ∧ Sep X [] w0 w' [] [] := by
  have hpA : ∀ p ∈ heldV key 54 :: ps, p.length ≤ 100000000 := fun p h => by rcases List.mem_cons.1 h with rfl | h; rw [heldV_len]; omega; exact hp p h
  have hpB : ∀ p ∈ [heldV key 92, (sumV gt (heldV key 54 :: ps))], p.length ≤ 100000000 := fun p h => by simp only [List.mem_cons, List.not_mem_nil, or_false] at h; rcases h with rfl | rfl; rw [heldV_len]; omega; rw [sumV_len]; omega
  refine calls_env Tryd.ntmps34 Tryd.func34 rfl rfl fun a E => ?_; replace E : Env a _ [(0, _), (1, _)] := E
  have H : Sep X [] w0 w0 [] [(TxF A c key), (LiF TextT PA pc ps pm), (AtC ⟨1, 0, none⟩ [.row 64 fun i => u32 (gt i)])] := Sep.start hX (List.forall_mem_cons.2 ⟨hk, List.forall_mem_cons.2 ⟨hL, List.forall_mem_cons.2 ⟨hG, fun _ h => by cases h⟩⟩⟩)
  refine wp_seq_k fun K0 hK0 => ?_; refine S_region ?_; refine S_eff E rfl (fun K hK => ?_); refine eff_alloc (z := [.key []]) H rfl (by kernel_rfl) ?_; clear H; intro b4 w H _; refine hK _ _ ?_; clear hK K; refine S_put E rfl rfl ?_; clear E a; intro a E; refine hK0 _ _ ?_; refine wp_seq_k fun K1 hK1 => ?_; refine S_region ?_; refine S_val E (pk_move rfl rfl) rfl rfl rfl ?_; clear E a; intro a E; refine S_eff E rfl (fun K hK => ?_); refine eff_call E rfl rfl rfl (by kernel_rfl) ?_; refine (held_any (by_ := 54) h64 H.xk (H.fact 0 rfl)).mono ?_; rintro e w ⟨A7, c7, rfl, H1⟩
  replace H := H.call H1
  clear H1; replace H : Sep _ _ _ _ [_] [_, _, _, _] := H; refine hK _ _ ?_; clear hK K; refine S_put E rfl rfl ?_; clear E a; intro a E; refine S_eff E rfl (fun K hK => ?_); refine eff_bslice (sz := 1) (z := [.one (.slice none 0 0)]) E H rfl Tryd.underlying37 (by kernel_rfl) (by decide) (by kernel_rfl) ⟨_, [.one _], 0, _, rfl, rfl, rfl, rfl, rfl⟩ ?_; clear H; intro b8 w H _; refine hK _ _ ?_; clear hK K; refine S_put E rfl rfl ?_; clear E a; intro a E; refine S_val E (pk_move rfl rfl) rfl rfl rfl ?_; clear E a; intro a E
  replace H := H.rowOfL (sz := 1) (n := 1) (text1 (A := A7) (c := c7) (k := heldV key 54)) rfl (by omega)
  refine S_eff E rfl (fun K hK => ?_); refine eff_appL (T := TextT) (by_ := 24) (its := [((heldV key 54, (A7, c7)) : List Nat × TextT.μ)]) 0 E H (H.fact 2 rfl) rfl rfl rfl rfl ⟨Tryd.underlying37, by kernel_rfl⟩ (by simp only [List.length_cons, List.length_nil]; omega) (by simp only [List.length_cons, List.length_nil]; omega) ?_; clear H; intro A10 c10 w hcap10 H F; replace H : Sep _ _ _ _ [_, _] _ := H; refine hK _ _ ?_; clear hK K; refine S_put E rfl rfl ?_; clear E a; intro a E; clear F
  have HN := H.know (nest_app (a := [((heldV key 54, (A7, c7)) : List Nat × TextT.μ)]) (nest_snoc (its := []) (q := ((heldV key 54, (A7, c7)) : List Nat × TextT.μ)) nest_nil (H.fact 0 rfl)) (nest_items (H.fact 2 rfl)))
  obtain ⟨m10, HZ⟩ := HN.freezeL (xs := heldV key 54 :: ps) rfl (by simp) (by rw [List.map_append, items_fst]; rfl)
  clear H HN
  have H := HZ
  clear HZ; replace H : Sep _ _ _ _ [_] [_, _, _, _, _, _] := H
  rw [show ([((heldV key 54, (A7, c7)) : List Nat × TextT.μ)] ++ itemsOf TextT ps pm).length = (heldV key 54 :: ps).length from by simp [itms_len]] at E
  refine S_eff E rfl (fun K hK => ?_); refine eff_call E rfl rfl rfl (by kernel_rfl) ?_; refine (Sum_any (ps := heldV key 54 :: ps) hpA (by simp only [List.length_cons]; omega) H.xk (H.fact 0 rfl) (H.fact 5 rfl)).mono ?_; rintro e w ⟨rfl, H1⟩
  replace H := H.call H1
  clear H1; replace H : Sep _ _ _ _ [_] [_, _, _, _, _, _] := H; refine hK _ _ ?_; clear hK K; refine S_put E rfl rfl ?_; clear E a; intro a E; refine S_eff E rfl (fun K hK => ?_); refine eff_alloc (z := [.key []]) H rfl (by kernel_rfl) ?_; clear H; intro b5 w H _; refine hK _ _ ?_; clear hK K; refine S_put E rfl rfl ?_; clear E a; intro a E; refine S_eff E rfl (fun K hK => ?_); refine eff_store 0 E H rfl rfl rfl rfl rfl (by repeat (first | exact trivial | refine ⟨rfl, ?_⟩ | refine ⟨fun _ _ => rfl, ?_⟩)) rfl (by kernel_rfl) rfl ?_; clear H; intro w H _; replace H : Sep _ _ _ _ [_, _] _ := H; refine hK _ _ ?_; clear hK K; refine S_put0 rfl ?_; refine hK1 _ _ ?_; refine wp_seq_k fun K2 hK2 => ?_; refine C_region E H [] 3 [(0, false), (2, false), (1, true)] (by kernel_rfl) (by kernel_rfl) (fun w HS => ?_)
  (simp only [canOps, List.getElem?_cons_zero, List.getElem?_cons_succ, List.drop_succ_cons, List.drop_zero])
  clear H
  have H := HS
  have hsz : w.heap.size ≤ w.heap.size := Nat.le_refl _
  have HK : CanB.Keep (fun k => k < w.heap.size ∧ k ∉ []) w w := CanB.Keep.refl _ _
  refine C_val E HK (pk_move rfl rfl) rfl rfl rfl (fun _ _ _ _ h => h) ?_; clear E a; intro a E; refine C_val E HK (pk_subP (N := 32) (sz := 1) rfl (by kernel_rfl) rfl) rfl rfl rfl (fun _ _ _ _ h => h) ?_; clear E a; intro a E; refine C_eff E rfl (fun K hK => ?_); refine eff_call E rfl rfl rfl (by kernel_rfl) ?_; refine (held_any (by_ := 92) h64 H.xk (H.fact 3 rfl)).mono ?_; rintro e w ⟨A13, c13, rfl, H1⟩
  have F := H1.frm
  replace H := H.call H1
  clear H1; replace H : Sep _ _ _ _ [_, _] [_, _, _, _, _, _, _] := H
  have hk := keep_frm (D := []) F hsz (by simp)
  refine hK _ _ hk ?_; clear hK K
  replace HK := HK.trans hk
  replace hsz := Nat.le_trans hsz (F).size
  clear hk; refine C_put E rfl rfl ?_; clear E a; intro a E; clear F; refine CanB.wpCan_nil ?_
  try (simp only [List.take_succ_cons, List.take_zero, List.drop_succ_cons, List.drop_zero])
  clear HS HK hsz; refine S_eff E rfl (fun K hK => ?_); refine eff_bslice (sz := 1) (z := [.one (.slice none 0 0), .one (.slice none 0 0)]) E H rfl Tryd.underlying37 (by kernel_rfl) (by decide) (by kernel_rfl) ⟨_, [.one _], 0, _, rfl, rfl, rfl, rfl, ⟨_, [.one _], 1, _, rfl, rfl, rfl, rfl, rfl⟩⟩ ?_; clear H; intro b15 w H _; refine hK _ _ ?_; clear hK K; refine S_put E rfl rfl ?_; clear E a; intro a E; refine S_eff E rfl (fun K hK => ?_); refine eff_call E rfl rfl rfl (by kernel_rfl) ?_
  have HB := (H.lend 0 rfl).lend 0 rfl
  have hin := txF_at (k := (sumV gt (heldV key 54 :: ps))) (c := 32) (HB.fact 0 rfl) (by rw [cl_key, keyL_self (sumV_len _ _)]) (by rw [sumV_len]; omega) (by rw [sumV_len]; omega) (sumV_byte _ _)
  have hli := liF_at (T := TextT) (its := [((heldV key 92, (A13, c13)) : List Nat × TextT.μ), ((sumV gt (heldV key 54 :: ps)), (some ⟨b5, 0, none⟩, 32))]) (c := 2) (xs := [heldV key 92, (sumV gt (heldV key 54 :: ps))]) (HB.fact 1 rfl) (by rw [← text2, heldV_len, sumV_len]) (nest_snoc (its := [_]) (q := (((sumV gt (heldV key 54 :: ps)), (some ⟨b5, 0, none⟩, 32)) : List Nat × TextT.μ)) (nest_snoc (its := []) (q := ((heldV key 92, (A13, c13)) : List Nat × TextT.μ)) nest_nil (HB.fact 2 rfl)) hin) rfl (by show 2 ≤ 2; decide) (by show 2 ≤ _; decide)
  have H2 := HB.refacts (R' := [_, _]) (List.forall_mem_cons.2 ⟨hli, List.forall_mem_cons.2 ⟨HB.fact 8 rfl, List.forall_mem_nil _⟩⟩)
  clear HB hin hli; refine (Sum_any (ps := [heldV key 92, (sumV gt (heldV key 54 :: ps))]) hpB (by show 2 ≤ 1000000; decide) H2.xk (H2.fact 0 rfl) (H2.fact 1 rfl)).mono ?_; rintro e w ⟨rfl, H1⟩
  have F := H1.frm
  replace H := H.grow F
  refine hK _ _ ?_; clear hK K; refine S_put E rfl rfl ?_; clear E a; intro a E; clear F; clear H2; refine S_eff E rfl (fun K hK => ?_); refine eff_store 2 E H rfl rfl rfl rfl rfl (by repeat (first | exact trivial | refine ⟨rfl, ?_⟩ | refine ⟨fun _ _ => rfl, ?_⟩)) rfl (by kernel_rfl) rfl ?_; clear H; intro w H _; replace H : Sep _ _ _ _ [_, _, _] _ := H; refine hK _ _ ?_; clear hK K; refine S_put0 rfl ?_; refine hK2 _ _ ?_; refine wp_ret ?_
  repeat (first | refine then_ret ?_ | refine block_ret ?_)
  refine ret1 rfl E (by exact resC (n := 32) H 2 rfl rfl rfl (by kernel_rfl)) ?_; refine ⟨?_, (H.refacts (List.forall_mem_nil _)).popL.popL.popL⟩
  rw [macV]
end Go.Proofs.YtfolbgiekbimpaaDoor
namespace Go.Proofs.YtfolbgiekbimpaaDoor
set_option linter.unusedSimpArgs false
set_option linter.unusedVariables false
open Go.RowKit


theorem farV_succ (a b : List Nat) (i : Nat) : (farV a b i % 256) ||| (((a.getD i 0 % 256) ^^^ (b.getD i 0 % 256)) % 256) = farV a b (i + 1) := by rw [farV]
theorem farV_dec {a b : List Nat} (ha : ∀ x ∈ a, x < 256) (hb : ∀ x ∈ b, x < 256) (hl : a.length = b.length) : (((farV a b a.length : Nat) : Int) == 0) = decide (a = b) := by
  have h := (farV_zero a b ha hb hl a.length (Nat.le_refl _)).2
  rw [List.take_length, hl, List.take_length] at h
  rw [hl]
  by_cases h1 : a = b
  · rw [h.2 h1, decide_eq_true h1]; rfl
  · rw [decide_eq_false h1, beq_eq_false_iff_ne]
    intro h2
    exact h1 (h.1 (by omega))
attribute [local irreducible] addW xorW andW orW shlW shrW smallW greatW wordV blockF sumV
def IsV (v : Value) : Fact := fun x _ => x = v
def NewB (z : Nat) (e : TypeId) : Fact := fun x w => ∃ b, x = .slice (some ⟨b, 0, none⟩) 1 1 ∧ w.heap[b]? = some (.cells (ca [.one (bv z)]) e (0, 0))
def NewL3 (u v : Value) (z : Nat) (e t : TypeId) : Fact := fun x w => ∃ b b', x = .slice (some ⟨b, 0, none⟩) 3 3 ∧ w.heap[b]? = some (.cells (ca [.one u, .one v, .one (.slice (some ⟨b', 0, none⟩) 1 1)]) t (0, 0)) ∧ w.heap[b']? = some (.cells (ca [.one (bv z)]) e (0, 0))
def NewK (B : Nat) (t : TypeId) (cs : List Chunk) : Fact := fun x w => ∃ b, x = .pointer (some ⟨b, 0, none⟩) ∧ B ≤ b ∧ w.heap[b]? = some (.cells (ca cs) t (0, 0))
theorem isV_eq {v x : Value} {w : World} (h : IsV v x w) : x = v := h
theorem isV_stays (v : Value) : Stays (IsV v) := fun _ _ _ _ h => h
theorem newB_stays (z : Nat) (e : TypeId) : Stays (NewB z e) := fun _ _ _ hb ⟨b, h1, h2⟩ => ⟨b, h1, (hb.block b (lt_of_block h2)).trans h2⟩
theorem newL3_stays (u v : Value) (z : Nat) (e t : TypeId) : Stays (NewL3 u v z e t) := fun _ _ _ hb ⟨b, b', h1, h2, h3⟩ => ⟨b, b', h1, (hb.block b (lt_of_block h2)).trans h2, (hb.block b' (lt_of_block h3)).trans h3⟩
theorem newK_stays (B : Nat) (t : TypeId) (cs : List Chunk) : Stays (NewK B t cs) := fun _ _ _ hb ⟨b, h1, h0, h2⟩ => ⟨b, h1, h0, (hb.block b (lt_of_block h2)).trans h2⟩
section
variable {P : Program} {ops : Array Oper} {rest : List Oper} {o : Oper} {a : Act} {w ws : World} {Q : Exit → Act → World → Prop} {N d : Nat} {l : List (Nat × Value)} {v : Value} {r : Fact} {X G : List Nat} {w0 : World} {L : List Res} {R : List (World → Prop)} {x y : Operand} {t u : TypeId}
theorem F_val (E : Env a N l) (hv : PK P allS w l o v) (hg : gd ops l o = some true) (h : r v w) : freeOp P ops Q o r a w := by
  unfold freeOp
  rw [if_pos (gd_wanted E hg)]
  unfold Oper.wp
  rw [hv w (CanB.Keep.refl _ _) a N E]
  exact ⟨Below.refl _ _, v, rfl, h⟩
theorem F_eff (E : Env a N l) (hg : gd ops l o = some true) (h : ∀ K : Act → World → Prop, (∀ v w', Below w.heap.size w w' → r v w' → K (a.put o.dst v) w') → o.wp P a w K Q) : freeOp P ops Q o r a w := by
  unfold freeOp
  rw [if_pos (gd_wanted E hg)]
  exact h _ fun v w' hb hr => ⟨hb, v, rfl, hr⟩
theorem F_alloc {ty : TypeId} {z : List Chunk} (E : Env a N l) (ho : o.op = .alloc ty) (hz : zeroC P ty = some (ca z)) (hg : gd ops l o = some true) (h : ∀ w', w'.heap[w.heap.size]? = some (.cells (ca z) ty (0, 0)) → r (.pointer (some ⟨w.heap.size, 0, none⟩)) w') : freeOp P ops Q o r a w := by
  unfold freeOp
  rw [if_pos (gd_wanted E hg)]
  obtain ⟨i, zv, h1, h2, h3⟩ := zeroC_of hz
  have hr : (execOp a.eval o).run P w = .ok (.value (.pointer (some ⟨w.heap.size, 0, none⟩))) (w.alloc (.cells (ca z) ty)) := by
    unfold execOp
    simp [ho, Instr.alloc, zeroValue, typeInfo, h1, h2, newVar, newRow, newObj, h3, Sem.run_bind]
    rfl
  unfold Oper.wp
  rw [hr]
  exact ⟨(Below.refl _ _).alloc (Nat.le_refl _) _, _, rfl, h _ (heap_alloc_new w _)⟩
theorem free_gen (E : Env a N l) (h : ∀ a, Env a N l → freeOp P ops Q o r a w) : freeOp P ops Q o r a w := h a E
theorem act_gen (E : Env a N l) (h : ∀ a, Env a N l → wpList P ops Q rest a w) : wpList P ops Q rest a w := h a E
theorem at_heap {b t : Nat} {cs : List Chunk} (h : w.heap[b]? = some (.cells (ca cs) t (0, 0))) : St (AtC ⟨b, 0, none⟩ cs) w [] := fun w' hk => at_blk (t := t) (fr := (0, 0)) ((hk b (lt_of_block h) (by simp)).trans h)
theorem pk_addB {m n : Nat} (ho : o.op = .binOp .add t x y u) (hx : ev l x = some (bv m)) (hy : ev l y = some (.int .u8 1)) {S : Nat → Prop} : PK P S ws l o (bv ((m + 1) % 256)) :=
  pk_int ho hx hy (by
    have h := wrap8 (m + 1)
    rw [Int.natCast_add] at h
    exact congrArg (fun z => some (Value.int .u8 z)) h)
theorem St.low {r : World → Prop} {Y : List Nat} (h : St r w Y) : St r w [] := h.mono fun _ hk => by cases hk
end
attribute [local irreducible] freeOp
set_option maxRecDepth 100000 in
set_option maxHeartbeats 400000 in
theorem Equal_any {KA KB : Option Addr} {ca_ cb : Nat} {ka kb : List Nat} {X : List Nat} {w0 : World} (hX : ∀ k ∈ X, k < w0.heap.size) (hA : St (TxF KA ca_ ka) w0 X) (hB : St (TxF KB cb kb) w0 X) :
    Calls Tryd.prog 39 #[.slice KA ka.length ca_, .slice KB kb.length cb] w0 fun e w' => e = .returned (.bool (decide (ka = kb))) ∧ Sep X [] w0 w' [] [] := by
  have hal := hA.now.len
  have hab := hA.now.byt
  have hbb := hB.now.byt
  refine calls_env Tryd.ntmps39 Tryd.func39 rfl rfl fun a E => ?_; replace E : Env a _ [(0, _), (1, _)] := E
  have H : Sep X [] w0 w0 [] [(TxF KA ca_ ka), (TxF KB cb kb)] := Sep.start hX (List.forall_mem_cons.2 ⟨hA, List.forall_mem_cons.2 ⟨hB, fun _ h => by cases h⟩⟩)
  refine wp_seq_k fun K0 hK0 => ?_; refine S_region ?_; refine S_val E (pk_assign rfl rfl) rfl rfl rfl ?_; clear E a; intro a E; refine hK0 _ _ ?_; refine wp_seq_k fun K1 hK1 => ?_; refine wp_seq_k fun K2 hK2 => ?_; refine S_region ?_; refine S_val E (pk_move rfl rfl) rfl rfl rfl ?_; clear E a; intro a E; refine S_val E (pk_len rfl rfl (by kernel_rfl)) rfl rfl rfl ?_; clear E a; intro a E; refine S_val E (pk_move rfl rfl) rfl rfl rfl ?_; clear E a; intro a E; refine S_val E (pk_len rfl rfl (by kernel_rfl)) rfl rfl rfl ?_; clear E a; intro a E; refine S_val E (pk_int rfl rfl rfl rfl) rfl rfl rfl ?_; clear E a; intro a E; refine hK2 _ _ ?_; refine env_split (d := 11) E rfl ?_ ?_
  · skip
    clear E; intro c11 E
    have hne : ka ≠ kb := fun h => by subst h; simp at c11
    refine S_then E rfl ?_; refine wp_seq_k fun K3 hK3 => ?_; refine S_region ?_; refine S_val E (pk_assign rfl rfl) rfl rfl rfl ?_; clear E a; intro a E; refine hK3 _ _ ?_; refine wp_ret ?_
    repeat (first | refine then_ret ?_ | refine block_ret ?_)
    refine ret1 rfl E (resT rfl) ?_
    exact ⟨congrArg (fun b => Ending.returned (Value.bool b)) (decide_eq_false hne).symm, H.pop.pop⟩
  · skip
    clear E; intro c11 E
    have hll : ka.length = kb.length := by have := c11; simp only [bne_eq_false_iff_eq] at this; omega
    refine S_else E rfl ?_; refine wp_skip ?_; refine hK1 _ _ ?_; refine wp_seq_k fun K4 hK4 => ?_; refine S_region ?_; refine S_val E (pk_assign rfl rfl) rfl rfl rfl ?_; clear E a; intro a E; refine hK4 _ _ ?_; refine wp_seq_k fun K5 hK5 => ?_; refine wp_seq_k fun K6 hK6 => ?_; refine S_region ?_; refine S_val E (pk_move rfl rfl) rfl rfl rfl ?_; clear E a; intro a E; refine S_val E (pk_len rfl rfl (by kernel_rfl)) rfl rfl rfl ?_; clear E a; intro a E; refine S_val E (pk_move rfl rfl) rfl rfl rfl ?_; clear E a; intro a E; refine hK6 _ _ ?_; refine wp_block ?_; refine S_loopK (γ := Nat) [0, 1, 13] (fun i => [(5, bv (farV ka kb i)), (14, .int .i64 (i : Int))]) (fun i => i ≤ ka.length) (fun i => ka.length - i) (0) E H (by repeat (first | exact trivial | refine ⟨rfl, ?_⟩)) (Nat.zero_le _) ?_; clear E H; intro i a w E H hφ; replace E : Env a _ [(5, _), (14, _), (0, _), (1, _), (13, _)] := E
    replace H : Sep _ _ _ _ [] [_, _] := H; refine wp_seq_k fun K7 hK7 => ?_; refine S_region ?_; refine S_val E (pk_int rfl rfl rfl rfl) rfl rfl rfl ?_; clear E a; intro a E; refine hK7 _ _ ?_; refine wp_seq_k fun K8 hK8 => ?_; refine env_split (d := 15) E rfl ?_ ?_
    · skip
      clear E; intro c15 E
      have hi : i < ka.length := by have := c15; simp only [decide_eq_true_eq] at this; omega
      obtain ⟨aA, hAA⟩ : ∃ ad, KA = some ad := by
        cases hq : KA with
        | some ad => exact ⟨ad, rfl⟩
        | none => have := (hA.now.nil hq).1; omega
      obtain ⟨aB, hBB⟩ : ∃ ad, KB = some ad := by
        cases hq : KB with
        | some ad => exact ⟨ad, rfl⟩
        | none => have := (hB.now.nil hq).1; omega
      have ga : ka[i]? = some (ka.getD i 0) := by rw [List.getD_eq_getElem?_getD, List.getElem?_eq_getElem hi]; rfl
      have gb : kb[i]? = some (kb.getD i 0) := by rw [List.getD_eq_getElem?_getD, List.getElem?_eq_getElem (show i < kb.length by omega)]; rfl
      refine S_then E rfl ?_; refine wp_skip ?_; refine hK8 _ _ ?_; refine wp_seq_k fun K9 hK9 => ?_; refine wp_block ?_; refine wp_seq_k fun K10 hK10 => ?_; refine S_region ?_; refine S_val E (pk_move rfl rfl) rfl rfl rfl ?_; clear E a; intro a E; refine S_val E (pk_assign rfl rfl) rfl rfl rfl ?_; clear E a; intro a E; refine hK10 _ _ ?_; refine C_region E H [] 10 [(0, false), (1, false), (2, false), (3, false), (4, false), (5, false), (6, false), (7, false), (8, false), (9, false)] (by kernel_rfl) (by kernel_rfl) (fun w HS => ?_)
      (simp only [canOps, List.getElem?_cons_zero, List.getElem?_cons_succ, List.drop_succ_cons, List.drop_zero])
      clear H
      have H := HS
      have hsz : w.heap.size ≤ w.heap.size := Nat.le_refl _
      have HK : CanB.Keep (fun k => k < w.heap.size ∧ k ∉ []) w w := CanB.Keep.refl _ _
      refine C_val E HK (pk_move rfl rfl) rfl rfl rfl (fun _ _ _ _ h => h) ?_; clear E a; intro a E; refine C_val E HK (pk_move rfl rfl) rfl rfl rfl (fun _ _ _ _ h => h) ?_; clear E a; intro a E; refine C_val E HK (pk_move rfl rfl) rfl rfl rfl (fun _ _ _ _ h => h) ?_; clear E a; intro a E; refine C_val E HK (pk_elA (sz := 1) (i := i) hAA rfl (by kernel_rfl) rfl rfl rfl hi) rfl rfl rfl (fun _ _ _ _ h => h) ?_; clear E a; intro a E; refine C_val E HK (pk_byte (HS.fact 0 rfl) (fun k h _ => ⟨h, by simp⟩) hAA rfl rfl ga (by kernel_rfl)) rfl rfl rfl (fun _ _ _ _ h => h) ?_; clear E a; intro a E; refine C_val E HK (pk_move rfl rfl) rfl rfl rfl (fun _ _ _ _ h => h) ?_; clear E a; intro a E; refine C_val E HK (pk_move rfl rfl) rfl rfl rfl (fun _ _ _ _ h => h) ?_; clear E a; intro a E
      refine C_val E HK (pk_elA (sz := 1) (i := i) hBB rfl (by kernel_rfl) rfl rfl rfl (by omega)) rfl rfl rfl (fun _ _ _ _ h => h) ?_; clear E a; intro a E; refine C_val E HK (pk_byte (HS.fact 1 rfl) (fun k h _ => ⟨h, by simp⟩) hBB rfl rfl gb (by kernel_rfl)) rfl rfl rfl (fun _ _ _ _ h => h) ?_; clear E a; intro a E; refine C_val E HK (pk_xorB rfl rfl rfl) rfl rfl rfl (fun _ _ _ _ h => h) ?_; clear E a; intro a E; refine CanB.wpCan_nil ?_
      try (simp only [List.take_succ_cons, List.take_zero, List.drop_succ_cons, List.drop_zero])
      clear HS HK hsz; refine S_val E (pk_orB rfl rfl rfl) rfl rfl rfl ?_; clear E a; intro a E; refine S_val E (pk_assignE rfl rfl (congrArg bv (farV_succ ka kb i))) rfl rfl rfl ?_; clear E a; intro a E; refine hK9 _ _ ?_; refine S_region ?_; refine S_val E (pk_intw rfl rfl rfl rfl (wI64 (by omega) (by omega))) rfl rfl rfl ?_; clear E a; intro a E; refine S_val E (pk_move rfl rfl) rfl rfl rfl ?_; clear E a; intro a E; refine loop_end ?_
      exact ⟨i + 1, ⟨E.to (by repeat (first | exact trivial | refine ⟨rfl, ?_⟩)), H, by omega⟩, by omega⟩
    · skip
      clear E; intro c15 E
      obtain rfl : i = ka.length := by have := c15; simp only [decide_eq_false_iff_not] at this; omega
      refine S_else E rfl ?_; refine wp_exit ?_
      repeat (first | refine then_exit ?_ | refine block_hit ?_ | refine block_miss (by decide) ?_)
      refine hK5 _ _ ?_; refine wp_seq_k fun K11 hK11 => ?_; refine S_region ?_; refine S_val E (pk_move rfl rfl) rfl rfl rfl ?_; clear E a; intro a E; refine S_val E (pk_int rfl rfl rfl rfl) rfl rfl rfl ?_; clear E a; intro a E; refine S_val E (pk_assign rfl rfl) rfl rfl rfl ?_; clear E a; intro a E; refine hK11 _ _ ?_; refine wp_ret ?_
      repeat (first | refine then_ret ?_ | refine block_ret ?_)
      refine ret1 rfl E (resT rfl) ?_
      exact ⟨congrArg (fun b => Ending.returned (Value.bool b)) (farV_dec hab hbb hll), H.pop.pop⟩
set_option maxRecDepth 100000 in
set_option maxHeartbeats 8000000 in
theorem more_any {b9 b3 b8 b4 t9 t8 j lc ic : Nat} {LA IA : Option Addr} {k last info : List Nat} {gt : Nat → Nat} (hk32 : k.length = 32) (hkb : ∀ x ∈ k, x < 256) (hll : last.length ≤ 100000000) (hil : info.length ≤ 100000000) {X : List Nat} {w0 : World} (hX : ∀ k ∈ X, k < w0.heap.size) (H0 : Sep X (keysR [.blk b9 (ca [.one (bv j)]) t9, .blk b8 (ca [.one (.slice LA last.length lc)]) t8]) w0 w0 [.blk b9 (ca [.one (bv j)]) t9, .blk b8 (ca [.one (.slice LA last.length lc)]) t8] [AtC ⟨b3, 0, none⟩ [.key k], AtC ⟨b4, 0, none⟩ [.one (.slice IA info.length ic)], TxF LA lc last, TxF IA ic info, AtC ⟨1, 0, none⟩ [.row 64 fun i => u32 (gt i)]]) (hd : ∀ k ∈ keysR [.blk b9 (ca [.one (bv j)]) t9, .blk b8 (ca [.one (.slice LA last.length lc)]) t8], k ∉ X) :
    Calls Tryd.prog 52 #[.pointer (some ⟨b9, 0, none⟩), .pointer (some ⟨b3, 0, none⟩), .pointer (some ⟨b8, 0, none⟩), .pointer (some ⟨b4, 0, none⟩)] w0 fun e w' => ∃ g, e = .returned (.slice (some ⟨g, 0, none⟩) 32 32) ∧ Sep X (keysR [.blk b9 (ca [.one (bv j)]) t9, .blk b8 (ca [.one (.slice LA last.length lc)]) t8]) w0 w' [.blk b9 (ca [.one (bv ((j + 1) % 256))]) t9, .blk b8 (ca [.one (.slice (some ⟨g, 0, none⟩) 32 32)]) t8] [TxF (some ⟨g, 0, none⟩) 32 (macV gt k [last, info, [((j + 1) % 256)]])] := by
  refine calls_env Tryd.ntmps52 Tryd.func52 rfl rfl fun a E => ?_; replace E : Env a _ [(0, _), (1, _), (2, _), (3, _)] := E
  have H := H0
  have hps : ∀ p ∈ [last, info, [((j + 1) % 256)]], p.length ≤ 100000000 := fun p h => by simp only [List.mem_cons, List.not_mem_nil, or_false] at h; rcases h with rfl | rfl | rfl; exact hll; exact hil; show 1 ≤ 100000000; decide
  refine wp_seq_k fun K0 hK0 => ?_; refine S_region ?_; refine S_val E (pk_assign rfl rfl) rfl rfl rfl ?_; clear E a; intro a E; refine hK0 _ _ ?_; refine wp_seq_k fun K1 hK1 => ?_; refine S_region ?_; refine S_val E (pk_load1 H 0 rfl rfl rfl trivial rfl (by kernel_rfl)) rfl rfl rfl ?_; clear E a; intro a E; refine S_val E (pk_addB (n := 0) rfl rfl rfl) rfl rfl rfl ?_; clear E a; intro a E; refine S_eff E rfl (fun K hK => ?_); refine eff_store 0 (new := [.one _]) E H rfl rfl rfl rfl rfl (by repeat (first | exact trivial | refine ⟨rfl, ?_⟩ | refine ⟨fun _ _ => rfl, ?_⟩)) rfl (by kernel_rfl) rfl ?_; clear H; intro w H _; replace H : Sep _ _ _ _ [_, _] _ := H; refine hK _ _ ?_; clear hK K; refine S_put0 rfl ?_; refine hK1 _ _ ?_; refine wp_seq_k fun K2 hK2 => ?_
  refine wp_region_free 8 [IsV (.slice (some ⟨b3, 0, none⟩) 32 32), IsV (.slice LA last.length lc), IsV (.slice IA info.length ic), IsV (bv ((j + 1) % 256)), NewB ((j + 1) % 256) 5, NewL3 (.slice LA last.length lc) (.slice IA info.length ic) ((j + 1) % 256) 5 32, IsV (.agg (ca [.key (macV gt k [last, info, [((j + 1) % 256)]])])), NewK w.drew.heap.size 23 [.key []] ]
    [[], [], [], [], [3], [1, 2, 4], [0, 5], [] ] (by kernel_rfl) (by kernel_rfl) rfl (List.forall_mem_cons.2 ⟨isV_stays _, List.forall_mem_cons.2 ⟨isV_stays _, List.forall_mem_cons.2 ⟨isV_stays _, List.forall_mem_cons.2 ⟨isV_stays _, List.forall_mem_cons.2 ⟨newB_stays _ _, List.forall_mem_cons.2 ⟨newL3_stays _ _ _ _ _, List.forall_mem_cons.2 ⟨isV_stays _, List.forall_mem_cons.2 ⟨newK_stays _ _ _, List.forall_mem_nil _⟩⟩⟩⟩⟩⟩⟩⟩) ?_ ?_
  · simp only [List.take_succ_cons, List.take_zero, List.zip_cons_cons, List.zip_nil_left, List.zip_nil_right, freeOps, allV, under, factAt, fillA, List.getElem?_cons_zero, List.getElem?_cons_succ]
    refine ⟨?_, ?_, ?_, ?_, ?_, ?_, ?_, ?_, trivial⟩
    · intro x0 x1 x2 x3 x4 x5 x6 x7 w' hb'
      exact F_val ((((((((E.put (d := 8) rfl).put (d := 9) rfl).put (d := 10) rfl).put (d := 11) rfl).put (d := 12) rfl).put (d := 13) rfl).put (d := 14) rfl).put (d := 5) rfl) (pk_subP (N := 32) (sz := 1) rfl (by kernel_rfl) rfl) rfl rfl
    · intro x0 x1 x2 x3 x4 x5 x6 x7 w' hb'
      have H' := H.drew.grow (Frm.of_below hb')
      exact F_val ((((((((E.put (d := 8) rfl).put (d := 9) rfl).put (d := 10) rfl).put (d := 11) rfl).put (d := 12) rfl).put (d := 13) rfl).put (d := 14) rfl).put (d := 5) rfl) (pk_load1 H' 1 rfl rfl rfl trivial rfl (by kernel_rfl)) rfl rfl
    · intro x0 x1 x2 x3 x4 x5 x6 x7 w' hb'
      have H' := H.drew.grow (Frm.of_below hb')
      exact F_val ((((((((E.put (d := 8) rfl).put (d := 9) rfl).put (d := 10) rfl).put (d := 11) rfl).put (d := 12) rfl).put (d := 13) rfl).put (d := 14) rfl).put (d := 5) rfl) (pk_loadE1 (H'.fact 1 rfl) (fun _ _ _ => trivial) rfl rfl rfl (by kernel_rfl)) rfl rfl
    · intro x0 x1 x2 x3 x4 x5 x6 x7 w' hb'
      have H' := H.drew.grow (Frm.of_below hb')
      exact F_val ((((((((E.put (d := 8) rfl).put (d := 9) rfl).put (d := 10) rfl).put (d := 11) rfl).put (d := 12) rfl).put (d := 13) rfl).put (d := 14) rfl).put (d := 5) rfl) (pk_load1 H' 0 rfl rfl rfl trivial rfl (by kernel_rfl)) rfl rfl
    · intro x0 x1 x2 x3 x4 x5 x6 x7 w' hb' e3
      have H' := H.drew.grow (Frm.of_below hb')
      replace e3 := isV_eq e3; subst e3
      refine free_gen ((((((((E.put (d := 8) rfl).put (d := 9) rfl).put (d := 10) rfl).put (d := 11) rfl).put (d := 12) rfl).put (d := 13) rfl).put (d := 14) rfl).put (d := 5) rfl) (fun a E => ?_); refine F_eff E rfl (fun K hK => ?_); refine eff_bslice (sz := 1) (z := [.one (.int .u8 0)]) E H' rfl Tryd.underlying32 (by kernel_rfl) (by decide) (by kernel_rfl) ⟨_, [.one _], 0, _, rfl, rfl, rfl, rfl, rfl⟩ ?_; intro b w2 H2 F
      exact hK _ _ F.below ⟨b, rfl, H2.holds _ (List.mem_cons_self ..)⟩
    · intro x0 x1 x2 x3 x4 x5 x6 x7 w' hb' e1 e2 e4
      have H' := H.drew.grow (Frm.of_below hb')
      replace e1 := isV_eq e1; subst e1
      replace e2 := isV_eq e2; subst e2
      obtain ⟨b', rfl, h4⟩ := e4
      refine free_gen ((((((((E.put (d := 8) rfl).put (d := 9) rfl).put (d := 10) rfl).put (d := 11) rfl).put (d := 12) rfl).put (d := 13) rfl).put (d := 14) rfl).put (d := 5) rfl) (fun a E => ?_); refine F_eff E rfl (fun K hK => ?_); refine eff_bslice (sz := 1) (z := [.one (.slice none 0 0), .one (.slice none 0 0), .one (.slice none 0 0)]) E H' rfl Tryd.underlying37 (by kernel_rfl) (by decide) (by kernel_rfl) ⟨_, [.one _], 0, _, rfl, rfl, rfl, rfl, ⟨_, [.one _], 1, _, rfl, rfl, rfl, rfl, ⟨_, [.one _], 2, _, rfl, rfl, rfl, rfl, rfl⟩⟩⟩ ?_; intro b w2 H2 F
      exact hK _ _ F.below ⟨b, b', rfl, H2.holds _ (List.mem_cons_self ..), (F.block b' (lt_of_block h4) (by simp)).trans h4⟩
    · intro x0 x1 x2 x3 x4 x5 x6 x7 w' hb' e0 e5
      have H' := H.drew.grow (Frm.of_below hb')
      replace e0 := isV_eq e0; subst e0
      obtain ⟨b, b', rfl, h5, h4⟩ := e5
      have hkk := txF_at (k := k) (c := 32) (St.low (H'.fact 0 rfl)) (by rw [cl_key, keyL_self hk32]) (by omega) (by omega) hkb
      have hz := txF_at (k := [((j + 1) % 256)]) (c := 1) (at_heap h4) rfl (by show 1 ≤ 1; decide) (by show 1 ≤ _; decide) (fun x hx => by rw [List.mem_singleton.1 hx]; exact Nat.mod_lt _ (by decide))
      have hli := liF_at (T := TextT) (its := [((last, (LA, lc)) : List Nat × TextT.μ), (info, (IA, ic)), ([((j + 1) % 256)], (some ⟨b', 0, none⟩, 1))]) (c := 3) (xs := [last, info, [((j + 1) % 256)]]) (at_heap h5) rfl (nest_snoc (its := [_, _]) (q := (([((j + 1) % 256)], (some ⟨b', 0, none⟩, 1)) : List Nat × TextT.μ)) (nest_snoc (its := [_]) (q := ((info, (IA, ic)) : List Nat × TextT.μ)) (nest_snoc (its := []) (q := ((last, (LA, lc)) : List Nat × TextT.μ)) nest_nil (St.low (H'.fact 2 rfl))) (St.low (H'.fact 3 rfl))) hz) rfl (by show 3 ≤ 3; decide) (by show 3 ≤ _; decide)
      refine free_gen ((((((((E.put (d := 8) rfl).put (d := 9) rfl).put (d := 10) rfl).put (d := 11) rfl).put (d := 12) rfl).put (d := 13) rfl).put (d := 14) rfl).put (d := 5) rfl) (fun a E => ?_); refine F_eff E rfl (fun K hK => ?_); refine eff_call E rfl rfl rfl (by kernel_rfl) ?_
      rw [show (Value.slice (some ⟨b3, 0, none⟩) 32 32) = .slice (some ⟨b3, 0, none⟩) k.length 32 from by rw [hk32]]
      refine (Mac_any (X := []) (key := k) (ps := [last, info, [((j + 1) % 256)]]) (by omega) hps (by show 3 ≤ 900000; decide) (fun _ h => by cases h) hkk hli (St.low (H'.fact 4 rfl))).mono ?_; rintro e w2 ⟨rfl, H2⟩
      exact hK _ _ H2.frm.below rfl
    · intro x0 x1 x2 x3 x4 x5 x6 x7 w' hb'
      exact F_alloc ((((((((E.put (d := 8) rfl).put (d := 9) rfl).put (d := 10) rfl).put (d := 11) rfl).put (d := 12) rfl).put (d := 13) rfl).put (d := 14) rfl).put (d := 5) rfl) rfl (z := [.key []]) (by kernel_rfl) rfl (fun w2 h => ⟨_, rfl, hb'.size, h⟩)
  simp only [List.take_succ_cons, List.take_zero, List.drop_succ_cons, List.drop_zero, allV, under, factAt, fillA, List.getElem?_cons_zero, List.getElem?_cons_succ, List.range_succ, List.range_zero, List.nil_append, List.cons_append]
  intro x0 x1 x2 x3 x4 x5 x6 x7 w' hb' e0 e1 e2 e3 e4 e5 e6 e7
  replace e6 := isV_eq e6; subst e6
  obtain ⟨b5, rfl, hB5, h5⟩ := e7
  refine @act_gen _ _ _ _ _ _ _ _ ((((((((E.put (d := 8) rfl).put (d := 9) rfl).put (d := 10) rfl).put (d := 11) rfl).put (d := 12) rfl).put (d := 13) rfl).put (d := 14) rfl).put (d := 5) rfl) ?_
  have H' := H.drew.own (Frm.of_below hb') (q := .blk b5 (ca [.key []]) 23) h5 (by intro k hk; simp only [Res.keys, List.mem_singleton] at hk; rw [hk]; exact hB5) (by simp [Res.keys])
  clear H E e0 e1 e2 e3 e4 e5 h5 hB5; intro a E
  have H := H'
  clear H'; refine S_eff E rfl (fun K hK => ?_); refine eff_store 0 E H rfl rfl rfl rfl rfl (by repeat (first | exact trivial | refine ⟨rfl, ?_⟩ | refine ⟨fun _ _ => rfl, ?_⟩)) rfl (by kernel_rfl) rfl ?_; clear H; intro w H F; replace H : Sep _ _ _ _ [_, _, _] _ := H; clear F; refine hK _ _ ?_; clear hK K; refine S_put0 rfl ?_; refine hK2 _ _ ?_; refine wp_seq_k fun K3 hK3 => ?_

  refine S_region ?_; refine S_val E (pk_subP (N := 32) (sz := 1) rfl (by kernel_rfl) rfl) rfl rfl rfl ?_; clear E a; intro a E; refine S_eff E rfl (fun K hK => ?_); refine eff_store 2 (new := [.one _]) E H rfl rfl rfl rfl rfl (by repeat (first | exact trivial | refine ⟨rfl, ?_⟩ | refine ⟨fun _ _ => rfl, ?_⟩)) rfl (by kernel_rfl) rfl ?_; clear H; intro w H _; replace H : Sep _ _ _ _ [_, _, _] _ := H; refine hK _ _ ?_; clear hK K; refine S_put0 rfl ?_; refine hK3 _ _ ?_; refine wp_seq_k fun K4 hK4 => ?_; refine S_region ?_; refine S_val E (pk_load1 H 2 rfl rfl rfl trivial rfl (by kernel_rfl)) rfl rfl rfl ?_; clear E a; intro a E; refine S_val E (pk_assign rfl rfl) rfl rfl rfl ?_; clear E a; intro a E; refine hK4 _ _ ?_; refine wp_ret ?_
  repeat (first | refine then_ret ?_ | refine block_ret ?_)
  refine ret1 rfl E (resT rfl) ?_
  have hX : ∀ i ∈ (Res.blk b5 (ca [.key (macV gt k [last, info, [((j + 1) % 256)]])]) 23).keys, i ∉ X := fun i hi => H.keys_x hd i (by simp only [keysR, List.mem_append]; exact .inl hi)
  have hT := txF_at (k := (macV gt k [last, info, [((j + 1) % 256)]])) (c := 32) (((H.freezeX hX).fact 0 rfl).imp fun w h => at_blk (t := 23) (fr := (0, 0)) h) (by rw [cl_key, keyL_self (macV_len _ _ _)]) (by rw [macV_len]; omega) (by rw [macV_len]; omega) (macV_byte _ _ _)
  exact ⟨b5, rfl, ((H.freezeX hX).know hT).refacts (List.forall_mem_cons.2 ⟨((H.freezeX hX).know hT).fact 0 rfl, List.forall_mem_nil _⟩)⟩
end Go.Proofs.YtfolbgiekbimpaaDoor
namespace Go.Proofs.YtfolbgiekbimpaaDoor
set_option linter.unusedSimpArgs false
set_option linter.unusedVariables false
open Go.RowKit


def exT (gt : Nat → Nat) (k info : List Nat) : Nat → List Nat × List Nat
  | 0 => ([], [])
  | j + 1 => (macV gt k [(exT gt k info j).1, info, [j + 1]], (exT gt k info j).2 ++ macV gt k [(exT gt k info j).1, info, [j + 1]])
/-- So many bytes of a key. -/
def expV (gt : Nat → Nat) (k info : List Nat) (n : Nat) : List Nat := (exT gt k info ((n + 31) / 32)).2.take n
theorem exT_succ {gt : Nat → Nat} {k info last out : List Nat} {j : Nat} (h : exT gt k info j = (last, out)) : exT gt k info (j + 1) = (macV gt k [last, info, [j + 1]], out ++ macV gt k [last, info, [j + 1]]) := by rw [exT, h]
theorem exT_len (gt : Nat → Nat) (k info : List Nat) : ∀ j, (exT gt k info j).2.length = 32 * j ∧ (exT gt k info j).1.length ≤ 32 ∧ (∀ x ∈ (exT gt k info j).2, x < 256)
  | 0 => ⟨rfl, by show 0 ≤ 32; decide, fun x hx => by cases hx⟩
  | j + 1 => by
    obtain ⟨h1, _, h3⟩ := exT_len gt k info j
    refine ⟨?_, ?_, ?_⟩
    · rw [exT, List.length_append, h1, macV_len]; omega
    · rw [exT]; show (macV _ _ _).length ≤ 32; rw [macV_len]; omega
    · rw [exT]
      intro x hx
      rcases List.mem_append.1 hx with h | h
      · exact h3 x h
      · exact macV_byte _ _ _ x h
theorem expV_len (gt : Nat → Nat) (k info : List Nat) (n : Nat) : (expV gt k info n).length = n := by
  unfold expV
  rw [List.length_take, (exT_len gt k info _).1]
  omega
theorem expV_byte (gt : Nat → Nat) (k info : List Nat) (n : Nat) : ∀ x ∈ expV gt k info n, x < 256 := fun x hx => (exT_len gt k info _).2.2 x (List.mem_of_mem_take hx)
attribute [local irreducible] addW xorW andW orW shlW shrW smallW greatW wordV blockF sumV macV
section
variable {P : Program} {o : Oper} {ws w : World} {l : List (Nat × Value)} {S : Nat → Prop}
theorem pk_sub_hm {t sz : Nat} {A : Option Addr} {n c hi mx : Nat} {x xh xm : Operand} {k i : Int} (ho : o.op = .slice t x none (some xh) (some xm)) (ht : elK P t = some sz) (hx : ev l x = some (.slice A n c)) (hh : ev l xh = some (.int .i64 k)) (hm : ev l xm = some (.int .i64 i)) (hk : k = (hi : Int)) (hi' : i = (mx : Int)) (hhm : hi ≤ mx) (hc : mx ≤ c) : PK P S ws l o (subSl A sz 0 hi mx) :=
  pk_sub ho ht hx fun a N w E => by
    unfold Instr.sliceBounds
    simp [E.ev hh, E.ev hm, run_bound hk hhm, run_bound hi' hc, Sem.run_bind]
theorem txF_cap {A : Option Addr} {c c' : Nat} {k : List Nat} {Y : List Nat} (h : St (TxF A c k) w Y) (hc : k.length = c') : St (TxF A c' k) w Y := fun w' hk => by
  have h' := h w' hk
  exact ⟨by omega, h'.len, h'.byt, fun hA => ⟨(h'.nil hA).1, by have := (h'.nil hA).1; omega⟩, h'.at_⟩
end
set_option maxRecDepth 100000 in
set_option maxHeartbeats 1000000 in
theorem Expand_any {n ic : Nat} {IA : Option Addr} {k info : List Nat} {gt : Nat → Nat} (hk32 : k.length = 32) (hkb : ∀ x ∈ k, x < 256) (hn : n ≤ 8160) (hi20 : info.length ≤ 1048576) {X : List Nat} {w0 : World} (hX : ∀ k ∈ X, k < w0.heap.size) (hI : St (TxF IA ic info) w0 X) (hG : St (AtC ⟨1, 0, none⟩ [.row 64 fun i => u32 (gt i)]) w0 X) :
    Calls Tryd.prog 33 #[.agg (ca [.key k]), .slice IA info.length ic, .int .i64 ((n : Nat) : Int)] w0 fun e w' => ∃ A' c', e = .returned (.tuple #[.slice A' n c', .int .i64 0]) ∧ Sep X [] w0 w' [] [TxF A' c' (expV gt k info n)] := by
  have hil : info.length ≤ 100000000 := by omega
  refine calls_env Tryd.ntmps33 Tryd.func33 rfl rfl fun a E => ?_; replace E : Env a _ [(0, _), (1, _), (2, _)] := E
  have H : Sep X [] w0 w0 [] [(TxF IA ic info), (AtC ⟨1, 0, none⟩ [.row 64 fun i => u32 (gt i)])] := Sep.start hX (List.forall_mem_cons.2 ⟨hI, List.forall_mem_cons.2 ⟨hG, fun _ h => by cases h⟩⟩)
  refine wp_seq_k fun K0 hK0 => ?_; refine S_region ?_; refine S_eff E rfl (fun K hK => ?_); refine eff_box E H rfl rfl rfl ?_; clear H; intro b3 w H _; refine hK _ _ ?_; clear hK K; refine S_put E rfl rfl ?_; clear E a; intro a E; refine S_eff E rfl (fun K hK => ?_); refine eff_box (z := [.one _]) E H rfl rfl rfl ?_; clear H; intro b4 w H _; refine hK _ _ ?_; clear hK K; refine S_put E rfl rfl ?_; clear E a; intro a E; refine S_val E (pk_assign rfl rfl) rfl rfl rfl ?_; clear E a; intro a E; refine S_val E (pk_assign rfl rfl) rfl rfl rfl ?_; clear E a; intro a E; refine hK0 _ _ ?_; refine wp_seq_k fun K1 hK1 => ?_; refine wp_block ?_; refine wp_seq_k fun K2 hK2 => ?_; refine S_region ?_; refine S_val E (pk_move rfl rfl) rfl rfl rfl ?_; clear E a; intro a E
  refine S_val E (pk_int (v := .bool false) rfl rfl rfl (congrArg (fun b => some (Value.bool b)) (decide_eq_false (by omega)))) rfl rfl rfl ?_; clear E a; intro a E; refine S_val E (pk_move rfl rfl) rfl rfl rfl ?_; clear E a; intro a E; refine S_val E (pk_move rfl rfl) rfl rfl rfl ?_; clear E a; intro a E; refine S_val E (pk_int (v := .bool false) rfl rfl rfl (congrArg (fun b => some (Value.bool b)) (decide_eq_false (by omega)))) rfl rfl rfl ?_; clear E a; intro a E; refine S_val E (pk_pick rfl rfl rfl) rfl rfl rfl ?_; clear E a; intro a E; refine S_val E (pk_assign rfl rfl) rfl rfl rfl ?_; clear E a; intro a E; refine hK2 _ _ ?_; refine S_else E rfl ?_; refine wp_seq_k fun K3 hK3 => ?_; refine S_region ?_; refine S_val E (pk_load1 H 0 rfl rfl rfl trivial rfl (by kernel_rfl)) rfl rfl rfl ?_; clear E a; intro a E; refine S_val E (pk_len rfl rfl (by kernel_rfl)) rfl rfl rfl ?_; clear E a
  intro a E; refine S_val E (pk_int (v := .bool false) rfl rfl rfl (congrArg (fun b => some (Value.bool b)) (decide_eq_false (by omega)))) rfl rfl rfl ?_; clear E a; intro a E; refine S_val E (pk_assign rfl rfl) rfl rfl rfl ?_; clear E a; intro a E; refine hK3 _ _ ?_; refine S_else E rfl ?_; refine wp_skip ?_; refine hK1 _ _ ?_; refine wp_seq_k fun K4 hK4 => ?_; refine S_region ?_; refine S_eff E rfl (fun K hK => ?_); refine eff_alloc (z := [.one (.slice none 0 0)]) H rfl (by kernel_rfl) ?_; clear H; intro b8 w H _; refine hK _ _ ?_; clear hK K; refine S_put E rfl rfl ?_; clear E a; intro a E; refine hK4 _ _ ?_; refine wp_seq_k fun K5 hK5 => ?_; refine S_region ?_; refine S_eff E rfl (fun K hK => ?_); refine eff_alloc (z := [.one (.int .u8 0)]) H rfl (by kernel_rfl) ?_; clear H; intro b9 w H _; refine hK _ _ ?_; clear hK K; refine S_put E rfl rfl ?_; clear E a; intro a E
  refine S_eff E rfl (fun K hK => ?_); refine eff_store 0 (new := [.one _]) E H rfl rfl rfl rfl rfl (by repeat (first | exact trivial | refine ⟨rfl, ?_⟩ | refine ⟨fun _ _ => rfl, ?_⟩)) rfl (by kernel_rfl) rfl ?_; clear H; intro w H _; replace H : Sep _ _ _ _ [_, _, _, _] _ := H; refine hK _ _ ?_; clear hK K; refine S_put0 rfl ?_; refine hK5 _ _ ?_; refine wp_seq_k fun K6 hK6 => ?_; refine S_region ?_; refine S_val E (pk_makeFunc rfl rfl rfl) rfl rfl rfl ?_; clear E a; intro a E; refine S_val E (pk_assign rfl rfl) rfl rfl rfl ?_; clear E a; intro a E; refine hK6 _ _ ?_; refine wp_seq_k fun K7 hK7 => ?_; refine S_region ?_; refine S_val E (pk_move rfl rfl) rfl rfl rfl ?_; clear E a; intro a E; refine S_val E (pk_intw rfl rfl rfl rfl (wI64 (by omega) (by omega))) rfl rfl rfl ?_; clear E a; intro a E; refine S_eff E rfl (fun K hK => ?_)
  refine eff_make (n := 0) (c := n + 64) E H rfl ⟨Tryd.underlying32, Tryd.underlying5, by kernel_rfl⟩ rfl rfl rfl (by omega) (by omega) (by omega) ?_; clear H; intro b26 w H F; refine hK _ _ ?_; clear hK K; refine S_put E rfl rfl ?_; clear E a; intro a E; clear F
  replace H := H.rowOf (n := 0) (by omega) (by omega)
  replace H : Sep _ _ _ _ [_, _, _] [_, _, _, _] := (H.lend 4 rfl).lend 3 rfl; refine S_val E (pk_assign rfl rfl) rfl rfl rfl ?_; clear E a; intro a E; refine hK7 _ _ ?_; refine wp_seq_k fun K8 hK8 => ?_; refine wp_block ?_
  refine S_loopI (γ := Nat × List Nat × List Nat × Option Addr × Nat × Option Addr × Nat) [2, 10] (fun g => [(11, .slice g.2.2.2.2.2.1 g.2.2.1.length g.2.2.2.2.2.2)]) (fun g => [.blk b9 (ca [.one (bv g.1)]) 5, .blk b8 (ca [.one (.slice g.2.2.2.1 g.2.1.length g.2.2.2.2.1)]) 32, .row (.slice g.2.2.2.2.2.1 g.2.2.1.length g.2.2.2.2.2.2) 5 1 g.2.2.1.length (g.2.2.1.map bv)]) (fun g => [TxF g.2.2.2.1 g.2.2.2.2.1 g.2.1, AtC ⟨b4, 0, none⟩ [.one (.slice IA info.length ic)], AtC ⟨b3, 0, none⟩ [.key k], TxF IA ic info, AtC ⟨1, 0, none⟩ [.row 64 fun i => u32 (gt i)]]) (fun g => g.1 * 32 < n + 32 ∧ exT gt k info g.1 = (g.2.1, g.2.2.1)) (fun g => 8192 - g.1 * 32) ((0, [], [], none, 0, some ⟨b26, 0, none⟩, n + 64)) E ((H.know txF_nil).perm ((List.Perm.swap _ _ _).trans (List.Perm.cons _ (List.Perm.swap _ _ _)))) (by repeat (first | exact trivial | refine ⟨rfl, ?_⟩)) (⟨by show 0 * 32 < n + 32; omega, rfl⟩) ?_
  clear E H; intro g a w E H hφ; replace E : Env a _ [(11, _), (2, _), (10, _)] := E; replace H : Sep _ _ _ _ [_, _, _] [_, _, _, _, _] := H
  obtain ⟨j, last, out, LA, lc, OA, oc⟩ := g
  simp only at E H hφ ⊢
  obtain ⟨hj, hex0⟩ := hφ
  have hex := exT_len gt k info j
  rw [hex0] at hex
  simp only at hex
  refine wp_seq_k fun K9 hK9 => ?_; refine wp_seq_k fun K10 hK10 => ?_; refine S_region ?_; refine S_val E (pk_move rfl rfl) rfl rfl rfl ?_; clear E a; intro a E; refine S_val E (pk_len rfl rfl (by kernel_rfl)) rfl rfl rfl ?_; clear E a; intro a E; refine S_val E (pk_move rfl rfl) rfl rfl rfl ?_; clear E a; intro a E; refine S_val E (pk_int rfl rfl rfl rfl) rfl rfl rfl ?_; clear E a; intro a E; refine hK10 _ _ ?_; refine env_split (d := 30) E rfl ?_ ?_
  · skip
    clear E; intro c30 E
    have hlt : out.length < n := by have := c30; simp only [decide_eq_true_eq] at this; omega
    refine S_then E rfl ?_; refine wp_skip ?_; refine hK9 _ _ ?_; refine wp_block ?_; refine S_region ?_; refine S_val E (pk_move rfl rfl) rfl rfl rfl ?_; clear E a; intro a E; refine S_val E (pk_move rfl rfl) rfl rfl rfl ?_; clear E a; intro a E; refine S_eff E rfl (fun K hK => ?_); refine eff_call E rfl rfl rfl (by kernel_rfl) ?_
    have HG := (Sep.giveA (L1 := [_, _]) (L := [_]) H).refacts (R' := [_, _, _, _, _]) (List.forall_mem_cons.2 ⟨(Sep.giveA (L1 := [_, _]) (L := [_]) H).fact 2 rfl, List.forall_mem_cons.2 ⟨(Sep.giveA (L1 := [_, _]) (L := [_]) H).fact 1 rfl, List.forall_mem_cons.2 ⟨(Sep.giveA (L1 := [_, _]) (L := [_]) H).fact 0 rfl, List.forall_mem_cons.2 ⟨(Sep.giveA (L1 := [_, _]) (L := [_]) H).fact 3 rfl, List.forall_mem_cons.2 ⟨(Sep.giveA (L1 := [_, _]) (L := [_]) H).fact 4 rfl, List.forall_mem_nil _⟩⟩⟩⟩⟩)
    have HD := Sep.giveD (L1 := [_, _]) (L := [_]) H
    refine (more_any (b9 := b9) (b3 := b3) (b8 := b8) (b4 := b4) (j := j) (k := k) (last := last) (info := info) hk32 hkb (by have := hex.2.1; omega) hil HG.xlt HG HD).mono ?_; rintro e w ⟨g33, rfl, H1⟩
    replace H := Sep.callA (L1 := [_, _]) (L := [_]) H H1
    clear H1; replace H : Sep _ _ _ _ [_, _, _] [_, _, _, _, _, _] := H; refine hK _ _ ?_; clear hK K; refine S_put E rfl rfl ?_; clear E a; intro a E; clear HG HD
    rw [show (j + 1) % 256 = j + 1 from Nat.mod_eq_of_lt (by omega)] at H
    rw [show Value.slice (some ⟨g33, 0, none⟩) 32 32 = .slice (some ⟨g33, 0, none⟩) (macV gt k [last, info, [j + 1]]).length 32 from by rw [macV_len]] at E H
    refine S_eff E rfl (fun K hK => ?_); refine eff_appT (k := out) (m := (macV gt k [last, info, [j + 1]])) 2 E H (H.fact 0 rfl) rfl rfl rfl rfl ⟨Tryd.underlying32, by kernel_rfl⟩ (by rw [macV_len]; omega) ?_; clear H; intro A34 c34 w H F; replace H : Sep _ _ _ _ [_, _, _] _ := H; refine hK _ _ ?_; clear hK K; refine S_put E rfl rfl ?_; clear E a; intro a E; clear F; refine S_val E (pk_assign rfl rfl) rfl rfl rfl ?_; clear E a; intro a E; refine block_norm (loop_end ?_)
    exact ⟨(j + 1, (macV gt k [last, info, [j + 1]]), out ++ (macV gt k [last, info, [j + 1]]), some ⟨g33, 0, none⟩, 32, A34, c34), ⟨E.to (by repeat (first | exact trivial | refine ⟨rfl, ?_⟩)), H.drop1, ⟨by show (j + 1) * 32 < n + 32; omega, exT_succ hex0⟩⟩, by show 8192 - (j + 1) * 32 < 8192 - j * 32; omega⟩
  · skip
    clear E; intro c30 E
    have hge : ¬ out.length < n := by have := c30; simp only [decide_eq_false_iff_not] at this; omega
    obtain rfl : j = (n + 31) / 32 := by omega
    refine S_else E rfl ?_; refine wp_exit ?_
    repeat (first | refine then_exit ?_ | refine block_hit ?_ | refine block_miss (by decide) ?_)
    refine hK8 _ _ ?_; refine wp_seq_k fun K11 hK11 => ?_; refine S_region ?_; refine S_val E (pk_move rfl rfl) rfl rfl rfl ?_; clear E a; intro a E; refine S_val E (pk_move rfl rfl) rfl rfl rfl ?_; clear E a; intro a E; refine S_val E (pk_move rfl rfl) rfl rfl rfl ?_; clear E a; intro a E
    have hoc : out.length ≤ oc := row_cap (H.holds _ (by simp) : (Res.row (.slice OA out.length oc) 5 1 out.length (out.map bv)).holds w)
    refine S_val E (pk_sub_hm (sz := 1) (hi := n) (mx := n) rfl (by kernel_rfl) rfl rfl rfl rfl rfl (Nat.le_refl _) (by omega)) rfl rfl rfl ?_; clear E a; intro a E
    rw [sub_zero] at E
    refine S_val E (pk_assign rfl rfl) rfl rfl rfl ?_; clear E a; intro a E; refine S_val E (pk_assign rfl rfl) rfl rfl rfl ?_; clear E a; intro a E; refine hK11 _ _ ?_; refine wp_ret ?_
    repeat (first | refine then_ret ?_ | refine block_ret ?_)
    refine ret2 rfl E (resT rfl) (resT rfl) ?_
    have hT := ((H.at_ 2 _ rfl).rowTx (Sep.new_x (H.at_ 2 _ rfl)) (by omega) hex.2.2)
    have hT2 := txF_cap (c' := n) (txF_take (hi := n) (hT.fact 0 rfl) (by omega)) (by rw [List.length_take]; omega)
    rw [show out.take n = expV gt k info n from by rw [expV, hex0]] at hT2
    exact ⟨OA, n, rfl, (((hT.know hT2).refacts (List.forall_mem_cons.2 ⟨(hT.know hT2).fact 0 rfl, List.forall_mem_nil _⟩)).popL).popL⟩
end Go.Proofs.YtfolbgiekbimpaaDoor
namespace Go.Proofs.YtfolbgiekbimpaaDoor
set_option linter.unusedSimpArgs false
set_option linter.unusedVariables false
open Go.RowKit
attribute [local irreducible] beL beK
theorem cell_new1 (w : World) (v : Value) (t : TypeId) : (w.alloc (.cells #[v] t)).cell? ⟨w.heap.size, 0, none⟩ = some v := by
  rw [cell_of_row _ _ _ _ _ _ (heap_alloc_new w (.cells #[v] t))]; rfl
theorem cell_below {B : Nat} {w w' : World} {g o : Nat} {v : Value} (hb : Below B w w') (hg : g < B) (h : w.cell? ⟨g, o, none⟩ = some v) : w'.cell? ⟨g, o, none⟩ = some v := (hb.cell (p := ⟨g, o, none⟩) hg).trans h
end Go.Proofs.YtfolbgiekbimpaaDoor
namespace Go.Proofs.YtfolbgiekbimpaaDoor
set_option linter.unusedSimpArgs false
set_option linter.unusedVariables false
open Go.RowKit
attribute [local irreducible] beL beK
theorem fits_any (W n : Nat) (hW : W ≤ 8) (hn : n < 18446744073709551616) (w : World) :
    Calls Tryd.prog 77 #[.int .i64 W, .int .u64 n] w fun e w' => e = .returned (.bool (decide (n < 256 ^ W))) ∧ w = w' := by
  have hx : ((n : Int)) ≤ 18446744073709551615 := by omega
  have c := Len64_int (n : Int) (by omega) hx
  rw [Int.toNat_natCast] at c
  have C := Lib.hid c
  clear c hx hn
  go_enter Tryd.func77, Tryd.ntmps77
  go_wp2_with (go_at_call 88; fail)
  refine (C.out _).mono ?_
  rintro e w' ⟨⟨r, rfl, hr⟩, rfl⟩
  have HR := Lib.hid (hr W)
  clear hr
  go_wp2
  go_ret
  refine ⟨?_, rfl⟩
  have e1 : decide ((r : Int) ≤ 8 * (W : Int)) = decide (n < 256 ^ W) := decide_eq_decide.2 ⟨fun h => HR.out.1 (by omega), fun h => by have := HR.out.2 h; omega⟩
  rw [← e1]
  rfl

theorem Num1_any (W n : Nat) (hW : W ≤ 8) (hn : n < 18446744073709551616) (g : Nat) (w : World) (hc : w.cell? ⟨g, 0, none⟩ = some (.int .i64 W)) :
    Calls Tryd.prog 76 #[.int .u64 n, .pointer (some ⟨g, 0, none⟩)] w fun e w' => e = .returned (.bool (!decide (n < 256 ^ W))) ∧ w = w' := by
  have HN := Lib.hid hn
  clear hn
  go_enter Tryd.func76, Tryd.ntmps76
  go_wp2_with (go_at_call 77; fail)
  refine (fits_any W n hW HN.out _).mono ?_
  rintro e w' ⟨rfl, rfl⟩
  go_wp2
  go_ret
  exact ⟨rfl, rfl⟩

theorem IndexNum (W n : Nat) (hW : W ≤ 8) (hn : n < 18446744073709551616) (g h : Nat) (w : World) (hc : w.cell? ⟨g, 0, none⟩ = some (.int .i64 W)) (hx : w.cell? ⟨h, 0, none⟩ = some (.int .u64 n)) :
    Calls Tryd.prog 87 #[.slice (some ⟨h, 0, none⟩) 1 1, .func (.func 76) #[] #[.pointer (some ⟨g, 0, none⟩)]] w fun e w' => e = .returned (.int .i64 (if n < 256 ^ W then -1 else 0)) ∧ w = w' := by
  have HN := Lib.hid hn
  clear hn
  go_enter Tryd.func87, Tryd.ntmps87
  go_wp2
  go_loopg [8] 1 (fun k i wr => (k = 1 ∧ i = .int .i64 0 ∨ k = 0 ∧ i = .int .i64 1 ∧ n < 256 ^ W) ∧ w = wr)
  case atStart => exact ⟨.inl ⟨rfl, rfl⟩, rfl⟩
  case round =>
    obtain ⟨hr, rfl⟩ := hrel
    rcases hr with ⟨rfl, rfl⟩ | ⟨rfl, rfl, hlt⟩
    · go_wp2_with (go_at_call 76; fail)
      refine (Num1_any W n hW HN.out g _ hc).mono ?_
      rintro e w' ⟨rfl, rfl⟩
      by_cases hf : n < 256 ^ W
      · rw [decide_eq_true hf]
        have HF := Lib.hid hf
        clear hf
        go_wp2
        go_roundg 0
        case measure => omega
        case rel => exact ⟨.inr ⟨rfl, rfl, HF.out⟩, rfl⟩
      · rw [decide_eq_false hf]
        have HF := Lib.hid hf
        clear hf
        go_wp2
        go_ret
        refine ⟨?_, rfl⟩
        first | rfl | (rw [if_neg HF.out]; rfl)
    · have HF := Lib.hid hlt
      clear hlt
      go_wp2
      go_ret
      refine ⟨?_, rfl⟩
      first | rfl | (rw [if_pos HF.out]; rfl)
theorem ContainsNum (W n : Nat) (hW : W ≤ 8) (hn : n < 18446744073709551616) (g h : Nat) (w : World) (hc : w.cell? ⟨g, 0, none⟩ = some (.int .i64 W)) (hx : w.cell? ⟨h, 0, none⟩ = some (.int .u64 n)) :
    Calls Tryd.prog 75 #[.slice (some ⟨h, 0, none⟩) 1 1, .func (.func 76) #[] #[.pointer (some ⟨g, 0, none⟩)]] w fun e w' => e = .returned (.bool (!decide (n < 256 ^ W))) ∧ w = w' := by
  have c := Lib.hid (IndexNum W n hW hn g h w hc hx)
  by_cases hf : n < 256 ^ W
  · rw [decide_eq_true hf]
    rw [if_pos hf] at c
    clear hf hn
    go_enter Tryd.func75, Tryd.ntmps75
    go_wp2_with (go_at_call 87; fail)
    refine c.out.mono ?_
    rintro e w' ⟨rfl, rfl⟩
    go_wp2
    go_ret
    exact ⟨rfl, rfl⟩
  · rw [decide_eq_false hf]
    rw [if_neg hf] at c
    clear hf hn
    go_enter Tryd.func75, Tryd.ntmps75
    go_wp2_with (go_at_call 87; fail)
    refine c.out.mono ?_
    rintro e w' ⟨rfl, rfl⟩
    go_wp2
    go_ret
    exact ⟨rfl, rfl⟩

end Go.Proofs.YtfolbgiekbimpaaDoor
namespace Go.Proofs.YtfolbgiekbimpaaDoor
set_option linter.unusedSimpArgs false
set_option linter.unusedVariables false
open Go.RowKit
attribute [local irreducible] beL beK
set_option maxRecDepth 100000 in
set_option maxHeartbeats 2000000 in
theorem Num_txt (A : Option Addr) (n0 c : Nat) (l0 : List Nat) (hl0 : n0 ≤ 100000000000) (W n : Nat) (h1 : 1 ≤ W) (h8 : W ≤ 8) (hn : n < 18446744073709551616) (hf : n < 256 ^ W) (h : Nat) (w : World) (hh : h < w.heap.size) (hx : w.cell? ⟨h, 0, none⟩ = some (.int .u64 n)) (ht : Txt w w.heap.size A n0 c l0) :
    Calls Tryd.prog 57 #[.slice A n0 c, .int .i64 W, .slice (some ⟨h, 0, none⟩) 1 1] w (fun e w' => ∃ v, e = .returned (.tuple #[v, .int .i64 0]) ∧ Own w' w.heap.size 5 v (l0 ++ beL W n) ∧ Below w.heap.size w w') := by
  have HN := Lib.hid hn
  have HF := Lib.hid hf
  clear hn hf
  go_enter Tryd.func57, Tryd.ntmps57
  have hb : Below w.heap.size w (w.alloc (.cells #[.int .i64 W] 3)) := (Below.refl _ _).alloc (Nat.le_refl _) _
  have c0 := cell_new1 w (.int .i64 (W : Int)) 3
  have cx := cell_below hb hh hx
  have ht2 := ((ht.below hb).more (B' := (w.alloc (.cells #[.int .i64 W] 3)).heap.size) hb.size)
  have hln := ht.len
  go_wp2_with (go_at_call 75; fail)
  refine (ContainsNum W n h8 HN.out w.heap.size h _ c0 cx).mono ?_
  rintro e w1 ⟨rfl, hw1⟩
  subst hw1
  rw [decide_eq_true HF.out]
  go_wp2_with (go_at_call 78; fail)
  refine (Clone_any A n0 c l0 _ ht2 (by omega)).mono ?_
  rintro e w2 ⟨v2, rfl, hown, b2⟩
  rw [World.size_alloc] at hown
  have hs := b2.size
  rw [World.size_alloc] at hs b2
  have hB := hb.trans (b2.mono (by omega))
  replace c0 := cell_below b2 (by omega) c0
  replace cx := cell_below b2 (by omega) cx
  clear b2 hb
  go_wp2
  go_loopg [8, 26] 1 (fun k v i wr => (k = 1 ∧ i = .int .i64 0 ∧ Own wr (w.heap.size + 1) 5 v l0 ∨ k = 0 ∧ i = .int .i64 1 ∧ Own wr (w.heap.size + 1) 5 v (l0 ++ beL W n)) ∧ wr.cell? ⟨w.heap.size, 0, none⟩ = some (.int .i64 W) ∧ wr.cell? ⟨h, 0, none⟩ = some (.int .u64 n) ∧ w.heap.size + 1 ≤ wr.heap.size ∧ Below w.heap.size w wr)
  case atStart => exact ⟨.inl ⟨rfl, rfl, hown⟩, c0, cx, hs, hB⟩
  case round =>
    clear c0 cx hs hB hown
    obtain ⟨hr, c0, cx, hs, hB⟩ := hrel
    rcases hr with ⟨rfl, rfl, ho⟩ | ⟨rfl, rfl, ho⟩
    · have HO := Lib.hid ho
      clear ho
      go_wp2_with (go_at_call 50; fail)
      refine (put_any _ l0 (w.heap.size + 1) W n h8 HN.out (by omega) _ HO.out hs).mono ?_
      rintro e w3 ⟨⟨v3, rfl, ho3⟩, b3⟩
      have HO3 := Lib.hid ho3
      replace c0 := cell_below b3 (by omega) c0
      replace cx := cell_below b3 (by omega) cx
      have hs3 := Nat.le_trans hs b3.size
      have hB3 := hB.trans (b3.mono (by omega))
      clear b3 hB hs HO ho3
      go_wp2
      go_roundg 0
      case measure => omega
      case rel => exact ⟨.inr ⟨rfl, rfl, HO3.out⟩, c0, cx, hs3, hB3⟩
    · have HO := Lib.hid ho
      clear ho
      go_wp2
      go_ret2
      exact ⟨_, rfl, HO.out.mono (by omega), hB⟩
end Go.Proofs.YtfolbgiekbimpaaDoor
namespace Go.Proofs.YtfolbgiekbimpaaDoor
set_option linter.unusedSimpArgs false
set_option linter.unusedVariables false
open Go.RowKit

def twiceI (x : Int) : Int := bits .xor .u8 (x * 2 % 256) (27 * (x / 128))
def turnI (x : Int) (n : Nat) : Int := bits .or .u8 (x * 2 ^ n % 256) (x / 2 ^ (8 - n))
def astepP (p : Int) : Int := bits .xor .u8 p (twiceI p)
def stepQ1 (q : Int) (n : Nat) : Int := bits .xor .u8 q (q * 2 ^ n % 256)
def stepQ2 (q : Int) : Int := bits .xor .u8 q (9 * (q / 128) % 256)
def stepQ (q : Int) : Int := stepQ2 (stepQ1 (stepQ1 (stepQ1 q 1) 2) 4)
def boxOf (q : Int) : Int := bits .xor .u8 (bits .xor .u8 (bits .xor .u8 (bits .xor .u8 (bits .xor .u8 99 q) (turnI q 1)) (turnI q 2)) (turnI q 3)) (turnI q 4)
/-- The boxes of all bytes. -/
def sboxL : List Int := [99, 124, 119, 123, 242, 107, 111, 197, 48, 1, 103, 43, 254, 215, 171, 118, 202, 130, 201, 125, 250, 89, 71, 240, 173, 212, 162, 175, 156, 164, 114, 192, 183, 253, 147, 38, 54, 63, 247, 204, 52, 165, 229, 241, 113, 216, 49, 21, 4, 199, 35, 195, 24, 150, 5, 154, 7, 18, 128, 226, 235, 39, 178, 117, 9, 131, 44, 26, 27, 110, 90, 160, 82, 59, 214, 179, 41, 227, 47, 132, 83, 209, 0, 237, 32, 252, 177, 91, 106, 203, 190, 57, 74, 76, 88, 207, 208, 239, 170, 251, 67, 77, 51, 133, 69, 249, 2, 127, 80, 60, 159, 168, 81, 163, 64, 143, 146, 157, 56, 245, 188, 182, 218, 33, 16, 255, 243, 210, 205, 12, 19, 236, 95, 151, 68, 23, 196, 167, 126, 61, 100, 93, 25, 115, 96, 129, 79, 220, 34, 42, 144, 136, 70, 238, 184, 20, 222, 94, 11, 219, 224, 50, 58, 10, 73, 6, 36, 92, 194, 211, 172, 98, 145, 149, 228, 121, 231, 200, 55, 109, 141, 213, 78, 169, 108, 86, 244, 234, 101, 122, 174, 8, 186, 120, 37, 46, 28, 166, 180, 198, 232, 221, 116, 31, 75, 189, 139, 138, 112, 62, 181, 102, 72, 3, 246, 14, 97, 53, 87, 185, 134, 193, 29, 158, 225, 248, 152, 17, 105, 217, 142, 148, 155, 30, 135, 233, 206, 85, 40, 223, 140, 161, 137, 13, 191, 230, 66, 104, 65, 153, 45, 15, 176, 84, 187, 22]
def sboxI (i : Nat) : Int := sboxL.getD i 0
/-- All bytes but 0, by threes; and their inverses. -/
def threesL : List Int := [1, 3, 5, 15, 17, 51, 85, 255, 26, 46, 114, 150, 161, 248, 19, 53, 95, 225, 56, 72, 216, 115, 149, 164, 247, 2, 6, 10, 30, 34, 102, 170, 229, 52, 92, 228, 55, 89, 235, 38, 106, 190, 217, 112, 144, 171, 230, 49, 83, 245, 4, 12, 20, 60, 68, 204, 79, 209, 104, 184, 211, 110, 178, 205, 76, 212, 103, 169, 224, 59, 77, 215, 98, 166, 241, 8, 24, 40, 120, 136, 131, 158, 185, 208, 107, 189, 220, 127, 129, 152, 179, 206, 73, 219, 118, 154, 181, 196, 87, 249, 16, 48, 80, 240, 11, 29, 39, 105, 187, 214, 97, 163, 254, 25, 43, 125, 135, 146, 173, 236, 47, 113, 147, 174, 233, 32, 96, 160, 251, 22, 58, 78, 210, 109, 183, 194, 93, 231, 50, 86, 250, 21, 63, 65, 195, 94, 226, 61, 71, 201, 64, 192, 91, 237, 44, 116, 156, 191, 218, 117, 159, 186, 213, 100, 172, 239, 42, 126, 130, 157, 188, 223, 122, 142, 137, 128, 155, 182, 193, 88, 232, 35, 101, 175, 234, 37, 111, 177, 200, 67, 197, 84, 252, 31, 33, 99, 165, 244, 7, 9, 27, 45, 119, 153, 176, 203, 70, 202, 69, 207, 74, 222, 121, 139, 134, 145, 168, 227, 62, 66, 198, 81, 243, 14, 18, 54, 90, 238, 41, 123, 141, 140, 143, 138, 133, 148, 167, 242, 13, 23, 57, 75, 221, 124, 132, 151, 162, 253, 28, 36, 108, 180, 199, 82, 246, 1]
def invL : List Int := [1, 246, 82, 199, 180, 108, 36, 28, 253, 162, 151, 132, 124, 221, 75, 57, 23, 13, 242, 167, 148, 133, 138, 143, 140, 141, 123, 41, 238, 90, 54, 18, 14, 243, 81, 198, 66, 62, 227, 168, 145, 134, 139, 121, 222, 74, 207, 69, 202, 70, 203, 176, 153, 119, 45, 27, 9, 7, 244, 165, 99, 33, 31, 252, 84, 197, 67, 200, 177, 111, 37, 234, 175, 101, 35, 232, 88, 193, 182, 155, 128, 137, 142, 122, 223, 188, 157, 130, 126, 42, 239, 172, 100, 213, 186, 159, 117, 218, 191, 156, 116, 44, 237, 91, 192, 64, 201, 71, 61, 226, 94, 195, 65, 63, 21, 250, 86, 50, 231, 93, 194, 183, 109, 210, 78, 58, 22, 251, 160, 96, 32, 233, 174, 147, 113, 47, 236, 173, 146, 135, 125, 43, 25, 254, 163, 97, 214, 187, 105, 39, 29, 11, 240, 80, 48, 16, 249, 87, 196, 181, 154, 118, 219, 73, 206, 179, 152, 129, 127, 220, 189, 107, 208, 185, 158, 131, 136, 120, 40, 24, 8, 241, 166, 98, 215, 77, 59, 224, 169, 103, 212, 76, 205, 178, 110, 211, 184, 104, 209, 79, 204, 68, 60, 20, 12, 4, 245, 83, 49, 230, 171, 144, 112, 217, 190, 106, 38, 235, 89, 55, 228, 92, 52, 229, 170, 102, 34, 30, 10, 6, 2, 247, 164, 149, 115, 216, 72, 56, 225, 95, 53, 19, 248, 161, 150, 114, 46, 26, 255, 85, 51, 17, 15, 5, 3, 1]
/-- The boxes that are found after r rounds. -/
def boxK (r : Nat) (i : Nat) : Int := if ((threesL.drop 1).take r).contains (i : Int) then sboxI i else 0

def threesOk (r : Nat) : Bool := decide (astepP (threesL.getD r 0) = threesL.getD (r + 1) 0) && decide (stepQ (invL.getD r 0) = invL.getD (r + 1) 0) && decide (boxOf (invL.getD (r + 1) 0) = sboxI (threesL.getD (r + 1) 0).toNat) &&
    decide (0 < threesL.getD (r + 1) 0) && decide (threesL.getD (r + 1) 0 < 256) && decide (0 ≤ invL.getD (r + 1) 0) && decide (invL.getD (r + 1) 0 < 256) && ((threesL.getD (r + 1) 0 != 1) == decide (r + 1 < 255))
theorem threesOk_all : (List.range 255).all threesOk = true := by kernel_rfl
theorem threes_step (r : Nat) (hr : r < 255) : astepP (threesL.getD r 0) = threesL.getD (r + 1) 0 ∧ stepQ (invL.getD r 0) = invL.getD (r + 1) 0 ∧ boxOf (invL.getD (r + 1) 0) = sboxI (threesL.getD (r + 1) 0).toNat ∧
    0 < threesL.getD (r + 1) 0 ∧ threesL.getD (r + 1) 0 < 256 ∧ 0 ≤ invL.getD (r + 1) 0 ∧ invL.getD (r + 1) 0 < 256 ∧ (threesL.getD (r + 1) 0 != 1) = decide (r + 1 < 255) := by
  have h := List.all_eq_true.1 threesOk_all r (List.mem_range.2 hr)
  unfold threesOk at h
  simp only [Bool.and_eq_true, decide_eq_true_eq, beq_iff_eq] at h
  obtain ⟨⟨⟨⟨⟨⟨⟨h1, h2⟩, h3⟩, h4⟩, h5⟩, h6⟩, h7⟩, h8⟩ := h
  exact ⟨h1, h2, h3, h4, h5, h6, h7, h8⟩
theorem upd_snoc (l : List Int) (v : Int) (hv : 0 ≤ v) (f g : Nat → Int) (i : Nat) : upd (fun i => if l.contains (i : Int) then f i else g i) v.toNat (f v.toNat) i = if (l ++ [v]).contains (i : Int) then f i else g i := by
  unfold upd
  by_cases h : i = v.toNat
  · subst h
    have e : (v.toNat : Int) = v := Int.toNat_of_nonneg hv
    rw [e]
    simp
  · rw [if_neg h]
    have e : ¬ (i : Int) = v := by omega
    simp only [List.contains_eq_mem, List.mem_append, List.mem_singleton, e, or_false]
theorem take_drop_snoc (l : List Int) (hl : l.length = 256) (r : Nat) (hr : r < 255) : (l.drop 1).take (r + 1) = (l.drop 1).take r ++ [l.getD (r + 1) 0] := by
  rw [List.take_succ_eq_append_getElem (by rw [List.length_drop]; omega)]
  congr 2
  rw [List.getElem_drop, List.getD_eq_getElem?_getD, List.getElem?_eq_getElem (by omega)]
  simp [Nat.add_comm]
theorem boxK_step (r : Nat) (hr : r < 255) (i : Nat) : upd (boxK r) (threesL.getD (r + 1) 0).toNat (sboxI (threesL.getD (r + 1) 0).toNat) i = boxK (r + 1) i := by
  have hp := (threes_step r hr).2.2.2.1
  have ht : (threesL.drop 1).take (r + 1) = (threesL.drop 1).take r ++ [threesL.getD (r + 1) 0] := take_drop_snoc threesL (by kernel_rfl) r hr
  unfold boxK
  rw [ht]
  exact upd_snoc _ _ (Int.le_of_lt hp) sboxI (fun _ => 0) i
theorem boxK_ok : (List.range 256).all (fun i => decide (upd (boxK 255) 0 99 i = sboxI i)) = true := by kernel_rfl
theorem boxK_all (i : Nat) (hi : i < 256) : upd (boxK 255) 0 99 i = sboxI i := of_decide_eq_true (List.all_eq_true.1 boxK_ok i (List.mem_range.2 hi))
theorem boxK_zero (i : Nat) : boxK 0 i = 0 := by simp [boxK]

theorem bits_u8 (op : BinOp) (x y : Int) : 0 ≤ bits op .u8 x y ∧ bits op .u8 x y < 256 := by
  unfold bits
  cases op <;> simp only [IntKind.wrap_u8] <;> omega
end Go.Proofs.YtfolbgiekbimpaaDoor
namespace Go.Proofs.YtfolbgiekbimpaaDoor
set_option linter.unusedSimpArgs false
set_option linter.unusedVariables false
open Go.RowKit
attribute [local irreducible] sboxI
/-- A key's next one. -/
def nextKey (was : Nat → Int) (add : Int) : Nat → Int
  | 0 => bits .xor .u8 (was 0) (bits .xor .u8 add (sboxI (was 13).toNat))
  | 1 => bits .xor .u8 (was 1) (sboxI (was 14).toNat)
  | 2 => bits .xor .u8 (was 2) (sboxI (was 15).toNat)
  | 3 => bits .xor .u8 (was 3) (sboxI (was 12).toNat)
  | n + 4 => bits .xor .u8 (was (n + 4)) (nextKey was add n)
def addK : Nat → Int
  | 0 => 1
  | j + 1 => twiceI (addK j)
def keyK (k : Nat → Int) : Nat → Nat → Int
  | 0 => k
  | j + 1 => nextKey (keyK k j) (addK j)
/-- A cipher's cells, when its keys up to j are known. -/
def cipK (k : Nat → Int) (j : Nat) (i : Nat) : Int := if i < 256 then sboxI i else if (i - 256) / 16 ≤ j then keyK k ((i - 256) / 16) ((i - 256) % 16) else 0

theorem nextKey_byte (was : Nat → Int) (add : Int) (i : Nat) : 0 ≤ nextKey was add i ∧ nextKey was add i < 256 := by
  unfold nextKey; split <;> exact bits_u8 _ _ _
theorem addK_byte (j : Nat) : 0 ≤ addK j ∧ addK j < 256 := by
  cases j with
  | zero => exact ⟨by decide, by decide⟩
  | succ j => unfold addK twiceI; exact bits_u8 _ _ _
theorem keyK_byte (k : Nat → Int) (hk : ∀ i, i < 16 → 0 ≤ k i ∧ k i < 256) (j i : Nat) (hi : i < 16) : 0 ≤ keyK k j i ∧ keyK k j i < 256 := by
  cases j with
  | zero => exact hk i hi
  | succ j => exact nextKey_byte _ _ _

theorem cip_start (k : Nat → Int) (i : Nat) (_hi : i < 432) : patch (fun i => if i < 256 then sboxI i else 0) 256 16 k i = cipK k 0 i := by
  unfold patch cipK
  by_cases h : i < 256
  · rw [if_neg (by omega), if_pos h]; exact if_pos h
  · by_cases h2 : i < 256 + 16
    · rw [if_pos ⟨by omega, h2⟩, if_neg h, if_pos (by omega), show (i - 256) / 16 = 0 from by omega, show (i - 256) % 16 = i - 256 from by omega]
      rfl
    · rw [if_neg (by omega), if_neg h, if_neg (by omega)]; exact if_neg h
/-- While the key behind j is found, up to m. -/
def cipM (k : Nat → Int) (j m i : Nat) : Int := if 256 + 16 * (j + 1) ≤ i ∧ i < 256 + 16 * (j + 1) + m then nextKey (keyK k j) (addK j) (i - (256 + 16 * (j + 1))) else cipK k j i
theorem cipM_zero (k : Nat → Int) (j i : Nat) : cipM k j 0 i = cipK k j i := by
  unfold cipM
  rw [if_neg (by omega)]
theorem cipM_step (k : Nat → Int) (j m i : Nat) : upd (cipM k j m) (256 + 16 * (j + 1) + m) (nextKey (keyK k j) (addK j) m) i = cipM k j (m + 1) i := by
  unfold upd cipM
  by_cases h : i = 256 + 16 * (j + 1) + m
  · rw [if_pos h, if_pos (by omega), h, Nat.add_sub_cancel_left]
  · rw [if_neg h]
    by_cases h2 : 256 + 16 * (j + 1) ≤ i ∧ i < 256 + 16 * (j + 1) + m
    · rw [if_pos h2, if_pos (by omega)]
    · rw [if_neg h2, if_neg (by omega)]
theorem keyK_succ (k : Nat → Int) (j i : Nat) : keyK k (j + 1) i = nextKey (keyK k j) (addK j) i := rfl
theorem cipM_step' (k : Nat → Int) (j m o : Nat) (ho : o = 256 + 16 * (j + 1) + m) (i : Nat) (v : Int) (hv : v = nextKey (keyK k j) (addK j) m) : upd (cipM k j m) o v i = cipM k j (m + 1) i := by
  subst ho hv
  exact cipM_step k j m i
theorem nextKey_step (was : Nat → Int) (add : Int) (m : Nat) (h : 4 ≤ m) : nextKey was add m = bits .xor .u8 (was m) (nextKey was add (m - 4)) := by
  obtain ⟨n, rfl⟩ : ∃ n, m = n + 4 := ⟨m - 4, by omega⟩
  rfl
theorem cipM_done (k : Nat → Int) (j i : Nat) : cipM k j 16 i = cipK k (j + 1) i := by
  unfold cipM cipK
  by_cases h : i < 256
  · rw [if_neg (by omega), if_pos h, if_pos h]
  · by_cases h2 : 256 + 16 * (j + 1) ≤ i ∧ i < 256 + 16 * (j + 1) + 16
    · rw [if_pos h2, if_neg h, if_pos (by omega), show (i - 256) / 16 = j + 1 from by omega]
      rw [keyK_succ, show (i - 256) % 16 = i - (256 + 16 * (j + 1)) from by omega]
    · rw [if_neg h2, if_neg h, if_neg h]
      by_cases h3 : (i - 256) / 16 ≤ j
      · rw [if_pos h3, if_pos (by omega)]
      · rw [if_neg h3, if_neg (by omega)]
theorem cipM_now (k : Nat → Int) (j m i : Nat) (h : i < m) : cipM k j m (256 + 16 * (j + 1) + i) = nextKey (keyK k j) (addK j) i := by
  unfold cipM
  rw [if_pos (by omega), Nat.add_sub_cancel_left]
theorem cipM_box (k : Nat → Int) (j m i : Nat) (h : i < 256) : cipM k j m i = sboxI i := by
  unfold cipM cipK
  rw [if_neg (by omega), if_pos h]
theorem cipK_key (k : Nat → Int) (n j i : Nat) (h : j ≤ n) (hi : i < 16) : cipK k n (256 + 16 * j + i) = keyK k j i := by
  unfold cipK
  rw [if_neg (by omega), show (256 + 16 * j + i - 256) / 16 = j from by omega, if_pos h, show (256 + 16 * j + i - 256) % 16 = i from by omega]
theorem cipK_box (k : Nat → Int) (n i : Nat) (h : i < 256) : cipK k n i = sboxI i := by
  unfold cipK; rw [if_pos h]

end Go.Proofs.YtfolbgiekbimpaaDoor
namespace Go.Proofs.YtfolbgiekbimpaaDoor
set_option linter.unusedSimpArgs false
set_option linter.unusedVariables false
open Go.RowKit
attribute [local irreducible] sboxI
theorem ofInt_bx (a b : Int) : BitVec.ofInt 8 (bits .xor .u8 a b) = BitVec.ofInt 8 a ^^^ BitVec.ofInt 8 b := by
  show BitVec.ofInt 8 (IntKind.u8.wrap ((BitVec.ofInt 8 a ^^^ BitVec.ofInt 8 b).toNat : Int)) = _
  generalize BitVec.ofInt 8 a ^^^ BitVec.ofInt 8 b = v
  have h : IntKind.u8.wrap ((v.toNat : Nat) : Int) = (v.toNat : Int) := by
    have := v.isLt
    rw [IntKind.wrap_u8]; omega
  rw [h, BitVec.ofInt_natCast]
  simp
end Go.Proofs.YtfolbgiekbimpaaDoor
namespace Go.Proofs.YtfolbgiekbimpaaDoor
set_option linter.unusedSimpArgs false
set_option linter.unusedVariables false
open Go.RowKit
attribute [local irreducible] sboxI
def colI (x : Nat → Int) (i : Nat) : Int :=
  bits .xor .u8 (bits .xor .u8 (x i) (bits .xor .u8 (bits .xor .u8 (bits .xor .u8 (x 0) (x 1)) (x 2)) (x 3))) (twiceI (bits .xor .u8 (x i) (x ((i + 1) % 4))))
/-- A column, boxed, and turned. -/
def rowI (s : Nat → Int) (i r : Nat) : Int := sboxI (s (4 * ((i + r) % 4) + r)).toNat
def roundI (s : Nat → Int) (last : Bool) (q : Nat) : Int := if last then rowI s (q / 4) (q % 4) else colI (rowI s (q / 4)) (q % 4)
def xorI (f g : Nat → Int) (i : Nat) : Int := bits .xor .u8 (f i) (g i)
/-- A block behind j rounds. -/
def encJ (k s : Nat → Int) : Nat → Nat → Int
  | 0 => xorI s (keyK k 0)
  | j + 1 => xorI (roundI (encJ k s j) (decide (j + 1 = 10))) (keyK k (j + 1))
def encI (k s : Nat → Int) : Nat → Int := encJ k s 10

theorem xorI_byte (f g : Nat → Int) (i : Nat) : 0 ≤ xorI f g i ∧ xorI f g i < 256 := bits_u8 _ _ _
theorem encJ_byte (k s : Nat → Int) (j i : Nat) : 0 ≤ encJ k s j i ∧ encJ k s j i < 256 := by
  cases j <;> exact xorI_byte _ _ _
theorem afill_zero (f : Nat → Int) (m i : Nat) : upd (fun i => if i < m then f i else 0) m (f m) i = if i < m + 1 then f i else 0 := fill_step (fun _ => 0) f m i
/-- One column more of a round. -/
theorem round_step (s : Nat → Int) (last : Bool) (m i : Nat) (hi : i < 16) (c : Nat → Int) (hc : ∀ r, r < 4 → c r = roundI s last (4 * m + r)) : patch (fun i => if i < 4 * m then roundI s last i else 0) (4 * m) 4 c i = if i < 4 * (m + 1) then roundI s last i else 0 := by
  unfold patch
  by_cases h : 4 * m ≤ i ∧ i < 4 * m + 4
  · rw [if_pos h, if_pos (by omega)]
    rw [hc _ (by omega), show 4 * m + (i - 4 * m) = i from by omega]
  · rw [if_neg h]
    by_cases h2 : i < 4 * m
    · rw [if_pos (show i < 4 * (m + 1) by omega)]; exact if_pos h2
    · rw [if_neg (show ¬ i < 4 * (m + 1) by omega)]; exact if_neg h2
theorem roundI_last (s : Nat → Int) (m r : Nat) (hr : r < 4) : rowI s m r = roundI s true (4 * m + r) := by
  unfold roundI
  rw [if_pos rfl, show (4 * m + r) / 4 = m from by omega, show (4 * m + r) % 4 = r from by omega]
theorem roundI_at (s : Nat → Int) (m r : Nat) (hr : r < 4) : colI (rowI s m) r = roundI s false (4 * m + r) := by
  unfold roundI
  rw [if_neg Bool.false_ne_true, show (4 * m + r) / 4 = m from by omega, show (4 * m + r) % 4 = r from by omega]
theorem last_test (j : Nat) : (((j : Int) + 1) == 10) = decide (j + 1 = 10) := by
  rw [Bool.eq_iff_iff, beq_iff_eq, decide_eq_true_eq]
  omega
end Go.Proofs.YtfolbgiekbimpaaDoor
namespace Go.Proofs.YtfolbgiekbimpaaDoor
set_option linter.unusedSimpArgs false
set_option linter.unusedVariables false
open Go.RowKit
section
variable {P : Program} {w : World}
theorem made_arr (n : Nat) : madeCells #[Value.int .u8 0] n = arr .u8 n fun _ => 0 := by
  apply Array.ext_getElem?
  intro i
  by_cases hi : i < n
  · rw [arr_get _ _ _ _ hi]; simp [madeCells, hi, Nat.mod_one]
  · rw [Array.getElem?_eq_none (by rw [size_madeCells]; omega), Array.getElem?_eq_none (by rw [arr_size]; omega)]
/-- A new slice of bytes. -/
theorem run_make_txt {t e : TypeId} (hT : ByteT P t e) (n : Nat) (hn : n ≤ 140737488355328) (w : World) :
    (Instr.makeSlice t (.int .i64 (n : Int)) (.int .i64 (n : Int))).run P w = .ok (.slice (some ⟨w.heap.size, 0, none⟩) n n) (w.alloc (.cells (arr .u8 n fun _ => 0) e)) := by
  have h := run_make_row' (P := P) t e (.int .u8 0) 1 hT.sl hT.info rfl .i64 .i64 n (by omega) (by omega) w
  rw [made_arr] at h
  exact h
theorem run_op_make {t e : TypeId} {o : Oper} {a : Act} {x y : Operand} (hT : ByteT P t e) {n : Nat} (hn : n ≤ 140737488355328) (ho : o.op = .makeSlice t x y) (hx : a.eval x = .int .i64 n) (hy : a.eval y = .int .i64 n) :
    (execOp a.eval o).run P w = .ok (.value (.slice (some ⟨w.heap.size, 0, none⟩) n n)) (w.alloc (.cells (arr .u8 n fun _ => 0) e)) := by
  unfold execOp
  simp only [ho, hx, hy, Sem.run_bind, run_make_txt hT n hn w, Result.andThen_ok, Sem.run_pure]
/-- A row of bytes is a text of the call's own. -/
theorem own_arr {B R n : Nat} {e : TypeId} {f : Nat → Int} {l : List Nat} (hR : B ≤ R) (h : w.heap[R]? = some (.cells (arr .u8 n f) e (0, 0))) (hn : n ≤ 140737488355328) (hl : l.length = n) (hf : ∀ i, i < n → f i = ((l.getD i 0 : Nat) : Int)) :
    Own w B e (.slice (some ⟨R, 0, none⟩) n n) l := by
  subst hl
  refine ⟨by simp, .inr ⟨R, l.length, arr .u8 l.length f, rfl, hR, h, Nat.le_refl _, by unfold maxLen; omega, by rw [arr_size]; omega, ?_⟩⟩
  apply List.ext_getElem?
  intro i
  by_cases hi : i < l.length
  · rw [List.getElem?_take_of_lt (by omega), Array.getElem?_toList, arr_get _ _ _ _ hi, hf i hi, List.getElem?_map, List.getElem?_eq_getElem hi, List.getD_eq_getElem?_getD, List.getElem?_eq_getElem hi]
    rfl
  · rw [List.getElem?_eq_none (by simp [arr_size]; omega), List.getElem?_eq_none (by simp; omega)]
/-- A new slice of bytes, in a block of its own. -/
def NewRow (N n : Nat) (e : TypeId) : Fact := fun x w => ∃ R, x = .slice (some ⟨R, 0, none⟩) n n ∧ N ≤ R ∧ w.heap[R]? = some (.cells (arr .u8 n fun _ => 0) e (0, 0))
theorem newRow_stays (N n : Nat) (e : TypeId) : Stays (NewRow N n e) := fun _ _ _ hb ⟨B, h1, h2, h3⟩ => ⟨B, h1, h2, (hb.block B (lt_of_block h3)).trans h3⟩
theorem free_make {ops : Array Oper} {Q : Exit → Act → World → Prop} {o : Oper} {r : Fact} {a : Act} {t e : TypeId} {x y : Operand} (hT : ByteT P t e) {n : Nat} (hn : n ≤ 140737488355328) (hg : Region.wanted o (yielded ops a.tmps) = true) (ho : o.op = .makeSlice t x y) (hx : a.eval x = .int .i64 n) (hy : a.eval y = .int .i64 n)
    (h : r (.slice (some ⟨w.heap.size, 0, none⟩) n n) (w.alloc (.cells (arr .u8 n fun _ => 0) e))) : freeOp P ops Q o r a w := by
  unfold freeOp
  rw [if_pos hg]
  unfold Oper.wp
  rw [run_op_make hT hn ho hx hy]
  exact ⟨(Below.refl _ _).alloc (Nat.le_refl _) _, _, rfl, h⟩
theorem free_assign {ops : Array Oper} {Q : Exit → Act → World → Prop} {o : Oper} {r : Fact} {a : Act} {x : Operand} (hg : Region.wanted o (yielded ops a.tmps) = true) (ho : o.op = .assign x) (h : r (a.eval x) w) : freeOp P ops Q o r a w :=
  free_v hg (by unfold execOp; rw [ho]; rfl) h
end

section
variable {P : Program} {w : World} {o : Oper} {a : Act} {N : Nat}
end

/-- Bytes of a call's own, whatever they are. -/
def RowB (w : World) (B : Nat) (A : Option Addr) (n : Nat) (e : TypeId) : Prop := 0 < n → ∃ g cur, A = some ⟨g, 0, none⟩ ∧ B ≤ g ∧ w.heap[g]? = some (.cells cur e (0, 0)) ∧ ∀ i, i < n → ∃ z : Int, cur[i]? = some (.int .u8 z) ∧ 0 ≤ z ∧ z < 256
theorem RowB.step {w : World} {B n i : Nat} {A : Option Addr} {e : TypeId} (h : RowB w B A n e) (hi : i < n) : ∃ (g : Nat) (z : Int), A = some ⟨g, 0, none⟩ ∧ B ≤ g ∧ w.cell? ⟨g, i, none⟩ = some (.int .u8 z) ∧ w.frozen? ⟨g, i, none⟩ = false ∧ 0 ≤ z ∧ z < 256 ∧
    ∀ v : Int, 0 ≤ v → v < 256 → RowB (w.setCell ⟨g, i, none⟩ (.int .u8 v)) B A n e := by
  obtain ⟨g, cur, rfl, hg, hh, hc⟩ := h (by omega)
  obtain ⟨z, hz, h0, h1⟩ := hc i hi
  refine ⟨g, z, rfl, hg, by rw [cell_of_row _ _ _ _ _ _ hh]; exact hz, frozen_of_row w g i _ e hh, h0, h1, fun v hv0 hv1 _ => ⟨g, cur.setIfInBounds i (.int .u8 v), rfl, hg, ?_, fun j hj => ?_⟩⟩
  · rw [setCell_eq_setRow w g i cur e (0, 0) (.int .u8 v) hh]
    exact setRow_heap w g cur _ e (0, 0) hh
  · by_cases hji : i = j
    · subst hji
      have hs : i < cur.size := by
        rcases Nat.lt_or_ge i cur.size with h | h
        · exact h
        · rw [Array.getElem?_eq_none h] at hz; cases hz
      exact ⟨v, by simp [hs], hv0, hv1⟩
    · obtain ⟨y, hy, h2, h3⟩ := hc j hj
      exact ⟨y, by rw [Array.getElem?_setIfInBounds_ne hji]; exact hy, h2, h3⟩

/-! ### Streams -/
/-- The block that is encrypted for one counter. -/
def inI (m : Nat → Int) (t : Nat) (i : Nat) : Int := if i < 12 then m i else ((t / 2 ^ (8 * (15 - i)) % 256 : Nat) : Int)
def ctrI (k m : Nat → Int) (F : Nat) (l : List Nat) (x : Nat) : Int := bits .xor .u8 ((l.getD x 0 : Nat) : Int) (encI k (inI m (F + x / 16)) (x % 16))
def ctrL (k m : Nat → Int) (F : Nat) (l : List Nat) : List Nat := (List.range l.length).map fun x => (ctrI k m F l x).toNat
theorem inI_byte (m : Nat → Int) (hm : ∀ i, i < 12 → 0 ≤ m i ∧ m i < 256) (t i : Nat) : 0 ≤ inI m t i ∧ inI m t i < 256 := by
  unfold inI
  split
  · exact hm i ‹_›
  · have : t / 2 ^ (8 * (15 - i)) % 256 < 256 := Nat.mod_lt _ (by omega)
    omega
theorem inI_upd (q m : Nat → Int) (t : Nat) (T : Int) (hT : T = t) (ht : t < 4294967296) (hq : ∀ x, x < 12 → q x = m x) (i : Nat) (hi : i < 16) : upd (upd (upd (upd q 12 (T / 16777216)) 13 (T / 65536 % 256)) 14 (T / 256 % 256)) 15 (T % 256) i = inI m t i := by
  subst hT
  unfold upd inI
  by_cases h1 : i < 12
  · rw [if_pos h1, if_neg (by omega), if_neg (by omega), if_neg (by omega), if_neg (by omega), hq i h1]
  · rw [if_neg h1]
    obtain rfl | rfl | rfl | rfl : i = 12 ∨ i = 13 ∨ i = 14 ∨ i = 15 := by omega
    all_goals simp
    all_goals omega
theorem fill_grow (g : Nat → Int) (y : Nat) (v : Int) (i : Nat) (hv : v = g y) : upd (fun x => if x < y then g x else 0) y v i = if i < y + 1 then g i else 0 := by
  subst hv
  unfold upd
  by_cases h1 : i = y
  · subst h1; rw [if_pos rfl, if_pos (Nat.lt_succ_self _)]
  · rw [if_neg h1]
    by_cases h2 : i < y
    · simp only [if_pos h2, if_pos (show i < y + 1 by omega)]
    · simp only [if_neg h2, if_neg (show ¬ i < y + 1 by omega)]
theorem ctrI_byte (k m : Nat → Int) (F : Nat) (l : List Nat) (x : Nat) : 0 ≤ ctrI k m F l x ∧ ctrI k m F l x < 256 := bits_u8 _ _ _
theorem ctrL_len (k m : Nat → Int) (F : Nat) (l : List Nat) : (ctrL k m F l).length = l.length := by unfold ctrL; simp
theorem ctrL_at (k m : Nat → Int) (F : Nat) (l : List Nat) (x : Nat) (hx : x < l.length) : (((ctrL k m F l).getD x 0 : Nat) : Int) = ctrI k m F l x := by
  unfold ctrL
  rw [List.getD_eq_getElem?_getD, List.getElem?_map, List.getElem?_range hx]
  simp only [Option.map_some, Option.getD_some]
  exact Int.toNat_of_nonneg (ctrI_byte k m F l x).1
theorem ctrL_lt (k m : Nat → Int) (F : Nat) (l : List Nat) : ∀ x ∈ ctrL k m F l, x < 256 := fun x hx => by
  unfold ctrL at hx
  obtain ⟨i, _, rfl⟩ := List.mem_map.1 hx
  have := ctrI_byte k m F l i
  omega
/-- A text, and that there was no fault. -/
def RetYes (w : World) (l : List Nat) (e : Ending) (w' : World) : Prop := ∃ v, e = .returned (.tuple #[v, .int .i64 0]) ∧ Own w' w.heap.size 5 v l ∧ Below w.heap.size w w'
end Go.Proofs.YtfolbgiekbimpaaDoor
namespace Go.Proofs.YtfolbgiekbimpaaDoor
set_option linter.unusedSimpArgs false
set_option linter.unusedVariables false
open Go.RowKit

attribute [local irreducible] sboxI
theorem RTBlock : RowT Tryd.prog 68 16 := ⟨_, Tryd.underlying68, rfl, by kernel_rfl⟩
theorem RTBoxes : RowT Tryd.prog 124 256 := ⟨_, Tryd.underlying124, rfl, by kernel_rfl⟩

theorem ZTBoxes : ZeroT Tryd.prog 124 .u8 256 := by unfold ZeroT; kernel_rfl
set_option maxHeartbeats 400000 in
theorem twice_any (x : Int) (h0 : 0 ≤ x) (h1 : x < 256) (w : World) :
    Calls Tryd.prog 72 #[.int .u8 x] w fun e w' => e = .returned (.int .u8 (twiceI x)) ∧ w = w' := by
  go_enter Tryd.func72, Tryd.ntmps72
  go_wp2
  go_ret
  exact ⟨rfl, rfl⟩

set_option maxHeartbeats 400000 in
theorem turn_nat (x : Int) (n : Nat) (h8 : n ≤ 8) (w : World) :
    Calls Tryd.prog 85 #[.int .u8 x, .int .i64 n] w fun e w' => e = .returned (.int .u8 (turnI x n)) ∧ ∃ m, w' = w.drewN m := by
  go_enter Tryd.func85, Tryd.ntmps85
  go_wp2
  go_quiet (fail)
  go_wp2
  go_ret
  exact ⟨rfl, _, rfl⟩
theorem turn_any (x n : Int) (h0 : 0 ≤ n) (h8 : n ≤ 8) (w : World) :
    Calls Tryd.prog 85 #[.int .u8 x, .int .i64 n] w fun e w' => e = .returned (.int .u8 (turnI x n.toNat)) ∧ ∃ m, w' = w.drewN m := by
  obtain ⟨k, rfl⟩ := Int.eq_ofNat_of_zero_le h0
  exact turn_nat x k (by omega) w

set_option maxHeartbeats 400000 in
theorem astep_any (p q : Int) (h0 : 0 ≤ p) (h1 : p < 256) (h2 : 0 ≤ q) (h3 : q < 256) (w : World) :
    Calls Tryd.prog 84 #[.int .u8 p, .int .u8 q] w fun e w' => e = .returned (.tuple #[.int .u8 (astepP p), .int .u8 (stepQ q)]) ∧ w = w' := by
  go_enter Tryd.func84, Tryd.ntmps84
  go_wp2_with (go_at_call 72; refine (twice_any _ (by omega) (by omega) _).mono ?_; rintro e w' ⟨rfl, rfl⟩)
  go_ret2
  exact ⟨rfl, rfl⟩

set_option maxRecDepth 100000 in
set_option maxHeartbeats 2000000 in
theorem boxes_any (w : World) :
    Calls Tryd.prog 71 #[] w fun e w' => e = .returned (.agg (arr .u8 256 sboxI)) ∧ Below w.heap.size w w' := by
  go_enter Tryd.func71, Tryd.ntmps71
  go_wp2_with (refine wpList_alloc_arr rfl rfl ZTBoxes ?_)
  obtain ⟨h0, -, hb⟩ := alloc1 w (.cells (arr .u8 256 fun _ => 0) 124)
  revert h0 hb
  generalize w.alloc (.cells (arr .u8 256 fun _ => 0) 124) = w0
  intro h0 hb
  go_loopg [2, 3, 4] 255 (fun k p q m wr => ∃ r : Nat, r + k = 255 ∧ p = .int .u8 (threesL.getD r 0) ∧ q = .int .u8 (invL.getD r 0) ∧ m = .bool (decide (r < 255)) ∧
      wr.heap[w.heap.size]? = some (.cells (arr .u8 256 (boxK r)) 124 (0, 0)) ∧ Below w.heap.size w wr ∧ 0 ≤ threesL.getD r 0 ∧ threesL.getD r 0 < 256 ∧ 0 ≤ invL.getD r 0 ∧ invL.getD r 0 < 256)
  case atStart =>
    exact ⟨0, by omega, rfl, rfl, rfl, blk_congr h0 (fun i _ => (boxK_zero i).symm), hb, by decide, by decide, by decide, by decide⟩
  case round =>
    obtain ⟨r, hr, rfl, rfl, rfl, g0, hB, a1, a2, a3, a4⟩ := hrel
    clear h0 hb
    by_cases hlt : r < 255
    · have hs := Lib.hid (threes_step r hlt)
      have hk := Lib.hid (boxK_step r hlt)
      have hd : decide (r < 255) = true := by simpa using hlt
      rw [hd]
      have b1 := hs.out.2.2.2.1
      have b2 := hs.out.2.2.2.2.1
      have b3 := hs.out.2.2.2.2.2.1
      have b4 := hs.out.2.2.2.2.2.2.1
      rw [← hs.out.1] at b1 b2
      rw [← hs.out.2.1] at b3 b4
      have hr' := Lib.hid hr
      clear hr hd
      generalize hP : threesL.getD r 0 = p at *
      generalize hQ : invL.getD r 0 = q at *
      have hP' := Lib.hid hP
      have hQ' := Lib.hid hQ
      clear hP hQ
      have c0 := cell_arr g0 (astepP p).toNat (by omega)
      have fz := free_arr g0 (astepP p).toNat
      go_wp2_with (first | (go_at_call 84; (with_reducible refine (astep_any _ _ (by omega) (by omega) (by omega) (by omega) _).mono ?_); rintro e w' ⟨rfl, rfl⟩) | (go_at_call 85; (with_reducible refine (turn_any _ _ (by omega) (by omega) _).mono ?_); rintro e w' ⟨rfl, m1, rfl⟩))
      have hs' := hs.out
      have e3 := hs'.2.2.1
      have e8 := hs'.2.2.2.2.2.2.2
      have hr'' := hr'.out
      have hk' := hk.out
      rw [← e3, ← hs'.1, ← hs'.2.1] at hk'
      go_roundg (gk - 1)
      case measure => omega
      case rel =>
        refine ⟨r + 1, by omega, by rw [← hs'.1], by rw [← hs'.2.1], by rw [← e8, ← hs'.1], blk_congr (set_arr g0 (astepP p).toNat _) (fun i _ => ?_), (Go.below_drewN hB _).setCell (Nat.le_refl _) _, by rw [← hs'.1]; exact Int.le_of_lt b1, by rw [← hs'.1]; exact b2, by rw [← hs'.2.1]; exact b3, by rw [← hs'.2.1]; exact b4⟩
        rw [← hk' i]; rfl
    · have h255 : r = 255 := by omega
      subst h255
      have c0 := cell_arr g0 0 (by omega)
      have fz := free_arr g0 0
      have g1 := blk_congr (set_arr g0 0 99) (fun i hi => boxK_all i hi)
      clear g0
      go_wp2_with (first | (refine wpList_load_arr rfl rfl rfl RTBoxes (by assumption) ?_) | (refine wpList_store_arr rfl rfl rfl rfl RTBoxes (by assumption) ?_))
      exact bodyPost_ret (results_arr rfl rfl RTBoxes (row_self g1)) rfl ⟨rfl, row_below (hB.setCell (Nat.le_refl _) _) (by omega) _⟩
theorem FTCipher1 : FieldT Tryd.prog 128 1 := ⟨_, _, 175, Tryd.underlying128, rfl, by kernel_rfl⟩
theorem ZTBlock : ZeroT Tryd.prog 68 .u8 16 := by unfold ZeroT; kernel_rfl
theorem built_cipher : Tryd.prog.built 128 [(0, .agg (arr .u8 256 sboxI))] = some (arr .u8 432 fun i => if i < 256 then sboxI i else 0) := by kernel_rfl

end Go.Proofs.YtfolbgiekbimpaaDoor
namespace Go.Proofs.YtfolbgiekbimpaaDoor
set_option linter.unusedSimpArgs false
set_option linter.unusedVariables false
open Go.RowKit
attribute [local irreducible] sboxI
set_option maxRecDepth 100000 in
set_option maxHeartbeats 1000000 in
theorem of_any (k : Nat → Int) (hk : ∀ i, i < 16 → 0 ≤ k i ∧ k i < 256) (w : World) :
    Calls Tryd.prog 55 #[.agg (arr .u8 16 k)] w fun e w' => ∃ C, e = .returned (.pointer (some ⟨C, 0, none⟩)) ∧ w.heap.size ≤ C ∧ w'.heap[C]? = some (.cells (arr .u8 432 (cipK k 10)) 128 (0, 0)) ∧ Below w.heap.size w w' := by
  go_enter Tryd.func55, Tryd.ntmps55
  go_wp2_with fail
  refine (boxes_any _).mono ?_
  rintro e w1 ⟨rfl, hb1⟩
  have g0 : w1.heap[w.heap.size]? = some (.cells (arr .u8 16 k) 68) := by
    rw [hb1.block _ (by simp)]; exact heap_alloc_new w _
  have hb0 : Below w.heap.size w w1 := ((Below.refl _ _).alloc (Nat.le_refl _) _).trans (hb1.mono (by simp))
  have hs1 : w.heap.size < w1.heap.size := by have := hb1.size; simp at this; omega
  clear hb1
  go_wp2_with (refine wpList_built (l := [(0, .agg (arr .u8 256 sboxI))]) (c := arr .u8 432 fun i => if i < 256 then sboxI i else 0) rfl rfl ?hl ?hb ?h)
  case hb => exact built_cipher
  obtain ⟨gC, hsz, hb2⟩ := alloc1 w1 (.cells (arr .u8 432 fun i => if i < 256 then sboxI i else 0) 128)
  have g0' := (hb2.block _ hs1).trans g0
  have hb3 : Below w.heap.size w _ := hb0.trans (hb2.mono (Nat.le_of_lt hs1))
  revert gC hsz g0' hb3
  generalize hC : w1.heap.size = C at *
  clear hb2 hb0 g0
  generalize w1.alloc (.cells (arr .u8 432 fun i => if i < 256 then sboxI i else 0) 128) = w2
  intro gC _ g0 hb
  have hC' := Lib.hid hC
  clear hC
  refine wp_region_tail 5 (by kernel_rfl) (by kernel_rfl) ?_
  simp only [List.take_succ_cons, List.take_zero, List.drop_succ_cons, List.drop_zero]
  still_step
  refine wpStill_load_arr rfl rfl rfl RTBlock g0 ?_
  repeat still_step
  refine wpStill_nil ?_
  go_wp2_with (refine wpList_store_sub rfl rfl rfl rfl RTBlock gC (by omega) ?_)
  go_loopg [4, 18] 10 (fun n add j wr => ∃ i : Nat, i + n = 10 ∧ j = .int .i64 i ∧ add = .int .u8 (addK i) ∧ wr.heap[C]? = some (.cells (arr .u8 432 (cipK k i)) 128 (0, 0)) ∧ Below w.heap.size w wr)
  case atStart =>
    refine ⟨0, by omega, rfl, rfl, blk_congr (row_self (w := w2.drew) gC) (fun i hi => cip_start k i hi), row_below hb.drew (by have := hC'.out; omega) _⟩
  case round =>
    obtain ⟨j, hj, rfl, rfl, g1, hB⟩ := hrel
    obtain ⟨go1, rfl⟩ : ∃ x, x = gk := ⟨_, rfl⟩
    have hwC : w.heap.size ≤ C := by have := hC'.out; omega
    have hj' := Lib.hid hj
    clear gC g0 hb hj
    by_cases hlt : j < 10
    · have hCl := lt_of_block g1
      go_wp2
      refine wp_region_can wr.heap.size 14 [(0, false), (1, false), (2, false), (3, false), (4, false), (5, false), (6, false), (7, false), (8, false), (9, false), (10, false), (11, false), (12, true), (13, true)] (by kernel_rfl) (by kernel_rfl) ?_
      (simp only [canOps, List.getElem?_cons_zero, List.getElem?_cons_succ, List.drop_succ_cons, List.drop_zero])
      iterate 5 (first | (refine wpCan_move rfl rfl (fun _ _ _ _ h => h) ?_; (simp only [Act.put, Act.eval, Array.getD_eq_getD_getElem?, List.getElem?_toArray, List.getElem?_cons_zero, List.getElem?_cons_succ, Option.getD_some, List.setIfInBounds_toArray, List.set_cons_zero, List.set_cons_succ])) | (refine wpCan_assign rfl rfl (fun _ _ _ _ h => h) ?_; (simp only [Act.put, Act.eval, Array.getD_eq_getD_getElem?, List.getElem?_toArray, List.getElem?_cons_zero, List.getElem?_cons_succ, Option.getD_some, List.setIfInBounds_toArray, List.set_cons_zero, List.set_cons_succ])) | (refine wpCan_nilCheck rfl rfl rfl (fun _ _ _ _ h => h) ?_; (simp only [Act.put, List.setIfInBounds_toArray, List.set_cons_zero, List.set_cons_succ])) | (refine wpCan_q rfl rfl (fun _ _ _ _ h => h) (by first | exact .bin rfl rfl rfl | exact .indexAddr rfl | exact .un rfl | exact .extract rfl | exact .index rfl | exact .field rfl | exact .slice rfl | exact .fieldT rfl FTCipher1) (fun K hK => ?_); go_simp; (try (simp only [↓IntWalk.iteOmega]; go_simp)); (try go_bits); refine hK _ ?_; clear hK K))
      refine wpCan_load_sub (off := 256 + j * 16) rfl rfl rfl (fun _ _ _ _ h => h) RTBlock hCl g1 (by omega) ?_
      (try simp only [Act.put, List.setIfInBounds_toArray, List.set_cons_zero, List.set_cons_succ])
      iterate 6 (first | (refine wpCan_move rfl rfl (fun _ _ _ _ h => h) ?_; (simp only [Act.put, Act.eval, Array.getD_eq_getD_getElem?, List.getElem?_toArray, List.getElem?_cons_zero, List.getElem?_cons_succ, Option.getD_some, List.setIfInBounds_toArray, List.set_cons_zero, List.set_cons_succ])) | (refine wpCan_assign rfl rfl (fun _ _ _ _ h => h) ?_; (simp only [Act.put, Act.eval, Array.getD_eq_getD_getElem?, List.getElem?_toArray, List.getElem?_cons_zero, List.getElem?_cons_succ, Option.getD_some, List.setIfInBounds_toArray, List.set_cons_zero, List.set_cons_succ])) | (refine wpCan_nilCheck rfl rfl rfl (fun _ _ _ _ h => h) ?_; (simp only [Act.put, List.setIfInBounds_toArray, List.set_cons_zero, List.set_cons_succ])) | (refine wpCan_q rfl rfl (fun _ _ _ _ h => h) (by first | exact .bin rfl rfl rfl | exact .indexAddr rfl | exact .un rfl | exact .extract rfl | exact .index rfl | exact .field rfl | exact .slice rfl | exact .fieldT rfl FTCipher1) (fun K hK => ?_); go_simp; (try (simp only [↓IntWalk.iteOmega]; go_simp)); (try go_bits); refine hK _ ?_; clear hK K))
      refine wpCan_alloc_arr rfl rfl ZTBlock (Nat.le_refl _) ?_
      refine wpCan_store_arr rfl rfl rfl rfl RTBlock (Nat.le_refl _) (heap_alloc_new _ _) ?_
      refine wpCan_nil ?_
      (try simp only [Act.put, List.setIfInBounds_toArray, List.set_cons_zero, List.set_cons_succ])
      go_wp2
      simp only [World.size_drew]
      have hBl : w.heap.size ≤ wr.heap.size := hB.size
      refine wp_cut (fun w' => w'.heap[wr.heap.size]? = some (.cells (arr .u8 16 (keyK k j)) 68 (0, 0)) ∧ w'.heap[C]? = some (.cells (arr .u8 432 (cipM k j 0)) 128 (0, 0)) ∧ Below w.heap.size w w')
        ⟨blk_congr (row_self (w := wr.drew.alloc _) (heap_alloc_new wr.drew _)) (fun i hi => by rw [Nat.mul_comm j 16]; exact cipK_key k j j i (Nat.le_refl _) hi),
          blk_congr (row_keep (w := wr.drew.alloc _) ((Below.heap_alloc wr.drew _ _ hCl).trans g1) (by omega)) (fun i _ => (cipM_zero k j i).symm), row_below (hB.drew.alloc hBl _) hBl _⟩ ?_
      rintro w3 ⟨gk0, gC0, hB0⟩
      generalize wr.heap.size = Bk at *
      go_loopg [33] 16 (fun n i wr => ∃ m : Nat, m + n = 16 ∧ i = .int .i64 m ∧ wr.heap[Bk]? = some (.cells (arr .u8 16 (keyK k j)) 68 (0, 0)) ∧ wr.heap[C]? = some (.cells (arr .u8 432 (cipM k j m)) 128 (0, 0)) ∧ Below w.heap.size w wr)
      case atStart => exact ⟨0, by omega, rfl, gk0, gC0, hB0⟩
      case round =>
        obtain ⟨m, hm, rfl, gW, gC, hBm⟩ := hrel
        have hm' := Lib.hid hm
        clear gk0 gC0 hB0 hm g1 hB
        by_cases hlm : m < 16
        · have hkb := Lib.hid (keyK_byte k hk j)
          have cw := cell_arr gW m hlm
          have cs := cell_arr gC (256 + (j + 1) * 16 + m) (by omega)
          have fz := free_arr gC (256 + (j + 1) * 16 + m)
          rcases (by omega : m = 0 ∨ m = 1 ∨ m = 2 ∨ m = 3 ∨ 4 ≤ m) with rfl | rfl | rfl | rfl | h4
          · simp only [Nat.add_zero] at cs fz cw
            have kb := hkb.out 13 (by omega)
            have cb := cell_arr gC (keyK k j 13).toNat (by omega)
            have cv := cell_arr gW 13 (by omega)
            go_wp2
            refine wp_region_tail 9 (by kernel_rfl) (by kernel_rfl) ?_
            (simp only [List.take_succ_cons, List.take_zero, List.drop_succ_cons, List.drop_zero])
            repeat (refine wpStill_step (fun K hK => ?_); go_simp; (try (simp only [↓IntWalk.iteOmega]; go_simp)); (try go_bits); refine hK _ ?_; clear hK K)
            refine wpStill_nil ?_
            go_wp2
            refine wp_region_tail 9 (by kernel_rfl) (by kernel_rfl) ?_
            (simp only [List.take_succ_cons, List.take_zero, List.drop_succ_cons, List.drop_zero])
            repeat (refine wpStill_step (fun K hK => ?_); go_simp; (try (simp only [↓IntWalk.iteOmega]; go_simp)); (try go_bits); refine hK _ ?_; clear hK K)
            refine wpStill_nil ?_
            go_wp2
            go_roundg (gk - 1)
            case measure => have := hm'.out; omega
            case rel =>
              have hm'' := hm'.out
              refine ⟨1, by omega, rfl, keep_arr gW _ _ (by omega), blk_congr (set_arr gC _ _) (fun i _ => (cipM_step' k j 0 _ (by omega) i _ ?_)), Go.below_drewN (hBm.setCell hwC _) 2⟩
              rw [cipM_box _ _ _ _ (by omega)]; rfl
          · have kb := hkb.out 14 (by omega)
            have cb := cell_arr gC (keyK k j 14).toNat (by omega)
            have cv := cell_arr gW 14 (by omega)
            go_wp2
            refine wp_region_tail 11 (by kernel_rfl) (by kernel_rfl) ?_
            (simp only [List.take_succ_cons, List.take_zero, List.drop_succ_cons, List.drop_zero])
            repeat (refine wpStill_step (fun K hK => ?_); go_simp; (try (simp only [↓IntWalk.iteOmega]; go_simp)); (try go_bits); refine hK _ ?_; clear hK K)
            refine wpStill_nil ?_
            go_wp2
            refine wp_region_tail 9 (by kernel_rfl) (by kernel_rfl) ?_
            (simp only [List.take_succ_cons, List.take_zero, List.drop_succ_cons, List.drop_zero])
            repeat (refine wpStill_step (fun K hK => ?_); go_simp; (try (simp only [↓IntWalk.iteOmega]; go_simp)); (try go_bits); refine hK _ ?_; clear hK K)
            refine wpStill_nil ?_
            go_wp2
            go_roundg (gk - 1)
            case measure => have := hm'.out; omega
            case rel =>
              have hm'' := hm'.out
              refine ⟨2, by omega, rfl, keep_arr gW _ _ (by omega), blk_congr (set_arr gC _ _) (fun i _ => (cipM_step' k j 1 _ (by omega) i _ ?_)), Go.below_drewN (hBm.setCell hwC _) 2⟩
              rw [cipM_box _ _ _ _ (by omega)]; rfl
          · have kb := hkb.out 15 (by omega)
            have cb := cell_arr gC (keyK k j 15).toNat (by omega)
            have cv := cell_arr gW 15 (by omega)
            go_wp2
            refine wp_region_tail 11 (by kernel_rfl) (by kernel_rfl) ?_
            (simp only [List.take_succ_cons, List.take_zero, List.drop_succ_cons, List.drop_zero])
            repeat (refine wpStill_step (fun K hK => ?_); go_simp; (try (simp only [↓IntWalk.iteOmega]; go_simp)); (try go_bits); refine hK _ ?_; clear hK K)
            refine wpStill_nil ?_
            go_wp2
            refine wp_region_tail 9 (by kernel_rfl) (by kernel_rfl) ?_
            (simp only [List.take_succ_cons, List.take_zero, List.drop_succ_cons, List.drop_zero])
            repeat (refine wpStill_step (fun K hK => ?_); go_simp; (try (simp only [↓IntWalk.iteOmega]; go_simp)); (try go_bits); refine hK _ ?_; clear hK K)
            refine wpStill_nil ?_
            go_wp2
            go_roundg (gk - 1)
            case measure => have := hm'.out; omega
            case rel =>
              have hm'' := hm'.out
              refine ⟨3, by omega, rfl, keep_arr gW _ _ (by omega), blk_congr (set_arr gC _ _) (fun i _ => (cipM_step' k j 2 _ (by omega) i _ ?_)), Go.below_drewN (hBm.setCell hwC _) 2⟩
              rw [cipM_box _ _ _ _ (by omega)]; rfl
          · have kb := hkb.out 12 (by omega)
            have cb := cell_arr gC (keyK k j 12).toNat (by omega)
            have cv := cell_arr gW 12 (by omega)
            go_wp2
            refine wp_region_tail 11 (by kernel_rfl) (by kernel_rfl) ?_
            (simp only [List.take_succ_cons, List.take_zero, List.drop_succ_cons, List.drop_zero])
            repeat (refine wpStill_step (fun K hK => ?_); go_simp; (try (simp only [↓IntWalk.iteOmega]; go_simp)); (try go_bits); refine hK _ ?_; clear hK K)
            refine wpStill_nil ?_
            go_wp2
            refine wp_region_tail 9 (by kernel_rfl) (by kernel_rfl) ?_
            (simp only [List.take_succ_cons, List.take_zero, List.drop_succ_cons, List.drop_zero])
            repeat (refine wpStill_step (fun K hK => ?_); go_simp; (try (simp only [↓IntWalk.iteOmega]; go_simp)); (try go_bits); refine hK _ ?_; clear hK K)
            refine wpStill_nil ?_
            go_wp2
            go_roundg (gk - 1)
            case measure => have := hm'.out; omega
            case rel =>
              have hm'' := hm'.out
              refine ⟨4, by omega, rfl, keep_arr gW _ _ (by omega), blk_congr (set_arr gC _ _) (fun i _ => (cipM_step' k j 3 _ (by omega) i _ ?_)), Go.below_drewN (hBm.setCell hwC _) 2⟩
              rw [cipM_box _ _ _ _ (by omega)]; rfl
          · have cn := cell_arr gC (256 + (j + 1) * 16 + (m - 4)) (by omega)
            go_wp2
            refine wp_region_tail 9 (by kernel_rfl) (by kernel_rfl) ?_
            (simp only [List.take_succ_cons, List.take_zero, List.drop_succ_cons, List.drop_zero])
            repeat (refine wpStill_step (fun K hK => ?_); go_simp; (try (simp only [↓IntWalk.iteOmega]; go_simp)); (try go_bits); refine hK _ ?_; clear hK K)
            refine wpStill_nil ?_
            go_wp2
            go_roundg (gk - 1)
            case measure => have := hm'.out; omega
            case rel =>
              have hm'' := hm'.out
              refine ⟨m + 1, by omega, by go_num, keep_arr gW _ _ (by omega), blk_congr (set_arr gC _ _) (fun i _ => (cipM_step' k j m _ (by omega) i _ ?_)), Go.below_drewN (hBm.setCell hwC _) 1⟩
              rw [nextKey_step _ _ m h4, show 256 + (j + 1) * 16 + (m - 4) = 256 + 16 * (j + 1) + (m - 4) from by omega, cipM_now _ _ _ _ (by omega)]
        · obtain rfl : m = 16 := by have := hm'.out; omega
          have ab := addK_byte j
          have g2 := blk_congr gC (fun i _ => cipM_done k j i)
          clear gC gW
          go_wp2_with (go_at_call 72; (with_reducible refine (twice_any _ (by omega) (by omega) _).mono ?_); rintro e w' ⟨rfl, rfl⟩)
          go_roundg (go1 - 1)
          case measure => have := hj'.out; omega
          case rel =>
            have hj'' := hj'.out
            exact ⟨j + 1, by omega, by go_num, rfl, g2, hBm⟩
    · obtain rfl : j = 10 := by have := hj'.out; omega
      go_wp2
      go_ret
      exact ⟨C, rfl, hwC, g1, hB⟩

end Go.Proofs.YtfolbgiekbimpaaDoor
namespace Go.Proofs.YtfolbgiekbimpaaDoor
set_option linter.unusedSimpArgs false
set_option linter.unusedVariables false
open Go.RowKit
attribute [local irreducible] sboxI
theorem RTCol : RowT Tryd.prog 144 4 := ⟨_, Tryd.underlying144, rfl, by kernel_rfl⟩
theorem ZTCol : ZeroT Tryd.prog 144 .u8 4 := by unfold ZeroT; kernel_rfl

set_option maxRecDepth 100000 in
set_option maxHeartbeats 1000000 in
theorem add_any (f g : Nat → Int) (w : World) :
    Calls Tryd.prog 73 #[.agg (arr .u8 16 f), .agg (arr .u8 16 g)] w fun e w' => e = .returned (.agg (arr .u8 16 (xorI f g))) ∧ Below w.heap.size w w' := by
  go_enter Tryd.func73, Tryd.ntmps73
  go_wp2_with (refine wpList_alloc_arr rfl rfl ZTBlock ?_)
  obtain ⟨h0, h1, h2, hsz, hb⟩ := alloc3 w (.cells (arr .u8 16 f) 68) (.cells (arr .u8 16 g) 68) (.cells (arr .u8 16 fun _ => 0) 68)
  go_loopg [6] 16 (fun n i wr => ∃ m : Nat, m + n = 16 ∧ i = .int .i64 m ∧ wr.heap[w.heap.size]? = some (.cells (arr .u8 16 fun i => if i < m then xorI f g i else f i) 68 (0, 0)) ∧
    wr.heap[w.heap.size + 1]? = some (.cells (arr .u8 16 g) 68 (0, 0)) ∧ wr.heap[w.heap.size + 1 + 1]? = some (.cells (arr .u8 16 fun _ => 0) 68 (0, 0)) ∧ Below w.heap.size w wr)
  case atStart => exact ⟨0, rfl, rfl, by simpa using h0, h1, h2, hb⟩
  case round =>
    obtain ⟨m, hm, rfl, g0, g1, g2, hB⟩ := hrel
    have hm' := Lib.hid hm
    clear h0 h1 h2 hsz hb hm
    by_cases hlt : m < 16
    · have c0 := cell_arr g0 m hlt
      have c1 := cell_arr g1 m hlt
      have fz := free_arr g0 m
      simp only [Nat.lt_irrefl, if_false] at c0
      go_wp2
      refine wp_region_tail 8 (by kernel_rfl) (by kernel_rfl) ?_
      (simp only [List.take_succ_cons, List.take_zero, List.drop_succ_cons, List.drop_zero])
      repeat (refine wpStill_step (fun K hK => ?_); go_simp; (try (simp only [↓IntWalk.iteOmega]; go_simp)); (try go_bits); refine hK _ ?_; clear hK K)
      refine wpStill_nil ?_
      go_wp2
      go_roundg (gk - 1)
      case measure => have := hm'.out; omega
      case rel =>
        have hm'' := hm'.out
        exact ⟨m + 1, by omega, by go_num, blk_congr (set_arr g0 m _) (fun i _ => fill_step f (xorI f g) m i), keep_arr g1 _ _ (by omega), keep_arr g2 _ _ (by omega), (hB.setCell (Nat.le_refl _) _).drew⟩
    · obtain rfl : m = 16 := by have := hm'.out; omega
      have g0' := blk_congr (f' := xorI f g) g0 (fun i hi => if_pos hi)
      clear g0
      go_wp2_with (first | (refine wpList_load_arr rfl rfl rfl RTBlock g0' ?_) | (refine wpList_store_arr rfl rfl rfl rfl RTBlock g2 ?_))
      exact bodyPost_ret (results_arr rfl rfl RTBlock (row_self g2)) rfl ⟨rfl, row_below hB (by omega) _⟩

set_option maxRecDepth 100000 in
set_option maxHeartbeats 1000000 in
theorem column_any (x : Nat → Int) (w : World) :
    Calls Tryd.prog 86 #[.agg (arr .u8 4 x)] w fun e w' => e = .returned (.agg (arr .u8 4 (colI x))) ∧ Below w.heap.size w w' := by
  go_enter Tryd.func86, Tryd.ntmps86
  obtain ⟨h0, h1, hsz, hb⟩ := alloc2 w (.cells (arr .u8 4 x) 144) (.cells (arr .u8 4 fun _ => 0) 144)
  have c0 := cell_arr h0 0 (by omega)
  have c1 := cell_arr h0 1 (by omega)
  have c2 := cell_arr h0 2 (by omega)
  have c3 := cell_arr h0 3 (by omega)
  go_wp2_with (refine wpList_alloc_arr rfl rfl ZTCol ?_)
  clear c0 c1 c2 c3
  go_loopg [16] 4 (fun n i wr => ∃ m : Nat, m + n = 4 ∧ i = .int .i64 m ∧ wr.heap[w.heap.size]? = some (.cells (arr .u8 4 x) 144 (0, 0)) ∧
    wr.heap[w.heap.size + 1]? = some (.cells (arr .u8 4 fun i => if i < m then colI x i else 0) 144 (0, 0)) ∧ Below w.heap.size w wr)
  case atStart => exact ⟨0, rfl, rfl, h0, by simpa using h1, hb⟩
  case round =>
    obtain ⟨m, hm, rfl, g0, g1, hB⟩ := hrel
    have hm' := Lib.hid hm
    clear h0 h1 hsz hb hm
    have hl0 := lt_of_block g0
    have hl1 := lt_of_block g1
    by_cases hlt : m < 4
    · have c0 := cell_arr g0 m hlt
      have c1 := cell_arr g0 ((m + 1) % 4) (by omega)
      have c2 := cell_arr g1 m hlt
      have fz := free_arr g1 m
      have tb := bits_u8 .xor (x m) (x ((m + 1) % 4))
      go_wp2
      refine wp_region_can wr.heap.size 18 [(0, false), (1, false), (2, false), (3, false), (4, false), (5, false), (6, false), (7, false), (8, false), (9, false), (10, false), (11, false), (12, false), (13, false), (14, false), (15, true), (16, false), (17, false)] (by kernel_rfl) (by kernel_rfl) ?_
      (simp only [canOps, List.getElem?_cons_zero, List.getElem?_cons_succ, List.drop_succ_cons, List.drop_zero])
      iterate 15 (first | (refine wpCan_move rfl rfl (fun _ _ _ _ h => h) ?_; (simp only [Act.put, Act.eval, Array.getD_eq_getD_getElem?, List.getElem?_toArray, List.getElem?_cons_zero, List.getElem?_cons_succ, Option.getD_some, List.setIfInBounds_toArray, List.set_cons_zero, List.set_cons_succ])) | (refine wpCan_assign rfl rfl (fun _ _ _ _ h => h) ?_; (simp only [Act.put, Act.eval, Array.getD_eq_getD_getElem?, List.getElem?_toArray, List.getElem?_cons_zero, List.getElem?_cons_succ, Option.getD_some, List.setIfInBounds_toArray, List.set_cons_zero, List.set_cons_succ])) | (refine wpCan_nilCheck rfl rfl rfl (fun _ _ _ _ h => h) ?_; (simp only [Act.put, List.setIfInBounds_toArray, List.set_cons_zero, List.set_cons_succ])) | (refine wpCan_q rfl rfl (fun _ _ _ _ h => h) (by first | exact .bin rfl rfl rfl | exact .indexAddr rfl | exact .un rfl | exact .extract rfl | exact .index rfl | exact .field rfl | exact .slice rfl | exact .load rfl rfl hl0 g0) (fun K hK => ?_); go_simp; (try (simp only [↓IntWalk.iteOmega]; go_simp)); (try go_bits); refine hK _ ?_; clear hK K))
      refine wpCan_e rfl (fun K hK => ?_)
      go_simp
      refine (twice_any _ (by omega) (by omega) _).mono ?_
      rintro e w9 ⟨rfl, rfl⟩
      refine hK _ _ (Keep.refl _ _) ?_
      clear hK K
      (try simp only [Act.put, List.setIfInBounds_toArray, List.set_cons_zero, List.set_cons_succ])
      iterate 2 (first | (refine wpCan_move rfl rfl (fun _ _ _ _ h => h) ?_; (simp only [Act.put, Act.eval, Array.getD_eq_getD_getElem?, List.getElem?_toArray, List.getElem?_cons_zero, List.getElem?_cons_succ, Option.getD_some, List.setIfInBounds_toArray, List.set_cons_zero, List.set_cons_succ])) | (refine wpCan_assign rfl rfl (fun _ _ _ _ h => h) ?_; (simp only [Act.put, Act.eval, Array.getD_eq_getD_getElem?, List.getElem?_toArray, List.getElem?_cons_zero, List.getElem?_cons_succ, Option.getD_some, List.setIfInBounds_toArray, List.set_cons_zero, List.set_cons_succ])) | (refine wpCan_nilCheck rfl rfl rfl (fun _ _ _ _ h => h) ?_; (simp only [Act.put, List.setIfInBounds_toArray, List.set_cons_zero, List.set_cons_succ])) | (refine wpCan_q rfl rfl (fun _ _ _ _ h => h) (by first | exact .bin rfl rfl rfl | exact .indexAddr rfl | exact .un rfl | exact .extract rfl | exact .index rfl | exact .field rfl | exact .slice rfl) (fun K hK => ?_); go_simp; (try (simp only [↓IntWalk.iteOmega]; go_simp)); (try go_bits); refine hK _ ?_; clear hK K))
      refine wpCan_nil ?_
      go_wp2
      go_roundg (gk - 1)
      case measure => have := hm'.out; omega
      case rel =>
        have hm'' := hm'.out
        exact ⟨m + 1, by omega, by go_num, keep_arr g0 _ _ (by omega), blk_congr (set_arr g1 m _) (fun i _ => afill_zero (colI x) m i), (hB.setCell (Nat.le_add_right _ _) _).drew⟩
    · obtain rfl : m = 4 := by have := hm'.out; omega
      have g1' := blk_congr (f' := colI x) g1 (fun i hi => if_pos hi)
      clear g1
      go_wp2_with (first | (refine wpList_load_arr rfl rfl rfl RTCol g1' ?_) | (refine wpList_store_arr rfl rfl rfl rfl RTCol g1' ?_))
      exact bodyPost_ret (results_arr rfl rfl RTCol (row_self g1')) rfl ⟨rfl, row_below hB (by omega) _⟩
end Go.Proofs.YtfolbgiekbimpaaDoor
namespace Go.Proofs.YtfolbgiekbimpaaDoor
set_option linter.unusedSimpArgs false
set_option linter.unusedVariables false
open Go.RowKit
attribute [local irreducible] sboxI
theorem SZByte : (Tryd.prog.info? 5).map (·.size) = some 1 := by kernel_rfl

set_option maxRecDepth 100000 in
set_option maxHeartbeats 1000000 in
theorem round_any (k s : Nat → Int) (hs : ∀ i, i < 16 → 0 ≤ s i ∧ s i < 256) (last : Bool) (C : Nat) (w : World) (hC : w.heap[C]? = some (.cells (arr .u8 432 (cipK k 10)) 128 (0, 0))) :
    Calls Tryd.prog 74 #[.pointer (some ⟨C, 0, none⟩), .agg (arr .u8 16 s), .bool last] w fun e w' => e = .returned (.agg (arr .u8 16 (roundI s last))) ∧ Below w.heap.size w w' := by
  go_enter Tryd.func74, Tryd.ntmps74
  obtain ⟨h0, h1, hsz, hb⟩ := alloc2 w (.cells (arr .u8 16 s) 68) (.cells (arr .u8 16 fun _ => 0) 68)
  have hCl := lt_of_block hC
  have hC1 := keep_below hb hCl hC
  have hs' := Lib.hid hs
  clear hs hC
  go_wp2_with (refine wpList_alloc_arr rfl rfl ZTBlock ?_)
  go_loopg [10] 4 (fun n i wr => ∃ m : Nat, m + n = 4 ∧ i = .int .i64 m ∧ wr.heap[w.heap.size]? = some (.cells (arr .u8 16 s) 68 (0, 0)) ∧
    wr.heap[w.heap.size + 1]? = some (.cells (arr .u8 16 fun i => if i < 4 * m then roundI s last i else 0) 68 (0, 0)) ∧ wr.heap[C]? = some (.cells (arr .u8 432 (cipK k 10)) 128 (0, 0)) ∧ Below w.heap.size w wr)
  case atStart => exact ⟨0, rfl, rfl, h0, blk_congr h1 (fun i _ => (if_neg (by omega)).symm), hC1, hb⟩
  case round =>
    obtain ⟨m, hm, rfl, g0, g1, gC, hB⟩ := hrel
    obtain ⟨go1, rfl⟩ : ∃ x, x = gk := ⟨_, rfl⟩
    have hm' := Lib.hid hm
    clear h0 h1 hsz hb hm hC1
    have hl0 := lt_of_block g0
    have hl1 := lt_of_block g1
    have hlC := lt_of_block gC
    by_cases hlt : m < 4
    · go_upto_region 5 with (refine wpList_alloc_arr rfl rfl ZTCol ?_)
      have q2 := heap_alloc_new wr (.cells (arr .u8 4 fun _ => 0) 144)
      have bl := (alloc1 wr (.cells (arr .u8 4 fun _ => 0) 144)).2.2
      have q0 := keep_below bl hl0 g0
      have q1 := keep_below bl hl1 g1
      have qC := keep_below bl hlC gC
      have hBq := hB.trans (bl.mono hB.size)
      clear bl g0 g1 gC hB
      generalize wr.heap.size = B2 at *
      (try simp only [Act.put, List.setIfInBounds_toArray, List.set_cons_zero, List.set_cons_succ])
      rw [show decide ((m : Int) < 4) = true from decide_eq_true (by omega)]
      go_wp2
      go_loopg [13] 4 (fun n i wr => ∃ r : Nat, r + n = 4 ∧ i = .int .i64 r ∧ wr.heap[w.heap.size]? = some (.cells (arr .u8 16 s) 68 (0, 0)) ∧
        wr.heap[w.heap.size + 1]? = some (.cells (arr .u8 16 fun i => if i < 4 * m then roundI s last i else 0) 68 (0, 0)) ∧ wr.heap[C]? = some (.cells (arr .u8 432 (cipK k 10)) 128 (0, 0)) ∧
        wr.heap[B2]? = some (.cells (arr .u8 4 fun i => if i < r then rowI s m i else 0) 144 (0, 0)) ∧ Below w.heap.size w wr)
      case atStart => exact ⟨0, rfl, rfl, q0, q1, qC, blk_congr q2 (fun i _ => (if_neg (by omega)).symm), hBq⟩
      case round =>
        clear q0 q1 qC q2 hBq
        obtain ⟨r, hr, rfl, q0, q1, qC, q2, hBq⟩ := hrel
        have hr' := Lib.hid hr
        clear hr
        by_cases hlr : r < 4
        · have hsb := hs'.out (4 * ((m + r) % 4) + r) (by omega)
          have c0 := cell_arr q0 (4 * ((m + r) % 4) + r) (by omega)
          have c1 := cell_arr qC (s (4 * ((m + r) % 4) + r)).toNat (by omega)
          rw [cipK_box _ _ _ (by omega)] at c1
          have c2 := cell_arr q2 r hlr
          have fz := free_arr q2 r
          simp only [Nat.lt_irrefl, if_false] at c2
          go_wp2
          refine wp_region_tail 16 (by kernel_rfl) (by kernel_rfl) ?_
          (simp only [List.take_succ_cons, List.take_zero, List.drop_succ_cons, List.drop_zero])
          repeat (refine wpStill_step (fun K hK => ?_); go_simp; (try (simp only [↓IntWalk.iteOmega]; go_simp)); (try go_bits); refine hK _ ?_; clear hK K)
          refine wpStill_nil ?_
          go_wp2
          go_roundg (gk - 1)
          case measure => have := hr'.out; omega
          case rel =>
            have hr'' := hr'.out
            exact ⟨r + 1, by omega, by go_num, keep_arr q0 _ _ (by omega), keep_arr q1 _ _ (by omega), keep_arr qC _ _ (by omega), blk_congr (set_arr q2 r _) (fun i _ => afill_zero (rowI s m) r i), (hBq.setCell (by show w.heap.size ≤ B2; omega) _).drew⟩
        · obtain rfl : r = 4 := by have := hr'.out; omega
          have q3 := blk_congr (f' := rowI s m) q2 (fun i hi => if_pos hi)
          clear q2
          cases last
          · go_upto_region 12 with (first | (refine wpList_load_arr rfl rfl rfl RTCol q3 ?_) | (go_at_call 86; refine (column_any _ _).mono ?_; rintro e w4 ⟨rfl, b4⟩; have e3 := keep_below b4 (lt_of_block q3) q3) | (refine wpList_store_arr rfl rfl rfl rfl RTCol e3 ?_))
            (try simp only [Act.put, List.setIfInBounds_toArray, List.set_cons_zero, List.set_cons_succ])
            have e0 := row_keep (w := w4) (c' := arr .u8 4 (colI (rowI s m))) (g := B2) (keep_below b4 (lt_of_block q0) q0) (by omega)
            have e1 := row_keep (w := w4) (c' := arr .u8 4 (colI (rowI s m))) (g := B2) (keep_below b4 (lt_of_block q1) q1) (by omega)
            have eC := row_keep (w := w4) (c' := arr .u8 4 (colI (rowI s m))) (g := B2) (keep_below b4 (lt_of_block qC) qC) (by omega)
            have e2 := row_self (w := w4) (c' := arr .u8 4 (colI (rowI s m))) e3
            have eB := row_below (hBq.trans (b4.mono hBq.size)) (g := B2) (by omega) (arr .u8 4 (colI (rowI s m)))
            clear b4 e3 q0 q1 qC q3 hBq
            generalize w4.setRow B2 (arr .u8 4 (colI (rowI s m))) = w5 at *
            refine wp_region_tail 4 (by kernel_rfl) (by kernel_rfl) ?_
            (simp only [List.take_succ_cons, List.take_zero, List.drop_succ_cons, List.drop_zero])
            iterate 2 (refine wpStill_step (fun K hK => ?_); go_simp; (try (simp only [↓IntWalk.iteOmega]; go_simp)); (try go_bits); refine hK _ ?_; clear hK K)
            refine wpStill_val rfl (run_op_slice_lo rfl Tryd.underlying68 SZByte rfl rfl (by omega) (by omega)) ?_
            refine wpStill_val rfl (run_op_slice_all rfl Tryd.underlying144 SZByte rfl) ?_
            refine wpStill_nil ?_
            (try simp only [Act.put, List.setIfInBounds_toArray, List.set_cons_zero, List.set_cons_succ])
            refine wpList_copy_arr (m := 4) rfl rfl rfl rfl Tryd.underlying32 SZByte e1 e2 (by show 4 = min 4 (16 - ((4 : Int) * m).toNat); omega) (by omega) (by omega) ?_
            (try simp only [Act.put, List.setIfInBounds_toArray, List.set_cons_zero, List.set_cons_succ])
            go_wp2
            go_roundg (go1 - 1)
            case measure => have := hm'.out; omega
            case rel =>
              have hm'' := hm'.out
              exact ⟨m + 1, by omega, by go_num, row_keep (w := w5.drew) e0 (by omega), blk_congr (row_self (w := w5.drew) e1) (fun i hi => round_step s false m i hi _ (roundI_at s m)), row_keep (w := w5.drew) eC (by omega), row_below eB.drew (Nat.le_add_right _ _) _⟩
          · go_upto_region 12 with (fail)
            (try simp only [Act.put, List.setIfInBounds_toArray, List.set_cons_zero, List.set_cons_succ])
            have e0 := q0
            have e1 := q1
            have eC := qC
            have e2 := q3
            have eB := hBq
            clear q0 q1 qC q3 hBq
            refine wp_region_tail 4 (by kernel_rfl) (by kernel_rfl) ?_
            (simp only [List.take_succ_cons, List.take_zero, List.drop_succ_cons, List.drop_zero])
            iterate 2 (refine wpStill_step (fun K hK => ?_); go_simp; (try (simp only [↓IntWalk.iteOmega]; go_simp)); (try go_bits); refine hK _ ?_; clear hK K)
            refine wpStill_val rfl (run_op_slice_lo rfl Tryd.underlying68 SZByte rfl rfl (by omega) (by omega)) ?_
            refine wpStill_val rfl (run_op_slice_all rfl Tryd.underlying144 SZByte rfl) ?_
            refine wpStill_nil ?_
            (try simp only [Act.put, List.setIfInBounds_toArray, List.set_cons_zero, List.set_cons_succ])
            refine wpList_copy_arr (m := 4) rfl rfl rfl rfl Tryd.underlying32 SZByte e1 e2 (by show 4 = min 4 (16 - ((4 : Int) * m).toNat); omega) (by omega) (by omega) ?_
            (try simp only [Act.put, List.setIfInBounds_toArray, List.set_cons_zero, List.set_cons_succ])
            go_wp2
            go_roundg (go1 - 1)
            case measure => have := hm'.out; omega
            case rel =>
              have hm'' := hm'.out
              exact ⟨m + 1, by omega, by go_num, row_keep (w := wr.drew) e0 (by omega), blk_congr (row_self (w := wr.drew) e1) (fun i hi => round_step s true m i hi _ (roundI_last s m)), row_keep (w := wr.drew) eC (by omega), row_below eB.drew (Nat.le_add_right _ _) _⟩
    · obtain rfl : m = 4 := by have := hm'.out; omega
      have g1' := blk_congr (f' := roundI s last) g1 (fun i hi => if_pos (by omega))
      clear g1
      go_wp2_with (first | (refine wpList_load_arr rfl rfl rfl RTBlock g1' ?_) | (refine wpList_store_arr rfl rfl rfl rfl RTBlock g1' ?_))
      exact bodyPost_ret (results_arr rfl rfl RTBlock (row_self g1')) rfl ⟨rfl, row_below hB (by omega) _⟩
end Go.Proofs.YtfolbgiekbimpaaDoor
namespace Go.Proofs.YtfolbgiekbimpaaDoor
set_option linter.unusedSimpArgs false
set_option linter.unusedVariables false
open Go.RowKit
attribute [local irreducible] sboxI
theorem cipK_at (k : Nat → Int) (j i : Nat) (hj : j ≤ 10) (hi : i < 16) : cipK k 10 (256 + j * 16 + i) = keyK k j i := by
  rw [Nat.mul_comm]; exact cipK_key k 10 j i hj hi

set_option maxRecDepth 100000 in
set_option maxHeartbeats 1000000 in
theorem encrypt_any (k s : Nat → Int) (C : Nat) (hs : ∀ i, i < 16 → 0 ≤ s i ∧ s i < 256) (w : World) (hC : w.heap[C]? = some (.cells (arr .u8 432 (cipK k 10)) 128 (0, 0))) :
    Calls Tryd.prog 56 #[.pointer (some ⟨C, 0, none⟩), .agg (arr .u8 16 s)] w fun e w' => e = .returned (.agg (arr .u8 16 (encI k s))) ∧ Below w.heap.size w w' := by
  go_enter Tryd.func56, Tryd.ntmps56
  obtain ⟨h0, h1, hsz, hb⟩ := alloc2 w (.cells (arr .u8 16 s) 68) (.cells (arr .u8 16 fun _ => 0) 68)
  have hCl := lt_of_block hC
  have hC1 := keep_below hb hCl hC
  clear hC
  go_wp2_with (refine wpList_alloc_arr rfl rfl ZTBlock ?_)
  refine wp_cut (fun w' => w'.heap[w.heap.size]? = some (.cells (arr .u8 16 s) 68 (0, 0)) ∧ w'.heap[w.heap.size + 1]? = some (.cells (arr .u8 16 fun _ => 0) 68 (0, 0)) ∧ w'.heap[C]? = some (.cells (arr .u8 432 (cipK k 10)) 128 (0, 0)) ∧ Below w.heap.size w w') ⟨h0, h1, hC1, hb⟩ ?_
  clear h0 h1 hsz hb hC1
  rintro w1 ⟨h0, h1, hC1, hb⟩
  have hl0 := lt_of_block h0
  have hl1 := lt_of_block h1
  have hlC := lt_of_block hC1
  refine wp_region_can w1.heap.size 7 [(0, false), (1, false), (2, false), (3, false), (4, false), (5, false), (6, true)] (by kernel_rfl) (by kernel_rfl) ?_
  (simp only [canOps, List.getElem?_cons_zero, List.getElem?_cons_succ, List.drop_succ_cons, List.drop_zero])
  refine wpCan_load_arr rfl rfl rfl (fun _ _ _ _ h => h) RTBlock hl0 h0 ?_
  (try simp only [Act.put, List.setIfInBounds_toArray, List.set_cons_zero, List.set_cons_succ])
  iterate 4 (first | (refine wpCan_move rfl rfl (fun _ _ _ _ h => h) ?_; (simp only [Act.put, Act.eval, Array.getD_eq_getD_getElem?, List.getElem?_toArray, List.getElem?_cons_zero, List.getElem?_cons_succ, Option.getD_some, List.setIfInBounds_toArray, List.set_cons_zero, List.set_cons_succ])) | (refine wpCan_assign rfl rfl (fun _ _ _ _ h => h) ?_; (simp only [Act.put, Act.eval, Array.getD_eq_getD_getElem?, List.getElem?_toArray, List.getElem?_cons_zero, List.getElem?_cons_succ, Option.getD_some, List.setIfInBounds_toArray, List.set_cons_zero, List.set_cons_succ])) | (refine wpCan_nilCheck rfl rfl rfl (fun _ _ _ _ h => h) ?_; (simp only [Act.put, List.setIfInBounds_toArray, List.set_cons_zero, List.set_cons_succ])) | (refine wpCan_q rfl rfl (fun _ _ _ _ h => h) (by first | exact .bin rfl rfl rfl | exact .indexAddr rfl | exact .un rfl | exact .extract rfl | exact .index rfl | exact .field rfl | exact .slice rfl | exact .fieldT rfl FTCipher1) (fun K hK => ?_); go_simp; (try (simp only [↓IntWalk.iteOmega]; go_simp)); (try go_bits); refine hK _ ?_; clear hK K))
  refine wpCan_load_as (off := 256 + 0 * 16) (keyK k 0) rfl rfl rfl (fun _ _ _ _ h => h) RTBlock hlC hC1 (by omega) (fun i hi => cipK_at k 0 i (by omega) hi) ?_
  (try simp only [Act.put, List.setIfInBounds_toArray, List.set_cons_zero, List.set_cons_succ])
  refine wpCan_e rfl (fun K hK => ?_)
  go_simp
  refine (add_any _ _ _).mono ?_
  rintro e w2 ⟨rfl, b2⟩
  refine hK _ _ (Keep.of_below b2 (Nat.le_refl _)) ?_
  clear hK K
  (try simp only [Act.put, List.setIfInBounds_toArray, List.set_cons_zero, List.set_cons_succ])
  refine wpCan_nil ?_
  have e0 := keep_below (w := w1.drew) b2 hl0 h0
  have e1 := row_keep (w := w2) (c' := arr .u8 16 (xorI s (keyK k 0))) (g := w.heap.size) (keep_below (w := w1.drew) b2 hl1 h1) (by omega)
  have eC := row_keep (w := w2) (c' := arr .u8 16 (xorI s (keyK k 0))) (g := w.heap.size) (keep_below (w := w1.drew) b2 hlC hC1) (by omega)
  have e2 := row_self (w := w2) (c' := arr .u8 16 (xorI s (keyK k 0))) e0
  have eB := row_below (hb.drew.trans (b2.mono hb.size)) (g := w.heap.size) (Nat.le_refl _) (arr .u8 16 (xorI s (keyK k 0)))
  go_wp2_with (refine wpList_store_arr rfl rfl rfl rfl RTBlock e0 ?_)
  clear h0 h1 hC1 hb hl0 hl1 hlC b2 e0
  go_loopg [5] 10 (fun n i wr => ∃ j : Nat, j + n = 10 ∧ i = .int .i64 ((j : Int) + 1) ∧ wr.heap[w.heap.size]? = some (.cells (arr .u8 16 (encJ k s j)) 68 (0, 0)) ∧ wr.heap[w.heap.size + 1]? = some (.cells (arr .u8 16 fun _ => 0) 68 (0, 0)) ∧
      wr.heap[C]? = some (.cells (arr .u8 432 (cipK k 10)) 128 (0, 0)) ∧ Below w.heap.size w wr)
  case atStart => exact ⟨0, rfl, rfl, e2, e1, eC, eB⟩
  case round =>
    clear e1 e2 eC eB
    obtain ⟨j, hj, rfl, g0, g1, gC, hB⟩ := hrel
    have hj' := Lib.hid hj
    clear hj
    have hl0 := lt_of_block g0
    have hl1 := lt_of_block g1
    have hlC := lt_of_block gC
    by_cases hlt : j < 10
    · go_upto_region 5 with (fail)
      (try simp only [Act.put, List.setIfInBounds_toArray, List.set_cons_zero, List.set_cons_succ])
      rw [show decide ((j : Int) + 1 ≤ 10) = true from decide_eq_true (by omega)]
      refine wp_region_can wr.heap.size 12 [(0, false), (1, false), (2, false), (3, false), (5, false), (6, false), (7, false), (8, false), (9, false), (10, false), (4, true), (11, true)] (by kernel_rfl) (by kernel_rfl) ?_
      (simp only [canOps, List.getElem?_cons_zero, List.getElem?_cons_succ, List.drop_succ_cons, List.drop_zero])
      (first | (refine wpCan_move rfl rfl (fun _ _ _ _ h => h) ?_; (simp only [Act.put, Act.eval, Array.getD_eq_getD_getElem?, List.getElem?_toArray, List.getElem?_cons_zero, List.getElem?_cons_succ, Option.getD_some, List.setIfInBounds_toArray, List.set_cons_zero, List.set_cons_succ])) | (refine wpCan_assign rfl rfl (fun _ _ _ _ h => h) ?_; (simp only [Act.put, Act.eval, Array.getD_eq_getD_getElem?, List.getElem?_toArray, List.getElem?_cons_zero, List.getElem?_cons_succ, Option.getD_some, List.setIfInBounds_toArray, List.set_cons_zero, List.set_cons_succ])) | (refine wpCan_nilCheck rfl rfl rfl (fun _ _ _ _ h => h) ?_; (simp only [Act.put, List.setIfInBounds_toArray, List.set_cons_zero, List.set_cons_succ])) | (refine wpCan_q rfl rfl (fun _ _ _ _ h => h) (by first | exact .bin rfl rfl rfl | exact .indexAddr rfl | exact .un rfl | exact .extract rfl | exact .index rfl | exact .field rfl | exact .slice rfl) (fun K hK => ?_); go_simp; (try (simp only [↓IntWalk.iteOmega]; go_simp)); (try go_bits); refine hK _ ?_; clear hK K))
      refine wpCan_load_arr rfl rfl rfl (fun _ _ _ _ h => h) RTBlock hl0 g0 ?_
      (try simp only [Act.put, List.setIfInBounds_toArray, List.set_cons_zero, List.set_cons_succ])
      iterate 7 (first | (refine wpCan_move rfl rfl (fun _ _ _ _ h => h) ?_; (simp only [Act.put, Act.eval, Array.getD_eq_getD_getElem?, List.getElem?_toArray, List.getElem?_cons_zero, List.getElem?_cons_succ, Option.getD_some, List.setIfInBounds_toArray, List.set_cons_zero, List.set_cons_succ])) | (refine wpCan_assign rfl rfl (fun _ _ _ _ h => h) ?_; (simp only [Act.put, Act.eval, Array.getD_eq_getD_getElem?, List.getElem?_toArray, List.getElem?_cons_zero, List.getElem?_cons_succ, Option.getD_some, List.setIfInBounds_toArray, List.set_cons_zero, List.set_cons_succ])) | (refine wpCan_nilCheck rfl rfl rfl (fun _ _ _ _ h => h) ?_; (simp only [Act.put, List.setIfInBounds_toArray, List.set_cons_zero, List.set_cons_succ])) | (refine wpCan_q rfl rfl (fun _ _ _ _ h => h) (by first | exact .bin rfl rfl rfl | exact .indexAddr rfl | exact .un rfl | exact .extract rfl | exact .index rfl | exact .field rfl | exact .slice rfl | exact .fieldT rfl FTCipher1) (fun K hK => ?_); go_simp; (try (simp only [↓IntWalk.iteOmega]; go_simp)); (try go_bits); refine hK _ ?_; clear hK K))
      refine wpCan_load_as (off := 256 + (j + 1) * 16) (keyK k (j + 1)) rfl rfl rfl (fun _ _ _ _ h => h) RTBlock hlC gC (by omega) (fun i hi => cipK_at k (j + 1) i (by omega) hi) ?_
      (try simp only [Act.put, List.setIfInBounds_toArray, List.set_cons_zero, List.set_cons_succ])
      refine wpCan_e rfl (fun K hK => ?_)
      go_simp
      refine (round_any k (encJ k s j) (fun i _ => encJ_byte k s j i) _ C _ (by exact gC)).mono ?_
      rintro e w4 ⟨rfl, b4⟩
      refine hK _ _ (Keep.of_below b4 (Nat.le_refl _)) ?_
      clear hK K
      (try simp only [Act.put, List.setIfInBounds_toArray, List.set_cons_zero, List.set_cons_succ])
      refine wpCan_e rfl (fun K hK => ?_)
      go_simp
      refine (add_any _ _ _).mono ?_
      rintro e w5 ⟨rfl, b5⟩
      refine hK _ _ (Keep.of_below b5 b4.size) ?_
      clear hK K
      (try simp only [Act.put, List.setIfInBounds_toArray, List.set_cons_zero, List.set_cons_succ])
      refine wpCan_nil ?_
      have b6 := b4.trans (b5.mono b4.size)
      have q0 := keep_below (w := wr.drew) b6 hl0 g0
      have q1 := keep_below (w := wr.drew) b6 hl1 g1
      have qC := keep_below (w := wr.drew) b6 hlC gC
      have hBq := hB.drew.trans (b6.mono hB.size)
      clear b4 b5 b6 g0 g1 gC hB
      go_wp2_with (refine wpList_store_arr rfl rfl rfl rfl RTBlock q0 ?_)
      go_roundg (gk - 1)
      case measure => have := hj'.out; omega
      case rel =>
        have hj'' := hj'.out
        refine ⟨j + 1, by omega, by go_num, blk_congr (row_self q0) (fun i _ => ?_), row_keep q1 (by omega), row_keep qC (by omega), row_below hBq (Nat.le_refl _) _⟩
        rw [last_test]
        rfl
    · obtain rfl : j = 10 := by have := hj'.out; omega
      go_wp2_with (first | (refine wpList_load_arr rfl rfl rfl RTBlock g0 ?_) | (refine wpList_store_arr rfl rfl rfl rfl RTBlock g1 ?_))
      exact bodyPost_ret (results_arr rfl rfl RTBlock (row_self g1)) rfl ⟨rfl, row_below hB (Nat.le_add_right _ _) _⟩

end Go.Proofs.YtfolbgiekbimpaaDoor
namespace Go.Proofs.YtfolbgiekbimpaaDoor
set_option linter.unusedSimpArgs false
set_option linter.unusedVariables false
open Go.RowKit
attribute [local irreducible] sboxI beL beK encI
set_option maxRecDepth 100000 in
set_option maxHeartbeats 2000000 in
theorem Ctr_yes (k m : Nat → Int) (hk : ∀ i, i < 16 → 0 ≤ k i ∧ k i < 256) (hm : ∀ i, i < 12 → 0 ≤ m i ∧ m i < 256) (F : Nat) (h3 : F < 4294967296) (A : Option Addr) (n c : Nat) (l : List Nat) (w : World) (h : Txt w w.heap.size A n c l) (hl : ∀ x ∈ l, x < 256) (h1 : n ≤ 1048576) (h2 : F + (n + 15) / 16 ≤ 4294967296) :
    Calls Tryd.prog 36 #[.agg (arr .u8 16 k), .agg (arr .u8 12 m), .int .u32 F, .slice A n c] w (RetYes w (ctrL k m F l)) := by
  go_enter Tryd.func36, Tryd.ntmps36
  obtain ⟨g0, g1, hz, hb⟩ := alloc2 w (.cells (arr .u8 16 k) 68) (.cells (arr .u8 12 m) 70)
  have H0 := Lib.hid h
  have HL := Lib.hid hl
  have HM := Lib.hid hm
  clear h hl hm
  go_upto_region 6 with (fail)
  generalize ((w.alloc (.cells (arr .u8 16 k) 68)).alloc (.cells (arr .u8 12 m) 70)) = wa at *
  (try simp only [Act.put, List.setIfInBounds_toArray, List.set_cons_zero, List.set_cons_succ])
  refine wp_region_free 6 [Is (.agg (arr .u8 16 k)), NewAt wa.heap.size (.cells (arr .u8 432 (cipK k 10)) 128 (0, 0)), Is (.slice A n c), Is (.int .i64 n), NewRow wa.heap.size n 5, NewAt wa.heap.size (.cells (arr .u8 432 (cipK k 10)) 128 (0, 0))]
    [[], [0], [], [2], [3], [1]] (by kernel_rfl) (by kernel_rfl) rfl (st_cons (is_stays _) (st_cons (new_stays _ _) (st_cons (is_stays _) (st_cons (is_stays _) (st_cons (newRow_stays _ _ _) (st_cons (new_stays _ _) st_nil)))))) ?_ ?_
  · (simp only [List.take_succ_cons, List.take_zero, List.drop_succ_cons, List.drop_zero, List.zip_cons_cons, List.zip_nil_left, List.zip_nil_right, freeOps, allV, under, factAt, fillA, List.getElem?_cons_zero, List.getElem?_cons_succ, List.range_succ, List.range_zero, List.nil_append, List.cons_append, Act.put, List.setIfInBounds_toArray, List.set_cons_zero, List.set_cons_succ])
    refine ⟨?_, ?_, ?_, ?_, ?_, ?_, trivial⟩
    · intro x0 x1 x2 x3 x4 x5 w' hb'
      exact free_load_arr rfl rfl rfl RTBlock (keep_below hb' (lt_of_block (w := wa) g0) g0) rfl
    · intro x0 x1 x2 x3 x4 x5 w' hb' e0
      unfold Is at e0
      subst e0
      refine free_e rfl (fun K hK => ?_)
      go_simp
      refine (of_any k hk _).mono ?_
      rintro e w4 ⟨C, rfl, hC, h4, b4⟩
      exact hK _ _ b4 ⟨C, rfl, Nat.le_trans hb'.size hC, h4⟩
    · intro x0 x1 x2 x3 x4 x5 w' hb'
      exact free_move rfl rfl rfl
    · intro x0 x1 x2 x3 x4 x5 w' hb' e2
      unfold Is at e2
      subst e2
      refine free_e rfl (fun K hK => ?_)
      go_simp
      exact hK _ _ (Below.refl _ _) rfl
    · intro x0 x1 x2 x3 x4 x5 w' hb' e3
      unfold Is at e3
      subst e3
      exact free_make BT (by omega) rfl rfl rfl rfl ⟨_, rfl, hb'.size, heap_alloc_new _ _⟩
    · intro x0 x1 x2 x3 x4 x5 w' hb' e1
      exact free_assign rfl rfl e1
  · (simp only [List.take_succ_cons, List.take_zero, List.drop_succ_cons, List.drop_zero, List.zip_cons_cons, List.zip_nil_left, List.zip_nil_right, freeOps, allV, under, factAt, fillA, List.getElem?_cons_zero, List.getElem?_cons_succ, List.range_succ, List.range_zero, List.nil_append, List.cons_append, Act.put, List.setIfInBounds_toArray, List.set_cons_zero, List.set_cons_succ])
    intro x0 x1 x2 x3 x4 x5 w' hb' e0 e1 e2 e3 e4 e5
    unfold Is at e0 e2 e3
    subst e0 e2 e3
    obtain ⟨C', rfl, -, -⟩ := e1
    obtain ⟨C, rfl, hC, hC1⟩ := e5
    obtain ⟨R, rfl, hR, hR1⟩ := e4
    replace g1 := keep_below hb' (lt_of_block (w := wa) g1) g1
    have hB := (hb.drew).trans (hb'.mono hb.size)
    clear hb' hb
    have hI : w.heap.size + 1 < w'.heap.size := lt_of_block g1
    have hne : C ≠ R := fun e => by
      subst e
      rw [hC1] at hR1
      injection hR1 with hR1
      injection hR1 with _ hR1
      exact absurd hR1 (by decide)
    have hR' : w.heap.size ≤ R := Nat.le_trans (by omega) hR
    have hC' : w.heap.size ≤ C := Nat.le_trans (by omega) hC
    clear hC hR hz g0
    go_upto_region 8 with (refine wpList_alloc_arr rfl rfl ZTBlock ?_)
    (try simp only [Act.put, List.setIfInBounds_toArray, List.set_cons_zero, List.set_cons_succ])
    obtain ⟨hI0, hIs, hIb⟩ := alloc1 w' (.cells (arr .u8 16 fun _ => 0) 68)
    replace g1 := keep_below hIb hI g1
    have hCl := lt_of_block hC1
    have hRl := lt_of_block hR1
    replace hC1 := keep_below hIb hCl hC1
    replace hR1 := keep_below hIb hRl hR1
    replace hB := hB.trans (hIb.mono hB.size)
    generalize w'.alloc (.cells (arr .u8 16 fun _ => 0) 68) = wb at *
    generalize w'.heap.size = I at *
    refine wp_region_tail 2 (by kernel_rfl) (by kernel_rfl) ?_
    (simp only [List.take_succ_cons, List.take_zero, List.drop_succ_cons, List.drop_zero])
    repeat (refine wpStill_step (fun K hK => ?_); go_simp; (try (simp only [↓IntWalk.iteOmega]; go_simp)); (try go_bits); refine hK _ ?_; clear hK K)
    refine wpStill_nil ?_
    refine wpList_copy_arr rfl rfl rfl rfl Tryd.underlying32 (by kernel_rfl) hI0 g1 (m := 12) rfl (by omega) (by omega) ?_
    (try simp only [Act.put, List.setIfInBounds_toArray, List.set_cons_zero, List.set_cons_succ])
    obtain ⟨bl, hbl⟩ : ∃ bl : Nat, ((n : Int) + 16 - 1) / 16 = bl := ⟨(n + 15) / 16, by omega⟩
    simp only [hbl]
    have hb1 : F + bl ≤ 4294967296 := by omega
    have hb2 : n ≤ 16 * bl := by omega
    have hb3 : 16 * bl ≤ n + 15 := by omega
    clear h2 hbl
    have q0 := row_self (w := wb.drew) (c' := arr .u8 16 (patch (fun x => 0) 0 12 fun i => m (0 + i))) hI0
    have qC := row_keep (w := wb.drew) (c' := arr .u8 16 (patch (fun x => 0) 0 12 fun i => m (0 + i))) (g := I) hC1 (by omega)
    have qR := row_keep (w := wb.drew) (c' := arr .u8 16 (patch (fun x => 0) 0 12 fun i => m (0 + i))) (g := I) hR1 (by omega)
    have qB := row_below (w := wb.drew) (hB.drew) (g := I) (by omega) (arr .u8 16 (patch (fun x => 0) 0 12 fun i => m (0 + i)))
    generalize wb.drew.setRow I (arr .u8 16 (patch (fun x => 0) 0 12 fun i => m (0 + i))) = wc at *
    clear hI0 g1 hC1 hR1 hB hI hIb hIs
    have hCI : C ≠ I := by omega
    have hRI : R ≠ I := by omega
    have hI' : w.heap.size ≤ I := by omega
    clear hCl hRl
    go_wp2
    go_loopg [43] bl (fun r i wr => ∃ (j : Nat) (q : Nat → Int), j + r = bl ∧ i = .int .i64 j ∧ wr.heap[I]? = some (.cells (arr .u8 16 q) 68 (0, 0)) ∧ (∀ x, x < 12 → q x = m x) ∧ wr.heap[C]? = some (.cells (arr .u8 432 (cipK k 10)) 128 (0, 0)) ∧ wr.heap[R]? = some (.cells (arr .u8 n fun x => if x < 16 * j then ctrI k m F l x else 0) 5 (0, 0)) ∧ Below w.heap.size w wr)
    case atStart => exact ⟨0, _, by omega, rfl, q0, (fun x hx => by unfold patch; rw [if_pos ⟨Nat.zero_le _, by omega⟩]; show m (0 + (x - 0)) = m x; rw [Nat.zero_add, Nat.sub_zero]), qC, by simpa using qR, qB⟩
    case round =>
      clear q0 qC qR qB
      obtain ⟨go1, rfl⟩ : ∃ x, x = gk := ⟨_, rfl⟩
      obtain ⟨j, q, hj, rfl, g0, hq, gC, gR, hB⟩ := hrel
      have HJ := Lib.hid hj
      have HQ := Lib.hid hq
      clear hj hq
      by_cases hlt : j < bl
      · have hat : F + j < 4294967296 := by omega
        have c12 := cell_arr g0 12 (by omega)
        have c13 := cell_arr g0 13 (by omega)
        have c14 := cell_arr g0 14 (by omega)
        have c15 := cell_arr g0 15 (by omega)
        have fz := free_arr g0
        go_upto_region 14 with (fail)
        (try simp only [Act.put, List.setIfInBounds_toArray, List.set_cons_zero, List.set_cons_succ])
        clear c12 c13 c14 c15 fz
        have k0 := set_arr (set_arr (set_arr (set_arr g0 12 ((F + j) / 16777216)) 13 (((F : Int) + j) / 65536 % 256)) 14 (((F : Int) + j) / 256 % 256)) 15 (((F : Int) + j) % 256)
        have kC := keep_arr (keep_arr (keep_arr (keep_arr gC 12 (.int .u8 ((F + j) / 16777216)) hCI) 13 (.int .u8 (((F : Int) + j) / 65536 % 256)) hCI) 14 (.int .u8 (((F : Int) + j) / 256 % 256)) hCI) 15 (.int .u8 (((F : Int) + j) % 256)) hCI
        have kR := keep_arr (keep_arr (keep_arr (keep_arr gR 12 (.int .u8 ((F + j) / 16777216)) hRI) 13 (.int .u8 (((F : Int) + j) / 65536 % 256)) hRI) 14 (.int .u8 (((F : Int) + j) / 256 % 256)) hRI) 15 (.int .u8 (((F : Int) + j) % 256)) hRI
        have kB := (((hB.setCell (p := ⟨I, 12, none⟩) hI' (.int .u8 ((F + j) / 16777216))).setCell (p := ⟨I, 13, none⟩) hI' (.int .u8 (((F : Int) + j) / 65536 % 256))).setCell (p := ⟨I, 14, none⟩) hI' (.int .u8 (((F : Int) + j) / 256 % 256))).setCell (p := ⟨I, 15, none⟩) hI' (.int .u8 (((F : Int) + j) % 256))
        clear hB
        refine wp_cut (fun w1 => w1.heap[I]? = some (.cells (arr .u8 16 (inI m (F + j))) 68 (0, 0)) ∧ w1.heap[C]? = some (.cells (arr .u8 432 (cipK k 10)) 128 (0, 0)) ∧ w1.heap[R]? = some (.cells (arr .u8 n fun x => if x < 16 * j then ctrI k m F l x else 0) 5 (0, 0)) ∧ Below w.heap.size w w1)
          ⟨blk_congr k0 (fun i hi => ?_), kC, kR, kB⟩ ?_
        · exact inI_upd q m (F + j) _ (by omega) (by omega) HQ.out i hi
        clear k0 kC kR kB g0 gC gR
        rintro w1 ⟨g0, gC, gR, hB⟩
        have lI := lt_of_block g0
        have lC := lt_of_block gC
        have lR := lt_of_block gR
        go_wp2_with (first | (refine wpList_load_arr rfl rfl rfl RTBlock g0 ?_) | (go_at_call 56; fail))
        refine (encrypt_any k _ C (fun i _ => inI_byte m HM.out (F + j) i) _ gC).mono ?_
        rintro e w2 ⟨rfl, b2⟩
        replace g0 := keep_below b2 lI g0
        replace gC := keep_below b2 lC gC
        replace gR := keep_below b2 lR gR
        replace hB := hB.trans (b2.mono hB.size)
        clear b2
        go_upto_region 15 with (refine wpList_new_arr rfl rfl rfl rfl ZTBlock RTBlock rfl rfl ?_; intro w3 gS b3 hs3)
        replace g0 := keep_below b3 (lt_of_block g0) g0
        replace gC := keep_below b3 (lt_of_block gC) gC
        have hSR : w2.heap.size ≠ R := by have := lt_of_block gR; omega
        replace gR := keep_below b3 (lt_of_block gR) gR
        replace hB := hB.trans (b3.mono hB.size)
        clear b3 hs3 lI lC lR
        generalize w2.heap.size = S at *
        (try simp only [Act.put, List.setIfInBounds_toArray, List.set_cons_zero, List.set_cons_succ])
        have hjn : 16 * j < n := by omega
        go_wp2
        go_loopg [17] 16 (fun r x wr => ∃ y : Nat, y + r = 16 * j + 16 ∧ 16 * j ≤ y ∧ y ≤ n ∧ x = .int .i64 y ∧ wr.heap[I]? = some (.cells (arr .u8 16 (inI m (F + j))) 68 (0, 0)) ∧ wr.heap[C]? = some (.cells (arr .u8 432 (cipK k 10)) 128 (0, 0)) ∧ wr.heap[S]? = some (.cells (arr .u8 16 (encI k (inI m (F + j)))) 68 (0, 0)) ∧ wr.heap[R]? = some (.cells (arr .u8 n fun x => if x < y then ctrI k m F l x else 0) 5 (0, 0)) ∧ Below w.heap.size w wr)
        case atStart => exact ⟨16 * j, rfl, Nat.le_refl _, by omega, by go_num, g0, gC, gS, gR, hB⟩
        case round =>
          clear g0 gC gS gR hB
          obtain ⟨y, hy1, hy2, hy3, rfl, g0, gC, gS, gR, hB⟩ := hrel
          have HY := Lib.hid hy1
          clear hy1
          by_cases hin : y < 16 * j + 16 ∧ y < n
          · obtain ⟨hy4, hy5⟩ := hin
            obtain ⟨ad, rfl, hab, hac⟩ := (H0.out.below hB).cell hy5
            have hS := cell_arr gS (y % 16) (by omega)
            have cR := cell_arr gR y hy5
            have fz := free_arr gR y
            replace hac : wr.cell? (ad.add y) = some (.int .u8 ((l.getD y 0 : Nat) : Int)) := hac
            have hbd := HL.out _ (show l.getD y 0 ∈ l from by rw [List.getD_eq_getElem?_getD, List.getElem?_eq_getElem (by rw [H0.out.len]; exact hy5)]; exact List.getElem_mem _)
            go_wp2
            all_goals
              refine wp_region_tail 12 (by kernel_rfl) (by kernel_rfl) ?_
              (simp only [List.take_succ_cons, List.take_zero, List.drop_succ_cons, List.drop_zero])
              repeat (refine wpStill_step (fun K hK => ?_); go_simp; (try (simp only [↓IntWalk.iteOmega]; go_simp)); (try go_bits); refine hK _ ?_; clear hK K)
              refine wpStill_nil ?_
              go_wp2
              go_roundg (gk - 1)
              case measure => have := HY.out; omega
              case rel =>
                have hY := HY.out
                have hj' : y / 16 = j := by omega
                refine ⟨y + 1, by omega, by omega, by omega, by go_num, keep_arr g0 _ _ (Ne.symm hRI), keep_arr gC _ _ hne, keep_arr gS _ _ hSR, blk_congr (set_arr gR y _) (fun i _ => ?_), (hB.setCell (p := ⟨R, y, none⟩) hR' _).drew⟩
                refine fill_grow _ y _ i ?_
                unfold ctrI
                rw [hj', List.getD_eq_getElem?_getD]
          · go_wp2
            all_goals
              go_roundg (go1 - 1)
              case measure => have := HJ.out; omega
              case rel =>
                have := HJ.out
                have hY := HY.out
                have hyy : y = 16 * j + 16 ∨ y = n := by omega
                exact ⟨j + 1, _, by omega, by go_num, g0, (fun x hx => by unfold inI; rw [if_pos hx]), gC, blk_congr gR (fun i hi => by split <;> split <;> first | rfl | omega), hB⟩
      · obtain rfl : j = bl := by have := HJ.out; omega
        go_wp2
        go_ret2
        refine ⟨_, rfl, own_arr hR' gR (by omega) (by rw [ctrL_len]; exact H0.out.len) fun i hi => ?_, hB⟩
        rw [if_pos (by omega), ctrL_at _ _ _ _ _ (by rw [H0.out.len]; exact hi)]
end Go.Proofs.YtfolbgiekbimpaaDoor
namespace Go.Proofs.YtfolbgiekbimpaaDoor
set_option linter.unusedSimpArgs false
set_option linter.unusedVariables false
open Go.RowKit

/-- A type of rows of n integers of a kind. -/
def IntsT (P : Program) (t : TypeId) (k : IntKind) (n : Nat) : Prop := ∃ e, P.underlying t = some (.array n e) ∧ P.underlying e = some (.int k) ∧ (P.info? e).map (·.size) = some 1 ∧ P.eqGuardType P.depth t = false

section
variable {P : Program} {ops : Array Oper} {rest : List Oper} {o : Oper} {a : Act} {w : World} {Q : Exit → Act → World → Prop}
theorem run_part_arr {e : TypeId} {k : IntKind} {n : Nat} {f : Nat → Int} {i : Nat} (he : P.underlying e = some (.int k)) (hi : i < n) : (part e (arr k n f) i).run P w = .ok (.int k (f i)) w := by
  unfold part isAgg
  simp only [Sem.run_bind, run_underlying he, Result.andThen_ok, Sem.run_pure]
  simp only [Bool.false_eq_true, if_false, arr_get _ _ _ _ hi]
  rfl
def sameTo (f g : Nat → Int) : Nat → Nat → Bool
  | 0, _ => true
  | m + 1, s => decide (f s = g s) && sameTo f g m (s + 1)
theorem sameTo_iff (f g : Nat → Int) : ∀ m s, sameTo f g m s = true ↔ ∀ i, i < m → f (s + i) = g (s + i)
  | 0, s => by simp [sameTo]
  | m + 1, s => by
    simp only [sameTo, Bool.and_eq_true, decide_eq_true_eq, sameTo_iff f g m (s + 1)]
    constructor
    · rintro ⟨h0, h⟩ i hi
      cases i with
      | zero => simpa using h0
      | succ i => have := h i (by omega); rwa [show s + 1 + i = s + (i + 1) by omega] at this
    · intro h
      exact ⟨by simpa using h 0 (by omega), fun i hi => by have := h (i + 1) (by omega); rwa [show s + (i + 1) = s + 1 + i by omega] at this⟩
theorem run_equalIn_arr {d t e : TypeId} {k : IntKind} {n : Nat} {f g : Nat → Int} (ht : P.underlying t = some (.array n e)) (he : P.underlying e = some (.int k)) (hs : (P.info? e).map (·.size) = some 1) :
    (Op.equalIn (d + 2) t (.agg (arr k n f)) (.agg (arr k n g))).run P w = .ok (sameTo f g n 0) w := by
  have hsz : (sizeOf e).run P w = .ok 1 w := by
    cases hq : P.info? e with
    | none => simp [hq] at hs
    | some i =>
      have : i.size = 1 := by simpa [hq] using hs
      simp [sizeOf, typeInfo, hq, this]
  obtain ⟨D, hD⟩ : ∃ D, D = d + 1 := ⟨_, rfl⟩
  rw [show d + 2 = D + 1 from by rw [hD]]
  simp only [Op.equalIn, Sem.run_bind, run_underlying ht, Result.andThen_ok, hsz]
  rw [Std.Legacy.Range.forIn_eq_forIn_range']
  simp only [Std.Legacy.Range.size, Nat.sub_zero, Nat.add_sub_cancel, Nat.div_one]
  have key : ∀ m s, s + m ≤ n → ((forIn (List.range' s m) (none, ()) fun i (_ : Option Bool × Unit) => do
      let x ← part e (arr k n f) (i * 1)
      let y ← part e (arr k n g) (i * 1)
      let r ← Op.equalIn D e x y
      if (!r) = true then pure (ForInStep.done (some false, ())) else pure (ForInStep.yield (none, ())) : Sem (Option Bool × Unit))).run P w = .ok (if sameTo f g m s then none else some false, ()) w := by
    intro m
    induction m with
    | zero => intro s _; simp [sameTo]
    | succ m ih =>
      intro s hs
      rw [List.range'_succ, List.forIn_cons]
      simp only [Sem.run_bind, Nat.mul_one, run_part_arr he (show s < n by omega), Result.andThen_ok, hD, run_equalIn_int w d e k k _ _ he]
      by_cases hfg : f s = g s
      · simp [hfg, sameTo]
        have := ih (s + 1) (by omega)
        rw [hD] at this
        simpa using this
      · simp [hfg, sameTo]
  rw [key n 0 (by omega)]
  cases h : sameTo f g n 0 <;> simp
theorem run_op_eqArr {op : BinOp} {t u : TypeId} {x y : Operand} {k : IntKind} {n : Nat} {f g : Nat → Int} (ho : o.op = .binOp .eql t x y u) (hT : IntsT P t k n) (hx : a.eval x = .agg (arr k n f)) (hy : a.eval y = .agg (arr k n g)) :
    (execOp a.eval o).run P w = .ok (.value (.bool (sameTo f g n 0))) w := by
  obtain ⟨e, h1, h2, h3, h4⟩ := hT
  unfold execOp
  simp only [ho, hx, hy, Sem.run_bind, run_eqGuard_agg w _ t x y _ _ h4, Result.andThen_ok, run_eql_struct, run_equalIn_arr (d := 9998) h1 h2 h3, Sem.run_pure]
end
end Go.Proofs.YtfolbgiekbimpaaDoor
