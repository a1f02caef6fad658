/- SHA-256: the sum. SHA-256: the sum of parts. Sums with a key. Sums held against one another; bytes made of a key, turn by turn. Bytes made of a key. The walk of the reference's Bytes. The walks of a number's bytes: wire.Num at one number, and the reference's. wire.Num at one number, behind a text. What layer 4 computes, on bytes as integers: the boxes and how they are found; no program is in sight. What layer 4 computes, on bytes as integers: a key's keys; no program is in sight. The reference's product of bytes, on numbers; no program is in sight. What layer 4 computes: a block's rounds; no p -/
import Derived.Test.YtfolbgiekbimpaaGreatDoorKemUnboxesB
import Derived.KernelRfl
import Derived.Deep.OwnRows
set_option linter.unusedSimpArgs false
set_option linter.unusedVariables false
set_option maxRecDepth 200000
set_option maxHeartbeats 6000000
namespace Go.Proofs.YtfolbgiekbimpaaGreatDoor
section
open Go.RowKit
def iv0 : Nat → Nat
 | 0 => 1779033703
 | 1 => 3144134277
 | 2 => 1013904242
 | 3 => 2773480762
 | 4 => 1359893119
 | 5 => 2600822924
 | 6 => 528734635
 | _ => 1541459225
def zn7 (n : Nat) : List Nat := 128 :: List.replicate (63 - (n + 8) % 64) 0
def zqM (m j : Nat) : List Nat := (List.range j).map fun q => m / 2 ^ (8 * (7 - q)) % 256
def zcs (n : Nat) : List Nat := zn7 n ++ zqM (n * 2 ^ 3 % 18446744073709551616) 8
def zi4 (x : Nat) : List Nat := [ziT x 24 % 256, ziT x 16 % 256, ziT x 8 % 256, x % 256]
def zdC (h : Nat → Nat) (n : Nat) : List Nat := (List.range n).flatMap fun i => zi4 (h i)
def zA6 (gt h : Nat → Nat) (n : Nat) (rest : List Nat) : List Nat := zdC (zhr gt h (rest ++ zcs n)).1 8
def zr4 (gt : Nat → Nat) (s : (Nat → Nat) × Nat × List Nat) (b : List Nat) : (Nat → Nat) × Nat × List Nat := ((zhr gt s.1 (s.2.2 ++ b)).1, s.2.1 + b.length, (zhr gt s.1 (s.2.2 ++ b)).2)
def zg1 (gt : Nat → Nat) (ps : List (List Nat)) : (Nat → Nat) × Nat × List Nat := ps.foldl (zr4 gt) (iv0, 0, [])
def zhs (gt : Nat → Nat) (ps : List (List Nat)) : List Nat := zA6 gt (zg1 gt ps).1 (zg1 gt ps).2.1 (zg1 gt ps).2.2
theorem zgB (h : Nat → Nat) (n : Nat) : zdC h (n + 1) = zdC h n ++ zi4 (h n) := by
 unfold zdC
 rw [List.range_succ, List.flatMap_append]
 simp
theorem zf9 (h : Nat → Nat) : ∀ n, (zdC h n).length = 4 * n
 | 0 => rfl
 | n + 1 => by rw [zgB, jQ, zf9 h n]; simp [zi4]; omega
theorem zki (x : Nat) : ∀ z ∈ zi4 x, z < 256 := fun z hz => by
 simp only [zi4, List.mem_cons, List.not_mem_nil, or_false] at hz
 omega
theorem zon (h : Nat → Nat) (n : Nat) : ∀ z ∈ zdC h n, z < 256 := fun z hz => by
 obtain ⟨i, _, hi⟩ := List.mem_flatMap.1 hz
 exact zki _ z hi
theorem zdp (gt : Nat → Nat) (ps : List (List Nat)) : (zhs gt ps).length = 32 := zf9 _ 8
theorem zi5 (gt : Nat → Nat) (ps : List (List Nat)) : ∀ z ∈ zhs gt ps, z < 256 := zon _ 8
theorem zeF (n : Nat) : (zn7 n).length = 64 - (n + 8) % 64 := by
 have : (n + 8) % 64 < 64 := Nat.mod_lt _ (by decide)
 simp only [zn7, List.length_cons, List.length_replicate]
 omega
theorem zqN (n : Nat) (f : Nat → Value) (hf : ∀ j, f j = bv (if j = 0 then 128 else 0)) : (List.range (64 - (n + 8) % 64)).map f = (zn7 n).map bv := by
 have : (n + 8) % 64 < 64 := Nat.mod_lt _ (by decide)
 apply List.ext_getElem?
 intro j
 by_cases hj : j < 64 - (n + 8) % 64
 ·simp only [List.getElem?_map, List.getElem?_range hj, Option.map_some, hf]
  cases j with
  | zero => rfl
  | succ j => simp only [zn7, jE, List.getElem?_replicate, if_pos (show j < 63 - (n + 8) % 64 by omega)]; rfl
 ·rw [List.getElem?_eq_none (by simp; omega), List.getElem?_eq_none (by rw [List.length_map, zeF]; omega)]
theorem zmZ (n : Nat) : ∀ z ∈ zn7 n, z < 256 := fun z hz => by
 rcases List.mem_cons.1 hz with rfl | h
 ·decide
 ·rw [(List.mem_replicate.1 h).2]; decide
theorem zr5 (m j : Nat) : zqM m (j + 1) = zqM m j ++ [m / 2 ^ (8 * (7 - j)) % 256] := by
 unfold zqM; rw [List.range_succ, List.map_append]; rfl
theorem zg2 (m j : Nat) : (zqM m j).length = j := by simp [zqM]
theorem zm0 (m j : Nat) : ∀ z ∈ zqM m j, z < 256 := fun z hz => by
 obtain ⟨q, _, rfl⟩ := List.mem_map.1 hz
 exact Nat.mod_lt _ (by decide)
theorem zoo {gt : Nat → Nat} {ps : List (List Nat)} {i : Nat} {b : List Nat} (hi : ps[i]? = some b) : zg1 gt (ps.take (i + 1)) = zr4 gt (zg1 gt (ps.take i)) b := by
 unfold zg1
 rw [List.take_add_one, hi, List.foldl_append]
 rfl
theorem zm1 (gt : Nat → Nat) : ∀ (n : Nat) (h : Nat → Nat) (l : List Nat), l.length ≤ n → (∀ x ∈ l, x < 256) → ∀ x ∈ (zhr gt h l).2, x < 256
 | 0, h, l, hl, hb => by rw [zd8 (by omega)]; exact hb
 | n + 1, h, l, hl, hb => by
  by_cases h1 : 64 ≤ l.length
  ·rw [zeZ h1]; exact zm1 gt n _ _ (by rw [List.length_drop]; omega) fun x hx => hb x (List.mem_of_mem_drop hx)
  ·rw [zd8 h1]; exact hb
attribute [local irreducible] zdg zdM zfE orW zjU ziT zfA zeD zic zcY
section
variable {P : Program} {o : Oper} {ws : World} {l : List (Nat × Value)} {S : Nat → Prop} {t u : TypeId} {x y : Operand} {m n : Nat}
theorem zxR {k' : IntKind} {j : Int} {k : Nat} (ho : o.op = .binOp .shl t x y u) (hx : ev l x = some (.int .u64 ((m : Nat) : Int))) (hy : ev l y = some (.int k' j)) (hj : j = (k : Int)) (hk : k ≤ 64) : PK P S ws l o (.int .u64 ((m * 2 ^ k % 18446744073709551616 : Nat) : Int)) := by
 have h := zwK (S := S) (ws := ws) (P := P) ho hx hy (by omega)
 have e : IntKind.u64.wrap ((m : Int) * 2 ^ (min j.toNat IntKind.u64.bits)) = ((m * 2 ^ k % 18446744073709551616 : Nat) : Int) := by
  rw [← zxo, hj, Int.toNat_natCast]
  have : IntKind.u64.bits = 64 := rfl
  rw [this, Nat.min_eq_left hk]
  norm_cast
 rw [e] at h
 exact h
end
theorem zqO  {X : List Nat} {w0 : World} (hX : ∀ k ∈ X, k < w0.heap.size) :
  Calls Tryz.prog 108 #[] w0 fun e w' => e = .returned (.agg (ca [.row 8 (fun i => u32 (iv0 i)), .one (.int .u64 0), .one (.slice none 0 0)])) ∧ Sep X [] w0 w' [] [] := by
 refine zaz Tryz.ntmps108 Tryz.func108 rfl rfl fun a E => ?_; replace E : Env a _ [] := E
 have H : Sep X [] w0 w0 [] [] := Sep.start hX (fun _ h => by cases h)
 refine Vr ?_; refine Wa (z := [.row 8 fun _ => .int .u32 0, .one (.int .u64 0), .one (.slice none 0 0)]) E H fun b0 w a H E => ?_; refine Vn ?_; refine Vr ?_
 refine Vv E (zg0 (n := 8) (z := [.one (.int .u32 0), .one (.int .u32 0), .one (.int .u32 0), .one (.int .u32 0), .one (.int .u32 0), .one (.int .u32 0), .one (.int .u32 0), .one (.int .u32 0)]) (f := fun i => u32 (iv0 i)) rfl (by kernel_rfl) (by kernel_rfl) (⟨_, [.one _], 0, _, rfl, rfl, rfl, rfl, ⟨_, [.one _], 1, _, rfl, rfl, rfl, rfl, ⟨_, [.one _], 2, _, rfl, rfl, rfl, rfl, ⟨_, [.one _], 3, _, rfl, rfl, rfl, rfl, ⟨_, [.one _], 4, _, rfl, rfl, rfl, rfl, ⟨_, [.one _], 5, _, rfl, rfl, rfl, rfl, ⟨_, [.one _], 6, _, rfl, rfl, rfl, rfl, ⟨_, [.one _], 7, _, rfl, rfl, rfl, rfl, rfl⟩⟩⟩⟩⟩⟩⟩⟩) rfl) fun a E => ?_; refine Vv E (zuL (z := [.row 8 fun _ => .int .u32 0, .one (.int .u64 0), .one (.slice none 0 0)]) rfl (by kernel_rfl) (by kernel_rfl) ⟨_, _, 0, _, rfl, rfl, (by kernel_rfl), rfl, rfl⟩) fun a E => ?_
 refine Ws 0 E H fun w H => ?_; replace H : Sep _ _ _ _ [_] _ := H; refine Vn ?_; refine wp_ret ?_
 repeat (first | refine zat ?_ | refine zap ?_)
 refine zf8 rfl E (by exact zhT (n := 10) H 0 rfl rfl rfl (by kernel_rfl)) ?_
 exact ⟨rfl, H.popL⟩
theorem zqP {n rc : Nat} {h gt : Nat → Nat} {RA : Option Addr} {rest : List Nat} (hn : n ≤ 1000000000000000000) (hrl : rest.length ≤ 64) {X : List Nat} {w0 : World} (hX : ∀ k ∈ X, k < w0.heap.size) (hR : St (TxF RA rc rest) w0 X) (hG : St (AtC ⟨2, 0, none⟩ [.row 64 fun i => u32 (gt i)]) w0 X) :
  Calls Tryz.prog 110 #[.agg (ca [.row 8 (fun i => u32 (h i)), .one (.int .u64 ((n : Nat) : Int)), .one (.slice RA rest.length rc)])] w0 fun e w' => e = .returned (.agg (ca [.key (zA6 gt h n rest)])) ∧ Sep X [] w0 w' [] [] := by
 have hRb := hR.now.byt
 refine zaz Tryz.ntmps110 Tryz.func110 rfl rfl fun a E => ?_; replace E : Env a _ [(0, _)] := E
 have H : Sep X [] w0 w0 [] [(TxF RA rc rest), (AtC ⟨2, 0, none⟩ [.row 64 fun i => u32 (gt i)])] := Sep.start hX (jJ.2 ⟨hR, jJ.2 ⟨hG, fun _ h => by cases h⟩⟩)
 refine Vr ?_; refine Wb E H fun b1 w a H E => ?_; refine Wa (z := [.key []]) E H fun b2 w a H E => ?_; refine Vn ?_; refine Vr ?_; refine Vv E (zaM (off := 8) rfl rfl (by kernel_rfl)) fun a E => ?_; refine Vv E (pko H 1) fun a E => ?_; refine Vv E (zxR (k := 3) rfl rfl rfl rfl (by decide)) fun a E => ?_; refine Vv E pka fun a E => ?_
 refine Vn ?_; refine Vr ?_; refine Vv E (zaM (off := 8) rfl rfl (by kernel_rfl)) fun a E => ?_; refine Vv E (pko H 1) fun a E => ?_; refine Vv E (zaK rfl rfl rfl rfl (zrS (by omega) (by omega))) fun a E => ?_; refine Vv E (zwJ rfl rfl rfl (by decide)) fun a E => ?_
 rw [show (((n : Nat) : Int) + 8).tmod 64 = (((n + 8) % 64 : Nat) : Int) from (Int.ofNat_tmod (n + 8) 64).symm] at E
 have hmod : (n + 8) % 64 < 64 := Nat.mod_lt _ (by decide)
 refine Vv E (zd7 rfl rfl (by kernel_rfl) (by kernel_rfl) (zdf (by omega) (by omega))) fun a E => ?_; refine Vv E (zaK rfl rfl rfl rfl (zdf (by omega) (by omega))) fun a E => ?_
 rw [show (64 : Int) - (((n + 8) % 64 : Nat) : Int) = ((64 - (n + 8) % 64 : Nat) : Int) from by omega] at E
 refine Ve E ?_; refine zir (n := 64 - (n + 8) % 64) (c := 128) E H rfl ⟨Tryz.underlying24, Tryz.underlying5, by kernel_rfl⟩ rfl rfl rfl rfl (by omega) (by omega) ?_; clear H; intro b17 w H F; refine Vp E fun a E => ?_; clear F; refine Vv E pka fun a E => ?_; refine Vn ?_; refine Vr ?_; refine Vv E pkm fun a E => ?_; refine Vv E (zb7 (sz := 1) (i := 0) rfl rfl (by kernel_rfl) rfl rfl rfl (by omega)) fun a E => ?_; refine Ve E ?_
 refine zbe (off := 0) (i := 0) (fun j => bv (if j = 0 then 128 else 0)) 0 E H rfl rfl rfl (show 0 < 128 by decide) rfl rfl rfl rfl rfl rfl (by kernel_rfl) (fun j => by unfold upd; split <;> rfl) rfl ?_; clear H; intro w H F; replace H : Sep _ _ _ _ [_, _, _] _ := H; refine zdn rfl ?_; clear F
 replace H := H.rowOf (n := 64 - (n + 8) % 64) (by omega) (by omega)
 rw [zqN n _ (fun j => rfl), ← zeF n] at H
 rw [← zeF n] at E
 refine Vn ?_; refine wp_seq_k fun K4 hK4 => ?_; refine Vr ?_; refine Vv E pka fun a E => ?_; refine Vn ?_; refine wp_block ?_
 refine zbC (γ := Nat × Option Addr × Nat) [1, 2, 3] (fun g => [(4, .slice g.2.1 (zn7 n ++ zqM (n * 2 ^ 3 % 18446744073709551616) g.1).length g.2.2), (5, .int .i64 (7 - (g.1 : Int)))]) (fun g => [.row (.slice g.2.1 (zn7 n ++ zqM (n * 2 ^ 3 % 18446744073709551616) g.1).length g.2.2) 5 1 (zn7 n ++ zqM (n * 2 ^ 3 % 18446744073709551616) g.1).length ((zn7 n ++ zqM (n * 2 ^ 3 % 18446744073709551616) g.1).map bv), .blk b2 (ca [.key ([])]) 23, .blk b1 (ca [.row 8 (fun i => u32 (h i)), .one (.int .u64 ((n : Nat) : Int)), .one (.slice RA rest.length rc)]) 148 ]) (fun g => [TxF RA rc rest, AtC ⟨2, 0, none⟩ [.row 64 fun i => u32 (gt i)]]) (fun g => g.1 ≤ 8) (fun g => 8 - g.1) ((0, some ⟨b17, 0, none⟩, 128)) E (by show Sep _ _ _ _ [.row (.slice (some ⟨b17, 0, none⟩) (zn7 n ++ []).length 128) _ 1 (zn7 n ++ []).length ((zn7 n ++ []).map bv), _, _] _; rw [List.append_nil]; exact H) (by show Sub _ ([(4, Value.slice (some ⟨b17, 0, none⟩) (zn7 n ++ []).length 128), (5, Value.int .i64 (7 - ((0 : Nat) : Int)))]); rw [List.append_nil]; repeat (first | exact trivial | refine ⟨rfl, ?_⟩)) (by show 0 ≤ 8; omega) ?_
 clear E H; intro g a w E H hφ; replace E : Env a _ [(4, _), (5, _), (1, _), (2, _), (3, _)] := E; replace H : Sep _ _ _ _ [_, _, _] [_, _] := H
 obtain ⟨j, Ag, cg⟩ := g
 simp only at E H hφ ⊢
 refine wp_seq_k fun K6 hK6 => ?_; refine Vr ?_; refine Vv E pkm fun a E => ?_; refine Vv E pki fun a E => ?_; refine Vn ?_; refine zau (d := 21) E rfl ?_ ?_
 ·skip
  clear E; intro c21 E
  have hj : j < 8 := by have := c21; simp only [jS] at this; omega
  refine za7 E rfl ?_; refine wp_skip ?_; refine hK6 _ _ ?_; refine wp_seq_k fun K8 hK8 => ?_; refine wp_block ?_; refine zaB ?_; refine Vv E pkm fun a E => ?_; refine Vv E pkm fun a E => ?_; refine Vv E pkm fun a E => ?_; refine Vv E (zaK rfl rfl rfl rfl (zdf (by omega) (by omega))) fun a E => ?_; refine Vv E (zxp (k := 8 * (7 - j)) rfl rfl rfl (by omega) (by omega)) fun a E => ?_; refine Vv E (ziW rfl rfl (by kernel_rfl) (by kernel_rfl)) fun a E => ?_; refine Ve E ?_; refine zaP (sz := 1) (z := [.one (.int .u8 0)]) E H rfl Tryz.underlying24 (by kernel_rfl) (by decide) (by kernel_rfl) ⟨_, [.one _], 0, _, rfl, rfl, rfl, rfl, rfl⟩ ?_
  clear H; intro b30 w H _; refine Vp E fun a E => ?_; refine Ve E ?_; refine zk3 (k := zn7 n ++ zqM (n * 2 ^ 3 % 18446744073709551616) j) 1 0 E H rfl rfl rfl rfl rfl ⟨Tryz.underlying24, by kernel_rfl⟩ (by rw [jQ, zg2, zeF]; omega) ?_; clear H; intro A31 c31 w H F; replace H : Sep _ _ _ _ [_, _, _, _] _ := H; refine Vp E fun a E => ?_; clear F
  rw [List.append_assoc, ← zr5] at E H
  refine Vv E pka fun a E => ?_; refine hK8 _ _ ?_; refine zaB ?_; refine Vv E pkm fun a E => ?_; refine Vv E (zaK rfl rfl rfl rfl (zdf (by omega) (by omega))) fun a E => ?_; refine Vv E pka fun a E => ?_
  rw [show (7 - (j : Int)) - 1 = 7 - ((j + 1 : Nat) : Int) from by omega] at E
  refine za9 ?_
  exact ⟨(j + 1, A31, c31), ⟨E.to (by repeat (first | exact trivial | refine ⟨rfl, ?_⟩)), H.popL, by show j + 1 ≤ 8; omega⟩, by show 8 - (j + 1) < 8 - j; omega⟩
 ·skip
  clear E; intro c21 E
  obtain rfl : j = 8 := by have := c21; simp only [decide_eq_false_iff_not] at this; omega
  refine zaN E rfl ?_; refine wp_exit ?_
  repeat (first | refine za4 ?_ | refine za5 ?_ | refine zaW (by decide) ?_)
  refine hK4 _ _ ?_; refine Vr ?_; refine Vv E (zaM (off := 9) rfl rfl (by kernel_rfl)) fun a E => ?_; refine Vv E (pko H 2) fun a E => ?_; refine Ve E ?_; refine Vc E ?_; refine (zmY H.xk (H.fact 0 rfl)).mono ?_; rintro e w ⟨A34, c34, rfl, H1⟩
  replace H := H.call H1
  clear H1; replace H : Sep _ _ _ _ [_, _, _, _] [_, _] := H; refine Vp E fun a E => ?_; refine Vv E (zaM (off := 9) rfl rfl (by kernel_rfl)) fun a E => ?_; refine Ws 3 (new := [.one _]) E H fun w H => ?_; replace H : Sep _ _ _ _ [_, _, _, _] _ := H; refine Vn ?_; refine wp_seq_k fun K10 hK10 => ?_
  replace H := (H.at_ 1 _ rfl).rowTx (Sep.new_x (H.at_ 1 _ rfl)) (by rw [jQ, zg2, zeF]; omega) (fun z hz => by rcases List.mem_append.1 hz with h1 | h1; exact zmZ _ z h1; exact zm0 _ _ z h1)
  replace H : Sep _ _ _ _ [_, _, _] [_, _, _] := H.at_ 2 _ rfl
  obtain ⟨A4, hA4⟩ : ∃ z, z = Ag := ⟨_, rfl⟩
  obtain ⟨c4, hc4⟩ : ∃ z, z = cg := ⟨_, rfl⟩
  rw [← hA4, ← hc4] at E H
  change Sep _ _ _ _ _ [TxF _ _ (zcs n), _, _] at H
  refine zaB ?_; refine Vv E pkm fun a E => ?_; refine Ve E ?_; refine Vc E ?_
  have htl : (zcs n).length ≤ 72 := by unfold zcs; rw [jQ, zg2, zeF]; omega
  obtain ⟨⟨h2, r2⟩, hFF⟩ : ∃ z, zhr gt h (rest ++ zcs n) = z := ⟨_, rfl⟩
  have HG := (Sep.giveA (L1 := [_, _]) (L := [_]) H).refacts (R' := [_, _]) (jJ.2 ⟨(Sep.giveA (L1 := [_, _]) (L := [_]) H).fact 0 rfl, jJ.2 ⟨(Sep.giveA (L1 := [_, _]) (L := [_]) H).fact 2 rfl, jK _⟩⟩)
  have HD := Sep.giveD (L1 := [_, _]) (L := [_]) H
  refine (zpq (sb := b1) (n := n) (rest := rest) (bs := zcs n) hFF (by have := htl; omega) (by omega) (by omega) hRb HG.xlt HG HD).mono ?_; rintro e w ⟨rfl, RA2, rc2, H1⟩
  replace H := Sep.callA (L1 := [_, _]) (L := [_]) H H1
  clear H1; replace H : Sep _ _ _ _ [_, _, _] [_, _, _] := H; refine Vp E fun a E => ?_; clear HG HD; refine hK10 _ _ ?_; refine wp_seq_k fun K11 hK11 => ?_; refine Vr ?_; refine Vv E (zaM (off := 0) rfl rfl (by kernel_rfl)) fun a E => ?_; refine Vv E (pkl 8 H 0) fun a E => ?_; refine Vv E pkm fun a E => ?_; refine Vn ?_; refine wp_block ?_
  refine zbC (γ := Nat) [2, 39] (fun i => [(40, .int .i64 (i : Int))]) (fun i => [.blk b1 (ca [.row 8 (fun i => u32 (h2 i)), .one (.int .u64 ((n + (zcs n).length : Nat) : Int)), .one (.slice RA2 r2.length rc2)]) 148, .row (.slice RA2 r2.length rc2) 5 1 r2.length (r2.map bv), .blk b2 (ca [.key (zdC h2 i)]) 23 ]) (fun i => [TxF A4 c4 (zcs n), TxF RA rc rest, AtC ⟨2, 0, none⟩ [.row 64 fun i => u32 (gt i)]]) (fun i => i ≤ 8) (fun i => 8 - i) (0) E H (by repeat (first | exact trivial | refine ⟨rfl, ?_⟩)) (by omega) ?_; clear E H; intro i a w E H hφ; replace E : Env a _ [(40, _), (2, _), (39, _)] := E; replace H : Sep _ _ _ _ [_, _, _] [_, _, _] := H; refine Vr ?_; refine Vv E pki fun a E => ?_; refine Vn ?_; refine wp_seq_k fun K14 hK14 => ?_
  refine zau (d := 41) E rfl ?_ ?_
  ·skip
   clear E; intro c41 E
   have hn8 : i < 8 := by have := c41; simp only [jS] at this; omega
   refine za7 E rfl ?_; refine wp_skip ?_; refine hK14 _ _ ?_; refine wp_seq_k fun K15 hK15 => ?_; refine wp_block ?_; refine Vr ?_; refine Vv E pkm fun a E => ?_; refine Vv E (ziq (i := i) rfl (by kernel_rfl) rfl rfl rfl hn8) fun a E => ?_; refine Vv E pka fun a E => ?_; refine Vv E pka fun a E => ?_; refine Vn ?_; refine zaB ?_; refine Vv E pkm fun a E => ?_; refine Vv E (zaK rfl rfl rfl rfl (zdf (by omega) (by omega))) fun a E => ?_; refine Vv E (zuQ (N := 32) (sz := 1) (lo := 4 * i) rfl (by kernel_rfl) rfl rfl (by omega) (by omega)) fun a E => ?_
   refine Vv E pkm fun a E => ?_; refine Vv E (zfL (k := 24) rfl rfl rfl rfl) fun a E => ?_; refine Vv E (ziW rfl rfl (by kernel_rfl) (by kernel_rfl)) fun a E => ?_; refine Vv E pkm fun a E => ?_; refine Vv E (zfL (k := 16) rfl rfl rfl rfl) fun a E => ?_; refine Vv E (ziW rfl rfl (by kernel_rfl) (by kernel_rfl)) fun a E => ?_; refine Vv E pkm fun a E => ?_; refine Vv E (zfL (k := 8) rfl rfl rfl rfl) fun a E => ?_; refine Vv E (ziW rfl rfl (by kernel_rfl) (by kernel_rfl)) fun a E => ?_; refine Vv E pkm fun a E => ?_
   refine Vv E (ziW rfl rfl (by kernel_rfl) (by kernel_rfl)) fun a E => ?_; refine Ve E ?_; refine zaP (sz := 1) (z := [.one (.int .u8 0), .one (.int .u8 0), .one (.int .u8 0), .one (.int .u8 0)]) E H rfl Tryz.underlying24 (by kernel_rfl) (by decide) (by kernel_rfl) ⟨_, [.one _], 0, _, rfl, rfl, rfl, rfl, ⟨_, [.one _], 1, _, rfl, rfl, rfl, rfl, ⟨_, [.one _], 2, _, rfl, rfl, rfl, rfl, ⟨_, [.one _], 3, _, rfl, rfl, rfl, rfl, rfl⟩⟩⟩⟩ ?_; clear H; intro b58 w H _; refine Vp E fun a E => ?_
   have hsrc : St (TxF (some ⟨b58, 0, none⟩) 4 (zi4 (h2 i))) w (X ++ zbz _) := zbP (k := zi4 (h2 i)) ((H.lend 0 rfl).fact 0 rfl) rfl (show 4 ≤ 4 by decide) (show 4 ≤ 140737488355328 by decide) (zki _)
   have hwl : (zdC h2 i).length = 4 * i := zf9 _ _
   refine Ve E ?_; refine zom (k := zdC h2 i) (m := zi4 (h2 i)) 3 E H hsrc rfl rfl (by rw [zcu, Nat.zero_add, Nat.mul_one, hwl]) rfl (by kernel_rfl) rfl (by simp only [zi4, List.length_cons, List.length_nil]; omega) (by simp only [zi4, List.length_cons, List.length_nil]; omega) rfl ?_; clear H; intro w H F; replace H : Sep _ _ _ _ [_, _, _, _] _ := H; refine Vp E fun a E => ?_; clear F hsrc
   rw [← zgB] at H
   refine hK15 _ _ ?_; refine zaB ?_; refine Vv E (zaK rfl rfl rfl rfl (zdf (by omega) (by omega))) fun a E => ?_; refine Vv E pkm fun a E => ?_; refine za9 ?_
   exact ⟨i + 1, ⟨E.to (by repeat (first | exact trivial | refine ⟨rfl, ?_⟩)), H.popL, by omega⟩, by omega⟩
  ·skip
   clear E; intro c41 E
   obtain rfl : i = 8 := by have := c41; simp only [decide_eq_false_iff_not] at this; omega
   refine zaN E rfl ?_; refine wp_exit ?_
   repeat (first | refine za4 ?_ | refine za5 ?_ | refine zaW (by decide) ?_)
   refine hK11 _ _ ?_; refine Vr ?_; refine Vv E (pkl 32 H 2) fun a E => ?_; refine Ws 2 E H fun w H => ?_; replace H : Sep _ _ _ _ [_, _, _] _ := H; refine Vn ?_; refine wp_ret ?_
   repeat (first | refine zat ?_ | refine zap ?_)
   refine zf8 rfl E (by exact zhT (n := 32) H 2 rfl rfl rfl (by kernel_rfl)) ?_; refine ⟨?_, (H.refacts (jK _)).popL.popL.popL⟩
   rw [zA6, hFF]
end
section
open Go.RowKit
attribute [local irreducible] zdg zdM zfE orW zjU ziT zfA zeD zic zcY
theorem zr6 {PA : Option Addr} {pc : Nat} {ps : List (List Nat)} {pm : Nat → zav.μ} {gt : Nat → Nat} (hp : ∀ p ∈ ps, p.length ≤ 100000000) (hP : ps.length ≤ 1000000) {X : List Nat} {w0 : World} (hX : ∀ k ∈ X, k < w0.heap.size) (hL : St (LiF zav PA pc ps pm) w0 X) (hG : St (AtC ⟨2, 0, none⟩ [.row 64 fun i => u32 (gt i)]) w0 X) :
  Calls Tryz.prog 81 #[.slice PA ps.length pc] w0 fun e w' => e = .returned (.agg (ca [.key (zhs gt ps)])) ∧ Sep X [] w0 w' [] [] := by
 refine zaz Tryz.ntmps81 Tryz.func81 rfl rfl fun a E => ?_; replace E : Env a _ [(0, _)] := E
 have H : Sep X [] w0 w0 [] [(LiF zav PA pc ps pm), (AtC ⟨2, 0, none⟩ [.row 64 fun i => u32 (gt i)])] := Sep.start hX (jJ.2 ⟨hL, jJ.2 ⟨hG, fun _ h => by cases h⟩⟩)
 refine Vr ?_; refine Wa (z := [.key []]) E H fun b2 w a H E => ?_; refine Vn ?_; refine Vr ?_; refine Ve E ?_; refine Vc E ?_; refine (zqO H.xk).mono ?_; rintro e w ⟨rfl, H1⟩
 replace H := H.call H1
 clear H1; replace H : Sep _ _ _ _ [_] [_, _] := H; refine Vp E fun a E => ?_; refine Wa (z := [.row 8 fun _ => .int .u32 0, .one (.int .u64 0), .one (.slice none 0 0)]) E H fun b3 w a H E => ?_; refine Ws 0 E H fun w H => ?_; replace H : Sep _ _ _ _ [_, _] _ := H; refine Vn ?_; refine wp_seq_k fun K2 hK2 => ?_; refine Vr ?_; refine Vv E pkm fun a E => ?_
 refine Vv E pkn fun a E => ?_; refine Vv E pkm fun a E => ?_; refine Vn ?_; refine wp_block ?_
 refine zbC (γ := Nat × (Nat → Nat) × Nat × List Nat × Option Addr × Nat) [2, 3, 7, 8] (fun g => [(9, .int .i64 (g.1 : Int))]) (fun g => [.blk b3 (ca [.row 8 (fun i => u32 (g.2.1 i)), .one (.int .u64 ((g.2.2.1 : Nat) : Int)), .one (.slice g.2.2.2.2.1 g.2.2.2.1.length g.2.2.2.2.2)]) 148, .row (.slice g.2.2.2.2.1 g.2.2.2.1.length g.2.2.2.2.2) 5 1 g.2.2.2.1.length (g.2.2.2.1.map bv), .blk b2 (ca [.key ([])]) 23 ]) (fun g => [LiF zav PA pc ps pm, AtC ⟨2, 0, none⟩ [.row 64 fun i => u32 (gt i)]]) (fun g => g.1 ≤ ps.length ∧ zg1 gt (ps.take g.1) = (g.2.1, g.2.2.1, g.2.2.2.1) ∧ g.2.2.1 ≤ g.1 * 100000000 ∧ g.2.2.2.1.length < 64 ∧ ∀ x ∈ g.2.2.2.1, x < 256) (fun g => ps.length - g.1) ((0, iv0, 0, [], none, 0)) E ((H.rownil _ _).perm (List.Perm.swap _ _ _)) (by repeat (first | exact trivial | refine ⟨rfl, ?_⟩)) (⟨Nat.zero_le _, rfl, Nat.zero_le _, by show 0 < 64; decide, fun x hx => by cases hx⟩) ?_
 clear E H; intro g a w E H hφ; replace E : Env a _ [(9, _), (2, _), (3, _), (7, _), (8, _)] := E; replace H : Sep _ _ _ _ [_, _, _] [_, _] := H
 obtain ⟨i, hh, nn, rr, RA1, rc1⟩ := g
 simp only at E H hφ ⊢
 obtain ⟨hi, hsh, hnn, hrl, hrb⟩ := hφ
 refine Vr ?_; refine Vv E pki fun a E => ?_; refine Vn ?_; refine wp_seq_k fun K5 hK5 => ?_; refine zau (d := 10) E rfl ?_ ?_
 ·skip
  clear E; intro c10 E
  have hik : i < ps.length := by have := c10; simp only [jS] at this; omega
  have hx0 : ps[i]? = some ps[i] := jP hik
  refine za7 E rfl ?_; refine wp_skip ?_; refine hK5 _ _ ?_; refine wp_seq_k fun K6 hK6 => ?_; refine wp_block ?_; refine Vr ?_
  obtain ⟨ad11, hA11, hc11, hn11⟩ := LiF.get (A := PA) (T := zav) (i := i) (x := ps[i]) (by exact H.fact 0 rfl) hx0
  refine Vv E (zb7 (sz := 1) hA11 rfl (by kernel_rfl) rfl rfl rfl (by omega)) fun a E => ?_
  replace H := (H.know hn11).know hc11
  clear hn11 hc11; replace H : Sep _ _ _ _ _ [_, _, _, _] := H; refine Vv E (zcB (H.fact 0 rfl) (fun _ _ _ => trivial) rfl rfl rfl (by kernel_rfl)) fun a E => ?_; refine Vv E pka fun a E => ?_; refine Vn ?_; refine zaB ?_; refine Vv E pkm fun a E => ?_; refine Ve E ?_; refine Vc E ?_
  have hpl : ps[i].length ≤ 100000000 := hp _ (List.getElem_mem hik)
  obtain ⟨⟨h2, r2⟩, hFF⟩ : ∃ z, zhr gt hh (rr ++ ps[i]) = z := ⟨_, rfl⟩
  have hpb : ∀ x ∈ ps[i], x < 256 := (St.now (H.fact 1 rfl : St (TxF (pm i).1 (pm i).2 ps[i]) w _)).byt
  have HG := (Sep.giveA (L1 := [_, _]) (L := [_]) H).refacts (R' := [TxF (pm i).1 (pm i).2 ps[i], _]) (jJ.2 ⟨(Sep.giveA (L1 := [_, _]) (L := [_]) H).fact 1 rfl, jJ.2 ⟨(Sep.giveA (L1 := [_, _]) (L := [_]) H).fact 3 rfl, jK _⟩⟩)
  have HD := Sep.giveD (L1 := [_, _]) (L := [_]) H
  refine (zpq (sb := b3) (n := nn) (rest := rr) (bs := ps[i]) hFF (by omega) (by omega) (by omega) hrb HG.xlt HG HD).mono ?_; rintro e w ⟨rfl, RA2, rc2, H1⟩
  replace H := Sep.callA (L1 := [_, _]) (L := [_]) H H1
  clear H1; replace H : Sep _ _ _ _ [_, _, _] [_, _, _, _] := H; refine Vp E fun a E => ?_; clear HG HD; refine hK6 _ _ ?_; refine zaB ?_; refine Vv E (zaK rfl rfl rfl rfl (zdf (by omega) (by omega))) fun a E => ?_; refine Vv E pkm fun a E => ?_; refine za9 ?_
  exact ⟨(i + 1, h2, nn + ps[i].length, r2, RA2, rc2), ⟨E.to (by repeat (first | exact trivial | refine ⟨rfl, ?_⟩)), H.pop.pop, ⟨by show i + 1 ≤ ps.length; omega, by show zg1 gt (ps.take (i + 1)) = (h2, nn + ps[i].length, r2); rw [zoo hx0, hsh, zr4, hFF], by show nn + ps[i].length ≤ (i + 1) * 100000000; omega, by have := zk2 gt _ hh (rr ++ ps[i]) (jV _); rw [hFF] at this; exact this, by have := zm1 gt _ hh (rr ++ ps[i]) (jV _) (fun x hx => by rcases List.mem_append.1 hx with h1 | h1; exact hrb x h1; exact hpb x h1); rw [hFF] at this; exact this⟩⟩, by show ps.length - (i + 1) < ps.length - i; omega⟩
 ·skip
  clear E; intro c10 E
  obtain rfl : i = ps.length := by have := c10; simp only [decide_eq_false_iff_not] at this; omega
  rw [List.take_length] at hsh
  refine zaN E rfl ?_; refine wp_exit ?_
  repeat (first | refine za4 ?_ | refine za5 ?_ | refine zaW (by decide) ?_)
  refine hK2 _ _ ?_; refine wp_seq_k fun K8 hK8 => ?_; replace H : Sep _ _ _ _ [_, _] [_, _, _] := (H.at_ 1 _ rfl).rowTx (Sep.new_x (H.at_ 1 _ rfl)) (by omega) hrb; refine zaB ?_; refine Vv E (pkl 10 H 0) fun a E => ?_; refine Ve E ?_; refine Vc E ?_; refine (zqP (n := nn) (rest := rr) (by omega) (by omega) H.xk (H.fact 0 rfl) (H.fact 2 rfl)).mono ?_; rintro e w ⟨rfl, H1⟩
  replace H := H.call H1
  clear H1; replace H : Sep _ _ _ _ [_, _] [_, _, _] := H; refine Vp E fun a E => ?_; refine Ws 1 E H fun w H => ?_; replace H : Sep _ _ _ _ [_, _] _ := H; refine hK8 _ _ ?_; refine wp_ret ?_
  repeat (first | refine zat ?_ | refine zap ?_)
  refine zf8 rfl E (by exact zhT (n := 32) H 1 rfl rfl rfl (by kernel_rfl)) ?_; refine ⟨?_, (H.refacts (jK _)).popL.popL⟩
  rw [zhs, hsh]
end
section
open Go.RowKit
def zbJ (key : List Nat) (by_ : Nat) : List Nat := (List.range 64).map fun i => (key.getD i 0 % 256) ^^^ (by_ % 256)
def zer (gt : Nat → Nat) (key : List Nat) (ps : List (List Nat)) : List Nat := zhs gt [zbJ key 92, zhs gt (zbJ key 54 :: ps)]
theorem zco (key : List Nat) (by_ : Nat) : (zbJ key by_).length = 64 := by simp [zbJ]
theorem zkj (key : List Nat) (by_ : Nat) : ∀ z ∈ zbJ key by_, z < 256 := fun z hz => by
 obtain ⟨i, _, rfl⟩ := List.mem_map.1 hz
 exact Nat.xor_lt_two_pow (n := 8) (by omega) (by omega)
theorem zbt (gt : Nat → Nat) (key : List Nat) (ps : List (List Nat)) : (zer gt key ps).length = 32 := zdp _ _
theorem zcZ (gt : Nat → Nat) (key : List Nat) (ps : List (List Nat)) : ∀ z ∈ zer gt key ps, z < 256 := zi5 _ _
theorem zuZ (n : Nat) (k : List Nat) (h : k.length ≤ n) : (List.range n).map (fun i => bv (k.getD i 0)) = ((List.range n).map fun _ => bv 0).take 0 ++ k.map bv ++ ((List.range n).map fun _ => bv 0).drop (0 + k.length) := by
 apply List.ext_getElem?
 intro i
 rw [jI, List.nil_append, Nat.zero_add]
 by_cases hi : i < n
 ·rcases Nat.lt_or_ge i k.length with h1 | h1
  ·rw [List.getElem?_append_left (by simpa using h1)]
   simp [hi, jR, jP h1]
  ·rw [List.getElem?_append_right (by simpa using h1), List.getElem?_drop]
   simp [hi, jR, List.getElem?_eq_none h1, show k.length + (i - k.length) = i by omega]
 ·rw [List.getElem?_eq_none (by simp; omega), List.getElem?_eq_none (by simp; omega)]
def zr7 (key : List Nat) (by_ i j : Nat) : Nat := if j < i then (key.getD j 0 % 256) ^^^ (by_ % 256) else key.getD j 0
theorem zr8 (key : List Nat) (by_ i j : Nat) : upd (fun j => bv (zr7 key by_ i j)) i (bv ((key.getD i 0 % 256) ^^^ (by_ % 256))) j = bv (zr7 key by_ (i + 1) j) := by
 unfold upd zr7
 by_cases h : j = i
 ·subst h; simp
 ·rw [if_neg h]
  show bv (if j < i then _ else _) = _
  by_cases h2 : j < i
  ·rw [if_pos h2, if_pos (by omega)]
  ·rw [if_neg h2, if_neg (by omega)]
theorem zxS (key : List Nat) (by_ i : Nat) : zr7 key by_ i i = key.getD i 0 := by simp [zr7]
theorem zxT (key : List Nat) (by_ : Nat) : cl [.row 64 (fun j => bv (zr7 key by_ 64 j))] = (zbJ key by_).map bv := by
 simp only [cl, Chunk.cells, List.append_nil, zbJ, List.map_map]
 apply List.map_congr_left
 intro i hi
 simp only [Function.comp, zr7, if_pos (List.mem_range.1 hi)]
theorem zm2 (a b : Nat) : a ^^^ b = 0 ↔ a = b := by
 constructor
 ·intro h
  have := congrArg (· ^^^ b) h
  simpa [Nat.xor_assoc] using this
 ·rintro rfl; exact Nat.xor_self _
def zuG (a b : List Nat) : Nat → Nat
 | 0 => 0
 | i + 1 => (zuG a b i % 256) ||| (((a.getD i 0 % 256) ^^^ (b.getD i 0 % 256)) % 256)
theorem zm3 (a b : List Nat) (ha : ∀ x ∈ a, x < 256) (hb : ∀ x ∈ b, x < 256) (hl : a.length = b.length) : ∀ i, i ≤ a.length → (zuG a b i < 256 ∧ (zuG a b i = 0 ↔ a.take i = b.take i))
 | 0, _ => by simp [zuG]
 | i + 1, hi => by
  obtain ⟨h1, h2⟩ := zm3 a b ha hb hl i (by omega)
  have hia : i < a.length := by omega
  have hib : i < b.length := by omega
  have e1 : a.getD i 0 = a[i] := by rw [jR, jP hia]; rfl
  have e2 : b.getD i 0 = b[i] := by rw [jR, jP hib]; rfl
  have ba := ha _ (List.getElem_mem hia)
  have bb := hb _ (List.getElem_mem hib)
  have hx : a[i] ^^^ b[i] < 256 := Nat.xor_lt_two_pow (n := 8) ba bb
  rw [zuG, e1, e2, Nat.mod_eq_of_lt h1, Nat.mod_eq_of_lt ba, Nat.mod_eq_of_lt bb, Nat.mod_eq_of_lt hx]
  refine ⟨Nat.or_lt_two_pow (n := 8) h1 hx, ?_⟩
  rw [Nat.or_eq_zero_iff, h2, zm2, List.take_add_one, List.take_add_one, jP hia, jP hib]
  constructor
  ·rintro ⟨h3, h4⟩; rw [h3, h4]
  ·intro h3
   have := List.append_inj h3 (by simp; omega)
   simpa using this
attribute [local irreducible] zdg zdM zfE orW zjU ziT zfA zeD zic zcY zhs
section
variable {P : Program} {o : Oper} {a : Act} {w ws : World} {N : Nat} {l : List (Nat × Value)} {v : Value} {X G : List Nat} {w0 : World} {L : List Res} {R : List (World → Prop)}
theorem zes {α : Type} {T : Ty α} {ad : Addr} {cs : List Chunk} {its : List (α × T.μ)} {c : Nat} {xs : List α} {Y : List Nat} (h : St (AtC ad cs) w Y) (hcl : cl cs = zj0 T its) (hn : St (zj1 T its) w Y) (hx : its.map Prod.fst = xs) (hc : its.length ≤ c) (hb : its.length ≤ 9223372036854775807) :
  St (LiF T (some ad) c xs (fun i => ((its[i]?).map Prod.snd).getD T.dft)) w Y := fun w' hk => by
 subst hx
 refine ⟨by simpa using hc, by simpa using hb, (fun hA => by cases hA), fun ad' hA i x hx => ?_⟩
 obtain rfl := Option.some.inj hA
 rw [List.getElem?_map, Option.map_eq_some_iff] at hx
 obtain ⟨p, hp, rfl⟩ := hx
 simp only [hp, Option.map_some, jO]
 refine ⟨fun j u hu => ?_, hn w' hk p (List.mem_of_getElem? hp)⟩
 rw [Addr.add_add]
 refine h w' hk _ u ?_
 rw [hcl]
 exact zkU its i j p u hp hu
theorem Sep.rowOfL {b e sz n : Nat} {cs : List Chunk} {xs : List Value} (H : Sep X G w0 w (.blk b (ca cs) e :: L) R) (hxs : cl cs = xs) (hl : xs.length = n * sz) (hc : n ≤ 140737488355328) : Sep X G w0 w (.row (.slice (some ⟨b, 0, none⟩) n n) e sz n xs :: L) R :=
 H.turn (Frm.refl _ _) ⟨hl, .inr ⟨b, n, _, rfl, Nat.zero_le _, H.holds _ (List.mem_cons_self ..), jV _, by unfold maxLen; omega, by rw [zfc, ← zcn, hxs, hl], by
  simp only [ca, hxs]
  rw [← hl, List.take_length]⟩⟩ (fun k hk => .inl (by simpa [Res.keys, Value.ownBlock] using hk)) (by simp [Res.keys, Value.ownBlock])
theorem zBp {A : Option Addr} {c : Nat} {k : List Nat} : cl [.one (.slice A k.length c)] = zj0 zav [((k, (A, c)) : List Nat × zav.μ)] := rfl
theorem zid {A B : Option Addr} {c d : Nat} {k m : List Nat} : cl [.one (.slice A k.length c), .one (.slice B m.length d)] = zj0 zav [((k, (A, c)) : List Nat × zav.μ), (m, (B, d))] := rfl
end
theorem zpr {A : Option Addr} {c by_ : Nat} {key : List Nat} (h64 : key.length ≤ 64) {X : List Nat} {w0 : World} (hX : ∀ k ∈ X, k < w0.heap.size) (hk : St (TxF A c key) w0 X) :
  Calls Tryz.prog 82 #[.slice A key.length c, bv by_] w0 fun e w' => ∃ A' c', e = .returned (.slice A' (zbJ key by_).length c') ∧ Sep X [] w0 w' [] [TxF A' c' (zbJ key by_)] := by
 refine zaz Tryz.ntmps82 Tryz.func82 rfl rfl fun a E => ?_; replace E : Env a _ [(0, _), (1, _)] := E
 have H : Sep X [] w0 w0 [] [(TxF A c key)] := Sep.start hX (jJ.2 ⟨hk, fun _ h => by cases h⟩)
 refine Vr ?_; refine Vv E pka fun a E => ?_; refine Vn ?_; refine wp_seq_k fun K1 hK1 => ?_; refine Vr ?_; refine Vv E pkm fun a E => ?_; refine Vv E pkn fun a E => ?_; refine Vv E pki fun a E => ?_; refine Vn ?_; refine zau (d := 10) E rfl ?_ ?_
 ·skip
  clear E; intro c10 E
  exfalso; have := c10; simp only [jS] at this; omega --done
 ·skip
  clear E; intro c10 E; refine zaN E rfl ?_; refine wp_skip ?_; refine hK1 _ _ ?_; refine Vr ?_; refine Ve E ?_; refine zir (n := 64) (c := 64) E H rfl ⟨Tryz.underlying24, Tryz.underlying5, by kernel_rfl⟩ rfl rfl rfl rfl (by omega) (by omega) ?_; clear H; intro b15 w H F; refine Vp E fun a E => ?_; clear F; refine Vv E pka fun a E => ?_; refine Vn ?_; refine Vr ?_; refine Vv E pkm fun a E => ?_; refine Vv E pkm fun a E => ?_; refine Ve E ?_
  refine zkX (news := key.map bv) (m := key.length) (cs' := [.row 64 fun i => bv (key.getD i 0)]) 0 E H rfl rfl rfl rfl (by kernel_rfl) rfl (by omega) (by simp) (fun hA => (hk.now.nil hA).1) (by have := zfM (m := key.length) (St.now (H.fact 0 rfl)); rwa [List.take_length] at this) (fun u hu => by obtain ⟨z, _, rfl⟩ := List.mem_map.1 hu; rfl) (by simp only [cl, Chunk.cells, List.append_nil]; exact zuZ 64 key h64) (by simp [zej, Chunk.len]; omega) rfl ?_; clear H; intro w H F; replace H : Sep _ _ _ _ [_] _ := H; refine Vp E fun a E => ?_; clear F; refine Vn ?_; refine wp_seq_k fun K5 hK5 => ?_; refine Vr ?_; refine Vv E pkm fun a E => ?_; refine Vv E pkn fun a E => ?_
  refine Vv E pkm fun a E => ?_; refine Vn ?_; refine wp_block ?_
  have e0 : (fun j => bv (key.getD j 0)) = fun j => bv (zr7 key by_ 0 j) := by funext j; simp [zr7]
  rw [e0] at H
  refine zbC (γ := Nat) [1, 6, 20] (fun i => [(21, .int .i64 (i : Int))]) (fun i => [.blk b15 (ca [.row 64 (fun j => bv (zr7 key by_ i j))]) 5 ]) (fun i => [TxF A c key]) (fun i => i ≤ 64) (fun i => 64 - i) (0) E H (by repeat (first | exact trivial | refine ⟨rfl, ?_⟩)) (by omega) ?_; clear E H; intro i a w E H hφ; replace E : Env a _ [(21, _), (1, _), (6, _), (20, _)] := E; replace H : Sep _ _ _ _ [_] [_] := H; refine Vr ?_; refine Vv E pki fun a E => ?_; refine Vn ?_; refine wp_seq_k fun K8 hK8 => ?_; refine zau (d := 22) E rfl ?_ ?_
  ·skip
   clear E; intro c22 E
   have hi : i < 64 := by have := c22; simp only [jS] at this; omega
   refine za7 E rfl ?_; refine wp_skip ?_; refine hK8 _ _ ?_; refine wp_seq_k fun K9 hK9 => ?_; refine wp_block ?_; refine Vr ?_; refine Vv E pkm fun a E => ?_; refine Vv E pka fun a E => ?_; refine Vn ?_; refine zaB ?_; refine Vv E pkm fun a E => ?_; refine Vv E pkm fun a E => ?_; refine Vv E (zb7 (sz := 1) (i := i) rfl rfl (by kernel_rfl) rfl rfl rfl hi) fun a E => ?_; refine Vv E (zaE (i := i) (off := 0) H 0 rfl trivial rfl hi rfl rfl (by rw [Nat.mul_one]) (by kernel_rfl)) fun a E => ?_; refine Vv E pkm fun a E => ?_; refine Vv E (zok rfl rfl rfl) fun a E => ?_; refine Vv E (zb7 (sz := 1) (i := i) rfl rfl (by kernel_rfl) rfl rfl rfl hi) fun a E => ?_; refine Ve E ?_; refine zbe (off := 0) (i := i) (fun j => bv (zr7 key by_ (i + 1) j)) 0 E H rfl rfl rfl hi rfl rfl (by rw [Nat.mul_one]) rfl rfl rfl (by kernel_rfl) (fun j => by rw [zxS]; exact zr8 key by_ i j) rfl ?_; clear H; intro w H F; replace H : Sep _ _ _ _ [_] _ := H; refine zdn rfl ?_; clear F; refine hK9 _ _ ?_; refine zaB ?_; refine Vv E (zaK rfl rfl rfl rfl (zdf (by omega) (by omega))) fun a E => ?_; refine Vv E pkm fun a E => ?_; refine za9 ?_
   exact ⟨i + 1, ⟨E.to (by repeat (first | exact trivial | refine ⟨rfl, ?_⟩)), H, by omega⟩, by omega⟩
  ·skip
   clear E; intro c22 E
   obtain rfl : i = 64 := by have := c22; simp only [decide_eq_false_iff_not] at this; omega
   refine zaN E rfl ?_; refine wp_exit ?_
   repeat (first | refine za4 ?_ | refine za5 ?_ | refine zaW (by decide) ?_)
   refine hK5 _ _ ?_; refine Vr ?_; refine Vv E pkm fun a E => ?_; refine Vv E pka fun a E => ?_; refine Vn ?_; refine wp_ret ?_
   repeat (first | refine zat ?_ | refine zap ?_)
   refine zf8 rfl E (zbT rfl) ?_
   have hT := zbP (k := zbJ key by_) (c := 64) ((H.lend 0 rfl).fact 0 rfl) (zxT key by_) (by rw [zco]; omega) (by rw [zco]; omega) (zkj key by_)
   exact ⟨some ⟨b15, 0, none⟩, 64, by rw [zco], ((H.lend 0 rfl).know hT).refacts (jJ.2 ⟨((H.lend 0 rfl).know hT).fact 0 rfl, jK _⟩)⟩
theorem zop {A PA : Option Addr} {c pc : Nat} {key : List Nat} {ps : List (List Nat)} {pm : Nat → zav.μ} {gt : Nat → Nat} (h64 : key.length ≤ 64) (hp : ∀ p ∈ ps, p.length ≤ 100000000) (hP : ps.length ≤ 900000) {X : List Nat} {w0 : World} (hX : ∀ k ∈ X, k < w0.heap.size) (hk : St (TxF A c key) w0 X) (hL : St (LiF zav PA pc ps pm) w0 X) (hG : St (AtC ⟨2, 0, none⟩ [.row 64 fun i => u32 (gt i)]) w0 X) :
  Calls Tryz.prog 54 #[.slice A key.length c, .slice PA ps.length pc] w0 fun e w' => e = .returned (.agg (ca [.key (zer gt key ps)])) ∧ Sep X [] w0 w' [] [] := by
 have hpA : ∀ p ∈ zbJ key 54 :: ps, p.length ≤ 100000000 := fun p h => by rcases List.mem_cons.1 h with rfl | h; rw [zco]; omega; exact hp p h
 have hpB : ∀ p ∈ [zbJ key 92, (zhs gt (zbJ key 54 :: ps))], p.length ≤ 100000000 := fun p h => by simp only [List.mem_cons, List.not_mem_nil, or_false] at h; rcases h with rfl | rfl; rw [zco]; omega; rw [zdp]; omega
 refine zaz Tryz.ntmps54 Tryz.func54 rfl rfl fun a E => ?_; replace E : Env a _ [(0, _), (1, _)] := E
 have H : Sep X [] w0 w0 [] [(TxF A c key), (LiF zav PA pc ps pm), (AtC ⟨2, 0, none⟩ [.row 64 fun i => u32 (gt i)])] := Sep.start hX (jJ.2 ⟨hk, jJ.2 ⟨hL, jJ.2 ⟨hG, fun _ h => by cases h⟩⟩⟩)
 refine Vr ?_; refine Wa (z := [.key []]) E H fun b4 w a H E => ?_; refine Vn ?_; refine Vr ?_; refine Vv E pkm fun a E => ?_; refine Ve E ?_; refine Vc E ?_; refine (zpr (by_ := 54) h64 H.xk (H.fact 0 rfl)).mono ?_; rintro e w ⟨A7, c7, rfl, H1⟩
 replace H := H.call H1
 clear H1; replace H : Sep _ _ _ _ [_] [_, _, _, _] := H; refine Vp E fun a E => ?_; refine Ve E ?_; refine zaP (sz := 1) (z := [.one (.slice none 0 0)]) E H rfl Tryz.underlying25 (by kernel_rfl) (by decide) (by kernel_rfl) ⟨_, [.one _], 0, _, rfl, rfl, rfl, rfl, rfl⟩ ?_; clear H; intro b8 w H _; refine Vp E fun a E => ?_; refine Vv E pkm fun a E => ?_
 replace H := H.rowOfL (sz := 1) (n := 1) (zBp (A := A7) (c := c7) (k := zbJ key 54)) rfl (by omega)
 refine Ve E ?_; refine zpj (T := zav) (by_ := 24) (its := [((zbJ key 54, (A7, c7)) : List Nat × zav.μ)]) 0 E H (H.fact 2 rfl) rfl rfl rfl rfl ⟨Tryz.underlying25, by kernel_rfl⟩ (by simp only [List.length_cons, List.length_nil]; omega) (by simp only [List.length_cons, List.length_nil]; omega) ?_; clear H; intro A10 c10 w hcap10 H F; replace H : Sep _ _ _ _ [_, _] _ := H; refine Vp E fun a E => ?_; clear F
 have HN := H.know (zpk (a := [((zbJ key 54, (A7, c7)) : List Nat × zav.μ)]) (zaX (its := []) (q := ((zbJ key 54, (A7, c7)) : List Nat × zav.μ)) zb3 (H.fact 0 rfl)) (zkg (H.fact 2 rfl)))
 obtain ⟨m10, HZ⟩ := HN.freezeL (xs := zbJ key 54 :: ps) rfl (by simp) (by rw [List.map_append, zmO]; rfl)
 clear H HN
 have H := HZ
 clear HZ; replace H : Sep _ _ _ _ [_] [_, _, _, _, _, _] := H
 rw [show ([((zbJ key 54, (A7, c7)) : List Nat × zav.μ)] ++ zcQ zav ps pm).length = (zbJ key 54 :: ps).length from by simp [zgX]] at E
 refine Ve E ?_; refine Vc E ?_; refine (zr6 (ps := zbJ key 54 :: ps) hpA (by simp only [List.length_cons]; omega) H.xk (H.fact 0 rfl) (H.fact 5 rfl)).mono ?_; rintro e w ⟨rfl, H1⟩
 replace H := H.call H1
 clear H1; replace H : Sep _ _ _ _ [_] [_, _, _, _, _, _] := H; refine Vp E fun a E => ?_; refine Wa (z := [.key []]) E H fun b5 w a H E => ?_; refine Ws 0 E H fun w H => ?_; replace H : Sep _ _ _ _ [_, _] _ := H; refine Vn ?_; refine wp_seq_k fun K2 hK2 => ?_; refine zbr E H [] 3 [(0, false), (2, false), (1, true)] (by kernel_rfl) (by kernel_rfl) (fun w HS => ?_)
 (simp only [canOps, jD, jE, jF, jG])
 clear H
 have H := HS
 have hsz : w.heap.size ≤ w.heap.size := jV _
 have HK : CanB.Keep (fun k => k < w.heap.size ∧ k ∉ []) w w := CanB.Keep.refl _ _
 refine Cw E HK pkm fun a E => ?_; refine Cw E HK (zc7 (N := 32) (sz := 1) rfl (by kernel_rfl) rfl) fun a E => ?_; refine zfC E rfl (fun K hK => ?_); refine Vc E ?_; refine (zpr (by_ := 92) h64 H.xk (H.fact 3 rfl)).mono ?_; rintro e w ⟨A13, c13, rfl, H1⟩
 have F := H1.frm
 replace H := H.call H1
 clear H1; replace H : Sep _ _ _ _ [_, _] [_, _, _, _, _, _, _] := H
 have hk := zaI (D := []) F hsz (by simp)
 refine hK _ _ hk ?_; clear hK K
 replace HK := HK.trans hk
 replace hsz := jU hsz (F).size
 clear hk; refine zfD E rfl rfl ?_; clear E a; intro a E; clear F; refine CanB.wpCan_nil ?_
 try (simp only [jH, jI, jF, jG])
 clear HS HK hsz; refine Ve E ?_; refine zaP (sz := 1) (z := [.one (.slice none 0 0), .one (.slice none 0 0)]) E H rfl Tryz.underlying25 (by kernel_rfl) (by decide) (by kernel_rfl) ⟨_, [.one _], 0, _, rfl, rfl, rfl, rfl, ⟨_, [.one _], 1, _, rfl, rfl, rfl, rfl, rfl⟩⟩ ?_; clear H; intro b15 w H _; refine Vp E fun a E => ?_; refine Ve E ?_; refine Vc E ?_
 have HB := (H.lend 0 rfl).lend 0 rfl
 have hin := zbP (k := (zhs gt (zbJ key 54 :: ps))) (c := 32) (HB.fact 0 rfl) (by rw [zcO, zbo (zdp _ _)]) (by rw [zdp]; omega) (by rw [zdp]; omega) (zi5 _ _)
 have hli := zes (T := zav) (its := [((zbJ key 92, (A13, c13)) : List Nat × zav.μ), ((zhs gt (zbJ key 54 :: ps)), (some ⟨b5, 0, none⟩, 32))]) (c := 2) (xs := [zbJ key 92, (zhs gt (zbJ key 54 :: ps))]) (HB.fact 1 rfl) (by rw [← zid, zco, zdp]) (zaX (its := [_]) (q := (((zhs gt (zbJ key 54 :: ps)), (some ⟨b5, 0, none⟩, 32)) : List Nat × zav.μ)) (zaX (its := []) (q := ((zbJ key 92, (A13, c13)) : List Nat × zav.μ)) zb3 (HB.fact 2 rfl)) hin) rfl (by show 2 ≤ 2; decide) (by show 2 ≤ _; decide)
 have H2 := HB.refacts (R' := [_, _]) (jJ.2 ⟨hli, jJ.2 ⟨HB.fact 8 rfl, jK _⟩⟩)
 clear HB hin hli; refine (zr6 (ps := [zbJ key 92, (zhs gt (zbJ key 54 :: ps))]) hpB (by show 2 ≤ 1000000; decide) H2.xk (H2.fact 0 rfl) (H2.fact 1 rfl)).mono ?_; rintro e w ⟨rfl, H1⟩
 have F := H1.frm
 replace H := H.grow F
 refine Vp E fun a E => ?_; clear F; clear H2; refine Ws 2 E H fun w H => ?_; replace H : Sep _ _ _ _ [_, _, _] _ := H; refine hK2 _ _ ?_; refine wp_ret ?_
 repeat (first | refine zat ?_ | refine zap ?_)
 refine zf8 rfl E (by exact zhT (n := 32) H 2 rfl rfl rfl (by kernel_rfl)) ?_; refine ⟨?_, (H.refacts (jK _)).popL.popL.popL⟩
 rw [zer]
end
section
open Go.RowKit
theorem zr9 (a b : List Nat) (i : Nat) : (zuG a b i % 256) ||| (((a.getD i 0 % 256) ^^^ (b.getD i 0 % 256)) % 256) = zuG a b (i + 1) := by rw [zuG]
theorem zu0 {a b : List Nat} (ha : ∀ x ∈ a, x < 256) (hb : ∀ x ∈ b, x < 256) (hl : a.length = b.length) : (((zuG a b a.length : Nat) : Int) == 0) = decide (a = b) := by
 have h := (zm3 a b ha hb hl a.length (jV _)).2
 rw [List.take_length, hl, List.take_length] at h
 rw [hl]
 by_cases h1 : a = b
 ·rw [h.2 h1, decide_eq_true h1]; rfl
 ·rw [decide_eq_false h1, beq_eq_false_iff_ne]
  intro h2
  exact h1 (h.1 (by omega))
attribute [local irreducible] zdg zdM zfE orW zjU ziT zfA zeD zic zcY zhs
def IsV (v : Value) : zfF := fun x _ => x = v
def zCh (z : Nat) (e : TypeId) : zfF := fun x w => ∃ b, x = .slice (some ⟨b, 0, none⟩) 1 1 ∧ w.heap[b]? = some (.cells (ca [.one (bv z)]) e (0, 0))
def zz3 (u v : Value) (z : Nat) (e t : TypeId) : zfF := fun x w => ∃ b b', x = .slice (some ⟨b, 0, none⟩) 3 3 ∧ w.heap[b]? = some (.cells (ca [.one u, .one v, .one (.slice (some ⟨b', 0, none⟩) 1 1)]) t (0, 0)) ∧ w.heap[b']? = some (.cells (ca [.one (bv z)]) e (0, 0))
def zCi (B : Nat) (t : TypeId) (cs : List Chunk) : zfF := fun x w => ∃ b, x = .pointer (some ⟨b, 0, none⟩) ∧ B ≤ b ∧ w.heap[b]? = some (.cells (ca cs) t (0, 0))
theorem zm4 {v x : Value} {w : World} (h : IsV v x w) : x = v := h
theorem zfP (v : Value) : zhy (IsV v) := fun _ _ _ _ h => h
theorem zqQ (z : Nat) (e : TypeId) : zhy (zCh z e) := fun _ _ _ hb ⟨b, h1, h2⟩ => ⟨b, h1, (hb.block b (jM h2)).trans h2⟩
theorem zoq (u v : Value) (z : Nat) (e t : TypeId) : zhy (zz3 u v z e t) := fun _ _ _ hb ⟨b, b', h1, h2, h3⟩ => ⟨b, b', h1, (hb.block b (jM h2)).trans h2, (hb.block b' (jM h3)).trans h3⟩
theorem zqR (B : Nat) (t : TypeId) (cs : List Chunk) : zhy (zCi B t cs) := fun _ _ _ hb ⟨b, h1, h0, h2⟩ => ⟨b, h1, h0, (hb.block b (jM h2)).trans h2⟩
section
variable {P : Program} {ops : Array Oper} {rest : List Oper} {o : Oper} {a : Act} {w ws : World} {Q : Exit → Act → World → Prop} {N d : Nat} {l : List (Nat × Value)} {v : Value} {r : zfF} {X G : List Nat} {w0 : World} {L : List Res} {R : List (World → Prop)} {x y : Operand} {t u : TypeId}
theorem zu1 (E : Env a N l) (hv : PK P zzQ w l o v) (hg : gd ops l o = some true) (h : r v w) : zbX P ops Q o r a w := by
 unfold zbX
 rw [if_pos (zcV E hg)]
 unfold Oper.wp
 rw [hv w (CanB.Keep.refl _ _) a N E]
 exact ⟨Below.refl _ _, v, rfl, h⟩
theorem zxU (E : Env a N l) (hg : gd ops l o = some true) (h : ∀ K : Act → World → Prop, (∀ v w', Below w.heap.size w w' → r v w' → K (a.put o.dst v) w') → o.wp P a w K Q) : zbX P ops Q o r a w := by
 unfold zbX
 rw [if_pos (zcV E hg)]
 exact h _ fun v w' hb hr => ⟨hb, v, rfl, hr⟩
theorem zxV {ty : TypeId} {z : List Chunk} (E : Env a N l) (ho : o.op = .alloc ty) (hz : zjX P ty = some (ca z)) (hg : gd ops l o = some true) (h : ∀ w', w'.heap[w.heap.size]? = some (.cells (ca z) ty (0, 0)) → r (.pointer (some ⟨w.heap.size, 0, none⟩)) w') : zbX P ops Q o r a w := by
 unfold zbX
 rw [if_pos (zcV E hg)]
 obtain ⟨i, zv, h1, h2, h3⟩ := zfe hz
 have hr : (execOp a.eval o).run P w = .ok (.value (.pointer (some ⟨w.heap.size, 0, none⟩))) (w.alloc (.cells (ca z) ty)) := by
  unfold execOp
  simp [ho, Instr.alloc, zeroValue, typeInfo, h1, h2, newVar, newRow, newObj, h3, Sem.run_bind]
  rfl
 unfold Oper.wp
 rw [hr]
 exact ⟨(Below.refl _ _).alloc (jV _) _, _, rfl, h _ (heap_alloc_new w _)⟩
theorem zk4 (E : Env a N l) (h : ∀ a, Env a N l → zbX P ops Q o r a w) : zbX P ops Q o r a w := h a E
theorem zxW (E : Env a N l) (h : ∀ a, Env a N l → wpList P ops Q rest a w) : wpList P ops Q rest a w := h a E
theorem zsa {b t : Nat} {cs : List Chunk} (h : w.heap[b]? = some (.cells (ca cs) t (0, 0))) : St (AtC ⟨b, 0, none⟩ cs) w [] := fun w' hk => zhS (t := t) (fr := (0, 0)) ((hk b (jM h) (by simp)).trans h)
theorem zxX {m n : Nat} (ho : o.op = .binOp .add t x y u) (hx : ev l x = some (bv m)) (hy : ev l y = some (.int .u8 1)) {S : Nat → Prop} : PK P S ws l o (bv ((m + 1) % 256)) :=
 zbD ho hx hy (by
  have h := zuP (m + 1)
  rw [Int.natCast_add] at h
  exact congrArg (fun z => some (Value.int .u8 z)) h)
theorem St.low {r : World → Prop} {Y : List Nat} (h : St r w Y) : St r w [] := h.mono fun _ hk => by cases hk
end
attribute [local irreducible] zbX
theorem zsb {KA KB : Option Addr} {ca_ cb : Nat} {ka kb : List Nat} {X : List Nat} {w0 : World} (hX : ∀ k ∈ X, k < w0.heap.size) (hA : St (TxF KA ca_ ka) w0 X) (hB : St (TxF KB cb kb) w0 X) :
  Calls Tryz.prog 39 #[.slice KA ka.length ca_, .slice KB kb.length cb] w0 fun e w' => e = .returned (.bool (decide (ka = kb))) ∧ Sep X [] w0 w' [] [] := by
 have hal := hA.now.len
 have hab := hA.now.byt
 have hbb := hB.now.byt
 refine zaz Tryz.ntmps39 Tryz.func39 rfl rfl fun a E => ?_; replace E : Env a _ [(0, _), (1, _)] := E
 have H : Sep X [] w0 w0 [] [(TxF KA ca_ ka), (TxF KB cb kb)] := Sep.start hX (jJ.2 ⟨hA, jJ.2 ⟨hB, fun _ h => by cases h⟩⟩)
 refine Vr ?_; refine Vv E pka fun a E => ?_; refine Vn ?_; refine wp_seq_k fun K1 hK1 => ?_; refine Vr ?_; refine Vv E pkm fun a E => ?_; refine Vv E pkn fun a E => ?_; refine Vv E pkm fun a E => ?_; refine Vv E pkn fun a E => ?_; refine Vv E pki fun a E => ?_; refine Vn ?_; refine zau (d := 11) E rfl ?_ ?_
 ·skip
  clear E; intro c11 E
  have hne : ka ≠ kb := fun h => by subst h; simp at c11
  refine za7 E rfl ?_; refine Vr ?_; refine Vv E pka fun a E => ?_; refine Vn ?_; refine wp_ret ?_
  repeat (first | refine zat ?_ | refine zap ?_)
  refine zf8 rfl E (zbT rfl) ?_
  exact ⟨congrArg (fun b => Ending.returned (Value.bool b)) (decide_eq_false hne).symm, H.pop.pop⟩
 ·skip
  clear E; intro c11 E
  have hll : ka.length = kb.length := by have := c11; simp only [bne_eq_false_iff_eq] at this; omega
  refine zaN E rfl ?_; refine wp_skip ?_; refine hK1 _ _ ?_; refine Vr ?_; refine Vv E pka fun a E => ?_; refine Vn ?_; refine wp_seq_k fun K5 hK5 => ?_; refine Vr ?_; refine Vv E pkm fun a E => ?_; refine Vv E pkn fun a E => ?_; refine Vv E pkm fun a E => ?_; refine Vn ?_; refine wp_block ?_; refine zoj (γ := Nat) [0, 1, 13] (fun i => [(5, bv (zuG ka kb i)), (14, .int .i64 (i : Int))]) (fun i => i ≤ ka.length) (fun i => ka.length - i) (0) E H (by repeat (first | exact trivial | refine ⟨rfl, ?_⟩)) (Nat.zero_le _) ?_; clear E H; intro i a w E H hφ; replace E : Env a _ [(5, _), (14, _), (0, _), (1, _), (13, _)] := E
  replace H : Sep _ _ _ _ [] [_, _] := H; refine Vr ?_; refine Vv E pki fun a E => ?_; refine Vn ?_; refine wp_seq_k fun K8 hK8 => ?_; refine zau (d := 15) E rfl ?_ ?_
  ·skip
   clear E; intro c15 E
   have hi : i < ka.length := by have := c15; simp only [jS] at this; omega
   obtain ⟨aA, hAA⟩ : ∃ ad, KA = some ad := by
    cases hq : KA with
    | some ad => exact ⟨ad, rfl⟩
    | none => have := (hA.now.nil hq).1; omega
   obtain ⟨aB, hBB⟩ : ∃ ad, KB = some ad := by
    cases hq : KB with
    | some ad => exact ⟨ad, rfl⟩
    | none => have := (hB.now.nil hq).1; omega
   have ga : ka[i]? = some (ka.getD i 0) := by rw [jR, jP hi]; rfl
   have gb : kb[i]? = some (kb.getD i 0) := by rw [jR, jP (show i < kb.length by omega)]; rfl
   refine za7 E rfl ?_; refine wp_skip ?_; refine hK8 _ _ ?_; refine wp_seq_k fun K9 hK9 => ?_; refine wp_block ?_; refine Vr ?_; refine Vv E pkm fun a E => ?_; refine Vv E pka fun a E => ?_; refine Vn ?_; refine zbr E H [] 10 [(0, false), (1, false), (2, false), (3, false), (4, false), (5, false), (6, false), (7, false), (8, false), (9, false)] (by kernel_rfl) (by kernel_rfl) (fun w HS => ?_)
   (simp only [canOps, jD, jE, jF, jG])
   clear H
   have H := HS
   have hsz : w.heap.size ≤ w.heap.size := jV _
   have HK : CanB.Keep (fun k => k < w.heap.size ∧ k ∉ []) w w := CanB.Keep.refl _ _
   refine Cw E HK pkm fun a E => ?_; refine Cw E HK pkm fun a E => ?_; refine Cw E HK pkm fun a E => ?_; refine Cw E HK (zb7 (sz := 1) (i := i) hAA rfl (by kernel_rfl) rfl rfl rfl hi) fun a E => ?_; refine Cw E HK (zc6 (HS.fact 0 rfl) (fun k h _ => ⟨h, by simp⟩) hAA rfl rfl ga (by kernel_rfl)) fun a E => ?_; refine Cw E HK pkm fun a E => ?_; refine Cw E HK pkm fun a E => ?_
   refine Cw E HK (zb7 (sz := 1) (i := i) hBB rfl (by kernel_rfl) rfl rfl rfl (by omega)) fun a E => ?_; refine Cw E HK (zc6 (HS.fact 1 rfl) (fun k h _ => ⟨h, by simp⟩) hBB rfl rfl gb (by kernel_rfl)) fun a E => ?_; refine Cw E HK (zok rfl rfl rfl) fun a E => ?_; refine CanB.wpCan_nil ?_
   try (simp only [jH, jI, jF, jG])
   clear HS HK hsz; refine Vv E (zzZ rfl rfl rfl) fun a E => ?_; refine Vv E (zeY rfl rfl (congrArg bv (zr9 ka kb i))) fun a E => ?_; refine hK9 _ _ ?_; refine zaB ?_; refine Vv E (zaK rfl rfl rfl rfl (zdf (by omega) (by omega))) fun a E => ?_; refine Vv E pkm fun a E => ?_; refine za9 ?_
   exact ⟨i + 1, ⟨E.to (by repeat (first | exact trivial | refine ⟨rfl, ?_⟩)), H, by omega⟩, by omega⟩
  ·skip
   clear E; intro c15 E
   obtain rfl : i = ka.length := by have := c15; simp only [decide_eq_false_iff_not] at this; omega
   refine zaN E rfl ?_; refine wp_exit ?_
   repeat (first | refine za4 ?_ | refine za5 ?_ | refine zaW (by decide) ?_)
   refine hK5 _ _ ?_; refine Vr ?_; refine Vv E pkm fun a E => ?_; refine Vv E pki fun a E => ?_; refine Vv E pka fun a E => ?_; refine Vn ?_; refine wp_ret ?_
   repeat (first | refine zat ?_ | refine zap ?_)
   refine zf8 rfl E (zbT rfl) ?_
   exact ⟨congrArg (fun b => Ending.returned (Value.bool b)) (zu0 hab hbb hll), H.pop.pop⟩
theorem zu2 {b9 b3 b8 b4 t9 t8 j lc ic : Nat} {LA IA : Option Addr} {k last info : List Nat} {gt : Nat → Nat} (hk32 : k.length = 32) (hkb : ∀ x ∈ k, x < 256) (hll : last.length ≤ 100000000) (hil : info.length ≤ 100000000) {X : List Nat} {w0 : World} (hX : ∀ k ∈ X, k < w0.heap.size) (H0 : Sep X (zbz [.blk b9 (ca [.one (bv j)]) t9, .blk b8 (ca [.one (.slice LA last.length lc)]) t8]) w0 w0 [.blk b9 (ca [.one (bv j)]) t9, .blk b8 (ca [.one (.slice LA last.length lc)]) t8] [AtC ⟨b3, 0, none⟩ [.key k], AtC ⟨b4, 0, none⟩ [.one (.slice IA info.length ic)], TxF LA lc last, TxF IA ic info, AtC ⟨2, 0, none⟩ [.row 64 fun i => u32 (gt i)]]) (hd : ∀ k ∈ zbz [.blk b9 (ca [.one (bv j)]) t9, .blk b8 (ca [.one (.slice LA last.length lc)]) t8], k ∉ X) :
  Calls Tryz.prog 80 #[.pointer (some ⟨b9, 0, none⟩), .pointer (some ⟨b3, 0, none⟩), .pointer (some ⟨b8, 0, none⟩), .pointer (some ⟨b4, 0, none⟩)] w0 fun e w' => ∃ g, e = .returned (.slice (some ⟨g, 0, none⟩) 32 32) ∧ Sep X (zbz [.blk b9 (ca [.one (bv j)]) t9, .blk b8 (ca [.one (.slice LA last.length lc)]) t8]) w0 w' [.blk b9 (ca [.one (bv ((j + 1) % 256))]) t9, .blk b8 (ca [.one (.slice (some ⟨g, 0, none⟩) 32 32)]) t8] [TxF (some ⟨g, 0, none⟩) 32 (zer gt k [last, info, [((j + 1) % 256)]])] := by
 refine zaz Tryz.ntmps80 Tryz.func80 rfl rfl fun a E => ?_; replace E : Env a _ [(0, _), (1, _), (2, _), (3, _)] := E
 have H := H0
 have hps : ∀ p ∈ [last, info, [((j + 1) % 256)]], p.length ≤ 100000000 := fun p h => by simp only [List.mem_cons, List.not_mem_nil, or_false] at h; rcases h with rfl | rfl | rfl; exact hll; exact hil; show 1 ≤ 100000000; decide
 refine Vr ?_; refine Vv E pka fun a E => ?_; refine Vn ?_; refine Vr ?_; refine Vv E (pko H 0) fun a E => ?_; refine Vv E (zxX (n := 0) rfl rfl rfl) fun a E => ?_; refine Ws 0 (new := [.one _]) E H fun w H => ?_; replace H : Sep _ _ _ _ [_, _] _ := H; refine Vn ?_; refine wp_seq_k fun K2 hK2 => ?_
 refine zcW 8 [IsV (.slice (some ⟨b3, 0, none⟩) 32 32), IsV (.slice LA last.length lc), IsV (.slice IA info.length ic), IsV (bv ((j + 1) % 256)), zCh ((j + 1) % 256) 5, zz3 (.slice LA last.length lc) (.slice IA info.length ic) ((j + 1) % 256) 5 24, IsV (.agg (ca [.key (zer gt k [last, info, [((j + 1) % 256)]])])), zCi w.drew.heap.size 23 [.key []] ]
  [[], [], [], [], [3], [1, 2, 4], [0, 5], [] ] (by kernel_rfl) (by kernel_rfl) rfl (jJ.2 ⟨zfP _, jJ.2 ⟨zfP _, jJ.2 ⟨zfP _, jJ.2 ⟨zfP _, jJ.2 ⟨zqQ _ _, jJ.2 ⟨zoq _ _ _ _ _, jJ.2 ⟨zfP _, jJ.2 ⟨zqR _ _ _, jK _⟩⟩⟩⟩⟩⟩⟩⟩) ?_ ?_
 ·simp only [jH, jI, List.zip_cons_cons, List.zip_nil_left, List.zip_nil_right, zdZ, zfO, zcD, zbA, zbQ, jD, jE]
  refine ⟨?_, ?_, ?_, ?_, ?_, ?_, ?_, ?_, trivial⟩
  ·intro x0 x1 x2 x3 x4 x5 x6 x7 w' hb'
   exact zu1 ((((((((E.put (d := 8) rfl).put (d := 9) rfl).put (d := 10) rfl).put (d := 11) rfl).put (d := 12) rfl).put (d := 13) rfl).put (d := 14) rfl).put (d := 5) rfl) (zc7 (N := 32) (sz := 1) rfl (by kernel_rfl) rfl) rfl rfl
  ·intro x0 x1 x2 x3 x4 x5 x6 x7 w' hb'
   have H' := H.drew.grow (Frm.of_below hb')
   exact zu1 ((((((((E.put (d := 8) rfl).put (d := 9) rfl).put (d := 10) rfl).put (d := 11) rfl).put (d := 12) rfl).put (d := 13) rfl).put (d := 14) rfl).put (d := 5) rfl) (zkS H' 1 rfl rfl rfl trivial rfl (by kernel_rfl)) rfl rfl
  ·intro x0 x1 x2 x3 x4 x5 x6 x7 w' hb'
   have H' := H.drew.grow (Frm.of_below hb')
   exact zu1 ((((((((E.put (d := 8) rfl).put (d := 9) rfl).put (d := 10) rfl).put (d := 11) rfl).put (d := 12) rfl).put (d := 13) rfl).put (d := 14) rfl).put (d := 5) rfl) (zcB (H'.fact 1 rfl) (fun _ _ _ => trivial) rfl rfl rfl (by kernel_rfl)) rfl rfl
  ·intro x0 x1 x2 x3 x4 x5 x6 x7 w' hb'
   have H' := H.drew.grow (Frm.of_below hb')
   exact zu1 ((((((((E.put (d := 8) rfl).put (d := 9) rfl).put (d := 10) rfl).put (d := 11) rfl).put (d := 12) rfl).put (d := 13) rfl).put (d := 14) rfl).put (d := 5) rfl) (zkS H' 0 rfl rfl rfl trivial rfl (by kernel_rfl)) rfl rfl
  ·intro x0 x1 x2 x3 x4 x5 x6 x7 w' hb' e3
   have H' := H.drew.grow (Frm.of_below hb')
   replace e3 := zm4 e3; subst e3
   refine zk4 ((((((((E.put (d := 8) rfl).put (d := 9) rfl).put (d := 10) rfl).put (d := 11) rfl).put (d := 12) rfl).put (d := 13) rfl).put (d := 14) rfl).put (d := 5) rfl) (fun a E => ?_); refine zxU E rfl (fun K hK => ?_); refine zaP (sz := 1) (z := [.one (.int .u8 0)]) E H' rfl Tryz.underlying24 (by kernel_rfl) (by decide) (by kernel_rfl) ⟨_, [.one _], 0, _, rfl, rfl, rfl, rfl, rfl⟩ ?_; intro b w2 H2 F
   exact hK _ _ F.below ⟨b, rfl, H2.holds _ (List.mem_cons_self ..)⟩
  ·intro x0 x1 x2 x3 x4 x5 x6 x7 w' hb' e1 e2 e4
   have H' := H.drew.grow (Frm.of_below hb')
   replace e1 := zm4 e1; subst e1
   replace e2 := zm4 e2; subst e2
   obtain ⟨b', rfl, h4⟩ := e4
   refine zk4 ((((((((E.put (d := 8) rfl).put (d := 9) rfl).put (d := 10) rfl).put (d := 11) rfl).put (d := 12) rfl).put (d := 13) rfl).put (d := 14) rfl).put (d := 5) rfl) (fun a E => ?_); refine zxU E rfl (fun K hK => ?_); refine zaP (sz := 1) (z := [.one (.slice none 0 0), .one (.slice none 0 0), .one (.slice none 0 0)]) E H' rfl Tryz.underlying25 (by kernel_rfl) (by decide) (by kernel_rfl) ⟨_, [.one _], 0, _, rfl, rfl, rfl, rfl, ⟨_, [.one _], 1, _, rfl, rfl, rfl, rfl, ⟨_, [.one _], 2, _, rfl, rfl, rfl, rfl, rfl⟩⟩⟩ ?_; intro b w2 H2 F
   exact hK _ _ F.below ⟨b, b', rfl, H2.holds _ (List.mem_cons_self ..), (F.block b' (jM h4) (by simp)).trans h4⟩
  ·intro x0 x1 x2 x3 x4 x5 x6 x7 w' hb' e0 e5
   have H' := H.drew.grow (Frm.of_below hb')
   replace e0 := zm4 e0; subst e0
   obtain ⟨b, b', rfl, h5, h4⟩ := e5
   have hkk := zbP (k := k) (c := 32) (St.low (H'.fact 0 rfl)) (by rw [zcO, zbo hk32]) (by omega) (by omega) hkb
   have hz := zbP (k := [((j + 1) % 256)]) (c := 1) (zsa h4) rfl (by show 1 ≤ 1; decide) (by show 1 ≤ _; decide) (fun x hx => by rw [List.mem_singleton.1 hx]; exact Nat.mod_lt _ (by decide))
   have hli := zes (T := zav) (its := [((last, (LA, lc)) : List Nat × zav.μ), (info, (IA, ic)), ([((j + 1) % 256)], (some ⟨b', 0, none⟩, 1))]) (c := 3) (xs := [last, info, [((j + 1) % 256)]]) (zsa h5) rfl (zaX (its := [_, _]) (q := (([((j + 1) % 256)], (some ⟨b', 0, none⟩, 1)) : List Nat × zav.μ)) (zaX (its := [_]) (q := ((info, (IA, ic)) : List Nat × zav.μ)) (zaX (its := []) (q := ((last, (LA, lc)) : List Nat × zav.μ)) zb3 (St.low (H'.fact 2 rfl))) (St.low (H'.fact 3 rfl))) hz) rfl (by show 3 ≤ 3; decide) (by show 3 ≤ _; decide)
   refine zk4 ((((((((E.put (d := 8) rfl).put (d := 9) rfl).put (d := 10) rfl).put (d := 11) rfl).put (d := 12) rfl).put (d := 13) rfl).put (d := 14) rfl).put (d := 5) rfl) (fun a E => ?_); refine zxU E rfl (fun K hK => ?_); refine Vc E ?_
   rw [show (Value.slice (some ⟨b3, 0, none⟩) 32 32) = .slice (some ⟨b3, 0, none⟩) k.length 32 from by rw [hk32]]
   refine (zop (X := []) (key := k) (ps := [last, info, [((j + 1) % 256)]]) (by omega) hps (by show 3 ≤ 900000; decide) (fun _ h => by cases h) hkk hli (St.low (H'.fact 4 rfl))).mono ?_; rintro e w2 ⟨rfl, H2⟩
   exact hK _ _ H2.frm.below rfl
  ·intro x0 x1 x2 x3 x4 x5 x6 x7 w' hb'
   exact zxV ((((((((E.put (d := 8) rfl).put (d := 9) rfl).put (d := 10) rfl).put (d := 11) rfl).put (d := 12) rfl).put (d := 13) rfl).put (d := 14) rfl).put (d := 5) rfl) rfl (z := [.key []]) (by kernel_rfl) rfl (fun w2 h => ⟨_, rfl, hb'.size, h⟩)
 simp only [jH, jI, jF, jG, zfO, zcD, zbA, zbQ, jD, jE, List.range_succ, List.range_zero, List.nil_append, List.cons_append]
 intro x0 x1 x2 x3 x4 x5 x6 x7 w' hb' e0 e1 e2 e3 e4 e5 e6 e7
 replace e6 := zm4 e6; subst e6
 obtain ⟨b5, rfl, hB5, h5⟩ := e7
 refine @zxW _ _ _ _ _ _ _ _ ((((((((E.put (d := 8) rfl).put (d := 9) rfl).put (d := 10) rfl).put (d := 11) rfl).put (d := 12) rfl).put (d := 13) rfl).put (d := 14) rfl).put (d := 5) rfl) ?_
 have H' := H.drew.own (Frm.of_below hb') (q := .blk b5 (ca [.key []]) 23) h5 (by intro k hk; simp only [Res.keys, List.mem_singleton] at hk; rw [hk]; exact hB5) (by simp [Res.keys])
 clear H E e0 e1 e2 e3 e4 e5 h5 hB5; intro a E
 have H := H'
 clear H'; refine Ve E ?_; refine Vs 0 E H ?_; clear H; intro w H F; replace H : Sep _ _ _ _ [_, _, _] _ := H; clear F; refine zdn rfl ?_; refine hK2 _ _ ?_; refine wp_seq_k fun K3 hK3 => ?_
 refine zaB ?_; refine Vv E (zc7 (N := 32) (sz := 1) rfl (by kernel_rfl) rfl) fun a E => ?_; refine Ws 2 (new := [.one _]) E H fun w H => ?_; replace H : Sep _ _ _ _ [_, _, _] _ := H; refine hK3 _ _ ?_; refine Vr ?_; refine Vv E (pko H 2) fun a E => ?_; refine Vv E pka fun a E => ?_; refine Vn ?_; refine wp_ret ?_
 repeat (first | refine zat ?_ | refine zap ?_)
 refine zf8 rfl E (zbT rfl) ?_
 have hX : ∀ i ∈ (Res.blk b5 (ca [.key (zer gt k [last, info, [((j + 1) % 256)]])]) 23).keys, i ∉ X := fun i hi => H.keys_x hd i (by simp only [zbz, List.mem_append]; exact .inl hi)
 have hT := zbP (k := (zer gt k [last, info, [((j + 1) % 256)]])) (c := 32) (((H.freezeX hX).fact 0 rfl).imp fun w h => zhS (t := 23) (fr := (0, 0)) h) (by rw [zcO, zbo (zbt _ _ _)]) (by rw [zbt]; omega) (by rw [zbt]; omega) (zcZ _ _ _)
 exact ⟨b5, rfl, ((H.freezeX hX).know hT).refacts (jJ.2 ⟨((H.freezeX hX).know hT).fact 0 rfl, jK _⟩)⟩
end
section
open Go.RowKit
def exT (gt : Nat → Nat) (k info : List Nat) : Nat → List Nat × List Nat
 | 0 => ([], [])
 | j + 1 => (zer gt k [(exT gt k info j).1, info, [j + 1]], (exT gt k info j).2 ++ zer gt k [(exT gt k info j).1, info, [j + 1]])
def zie (gt : Nat → Nat) (k info : List Nat) (n : Nat) : List Nat := (exT gt k info ((n + 31) / 32)).2.take n
theorem zps {gt : Nat → Nat} {k info last out : List Nat} {j : Nat} (h : exT gt k info j = (last, out)) : exT gt k info (j + 1) = (zer gt k [last, info, [j + 1]], out ++ zer gt k [last, info, [j + 1]]) := by rw [exT, h]
theorem zi6 (gt : Nat → Nat) (k info : List Nat) : ∀ j, (exT gt k info j).2.length = 32 * j ∧ (exT gt k info j).1.length ≤ 32 ∧ (∀ x ∈ (exT gt k info j).2, x < 256)
 | 0 => ⟨rfl, by show 0 ≤ 32; decide, fun x hx => by cases hx⟩
 | j + 1 => by
  obtain ⟨h1, _, h3⟩ := zi6 gt k info j
  refine ⟨?_, ?_, ?_⟩
  ·rw [exT, jQ, h1, zbt]; omega
  ·rw [exT]; show (zer _ _ _).length ≤ 32; rw [zbt]; omega
  ·rw [exT]
   intro x hx
   rcases List.mem_append.1 hx with h | h
   ·exact h3 x h
   ·exact zcZ _ _ _ x h
theorem zeG (gt : Nat → Nat) (k info : List Nat) (n : Nat) : (zie gt k info n).length = n := by
 unfold zie
 rw [List.length_take, (zi6 gt k info _).1]
 omega
theorem zg3 (gt : Nat → Nat) (k info : List Nat) (n : Nat) : ∀ x ∈ zie gt k info n, x < 256 := fun x hx => (zi6 gt k info _).2.2 x (List.mem_of_mem_take hx)
attribute [local irreducible] zdg zdM zfE orW zjU ziT zfA zeD zic zcY zhs zer
section
variable {P : Program} {o : Oper} {ws w : World} {l : List (Nat × Value)} {S : Nat → Prop}
theorem zsc {t sz : Nat} {A : Option Addr} {n c hi mx : Nat} {x xh xm : Operand} {k i : Int} (ho : o.op = .slice t x none (some xh) (some xm)) (ht : elK P t = some sz) (hx : ev l x = some (.slice A n c)) (hh : ev l xh = some (.int .i64 k)) (hm : ev l xm = some (.int .i64 i)) (hk : k = (hi : Int)) (hi' : i = (mx : Int)) (hhm : hi ≤ mx) (hc : mx ≤ c) : PK P S ws l o (zib A sz 0 hi mx) :=
 zpm ho ht hx fun a N w E => by
  unfold Instr.sliceBounds
  simp [E.ev hh, E.ev hm, zdR hk hhm, zdR hi' hc, Sem.run_bind]
theorem zxY {A : Option Addr} {c c' : Nat} {k : List Nat} {Y : List Nat} (h : St (TxF A c k) w Y) (hc : k.length = c') : St (TxF A c' k) w Y := fun w' hk => by
 have h' := h w' hk
 exact ⟨by omega, h'.len, h'.byt, fun hA => ⟨(h'.nil hA).1, by have := (h'.nil hA).1; omega⟩, h'.at_⟩
end
theorem zhz {n ic : Nat} {IA : Option Addr} {k info : List Nat} {gt : Nat → Nat} (hk32 : k.length = 32) (hkb : ∀ x ∈ k, x < 256) (hn : n ≤ 8160) (hi20 : info.length ≤ 1048576) {X : List Nat} {w0 : World} (hX : ∀ k ∈ X, k < w0.heap.size) (hI : St (TxF IA ic info) w0 X) (hG : St (AtC ⟨2, 0, none⟩ [.row 64 fun i => u32 (gt i)]) w0 X) :
  Calls Tryz.prog 53 #[.agg (ca [.key k]), .slice IA info.length ic, .int .i64 ((n : Nat) : Int)] w0 fun e w' => ∃ A' c', e = .returned (.tuple #[.slice A' n c', .int .i64 0]) ∧ Sep X [] w0 w' [] [TxF A' c' (zie gt k info n)] := by
 have hil : info.length ≤ 100000000 := by omega
 refine zaz Tryz.ntmps53 Tryz.func53 rfl rfl fun a E => ?_; replace E : Env a _ [(0, _), (1, _), (2, _)] := E
 have H : Sep X [] w0 w0 [] [(TxF IA ic info), (AtC ⟨2, 0, none⟩ [.row 64 fun i => u32 (gt i)])] := Sep.start hX (jJ.2 ⟨hI, jJ.2 ⟨hG, fun _ h => by cases h⟩⟩)
 refine Vr ?_; refine Wb E H fun b3 w a H E => ?_; refine Wb (z := [.one _]) E H fun b4 w a H E => ?_; refine Vv E pka fun a E => ?_; refine Vv E pka fun a E => ?_; refine Vn ?_; refine wp_seq_k fun K1 hK1 => ?_; refine wp_block ?_; refine Vr ?_; refine Vv E pkm fun a E => ?_
 refine Vv E (zbD (v := .bool false) rfl rfl rfl (congrArg (fun b => some (Value.bool b)) (decide_eq_false (by omega)))) fun a E => ?_; refine Vv E pkm fun a E => ?_; refine Vv E pkm fun a E => ?_; refine Vv E (zbD (v := .bool false) rfl rfl rfl (congrArg (fun b => some (Value.bool b)) (decide_eq_false (by omega)))) fun a E => ?_; refine Vv E (zep rfl rfl rfl) fun a E => ?_; refine Vv E pka fun a E => ?_; refine Vn ?_; refine zaN E rfl ?_; refine Vr ?_; refine Vv E (pko H 0) fun a E => ?_; refine Vv E pkn fun a E => ?_; refine Vv E (zbD (v := .bool false) rfl rfl rfl (congrArg (fun b => some (Value.bool b)) (decide_eq_false (by omega)))) fun a E => ?_; refine Vv E pka fun a E => ?_; refine Vn ?_; refine zaN E rfl ?_; refine wp_skip ?_; refine hK1 _ _ ?_; refine Vr ?_; refine Wa (z := [.one (.slice none 0 0)]) E H fun b8 w a H E => ?_; refine Vn ?_; refine Vr ?_; refine Wa (z := [.one (.int .u8 0)]) E H fun b9 w a H E => ?_
 refine Ws 0 (new := [.one _]) E H fun w H => ?_; replace H : Sep _ _ _ _ [_, _, _, _] _ := H; refine Vn ?_; refine Vr ?_; refine Vv E (zog rfl rfl rfl) fun a E => ?_; refine Vv E pka fun a E => ?_; refine Vn ?_; refine Vr ?_; refine Vv E pkm fun a E => ?_; refine Vv E (zaK rfl rfl rfl rfl (zdf (by omega) (by omega))) fun a E => ?_; refine Ve E ?_
 refine zir (n := 0) (c := n + 64) E H rfl ⟨Tryz.underlying24, Tryz.underlying5, by kernel_rfl⟩ rfl rfl rfl (by omega) (by omega) (by omega) ?_; clear H; intro b26 w H F; refine Vp E fun a E => ?_; clear F
 replace H := H.rowOf (n := 0) (by omega) (by omega)
 replace H : Sep _ _ _ _ [_, _, _] [_, _, _, _] := (H.lend 4 rfl).lend 3 rfl; refine Vv E pka fun a E => ?_; refine Vn ?_; refine wp_seq_k fun K8 hK8 => ?_; refine wp_block ?_
 refine zbC (γ := Nat × List Nat × List Nat × Option Addr × Nat × Option Addr × Nat) [2, 10] (fun g => [(11, .slice g.2.2.2.2.2.1 g.2.2.1.length g.2.2.2.2.2.2)]) (fun g => [.blk b9 (ca [.one (bv g.1)]) 5, .blk b8 (ca [.one (.slice g.2.2.2.1 g.2.1.length g.2.2.2.2.1)]) 24, .row (.slice g.2.2.2.2.2.1 g.2.2.1.length g.2.2.2.2.2.2) 5 1 g.2.2.1.length (g.2.2.1.map bv)]) (fun g => [TxF g.2.2.2.1 g.2.2.2.2.1 g.2.1, AtC ⟨b4, 0, none⟩ [.one (.slice IA info.length ic)], AtC ⟨b3, 0, none⟩ [.key k], TxF IA ic info, AtC ⟨2, 0, none⟩ [.row 64 fun i => u32 (gt i)]]) (fun g => g.1 * 32 < n + 32 ∧ exT gt k info g.1 = (g.2.1, g.2.2.1)) (fun g => 8192 - g.1 * 32) ((0, [], [], none, 0, some ⟨b26, 0, none⟩, n + 64)) E ((H.know zbw).perm ((List.Perm.swap _ _ _).trans (List.Perm.cons _ (List.Perm.swap _ _ _)))) (by repeat (first | exact trivial | refine ⟨rfl, ?_⟩)) (⟨by show 0 * 32 < n + 32; omega, rfl⟩) ?_
 clear E H; intro g a w E H hφ; replace E : Env a _ [(11, _), (2, _), (10, _)] := E; replace H : Sep _ _ _ _ [_, _, _] [_, _, _, _, _] := H
 obtain ⟨j, last, out, LA, lc, OA, oc⟩ := g
 simp only at E H hφ ⊢
 obtain ⟨hj, hex0⟩ := hφ
 have hex := zi6 gt k info j
 rw [hex0] at hex
 simp only at hex
 refine wp_seq_k fun K9 hK9 => ?_; refine Vr ?_; refine Vv E pkm fun a E => ?_; refine Vv E pkn fun a E => ?_; refine Vv E pkm fun a E => ?_; refine Vv E pki fun a E => ?_; refine Vn ?_; refine zau (d := 30) E rfl ?_ ?_
 ·skip
  clear E; intro c30 E
  have hlt : out.length < n := by have := c30; simp only [jS] at this; omega
  refine za7 E rfl ?_; refine wp_skip ?_; refine hK9 _ _ ?_; refine wp_block ?_; refine zaB ?_; refine Vv E pkm fun a E => ?_; refine Vv E pkm fun a E => ?_; refine Ve E ?_; refine Vc E ?_
  have HG := (Sep.giveA (L1 := [_, _]) (L := [_]) H).refacts (R' := [_, _, _, _, _]) (jJ.2 ⟨(Sep.giveA (L1 := [_, _]) (L := [_]) H).fact 2 rfl, jJ.2 ⟨(Sep.giveA (L1 := [_, _]) (L := [_]) H).fact 1 rfl, jJ.2 ⟨(Sep.giveA (L1 := [_, _]) (L := [_]) H).fact 0 rfl, jJ.2 ⟨(Sep.giveA (L1 := [_, _]) (L := [_]) H).fact 3 rfl, jJ.2 ⟨(Sep.giveA (L1 := [_, _]) (L := [_]) H).fact 4 rfl, jK _⟩⟩⟩⟩⟩)
  have HD := Sep.giveD (L1 := [_, _]) (L := [_]) H
  refine (zu2 (b9 := b9) (b3 := b3) (b8 := b8) (b4 := b4) (j := j) (k := k) (last := last) (info := info) hk32 hkb (by have := hex.2.1; omega) hil HG.xlt HG HD).mono ?_; rintro e w ⟨g33, rfl, H1⟩
  replace H := Sep.callA (L1 := [_, _]) (L := [_]) H H1
  clear H1; replace H : Sep _ _ _ _ [_, _, _] [_, _, _, _, _, _] := H; refine Vp E fun a E => ?_; clear HG HD
  rw [show (j + 1) % 256 = j + 1 from Nat.mod_eq_of_lt (by omega)] at H
  rw [show Value.slice (some ⟨g33, 0, none⟩) 32 32 = .slice (some ⟨g33, 0, none⟩) (zer gt k [last, info, [j + 1]]).length 32 from by rw [zbt]] at E H
  refine Ve E ?_; refine zdO (k := out) (m := (zer gt k [last, info, [j + 1]])) 2 E H (H.fact 0 rfl) rfl rfl rfl rfl ⟨Tryz.underlying24, by kernel_rfl⟩ (by rw [zbt]; omega) ?_; clear H; intro A34 c34 w H F; replace H : Sep _ _ _ _ [_, _, _] _ := H; refine Vp E fun a E => ?_; clear F; refine Vv E pka fun a E => ?_; refine zhw (za9 ?_)
  exact ⟨(j + 1, (zer gt k [last, info, [j + 1]]), out ++ (zer gt k [last, info, [j + 1]]), some ⟨g33, 0, none⟩, 32, A34, c34), ⟨E.to (by repeat (first | exact trivial | refine ⟨rfl, ?_⟩)), H.drop1, ⟨by show (j + 1) * 32 < n + 32; omega, zps hex0⟩⟩, by show 8192 - (j + 1) * 32 < 8192 - j * 32; omega⟩
 ·skip
  clear E; intro c30 E
  have hge : ¬ out.length < n := by have := c30; simp only [decide_eq_false_iff_not] at this; omega
  obtain rfl : j = (n + 31) / 32 := by omega
  refine zaN E rfl ?_; refine wp_exit ?_
  repeat (first | refine za4 ?_ | refine za5 ?_ | refine zaW (by decide) ?_)
  refine hK8 _ _ ?_; refine Vr ?_; refine Vv E pkm fun a E => ?_; refine Vv E pkm fun a E => ?_; refine Vv E pkm fun a E => ?_
  have hoc : out.length ≤ oc := zkW (H.holds _ (by simp) : (Res.row (.slice OA out.length oc) 5 1 out.length (out.map bv)).holds w)
  refine Vv E (zsc (sz := 1) (hi := n) (mx := n) rfl (by kernel_rfl) rfl rfl rfl rfl rfl (jV _) (by omega)) fun a E => ?_
  rw [sub_zero] at E
  refine Vv E pka fun a E => ?_; refine Vv E pka fun a E => ?_; refine Vn ?_; refine wp_ret ?_
  repeat (first | refine zat ?_ | refine zap ?_)
  refine zeO rfl E (zbT rfl) (zbT rfl) ?_
  have hT := ((H.at_ 2 _ rfl).rowTx (Sep.new_x (H.at_ 2 _ rfl)) (by omega) hex.2.2)
  have hT2 := zxY (c' := n) (zdN (hi := n) (hT.fact 0 rfl) (by omega)) (by rw [List.length_take]; omega)
  rw [show out.take n = zie gt k info n from by rw [zie, hex0]] at hT2
  exact ⟨OA, n, rfl, (((hT.know hT2).refacts (jJ.2 ⟨(hT.know hT2).fact 0 rfl, jK _⟩)).popL).popL⟩
end
section
open Go.RowKit
attribute [local irreducible] beL beK
theorem zsd (w : World) (v : Value) (t : TypeId) : (w.alloc (.cells #[v] t)).cell? ⟨w.heap.size, 0, none⟩ = some v := by
 rw [cell_of_row _ _ _ _ _ _ (heap_alloc_new w (.cells #[v] t))]; rfl
theorem ze0 {B : Nat} {w w' : World} {g o : Nat} {v : Value} (hb : Below B w w') (hg : g < B) (h : w.cell? ⟨g, o, none⟩ = some v) : w'.cell? ⟨g, o, none⟩ = some v := (hb.cell (p := ⟨g, o, none⟩) hg).trans h
theorem zu3 (k n : Nat) : beL (k + 1) n = (n / 2 ^ (8 * k) % 256) :: beL k n := by
 unfold beL beK
 rw [List.range_succ_eq_map, List.map_cons, List.map_map]
 congr 1
 apply List.map_congr_left
 intro i hi
 have := List.mem_range.1 hi
 simp only [Function.comp]
 rw [show k + 1 - 1 - (i + 1) = k - 1 - i from by omega]
theorem zpt (n : Nat) : beL 0 n = [] := by unfold beL beK; rfl
theorem zfj (k n : Nat) : (beL k n).length = k := by unfold beL; exact zrW k n k
theorem zse (w : World) (e : TypeId) (x : Nat) : Own (w.alloc (.cells #[bv x] e)) w.heap.size e (.slice (some ⟨w.heap.size, 0, none⟩) 1 1) [x] :=
 ⟨rfl, .inr ⟨w.heap.size, 1, #[bv x], rfl, jV _, heap_alloc_new w _, jV _, (by decide), rfl, rfl⟩⟩
theorem zm5 (W n : Nat) (hW : W ≤ 8) (hn : n < 18446744073709551616) (w : World) :
  Calls Tryz.prog 63 #[.int .i64 W, .int .u64 n] w (zrU w (beL W n)) := by
 have HN := Lib.hid hn
 clear hn
 go_enter Tryz.func63, Tryz.ntmps63
 go_wp2
 go_loopg [1, 5, 7] W (fun k x v i wr => ∃ (m : Nat) (A : Option Addr) (c : Nat), m + k = W ∧ i = .int .i64 m ∧ x = .int .u64 ((n / 2 ^ (8 * m) : Nat) : Int) ∧ v = .slice A m c ∧ Txt wr wr.heap.size A m c (beL m n) ∧ Own wr w.heap.size 5 v (beL m n) ∧ Below w.heap.size w wr)
 case atStart => exact ⟨0, none, 0, by omega, rfl, (by rw [Nat.mul_zero, Nat.pow_zero, Nat.div_one]), rfl, (by rw [zpt]; exact Txt.nil_), (by rw [zpt]; exact Own.nil_), Below.refl _ _⟩
 case round =>
  obtain ⟨m, A, c, hm, rfl, rfl, rfl, ht, ho, hB⟩ := hrel
  have hm' := Lib.hid hm
  have HT := Lib.hid ht
  have HO := Lib.hid ho
  clear hm ht ho
  by_cases hlt : m < W
  ·obtain ⟨q, hq⟩ : ∃ q, q = n / 2 ^ (8 * m) := ⟨_, rfl⟩
   rw [← hq]
   have qb : q < 18446744073709551616 := by rw [hq]; exact Nat.lt_of_le_of_lt (Nat.div_le_self _ _) HN.out
   have e1 : n / 2 ^ (8 * (m + 1)) = q / 256 := by rw [hq, Nat.mul_add, Nat.pow_add, ← Nat.div_div_eq_div_mul]
   have e2 : beL (m + 1) n = (q % 256) :: beL m n := by rw [hq]; exact zu3 m n
   have E1 := Lib.hid e1
   have E2 := Lib.hid e2
   clear hq e1 e2
   have qb' : (q : Int) ≤ 18446744073709551615 := by omega
   have QB := Lib.hid qb
   clear qb
   obtain ⟨x, hx⟩ : ∃ x, x = q % 256 := ⟨_, rfl⟩
   have ex : (q : Int) % 256 = (x : Int) := by omega
   have xb : x < 256 := by omega
   have HX := Lib.hid hx
   clear hx
   go_wp2_with (refine zcI rfl rfl BT rfl rfl (zse wr 5 x) (HT.out.below' ((Below.refl _ _).alloc (jV _) _) (jV _)) (by simp; omega) (by simp) ?_; intro v1 w1 hown hg hat)
   have hB1 : Below w.heap.size w w1 := zfI (hB.alloc hB.size _) (zse wr 5 x) hg hB.size (by simp; have := hB.size; omega)
   have el : [x] ++ beL m n = beL (m + 1) n := by rw [E2.out, HX.out]; rfl
   rw [el] at hown
   obtain ⟨A1, c1, hv1, ht1⟩ := hown.txt
   rw [zfj] at hv1 ht1
   subst hv1
   have HO1 := Lib.hid (hown.mono hB.size)
   have HT1 := Lib.hid ht1
   clear hown ht1 el
   go_roundg (gk - 1)
   case measure => have := hm'.out; omega
   case rel =>
    have hm'' := hm'.out
    exact ⟨m + 1, A1, c1, by omega, by go_num, (by rw [E1.out]; congr 1), rfl, HT1.out, HO1.out, hB1⟩
  ·obtain rfl : m = W := by have := hm'.out; omega
   go_wp2
   go_ret
   exact ⟨_, rfl, HO.out, hB⟩
end
section
open Go.RowKit
attribute [local irreducible] beL beK
theorem zu4 (W n : Nat) (hW : W ≤ 8) (hn : n < 18446744073709551616) (w : World) :
  Calls Tryz.prog 95 #[.int .i64 W, .int .u64 n] w fun e w' => e = .returned (.bool (decide (n < 256 ^ W))) ∧ w = w' := by
 have hx : ((n : Int)) ≤ 18446744073709551615 := by omega
 have c := zrZ (n : Int) (by omega) hx
 rw [Int.toNat_natCast] at c
 have C := Lib.hid c
 clear c hx hn
 go_enter Tryz.func95, Tryz.ntmps95
 go_wp2_with (go_at_call 121; fail)
 refine (C.out _).mono ?_
 rintro e w' ⟨⟨r, rfl, hr⟩, rfl⟩
 have HR := Lib.hid (hr W)
 clear hr
 go_wp2
 go_ret
 refine ⟨?_, rfl⟩
 have e1 : decide ((r : Int) ≤ 8 * (W : Int)) = decide (n < 256 ^ W) := decide_eq_decide.2 ⟨fun h => HR.out.1 (by omega), fun h => by have := HR.out.2 h; omega⟩
 rw [← e1]
 rfl
theorem zu5 (W n : Nat) (hW : W ≤ 8) (hn : n < 18446744073709551616) (g : Nat) (w : World) (hc : w.cell? ⟨g, 0, none⟩ = some (.int .i64 W)) :
  Calls Tryz.prog 94 #[.int .u64 n, .pointer (some ⟨g, 0, none⟩)] w fun e w' => e = .returned (.bool (!decide (n < 256 ^ W))) ∧ w = w' := by
 have HN := Lib.hid hn
 clear hn
 go_enter Tryz.func94, Tryz.ntmps94
 go_wp2_with (go_at_call 95; fail)
 refine (zu4 W n hW HN.out _).mono ?_
 rintro e w' ⟨rfl, rfl⟩
 go_wp2
 go_ret
 exact ⟨rfl, rfl⟩
theorem zu6 (W n : Nat) (hW : W ≤ 8) (hn : n < 18446744073709551616) (g h : Nat) (w : World) (hc : w.cell? ⟨g, 0, none⟩ = some (.int .i64 W)) (hx : w.cell? ⟨h, 0, none⟩ = some (.int .u64 n)) :
  Calls Tryz.prog 120 #[.slice (some ⟨h, 0, none⟩) 1 1, .func (.func 94) #[] #[.pointer (some ⟨g, 0, none⟩)]] w fun e w' => e = .returned (.int .i64 (if n < 256 ^ W then -1 else 0)) ∧ w = w' := by
 have HN := Lib.hid hn
 clear hn
 go_enter Tryz.func120, Tryz.ntmps120
 go_wp2
 go_loopg [8] 1 (fun k i wr => (k = 1 ∧ i = .int .i64 0 ∨ k = 0 ∧ i = .int .i64 1 ∧ n < 256 ^ W) ∧ w = wr)
 case atStart => exact ⟨.inl ⟨rfl, rfl⟩, rfl⟩
 case round =>
  obtain ⟨hr, rfl⟩ := hrel
  rcases hr with ⟨rfl, rfl⟩ | ⟨rfl, rfl, hlt⟩
  ·go_wp2_with (go_at_call 94; fail)
   refine (zu5 W n hW HN.out g _ hc).mono ?_
   rintro e w' ⟨rfl, rfl⟩
   by_cases hf : n < 256 ^ W
   ·rw [decide_eq_true hf]
    have HF := Lib.hid hf
    clear hf
    go_wp2
    go_roundg 0
    case measure => omega
    case rel => exact ⟨.inr ⟨rfl, rfl, HF.out⟩, rfl⟩
   ·rw [decide_eq_false hf]
    have HF := Lib.hid hf
    clear hf
    go_wp2
    go_ret
    refine ⟨?_, rfl⟩
    first | rfl | (rw [if_neg HF.out]; rfl)
  ·have HF := Lib.hid hlt
   clear hlt
   go_wp2
   go_ret
   refine ⟨?_, rfl⟩
   first | rfl | (rw [if_pos HF.out]; rfl)
theorem zor (W n : Nat) (hW : W ≤ 8) (hn : n < 18446744073709551616) (g h : Nat) (w : World) (hc : w.cell? ⟨g, 0, none⟩ = some (.int .i64 W)) (hx : w.cell? ⟨h, 0, none⟩ = some (.int .u64 n)) :
  Calls Tryz.prog 93 #[.slice (some ⟨h, 0, none⟩) 1 1, .func (.func 94) #[] #[.pointer (some ⟨g, 0, none⟩)]] w fun e w' => e = .returned (.bool (!decide (n < 256 ^ W))) ∧ w = w' := by
 have c := Lib.hid (zu6 W n hW hn g h w hc hx)
 by_cases hf : n < 256 ^ W
 ·rw [decide_eq_true hf]
  rw [if_pos hf] at c
  clear hf hn
  go_enter Tryz.func93, Tryz.ntmps93
  go_wp2_with (go_at_call 120; fail)
  refine c.out.mono ?_
  rintro e w' ⟨rfl, rfl⟩
  go_wp2
  go_ret
  exact ⟨rfl, rfl⟩
 ·rw [decide_eq_false hf]
  rw [if_neg hf] at c
  clear hf hn
  go_enter Tryz.func93, Tryz.ntmps93
  go_wp2_with (go_at_call 120; fail)
  refine c.out.mono ?_
  rintro e w' ⟨rfl, rfl⟩
  go_wp2
  go_ret
  exact ⟨rfl, rfl⟩
end
section
open Go.RowKit
attribute [local irreducible] beL beK
theorem zxZ (A : Option Addr) (n0 c : Nat) (l0 : List Nat) (hl0 : n0 ≤ 100000000000) (W n : Nat) (h1 : 1 ≤ W) (h8 : W ≤ 8) (hn : n < 18446744073709551616) (hf : n < 256 ^ W) (h : Nat) (w : World) (hh : h < w.heap.size) (hx : w.cell? ⟨h, 0, none⟩ = some (.int .u64 n)) (ht : Txt w w.heap.size A n0 c l0) :
  Calls Tryz.prog 66 #[.slice A n0 c, .int .i64 W, .slice (some ⟨h, 0, none⟩) 1 1] w (fun e w' => ∃ v, e = .returned (.tuple #[v, .int .i64 0]) ∧ Own w' w.heap.size 5 v (l0 ++ beL W n) ∧ Below w.heap.size w w') := by
 have HN := Lib.hid hn
 have HF := Lib.hid hf
 clear hn hf
 go_enter Tryz.func66, Tryz.ntmps66
 have hb : Below w.heap.size w (w.alloc (.cells #[.int .i64 W] 3)) := (Below.refl _ _).alloc (jV _) _
 have c0 := zsd w (.int .i64 (W : Int)) 3
 have cx := ze0 hb hh hx
 have ht2 := ((ht.below hb).more (B' := (w.alloc (.cells #[.int .i64 W] 3)).heap.size) hb.size)
 have hln := ht.len
 go_wp2_with (go_at_call 93; fail)
 refine (zor W n h8 HN.out w.heap.size h _ c0 cx).mono ?_
 rintro e w1 ⟨rfl, hw1⟩
 subst hw1
 rw [decide_eq_true HF.out]
 go_wp2_with (go_at_call 96; fail)
 refine (zmT A n0 c l0 _ ht2 (by omega)).mono ?_
 rintro e w2 ⟨v2, rfl, hown, b2⟩
 rw [World.size_alloc] at hown
 have hs := b2.size
 rw [World.size_alloc] at hs b2
 have hB := hb.trans (b2.mono (by omega))
 replace c0 := ze0 b2 (by omega) c0
 replace cx := ze0 b2 (by omega) cx
 clear b2 hb
 go_wp2
 go_loopg [8, 26] 1 (fun k v i wr => (k = 1 ∧ i = .int .i64 0 ∧ Own wr (w.heap.size + 1) 5 v l0 ∨ k = 0 ∧ i = .int .i64 1 ∧ Own wr (w.heap.size + 1) 5 v (l0 ++ beL W n)) ∧ wr.cell? ⟨w.heap.size, 0, none⟩ = some (.int .i64 W) ∧ wr.cell? ⟨h, 0, none⟩ = some (.int .u64 n) ∧ w.heap.size + 1 ≤ wr.heap.size ∧ Below w.heap.size w wr)
 case atStart => exact ⟨.inl ⟨rfl, rfl, hown⟩, c0, cx, hs, hB⟩
 case round =>
  clear c0 cx hs hB hown
  obtain ⟨hr, c0, cx, hs, hB⟩ := hrel
  rcases hr with ⟨rfl, rfl, ho⟩ | ⟨rfl, rfl, ho⟩
  ·have HO := Lib.hid ho
   clear ho
   go_wp2_with (go_at_call 78; fail)
   refine (zrY _ l0 (w.heap.size + 1) W n h8 HN.out (by omega) _ HO.out hs).mono ?_
   rintro e w3 ⟨⟨v3, rfl, ho3⟩, b3⟩
   have HO3 := Lib.hid ho3
   replace c0 := ze0 b3 (by omega) c0
   replace cx := ze0 b3 (by omega) cx
   have hs3 := jU hs b3.size
   have hB3 := hB.trans (b3.mono (by omega))
   clear b3 hB hs HO ho3
   go_wp2
   go_roundg 0
   case measure => omega
   case rel => exact ⟨.inr ⟨rfl, rfl, HO3.out⟩, c0, cx, hs3, hB3⟩
  ·have HO := Lib.hid ho
   clear ho
   go_wp2
   go_ret2
   exact ⟨_, rfl, HO.out.mono (by omega), hB⟩
end
section
open Go.RowKit
def zdT (x : Int) : Int := bits .xor .u8 (x * 2 % 256) (27 * (x / 128))
def zqS (x : Int) (n : Nat) : Int := bits .or .u8 (x * 2 ^ n % 256) (x / 2 ^ (8 - n))
def zkk (p : Int) : Int := bits .xor .u8 p (zdT p)
def zsf (q : Int) (n : Nat) : Int := bits .xor .u8 q (q * 2 ^ n % 256)
def zz4 (q : Int) : Int := bits .xor .u8 q (9 * (q / 128) % 256)
def zx0 (q : Int) : Int := zz4 (zsf (zsf (zsf q 1) 2) 4)
def zz5 (q : Int) : Int := bits .xor .u8 (bits .xor .u8 (bits .xor .u8 (bits .xor .u8 (bits .xor .u8 99 q) (zqS q 1)) (zqS q 2)) (zqS q 3)) (zqS q 4)
def zBq : List Int := [99, 124, 119, 123, 242, 107, 111, 197, 48, 1, 103, 43, 254, 215, 171, 118, 202, 130, 201, 125, 250, 89, 71, 240, 173, 212, 162, 175, 156, 164, 114, 192, 183, 253, 147, 38, 54, 63, 247, 204, 52, 165, 229, 241, 113, 216, 49, 21, 4, 199, 35, 195, 24, 150, 5, 154, 7, 18, 128, 226, 235, 39, 178, 117, 9, 131, 44, 26, 27, 110, 90, 160, 82, 59, 214, 179, 41, 227, 47, 132, 83, 209, 0, 237, 32, 252, 177, 91, 106, 203, 190, 57, 74, 76, 88, 207, 208, 239, 170, 251, 67, 77, 51, 133, 69, 249, 2, 127, 80, 60, 159, 168, 81, 163, 64, 143, 146, 157, 56, 245, 188, 182, 218, 33, 16, 255, 243, 210, 205, 12, 19, 236, 95, 151, 68, 23, 196, 167, 126, 61, 100, 93, 25, 115, 96, 129, 79, 220, 34, 42, 144, 136, 70, 238, 184, 20, 222, 94, 11, 219, 224, 50, 58, 10, 73, 6, 36, 92, 194, 211, 172, 98, 145, 149, 228, 121, 231, 200, 55, 109, 141, 213, 78, 169, 108, 86, 244, 234, 101, 122, 174, 8, 186, 120, 37, 46, 28, 166, 180, 198, 232, 221, 116, 31, 75, 189, 139, 138, 112, 62, 181, 102, 72, 3, 246, 14, 97, 53, 87, 185, 134, 193, 29, 158, 225, 248, 152, 17, 105, 217, 142, 148, 155, 30, 135, 233, 206, 85, 40, 223, 140, 161, 137, 13, 191, 230, 66, 104, 65, 153, 45, 15, 176, 84, 187, 22]
def zbK (i : Nat) : Int := zBq.getD i 0
def zbU : List Int := [1, 3, 5, 15, 17, 51, 85, 255, 26, 46, 114, 150, 161, 248, 19, 53, 95, 225, 56, 72, 216, 115, 149, 164, 247, 2, 6, 10, 30, 34, 102, 170, 229, 52, 92, 228, 55, 89, 235, 38, 106, 190, 217, 112, 144, 171, 230, 49, 83, 245, 4, 12, 20, 60, 68, 204, 79, 209, 104, 184, 211, 110, 178, 205, 76, 212, 103, 169, 224, 59, 77, 215, 98, 166, 241, 8, 24, 40, 120, 136, 131, 158, 185, 208, 107, 189, 220, 127, 129, 152, 179, 206, 73, 219, 118, 154, 181, 196, 87, 249, 16, 48, 80, 240, 11, 29, 39, 105, 187, 214, 97, 163, 254, 25, 43, 125, 135, 146, 173, 236, 47, 113, 147, 174, 233, 32, 96, 160, 251, 22, 58, 78, 210, 109, 183, 194, 93, 231, 50, 86, 250, 21, 63, 65, 195, 94, 226, 61, 71, 201, 64, 192, 91, 237, 44, 116, 156, 191, 218, 117, 159, 186, 213, 100, 172, 239, 42, 126, 130, 157, 188, 223, 122, 142, 137, 128, 155, 182, 193, 88, 232, 35, 101, 175, 234, 37, 111, 177, 200, 67, 197, 84, 252, 31, 33, 99, 165, 244, 7, 9, 27, 45, 119, 153, 176, 203, 70, 202, 69, 207, 74, 222, 121, 139, 134, 145, 168, 227, 62, 66, 198, 81, 243, 14, 18, 54, 90, 238, 41, 123, 141, 140, 143, 138, 133, 148, 167, 242, 13, 23, 57, 75, 221, 124, 132, 151, 162, 253, 28, 36, 108, 180, 199, 82, 246, 1]
def zpu : List Int := [1, 246, 82, 199, 180, 108, 36, 28, 253, 162, 151, 132, 124, 221, 75, 57, 23, 13, 242, 167, 148, 133, 138, 143, 140, 141, 123, 41, 238, 90, 54, 18, 14, 243, 81, 198, 66, 62, 227, 168, 145, 134, 139, 121, 222, 74, 207, 69, 202, 70, 203, 176, 153, 119, 45, 27, 9, 7, 244, 165, 99, 33, 31, 252, 84, 197, 67, 200, 177, 111, 37, 234, 175, 101, 35, 232, 88, 193, 182, 155, 128, 137, 142, 122, 223, 188, 157, 130, 126, 42, 239, 172, 100, 213, 186, 159, 117, 218, 191, 156, 116, 44, 237, 91, 192, 64, 201, 71, 61, 226, 94, 195, 65, 63, 21, 250, 86, 50, 231, 93, 194, 183, 109, 210, 78, 58, 22, 251, 160, 96, 32, 233, 174, 147, 113, 47, 236, 173, 146, 135, 125, 43, 25, 254, 163, 97, 214, 187, 105, 39, 29, 11, 240, 80, 48, 16, 249, 87, 196, 181, 154, 118, 219, 73, 206, 179, 152, 129, 127, 220, 189, 107, 208, 185, 158, 131, 136, 120, 40, 24, 8, 241, 166, 98, 215, 77, 59, 224, 169, 103, 212, 76, 205, 178, 110, 211, 184, 104, 209, 79, 204, 68, 60, 20, 12, 4, 245, 83, 49, 230, 171, 144, 112, 217, 190, 106, 38, 235, 89, 55, 228, 92, 52, 229, 170, 102, 34, 30, 10, 6, 2, 247, 164, 149, 115, 216, 72, 56, 225, 95, 53, 19, 248, 161, 150, 114, 46, 26, 255, 85, 51, 17, 15, 5, 3, 1]
def zwQ (r : Nat) (i : Nat) : Int := if ((zbU.drop 1).take r).contains (i : Int) then zbK i else 0
def zpv (r : Nat) : Bool := decide (zkk (zbU.getD r 0) = zbU.getD (r + 1) 0) && decide (zx0 (zpu.getD r 0) = zpu.getD (r + 1) 0) && decide (zz5 (zpu.getD (r + 1) 0) = zbK (zbU.getD (r + 1) 0).toNat) &&
  decide (0 < zbU.getD (r + 1) 0) && decide (zbU.getD (r + 1) 0 < 256) && decide (0 ≤ zpu.getD (r + 1) 0) && decide (zpu.getD (r + 1) 0 < 256) && ((zbU.getD (r + 1) 0 != 1) == decide (r + 1 < 255))
theorem zm6 : (List.range 255).all zpv = true := by kernel_rfl
theorem zi7 (r : Nat) (hr : r < 255) : zkk (zbU.getD r 0) = zbU.getD (r + 1) 0 ∧ zx0 (zpu.getD r 0) = zpu.getD (r + 1) 0 ∧ zz5 (zpu.getD (r + 1) 0) = zbK (zbU.getD (r + 1) 0).toNat ∧
  0 < zbU.getD (r + 1) 0 ∧ zbU.getD (r + 1) 0 < 256 ∧ 0 ≤ zpu.getD (r + 1) 0 ∧ zpu.getD (r + 1) 0 < 256 ∧ (zbU.getD (r + 1) 0 != 1) = decide (r + 1 < 255) := by
 have h := List.all_eq_true.1 zm6 r (List.mem_range.2 hr)
 unfold zpv at h
 simp only [Bool.and_eq_true, jS, beq_iff_eq] at h
 obtain ⟨⟨⟨⟨⟨⟨⟨h1, h2⟩, h3⟩, h4⟩, h5⟩, h6⟩, h7⟩, h8⟩ := h
 exact ⟨h1, h2, h3, h4, h5, h6, h7, h8⟩
theorem zu7 (l : List Int) (v : Int) (hv : 0 ≤ v) (f g : Nat → Int) (i : Nat) : upd (fun i => if l.contains (i : Int) then f i else g i) v.toNat (f v.toNat) i = if (l ++ [v]).contains (i : Int) then f i else g i := by
 unfold upd
 by_cases h : i = v.toNat
 ·subst h
  have e : (v.toNat : Int) = v := Int.toNat_of_nonneg hv
  rw [e]
  simp
 ·rw [if_neg h]
  have e : ¬ (i : Int) = v := by omega
  simp only [List.contains_eq_mem, List.mem_append, List.mem_singleton, e, or_false]
theorem zj2 (l : List Int) (hl : l.length = 256) (r : Nat) (hr : r < 255) : (l.drop 1).take (r + 1) = (l.drop 1).take r ++ [l.getD (r + 1) 0] := by
 rw [List.take_succ_eq_append_getElem (by rw [List.length_drop]; omega)]
 congr 2
 rw [List.getElem_drop, jR, jP (by omega)]
 simp [Nat.add_comm]
theorem zsg (r : Nat) (hr : r < 255) (i : Nat) : upd (zwQ r) (zbU.getD (r + 1) 0).toNat (zbK (zbU.getD (r + 1) 0).toNat) i = zwQ (r + 1) i := by
 have hp := (zi7 r hr).2.2.2.1
 have ht : (zbU.drop 1).take (r + 1) = (zbU.drop 1).take r ++ [zbU.getD (r + 1) 0] := zj2 zbU (by kernel_rfl) r hr
 unfold zwQ
 rw [ht]
 exact zu7 _ _ (Int.le_of_lt hp) zbK (fun _ => 0) i
theorem zx1 : (List.range 256).all (fun i => decide (upd (zwQ 255) 0 99 i = zbK i)) = true := by kernel_rfl
theorem zu8 (i : Nat) (hi : i < 256) : upd (zwQ 255) 0 99 i = zbK i := of_decide_eq_true (List.all_eq_true.1 zx1 i (List.mem_range.2 hi))
theorem zsh (i : Nat) : zwQ 0 i = 0 := by simp [zwQ]
theorem zfQ (op : BinOp) (x y : Int) : 0 ≤ bits op .u8 x y ∧ bits op .u8 x y < 256 := by
 unfold bits
 cases op <;> simp only [IntKind.wrap_u8] <;> omega
theorem zx2 : (List.range 256).all (fun i => decide (0 ≤ zbK i ∧ zbK i < 256)) = true := by kernel_rfl
theorem zsi (i : Nat) (hi : i < 256) : 0 ≤ zbK i ∧ zbK i < 256 := of_decide_eq_true (List.all_eq_true.1 zx2 i (List.mem_range.2 hi))
end
section
open Go.RowKit
attribute [local irreducible] zbK
def zcE (was : Nat → Int) (add : Int) : Nat → Int
 | 0 => bits .xor .u8 (was 0) (bits .xor .u8 add (zbK (was 13).toNat))
 | 1 => bits .xor .u8 (was 1) (zbK (was 14).toNat)
 | 2 => bits .xor .u8 (was 2) (zbK (was 15).toNat)
 | 3 => bits .xor .u8 (was 3) (zbK (was 12).toNat)
 | n + 4 => bits .xor .u8 (was (n + 4)) (zcE was add n)
def zkm : Nat → Int
 | 0 => 1
 | j + 1 => zdT (zkm j)
def ze1 (k : Nat → Int) : Nat → Nat → Int
 | 0 => k
 | j + 1 => zcE (ze1 k j) (zkm j)
def zif (k : Nat → Int) (j : Nat) (i : Nat) : Int := if i < 256 then zbK i else if (i - 256) / 16 ≤ j then ze1 k ((i - 256) / 16) ((i - 256) % 16) else 0
theorem zm7 (was : Nat → Int) (add : Int) (i : Nat) : 0 ≤ zcE was add i ∧ zcE was add i < 256 := by
 unfold zcE; split <;> exact zfQ _ _ _
theorem zm8 (j : Nat) : 0 ≤ zkm j ∧ zkm j < 256 := by
 cases j with
 | zero => exact ⟨by decide, by decide⟩
 | succ j => unfold zkm zdT; exact zfQ _ _ _
theorem zm9 (k : Nat → Int) (hk : ∀ i, i < 16 → 0 ≤ k i ∧ k i < 256) (j i : Nat) (hi : i < 16) : 0 ≤ ze1 k j i ∧ ze1 k j i < 256 := by
 cases j with
 | zero => exact hk i hi
 | succ j => exact zm7 _ _ _
theorem zsj (k : Nat → Int) (i : Nat) (_hi : i < 432) : zcU (fun i => if i < 256 then zbK i else 0) 256 16 k i = zif k 0 i := by
 unfold zcU zif
 by_cases h : i < 256
 ·rw [if_neg (by omega), if_pos h]; exact if_pos h
 ·by_cases h2 : i < 256 + 16
  ·rw [if_pos ⟨by omega, h2⟩, if_neg h, if_pos (by omega), show (i - 256) / 16 = 0 from by omega, show (i - 256) % 16 = i - 256 from by omega]
   rfl
  ·rw [if_neg (by omega), if_neg h, if_neg (by omega)]; exact if_neg h
def zos (k : Nat → Int) (j m i : Nat) : Int := if 256 + 16 * (j + 1) ≤ i ∧ i < 256 + 16 * (j + 1) + m then zcE (ze1 k j) (zkm j) (i - (256 + 16 * (j + 1))) else zif k j i
theorem zsk (k : Nat → Int) (j i : Nat) : zos k j 0 i = zif k j i := by
 unfold zos
 rw [if_neg (by omega)]
theorem zsm (k : Nat → Int) (j m i : Nat) : upd (zos k j m) (256 + 16 * (j + 1) + m) (zcE (ze1 k j) (zkm j) m) i = zos k j (m + 1) i := by
 unfold upd zos
 by_cases h : i = 256 + 16 * (j + 1) + m
 ·rw [if_pos h, if_pos (by omega), h, Nat.add_sub_cancel_left]
 ·rw [if_neg h]
  by_cases h2 : 256 + 16 * (j + 1) ≤ i ∧ i < 256 + 16 * (j + 1) + m
  ·rw [if_pos h2, if_pos (by omega)]
  ·rw [if_neg h2, if_neg (by omega)]
theorem zsn (k : Nat → Int) (j i : Nat) : ze1 k (j + 1) i = zcE (ze1 k j) (zkm j) i := rfl
theorem ze2 (k : Nat → Int) (j m o : Nat) (ho : o = 256 + 16 * (j + 1) + m) (i : Nat) (v : Int) (hv : v = zcE (ze1 k j) (zkm j) m) : upd (zos k j m) o v i = zos k j (m + 1) i := by
 subst ho hv
 exact zsm k j m i
theorem zhV (was : Nat → Int) (add : Int) (m : Nat) (h : 4 ≤ m) : zcE was add m = bits .xor .u8 (was m) (zcE was add (m - 4)) := by
 obtain ⟨n, rfl⟩ : ∃ n, m = n + 4 := ⟨m - 4, by omega⟩
 rfl
theorem zso (k : Nat → Int) (j i : Nat) : zos k j 16 i = zif k (j + 1) i := by
 unfold zos zif
 by_cases h : i < 256
 ·rw [if_neg (by omega), if_pos h, if_pos h]
 ·by_cases h2 : 256 + 16 * (j + 1) ≤ i ∧ i < 256 + 16 * (j + 1) + 16
  ·rw [if_pos h2, if_neg h, if_pos (by omega), show (i - 256) / 16 = j + 1 from by omega]
   rw [zsn, show (i - 256) % 16 = i - (256 + 16 * (j + 1)) from by omega]
  ·rw [if_neg h2, if_neg h, if_neg h]
   by_cases h3 : (i - 256) / 16 ≤ j
   ·rw [if_pos h3, if_pos (by omega)]
   ·rw [if_neg h3, if_neg (by omega)]
theorem zu9 (k : Nat → Int) (j m i : Nat) (h : i < m) : zos k j m (256 + 16 * (j + 1) + i) = zcE (ze1 k j) (zkm j) i := by
 unfold zos
 rw [if_pos (by omega), Nat.add_sub_cancel_left]
theorem ziu (k : Nat → Int) (j m i : Nat) (h : i < 256) : zos k j m i = zbK i := by
 unfold zos zif
 rw [if_neg (by omega), if_pos h]
theorem zpw (k : Nat → Int) (n j i : Nat) (h : j ≤ n) (hi : i < 16) : zif k n (256 + 16 * j + i) = ze1 k j i := by
 unfold zif
 rw [if_neg (by omega), show (256 + 16 * j + i - 256) / 16 = j from by omega, if_pos h, show (256 + 16 * j + i - 256) % 16 = i from by omega]
theorem zva (k : Nat → Int) (n i : Nat) (h : i < 256) : zif k n i = zbK i := by
 unfold zif; rw [if_pos h]
end
section
open Go.RowKit
attribute [local irreducible] zbK
def zpx (a b : Nat) : Nat → Nat
 | 0 => 0
 | m + 1 => if b / 2 ^ m % 2 = 1 then zpx a b m ^^^ (a * 2 ^ m) else zpx a b m
def zn8 (p : Nat) : Nat → Nat
 | 0 => p
 | n + 1 => if zn8 p n / 2 ^ (14 - n) % 2 = 1 then zn8 p n ^^^ (283 * 2 ^ (6 - n)) else zn8 p n
def zgC (a b : Nat) : Nat := zn8 (zpx a b 8) 7 % 256
theorem zna (k : IntKind) (j : Nat) (hj : j ≤ k.bits) (hk : ∀ n : Int, 0 ≤ n → n < 2 ^ j → k.wrap n = n) (a b : Nat) (ha : a < 2 ^ j) (hb : b < 2 ^ j) :
  bits .xor k a b = ((a ^^^ b : Nat) : Int) := by
 have hp : 2 ^ j ≤ 2 ^ k.bits := Nat.pow_le_pow_right (by decide) hj
 have ha' : a % 2 ^ k.bits = a := Nat.mod_eq_of_lt (jT ha hp)
 have hb' : b % 2 ^ k.bits = b := Nat.mod_eq_of_lt (jT hb hp)
 have cast : ∀ n : Nat, n < 2 ^ j → ((n : Nat) : Int) < 2 ^ j := fun n h => by exact_mod_cast h
 simp only [bits, BitVec.ofInt_natCast, BitVec.toNat_xor, BitVec.toNat_ofNat, ha', hb']
 exact hk _ (Int.natCast_nonneg _) (cast _ (Nat.xor_lt_two_pow ha hb))
theorem zsp (n : Int) (h₀ : 0 ≤ n) (h₁ : n < 2 ^ 63) : IntKind.i64.wrap n = n := by rw [IntKind.wrap_i64]; omega
theorem zsq (a b : Nat) (ha : a < 2 ^ 63) (hb : b < 2 ^ 63) : bits .xor .i64 a b = ((a ^^^ b : Nat) : Int) := zna .i64 63 (by decide) zsp a b ha hb
theorem zwR (a m : Nat) (ha : a < 256) (hm : m < 8) : a * 2 ^ m < 2 ^ 15 := by
 have h1 : 2 ^ m ≤ 2 ^ 7 := Nat.pow_le_pow_right (by omega) (by omega)
 have h2 : a * 2 ^ m ≤ 255 * 2 ^ 7 := Nat.mul_le_mul (by omega) h1
 omega
theorem zk5 (a b : Nat) (ha : a < 256) : ∀ m, m ≤ 8 → zpx a b m < 2 ^ 15
 | 0, _ => by unfold zpx; omega
 | m + 1, h => by
  unfold zpx
  split
  ·exact Nat.xor_lt_two_pow (zk5 a b ha m (by omega)) (zwR a m ha (by omega))
  ·exact zk5 a b ha m (by omega)
theorem zwS (n : Nat) (hn : n < 7) : 283 * 2 ^ (6 - n) < 2 ^ 15 := by
 have h1 : 2 ^ (6 - n) ≤ 2 ^ 6 := Nat.pow_le_pow_right (by omega) (by omega)
 omega
theorem zot (p : Nat) (hp : p < 2 ^ 15) : ∀ n, n ≤ 7 → zn8 p n < 2 ^ 15
 | 0, _ => hp
 | n + 1, h => by
  unfold zn8
  split
  ·exact Nat.xor_lt_two_pow (zot p hp n (by omega)) (zwS n (by omega))
  ·exact zot p hp n (by omega)
theorem zBr (x : Nat) : ((x : Int).tmod 2 == 1) = decide (x % 2 = 1) := by
 rw [Int.tmod_eq_emod_of_nonneg (by omega), Bool.eq_iff_iff, beq_iff_eq, jS]
 omega
theorem ziv (x m : Nat) : (((x : Int) / 2 ^ m).tmod 2 == 1) = decide (x / 2 ^ m % 2 = 1) := by
 rw [show (x : Int) / 2 ^ m = ((x / 2 ^ m : Nat) : Int) from by push_cast; rfl]
 exact zBr _
theorem zvb (a b m : Nat) (ha : a < 256) (hm : m < 8) : bits .xor .i64 (zpx a b m) (wrap64 ((a : Int) * 2 ^ m)) = ((zpx a b m ^^^ (a * 2 ^ m) : Nat) : Int) := by
 have h1 := zwR a m ha hm
 have h2 := zk5 a b ha m (by omega)
 have e : (a : Int) * 2 ^ m = ((a * 2 ^ m : Nat) : Int) := by push_cast; rfl
 rw [e, IntWalk.wrap64_in _ (by omega)]
 exact zsq _ _ (by omega) (by omega)
theorem zvc (p j : Nat) (hp : p < 2 ^ 15) (hj : 8 ≤ j) (hj2 : j ≤ 14) : bits .xor .i64 p (wrap64 ((283 : Int) * 2 ^ (j - 8))) = ((p ^^^ (283 * 2 ^ (j - 8)) : Nat) : Int) := by
 have h1 := zwS (14 - j) (by omega)
 rw [show 6 - (14 - j) = j - 8 from by omega] at h1
 generalize j - 8 = t at *
 have e : (283 : Int) * 2 ^ t = ((283 * 2 ^ t : Nat) : Int) := by rw [Int.natCast_mul, Int.natCast_pow]; rfl
 rw [e, IntWalk.wrap64_in _ (by omega)]
 exact zsq _ _ (by omega) (by omega)
theorem zvd (a b : Int) : BitVec.ofInt 8 (bits .xor .u8 a b) = BitVec.ofInt 8 a ^^^ BitVec.ofInt 8 b := by
 show BitVec.ofInt 8 (IntKind.u8.wrap ((BitVec.ofInt 8 a ^^^ BitVec.ofInt 8 b).toNat : Int)) = _
 generalize BitVec.ofInt 8 a ^^^ BitVec.ofInt 8 b = v
 have h : IntKind.u8.wrap ((v.toNat : Nat) : Int) = (v.toNat : Int) := by
  have := v.isLt
  rw [IntKind.wrap_u8]; omega
 rw [h, BitVec.ofInt_natCast]
 simp
theorem zBs (a b c d : Int) (h : BitVec.ofInt 8 a ^^^ BitVec.ofInt 8 b = BitVec.ofInt 8 c ^^^ BitVec.ofInt 8 d) : bits .xor .u8 a b = bits .xor .u8 c d := by
 show IntKind.u8.wrap ((BitVec.ofInt 8 a ^^^ BitVec.ofInt 8 b).toNat : Int) = IntKind.u8.wrap ((BitVec.ofInt 8 c ^^^ BitVec.ofInt 8 d).toNat : Int)
 rw [h]
theorem zx3 (a b : Int) : bits .xor .u8 a b = bits .xor .u8 b a := zBs _ _ _ _ (BitVec.xor_comm _ _)
theorem zou (k : Nat → Int) (j i : Nat) (hi : i < 16) : ze1 k ((j * 16 + i) / 16) ((j * 16 + i) % 16) = ze1 k j i := by
 rw [show (j * 16 + i) / 16 = j from by omega, show (j * 16 + i) % 16 = i from by omega]
theorem zve : ∀ x, x < 256 → ((zgC x 2 : Nat) : Int) = zdT x := by
 have h : (List.range 256).all (fun x => decide (((zgC x 2 : Nat) : Int) = zdT x)) = true := by kernel_rfl
 exact fun x hx => of_decide_eq_true (List.all_eq_true.1 h x (List.mem_range.2 hx))
end
section
open Go.RowKit
attribute [local irreducible] zbK
def znb (x : Nat → Int) (i : Nat) : Int :=
 bits .xor .u8 (bits .xor .u8 (x i) (bits .xor .u8 (bits .xor .u8 (bits .xor .u8 (x 0) (x 1)) (x 2)) (x 3))) (zdT (bits .xor .u8 (x i) (x ((i + 1) % 4))))
def zmI (s : Nat → Int) (i r : Nat) : Int := zbK (s (4 * ((i + r) % 4) + r)).toNat
def zet (s : Nat → Int) (last : Bool) (q : Nat) : Int := if last then zmI s (q / 4) (q % 4) else znb (zmI s (q / 4)) (q % 4)
def zj3 (f g : Nat → Int) (i : Nat) : Int := bits .xor .u8 (f i) (g i)
def zi8 (k s : Nat → Int) : Nat → Nat → Int
 | 0 => zj3 s (ze1 k 0)
 | j + 1 => zj3 (zet (zi8 k s j) (decide (j + 1 = 10))) (ze1 k (j + 1))
def zuH (k s : Nat → Int) : Nat → Int := zi8 k s 10
theorem zsr (x : Nat → Int) (i : Nat) : 0 ≤ znb x i ∧ znb x i < 256 := zfQ _ _ _
theorem znc (s : Nat → Int) (hs : ∀ i, i < 16 → 0 ≤ s i ∧ s i < 256) (i r : Nat) (hr : r < 4) : 0 ≤ zmI s i r ∧ zmI s i r < 256 := by
 have := hs (4 * ((i + r) % 4) + r) (by omega)
 exact zsi _ (by omega)
theorem zss (f g : Nat → Int) (i : Nat) : 0 ≤ zj3 f g i ∧ zj3 f g i < 256 := zfQ _ _ _
theorem zg4 (k s : Nat → Int) (j i : Nat) : 0 ≤ zi8 k s j i ∧ zi8 k s j i < 256 := by
 cases j <;> exact zss _ _ _
theorem zdH (f : Nat → Int) (m i : Nat) : upd (fun i => if i < m then f i else 0) m (f m) i = if i < m + 1 then f i else 0 := ziK (fun _ => 0) f m i
theorem zkn (s : Nat → Int) (last : Bool) (m i : Nat) (hi : i < 16) (c : Nat → Int) (hc : ∀ r, r < 4 → c r = zet s last (4 * m + r)) : zcU (fun i => if i < 4 * m then zet s last i else 0) (4 * m) 4 c i = if i < 4 * (m + 1) then zet s last i else 0 := by
 unfold zcU
 by_cases h : 4 * m ≤ i ∧ i < 4 * m + 4
 ·rw [if_pos h, if_pos (by omega)]
  rw [hc _ (by omega), show 4 * m + (i - 4 * m) = i from by omega]
 ·rw [if_neg h]
  by_cases h2 : i < 4 * m
  ·rw [if_pos (show i < 4 * (m + 1) by omega)]; exact if_pos h2
  ·rw [if_neg (show ¬ i < 4 * (m + 1) by omega)]; exact if_neg h2
theorem zov (s : Nat → Int) (m r : Nat) (hr : r < 4) : zmI s m r = zet s true (4 * m + r) := by
 unfold zet
 rw [if_pos rfl, show (4 * m + r) / 4 = m from by omega, show (4 * m + r) % 4 = r from by omega]
theorem zst (s : Nat → Int) (m r : Nat) (hr : r < 4) : znb (zmI s m) r = zet s false (4 * m + r) := by
 unfold zet
 rw [if_neg Bool.false_ne_true, show (4 * m + r) / 4 = m from by omega, show (4 * m + r) % 4 = r from by omega]
theorem zsu (j : Nat) : (((j : Int) + 1) == 10) = decide (j + 1 = 10) := by
 rw [Bool.eq_iff_iff, beq_iff_eq, jS]
 omega
end
section
open Go.RowKit
section
variable {P : Program} {w : World}
theorem zvf (n : Nat) : madeCells #[Value.int .u8 0] n = arr .u8 n fun _ => 0 := by
 apply Array.ext_getElem?
 intro i
 by_cases hi : i < n
 ·rw [ze9 _ _ _ _ hi]; simp [madeCells, hi, Nat.mod_one]
 ·rw [Array.getElem?_eq_none (by rw [size_madeCells]; omega), Array.getElem?_eq_none (by rw [zct]; omega)]
theorem znd {t e : TypeId} (hT : ByteT P t e) (n : Nat) (hn : n ≤ 140737488355328) (w : World) :
  (Instr.makeSlice t (.int .i64 (n : Int)) (.int .i64 (n : Int))).run P w = .ok (.slice (some ⟨w.heap.size, 0, none⟩) n n) (w.alloc (.cells (arr .u8 n fun _ => 0) e)) := by
 have h := run_make_row' (P := P) t e (.int .u8 0) 1 hT.sl hT.info rfl .i64 .i64 n (by omega) (by omega) w
 rw [zvf] at h
 exact h
theorem zow {t e : TypeId} {o : Oper} {a : Act} {x y : Operand} (hT : ByteT P t e) {n : Nat} (hn : n ≤ 140737488355328) (ho : o.op = .makeSlice t x y) (hx : a.eval x = .int .i64 n) (hy : a.eval y = .int .i64 n) :
  (execOp a.eval o).run P w = .ok (.value (.slice (some ⟨w.heap.size, 0, none⟩) n n)) (w.alloc (.cells (arr .u8 n fun _ => 0) e)) := by
 unfold execOp
 simp only [ho, hx, hy, Sem.run_bind, znd hT n hn w, Result.andThen_ok, Sem.run_pure]
theorem zx4 {B R n : Nat} {e : TypeId} {f : Nat → Int} {l : List Nat} (hR : B ≤ R) (h : w.heap[R]? = some (.cells (arr .u8 n f) e (0, 0))) (hn : n ≤ 140737488355328) (hl : l.length = n) (hf : ∀ i, i < n → f i = ((l.getD i 0 : Nat) : Int)) :
  Own w B e (.slice (some ⟨R, 0, none⟩) n n) l := by
 subst hl
 refine ⟨by simp, .inr ⟨R, l.length, arr .u8 l.length f, rfl, hR, h, jV _, by unfold maxLen; omega, by rw [zct]; omega, ?_⟩⟩
 apply List.ext_getElem?
 intro i
 by_cases hi : i < l.length
 ·rw [List.getElem?_take_of_lt (by omega), Array.getElem?_toList, ze9 _ _ _ _ hi, hf i hi, List.getElem?_map, jP hi, jR, jP hi]
  rfl
 ·rw [List.getElem?_eq_none (by simp [zct]; omega), List.getElem?_eq_none (by simp; omega)]
def zwT (N n : Nat) (e : TypeId) : zfF := fun x w => ∃ R, x = .slice (some ⟨R, 0, none⟩) n n ∧ N ≤ R ∧ w.heap[R]? = some (.cells (arr .u8 n fun _ => 0) e (0, 0))
theorem zne (N n : Nat) (e : TypeId) : zhy (zwT N n e) := fun _ _ _ hb ⟨B, h1, h2, h3⟩ => ⟨B, h1, h2, (hb.block B (jM h3)).trans h3⟩
theorem zsv {ops : Array Oper} {Q : Exit → Act → World → Prop} {o : Oper} {r : zfF} {a : Act} {t e : TypeId} {x y : Operand} (hT : ByteT P t e) {n : Nat} (hn : n ≤ 140737488355328) (hg : Region.wanted o (yielded ops a.tmps) = true) (ho : o.op = .makeSlice t x y) (hx : a.eval x = .int .i64 n) (hy : a.eval y = .int .i64 n)
  (h : r (.slice (some ⟨w.heap.size, 0, none⟩) n n) (w.alloc (.cells (arr .u8 n fun _ => 0) e))) : zbX P ops Q o r a w := by
 unfold zbX
 rw [if_pos hg]
 unfold Oper.wp
 rw [zow hT hn ho hx hy]
 exact ⟨(Below.refl _ _).alloc (jV _) _, _, rfl, h⟩
theorem zox {ops : Array Oper} {Q : Exit → Act → World → Prop} {o : Oper} {r : zfF} {a : Act} {x : Operand} (hg : Region.wanted o (yielded ops a.tmps) = true) (ho : o.op = .assign x) (h : r (a.eval x) w) : zbX P ops Q o r a w :=
 zpp hg (by unfold execOp; rw [ho]; rfl) h
end
section
variable {P : Program} {w : World} {o : Oper} {a : Act} {N : Nat}
theorem zgD {t : TypeId} {x : Operand} {ad : Addr} {v : Value} (ho : o.op = .load t x) (hu : P.underlying t = some (.int .u8)) (hx : a.eval x = .pointer (some ad)) (hc : w.cell? ad = some v) : (execOp a.eval o).run P w = .ok (.value v) w := by
 unfold execOp
 rw [ho]
 simp [hx, Instr.loadAt, Instr.sureAddr, loadVar, isAgg, run_underlying hu, hc]
theorem zaT.loadC {t : TypeId} {x : Operand} {ad : Addr} {v : Value} (ho : o.op = .load t x) (hu : P.underlying t = some (.int .u8)) (hx : a.eval x = .pointer (some ad)) (hb : ad.block < N) (hc : w.cell? ad = some v) : zaT P N o a w := by
 intro u hv w' hk
 rw [zgD ho hu hx hc] at hv
 have hc' : w'.cell? ad = some v := by
  rw [← hc]
  unfold World.cell?
  rw [hk _ hb]
 rw [zgD ho hu hx hc']
 injection hv with h1 h2
 rw [h1]
end
def zBt (w : World) (B : Nat) (A : Option Addr) (n : Nat) (e : TypeId) : Prop := 0 < n → ∃ g cur, A = some ⟨g, 0, none⟩ ∧ B ≤ g ∧ w.heap[g]? = some (.cells cur e (0, 0)) ∧ ∀ i, i < n → ∃ z : Int, cur[i]? = some (.int .u8 z) ∧ 0 ≤ z ∧ z < 256
theorem zBt.step {w : World} {B n i : Nat} {A : Option Addr} {e : TypeId} (h : zBt w B A n e) (hi : i < n) : ∃ (g : Nat) (z : Int), A = some ⟨g, 0, none⟩ ∧ B ≤ g ∧ w.cell? ⟨g, i, none⟩ = some (.int .u8 z) ∧ w.frozen? ⟨g, i, none⟩ = false ∧ 0 ≤ z ∧ z < 256 ∧
  ∀ v : Int, 0 ≤ v → v < 256 → zBt (w.setCell ⟨g, i, none⟩ (.int .u8 v)) B A n e := by
 obtain ⟨g, cur, rfl, hg, hh, hc⟩ := h (by omega)
 obtain ⟨z, hz, h0, h1⟩ := hc i hi
 refine ⟨g, z, rfl, hg, by rw [cell_of_row _ _ _ _ _ _ hh]; exact hz, frozen_of_row w g i _ e hh, h0, h1, fun v hv0 hv1 _ => ⟨g, cur.setIfInBounds i (.int .u8 v), rfl, hg, ?_, fun j hj => ?_⟩⟩
 ·rw [setCell_eq_setRow w g i cur e (0, 0) (.int .u8 v) hh]
  exact setRow_heap w g cur _ e (0, 0) hh
 ·by_cases hji : i = j
  ·subst hji
   have hs : i < cur.size := by
    rcases Nat.lt_or_ge i cur.size with h | h
    ·exact h
    ·rw [Array.getElem?_eq_none h] at hz; cases hz
   exact ⟨v, by simp [hs], hv0, hv1⟩
  ·obtain ⟨y, hy, h2, h3⟩ := hc j hj
   exact ⟨y, by rw [Array.getElem?_setIfInBounds_ne hji]; exact hy, h2, h3⟩
def inI (m : Nat → Int) (t : Nat) (i : Nat) : Int := if i < 12 then m i else ((t / 2 ^ (8 * (15 - i)) % 256 : Nat) : Int)
def zqT (k m : Nat → Int) (F : Nat) (l : List Nat) (x : Nat) : Int := bits .xor .u8 ((l.getD x 0 : Nat) : Int) (zuH k (inI m (F + x / 16)) (x % 16))
def zsw (k m : Nat → Int) (F : Nat) (l : List Nat) : List Nat := (List.range l.length).map fun x => (zqT k m F l x).toNat
theorem zpy (m : Nat → Int) (hm : ∀ i, i < 12 → 0 ≤ m i ∧ m i < 256) (t i : Nat) : 0 ≤ inI m t i ∧ inI m t i < 256 := by
 unfold inI
 split
 ·exact hm i ‹_›
 ·have : t / 2 ^ (8 * (15 - i)) % 256 < 256 := Nat.mod_lt _ (by omega)
  omega
theorem zx5 (q m : Nat → Int) (t : Nat) (T : Int) (hT : T = t) (ht : t < 4294967296) (hq : ∀ x, x < 12 → q x = m x) (i : Nat) (hi : i < 16) : upd (upd (upd (upd q 12 (T / 16777216)) 13 (T / 65536 % 256)) 14 (T / 256 % 256)) 15 (T % 256) i = inI m t i := by
 subst hT
 unfold upd inI
 by_cases h1 : i < 12
 ·rw [if_pos h1, if_neg (by omega), if_neg (by omega), if_neg (by omega), if_neg (by omega), hq i h1]
 ·rw [if_neg h1]
  obtain rfl | rfl | rfl | rfl : i = 12 ∨ i = 13 ∨ i = 14 ∨ i = 15 := by omega
  all_goals simp
  all_goals omega
theorem zi9 (g : Nat → Int) (y : Nat) (v : Int) (i : Nat) (hv : v = g y) : upd (fun x => if x < y then g x else 0) y v i = if i < y + 1 then g i else 0 := by
 subst hv
 unfold upd
 by_cases h1 : i = y
 ·subst h1; rw [if_pos rfl, if_pos (Nat.lt_succ_self _)]
 ·rw [if_neg h1]
  by_cases h2 : i < y
  ·simp only [if_pos h2, if_pos (show i < y + 1 by omega)]
  ·simp only [if_neg h2, if_neg (show ¬ i < y + 1 by omega)]
theorem zja (k m : Nat → Int) (F : Nat) (l : List Nat) (x : Nat) : 0 ≤ zqT k m F l x ∧ zqT k m F l x < 256 := zfQ _ _ _
theorem zpz (k m : Nat → Int) (F : Nat) (l : List Nat) : (zsw k m F l).length = l.length := by unfold zsw; simp
theorem zx6 (k m : Nat → Int) (F : Nat) (l : List Nat) (x : Nat) (hx : x < l.length) : (((zsw k m F l).getD x 0 : Nat) : Int) = zqT k m F l x := by
 unfold zsw
 rw [jR, List.getElem?_map, List.getElem?_range hx]
 simp only [Option.map_some, jO]
 exact Int.toNat_of_nonneg (zja k m F l x).1
theorem zx7 (k m : Nat → Int) (F : Nat) (l : List Nat) : ∀ x ∈ zsw k m F l, x < 256 := fun x hx => by
 unfold zsw at hx
 obtain ⟨i, _, rfl⟩ := List.mem_map.1 hx
 have := zja k m F l i
 omega
theorem zx8 : zeT Tryz.prog 51 12 := ⟨_, Tryz.underlying51, rfl, by kernel_rfl⟩
def zwU (w : World) (l : List Nat) (e : Ending) (w' : World) : Prop := ∃ v, e = .returned (.tuple #[v, .int .i64 0]) ∧ Own w' w.heap.size 5 v l ∧ Below w.heap.size w w'
end
section
open Go.RowKit
attribute [local irreducible] zbK
theorem zaQ : zeT Tryz.prog 49 16 := ⟨_, Tryz.underlying49, rfl, by kernel_rfl⟩
theorem zoy : zeT Tryz.prog 118 256 := ⟨_, Tryz.underlying118, rfl, by kernel_rfl⟩
theorem zx9 : zcy Tryz.prog 118 .u8 256 := by unfold zcy; kernel_rfl
theorem zjb (x : Int) (h0 : 0 ≤ x) (h1 : x < 256) (w : World) :
  Calls Tryz.prog 90 #[.int .u8 x] w fun e w' => e = .returned (.int .u8 (zdT x)) ∧ w = w' := by
 go_enter Tryz.func90, Tryz.ntmps90
 go_wp2
 go_ret
 exact ⟨rfl, rfl⟩
theorem zvg (x : Int) (n : Nat) (h8 : n ≤ 8) (w : World) :
  Calls Tryz.prog 118 #[.int .u8 x, .int .i64 n] w fun e w' => e = .returned (.int .u8 (zqS x n)) ∧ ∃ m, w' = w.drewN m := by
 go_enter Tryz.func118, Tryz.ntmps118
 go_wp2
 go_quiet (fail)
 go_wp2
 go_ret
 exact ⟨rfl, _, rfl⟩
theorem zvh (x n : Int) (h0 : 0 ≤ n) (h8 : n ≤ 8) (w : World) :
  Calls Tryz.prog 118 #[.int .u8 x, .int .i64 n] w fun e w' => e = .returned (.int .u8 (zqS x n.toNat)) ∧ ∃ m, w' = w.drewN m := by
 obtain ⟨k, rfl⟩ := Int.eq_ofNat_of_zero_le h0
 exact zvg x k (by omega) w
theorem zsx (p q : Int) (h0 : 0 ≤ p) (h1 : p < 256) (h2 : 0 ≤ q) (h3 : q < 256) (w : World) :
  Calls Tryz.prog 117 #[.int .u8 p, .int .u8 q] w fun e w' => e = .returned (.tuple #[.int .u8 (zkk p), .int .u8 (zx0 q)]) ∧ w = w' := by
 go_enter Tryz.func117, Tryz.ntmps117
 go_wp2_with (go_at_call 90; refine (zjb _ (by omega) (by omega) _).mono ?_; rintro e w' ⟨rfl, rfl⟩)
 go_ret2
 exact ⟨rfl, rfl⟩
theorem zsy (w : World) :
  Calls Tryz.prog 89 #[] w fun e w' => e = .returned (.agg (arr .u8 256 zbK)) ∧ Below w.heap.size w w' := by
 go_enter Tryz.func89, Tryz.ntmps89
 go_wp2_with (refine zae rfl rfl zx9 ?_)
 obtain ⟨h0, -, hb⟩ := zb6 w (.cells (arr .u8 256 fun _ => 0) 118)
 revert h0 hb
 generalize w.alloc (.cells (arr .u8 256 fun _ => 0) 118) = w0
 intro h0 hb
 go_loopg [2, 3, 4] 255 (fun k p q m wr => ∃ r : Nat, r + k = 255 ∧ p = .int .u8 (zbU.getD r 0) ∧ q = .int .u8 (zpu.getD r 0) ∧ m = .bool (decide (r < 255)) ∧
   wr.heap[w.heap.size]? = some (.cells (arr .u8 256 (zwQ r)) 118 (0, 0)) ∧ Below w.heap.size w wr ∧ 0 ≤ zbU.getD r 0 ∧ zbU.getD r 0 < 256 ∧ 0 ≤ zpu.getD r 0 ∧ zpu.getD r 0 < 256)
 case atStart =>
  exact ⟨0, by omega, rfl, rfl, rfl, zaf h0 (fun i _ => (zsh i).symm), hb, by decide, by decide, by decide, by decide⟩
 case round =>
  obtain ⟨r, hr, rfl, rfl, rfl, g0, hB, a1, a2, a3, a4⟩ := hrel
  clear h0 hb
  by_cases hlt : r < 255
  ·have hs := Lib.hid (zi7 r hlt)
   have hk := Lib.hid (zsg r hlt)
   have hd : decide (r < 255) = true := by simpa using hlt
   rw [hd]
   have b1 := hs.out.2.2.2.1
   have b2 := hs.out.2.2.2.2.1
   have b3 := hs.out.2.2.2.2.2.1
   have b4 := hs.out.2.2.2.2.2.2.1
   rw [← hs.out.1] at b1 b2
   rw [← hs.out.2.1] at b3 b4
   have hr' := Lib.hid hr
   clear hr hd
   generalize hP : zbU.getD r 0 = p at *
   generalize hQ : zpu.getD r 0 = q at *
   have hP' := Lib.hid hP
   have hQ' := Lib.hid hQ
   clear hP hQ
   have c0 := zaj g0 (zkk p).toNat (by omega)
   have fz := zaH g0 (zkk p).toNat
   go_wp2_with (first | (go_at_call 117; (with_reducible refine (zsx _ _ (by omega) (by omega) (by omega) (by omega) _).mono ?_); rintro e w' ⟨rfl, rfl⟩) | (go_at_call 118; (with_reducible refine (zvh _ _ (by omega) (by omega) _).mono ?_); rintro e w' ⟨rfl, m1, rfl⟩))
   have hs' := hs.out
   have e3 := hs'.2.2.1
   have e8 := hs'.2.2.2.2.2.2.2
   have hr'' := hr'.out
   have hk' := hk.out
   rw [← e3, ← hs'.1, ← hs'.2.1] at hk'
   go_roundg (gk - 1)
   case measure => omega
   case rel =>
    refine ⟨r + 1, by omega, by rw [← hs'.1], by rw [← hs'.2.1], by rw [← e8, ← hs'.1], zaf (zaL g0 (zkk p).toNat _) (fun i _ => ?_), (Go.below_drewN hB _).setCell (jV _) _, by rw [← hs'.1]; exact Int.le_of_lt b1, by rw [← hs'.1]; exact b2, by rw [← hs'.2.1]; exact b3, by rw [← hs'.2.1]; exact b4⟩
    rw [← hk' i]; rfl
  ·have h255 : r = 255 := by omega
   subst h255
   have c0 := zaj g0 0 (by omega)
   have fz := zaH g0 0
   have g1 := zaf (zaL g0 0 99) (fun i hi => zu8 i hi)
   clear g0
   go_wp2_with (first | (refine zab rfl rfl rfl zoy (by assumption) ?_) | (refine zac rfl rfl rfl rfl zoy (by assumption) ?_))
   exact bodyPost_ret (zaw rfl rfl zoy (zan g1)) rfl ⟨rfl, zam (hB.setCell (jV _) _) (by omega) _⟩
theorem zg5 : zhR Tryz.prog 122 1 := ⟨_, _, 175, Tryz.underlying122, rfl, by kernel_rfl⟩
theorem zdI : zcy Tryz.prog 49 .u8 16 := by unfold zcy; kernel_rfl
theorem znf : Tryz.prog.built 122 [(0, .agg (arr .u8 256 zbK))] = some (arr .u8 432 fun i => if i < 256 then zbK i else 0) := by kernel_rfl
end
section
open Go.RowKit
attribute [local irreducible] zbK
theorem zz6 (k : Nat → Int) (hk : ∀ i, i < 16 → 0 ≤ k i ∧ k i < 256) (w : World) :
  Calls Tryz.prog 64 #[.agg (arr .u8 16 k)] w fun e w' => ∃ C, e = .returned (.pointer (some ⟨C, 0, none⟩)) ∧ w.heap.size ≤ C ∧ w'.heap[C]? = some (.cells (arr .u8 432 (zif k 10)) 122 (0, 0)) ∧ Below w.heap.size w w' := by
 go_enter Tryz.func64, Tryz.ntmps64
 go_wp2_with fail
 refine (zsy _).mono ?_
 rintro e w1 ⟨rfl, hb1⟩
 have g0 : w1.heap[w.heap.size]? = some (.cells (arr .u8 16 k) 49) := by
  rw [hb1.block _ (by simp)]; exact heap_alloc_new w _
 have hb0 : Below w.heap.size w w1 := ((Below.refl _ _).alloc (jV _) _).trans (hb1.mono (by simp))
 have hs1 : w.heap.size < w1.heap.size := by have := hb1.size; simp at this; omega
 clear hb1
 go_wp2_with (refine zhQ (l := [(0, .agg (arr .u8 256 zbK))]) (c := arr .u8 432 fun i => if i < 256 then zbK i else 0) rfl rfl ?hl ?hb ?h)
 case hb => exact znf
 obtain ⟨gC, hsz, hb2⟩ := zb6 w1 (.cells (arr .u8 432 fun i => if i < 256 then zbK i else 0) 122)
 have g0' := (hb2.block _ hs1).trans g0
 have hb3 : Below w.heap.size w _ := hb0.trans (hb2.mono (Nat.le_of_lt hs1))
 revert gC hsz g0' hb3
 generalize hC : w1.heap.size = C at *
 clear hb2 hb0 g0
 generalize w1.alloc (.cells (arr .u8 432 fun i => if i < 256 then zbK i else 0) 122) = w2
 intro gC _ g0 hb
 have hC' := Lib.hid hC
 clear hC
 refine zax 5 (by kernel_rfl) (by kernel_rfl) ?_
 simp only [jH, jI, jF, jG]
 still_step
 refine zh8 rfl rfl rfl zaQ g0 ?_
 repeat still_step
 refine wpStill_nil ?_
 go_wp2_with (refine zcm rfl rfl rfl rfl zaQ gC (by omega) ?_)
 go_loopg [4, 18] 10 (fun n add j wr => ∃ i : Nat, i + n = 10 ∧ j = .int .i64 i ∧ add = .int .u8 (zkm i) ∧ wr.heap[C]? = some (.cells (arr .u8 432 (zif k i)) 122 (0, 0)) ∧ Below w.heap.size w wr)
 case atStart =>
  refine ⟨0, by omega, rfl, rfl, zaf (zan (w := w2.drew) gC) (fun i hi => zsj k i hi), zam hb.drew (by have := hC'.out; omega) _⟩
 case round =>
  obtain ⟨j, hj, rfl, rfl, g1, hB⟩ := hrel
  obtain ⟨go1, rfl⟩ : ∃ x, x = gk := ⟨_, rfl⟩
  have hwC : w.heap.size ≤ C := by have := hC'.out; omega
  have hj' := Lib.hid hj
  clear gC g0 hb hj
  by_cases hlt : j < 10
  ·have hCl := jM g1
   go_wp2
   refine wp_region_can wr.heap.size 14 [(0, false), (1, false), (2, false), (3, false), (4, false), (5, false), (6, false), (7, false), (8, false), (9, false), (10, false), (11, false), (12, true), (13, true)] (by kernel_rfl) (by kernel_rfl) ?_
   (simp only [canOps, jD, jE, jF, jG])
   iterate 5 (first | (refine zaA rfl rfl (fun _ _ _ _ h => h) ?_; (simp only [Act.put, Act.eval, jN, jL, jD, jE, jO, jA, jB, jC])) | (refine zas rfl rfl (fun _ _ _ _ h => h) ?_; (simp only [Act.put, Act.eval, jN, jL, jD, jE, jO, jA, jB, jC])) | (refine zao rfl rfl rfl (fun _ _ _ _ h => h) ?_; (simp only [Act.put, jA, jB, jC])) | (refine za3 rfl rfl (fun _ _ _ _ h => h) (by first | exact .bin rfl rfl rfl | exact .indexAddr rfl | exact .un rfl | exact .extract rfl | exact .index rfl | exact .field rfl | exact .slice rfl | exact .fieldT rfl zg5) (fun K hK => ?_); go_simp; (try (simp only [↓IntWalk.iteOmega]; go_simp)); (try go_bits); refine hK _ ?_; clear hK K))
   refine zdL (off := 256 + j * 16) rfl rfl rfl (fun _ _ _ _ h => h) zaQ hCl g1 (by omega) ?_
   (try simp only [Act.put, jA, jB, jC])
   iterate 6 (first | (refine zaA rfl rfl (fun _ _ _ _ h => h) ?_; (simp only [Act.put, Act.eval, jN, jL, jD, jE, jO, jA, jB, jC])) | (refine zas rfl rfl (fun _ _ _ _ h => h) ?_; (simp only [Act.put, Act.eval, jN, jL, jD, jE, jO, jA, jB, jC])) | (refine zao rfl rfl rfl (fun _ _ _ _ h => h) ?_; (simp only [Act.put, jA, jB, jC])) | (refine za3 rfl rfl (fun _ _ _ _ h => h) (by first | exact .bin rfl rfl rfl | exact .indexAddr rfl | exact .un rfl | exact .extract rfl | exact .index rfl | exact .field rfl | exact .slice rfl | exact .fieldT rfl zg5) (fun K hK => ?_); go_simp; (try (simp only [↓IntWalk.iteOmega]; go_simp)); (try go_bits); refine hK _ ?_; clear hK K))
   refine zb8 rfl rfl zdI (jV _) ?_
   refine zdm rfl rfl rfl rfl zaQ (jV _) (heap_alloc_new _ _) ?_
   refine wpCan_nil ?_
   (try simp only [Act.put, jA, jB, jC])
   go_wp2
   simp only [World.size_drew]
   have hBl : w.heap.size ≤ wr.heap.size := hB.size
   refine zpb (fun w' => w'.heap[wr.heap.size]? = some (.cells (arr .u8 16 (ze1 k j)) 49 (0, 0)) ∧ w'.heap[C]? = some (.cells (arr .u8 432 (zos k j 0)) 122 (0, 0)) ∧ Below w.heap.size w w')
    ⟨zaf (zan (w := wr.drew.alloc _) (heap_alloc_new wr.drew _)) (fun i hi => by rw [Nat.mul_comm j 16]; exact zpw k j j i (jV _) hi),
     zaf (zad (w := wr.drew.alloc _) ((Below.heap_alloc wr.drew _ _ hCl).trans g1) (by omega)) (fun i _ => (zsk k j i).symm), zam (hB.drew.alloc hBl _) hBl _⟩ ?_
   rintro w3 ⟨gk0, gC0, hB0⟩
   generalize wr.heap.size = Bk at *
   go_loopg [33] 16 (fun n i wr => ∃ m : Nat, m + n = 16 ∧ i = .int .i64 m ∧ wr.heap[Bk]? = some (.cells (arr .u8 16 (ze1 k j)) 49 (0, 0)) ∧ wr.heap[C]? = some (.cells (arr .u8 432 (zos k j m)) 122 (0, 0)) ∧ Below w.heap.size w wr)
   case atStart => exact ⟨0, by omega, rfl, gk0, gC0, hB0⟩
   case round =>
    obtain ⟨m, hm, rfl, gW, gC, hBm⟩ := hrel
    have hm' := Lib.hid hm
    clear gk0 gC0 hB0 hm g1 hB
    by_cases hlm : m < 16
    ·have hkb := Lib.hid (zm9 k hk j)
     have cw := zaj gW m hlm
     have cs := zaj gC (256 + (j + 1) * 16 + m) (by omega)
     have fz := zaH gC (256 + (j + 1) * 16 + m)
     rcases (by omega : m = 0 ∨ m = 1 ∨ m = 2 ∨ m = 3 ∨ 4 ≤ m) with rfl | rfl | rfl | rfl | h4
     ·simp only [Nat.add_zero] at cs fz cw
      have kb := hkb.out 13 (by omega)
      have cb := zaj gC (ze1 k j 13).toNat (by omega)
      have cv := zaj gW 13 (by omega)
      go_wp2
      refine zax 9 (by kernel_rfl) (by kernel_rfl) ?_
      (simp only [jH, jI, jF, jG])
      repeat (refine wpStill_step (fun K hK => ?_); go_simp; (try (simp only [↓IntWalk.iteOmega]; go_simp)); (try go_bits); refine hK _ ?_; clear hK K)
      refine wpStill_nil ?_
      go_wp2
      refine zax 9 (by kernel_rfl) (by kernel_rfl) ?_
      (simp only [jH, jI, jF, jG])
      repeat (refine wpStill_step (fun K hK => ?_); go_simp; (try (simp only [↓IntWalk.iteOmega]; go_simp)); (try go_bits); refine hK _ ?_; clear hK K)
      refine wpStill_nil ?_
      go_wp2
      go_roundg (gk - 1)
      case measure => have := hm'.out; omega
      case rel =>
       have hm'' := hm'.out
       refine ⟨1, by omega, rfl, zar gW _ _ (by omega), zaf (zaL gC _ _) (fun i _ => (ze2 k j 0 _ (by omega) i _ ?_)), Go.below_drewN (hBm.setCell hwC _) 2⟩
       rw [ziu _ _ _ _ (by omega)]; rfl
     ·have kb := hkb.out 14 (by omega)
      have cb := zaj gC (ze1 k j 14).toNat (by omega)
      have cv := zaj gW 14 (by omega)
      go_wp2
      refine zax 11 (by kernel_rfl) (by kernel_rfl) ?_
      (simp only [jH, jI, jF, jG])
      repeat (refine wpStill_step (fun K hK => ?_); go_simp; (try (simp only [↓IntWalk.iteOmega]; go_simp)); (try go_bits); refine hK _ ?_; clear hK K)
      refine wpStill_nil ?_
      go_wp2
      refine zax 9 (by kernel_rfl) (by kernel_rfl) ?_
      (simp only [jH, jI, jF, jG])
      repeat (refine wpStill_step (fun K hK => ?_); go_simp; (try (simp only [↓IntWalk.iteOmega]; go_simp)); (try go_bits); refine hK _ ?_; clear hK K)
      refine wpStill_nil ?_
      go_wp2
      go_roundg (gk - 1)
      case measure => have := hm'.out; omega
      case rel =>
       have hm'' := hm'.out
       refine ⟨2, by omega, rfl, zar gW _ _ (by omega), zaf (zaL gC _ _) (fun i _ => (ze2 k j 1 _ (by omega) i _ ?_)), Go.below_drewN (hBm.setCell hwC _) 2⟩
       rw [ziu _ _ _ _ (by omega)]; rfl
     ·have kb := hkb.out 15 (by omega)
      have cb := zaj gC (ze1 k j 15).toNat (by omega)
      have cv := zaj gW 15 (by omega)
      go_wp2
      refine zax 11 (by kernel_rfl) (by kernel_rfl) ?_
      (simp only [jH, jI, jF, jG])
      repeat (refine wpStill_step (fun K hK => ?_); go_simp; (try (simp only [↓IntWalk.iteOmega]; go_simp)); (try go_bits); refine hK _ ?_; clear hK K)
      refine wpStill_nil ?_
      go_wp2
      refine zax 9 (by kernel_rfl) (by kernel_rfl) ?_
      (simp only [jH, jI, jF, jG])
      repeat (refine wpStill_step (fun K hK => ?_); go_simp; (try (simp only [↓IntWalk.iteOmega]; go_simp)); (try go_bits); refine hK _ ?_; clear hK K)
      refine wpStill_nil ?_
      go_wp2
      go_roundg (gk - 1)
      case measure => have := hm'.out; omega
      case rel =>
       have hm'' := hm'.out
       refine ⟨3, by omega, rfl, zar gW _ _ (by omega), zaf (zaL gC _ _) (fun i _ => (ze2 k j 2 _ (by omega) i _ ?_)), Go.below_drewN (hBm.setCell hwC _) 2⟩
       rw [ziu _ _ _ _ (by omega)]; rfl
     ·have kb := hkb.out 12 (by omega)
      have cb := zaj gC (ze1 k j 12).toNat (by omega)
      have cv := zaj gW 12 (by omega)
      go_wp2
      refine zax 11 (by kernel_rfl) (by kernel_rfl) ?_
      (simp only [jH, jI, jF, jG])
      repeat (refine wpStill_step (fun K hK => ?_); go_simp; (try (simp only [↓IntWalk.iteOmega]; go_simp)); (try go_bits); refine hK _ ?_; clear hK K)
      refine wpStill_nil ?_
      go_wp2
      refine zax 9 (by kernel_rfl) (by kernel_rfl) ?_
      (simp only [jH, jI, jF, jG])
      repeat (refine wpStill_step (fun K hK => ?_); go_simp; (try (simp only [↓IntWalk.iteOmega]; go_simp)); (try go_bits); refine hK _ ?_; clear hK K)
      refine wpStill_nil ?_
      go_wp2
      go_roundg (gk - 1)
      case measure => have := hm'.out; omega
      case rel =>
       have hm'' := hm'.out
       refine ⟨4, by omega, rfl, zar gW _ _ (by omega), zaf (zaL gC _ _) (fun i _ => (ze2 k j 3 _ (by omega) i _ ?_)), Go.below_drewN (hBm.setCell hwC _) 2⟩
       rw [ziu _ _ _ _ (by omega)]; rfl
     ·have cn := zaj gC (256 + (j + 1) * 16 + (m - 4)) (by omega)
      go_wp2
      refine zax 9 (by kernel_rfl) (by kernel_rfl) ?_
      (simp only [jH, jI, jF, jG])
      repeat (refine wpStill_step (fun K hK => ?_); go_simp; (try (simp only [↓IntWalk.iteOmega]; go_simp)); (try go_bits); refine hK _ ?_; clear hK K)
      refine wpStill_nil ?_
      go_wp2
      go_roundg (gk - 1)
      case measure => have := hm'.out; omega
      case rel =>
       have hm'' := hm'.out
       refine ⟨m + 1, by omega, by go_num, zar gW _ _ (by omega), zaf (zaL gC _ _) (fun i _ => (ze2 k j m _ (by omega) i _ ?_)), Go.below_drewN (hBm.setCell hwC _) 1⟩
       rw [zhV _ _ m h4, show 256 + (j + 1) * 16 + (m - 4) = 256 + 16 * (j + 1) + (m - 4) from by omega, zu9 _ _ _ _ (by omega)]
    ·obtain rfl : m = 16 := by have := hm'.out; omega
     have ab := zm8 j
     have g2 := zaf gC (fun i _ => zso k j i)
     clear gC gW
     go_wp2_with (go_at_call 90; (with_reducible refine (zjb _ (by omega) (by omega) _).mono ?_); rintro e w' ⟨rfl, rfl⟩)
     go_roundg (go1 - 1)
     case measure => have := hj'.out; omega
     case rel =>
      have hj'' := hj'.out
      exact ⟨j + 1, by omega, by go_num, rfl, g2, hBm⟩
  ·obtain rfl : j = 10 := by have := hj'.out; omega
   go_wp2
   go_ret
   exact ⟨C, rfl, hwC, g1, hB⟩
end
section
open Go.RowKit
attribute [local irreducible] zbK
theorem zpA : zeT Tryz.prog 120 176 := ⟨_, Tryz.underlying120, rfl, by kernel_rfl⟩
theorem zsz : zcy Tryz.prog 120 .u8 176 := by unfold zcy; kernel_rfl
end
section
open Go.RowKit
attribute [local irreducible] zbK
theorem zig : zeT Tryz.prog 161 4 := ⟨_, Tryz.underlying161, rfl, by kernel_rfl⟩
theorem zvi : zcy Tryz.prog 161 .u8 4 := by unfold zcy; kernel_rfl
theorem zsA (f g : Nat → Int) (w : World) :
  Calls Tryz.prog 91 #[.agg (arr .u8 16 f), .agg (arr .u8 16 g)] w fun e w' => e = .returned (.agg (arr .u8 16 (zj3 f g))) ∧ Below w.heap.size w w' := by
 go_enter Tryz.func91, Tryz.ntmps91
 go_wp2_with (refine zae rfl rfl zdI ?_)
 obtain ⟨h0, h1, h2, hsz, hb⟩ := zdb w (.cells (arr .u8 16 f) 49) (.cells (arr .u8 16 g) 49) (.cells (arr .u8 16 fun _ => 0) 49)
 go_loopg [6] 16 (fun n i wr => ∃ m : Nat, m + n = 16 ∧ i = .int .i64 m ∧ wr.heap[w.heap.size]? = some (.cells (arr .u8 16 fun i => if i < m then zj3 f g i else f i) 49 (0, 0)) ∧
  wr.heap[w.heap.size + 1]? = some (.cells (arr .u8 16 g) 49 (0, 0)) ∧ wr.heap[w.heap.size + 1 + 1]? = some (.cells (arr .u8 16 fun _ => 0) 49 (0, 0)) ∧ Below w.heap.size w wr)
 case atStart => exact ⟨0, rfl, rfl, by simpa using h0, h1, h2, hb⟩
 case round =>
  obtain ⟨m, hm, rfl, g0, g1, g2, hB⟩ := hrel
  have hm' := Lib.hid hm
  clear h0 h1 h2 hsz hb hm
  by_cases hlt : m < 16
  ·have c0 := zaj g0 m hlt
   have c1 := zaj g1 m hlt
   have fz := zaH g0 m
   simp only [Nat.lt_irrefl, if_false] at c0
   go_wp2
   refine zax 8 (by kernel_rfl) (by kernel_rfl) ?_
   (simp only [jH, jI, jF, jG])
   repeat (refine wpStill_step (fun K hK => ?_); go_simp; (try (simp only [↓IntWalk.iteOmega]; go_simp)); (try go_bits); refine hK _ ?_; clear hK K)
   refine wpStill_nil ?_
   go_wp2
   go_roundg (gk - 1)
   case measure => have := hm'.out; omega
   case rel =>
    have hm'' := hm'.out
    exact ⟨m + 1, by omega, by go_num, zaf (zaL g0 m _) (fun i _ => ziK f (zj3 f g) m i), zar g1 _ _ (by omega), zar g2 _ _ (by omega), (hB.setCell (jV _) _).drew⟩
  ·obtain rfl : m = 16 := by have := hm'.out; omega
   have g0' := zaf (f' := zj3 f g) g0 (fun i hi => if_pos hi)
   clear g0
   go_wp2_with (first | (refine zab rfl rfl rfl zaQ g0' ?_) | (refine zac rfl rfl rfl rfl zaQ g2 ?_))
   exact bodyPost_ret (zaw rfl rfl zaQ (zan g2)) rfl ⟨rfl, zam hB (by omega) _⟩
theorem zqU (x : Nat → Int) (w : World) :
  Calls Tryz.prog 119 #[.agg (arr .u8 4 x)] w fun e w' => e = .returned (.agg (arr .u8 4 (znb x))) ∧ Below w.heap.size w w' := by
 go_enter Tryz.func119, Tryz.ntmps119
 obtain ⟨h0, h1, hsz, hb⟩ := zcb w (.cells (arr .u8 4 x) 161) (.cells (arr .u8 4 fun _ => 0) 161)
 have c0 := zaj h0 0 (by omega)
 have c1 := zaj h0 1 (by omega)
 have c2 := zaj h0 2 (by omega)
 have c3 := zaj h0 3 (by omega)
 go_wp2_with (refine zae rfl rfl zvi ?_)
 clear c0 c1 c2 c3
 go_loopg [16] 4 (fun n i wr => ∃ m : Nat, m + n = 4 ∧ i = .int .i64 m ∧ wr.heap[w.heap.size]? = some (.cells (arr .u8 4 x) 161 (0, 0)) ∧
  wr.heap[w.heap.size + 1]? = some (.cells (arr .u8 4 fun i => if i < m then znb x i else 0) 161 (0, 0)) ∧ Below w.heap.size w wr)
 case atStart => exact ⟨0, rfl, rfl, h0, by simpa using h1, hb⟩
 case round =>
  obtain ⟨m, hm, rfl, g0, g1, hB⟩ := hrel
  have hm' := Lib.hid hm
  clear h0 h1 hsz hb hm
  have hl0 := jM g0
  have hl1 := jM g1
  by_cases hlt : m < 4
  ·have c0 := zaj g0 m hlt
   have c1 := zaj g0 ((m + 1) % 4) (by omega)
   have c2 := zaj g1 m hlt
   have fz := zaH g1 m
   have tb := zfQ .xor (x m) (x ((m + 1) % 4))
   go_wp2
   refine wp_region_can wr.heap.size 18 [(0, false), (1, false), (2, false), (3, false), (4, false), (5, false), (6, false), (7, false), (8, false), (9, false), (10, false), (11, false), (12, false), (13, false), (14, false), (15, true), (16, false), (17, false)] (by kernel_rfl) (by kernel_rfl) ?_
   (simp only [canOps, jD, jE, jF, jG])
   iterate 15 (first | (refine zaA rfl rfl (fun _ _ _ _ h => h) ?_; (simp only [Act.put, Act.eval, jN, jL, jD, jE, jO, jA, jB, jC])) | (refine zas rfl rfl (fun _ _ _ _ h => h) ?_; (simp only [Act.put, Act.eval, jN, jL, jD, jE, jO, jA, jB, jC])) | (refine zao rfl rfl rfl (fun _ _ _ _ h => h) ?_; (simp only [Act.put, jA, jB, jC])) | (refine za3 rfl rfl (fun _ _ _ _ h => h) (by first | exact .bin rfl rfl rfl | exact .indexAddr rfl | exact .un rfl | exact .extract rfl | exact .index rfl | exact .field rfl | exact .slice rfl | exact .load rfl rfl hl0 g0) (fun K hK => ?_); go_simp; (try (simp only [↓IntWalk.iteOmega]; go_simp)); (try go_bits); refine hK _ ?_; clear hK K))
   refine wpCan_e rfl (fun K hK => ?_)
   go_simp
   refine (zjb _ (by omega) (by omega) _).mono ?_
   rintro e w9 ⟨rfl, rfl⟩
   refine hK _ _ (Keep.refl _ _) ?_
   clear hK K
   (try simp only [Act.put, jA, jB, jC])
   iterate 2 (first | (refine zaA rfl rfl (fun _ _ _ _ h => h) ?_; (simp only [Act.put, Act.eval, jN, jL, jD, jE, jO, jA, jB, jC])) | (refine zas rfl rfl (fun _ _ _ _ h => h) ?_; (simp only [Act.put, Act.eval, jN, jL, jD, jE, jO, jA, jB, jC])) | (refine zao rfl rfl rfl (fun _ _ _ _ h => h) ?_; (simp only [Act.put, jA, jB, jC])) | (refine za3 rfl rfl (fun _ _ _ _ h => h) (by first | exact .bin rfl rfl rfl | exact .indexAddr rfl | exact .un rfl | exact .extract rfl | exact .index rfl | exact .field rfl | exact .slice rfl) (fun K hK => ?_); go_simp; (try (simp only [↓IntWalk.iteOmega]; go_simp)); (try go_bits); refine hK _ ?_; clear hK K))
   refine wpCan_nil ?_
   go_wp2
   go_roundg (gk - 1)
   case measure => have := hm'.out; omega
   case rel =>
    have hm'' := hm'.out
    exact ⟨m + 1, by omega, by go_num, zar g0 _ _ (by omega), zaf (zaL g1 m _) (fun i _ => zdH (znb x) m i), (hB.setCell (Nat.le_add_right _ _) _).drew⟩
  ·obtain rfl : m = 4 := by have := hm'.out; omega
   have g1' := zaf (f' := znb x) g1 (fun i hi => if_pos hi)
   clear g1
   go_wp2_with (first | (refine zab rfl rfl rfl zig g1' ?_) | (refine zac rfl rfl rfl rfl zig g1' ?_))
   exact bodyPost_ret (zaw rfl rfl zig (zan g1')) rfl ⟨rfl, zam hB (by omega) _⟩
end
section
open Go.RowKit
attribute [local irreducible] zbK
theorem zhW : (Tryz.prog.info? 5).map (·.size) = some 1 := by kernel_rfl
theorem zsB (k s : Nat → Int) (hs : ∀ i, i < 16 → 0 ≤ s i ∧ s i < 256) (last : Bool) (C : Nat) (w : World) (hC : w.heap[C]? = some (.cells (arr .u8 432 (zif k 10)) 122 (0, 0))) :
  Calls Tryz.prog 92 #[.pointer (some ⟨C, 0, none⟩), .agg (arr .u8 16 s), .bool last] w fun e w' => e = .returned (.agg (arr .u8 16 (zet s last))) ∧ Below w.heap.size w w' := by
 go_enter Tryz.func92, Tryz.ntmps92
 obtain ⟨h0, h1, hsz, hb⟩ := zcb w (.cells (arr .u8 16 s) 49) (.cells (arr .u8 16 fun _ => 0) 49)
 have hCl := jM hC
 have hC1 := zaa hb hCl hC
 have hs' := Lib.hid hs
 clear hs hC
 go_wp2_with (refine zae rfl rfl zdI ?_)
 go_loopg [10] 4 (fun n i wr => ∃ m : Nat, m + n = 4 ∧ i = .int .i64 m ∧ wr.heap[w.heap.size]? = some (.cells (arr .u8 16 s) 49 (0, 0)) ∧
  wr.heap[w.heap.size + 1]? = some (.cells (arr .u8 16 fun i => if i < 4 * m then zet s last i else 0) 49 (0, 0)) ∧ wr.heap[C]? = some (.cells (arr .u8 432 (zif k 10)) 122 (0, 0)) ∧ Below w.heap.size w wr)
 case atStart => exact ⟨0, rfl, rfl, h0, zaf h1 (fun i _ => (if_neg (by omega)).symm), hC1, hb⟩
 case round =>
  obtain ⟨m, hm, rfl, g0, g1, gC, hB⟩ := hrel
  obtain ⟨go1, rfl⟩ : ∃ x, x = gk := ⟨_, rfl⟩
  have hm' := Lib.hid hm
  clear h0 h1 hsz hb hm hC1
  have hl0 := jM g0
  have hl1 := jM g1
  have hlC := jM gC
  by_cases hlt : m < 4
  ·go_upto_region 5 with (refine zae rfl rfl zvi ?_)
   have q2 := heap_alloc_new wr (.cells (arr .u8 4 fun _ => 0) 161)
   have bl := (zb6 wr (.cells (arr .u8 4 fun _ => 0) 161)).2.2
   have q0 := zaa bl hl0 g0
   have q1 := zaa bl hl1 g1
   have qC := zaa bl hlC gC
   have hBq := hB.trans (bl.mono hB.size)
   clear bl g0 g1 gC hB
   generalize wr.heap.size = B2 at *
   (try simp only [Act.put, jA, jB, jC])
   rw [show decide ((m : Int) < 4) = true from decide_eq_true (by omega)]
   go_wp2
   go_loopg [13] 4 (fun n i wr => ∃ r : Nat, r + n = 4 ∧ i = .int .i64 r ∧ wr.heap[w.heap.size]? = some (.cells (arr .u8 16 s) 49 (0, 0)) ∧
    wr.heap[w.heap.size + 1]? = some (.cells (arr .u8 16 fun i => if i < 4 * m then zet s last i else 0) 49 (0, 0)) ∧ wr.heap[C]? = some (.cells (arr .u8 432 (zif k 10)) 122 (0, 0)) ∧
    wr.heap[B2]? = some (.cells (arr .u8 4 fun i => if i < r then zmI s m i else 0) 161 (0, 0)) ∧ Below w.heap.size w wr)
   case atStart => exact ⟨0, rfl, rfl, q0, q1, qC, zaf q2 (fun i _ => (if_neg (by omega)).symm), hBq⟩
   case round =>
    clear q0 q1 qC q2 hBq
    obtain ⟨r, hr, rfl, q0, q1, qC, q2, hBq⟩ := hrel
    have hr' := Lib.hid hr
    clear hr
    by_cases hlr : r < 4
    ·have hsb := hs'.out (4 * ((m + r) % 4) + r) (by omega)
     have c0 := zaj q0 (4 * ((m + r) % 4) + r) (by omega)
     have c1 := zaj qC (s (4 * ((m + r) % 4) + r)).toNat (by omega)
     rw [zva _ _ _ (by omega)] at c1
     have c2 := zaj q2 r hlr
     have fz := zaH q2 r
     simp only [Nat.lt_irrefl, if_false] at c2
     go_wp2
     refine zax 16 (by kernel_rfl) (by kernel_rfl) ?_
     (simp only [jH, jI, jF, jG])
     repeat (refine wpStill_step (fun K hK => ?_); go_simp; (try (simp only [↓IntWalk.iteOmega]; go_simp)); (try go_bits); refine hK _ ?_; clear hK K)
     refine wpStill_nil ?_
     go_wp2
     go_roundg (gk - 1)
     case measure => have := hr'.out; omega
     case rel =>
      have hr'' := hr'.out
      exact ⟨r + 1, by omega, by go_num, zar q0 _ _ (by omega), zar q1 _ _ (by omega), zar qC _ _ (by omega), zaf (zaL q2 r _) (fun i _ => zdH (zmI s m) r i), (hBq.setCell (by show w.heap.size ≤ B2; omega) _).drew⟩
    ·obtain rfl : r = 4 := by have := hr'.out; omega
     have q3 := zaf (f' := zmI s m) q2 (fun i hi => if_pos hi)
     clear q2
     cases last
     ·go_upto_region 12 with (first | (refine zab rfl rfl rfl zig q3 ?_) | (go_at_call 119; refine (zqU _ _).mono ?_; rintro e w4 ⟨rfl, b4⟩; have e3 := zaa b4 (jM q3) q3) | (refine zac rfl rfl rfl rfl zig e3 ?_))
      (try simp only [Act.put, jA, jB, jC])
      have e0 := zad (w := w4) (c' := arr .u8 4 (znb (zmI s m))) (g := B2) (zaa b4 (jM q0) q0) (by omega)
      have e1 := zad (w := w4) (c' := arr .u8 4 (znb (zmI s m))) (g := B2) (zaa b4 (jM q1) q1) (by omega)
      have eC := zad (w := w4) (c' := arr .u8 4 (znb (zmI s m))) (g := B2) (zaa b4 (jM qC) qC) (by omega)
      have e2 := zan (w := w4) (c' := arr .u8 4 (znb (zmI s m))) e3
      have eB := zam (hBq.trans (b4.mono hBq.size)) (g := B2) (by omega) (arr .u8 4 (znb (zmI s m)))
      clear b4 e3 q0 q1 qC q3 hBq
      generalize w4.setRow B2 (arr .u8 4 (znb (zmI s m))) = w5 at *
      refine zax 4 (by kernel_rfl) (by kernel_rfl) ?_
      (simp only [jH, jI, jF, jG])
      iterate 2 (refine wpStill_step (fun K hK => ?_); go_simp; (try (simp only [↓IntWalk.iteOmega]; go_simp)); (try go_bits); refine hK _ ?_; clear hK K)
      refine zdE rfl (zfJ rfl Tryz.underlying49 zhW rfl rfl (by omega) (by omega)) ?_
      refine zdE rfl (zdY rfl Tryz.underlying161 zhW rfl) ?_
      refine wpStill_nil ?_
      (try simp only [Act.put, jA, jB, jC])
      refine zeo (m := 4) rfl rfl rfl rfl Tryz.underlying24 zhW e1 e2 (by show 4 = min 4 (16 - ((4 : Int) * m).toNat); omega) (by omega) (by omega) ?_
      (try simp only [Act.put, jA, jB, jC])
      go_wp2
      go_roundg (go1 - 1)
      case measure => have := hm'.out; omega
      case rel =>
       have hm'' := hm'.out
       exact ⟨m + 1, by omega, by go_num, zad (w := w5.drew) e0 (by omega), zaf (zan (w := w5.drew) e1) (fun i hi => zkn s false m i hi _ (zst s m)), zad (w := w5.drew) eC (by omega), zam eB.drew (Nat.le_add_right _ _) _⟩
     ·go_upto_region 12 with (fail)
      (try simp only [Act.put, jA, jB, jC])
      have e0 := q0
      have e1 := q1
      have eC := qC
      have e2 := q3
      have eB := hBq
      clear q0 q1 qC q3 hBq
      refine zax 4 (by kernel_rfl) (by kernel_rfl) ?_
      (simp only [jH, jI, jF, jG])
      iterate 2 (refine wpStill_step (fun K hK => ?_); go_simp; (try (simp only [↓IntWalk.iteOmega]; go_simp)); (try go_bits); refine hK _ ?_; clear hK K)
      refine zdE rfl (zfJ rfl Tryz.underlying49 zhW rfl rfl (by omega) (by omega)) ?_
      refine zdE rfl (zdY rfl Tryz.underlying161 zhW rfl) ?_
      refine wpStill_nil ?_
      (try simp only [Act.put, jA, jB, jC])
      refine zeo (m := 4) rfl rfl rfl rfl Tryz.underlying24 zhW e1 e2 (by show 4 = min 4 (16 - ((4 : Int) * m).toNat); omega) (by omega) (by omega) ?_
      (try simp only [Act.put, jA, jB, jC])
      go_wp2
      go_roundg (go1 - 1)
      case measure => have := hm'.out; omega
      case rel =>
       have hm'' := hm'.out
       exact ⟨m + 1, by omega, by go_num, zad (w := wr.drew) e0 (by omega), zaf (zan (w := wr.drew) e1) (fun i hi => zkn s true m i hi _ (zov s m)), zad (w := wr.drew) eC (by omega), zam eB.drew (Nat.le_add_right _ _) _⟩
  ·obtain rfl : m = 4 := by have := hm'.out; omega
   have g1' := zaf (f' := zet s last) g1 (fun i hi => if_pos (by omega))
   clear g1
   go_wp2_with (first | (refine zab rfl rfl rfl zaQ g1' ?_) | (refine zac rfl rfl rfl rfl zaQ g1' ?_))
   exact bodyPost_ret (zaw rfl rfl zaQ (zan g1')) rfl ⟨rfl, zam hB (by omega) _⟩
end
section
open Go.RowKit
attribute [local irreducible] zbK
theorem zsC (k : Nat → Int) (j i : Nat) (hj : j ≤ 10) (hi : i < 16) : zif k 10 (256 + j * 16 + i) = ze1 k j i := by
 rw [Nat.mul_comm]; exact zpw k 10 j i hj hi
theorem zoz (k s : Nat → Int) (C : Nat) (hs : ∀ i, i < 16 → 0 ≤ s i ∧ s i < 256) (w : World) (hC : w.heap[C]? = some (.cells (arr .u8 432 (zif k 10)) 122 (0, 0))) :
  Calls Tryz.prog 65 #[.pointer (some ⟨C, 0, none⟩), .agg (arr .u8 16 s)] w fun e w' => e = .returned (.agg (arr .u8 16 (zuH k s))) ∧ Below w.heap.size w w' := by
 go_enter Tryz.func65, Tryz.ntmps65
 obtain ⟨h0, h1, hsz, hb⟩ := zcb w (.cells (arr .u8 16 s) 49) (.cells (arr .u8 16 fun _ => 0) 49)
 have hCl := jM hC
 have hC1 := zaa hb hCl hC
 clear hC
 go_wp2_with (refine zae rfl rfl zdI ?_)
 refine zpb (fun w' => w'.heap[w.heap.size]? = some (.cells (arr .u8 16 s) 49 (0, 0)) ∧ w'.heap[w.heap.size + 1]? = some (.cells (arr .u8 16 fun _ => 0) 49 (0, 0)) ∧ w'.heap[C]? = some (.cells (arr .u8 432 (zif k 10)) 122 (0, 0)) ∧ Below w.heap.size w w') ⟨h0, h1, hC1, hb⟩ ?_
 clear h0 h1 hsz hb hC1
 rintro w1 ⟨h0, h1, hC1, hb⟩
 have hl0 := jM h0
 have hl1 := jM h1
 have hlC := jM hC1
 refine wp_region_can w1.heap.size 7 [(0, false), (1, false), (2, false), (3, false), (4, false), (5, false), (6, true)] (by kernel_rfl) (by kernel_rfl) ?_
 (simp only [canOps, jD, jE, jF, jG])
 refine zaq rfl rfl rfl (fun _ _ _ _ h => h) zaQ hl0 h0 ?_
 (try simp only [Act.put, jA, jB, jC])
 iterate 4 (first | (refine zaA rfl rfl (fun _ _ _ _ h => h) ?_; (simp only [Act.put, Act.eval, jN, jL, jD, jE, jO, jA, jB, jC])) | (refine zas rfl rfl (fun _ _ _ _ h => h) ?_; (simp only [Act.put, Act.eval, jN, jL, jD, jE, jO, jA, jB, jC])) | (refine zao rfl rfl rfl (fun _ _ _ _ h => h) ?_; (simp only [Act.put, jA, jB, jC])) | (refine za3 rfl rfl (fun _ _ _ _ h => h) (by first | exact .bin rfl rfl rfl | exact .indexAddr rfl | exact .un rfl | exact .extract rfl | exact .index rfl | exact .field rfl | exact .slice rfl | exact .fieldT rfl zg5) (fun K hK => ?_); go_simp; (try (simp only [↓IntWalk.iteOmega]; go_simp)); (try go_bits); refine hK _ ?_; clear hK K))
 refine zcg (off := 256 + 0 * 16) (ze1 k 0) rfl rfl rfl (fun _ _ _ _ h => h) zaQ hlC hC1 (by omega) (fun i hi => zsC k 0 i (by omega) hi) ?_
 (try simp only [Act.put, jA, jB, jC])
 refine wpCan_e rfl (fun K hK => ?_)
 go_simp
 refine (zsA _ _ _).mono ?_
 rintro e w2 ⟨rfl, b2⟩
 refine hK _ _ (Keep.of_below b2 (jV _)) ?_
 clear hK K
 (try simp only [Act.put, jA, jB, jC])
 refine wpCan_nil ?_
 have e0 := zaa (w := w1.drew) b2 hl0 h0
 have e1 := zad (w := w2) (c' := arr .u8 16 (zj3 s (ze1 k 0))) (g := w.heap.size) (zaa (w := w1.drew) b2 hl1 h1) (by omega)
 have eC := zad (w := w2) (c' := arr .u8 16 (zj3 s (ze1 k 0))) (g := w.heap.size) (zaa (w := w1.drew) b2 hlC hC1) (by omega)
 have e2 := zan (w := w2) (c' := arr .u8 16 (zj3 s (ze1 k 0))) e0
 have eB := zam (hb.drew.trans (b2.mono hb.size)) (g := w.heap.size) (jV _) (arr .u8 16 (zj3 s (ze1 k 0)))
 go_wp2_with (refine zac rfl rfl rfl rfl zaQ e0 ?_)
 clear h0 h1 hC1 hb hl0 hl1 hlC b2 e0
 go_loopg [5] 10 (fun n i wr => ∃ j : Nat, j + n = 10 ∧ i = .int .i64 ((j : Int) + 1) ∧ wr.heap[w.heap.size]? = some (.cells (arr .u8 16 (zi8 k s j)) 49 (0, 0)) ∧ wr.heap[w.heap.size + 1]? = some (.cells (arr .u8 16 fun _ => 0) 49 (0, 0)) ∧
   wr.heap[C]? = some (.cells (arr .u8 432 (zif k 10)) 122 (0, 0)) ∧ Below w.heap.size w wr)
 case atStart => exact ⟨0, rfl, rfl, e2, e1, eC, eB⟩
 case round =>
  clear e1 e2 eC eB
  obtain ⟨j, hj, rfl, g0, g1, gC, hB⟩ := hrel
  have hj' := Lib.hid hj
  clear hj
  have hl0 := jM g0
  have hl1 := jM g1
  have hlC := jM gC
  by_cases hlt : j < 10
  ·go_upto_region 5 with (fail)
   (try simp only [Act.put, jA, jB, jC])
   rw [show decide ((j : Int) + 1 ≤ 10) = true from decide_eq_true (by omega)]
   refine wp_region_can wr.heap.size 12 [(0, false), (1, false), (2, false), (3, false), (5, false), (6, false), (7, false), (8, false), (9, false), (10, false), (4, true), (11, true)] (by kernel_rfl) (by kernel_rfl) ?_
   (simp only [canOps, jD, jE, jF, jG])
   (first | (refine zaA rfl rfl (fun _ _ _ _ h => h) ?_; (simp only [Act.put, Act.eval, jN, jL, jD, jE, jO, jA, jB, jC])) | (refine zas rfl rfl (fun _ _ _ _ h => h) ?_; (simp only [Act.put, Act.eval, jN, jL, jD, jE, jO, jA, jB, jC])) | (refine zao rfl rfl rfl (fun _ _ _ _ h => h) ?_; (simp only [Act.put, jA, jB, jC])) | (refine za3 rfl rfl (fun _ _ _ _ h => h) (by first | exact .bin rfl rfl rfl | exact .indexAddr rfl | exact .un rfl | exact .extract rfl | exact .index rfl | exact .field rfl | exact .slice rfl) (fun K hK => ?_); go_simp; (try (simp only [↓IntWalk.iteOmega]; go_simp)); (try go_bits); refine hK _ ?_; clear hK K))
   refine zaq rfl rfl rfl (fun _ _ _ _ h => h) zaQ hl0 g0 ?_
   (try simp only [Act.put, jA, jB, jC])
   iterate 7 (first | (refine zaA rfl rfl (fun _ _ _ _ h => h) ?_; (simp only [Act.put, Act.eval, jN, jL, jD, jE, jO, jA, jB, jC])) | (refine zas rfl rfl (fun _ _ _ _ h => h) ?_; (simp only [Act.put, Act.eval, jN, jL, jD, jE, jO, jA, jB, jC])) | (refine zao rfl rfl rfl (fun _ _ _ _ h => h) ?_; (simp only [Act.put, jA, jB, jC])) | (refine za3 rfl rfl (fun _ _ _ _ h => h) (by first | exact .bin rfl rfl rfl | exact .indexAddr rfl | exact .un rfl | exact .extract rfl | exact .index rfl | exact .field rfl | exact .slice rfl | exact .fieldT rfl zg5) (fun K hK => ?_); go_simp; (try (simp only [↓IntWalk.iteOmega]; go_simp)); (try go_bits); refine hK _ ?_; clear hK K))
   refine zcg (off := 256 + (j + 1) * 16) (ze1 k (j + 1)) rfl rfl rfl (fun _ _ _ _ h => h) zaQ hlC gC (by omega) (fun i hi => zsC k (j + 1) i (by omega) hi) ?_
   (try simp only [Act.put, jA, jB, jC])
   refine wpCan_e rfl (fun K hK => ?_)
   go_simp
   refine (zsB k (zi8 k s j) (fun i _ => zg4 k s j i) _ C _ (by exact gC)).mono ?_
   rintro e w4 ⟨rfl, b4⟩
   refine hK _ _ (Keep.of_below b4 (jV _)) ?_
   clear hK K
   (try simp only [Act.put, jA, jB, jC])
   refine wpCan_e rfl (fun K hK => ?_)
   go_simp
   refine (zsA _ _ _).mono ?_
   rintro e w5 ⟨rfl, b5⟩
   refine hK _ _ (Keep.of_below b5 b4.size) ?_
   clear hK K
   (try simp only [Act.put, jA, jB, jC])
   refine wpCan_nil ?_
   have b6 := b4.trans (b5.mono b4.size)
   have q0 := zaa (w := wr.drew) b6 hl0 g0
   have q1 := zaa (w := wr.drew) b6 hl1 g1
   have qC := zaa (w := wr.drew) b6 hlC gC
   have hBq := hB.drew.trans (b6.mono hB.size)
   clear b4 b5 b6 g0 g1 gC hB
   go_wp2_with (refine zac rfl rfl rfl rfl zaQ q0 ?_)
   go_roundg (gk - 1)
   case measure => have := hj'.out; omega
   case rel =>
    have hj'' := hj'.out
    refine ⟨j + 1, by omega, by go_num, zaf (zan q0) (fun i _ => ?_), zad q1 (by omega), zad qC (by omega), zam hBq (jV _) _⟩
    rw [zsu]
    rfl
  ·obtain rfl : j = 10 := by have := hj'.out; omega
   go_wp2_with (first | (refine zab rfl rfl rfl zaQ g0 ?_) | (refine zac rfl rfl rfl rfl zaQ g1 ?_))
   exact bodyPost_ret (zaw rfl rfl zaQ (zan g1)) rfl ⟨rfl, zam hB (Nat.le_add_right _ _) _⟩
end
section
open Go.RowKit
attribute [local irreducible] zbK beL beK zuH
theorem zya (k m : Nat → Int) (hk : ∀ i, i < 16 → 0 ≤ k i ∧ k i < 256) (hm : ∀ i, i < 12 → 0 ≤ m i ∧ m i < 256) (F : Nat) (h3 : F < 4294967296) (A : Option Addr) (n c : Nat) (l : List Nat) (w : World) (h : Txt w w.heap.size A n c l) (hl : ∀ x ∈ l, x < 256) (h1 : n ≤ 1048576) (h2 : F + (n + 15) / 16 ≤ 4294967296) :
  Calls Tryz.prog 34 #[.agg (arr .u8 16 k), .agg (arr .u8 12 m), .int .u32 F, .slice A n c] w (zwU w (zsw k m F l)) := by
 go_enter Tryz.func34, Tryz.ntmps34
 obtain ⟨g0, g1, hz, hb⟩ := zcb w (.cells (arr .u8 16 k) 49) (.cells (arr .u8 12 m) 51)
 have H0 := Lib.hid h
 have HL := Lib.hid hl
 have HM := Lib.hid hm
 clear h hl hm
 go_upto_region 6 with (fail)
 generalize ((w.alloc (.cells (arr .u8 16 k) 49)).alloc (.cells (arr .u8 12 m) 51)) = wa at *
 (try simp only [Act.put, jA, jB, jC])
 refine zcW 6 [Is (.agg (arr .u8 16 k)), zi1 wa.heap.size (.cells (arr .u8 432 (zif k 10)) 122 (0, 0)), Is (.slice A n c), Is (.int .i64 n), zwT wa.heap.size n 5, zi1 wa.heap.size (.cells (arr .u8 432 (zif k 10)) 122 (0, 0))]
  [[], [0], [], [2], [3], [1]] (by kernel_rfl) (by kernel_rfl) rfl (zaG (zaF _) (zaG (zcX _ _) (zaG (zaF _) (zaG (zaF _) (zaG (zne _ _ _) (zaG (zcX _ _) zi0)))))) ?_ ?_
 ·(simp only [jH, jI, jF, jG, List.zip_cons_cons, List.zip_nil_left, List.zip_nil_right, zdZ, zfO, zcD, zbA, zbQ, jD, jE, List.range_succ, List.range_zero, List.nil_append, List.cons_append, Act.put, jA, jB, jC])
  refine ⟨?_, ?_, ?_, ?_, ?_, ?_, trivial⟩
  ·intro x0 x1 x2 x3 x4 x5 w' hb'
   exact zbs rfl rfl rfl zaQ (zaa hb' (jM (w := wa) g0) g0) rfl
  ·intro x0 x1 x2 x3 x4 x5 w' hb' e0
   unfold Is at e0
   subst e0
   refine zaS rfl (fun K hK => ?_)
   go_simp
   refine (zz6 k hk _).mono ?_
   rintro e w4 ⟨C, rfl, hC, h4, b4⟩
   exact hK _ _ b4 ⟨C, rfl, jU hb'.size hC, h4⟩
  ·intro x0 x1 x2 x3 x4 x5 w' hb'
   exact zgY rfl rfl rfl
  ·intro x0 x1 x2 x3 x4 x5 w' hb' e2
   unfold Is at e2
   subst e2
   refine zaS rfl (fun K hK => ?_)
   go_simp
   exact hK _ _ (Below.refl _ _) rfl
  ·intro x0 x1 x2 x3 x4 x5 w' hb' e3
   unfold Is at e3
   subst e3
   exact zsv BT (by omega) rfl rfl rfl rfl ⟨_, rfl, hb'.size, heap_alloc_new _ _⟩
  ·intro x0 x1 x2 x3 x4 x5 w' hb' e1
   exact zox rfl rfl e1
 ·(simp only [jH, jI, jF, jG, List.zip_cons_cons, List.zip_nil_left, List.zip_nil_right, zdZ, zfO, zcD, zbA, zbQ, jD, jE, List.range_succ, List.range_zero, List.nil_append, List.cons_append, Act.put, jA, jB, jC])
  intro x0 x1 x2 x3 x4 x5 w' hb' e0 e1 e2 e3 e4 e5
  unfold Is at e0 e2 e3
  subst e0 e2 e3
  obtain ⟨C', rfl, -, -⟩ := e1
  obtain ⟨C, rfl, hC, hC1⟩ := e5
  obtain ⟨R, rfl, hR, hR1⟩ := e4
  replace g1 := zaa hb' (jM (w := wa) g1) g1
  have hB := (hb.drew).trans (hb'.mono hb.size)
  clear hb' hb
  have hI : w.heap.size + 1 < w'.heap.size := jM g1
  have hne : C ≠ R := fun e => by
   subst e
   rw [hC1] at hR1
   injection hR1 with hR1
   injection hR1 with _ hR1
   exact absurd hR1 (by decide)
  have hR' : w.heap.size ≤ R := jU (by omega) hR
  have hC' : w.heap.size ≤ C := jU (by omega) hC
  clear hC hR hz g0
  go_upto_region 8 with (refine zae rfl rfl zdI ?_)
  (try simp only [Act.put, jA, jB, jC])
  obtain ⟨hI0, hIs, hIb⟩ := zb6 w' (.cells (arr .u8 16 fun _ => 0) 49)
  replace g1 := zaa hIb hI g1
  have hCl := jM hC1
  have hRl := jM hR1
  replace hC1 := zaa hIb hCl hC1
  replace hR1 := zaa hIb hRl hR1
  replace hB := hB.trans (hIb.mono hB.size)
  generalize w'.alloc (.cells (arr .u8 16 fun _ => 0) 49) = wb at *
  generalize w'.heap.size = I at *
  refine zax 2 (by kernel_rfl) (by kernel_rfl) ?_
  (simp only [jH, jI, jF, jG])
  repeat (refine wpStill_step (fun K hK => ?_); go_simp; (try (simp only [↓IntWalk.iteOmega]; go_simp)); (try go_bits); refine hK _ ?_; clear hK K)
  refine wpStill_nil ?_
  refine zeo rfl rfl rfl rfl Tryz.underlying24 (by kernel_rfl) hI0 g1 (m := 12) rfl (by omega) (by omega) ?_
  (try simp only [Act.put, jA, jB, jC])
  obtain ⟨bl, hbl⟩ : ∃ bl : Nat, ((n : Int) + 16 - 1) / 16 = bl := ⟨(n + 15) / 16, by omega⟩
  simp only [hbl]
  have hb1 : F + bl ≤ 4294967296 := by omega
  have hb2 : n ≤ 16 * bl := by omega
  have hb3 : 16 * bl ≤ n + 15 := by omega
  clear h2 hbl
  have q0 := zan (w := wb.drew) (c' := arr .u8 16 (zcU (fun x => 0) 0 12 fun i => m (0 + i))) hI0
  have qC := zad (w := wb.drew) (c' := arr .u8 16 (zcU (fun x => 0) 0 12 fun i => m (0 + i))) (g := I) hC1 (by omega)
  have qR := zad (w := wb.drew) (c' := arr .u8 16 (zcU (fun x => 0) 0 12 fun i => m (0 + i))) (g := I) hR1 (by omega)
  have qB := zam (w := wb.drew) (hB.drew) (g := I) (by omega) (arr .u8 16 (zcU (fun x => 0) 0 12 fun i => m (0 + i)))
  generalize wb.drew.setRow I (arr .u8 16 (zcU (fun x => 0) 0 12 fun i => m (0 + i))) = wc at *
  clear hI0 g1 hC1 hR1 hB hI hIb hIs
  have hCI : C ≠ I := by omega
  have hRI : R ≠ I := by omega
  have hI' : w.heap.size ≤ I := by omega
  clear hCl hRl
  go_wp2
  go_loopg [43] bl (fun r i wr => ∃ (j : Nat) (q : Nat → Int), j + r = bl ∧ i = .int .i64 j ∧ wr.heap[I]? = some (.cells (arr .u8 16 q) 49 (0, 0)) ∧ (∀ x, x < 12 → q x = m x) ∧ wr.heap[C]? = some (.cells (arr .u8 432 (zif k 10)) 122 (0, 0)) ∧ wr.heap[R]? = some (.cells (arr .u8 n fun x => if x < 16 * j then zqT k m F l x else 0) 5 (0, 0)) ∧ Below w.heap.size w wr)
  case atStart => exact ⟨0, _, by omega, rfl, q0, (fun x hx => by unfold zcU; rw [if_pos ⟨Nat.zero_le _, by omega⟩]; show m (0 + (x - 0)) = m x; rw [Nat.zero_add, Nat.sub_zero]), qC, by simpa using qR, qB⟩
  case round =>
   clear q0 qC qR qB
   obtain ⟨go1, rfl⟩ : ∃ x, x = gk := ⟨_, rfl⟩
   obtain ⟨j, q, hj, rfl, g0, hq, gC, gR, hB⟩ := hrel
   have HJ := Lib.hid hj
   have HQ := Lib.hid hq
   clear hj hq
   by_cases hlt : j < bl
   ·have hat : F + j < 4294967296 := by omega
    have c12 := zaj g0 12 (by omega)
    have c13 := zaj g0 13 (by omega)
    have c14 := zaj g0 14 (by omega)
    have c15 := zaj g0 15 (by omega)
    have fz := zaH g0
    go_upto_region 14 with (fail)
    (try simp only [Act.put, jA, jB, jC])
    clear c12 c13 c14 c15 fz
    have k0 := zaL (zaL (zaL (zaL g0 12 ((F + j) / 16777216)) 13 (((F : Int) + j) / 65536 % 256)) 14 (((F : Int) + j) / 256 % 256)) 15 (((F : Int) + j) % 256)
    have kC := zar (zar (zar (zar gC 12 (.int .u8 ((F + j) / 16777216)) hCI) 13 (.int .u8 (((F : Int) + j) / 65536 % 256)) hCI) 14 (.int .u8 (((F : Int) + j) / 256 % 256)) hCI) 15 (.int .u8 (((F : Int) + j) % 256)) hCI
    have kR := zar (zar (zar (zar gR 12 (.int .u8 ((F + j) / 16777216)) hRI) 13 (.int .u8 (((F : Int) + j) / 65536 % 256)) hRI) 14 (.int .u8 (((F : Int) + j) / 256 % 256)) hRI) 15 (.int .u8 (((F : Int) + j) % 256)) hRI
    have kB := (((hB.setCell (p := ⟨I, 12, none⟩) hI' (.int .u8 ((F + j) / 16777216))).setCell (p := ⟨I, 13, none⟩) hI' (.int .u8 (((F : Int) + j) / 65536 % 256))).setCell (p := ⟨I, 14, none⟩) hI' (.int .u8 (((F : Int) + j) / 256 % 256))).setCell (p := ⟨I, 15, none⟩) hI' (.int .u8 (((F : Int) + j) % 256))
    clear hB
    refine zpb (fun w1 => w1.heap[I]? = some (.cells (arr .u8 16 (inI m (F + j))) 49 (0, 0)) ∧ w1.heap[C]? = some (.cells (arr .u8 432 (zif k 10)) 122 (0, 0)) ∧ w1.heap[R]? = some (.cells (arr .u8 n fun x => if x < 16 * j then zqT k m F l x else 0) 5 (0, 0)) ∧ Below w.heap.size w w1)
     ⟨zaf k0 (fun i hi => ?_), kC, kR, kB⟩ ?_
    ·exact zx5 q m (F + j) _ (by omega) (by omega) HQ.out i hi
    clear k0 kC kR kB g0 gC gR
    rintro w1 ⟨g0, gC, gR, hB⟩
    have lI := jM g0
    have lC := jM gC
    have lR := jM gR
    go_wp2_with (first | (refine zab rfl rfl rfl zaQ g0 ?_) | (go_at_call 65; fail))
    refine (zoz k _ C (fun i _ => zpy m HM.out (F + j) i) _ gC).mono ?_
    rintro e w2 ⟨rfl, b2⟩
    replace g0 := zaa b2 lI g0
    replace gC := zaa b2 lC gC
    replace gR := zaa b2 lR gR
    replace hB := hB.trans (b2.mono hB.size)
    clear b2
    go_upto_region 15 with (refine zay rfl rfl rfl rfl zdI zaQ rfl rfl ?_; intro w3 gS b3 hs3)
    replace g0 := zaa b3 (jM g0) g0
    replace gC := zaa b3 (jM gC) gC
    have hSR : w2.heap.size ≠ R := by have := jM gR; omega
    replace gR := zaa b3 (jM gR) gR
    replace hB := hB.trans (b3.mono hB.size)
    clear b3 hs3 lI lC lR
    generalize w2.heap.size = S at *
    (try simp only [Act.put, jA, jB, jC])
    have hjn : 16 * j < n := by omega
    go_wp2
    go_loopg [17] 16 (fun r x wr => ∃ y : Nat, y + r = 16 * j + 16 ∧ 16 * j ≤ y ∧ y ≤ n ∧ x = .int .i64 y ∧ wr.heap[I]? = some (.cells (arr .u8 16 (inI m (F + j))) 49 (0, 0)) ∧ wr.heap[C]? = some (.cells (arr .u8 432 (zif k 10)) 122 (0, 0)) ∧ wr.heap[S]? = some (.cells (arr .u8 16 (zuH k (inI m (F + j)))) 49 (0, 0)) ∧ wr.heap[R]? = some (.cells (arr .u8 n fun x => if x < y then zqT k m F l x else 0) 5 (0, 0)) ∧ Below w.heap.size w wr)
    case atStart => exact ⟨16 * j, rfl, jV _, by omega, by go_num, g0, gC, gS, gR, hB⟩
    case round =>
     clear g0 gC gS gR hB
     obtain ⟨y, hy1, hy2, hy3, rfl, g0, gC, gS, gR, hB⟩ := hrel
     have HY := Lib.hid hy1
     clear hy1
     by_cases hin : y < 16 * j + 16 ∧ y < n
     ·obtain ⟨hy4, hy5⟩ := hin
      obtain ⟨ad, rfl, hab, hac⟩ := (H0.out.below hB).cell hy5
      have hS := zaj gS (y % 16) (by omega)
      have cR := zaj gR y hy5
      have fz := zaH gR y
      replace hac : wr.cell? (ad.add y) = some (.int .u8 ((l.getD y 0 : Nat) : Int)) := hac
      have hbd := HL.out _ (show l.getD y 0 ∈ l from by rw [jR, jP (by rw [H0.out.len]; exact hy5)]; exact List.getElem_mem _)
      go_wp2
      all_goals
       refine zax 12 (by kernel_rfl) (by kernel_rfl) ?_
       (simp only [jH, jI, jF, jG])
       repeat (refine wpStill_step (fun K hK => ?_); go_simp; (try (simp only [↓IntWalk.iteOmega]; go_simp)); (try go_bits); refine hK _ ?_; clear hK K)
       refine wpStill_nil ?_
       go_wp2
       go_roundg (gk - 1)
       case measure => have := HY.out; omega
       case rel =>
        have hY := HY.out
        have hj' : y / 16 = j := by omega
        refine ⟨y + 1, by omega, by omega, by omega, by go_num, zar g0 _ _ (Ne.symm hRI), zar gC _ _ hne, zar gS _ _ hSR, zaf (zaL gR y _) (fun i _ => ?_), (hB.setCell (p := ⟨R, y, none⟩) hR' _).drew⟩
        refine zi9 _ y _ i ?_
        unfold zqT
        rw [hj', jR]
     ·go_wp2
      all_goals
       go_roundg (go1 - 1)
       case measure => have := HJ.out; omega
       case rel =>
        have := HJ.out
        have hY := HY.out
        have hyy : y = 16 * j + 16 ∨ y = n := by omega
        exact ⟨j + 1, _, by omega, by go_num, g0, (fun x hx => by unfold inI; rw [if_pos hx]), gC, zaf gR (fun i hi => by split <;> split <;> first | rfl | omega), hB⟩
   ·obtain rfl : j = bl := by have := HJ.out; omega
    go_wp2
    go_ret2
    refine ⟨_, rfl, zx4 hR' gR (by omega) (by rw [zpz]; exact H0.out.len) fun i hi => ?_, hB⟩
    rw [if_pos (by omega), zx6 _ _ _ _ _ (by rw [H0.out.len]; exact hi)]
end
section
open Go.RowKit
def zyb (P : Program) (t : TypeId) (k : IntKind) (n : Nat) : Prop := ∃ e, P.underlying t = some (.array n e) ∧ P.underlying e = some (.int k) ∧ (P.info? e).map (·.size) = some 1 ∧ P.eqGuardType P.depth t = false
section
variable {P : Program} {ops : Array Oper} {rest : List Oper} {o : Oper} {a : Act} {w : World} {Q : Exit → Act → World → Prop}
theorem zng {e : TypeId} {k : IntKind} {n : Nat} {f : Nat → Int} {i : Nat} (he : P.underlying e = some (.int k)) (hi : i < n) : (part e (arr k n f) i).run P w = .ok (.int k (f i)) w := by
 unfold part isAgg
 simp only [Sem.run_bind, run_underlying he, Result.andThen_ok, Sem.run_pure]
 simp only [Bool.false_eq_true, if_false, ze9 _ _ _ _ hi]
 rfl
def zfR (f g : Nat → Int) : Nat → Nat → Bool
 | 0, _ => true
 | m + 1, s => decide (f s = g s) && zfR f g m (s + 1)
theorem zko (f g : Nat → Int) : ∀ m s, zfR f g m s = true ↔ ∀ i, i < m → f (s + i) = g (s + i)
 | 0, s => by simp [zfR]
 | m + 1, s => by
  simp only [zfR, Bool.and_eq_true, jS, zko f g m (s + 1)]
  constructor
  ·rintro ⟨h0, h⟩ i hi
   cases i with
   | zero => simpa using h0
   | succ i => have := h i (by omega); rwa [show s + 1 + i = s + (i + 1) by omega] at this
  ·intro h
   exact ⟨by simpa using h 0 (by omega), fun i hi => by have := h (i + 1) (by omega); rwa [show s + (i + 1) = s + 1 + i by omega] at this⟩
theorem zjc {d t e : TypeId} {k : IntKind} {n : Nat} {f g : Nat → Int} (ht : P.underlying t = some (.array n e)) (he : P.underlying e = some (.int k)) (hs : (P.info? e).map (·.size) = some 1) :
  (Op.equalIn (d + 2) t (.agg (arr k n f)) (.agg (arr k n g))).run P w = .ok (zfR f g n 0) w := by
 have hsz : (sizeOf e).run P w = .ok 1 w := by
  cases hq : P.info? e with
  | none => simp [hq] at hs
  | some i =>
   have : i.size = 1 := by simpa [hq] using hs
   simp [sizeOf, typeInfo, hq, this]
 obtain ⟨D, hD⟩ : ∃ D, D = d + 1 := ⟨_, rfl⟩
 rw [show d + 2 = D + 1 from by rw [hD]]
 simp only [Op.equalIn, Sem.run_bind, run_underlying ht, Result.andThen_ok, hsz]
 rw [Std.Legacy.Range.forIn_eq_forIn_range']
 simp only [Std.Legacy.Range.size, Nat.sub_zero, Nat.add_sub_cancel, Nat.div_one]
 have key : ∀ m s, s + m ≤ n → ((forIn (List.range' s m) (none, ()) fun i (_ : Option Bool × Unit) => do
   let x ← part e (arr k n f) (i * 1)
   let y ← part e (arr k n g) (i * 1)
   let r ← Op.equalIn D e x y
   if (!r) = true then pure (ForInStep.done (some false, ())) else pure (ForInStep.yield (none, ())) : Sem (Option Bool × Unit))).run P w = .ok (if zfR f g m s then none else some false, ()) w := by
  intro m
  induction m with
  | zero => intro s _; simp [zfR]
  | succ m ih =>
   intro s hs
   rw [List.range'_succ, List.forIn_cons]
   simp only [Sem.run_bind, Nat.mul_one, zng he (show s < n by omega), Result.andThen_ok, hD, run_equalIn_int w d e k k _ _ he]
   by_cases hfg : f s = g s
   ·simp [hfg, zfR]
    have := ih (s + 1) (by omega)
    rw [hD] at this
    simpa using this
   ·simp [hfg, zfR]
 rw [key n 0 (by omega)]
 cases h : zfR f g n 0 <;> simp
theorem znh {op : BinOp} {t u : TypeId} {x y : Operand} {k : IntKind} {n : Nat} {f g : Nat → Int} (ho : o.op = .binOp .eql t x y u) (hT : zyb P t k n) (hx : a.eval x = .agg (arr k n f)) (hy : a.eval y = .agg (arr k n g)) :
  (execOp a.eval o).run P w = .ok (.value (.bool (zfR f g n 0))) w := by
 obtain ⟨e, h1, h2, h3, h4⟩ := hT
 unfold execOp
 simp only [ho, hx, hy, Sem.run_bind, run_eqGuard_agg w _ t x y _ _ h4, Result.andThen_ok, run_eql_struct, zjc (d := 9998) h1 h2 h3, Sem.run_pure]
end
end
end Go.Proofs.YtfolbgiekbimpaaGreatDoor
