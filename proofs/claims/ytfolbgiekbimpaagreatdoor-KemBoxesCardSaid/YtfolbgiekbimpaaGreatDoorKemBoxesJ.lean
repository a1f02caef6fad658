/- What is sealed, and opened, the reference. A text behind one that has no room: a new row. Keys of keys, pairs, boxes: the reference. The laws KemBoxes, KemUnboxes: whatever the input, they answer true. -/
import Derived.Test.YtfolbgiekbimpaaGreatDoorKemBoxesI
import Derived.Deep.AppendSrc
set_option linter.unusedSimpArgs false
set_option linter.unusedVariables false
set_option maxRecDepth 200000
set_option maxHeartbeats 6000000
namespace Go.Proofs.YtfolbgiekbimpaaGreatDoor
section
open Go.RowKit
def zj4 (gt : Nat → Nat) (k plain : List Nat) (ts : List (List Nat)) : List Nat × Int := if 1048576 < plain.length then ([], 4) else zcq gt k plain ts
def cpB (x : List Nat) (i j : Nat) : Nat := if j < i then x.getD j 0 else 0
theorem zmA (x : List Nat) (i j : Nat) : upd (fun j => bv (cpB x i j)) i (bv (x.getD i 0)) j = bv (cpB x (i + 1) j) := by
 unfold upd cpB
 by_cases h : j = i
 ·subst h; simp
 ·rw [if_neg h]
  show bv (if j < i then _ else _) = _
  by_cases h2 : j < i
  ·rw [if_pos h2, if_pos (by omega)]
  ·rw [if_neg h2, if_neg (by omega)]
theorem zo2 (x : List Nat) (n : Nat) : ca [.row n fun j => bv (cpB x n j)] = ca [.row n fun j => bv (x.getD j 0)] := by
 simp only [ca, cl, Chunk.cells, List.append_nil]
 congr 1
 apply List.map_congr_left
 intro i hi
 simp only [cpB, if_pos (List.mem_range.1 hi)]
theorem zun (x : List Nat) (n j : Nat) : (x.drop n).getD j 0 = x.getD (n + j) 0 := by
 rw [jR, List.getElem?_drop, ← jR]
theorem zmB {gt : Nat → Nat} {k plain : List Nat} {ts : List (List Nat)} (h : ¬ 1048576 < plain.length) : zj4 gt k plain ts = zcq gt k plain ts := by unfold zj4; rw [if_neg h]
theorem zwj {gt : Nat → Nat} {k plain : List Nat} {ts : List (List Nat)} (h : 1048576 < plain.length) : zj4 gt k plain ts = ([], 4) := by unfold zj4; rw [if_pos h]
attribute [local irreducible] zec zhY zen zh8 zc0 zfp zco
section
variable {X : List Nat} {w0 : World} {A : Option Addr} {c : Nat} {k : List Nat}
theorem zwk (hX : ∀ i ∈ X, i < w0.heap.size) (h : St (TxF A c k) w0 X) (hk : k.length ≤ 1048576) {x : List Nat} (hx : ∀ z ∈ x, z < 256) :
  Calls Tryz.prog 67 #[.agg (ca [.row 16 fun i => bv (x.getD i 0)]), .agg (ca [.row 12 fun i => bv ((x.drop 16).getD i 0)]), .int .u32 0, .slice A k.length c] w0 fun e w' => ∃ A' c', e = .returned (.tuple #[.slice A' (zen x k).length c', .int .i64 0]) ∧ Sep X [] w0 w' [.row (.slice A' (zen x k).length c') 5 1 (zen x k).length ((zen x k).map bv)] [] := by
 have hn := h.now
 have e0 : zen x k = zsn (fun i => ((x.getD i 0 : Nat) : Int)) (fun i => (((x.drop 16).getD i 0 : Nat) : Int)) 0 k := by with_unfolding_all rfl
 rw [← zjJ, ← zjJ, e0]
 refine (zv0 (fun i => ((x.getD i 0 : Nat) : Int)) (fun i => (((x.drop 16).getD i 0 : Nat) : Int)) (fun i _ => ⟨by omega, by have := zc1 hx i; omega⟩) (fun i _ => ⟨by omega, by have := zc1 (x := x.drop 16) (fun z hz => hx z (List.mem_of_mem_drop hz)) i; omega⟩) 0 (by omega) A k.length c k w0 hn.txt hn.byt hk (by omega)).mono ?_
 rintro e w2 ⟨v, rfl, ho, hb⟩
 obtain ⟨A', c', rfl, h2⟩ := zeY (X := X) hX ho hb
 exact ⟨A', c', rfl, h2⟩
end
theorem zo3 {BA : Option Addr} {bc : Nat} {k bs : List Nat} {gt : Nat → Nat} (hk32 : k.length = 32) (hkb : ∀ x ∈ k, x < 256) (hbl : bs.length ≤ 1048576) {X : List Nat} {w0 : World} (hX : ∀ k ∈ X, k < w0.heap.size) (hB : St (TxF BA bc bs) w0 X) (hG : St (AtC ⟨1, 0, none⟩ [.row 64 fun i => u32 (gt i)]) w0 X) :
  Calls Tryz.prog 37 #[.agg (ca [.key k]), .slice BA bs.length bc] w0 fun e w' => ∃ A' c', e = .returned (.slice A' (zen (zc0 gt k) bs).length c') ∧ Sep X [] w0 w' [.row (.slice A' (zen (zc0 gt k) bs).length c') 5 1 (zen (zc0 gt k) bs).length ((zen (zc0 gt k) bs).map bv)] [] := by
 have hlS : (zc0 gt k).length = 28 := by with_unfolding_all exact ze2 _ _ _ _
 have hSb : ∀ z ∈ zc0 gt k, z < 256 := by with_unfolding_all exact zi0 _ _ _ _
 have heS : zhY gt k zhv 28 = zc0 gt k := by with_unfolding_all rfl
 have hg : ∀ i, i < 28 → (zc0 gt k)[i]? = some ((zc0 gt k).getD i 0) := fun i hi => by rw [jR, jP (show i < (zc0 gt k).length by omega)]; rfl
 refine zaz Tryz.ntmps37 Tryz.func37 rfl rfl fun a E => ?_; replace E : Env a _ [(0, _), (1, _)] := E
 have H : Sep X [] w0 w0 [] [(TxF BA bc bs), (AtC ⟨1, 0, none⟩ [.row 64 fun i => u32 (gt i)])] := Sep.start hX (jJ.2 ⟨hB, jJ.2 ⟨hG, fun _ h => by cases h⟩⟩)
 refine Vr ?_; refine Wb E H fun b2 w a H E => ?_; refine Vv E pka fun a E => ?_; refine Vn ?_; refine Vr ?_; refine Vv E (pkl 32 H 0) fun a E => ?_; refine Ve E ?_
 refine zaM (sz := 1) (z := [.one (.int .u8 0), .one (.int .u8 0), .one (.int .u8 0), .one (.int .u8 0), .one (.int .u8 0), .one (.int .u8 0)]) E H rfl Tryz.underlying24 (by kernel_rfl) (by decide) (by kernel_rfl) ⟨_, [.one _], 0, _, rfl, rfl, rfl, rfl, ⟨_, [.one _], 1, _, rfl, rfl, rfl, rfl, ⟨_, [.one _], 2, _, rfl, rfl, rfl, rfl, ⟨_, [.one _], 3, _, rfl, rfl, rfl, rfl, ⟨_, [.one _], 4, _, rfl, rfl, rfl, rfl, ⟨_, [.one _], 5, _, rfl, rfl, rfl, rfl, rfl⟩⟩⟩⟩⟩⟩ ?_; clear H; intro b15 w H _; refine Vp E fun a E => ?_; refine Ve E ?_; refine zem 0 E H rfl rfl Tryz.underlying24 Tryz.underlying5 rfl rfl ?_; clear H; intro w H F; replace H : Sep _ _ _ _ [_] [_, _, _] := H; refine Vp E fun a E => ?_; clear F
 refine Ve E ?_; refine Vc E ?_
 have hinf := zbJ (k := zhv) (c := 6) (H.fact 0 rfl) rfl (by show 6 ≤ 6; decide) (by show 6 ≤ _; decide) (by decide)
 refine (zgx (n := 28) (k := k) (info := zhv) hk32 hkb (by omega) (by show 6 ≤ 1048576; decide) H.xk hinf (H.fact 2 rfl)).mono ?_; rintro e w ⟨A17, c17, rfl, H1⟩
 replace H := H.call H1
 clear H1; replace H : Sep _ _ _ _ [_] [_, _, _, _] := H; refine Vp E fun a E => ?_; clear hinf; refine Vv E pkm fun a E => ?_; refine Vv E pkx fun a E => ?_; refine Vv E pkx fun a E => ?_; refine Vv E pka fun a E => ?_; refine Vv E pka fun a E => ?_
 rw [heS] at H
 rw [show Value.slice A17 28 c17 = .slice A17 (zc0 gt k).length c17 from by rw [hlS]] at E
 refine Vn ?_; refine Vr ?_; refine Wa (z := [.row 16 fun _ => .int .u8 0]) E H fun b7 w a H E => ?_; refine Vn ?_; refine Vr ?_; refine Wa (z := [.row 12 fun _ => .int .u8 0]) E H fun b8 w a H E => ?_; refine Vn ?_; refine wp_seq_k fun K4 hK4 => ?_; refine Vr ?_; refine Vv E pkm fun a E => ?_; refine Vn ?_; refine wp_block ?_
 have e7 : (fun _ => bv 0) = fun j => bv (cpB (zc0 gt k) 0 j) := by funext j; simp [cpB]
 have e8 : (fun _ => bv 0) = fun j => bv (cpB ((zc0 gt k).drop 16) 0 j) := by funext j; simp [cpB]
 replace H : Sep X [] w0 w [.blk b8 (ca [.row 12 fun _ => bv 0]) 51, .blk b7 (ca [.row 16 fun _ => bv 0]) 49, .blk b2 (ca [.key k]) 23 ] [TxF A17 c17 (zc0 gt k), AtC ⟨b15, 0, none⟩ [.one (.int .u8 115), .one (.int .u8 116), .one (.int .u8 114), .one (.int .u8 101), .one (.int .u8 97), .one (.int .u8 109)], TxF BA bc bs, AtC ⟨1, 0, none⟩ [.row 64 fun i => u32 (gt i)]] := H
 have H2 : Sep X [] w0 w [.blk b8 (ca [.row 12 fun j => bv (cpB ((zc0 gt k).drop 16) 0 j)]) 51, .blk b7 (ca [.row 16 fun j => bv (cpB (zc0 gt k) 0 j)]) 49, .blk b2 (ca [.key k]) 23 ] [TxF A17 c17 (zc0 gt k), AtC ⟨b15, 0, none⟩ [.one (.int .u8 115), .one (.int .u8 116), .one (.int .u8 114), .one (.int .u8 101), .one (.int .u8 97), .one (.int .u8 109)], TxF BA bc bs, AtC ⟨1, 0, none⟩ [.row 64 fun i => u32 (gt i)]] := by rw [← e7, ← e8]; exact H
 clear H e7 e8
 have H := H2
 clear H2
 obtain ⟨ad17, hA17⟩ : ∃ ad, A17 = some ad := by
  cases hq : A17 with
  | some ad => exact ⟨ad, rfl⟩
  | none => have := ((St.now (H.fact 0 rfl)).nil hq).1; omega
 refine zbz (γ := Nat) [1, 5, 7, 8] (fun i => [(20, .int .i64 (i : Int))]) (fun i => [.blk b8 (ca [.row 12 fun j => bv (cpB ((zc0 gt k).drop 16) 0 j)]) 51, .blk b7 (ca [.row 16 fun j => bv (cpB (zc0 gt k) i j)]) 49, .blk b2 (ca [.key k]) 23 ]) (fun i => [TxF A17 c17 (zc0 gt k), AtC ⟨b15, 0, none⟩ [.one (.int .u8 115), .one (.int .u8 116), .one (.int .u8 114), .one (.int .u8 101), .one (.int .u8 97), .one (.int .u8 109)], TxF BA bc bs, AtC ⟨1, 0, none⟩ [.row 64 fun i => u32 (gt i)]]) (fun i => i ≤ 16) (fun i => 16 - i) (0) E H (by repeat (first | exact trivial | refine ⟨rfl, ?_⟩)) (by omega) ?_; clear E H; intro i a w E H hφ; replace E : Env a _ [(20, _), (1, _), (5, _), (7, _), (8, _)] := E; replace H : Sep _ _ _ _ [_, _, _] [_, _, _, _] := H; refine Vr ?_
 refine Vv E pki fun a E => ?_; refine Vn ?_; refine wp_seq_k fun K7 hK7 => ?_; refine zaD (d := 21) E rfl ?_ ?_
 ·skip
  clear E; intro c21 E
  have hi : i < 16 := by have := c21; simp only [jS] at this; omega
  refine zbd E rfl ?_; refine wp_skip ?_; refine hK7 _ _ ?_; refine wp_seq_k fun K8 hK8 => ?_; refine wp_block ?_; refine Vr ?_; refine Vv E pkm fun a E => ?_; refine Vv E pka fun a E => ?_; refine Vn ?_; refine zaA ?_; refine Vv E pkm fun a E => ?_; refine Vv E pkm fun a E => ?_; refine Vv E pkm fun a E => ?_; refine Vv E (zcb (sz := 1) (i := i) hA17 rfl (by kernel_rfl) rfl rfl (by omega) (by omega)) fun a E => ?_; refine Vv E (zdy (H.fact 0 rfl) (fun _ _ _ => trivial) hA17 rfl rfl (hg (i) (by omega)) (by kernel_rfl)) fun a E => ?_
  refine Vv E (zaV (M := 16) (i := i) rfl (by kernel_rfl) rfl rfl rfl hi) fun a E => ?_; refine Ve E ?_; refine zbb (off := 0) (i := i) (fun j => bv (cpB (zc0 gt k) (i + 1) j)) 1 E H rfl rfl rfl hi rfl rfl rfl rfl rfl rfl (by kernel_rfl) (fun j => zmA _ i j) rfl ?_; clear H; intro w H F; replace H : Sep _ _ _ _ [_, _, _] _ := H; refine zdf rfl ?_; clear F; refine hK8 _ _ ?_; refine zaA ?_; refine Vv E (zaK rfl rfl rfl rfl (zds (by omega) (by omega))) fun a E => ?_; refine Vv E pkm fun a E => ?_; refine za9 ?_
  exact ⟨i + 1, ⟨E.to (by repeat (first | exact trivial | refine ⟨rfl, ?_⟩)), H, by omega⟩, by omega⟩
 ·skip
  clear E; intro c21 E
  obtain rfl : i = 16 := by have := c21; simp only [decide_eq_false_iff_not] at this; omega
  rw [zo2 (zc0 gt k) 16] at H
  refine zaX E rfl ?_; refine wp_exit ?_
  repeat (first | refine za3 ?_ | refine za4 ?_ | refine zaU (by decide) ?_)
  refine hK4 _ _ ?_; refine wp_seq_k fun K10 hK10 => ?_; refine Vr ?_; refine Vv E pkm fun a E => ?_; refine Vn ?_; refine wp_block ?_; refine zbz (γ := Nat) [1, 5, 7, 8] (fun i => [(30, .int .i64 (i : Int))]) (fun i => [.blk b8 (ca [.row 12 fun j => bv (cpB ((zc0 gt k).drop 16) i j)]) 51, .blk b7 (ca [.row 16 fun j => bv ((zc0 gt k).getD j 0)]) 49, .blk b2 (ca [.key k]) 23 ]) (fun i => [TxF A17 c17 (zc0 gt k), AtC ⟨b15, 0, none⟩ [.one (.int .u8 115), .one (.int .u8 116), .one (.int .u8 114), .one (.int .u8 101), .one (.int .u8 97), .one (.int .u8 109)], TxF BA bc bs, AtC ⟨1, 0, none⟩ [.row 64 fun i => u32 (gt i)]]) (fun i => i ≤ 12) (fun i => 12 - i) (0) E H (by repeat (first | exact trivial | refine ⟨rfl, ?_⟩)) (by omega) ?_; clear E H
  intro i a w E H hφ; replace E : Env a _ [(30, _), (1, _), (5, _), (7, _), (8, _)] := E; replace H : Sep _ _ _ _ [_, _, _] [_, _, _, _] := H; refine Vr ?_; refine Vv E pki fun a E => ?_; refine Vn ?_; refine wp_seq_k fun K13 hK13 => ?_; refine zaD (d := 31) E rfl ?_ ?_
  ·skip
   clear E; intro c31 E
   have hi : i < 12 := by have := c31; simp only [jS] at this; omega
   refine zbd E rfl ?_; refine wp_skip ?_; refine hK13 _ _ ?_; refine wp_seq_k fun K14 hK14 => ?_; refine wp_block ?_; refine Vr ?_; refine Vv E pkm fun a E => ?_; refine Vv E pka fun a E => ?_; refine Vn ?_; refine zaA ?_; refine Vv E pkm fun a E => ?_; refine Vv E pkm fun a E => ?_; refine Vv E pkm fun a E => ?_; refine Vv E (zaK rfl rfl rfl rfl (zds (by omega) (by omega))) fun a E => ?_; refine Vv E (zcb (sz := 1) (i := 16 + i) hA17 rfl (by kernel_rfl) rfl rfl (by omega) (by omega)) fun a E => ?_
   refine Vv E (zdy (H.fact 0 rfl) (fun _ _ _ => trivial) hA17 rfl rfl (hg (16 + i) (by omega)) (by kernel_rfl)) fun a E => ?_; refine Vv E (zaV (M := 12) (i := i) rfl (by kernel_rfl) rfl rfl rfl hi) fun a E => ?_; refine Ve E ?_; refine zbb (off := 0) (i := i) (fun j => bv (cpB ((zc0 gt k).drop 16) (i + 1) j)) 0 E H rfl rfl rfl hi rfl rfl rfl rfl rfl rfl (by kernel_rfl) (fun j => by rw [← zun]; exact zmA _ i j) rfl ?_; clear H; intro w H F; replace H : Sep _ _ _ _ [_, _, _] _ := H; refine zdf rfl ?_; clear F; refine hK14 _ _ ?_; refine zaA ?_; refine Vv E (zaK rfl rfl rfl rfl (zds (by omega) (by omega))) fun a E => ?_; refine Vv E pkm fun a E => ?_; refine za9 ?_
   exact ⟨i + 1, ⟨E.to (by repeat (first | exact trivial | refine ⟨rfl, ?_⟩)), H, by omega⟩, by omega⟩
  ·skip
   clear E; intro c31 E
   obtain rfl : i = 12 := by have := c31; simp only [decide_eq_false_iff_not] at this; omega
   rw [zo2 ((zc0 gt k).drop 16) 12] at H
   refine zaX E rfl ?_; refine wp_exit ?_
   repeat (first | refine za3 ?_ | refine za4 ?_ | refine zaU (by decide) ?_)
   refine hK10 _ _ ?_; refine Vr ?_; refine Vv E (pkl 16 H 1) fun a E => ?_; refine Vv E (pkl 12 H 0) fun a E => ?_; refine Vv E pkm fun a E => ?_; refine Ve E ?_; refine Vc E ?_; refine (zwk (k := bs) (x := zc0 gt k) H.xk (H.fact 2 rfl) hbl hSb).mono ?_; rintro e w ⟨A45, c45, rfl, H1⟩
   replace H := H.call H1
   clear H1; replace H : Sep _ _ _ _ [_, _, _, _] [_, _, _, _] := H; refine Vp E fun a E => ?_; refine Vv E pkm fun a E => ?_; refine Vv E pkx fun a E => ?_; refine Vv E pkx fun a E => ?_; refine Vv E pka fun a E => ?_; refine Vv E pka fun a E => ?_; refine Vn ?_; refine Vr ?_; refine Vv E pkm fun a E => ?_; refine Vv E pka fun a E => ?_; refine Vn ?_; refine wp_ret ?_
   repeat (first | refine zat ?_ | refine zas ?_)
   refine zf7 rfl E (zcu rfl) ?_
   exact ⟨A45, c45, rfl, (Sep.keepLR (L := [_]) (L' := [_, _, _]) (R := []) (R' := []) (H.refacts (R' := []) (jK _)))⟩
theorem zwm {HA TA : Option Addr} {hc tc : Nat} {k hid : List Nat} {ts : List (List Nat)} {tm : Nat → zax.μ} {gt : Nat → Nat} (hk32 : k.length = 32) (hkb : ∀ x ∈ k, x < 256) (hhl : hid.length ≤ 100000000) (hts : ts.length ≤ 1000) {X : List Nat} {w0 : World} (hX : ∀ k ∈ X, k < w0.heap.size) (hH : St (TxF HA hc hid) w0 X) (hL : St (LiF zax TA tc ts tm) w0 X) (hG : St (AtC ⟨1, 0, none⟩ [.row 64 fun i => u32 (gt i)]) w0 X) :
  Calls Tryz.prog 38 #[.agg (ca [.key k]), .slice HA hid.length hc, .slice TA ts.length tc] w0 fun e w' => ∃ A' c', e = .returned (.tuple #[.slice A' (zh9 gt (zfp gt k) hid ts).1.length c', .bool (decide (okT ts))]) ∧ Sep X [] w0 w' [] [TxF A' c' (zh9 gt (zfp gt k) hid ts).1] := by
 have hlM : (zfp gt k).length = 32 := by with_unfolding_all exact ze2 _ _ _ _
 have heM : zhY gt k zzG 32 = zfp gt k := by with_unfolding_all rfl
 have halb : ∀ x ∈ (zco ts ++ beL 4 ts.length), x < 256 := fun x hx => by
  rcases List.mem_append.1 hx with h1 | h1
  ·exact zjI ts (fun t ht => by
    obtain ⟨q, hq⟩ := List.mem_iff_getElem?.1 ht
    obtain ⟨_, _, _, h3⟩ := LiF.get hL hq
    exact (St.now h3 : TxF _ _ _ _).byt) x h1
  ·exact zmM _ _ x h1
 refine zaz Tryz.ntmps38 Tryz.func38 rfl rfl fun a E => ?_; replace E : Env a _ [(0, _), (1, _), (2, _)] := E
 have H : Sep X [] w0 w0 [] [(TxF HA hc hid), (LiF zax TA tc ts tm), (AtC ⟨1, 0, none⟩ [.row 64 fun i => u32 (gt i)])] := Sep.start hX (jJ.2 ⟨hH, jJ.2 ⟨hL, jJ.2 ⟨hG, fun _ h => by cases h⟩⟩⟩)
 refine Vr ?_; refine Wb E H fun b3 w a H E => ?_; refine Vv E pka fun a E => ?_; refine Vv E pka fun a E => ?_; refine Vn ?_; refine Vr ?_; refine Vv E pkm fun a E => ?_; refine Ve E ?_; refine Vc E ?_; refine (zn2 (m0 := []) (ts := ts) (by show 0 ≤ 100000000; decide) (by omega) H.xk zbP (H.fact 1 rfl)).mono ?_; rintro e w ⟨A15, c15, rfl, H1⟩
 replace H := H.call H1
 clear H1; replace H : Sep _ _ _ _ [_, _] [_, _, _] := H; refine Vp E fun a E => ?_; refine Vv E pkm fun a E => ?_; refine Vv E pkx fun a E => ?_; refine Vv E pkx fun a E => ?_; refine Vv E pka fun a E => ?_; refine Vv E pka fun a E => ?_; refine Vn ?_; refine wp_seq_k fun K2 hK2 => ?_; refine Vr ?_; refine Vv E pkm fun a E => ?_; refine Vv E pki fun a E => ?_; refine Vn ?_; refine zaD (d := 19) E rfl ?_ ?_
 ·skip
  clear E; intro c19 E
  have hok : ¬ okT ts := fun h => by
   rw [zff h] at c19
   cases c19
  have htv : zd5 [] ts = ([], 4) := ziy hok
  have htr : (zh9 gt (zfp gt k) hid ts) = ([], 4) := by unfold zh9; rw [if_neg hok]
  refine zbd E rfl ?_; refine Vr ?_; refine Vv E pka fun a E => ?_; refine Vv E pka fun a E => ?_; refine Vn ?_; refine wp_ret ?_
  repeat (first | refine zat ?_ | refine zas ?_)
  refine zfR rfl E (zcu rfl) (zcu rfl) ?_
  rw [htr, decide_eq_false hok]
  exact ⟨none, 0, rfl, ((H.know zbP).refacts (jJ.2 ⟨zbP, jK _⟩)).popL.popL⟩
 ·skip
  clear E; intro c19 E
  have hok : okT ts := by
   refine Classical.byContradiction fun h => ?_
   rw [ziy h] at c19
   cases c19
  have htv : zd5 [] ts = (zco ts, 0) := zff hok
  have htr : (zh9 gt (zfp gt k) hid ts) = (zh8 gt (zfp gt k) hid ts, 0) := by unfold zh9; rw [if_pos hok]
  rw [htv] at E H
  simp only at E H
  have hpsf : [(zco ts ++ beL 4 ts.length), hid].flatten.length ≤ 10000000000 := by
   rw [List.flatten_cons, List.flatten_cons, List.flatten_nil, List.append_nil, jQ, jQ, ze3]; have := zev ts hok
   omega
  refine zaX E rfl ?_; refine wp_skip ?_; refine hK2 _ _ ?_; refine Vr ?_; refine Vv E pkm fun a E => ?_; refine Vv E pkm fun a E => ?_; refine Vv E pkn fun a E => ?_; refine Vv E (zdW rfl rfl (by kernel_rfl) (by kernel_rfl) (zrJ (by omega) (by omega))) fun a E => ?_; refine Ve E ?_; refine Vc E ?_; refine (ziw 4 ts.length (by decide) (by omega) H.xk).mono ?_; rintro e w ⟨A24, c24, rfl, H1⟩
  replace H := H.call H1
  clear H1; replace H : Sep _ _ _ _ [_, _] [_, _, _, _] := H; refine Vp E fun a E => ?_; refine Ve E ?_; refine zdh (k := zco ts) (m := beL 4 ts.length) 0 E H (H.fact 0 rfl) rfl rfl rfl rfl ⟨Tryz.underlying24, by kernel_rfl⟩ (by rw [ze3]; have := zev ts hok; omega) ?_; clear H; intro A25 c25 w H F; replace H : Sep _ _ _ _ [_, _] _ := H; refine Vp E fun a E => ?_; clear F; refine Vv E pka fun a E => ?_; refine Vn ?_; refine Vr ?_; refine Vv E (pkl 32 H 1) fun a E => ?_; refine Ve E ?_
  refine zaM (sz := 1) (z := [.one (.int .u8 0), .one (.int .u8 0), .one (.int .u8 0)]) E H rfl Tryz.underlying24 (by kernel_rfl) (by decide) (by kernel_rfl) ⟨_, [.one _], 0, _, rfl, rfl, rfl, rfl, ⟨_, [.one _], 1, _, rfl, rfl, rfl, rfl, ⟨_, [.one _], 2, _, rfl, rfl, rfl, rfl, rfl⟩⟩⟩ ?_; clear H; intro b28 w H _; refine Vp E fun a E => ?_; refine Ve E ?_; refine zem 0 E H rfl rfl Tryz.underlying24 Tryz.underlying5 rfl rfl ?_; clear H; intro w H F; replace H : Sep _ _ _ _ [_, _] [_, _, _, _, _] := H; refine Vp E fun a E => ?_; clear F; refine Ve E ?_; refine Vc E ?_
  have hinf := zbJ (k := zzG) (c := 3) (H.fact 0 rfl) rfl (by show 3 ≤ 3; decide) (by show 3 ≤ _; decide) (by decide)
  refine (zgx (n := 32) (k := k) (info := zzG) hk32 hkb (by omega) (by show 3 ≤ 1048576; decide) H.xk hinf (H.fact 4 rfl)).mono ?_; rintro e w ⟨A30, c30, rfl, H1⟩
  replace H := H.call H1
  clear H1; replace H : Sep _ _ _ _ [_, _] [_, _, _, _, _, _] := H; refine Vp E fun a E => ?_; clear hinf; refine Vv E pkm fun a E => ?_; refine Vv E pkx fun a E => ?_; refine Vv E pkx fun a E => ?_; refine Vv E pka fun a E => ?_; refine Vv E pka fun a E => ?_
  rw [heM] at H
  rw [show Value.slice A30 32 c30 = .slice A30 (zfp gt k).length c30 from by rw [hlM]] at E
  refine Vn ?_; refine wp_seq_k fun K7 hK7 => ?_
  replace H := H.rowTx (Sep.new_x H) (by rw [jQ, ze3]; have := zev ts hok; omega) halb
  replace H : Sep _ _ _ _ [_] [_, _, _, _, _, _, _] := H; refine zaA ?_; refine Vv E pkm fun a E => ?_; refine Vv E pkm fun a E => ?_; refine Vv E pkm fun a E => ?_; refine Ve E ?_; refine zaM (sz := 1) (z := [.one (.slice none 0 0), .one (.slice none 0 0)]) E H rfl Tryz.underlying25 (by kernel_rfl) (by decide) (by kernel_rfl) ⟨_, [.one _], 0, _, rfl, rfl, rfl, rfl, ⟨_, [.one _], 1, _, rfl, rfl, rfl, rfl, rfl⟩⟩ ?_; clear H; intro b36 w H _; refine Vp E fun a E => ?_; refine Ve E ?_; refine Vc E ?_
  have HB := H.lend 0 rfl
  have hli := zed (T := zax) (its := [(((zco ts ++ beL 4 ts.length), (A25, c25)) : List Nat × zax.μ), (hid, (HA, hc))]) (c := 2) (xs := [(zco ts ++ beL 4 ts.length), hid]) (HB.fact 0 rfl) zhX (zaT (its := [_]) (q := ((hid, (HA, hc)) : List Nat × zax.μ)) (zaT (its := []) (q := (((zco ts ++ beL 4 ts.length), (A25, c25)) : List Nat × zax.μ)) zb3 (HB.fact 1 rfl)) (HB.fact 5 rfl)) rfl (by show 2 ≤ 2; decide) (by show 2 ≤ _; decide)
  have H2 := HB.refacts (R' := [_, _, _]) (jJ.2 ⟨HB.fact 2 rfl, jJ.2 ⟨hli, jJ.2 ⟨HB.fact 7 rfl, jK _⟩⟩⟩)
  clear HB hli; refine (zmz (key := zfp gt k) (ps := [(zco ts ++ beL 4 ts.length), hid]) (by omega) hpsf H2.xk (H2.fact 0 rfl) (H2.fact 1 rfl) (H2.fact 2 rfl)).mono ?_; rintro e w ⟨rfl, H1⟩
  have F := H1.frm
  replace H := H.grow F
  refine Vp E fun a E => ?_; clear F; clear H2; refine Wa (z := [.key []]) E H fun b12 w a H E => ?_; refine Ws 0 E H fun w H => ?_; replace H : Sep _ _ _ _ [_, _, _] _ := H; refine hK7 _ _ ?_; refine Vr ?_; refine Vv E (zqq (N := 32) (sz := 1) (hi := 16) rfl (by kernel_rfl) rfl rfl rfl (by omega)) fun a E => ?_; refine Vv E pka fun a E => ?_
  refine Vv E pka fun a E => ?_; refine Vn ?_; refine wp_ret ?_
  repeat (first | refine zat ?_ | refine zas ?_)
  refine zfR rfl E (zcu rfl) (zcu rfl) ?_
  have hT := ze1 (hi := 16) (zbJ (k := zec gt (zfp gt k) [(zco ts ++ beL 4 ts.length), hid]) (c := 32) ((H.lend 0 rfl).fact 0 rfl) (by rw [zcA, zbk (zbr _ _ _)]) (by rw [zbr]; omega) (by rw [zbr]; omega) (zcX _ _ _)) (by rw [zbr]; omega)
  rw [show (zec gt (zfp gt k) [(zco ts ++ beL 4 ts.length), hid]).take 16 = zh8 gt (zfp gt k) hid ts from by with_unfolding_all rfl] at hT
  rw [htr, decide_eq_true hok]
  exact ⟨some ⟨b12, 0, none⟩, 32, by simp only [zfg], (((H.lend 0 rfl).know hT).refacts (jJ.2 ⟨((H.lend 0 rfl).know hT).fact 0 rfl, jK _⟩)).popL.popL⟩
theorem zuo {PA TA : Option Addr} {pc tc : Nat} {k plain : List Nat} {ts : List (List Nat)} {tm : Nat → zax.μ} {gt : Nat → Nat} (hk32 : k.length = 32) (hkb : ∀ x ∈ k, x < 256) (hts : ts.length ≤ 1000) {X : List Nat} {w0 : World} (hX : ∀ k ∈ X, k < w0.heap.size) (hP : St (TxF PA pc plain) w0 X) (hL : St (LiF zax TA tc ts tm) w0 X) (hG : St (AtC ⟨1, 0, none⟩ [.row 64 fun i => u32 (gt i)]) w0 X) :
  Calls Tryz.prog 22 #[.agg (ca [.key k]), .slice PA plain.length pc, .slice TA ts.length tc] w0 fun e w' => ∃ A' c', e = .returned (.tuple #[.slice A' (zj4 gt k plain ts).1.length c', .int .i64 (zj4 gt k plain ts).2]) ∧ Sep X [] w0 w' [] [TxF A' c' (zj4 gt k plain ts).1] := by
 refine zaz Tryz.ntmps22 Tryz.func22 rfl rfl fun a E => ?_; replace E : Env a _ [(0, _), (1, _), (2, _)] := E
 have H : Sep X [] w0 w0 [] [(TxF PA pc plain), (LiF zax TA tc ts tm), (AtC ⟨1, 0, none⟩ [.row 64 fun i => u32 (gt i)])] := Sep.start hX (jJ.2 ⟨hP, jJ.2 ⟨hL, jJ.2 ⟨hG, fun _ h => by cases h⟩⟩⟩)
 refine Vr ?_; refine Wb E H fun b3 w a H E => ?_; refine Vv E pka fun a E => ?_; refine Vv E pka fun a E => ?_; refine Vn ?_; refine wp_seq_k fun K1 hK1 => ?_; refine Vr ?_; refine Vv E pkm fun a E => ?_; refine Vv E pkn fun a E => ?_; refine Vv E pki fun a E => ?_; refine Vn ?_; refine zaD (d := 13) E rfl ?_ ?_
 ·skip
  clear E; intro c13 E
  have hbig : 1048576 < plain.length := by have := c13; simp only [jS] at this; omega
  refine zbd E rfl ?_; refine Vr ?_; refine Vv E pka fun a E => ?_; refine Vv E pka fun a E => ?_; refine Vn ?_; refine wp_ret ?_
  repeat (first | refine zat ?_ | refine zas ?_)
  refine zfR rfl E (zcu rfl) (zcu rfl) ?_
  rw [zwj hbig]
  exact ⟨none, 0, rfl, ((H.know zbP).refacts (jJ.2 ⟨zbP, jK _⟩)).popL⟩
 ·skip
  clear E; intro c13 E
  have hnb : ¬ 1048576 < plain.length := by have := c13; simp only [decide_eq_false_iff_not] at this; omega
  have hpl : plain.length ≤ 1048576 := by omega
  refine zaX E rfl ?_; refine wp_skip ?_; refine hK1 _ _ ?_; refine Vr ?_; refine Vv E (pkl 32 H 0) fun a E => ?_; refine Vv E pkm fun a E => ?_; refine Ve E ?_; refine Vc E ?_; refine (zo3 (k := k) (bs := plain) hk32 hkb hpl H.xk (H.fact 0 rfl) (H.fact 2 rfl)).mono ?_; rintro e w ⟨A16, c16, rfl, H1⟩
  replace H := H.call H1
  clear H1; replace H : Sep _ _ _ _ [_, _] [_, _, _] := H; refine Vp E fun a E => ?_; refine Vv E pka fun a E => ?_; refine Vn ?_; refine Vr ?_; refine Vv E (pkl 32 H 1) fun a E => ?_; refine Vv E pkm fun a E => ?_; refine Vv E pkm fun a E => ?_; refine Ve E ?_; refine Vc E ?_
  have HR := H.rowTx (Sep.new_x H) (by rw [zd7]; omega) (zg5 _ _)
  refine (zwm (k := k) (hid := (zen (zc0 gt k) plain)) (ts := ts) hk32 hkb (by rw [zd7]; omega) hts HR.xk (HR.fact 0 rfl) (HR.fact 2 rfl) (HR.fact 3 rfl)).mono ?_; rintro e w ⟨A21, c21, rfl, H1⟩
  have F := H1.frm
  replace H := H.grow F
  refine Vp E fun a E => ?_; clear F
  have hT21 := H1.fact 0 rfl
  clear H1 HR; refine Vv E pkm fun a E => ?_; refine Vv E pkx fun a E => ?_; refine Vv E pkx fun a E => ?_; refine Vv E pka fun a E => ?_; refine Vv E pka fun a E => ?_; refine Vn ?_; refine wp_seq_k fun K6 hK6 => ?_; refine Vr ?_; refine Vv E pkm fun a E => ?_; refine Vv E (zo9 rfl rfl) fun a E => ?_; refine Vn ?_; refine zaD (d := 25) E rfl ?_ ?_
  ·skip
   clear E; intro c25 E
   have hok : ¬ okT ts := by simpa using c25
   have htr : zh9 gt (zfp gt k) (zen (zc0 gt k) plain) ts = ([], 4) := by unfold zh9; rw [if_neg hok]
   have hsr : (zj4 gt k plain ts) = ([], 4) := by rw [zmB hnb]; unfold zcq; rw [if_neg hok]
   refine zbd E rfl ?_; refine Vr ?_; refine Vv E pka fun a E => ?_; refine Vv E pka fun a E => ?_; refine Vn ?_; refine wp_ret ?_
   repeat (first | refine zat ?_ | refine zas ?_)
   refine zfR rfl E (zcu rfl) (zcu rfl) ?_
   rw [hsr]
   exact ⟨none, 0, rfl, ((H.know zbP).refacts (jJ.2 ⟨zbP, jK _⟩)).popL.popL⟩
  ·skip
   clear E; intro c25 E
   have hok : okT ts := by simpa using c25
   have htr : zh9 gt (zfp gt k) (zen (zc0 gt k) plain) ts = (zh8 gt (zfp gt k) (zen (zc0 gt k) plain) ts, 0) := by unfold zh9; rw [if_pos hok]
   have hsr : (zj4 gt k plain ts) = ((zen (zc0 gt k) plain) ++ zh8 gt (zfp gt k) (zen (zc0 gt k) plain) ts, 0) := by rw [zmB hnb]; unfold zcq; rw [if_pos hok]
   rw [htr] at E hT21
   simp only at E hT21
   refine zaX E rfl ?_; refine wp_skip ?_; refine hK6 _ _ ?_; refine Vr ?_; refine Vv E pkm fun a E => ?_; refine Vv E pkm fun a E => ?_; refine Ve E ?_; refine zdh (k := (zen (zc0 gt k) plain)) (m := zh8 gt (zfp gt k) (zen (zc0 gt k) plain) ts) 0 E H hT21 rfl rfl rfl rfl ⟨Tryz.underlying24, by kernel_rfl⟩ (by rw [zd7, zfg]; omega) ?_; clear H; intro A28 c28 w H F; replace H : Sep _ _ _ _ [_, _] _ := H; refine Vp E fun a E => ?_; clear F; refine Vv E pka fun a E => ?_; refine Vv E pka fun a E => ?_; refine Vn ?_; refine wp_ret ?_
   repeat (first | refine zat ?_ | refine zas ?_)
   refine zfR rfl E (zcu rfl) (zcu rfl) ?_
   rw [hsr]
   have hT := H.rowTx (Sep.new_x H) (by rw [jQ, zd7, zfg]; omega) (fun x hx => by rcases List.mem_append.1 hx with h1 | h1; exact zg5 _ _ x h1; exact znT _ _ _ _ x h1)
   exact ⟨A28, c28, rfl, (hT.refacts (jJ.2 ⟨hT.fact 0 rfl, jK _⟩)).popL⟩
end
section
open Go.RowKit
section
variable {P : Program} {o : Oper} {a : Act} {w : World} {Q : Exit → Act → World → Prop} {N : Nat} {l : List (Nat × Value)} {K : Act → World → Prop} {x s : Operand}
 {X G : List Nat} {w0 : World} {L : List Res} {R : List (World → Prop)}
theorem zup {A : Option Addr} {c : Nat} {k : List Nat} (h : TxF A c k w) (c' : Nat) (hc : A = none → c' = 0) : (Builtin.firstCells 1 k.length (.slice A k.length c')).run P w = .ok (k.map bv).toArray w := by
 cases A with
 | none =>
  have h0 := (h.nil rfl).1
  have hk : k = [] := List.eq_nil_of_length_eq_zero h0
  subst hk
  exact run_firstCells_none w 1 0 0 c'
 | some ad =>
  exact run_firstCells_some w 1 k.length ad k.length c' (k.map bv) (by simp) (fun j v hj => by
   rw [List.getElem?_map, Option.map_eq_some_iff] at hj
   obtain ⟨z, hz, rfl⟩ := hj
   exact h.at_ ad rfl j z hz)
theorem zwn {t e : TypeId} {k m : List Nat} {c kc : Nat} {A KA : Option Addr} {Y : List Nat} (E : Env a N l) (H : Sep X G w0 w L R) (hk : St (TxF KA kc k) w Y) (hr : St (TxF A c m) w Y) (ho : o.op = .call { callee := .builtin .append, args := #[s, x], argTypes := #[t, t] })
  (hs : ev l s = some (.slice KA k.length kc)) (hx : ev l x = some (.slice A m.length c)) (hT : ByteT P t e) (hm : kc < k.length + m.length) (hn : k.length + m.length ≤ 1000000000)
  (h : ∀ A' c' w', Sep X G w0 w' (.row (.slice A' (k ++ m).length c') e 1 (k ++ m).length ((k ++ m).map bv) :: L) R → Frm [] w w' → K (a.put o.dst (.slice A' (k ++ m).length c')) w') : o.wp P a w K Q := by
 have hinfo := hT.info
 cases hi : P.info? e with
 | none => rw [hi] at hinfo; cases hinfo
 | some i =>
  rw [hi] at hinfo
  simp only [Option.map_some, Option.some.injEq, Prod.mk.injEq] at hinfo
  obtain ⟨h1, h2, h3⟩ := hinfo
  have hkn := hk.now
  have hrn := hr.now
  have hm0 : 0 < m.length := by have := hkn.cap; omega
  obtain ⟨ad, hA⟩ : ∃ ad, A = some ad := by
   cases hq : A with
   | some ad => exact ⟨ad, rfl⟩
   | none => have := (hrn.nil hq).1; omega
  subst hA
  have hold : (Builtin.firstCells i.size k.length (.slice KA k.length kc)).run P w.drew = .ok (k.map bv).toArray w.drew := by
   rw [h2]
   exact zup (w := w.drew) ⟨hkn.cap, hkn.len, hkn.byt, hkn.nil, fun ad' e' j z hz => hkn.at_ ad' e' j z hz⟩ kc fun e' => (hkn.nil e').2
  have hsrc : Src P i.size t (.slice (some ad) m.length c) m.length (m.map bv) w := by
   refine Src.ofSlice w hT.sl ad m.length c (m.map bv) (by rw [List.length_map, h2, Nat.mul_one]) (fun j u hu => ?_) (fun u hu => ?_)
   ·rw [List.getElem?_map, Option.map_eq_some_iff] at hu
    obtain ⟨z, hz, rfl⟩ := hu
    exact hrn.at_ ad rfl j z hz
   ·obtain ⟨z, _, rfl⟩ := List.mem_map.1 hu
    rfl
  have hrun := run_append_grow_src w t t o.type e i (.int .u8 0) hT.sl hi h1 KA k.length kc (k.map bv) hold (.slice (some ad) m.length c) m.length (m.map bv) hsrc hm (by omega) (growslice_fits hm (by rw [h3]; omega))
  obtain ⟨g, hg⟩ : ∃ g, grownCap w (k.length + m.length) kc e = g := ⟨_, rfl⟩
  have hge : k.length + m.length ≤ g := by rw [← hg]; exact grownCap_ge w _ _ _
  have hgm : g ≤ maxLen := by rw [← hg]; exact grownCap_le_maxLen w _ _ _ (by unfold maxLen; omega)
  rw [hg] at hrun
  obtain ⟨C, hC⟩ : ∃ C, (k.map bv ++ m.map bv).toArray ++ Builtin.zeroCells (Value.int .u8 0).cells (g - (k.length + m.length)) = C := ⟨_, rfl⟩
  rw [hC] at hrun
  have hCs : C.size = g * 1 := by
   rw [← hC, Array.size_append, size_zeroCells]
   simp only [List.size_toArray, jQ, List.length_map]
   show k.length + m.length + (g - (k.length + m.length)) * 1 = g * 1
   omega
  have hCt : C.toList.take ((k ++ m).length * 1) = (k ++ m).map bv := by
   rw [← hC, Array.toList_append, List.toList_toArray, Nat.mul_one, List.map_append]
   exact List.take_left' (by simp)
  unfold Oper.wp execOp
  simp only [ho, resolve, invoke, builtin, Sem.run_bind, Sem.run_pure, Result.andThen_ok, List.map_toArray, List.map_cons, List.map_nil, E.ev hs, E.ev hx, hrun]
  have hf : Frm [] w (w.drew.alloc (.cells C e)) := Frm.of_below (((Below.refl _ _).drew).alloc (jV _) _)
  have hH := H.own (q := .row (.slice (some ⟨w.heap.size, 0, none⟩) (k ++ m).length g) e 1 (k ++ m).length ((k ++ m).map bv)) hf ⟨by simp, .inr ⟨w.heap.size, g, C, rfl, Nat.zero_le _, heap_alloc_new w.drew _, by rw [jQ]; exact hge, hgm, hCs, hCt⟩⟩ (by simp [Res.keys, Value.ownBlock]) (by simp [Res.keys, Value.ownBlock])
  have := h (some ⟨w.heap.size, 0, none⟩) g _ hH hf
  rw [jQ] at this
  exact this
end
end
section
open Go.RowKit
theorem zkA (k : List Nat) : ca [.key k] = ca [.row 32 fun j => bv (k.getD j 0)] := by rw [zcK, zjJ]
theorem zwo (x : List Nat) : (fun j => bv (([] : List Nat).getD j 0)) = fun j => bv (cpB x 0 j) := by funext j; simp [cpB]
theorem zwp {x : List Nat} {i : Nat} (h : x.length ≤ i) : (fun j => bv (cpB x i j)) = fun j => bv (cpB x (i + 1) j) := by
 funext j
 unfold cpB
 congr 1
 by_cases h1 : j < i
 ·rw [if_pos h1, if_pos (by omega)]
 ·rw [if_neg h1]
  split
  ·rw [jR, List.getElem?_eq_none (by omega)]; rfl
  ·rfl
section
variable {X : List Nat} {w0 : World} {k u : List Nat}
theorem zuq (hX : ∀ i ∈ X, i < w0.heap.size) (hk : ∀ x ∈ k, x < 256) (hu : ∀ x ∈ u, x < 256) :
  Calls Tryz.prog 29 #[.agg (ca [.key k]), .agg (ca [.key u])] w0 fun e w' => e = .returned (.agg (ca [.key (zbt k u)])) ∧ Sep X [] w0 w' [] [] := by
 rw [zcK, zcK]
 refine (znB (fun i => k.getD i 0) (fun i => u.getD i 0) (fun i _ => zc1 hk i) (fun i _ => zc1 hu i) w0).mono ?_
 rintro e w' ⟨rfl, hb⟩
 exact ⟨by rw [zg6]; rfl, zmv hX hb⟩
theorem zur (hX : ∀ i ∈ X, i < w0.heap.size) (hk : ∀ x ∈ k, x < 256) :
  Calls Tryz.prog 19 #[.agg (ca [.key k])] w0 fun e w' => e = .returned (.agg (ca [.key (zgw k)])) ∧ Sep X [] w0 w' [] [] := by
 rw [zcK]
 refine (zty (fun i => k.getD i 0) (fun i _ => zc1 hk i) w0).mono ?_
 rintro e w' ⟨rfl, hb⟩
 exact ⟨by rw [zg6]; rfl, zmv hX hb⟩
end
attribute [local irreducible] zec zhY zjK zbt zgw zcq zen zh8 zb7 zbR zcQ zeQ zj4
theorem zwq {A : Option Addr} {c : Nat} {b : List Nat} {X : List Nat} {w0 : World} (hX : ∀ k ∈ X, k < w0.heap.size) (hb : St (TxF A c b) w0 X) :
  Calls Tryz.prog 24 #[.slice A b.length c] w0 fun e w' => e = .returned (.agg (ca [.key b])) ∧ Sep X [] w0 w' [] [] := by
 have hbl := hb.now.len
 refine zaz Tryz.ntmps24 Tryz.func24 rfl rfl fun a E => ?_; replace E : Env a _ [(0, _)] := E
 have H : Sep X [] w0 w0 [] [(TxF A c b)] := Sep.start hX (jJ.2 ⟨hb, fun _ h => by cases h⟩)
 refine Vr ?_; refine Wa (z := [.key []]) E H fun b2 w a H E => ?_; refine Vn ?_; refine Vr ?_; refine Wa (z := [.key []]) E H fun b3 w a H E => ?_; refine Vn ?_; refine wp_seq_k fun K2 hK2 => ?_; refine Vr ?_; refine Vv E pkm fun a E => ?_; refine Vn ?_; refine wp_block ?_
 have H2 : Sep X [] w0 w [.blk b3 (ca [.row 32 fun j => bv (cpB b 0 j)]) 23, .blk b2 (ca [.key []]) 23 ] [TxF A c b] := by
  rw [← zwo, ← zkA]
  exact H
 clear H
 have H := H2
 clear H2; refine zbz (γ := Nat) [0, 2, 3] (fun i => [(5, .int .i64 (i : Int))]) (fun i => [.blk b3 (ca [.row 32 fun j => bv (cpB b i j)]) 23, .blk b2 (ca [.key []]) 23 ]) (fun i => [TxF A c b]) (fun i => i ≤ 32) (fun i => 32 - i) (0) E H (by repeat (first | exact trivial | refine ⟨rfl, ?_⟩)) (by omega) ?_; clear E H; intro i a w E H hφ; replace E : Env a _ [(5, _), (0, _), (2, _), (3, _)] := E; replace H : Sep _ _ _ _ [_, _] [_] := H; refine Vr ?_; refine Vv E pki fun a E => ?_; refine Vn ?_; refine wp_seq_k fun K5 hK5 => ?_; refine zaD (d := 6) E rfl ?_ ?_
 ·skip
  clear E; intro c6 E
  have hi : i < 32 := by have := c6; simp only [jS] at this; omega
  refine zbd E rfl ?_; refine wp_skip ?_; refine hK5 _ _ ?_; refine wp_seq_k fun K6 hK6 => ?_; refine wp_block ?_; refine Vr ?_; refine Vv E pkm fun a E => ?_; refine Vv E pka fun a E => ?_; refine Vn ?_; refine Vr ?_; refine Vv E pkm fun a E => ?_; refine Vv E pkm fun a E => ?_; refine Vv E pkn fun a E => ?_; refine Vv E pki fun a E => ?_; refine Vn ?_; refine zaD (d := 11) E rfl ?_ ?_
  ·skip
   clear E; intro c11 E
   have hi2 : i < b.length := by have := c11; simp only [jS] at this; omega
   obtain ⟨ad, hA⟩ : ∃ ad, A = some ad := by
    cases hq : A with
    | some ad => exact ⟨ad, rfl⟩
    | none => have := ((St.now (H.fact 0 rfl)).nil hq).1; omega
   have hg : b[i]? = some (b.getD i 0) := by rw [jR, jP hi2]; rfl
   refine zbd E rfl ?_; refine zaA ?_; refine Vv E pkm fun a E => ?_; refine Vv E pkm fun a E => ?_; refine Vv E pkm fun a E => ?_; refine Vv E (zcb (sz := 1) (i := i) hA rfl (by kernel_rfl) rfl rfl (by omega) (by omega)) fun a E => ?_; refine Vv E (zdy (H.fact 0 rfl) (fun _ _ _ => trivial) hA rfl rfl hg (by kernel_rfl)) fun a E => ?_; refine Vv E (zaV (M := 32) (i := i) rfl (by kernel_rfl) rfl rfl rfl hi) fun a E => ?_; refine Ve E ?_; refine zbb (off := 0) (i := i) (fun j => bv (cpB b (i + 1) j)) 0 E H rfl rfl rfl hi rfl rfl rfl rfl rfl rfl (by kernel_rfl) (fun j => zmA _ i j) rfl ?_; clear H; intro w H F
   replace H : Sep _ _ _ _ [_, _] _ := H; refine zdf rfl ?_; clear F; refine hK6 _ _ ?_; refine zaA ?_; refine Vv E (zaK rfl rfl rfl rfl (zds (by omega) (by omega))) fun a E => ?_; refine Vv E pkm fun a E => ?_; refine za9 ?_
   exact ⟨i + 1, ⟨E.to (by repeat (first | exact trivial | refine ⟨rfl, ?_⟩)), H, by omega⟩, by omega⟩
  ·skip
   clear E; intro c11 E
   have hge : b.length ≤ i := by have := c11; simp only [decide_eq_false_iff_not] at this; omega
   rw [zwp hge] at H
   refine zaX E rfl ?_; refine wp_skip ?_; refine hK6 _ _ ?_; refine zaA ?_; refine Vv E (zaK rfl rfl rfl rfl (zds (by omega) (by omega))) fun a E => ?_; refine Vv E pkm fun a E => ?_; refine za9 ?_
   exact ⟨i + 1, ⟨E.to (by repeat (first | exact trivial | refine ⟨rfl, ?_⟩)), H, by omega⟩, by omega⟩
 ·skip
  clear E; intro c6 E
  obtain rfl : i = 32 := by have := c6; simp only [decide_eq_false_iff_not] at this; omega
  rw [zo2 b 32, ← zkA b] at H
  refine zaX E rfl ?_; refine wp_exit ?_
  repeat (first | refine za3 ?_ | refine za4 ?_ | refine zaU (by decide) ?_)
  refine hK2 _ _ ?_; refine Vr ?_; refine Vv E (pkl 32 H 0) fun a E => ?_; refine Ws 1 E H fun w H => ?_; replace H : Sep _ _ _ _ [_, _] _ := H; refine Vn ?_; refine wp_ret ?_
  repeat (first | refine zat ?_ | refine zas ?_)
  refine zf7 rfl E (by exact zg8 (n := 32) H 1 rfl rfl rfl (by kernel_rfl)) ?_
  exact ⟨rfl, H.keepLR (L := []) (R := [])⟩
theorem zfh {s : ByteArray} {TA : Option Addr} {tc : Nat} {k lab : List Nat} {ts : List (List Nat)} {tm : Nat → zax.μ} {gt : Nat → Nat} (hs : s.data.toList.map UInt8.toNat = lab) (hlab : lab.length ≤ 100) (hk32 : k.length = 32) (hkb : ∀ x ∈ k, x < 256) (hts : znU ts) {X : List Nat} {w0 : World} (hX : ∀ k ∈ X, k < w0.heap.size) (hL : St (LiF zax TA tc ts tm) w0 X) (hG : St (AtC ⟨1, 0, none⟩ [.row 64 fun i => u32 (gt i)]) w0 X) :
  Calls Tryz.prog 18 #[.agg (ca [.key k]), .string s, .slice TA ts.length tc] w0 fun e w' => e = .returned (.tuple #[.agg (ca [.key (zjK gt k lab ts)]), .int .i64 0]) ∧ Sep X [] w0 w' [] [] := by
 have hst := hts.1
 have hsl := zhx ts hts.2
 have hs2 : (zco [zgb, lab]).length = 11 + lab.length := by
  show ((beL 2 zgb.length ++ zgb) ++ ((beL 2 lab.length ++ lab) ++ [])).length = _
  rw [jQ, jQ, jQ, jQ, zd6, zd6]
  show 2 + 7 + (2 + lab.length + 0) = _
  omega
 have hln : (zco (zgb :: lab :: ts)).length ≤ 1048576 := by rw [← zqt, jQ]; omega
 have hok3 : okT (zgb :: lab :: ts) := fun t ht => by
  rcases List.mem_cons.1 ht with rfl | ht
  ·show 7 ≤ 65535; decide
  ·rcases List.mem_cons.1 ht with rfl | ht
   ·omega
   ·exact znV hts t ht
 have hlb : ∀ x ∈ lab, x < 256 := fun x hx => by
  rw [← hs] at hx
  obtain ⟨b, _, rfl⟩ := List.mem_map.1 hx
  exact b.toNat_lt
 have halb : ∀ x ∈ zco (zgb :: lab :: ts), x < 256 := zjI (zgb :: lab :: ts) (fun t ht => by
  rcases List.mem_cons.1 ht with rfl | ht
  ·decide
  ·rcases List.mem_cons.1 ht with rfl | ht
   ·exact hlb
   ·obtain ⟨q, hq⟩ := List.mem_iff_getElem?.1 ht
    obtain ⟨_, _, _, h3⟩ := LiF.get hL hq
    exact (St.now h3 : TxF _ _ _ _).byt)
 have hX32 : (zjK gt k lab ts).length = 32 := ziz _ _ _ _
 refine zaz Tryz.ntmps18 Tryz.func18 rfl rfl fun a E => ?_; replace E : Env a _ [(0, _), (1, _), (2, _)] := E
 have H : Sep X [] w0 w0 [] [(LiF zax TA tc ts tm), (AtC ⟨1, 0, none⟩ [.row 64 fun i => u32 (gt i)])] := Sep.start hX (jJ.2 ⟨hL, jJ.2 ⟨hG, fun _ h => by cases h⟩⟩)
 refine Vr ?_; refine Wb E H fun b3 w a H E => ?_; refine Wa (z := [.key []]) E H fun b6 w a H E => ?_; refine Vv E pka fun a E => ?_; refine Vn ?_; refine Vr ?_; refine Ve E ?_
 refine zaM (sz := 1) (z := [.one (.int .u8 0), .one (.int .u8 0), .one (.int .u8 0), .one (.int .u8 0), .one (.int .u8 0), .one (.int .u8 0), .one (.int .u8 0)]) E H rfl Tryz.underlying24 (by kernel_rfl) (by decide) (by kernel_rfl) ⟨_, [.one _], 0, _, rfl, rfl, rfl, rfl, ⟨_, [.one _], 1, _, rfl, rfl, rfl, rfl, ⟨_, [.one _], 2, _, rfl, rfl, rfl, rfl, ⟨_, [.one _], 3, _, rfl, rfl, rfl, rfl, ⟨_, [.one _], 4, _, rfl, rfl, rfl, rfl, ⟨_, [.one _], 5, _, rfl, rfl, rfl, rfl, ⟨_, [.one _], 6, _, rfl, rfl, rfl, rfl, rfl⟩⟩⟩⟩⟩⟩⟩ ?_; clear H; intro b12 w H _; refine Vp E fun a E => ?_; refine Ve E ?_; refine zem 0 E H rfl rfl Tryz.underlying24 Tryz.underlying5 rfl rfl ?_; clear H; intro w H F; replace H : Sep _ _ _ _ [_, _] [_, _, _] := H; refine Vp E fun a E => ?_; clear F; refine Vv E pkm fun a E => ?_; refine Ve E ?_; refine zqs (k := lab) E H rfl rfl Tryz.underlying9 Tryz.underlying24 Tryz.underlying5 hs (by omega) ?_; clear H; intro A15 c15 w H F; replace H : Sep _ _ _ _ [_, _] [_, _, _, _] := H; refine Vp E fun a E => ?_; clear F; refine Ve E ?_; refine zaM (sz := 1) (z := [.one (.slice none 0 0), .one (.slice none 0 0)]) E H rfl Tryz.underlying25 (by kernel_rfl) (by decide) (by kernel_rfl) ⟨_, [.one _], 0, _, rfl, rfl, rfl, rfl, ⟨_, [.one _], 1, _, rfl, rfl, rfl, rfl, rfl⟩⟩ ?_; clear H; intro b16 w H _; refine Vp E fun a E => ?_
 refine Vv E pkm fun a E => ?_
 replace H := H.rowOfL (sz := 1) (n := 2) (xs := zjU zax [((zgb, (some ⟨b12, 0, none⟩, 7)): List Nat × zax.μ), ((lab, (A15, c15)): List Nat × zax.μ)]) (by rw [← zhX]; rfl) rfl (by omega)
 refine Ve E ?_; refine zpf (T := zax) (by_ := 24) (its := [((zgb, (some ⟨b12, 0, none⟩, 7)): List Nat × zax.μ), ((lab, (A15, c15)): List Nat × zax.μ)]) 0 E H (H.fact 2 rfl) rfl rfl rfl rfl ⟨Tryz.underlying25, by kernel_rfl⟩ (by simp only [List.length_cons, List.length_nil]; omega) (by simp only [List.length_cons, List.length_nil]; omega) ?_; clear H; intro A18 c18 w hcap18 H F; replace H : Sep _ _ _ _ [_, _, _] _ := H; refine Vp E fun a E => ?_; clear F
 have hco := zbJ (k := zgb) (c := 7) (H.fact 1 rfl) rfl (by show 7 ≤ 7; decide) (by show 7 ≤ _; decide) (by decide)
 have HN := H.know (zpg (a := [((zgb, (some ⟨b12, 0, none⟩, 7)): List Nat × zax.μ), ((lab, (A15, c15)): List Nat × zax.μ)]) (zaT (its := [_]) (q := ((lab, (A15, c15)): List Nat × zax.μ)) (zaT (its := []) (q := ((zgb, (some ⟨b12, 0, none⟩, 7)): List Nat × zax.μ)) zb3 hco) (H.fact 0 rfl)) (zj8 (H.fact 2 rfl)))
 obtain ⟨m18, HZ⟩ := HN.freezeL (xs := (zgb :: lab :: ts)) rfl (by simp) (by rw [List.map_append, zmI]; rfl)
 clear H HN hco
 have H := HZ
 clear HZ; replace H : Sep _ _ _ _ [_, _] [_, _, _, _, _, _] := H
 rw [show ([((zgb, (some ⟨b12, 0, none⟩, 7)): List Nat × zax.μ), ((lab, (A15, c15)): List Nat × zax.μ)] ++ zcL zax ts tm).length = (zgb :: lab :: ts).length from by simp [zgG]] at E
 refine Ve E ?_; refine Vc E ?_; refine (zn2 (m0 := []) (ts := (zgb :: lab :: ts)) (by show 0 ≤ 100000000; decide) (by simp only [List.length_cons]; omega) H.xk zbP (H.fact 0 rfl)).mono ?_; rintro e w ⟨A19, c19, rfl, H1⟩
 replace H := H.call H1
 clear H1; replace H : Sep _ _ _ _ [_, _, _] [_, _, _, _, _, _] := H; refine Vp E fun a E => ?_; refine Vv E pkm fun a E => ?_; refine Vv E pkx fun a E => ?_; refine Vv E pkx fun a E => ?_; refine Vv E pka fun a E => ?_; refine Vv E pka fun a E => ?_
 rw [zff hok3] at E H
 simp only [List.nil_append] at E H
 replace H := H.rowTx (Sep.new_x H) (by omega) halb
 replace H : Sep _ _ _ _ [_, _] [_, _, _, _, _, _, _] := H; refine Vn ?_; refine wp_seq_k fun K2 hK2 => ?_; refine Vr ?_; refine Vv E pkm fun a E => ?_; refine Vv E (zbN (v := .bool false) rfl rfl rfl (congrArg (fun b => some (Value.bool b)) (rfl))) fun a E => ?_; refine Vn ?_; refine zaX E rfl ?_; refine wp_skip ?_; refine hK2 _ _ ?_; refine Vr ?_; refine Vv E (pkl 32 H 1) fun a E => ?_; refine Vv E pkm fun a E => ?_; refine Ve E ?_; refine Vc E ?_
 refine (zgx (n := 32) (k := k) (info := zco (zgb :: lab :: ts)) hk32 hkb (by omega) hln H.xk (H.fact 0 rfl) (H.fact 6 rfl)).mono ?_; rintro e w ⟨A29, c29, rfl, H1⟩
 replace H := H.call H1
 clear H1; replace H : Sep _ _ _ _ [_, _] [_, _, _, _, _, _, _, _] := H; refine Vp E fun a E => ?_; refine Vv E pkm fun a E => ?_; refine Vv E pkx fun a E => ?_; refine Vv E pkx fun a E => ?_; refine Vv E pka fun a E => ?_; refine Vv E pka fun a E => ?_
 rw [show zhY gt k (zco (zgb :: lab :: ts)) 32 = zjK gt k lab ts from by with_unfolding_all rfl] at H
 rw [show Value.slice A29 32 c29 = .slice A29 (zjK gt k lab ts).length c29 from by rw [hX32]] at E
 refine Vn ?_; refine wp_seq_k fun K5 hK5 => ?_; refine Vr ?_; refine Vv E pkm fun a E => ?_; refine Vv E (zbN (v := .bool false) rfl rfl rfl (congrArg (fun b => some (Value.bool b)) (rfl))) fun a E => ?_; refine Vn ?_; refine zaX E rfl ?_; refine wp_skip ?_; refine hK5 _ _ ?_; refine Vr ?_; refine Vv E pkm fun a E => ?_; refine Ve E ?_; refine Vc E ?_; refine (zwq (b := zjK gt k lab ts) H.xk (H.fact 0 rfl)).mono ?_; rintro e w ⟨rfl, H1⟩
 replace H := H.call H1
 clear H1; replace H : Sep _ _ _ _ [_, _] [_, _, _, _, _, _, _, _] := H; refine Vp E fun a E => ?_; refine Ws 0 E H fun w H => ?_; replace H : Sep _ _ _ _ [_, _] _ := H; refine Vv E pka fun a E => ?_; refine Vn ?_; refine wp_ret ?_
 repeat (first | refine zat ?_ | refine zas ?_)
 refine zfR rfl E (by exact zg8 (n := 32) H 0 rfl rfl rfl (by kernel_rfl)) (zcu rfl) ?_
 exact ⟨rfl, H.keepLR (L := []) (R := [])⟩
theorem zhQ {LA SA : Option Addr} {lc sc : Nat} {salt sec : List Nat} {gt : Nat → Nat} (h64 : salt.length ≤ 64) (hsl : sec.length ≤ 100000000) {X : List Nat} {w0 : World} (hX : ∀ k ∈ X, k < w0.heap.size) (hL : St (TxF LA lc salt) w0 X) (hS : St (TxF SA sc sec) w0 X) (hG : St (AtC ⟨1, 0, none⟩ [.row 64 fun i => u32 (gt i)]) w0 X) :
  Calls Tryz.prog 30 #[.slice LA salt.length lc, .slice SA sec.length sc] w0 fun e w' => e = .returned (.agg (ca [.key (zec gt salt [sec])])) ∧ Sep X [] w0 w' [] [] := by
 refine zaz Tryz.ntmps30 Tryz.func30 rfl rfl fun a E => ?_; replace E : Env a _ [(0, _), (1, _)] := E
 have H : Sep X [] w0 w0 [] [(TxF LA lc salt), (TxF SA sc sec), (AtC ⟨1, 0, none⟩ [.row 64 fun i => u32 (gt i)])] := Sep.start hX (jJ.2 ⟨hL, jJ.2 ⟨hS, jJ.2 ⟨hG, fun _ h => by cases h⟩⟩⟩)
 refine Vr ?_; refine Wa (z := [.key []]) E H fun b4 w a H E => ?_; refine Vn ?_; refine Vr ?_; refine Vv E pkm fun a E => ?_; refine Vv E pkm fun a E => ?_; refine Ve E ?_; refine zaM (sz := 1) (z := [.one (.slice none 0 0)]) E H rfl Tryz.underlying25 (by kernel_rfl) (by decide) (by kernel_rfl) ⟨_, [.one _], 0, _, rfl, rfl, rfl, rfl, rfl⟩ ?_; clear H; intro b7 w H _; refine Vp E fun a E => ?_; refine Ve E ?_; refine Vc E ?_
 have HB := H.lend 0 rfl
 have hli := zed (T := zax) (its := [((sec, (SA, sc)): List Nat × zax.μ)]) (c := 1) (xs := [sec]) (HB.fact 0 rfl) rfl (zaT (its := []) (q := ((sec, (SA, sc)): List Nat × zax.μ)) zb3 (HB.fact 2 rfl)) rfl (by show 1 ≤ 1; decide) (by show 1 ≤ _; decide)
 have H2 := HB.refacts (R' := [_, _, _]) (jJ.2 ⟨HB.fact 1 rfl, jJ.2 ⟨hli, jJ.2 ⟨HB.fact 3 rfl, jK _⟩⟩⟩)
 clear HB hli; refine (zmz (key := salt) (ps := [sec]) h64 (by simp only [List.flatten_cons, List.flatten_nil, List.append_nil]; omega) H2.xk (H2.fact 0 rfl) (H2.fact 1 rfl) (H2.fact 2 rfl)).mono ?_; rintro e w ⟨rfl, H1⟩
 have F := H1.frm
 replace H := H.grow F
 refine Vp E fun a E => ?_; clear F; clear H1 H2; refine Ws 1 E H fun w H => ?_; replace H : Sep _ _ _ _ [_, _] _ := H; refine Vn ?_; refine wp_ret ?_
 repeat (first | refine zat ?_ | refine zas ?_)
 refine zf7 rfl E (by exact zg8 (n := 32) H 1 rfl rfl rfl (by kernel_rfl)) ?_
 exact ⟨rfl, H.keepLR (L := []) (R := [])⟩
theorem zn3 {seed : List Nat} {gt : Nat → Nat} (hs32 : seed.length = 32) (hsb : ∀ x ∈ seed, x < 256) {X : List Nat} {w0 : World} (hX : ∀ k ∈ X, k < w0.heap.size) (hG : St (AtC ⟨1, 0, none⟩ [.row 64 fun i => u32 (gt i)]) w0 X) :
  Calls Tryz.prog 8 #[.agg (ca [.key seed])] w0 fun e w' => e = .returned (.tuple #[.agg (ca [.key (zo1 gt seed)]), .agg (ca [.key (zmw gt seed)])]) ∧ Sep X [] w0 w' [] [] := by
 refine zaz Tryz.ntmps8 Tryz.func8 rfl rfl fun a E => ?_; replace E : Env a _ [(0, _)] := E
 have H : Sep X [] w0 w0 [] [(AtC ⟨1, 0, none⟩ [.row 64 fun i => u32 (gt i)])] := Sep.start hX (jJ.2 ⟨hG, fun _ h => by cases h⟩)
 refine Vr ?_; refine Wb E H fun b1 w a H E => ?_; refine Wa (z := [.key []]) E H fun b2 w a H E => ?_; refine Wa (z := [.key []]) E H fun b3 w a H E => ?_; refine Vn ?_; refine Vr ?_; refine Vv E (pkl 32 H 2) fun a E => ?_; refine Ve E ?_
 refine Vc E ?_; refine (zfh (k := seed) (lab := zud) (ts := []) (tm := fun _ => zax.dft) rfl (by decide) hs32 hsb zhw H.xk ziI (H.fact 0 rfl)).mono ?_; rintro e w ⟨rfl, H1⟩
 replace H := H.call H1
 clear H1; replace H : Sep _ _ _ _ [_, _, _] [_] := H; refine Vp E fun a E => ?_; refine Vv E pkm fun a E => ?_; refine Vv E pkx fun a E => ?_; refine Vv E pkx fun a E => ?_; refine Wa (z := [.key []]) E H fun b4 w a H E => ?_; refine Ws 0 E H fun w H => ?_; replace H : Sep _ _ _ _ [_, _, _, _] _ := H
 refine Vv E pka fun a E => ?_; refine Vn ?_; refine wp_seq_k fun K2 hK2 => ?_; refine zbB E H [] 3 [(0, false), (1, false), (2, true)] (by kernel_rfl) (by kernel_rfl) (fun w HS => ?_)
 (simp only [canOps, jD, jE, jF, jG])
 clear H
 have H := HS
 have hsz : w.heap.size ≤ w.heap.size := jV _
 have HK : CanB.Keep (fun k => k < w.heap.size ∧ k ∉ []) w w := CanB.Keep.refl _ _
 refine Cw E HK (zgh (n := 32) HS 0 rfl rfl rfl (HS.inS 0 rfl (by simp)) rfl (by kernel_rfl)) fun a E => ?_; refine Cw E HK (zgh (n := 32) HS 0 rfl rfl rfl (HS.inS 0 rfl (by simp)) rfl (by kernel_rfl)) fun a E => ?_; refine zgg E rfl (fun K hK => ?_); refine Vc E ?_; refine (zur (k := zjK gt seed zud []) H.xk (zeP _ _ _ _)).mono ?_; rintro e w ⟨rfl, H1⟩
 have F := H1.frm
 replace H := H.call H1
 clear H1; replace H : Sep _ _ _ _ [_, _, _, _] [_] := H
 have hk := zbh (D := []) F hsz (by simp)
 refine hK _ _ hk ?_; clear hK K
 replace HK := HK.trans hk
 replace hsz := jU hsz (F).size
 clear hk; refine zgi E rfl rfl ?_; clear E a; intro a E; clear F; refine CanB.wpCan_nil ?_
 try (simp only [jH, jI, jF, jG])
 clear HS HK hsz; refine Ws 2 E H fun w H => ?_; replace H : Sep _ _ _ _ [_, _, _, _] _ := H; refine Ws 1 E H fun w H => ?_; replace H : Sep _ _ _ _ [_, _, _, _] _ := H; refine hK2 _ _ ?_; refine wp_ret ?_
 repeat (first | refine zat ?_ | refine zas ?_)
 refine zfR rfl E (by exact zg8 (n := 32) H 2 rfl rfl rfl (by kernel_rfl)) (by exact zg8 (n := 32) H 1 rfl rfl rfl (by kernel_rfl)) ?_
 exact ⟨rfl, H.keepLR (L := []) (R := [])⟩
theorem zo4 {sec oth mine theirs : List Nat} {gt : Nat → Nat} (hsb : ∀ x ∈ sec, x < 256) (hob : ∀ x ∈ oth, x < 256) (hm32 : mine.length = 32) (hmb : ∀ x ∈ mine, x < 256) (ht32 : theirs.length = 32) (htb : ∀ x ∈ theirs, x < 256) {X : List Nat} {w0 : World} (hX : ∀ k ∈ X, k < w0.heap.size) (hG : St (AtC ⟨1, 0, none⟩ [.row 64 fun i => u32 (gt i)]) w0 X) :
  Calls Tryz.prog 15 #[.agg (ca [.key sec]), .agg (ca [.key oth]), .agg (ca [.key mine]), .agg (ca [.key theirs])] w0 fun e w' => e = .returned (.tuple #[.agg (ca [.key (zeA gt sec oth mine theirs).1]), .int .i64 (zeA gt sec oth mine theirs).2]) ∧ Sep X [] w0 w' [] [] := by
 have hB32 : (zbt sec oth).length = 32 := znX _ _
 refine zaz Tryz.ntmps15 Tryz.func15 rfl rfl fun a E => ?_; replace E : Env a _ [(0, _), (1, _), (2, _), (3, _)] := E
 have H : Sep X [] w0 w0 [] [(AtC ⟨1, 0, none⟩ [.row 64 fun i => u32 (gt i)])] := Sep.start hX (jJ.2 ⟨hG, fun _ h => by cases h⟩)
 refine Vr ?_; refine Wb E H fun b4 w a H E => ?_; refine Wb E H fun b5 w a H E => ?_; refine Wb E H fun b6 w a H E => ?_; refine Wb E H fun b7 w a H E => ?_; refine Wa (z := [.key []]) E H fun b8 w a H E => ?_; refine Vv E pka fun a E => ?_; refine Vn ?_; refine Vr ?_; refine Vv E (pkl 32 H 4) fun a E => ?_; refine Vv E (pkl 32 H 3) fun a E => ?_; refine Ve E ?_; refine Vc E ?_; refine (zuq (k := sec) (u := oth) H.xk hsb hob).mono ?_; rintro e w ⟨rfl, H1⟩
 replace H := H.call H1
 clear H1; replace H : Sep _ _ _ _ [_, _, _, _, _] [_] := H; refine Vp E fun a E => ?_; refine Wa (z := [.key []]) E H fun b10 w a H E => ?_; refine Ws 0 E H fun w H => ?_; replace H : Sep _ _ _ _ [_, _, _, _, _, _] _ := H; refine Vn ?_; refine wp_seq_k fun K2 hK2 => ?_; refine Vr ?_; refine Vv E (pkl 32 H 0) fun a E => ?_
 refine Vv E (zeO (n := 32) (z := [.key []]) [.key []] rfl (by kernel_rfl) (by kernel_rfl) rfl rfl) fun a E => ?_; refine Vv E (zua rfl (⟨_, Tryz.underlying23, Tryz.underlying5, by kernel_rfl, by kernel_rfl⟩) rfl rfl) fun a E => ?_; refine Vn ?_; refine zaD (d := 16) E rfl ?_ ?_
 ·skip
  clear E; intro c16 E
  have hno : zdQ (zbt sec oth) := by simpa [zdQ] using c16
  refine zbd E rfl ?_; refine Vr ?_; refine Vv E (zeO (n := 32) (z := [.key []]) [.key []] rfl (by kernel_rfl) (by kernel_rfl) rfl rfl) fun a E => ?_; refine Ws 1 E H fun w H => ?_; replace H : Sep _ _ _ _ [_, _, _, _, _, _] _ := H; refine Vv E pka fun a E => ?_; refine Vn ?_; refine wp_ret ?_
  repeat (first | refine zat ?_ | refine zas ?_)
  refine zfR rfl E (by exact zg8 (n := 32) H 1 rfl rfl rfl (by kernel_rfl)) (zcu rfl) ?_
  exact ⟨by rw [zeS hno], H.keepLR (L := []) (R := [])⟩
 ·skip
  clear E; intro c16 E
  have hno : ¬ zdQ (zbt sec oth) := by simpa [zdQ] using c16
  refine zaX E rfl ?_; refine wp_skip ?_; refine hK2 _ _ ?_; refine wp_seq_k fun K5 hK5 => ?_; refine zpx E H [] 8 (.pure 0 (.pure 2 (.pure 3 (.eff 1 (.eff 4 (.eff 5 (.pure 6 (.pure 7 .nil)) .nil) .nil) (.eff 4 (.eff 1 (.eff 5 (.pure 6 (.pure 7 .nil)) .nil) .nil) .nil))))) (by kernel_rfl) (by kernel_rfl) (fun w HS => ?_)
  simp only [CanB.opsT, jD, jE, jF, jG]
  clear H
  have H := HS
  have hsz : w.heap.size ≤ w.heap.size := jV _
  have HK : CanB.Keep (fun k => k < w.heap.size ∧ k ∉ []) w w := CanB.Keep.refl _ _
  refine zgP E HK (zcM (N := 32) (sz := 1) rfl (by kernel_rfl) rfl) rfl rfl rfl (fun _ _ _ _ h => h) ?_; clear E a; intro a E
  rw [show Value.slice (some ⟨b10, 0, none⟩) 32 32 = .slice (some ⟨b10, 0, none⟩) (zbt sec oth).length 32 from by rw [hB32]] at E
  refine zgP E HK (zcM (N := 32) (sz := 1) rfl (by kernel_rfl) rfl) rfl rfl rfl (fun _ _ _ _ h => h) ?_; clear E a; intro a E; refine zgP E HK (zcM (N := 32) (sz := 1) rfl (by kernel_rfl) rfl) rfl rfl rfl (fun _ _ _ _ h => h) ?_; clear E a; intro a E; refine zxZ ?_ ?_
  ·skip
   refine zh1 E rfl (fun K hK => ?_); refine Vc E ?_
   have HB := H.lend 0 rfl
   have hin := zbJ (k := (zbt sec oth)) (c := 32) (HB.fact 0 rfl) (by rw [zcA, zbk hB32]) (by omega) (by omega) (zf3 _ _)
   refine (zhQ (salt := []) (sec := (zbt sec oth)) (by show 0 ≤ 64; decide) (by omega) HB.xk zbP hin (HB.fact 1 rfl)).mono ?_; rintro e w ⟨rfl, H1⟩
   have F := H1.frm
   replace H := H.grow F
   have hk := zbh (D := []) F hsz (by first | (simp; done) | (intro k hk; obtain rfl := List.mem_singleton.1 hk; exact .inr (by assumption)))
   refine hK _ _ hk ?_; clear hK K
   replace HK := HK.trans hk
   replace hsz := jU hsz (F).size
   clear hk; refine zh2 E rfl rfl ?_; clear E a; intro a E; clear F; clear H1 HB hin; refine zh1 E rfl (fun K hK => ?_); refine zaM (sz := 1) (z := [.one (.slice none 0 0), .one (.slice none 0 0)]) E H rfl Tryz.underlying25 (by kernel_rfl) (by decide) (by kernel_rfl) ⟨_, [.one _], 0, _, rfl, rfl, rfl, rfl, ⟨_, [.one _], 1, _, rfl, rfl, rfl, rfl, rfl⟩⟩ ?_; clear H; intro b22 w H F
   have hk := zbh (D := []) F hsz (by first | (simp; done) | (intro k hk; obtain rfl := List.mem_singleton.1 hk; exact .inr (by assumption)))
   refine hK _ _ hk ?_; clear hK K
   replace HK := HK.trans hk
   replace hsz := jU hsz (F).size
   clear hk; refine zh2 E rfl rfl ?_; clear E a; intro a E; clear F; refine zh1 E rfl (fun K hK => ?_); refine Vc E ?_
   have HB := ((H.lend 0 rfl).lend 2 rfl).lend 2 rfl
   have hm := zbJ (k := mine) (c := 32) (HB.fact 0 rfl) (by rw [zcA, zbk hm32]) (by omega) (by omega) hmb
   have ht := zbJ (k := theirs) (c := 32) (HB.fact 1 rfl) (by rw [zcA, zbk ht32]) (by omega) (by omega) htb
   have hli := zed (T := zax) (its := [((mine, (some ⟨b6, 0, none⟩, 32)): List Nat × zax.μ), (theirs, (some ⟨b7, 0, none⟩, 32))]) (c := 2) (xs := [mine, theirs]) (HB.fact 2 rfl) (by rw [← zhX, hm32, ht32]) (zaT (its := [_]) (q := ((theirs, (some ⟨b7, 0, none⟩, 32)): List Nat × zax.μ)) (zaT (its := []) (q := ((mine, (some ⟨b6, 0, none⟩, 32)): List Nat × zax.μ)) zb3 hm) ht) rfl (by show 2 ≤ 2; decide) (by show 2 ≤ _; decide)
   have H2 := HB.refacts (R' := [_, _]) (jJ.2 ⟨hli, jJ.2 ⟨HB.fact 3 rfl, jK _⟩⟩)
   clear HB hm ht hli; refine (zfh (k := zec gt [] [(zbt sec oth)]) (lab := zue) (ts := [mine, theirs]) rfl (by decide) (zbr _ _ _) (zcX _ _ _) (zg7 hm32 ht32) H2.xk (H2.fact 0 rfl) (H2.fact 1 rfl)).mono ?_; rintro e w ⟨rfl, H1⟩
   have F := H1.frm
   replace H := H.grow F
   have hk := zbh (D := []) F hsz (by first | (simp; done) | (intro k hk; obtain rfl := List.mem_singleton.1 hk; exact .inr (by assumption)))
   refine hK _ _ hk ?_; clear hK K
   replace HK := HK.trans hk
   replace hsz := jU hsz (F).size
   clear hk; refine zh2 E rfl rfl ?_; clear E a; intro a E; clear F; clear H1 H2; refine zgP E HK (zcH rfl rfl rfl) rfl rfl rfl (fun _ _ _ _ h => h) ?_; clear E a; intro a E; refine zgP E HK (zcH rfl rfl rfl) rfl rfl rfl (fun _ _ _ _ h => h) ?_; clear E a; intro a E; refine zu3 ?_
   try (simp only [jH, jI, jF, jG])
   clear HS HK hsz; refine Ws 2 E H fun w H => ?_; replace H : Sep _ _ _ _ [_, _, _, _, _, _, _] _ := H; refine Vv E pka fun a E => ?_; refine hK5 _ _ ?_; refine wp_ret ?_
   repeat (first | refine zat ?_ | refine zas ?_)
   refine zfR rfl E (by exact zg8 (n := 32) H 2 rfl rfl rfl (by kernel_rfl)) (zcu rfl) ?_
   exact ⟨by rw [zdc hno]; with_unfolding_all rfl, H.keepLR (L := []) (R := [])⟩
  ·skip
   refine zzY ?_; refine zh1 E rfl (fun K hK => ?_); refine zaM (sz := 1) (z := [.one (.slice none 0 0), .one (.slice none 0 0)]) E H rfl Tryz.underlying25 (by kernel_rfl) (by decide) (by kernel_rfl) ⟨_, [.one _], 0, _, rfl, rfl, rfl, rfl, ⟨_, [.one _], 1, _, rfl, rfl, rfl, rfl, rfl⟩⟩ ?_; clear H; intro b22 w H F
   have hk := zbh (D := []) F hsz (by first | (simp; done) | (intro k hk; obtain rfl := List.mem_singleton.1 hk; exact .inr (by assumption)))
   refine hK _ _ hk ?_; clear hK K
   replace HK := HK.trans hk
   replace hsz := jU hsz (F).size
   clear hk; refine zh2 E rfl rfl ?_; clear E a; intro a E; clear F; refine zh1 E rfl (fun K hK => ?_); refine Vc E ?_
   have HB := H.lend 1 rfl
   have hin := zbJ (k := (zbt sec oth)) (c := 32) (HB.fact 0 rfl) (by rw [zcA, zbk hB32]) (by omega) (by omega) (zf3 _ _)
   refine (zhQ (salt := []) (sec := (zbt sec oth)) (by show 0 ≤ 64; decide) (by omega) HB.xk zbP hin (HB.fact 1 rfl)).mono ?_; rintro e w ⟨rfl, H1⟩
   have F := H1.frm
   replace H := H.grow F
   have hk := zbh (D := []) F hsz (by first | (simp; done) | (intro k hk; obtain rfl := List.mem_singleton.1 hk; exact .inr (by assumption)))
   refine hK _ _ hk ?_; clear hK K
   replace HK := HK.trans hk
   replace hsz := jU hsz (F).size
   clear hk; refine zh2 E rfl rfl ?_; clear E a; intro a E; clear F; clear H1 HB hin; refine zh1 E rfl (fun K hK => ?_); refine Vc E ?_
   have HB := ((H.lend 0 rfl).lend 2 rfl).lend 2 rfl
   have hm := zbJ (k := mine) (c := 32) (HB.fact 0 rfl) (by rw [zcA, zbk hm32]) (by omega) (by omega) hmb
   have ht := zbJ (k := theirs) (c := 32) (HB.fact 1 rfl) (by rw [zcA, zbk ht32]) (by omega) (by omega) htb
   have hli := zed (T := zax) (its := [((mine, (some ⟨b6, 0, none⟩, 32)): List Nat × zax.μ), (theirs, (some ⟨b7, 0, none⟩, 32))]) (c := 2) (xs := [mine, theirs]) (HB.fact 2 rfl) (by rw [← zhX, hm32, ht32]) (zaT (its := [_]) (q := ((theirs, (some ⟨b7, 0, none⟩, 32)): List Nat × zax.μ)) (zaT (its := []) (q := ((mine, (some ⟨b6, 0, none⟩, 32)): List Nat × zax.μ)) zb3 hm) ht) rfl (by show 2 ≤ 2; decide) (by show 2 ≤ _; decide)
   have H2 := HB.refacts (R' := [_, _]) (jJ.2 ⟨hli, jJ.2 ⟨HB.fact 3 rfl, jK _⟩⟩)
   clear HB hm ht hli; refine (zfh (k := zec gt [] [(zbt sec oth)]) (lab := zue) (ts := [mine, theirs]) rfl (by decide) (zbr _ _ _) (zcX _ _ _) (zg7 hm32 ht32) H2.xk (H2.fact 0 rfl) (H2.fact 1 rfl)).mono ?_; rintro e w ⟨rfl, H1⟩
   have F := H1.frm
   replace H := H.grow F
   have hk := zbh (D := []) F hsz (by first | (simp; done) | (intro k hk; obtain rfl := List.mem_singleton.1 hk; exact .inr (by assumption)))
   refine hK _ _ hk ?_; clear hK K
   replace HK := HK.trans hk
   replace hsz := jU hsz (F).size
   clear hk; refine zh2 E rfl rfl ?_; clear E a; intro a E; clear F; clear H1 H2; refine zgP E HK (zcH rfl rfl rfl) rfl rfl rfl (fun _ _ _ _ h => h) ?_; clear E a; intro a E; refine zgP E HK (zcH rfl rfl rfl) rfl rfl rfl (fun _ _ _ _ h => h) ?_; clear E a; intro a E; refine zu3 ?_
   try (simp only [jH, jI, jF, jG])
   clear HS HK hsz; refine Ws 2 E H fun w H => ?_; replace H : Sep _ _ _ _ [_, _, _, _, _, _, _] _ := H; refine Vv E pka fun a E => ?_; refine hK5 _ _ ?_; refine wp_ret ?_
   repeat (first | refine zat ?_ | refine zas ?_)
   refine zfR rfl E (by exact zg8 (n := 32) H 2 rfl rfl rfl (by kernel_rfl)) (zcu rfl) ?_
   exact ⟨by rw [zdc hno]; with_unfolding_all rfl, H.keepLR (L := []) (R := [])⟩
theorem zwr {PA TA : Option Addr} {pc tc : Nat} {point seed plain : List Nat} {ts : List (List Nat)} {tm : Nat → zax.μ} {gt : Nat → Nat} (hp32 : point.length = 32) (hpb : ∀ x ∈ point, x < 256) (hs32 : seed.length = 32) (hsb : ∀ x ∈ seed, x < 256) (hpl : plain.length ≤ 1048576) (hts : ts.length ≤ 1000) {X : List Nat} {w0 : World} (hX : ∀ k ∈ X, k < w0.heap.size) (hP : St (TxF PA pc plain) w0 X) (hL : St (LiF zax TA tc ts tm) w0 X) (hG : St (AtC ⟨1, 0, none⟩ [.row 64 fun i => u32 (gt i)]) w0 X) :
  Calls Tryz.prog 10 #[.agg (ca [.key point]), .agg (ca [.key seed]), .slice PA plain.length pc, .slice TA ts.length tc] w0 fun e w' => ∃ A' c', e = .returned (.tuple #[.slice A' (zeQ gt point seed plain ts).1.length c', .int .i64 (zeQ gt point seed plain ts).2]) ∧ Sep X [] w0 w' [] [TxF A' c' (zeQ gt point seed plain ts).1] := by
 refine zaz Tryz.ntmps10 Tryz.func10 rfl rfl fun a E => ?_; replace E : Env a _ [(0, _), (1, _), (2, _), (3, _)] := E
 have H : Sep X [] w0 w0 [] [(TxF PA pc plain), (LiF zax TA tc ts tm), (AtC ⟨1, 0, none⟩ [.row 64 fun i => u32 (gt i)])] := Sep.start hX (jJ.2 ⟨hP, jJ.2 ⟨hL, jJ.2 ⟨hG, fun _ h => by cases h⟩⟩⟩)
 refine Vr ?_; refine Wb E H fun b4 w a H E => ?_; refine Wb E H fun b5 w a H E => ?_; refine Vv E pka fun a E => ?_; refine Vv E pka fun a E => ?_; refine Vn ?_; refine Vr ?_; refine Vv E (pkl 32 H 0) fun a E => ?_; refine Ve E ?_; refine Vc E ?_
 refine (zfh (k := seed) (lab := zzw) (ts := []) (tm := fun _ => zax.dft) rfl (by decide) hs32 hsb zhw H.xk ziI (H.fact 2 rfl)).mono ?_; rintro e w ⟨rfl, H1⟩
 replace H := H.call H1
 clear H1; replace H : Sep _ _ _ _ [_, _] [_, _, _] := H; refine Vp E fun a E => ?_; refine Vv E pkm fun a E => ?_; refine Vv E pkx fun a E => ?_; refine Vv E pkx fun a E => ?_; refine Wa (z := [.key []]) E H fun b10 w a H E => ?_; refine Ws 0 E H fun w H => ?_; replace H : Sep _ _ _ _ [_, _, _] _ := H
 refine Vv E pka fun a E => ?_; refine Vn ?_; refine Vr ?_; refine Vv E (pkl 32 H 0) fun a E => ?_; refine Ve E ?_; refine Vc E ?_; refine (zn3 (seed := zjK gt seed zzw []) (ziz _ _ _ _) (zeP _ _ _ _) H.xk (H.fact 2 rfl)).mono ?_; rintro e w ⟨rfl, H1⟩
 replace H := H.call H1
 clear H1; replace H : Sep _ _ _ _ [_, _, _] [_, _, _] := H; refine Vp E fun a E => ?_; refine Vv E pkm fun a E => ?_; refine Vv E pkx fun a E => ?_; refine Vv E pkx fun a E => ?_; refine Wa (z := [.key []]) E H fun b12 w a H E => ?_; refine Wa (z := [.key []]) E H fun b13 w a H E => ?_; refine Ws 1 E H fun w H => ?_; replace H : Sep _ _ _ _ [_, _, _, _, _] _ := H; refine Ws 0 E H fun w H => ?_; replace H : Sep _ _ _ _ [_, _, _, _, _] _ := H
 replace H : Sep X [] w0 w [.blk b13 (ca [.key (zcQ gt seed)]) 23, .blk b12 (ca [.key (zbR gt seed)]) 23, .blk b10 (ca [.key (zjK gt seed zzw [])]) 23, .blk b5 (ca [.key seed]) 23, .blk b4 (ca [.key point]) 23 ] [TxF PA pc plain, LiF zax TA tc ts tm, AtC ⟨1, 0, none⟩ [.row 64 fun i => u32 (gt i)]] := by with_unfolding_all exact H
 refine Vn ?_; refine Vr ?_; refine Vv E (pkl 32 H 1) fun a E => ?_; refine Vv E (pkl 32 H 4) fun a E => ?_; refine Vv E (pkl 32 H 0) fun a E => ?_; refine Vv E (pkl 32 H 4) fun a E => ?_; refine Ve E ?_; refine Vc E ?_; refine (zo4 (sec := (zbR gt seed)) (oth := point) (mine := (zcQ gt seed)) (theirs := point) (zjO _ _) hpb (zbV _ _) (zeR _ _) hp32 hpb H.xk (H.fact 2 rfl)).mono ?_; rintro e w ⟨rfl, H1⟩
 replace H := H.call H1
 clear H1; replace H : Sep _ _ _ _ [_, _, _, _, _] [_, _, _] := H; refine Vp E fun a E => ?_; refine Vv E pkm fun a E => ?_; refine Vv E pkx fun a E => ?_; refine Vv E pkx fun a E => ?_; refine Wa (z := [.key []]) E H fun b14 w a H E => ?_; refine Ws 0 E H fun w H => ?_; replace H : Sep _ _ _ _ [_, _, _, _, _, _] _ := H
 refine Vv E pka fun a E => ?_; refine Vn ?_; refine wp_seq_k fun K4 hK4 => ?_; refine Vr ?_; refine Vv E pkm fun a E => ?_; refine Vv E pki fun a E => ?_; refine Vn ?_; refine zaD (d := 36) E rfl ?_ ?_
 ·skip
  clear E; intro c36 E
  have hno : zdQ (zbt (zbR gt seed) point) := Classical.byContradiction fun h => by rw [zdc h] at c36; cases c36
  refine zbd E rfl ?_; refine Vr ?_; refine Vv E pkm fun a E => ?_; refine Vv E pka fun a E => ?_; refine Vv E pka fun a E => ?_; refine Vn ?_; refine wp_ret ?_
  repeat (first | refine zat ?_ | refine zas ?_)
  refine zfR rfl E (zcu rfl) (zcu rfl) ?_
  rw [zn0 hno]
  exact ⟨none, 0, by rw [zeS hno]; rfl, (Sep.keepLR (L := []) (R := [_]) (H.know zbP))⟩
 ·skip
  clear E; intro c36 E
  have hno : ¬ zdQ (zbt (zbR gt seed) point) := fun h => by rw [zeS h] at c36; cases c36
  rw [zdc hno] at E H
  simp only at E H
  refine zaX E rfl ?_; refine wp_skip ?_; refine hK4 _ _ ?_; refine Vr ?_; refine Vv E (pkl 32 H 0) fun a E => ?_; refine Vv E pkm fun a E => ?_; refine Vv E pkm fun a E => ?_; refine Ve E ?_; refine Vc E ?_; refine (zuo (k := (zb7 gt (zbt (zbR gt seed) point) (zcQ gt seed) point)) (plain := plain) (ts := ts) (zjN _ _ _ _) (zhP _ _ _ _) hts H.xk (H.fact 0 rfl) (H.fact 1 rfl) (H.fact 2 rfl)).mono ?_; rintro e w ⟨A42, c42, rfl, H1⟩
  replace H := H.call H1
  clear H1; replace H : Sep _ _ _ _ [_, _, _, _, _, _] [_, _, _, _] := H; refine Vp E fun a E => ?_
  rw [zmB (plain := plain) (by omega)] at E H
  refine Vv E pkm fun a E => ?_; refine Vv E pkx fun a E => ?_; refine Vv E pkx fun a E => ?_; refine Vv E pka fun a E => ?_; refine Vv E pka fun a E => ?_; refine Vn ?_; refine wp_seq_k fun K8 hK8 => ?_; refine Vr ?_; refine Vv E pkm fun a E => ?_; refine Vv E pki fun a E => ?_; refine Vn ?_; refine zaD (d := 46) E rfl ?_ ?_
  ·skip
   clear E; intro c46 E
   have hok : ¬ okT ts := fun h => by rw [zqu h] at c46; cases c46
   refine zbd E rfl ?_; refine Vr ?_; refine Vv E pkm fun a E => ?_; refine Vv E pka fun a E => ?_; refine Vv E pka fun a E => ?_; refine Vn ?_; refine wp_ret ?_
   repeat (first | refine zat ?_ | refine zas ?_)
   refine zfR rfl E (zcu rfl) (zcu rfl) ?_
   rw [zn1 hno hok]
   exact ⟨none, 0, by rw [ziA hok]; rfl, (Sep.keepLR (L := []) (R := [_]) (H.know zbP))⟩
  ·skip
   clear E; intro c46 E
   have hok : okT ts := Classical.byContradiction fun h => by rw [ziA h] at c46; cases c46
   refine zaX E rfl ?_; refine wp_skip ?_; refine hK8 _ _ ?_; refine wp_seq_k fun K11 hK11 => ?_
   have hSl := znW gt (zb7 gt (zbt (zbR gt seed) point) (zcQ gt seed) point) plain ts
   have hS2 := zqy (gt := gt) (k := (zb7 gt (zbt (zbR gt seed) point) (zcQ gt seed) point)) (plain := plain) hok
   refine zaA ?_; refine Vv E (zcM (N := 32) (sz := 1) rfl (by kernel_rfl) rfl) fun a E => ?_; refine Vv E pkm fun a E => ?_
   have HB := H.lend 1 rfl
   have hm := zbJ (k := (zcQ gt seed)) (c := 32) (HB.fact 0 rfl) (by rw [zcA, zbk (zbV _ _)]) (by rw [zbV]; omega) (by rw [zbV]; omega) (zeR _ _)
   rw [show Value.slice (some ⟨b13, 0, none⟩) 32 32 = .slice (some ⟨b13, 0, none⟩) (zcQ gt seed).length 32 from by rw [zbV]] at E
   clear H
   have H := HB
   clear HB; refine Ve E ?_; refine zwn (k := (zcQ gt seed)) (m := (zcq gt (zb7 gt (zbt (zbR gt seed) point) (zcQ gt seed) point) plain ts).1) E H hm (H.fact 1 rfl) rfl rfl rfl ⟨Tryz.underlying24, Tryz.underlying5, by kernel_rfl⟩ (by rw [zbV, hS2]; omega) (by rw [zbV]; omega) ?_; clear H; intro A50 c50 w H F; replace H : Sep _ _ _ _ [_, _, _, _, _, _] [_, _, _, _, _] := H; refine Vp E fun a E => ?_; clear F hm; refine Vv E pka fun a E => ?_; refine Vv E pka fun a E => ?_; refine hK11 _ _ ?_; refine wp_ret ?_
   repeat (first | refine zat ?_ | refine zas ?_)
   refine zfR rfl E (zcu rfl) (zcu rfl) ?_
   rw [zmy hno hok]
   have hT := H.rowTx (Sep.new_x H) (by rw [jQ, zbV]; omega) (fun x hx => by rcases List.mem_append.1 hx with h1 | h1; exact zeR _ _ x h1; exact zkw _ _ _ _ x h1)
   exact ⟨A50, c50, rfl, Sep.keepLR (L := []) (R := [_]) hT⟩
end
section
open Go.RowKit
attribute [local irreducible] zec zhY zjK zbt zgw zcq zen zh8 zb7 zbR zcQ zeQ zeA zo1 zmw
theorem zn4 {PA TA : Option Addr} {pc tc : Nat} {kp ks pl : List Nat} {ts : List (List Nat)} {tm : Nat → zax.μ} {gt : Nat → Nat} (hlp : kp.length = 32) (hbp : ∀ x ∈ kp, x < 256) (hls : ks.length = 32) (hbs : ∀ x ∈ ks, x < 256) {X : List Nat} {w0 : World} (hX : ∀ k ∈ X, k < w0.heap.size) (hP : St (TxF PA pc pl) w0 X) (hL : St (LiF zax TA tc ts tm) w0 X) (hG : St (AtC ⟨2, 0, none⟩ [.row 64 fun i => u32 (gt i)]) w0 X) (hK : St (AtC ⟨1, 0, none⟩ [.row 64 fun i => u32 (gt i)]) w0 X) :
  Calls Tryz.prog 3 #[.agg (ca [.key kp]), .agg (ca [.key ks]), .slice PA pl.length pc, .slice TA ts.length tc] w0 fun e w' => e = .returned (.bool true) ∧ Sep X [] w0 w' [] [] := by
 have hPl := hP.now.len
 refine zaz Tryz.ntmps3 Tryz.func3 rfl rfl fun a E => ?_; replace E : Env a _ [(0, _), (1, _), (2, _), (3, _)] := E
 have H : Sep X [] w0 w0 [] [(TxF PA pc pl), (LiF zax TA tc ts tm), (AtC ⟨2, 0, none⟩ [.row 64 fun i => u32 (gt i)]), (AtC ⟨1, 0, none⟩ [.row 64 fun i => u32 (gt i)])] := Sep.start hX (jJ.2 ⟨hP, jJ.2 ⟨hL, jJ.2 ⟨hG, jJ.2 ⟨hK, fun _ h => by cases h⟩⟩⟩⟩)
 refine Vr ?_; refine Wb E H fun b4 w a H E => ?_; refine Wb E H fun b5 w a H E => ?_; refine Vv E pka fun a E => ?_; refine Vn ?_; refine Vr ?_; refine Ve E ?_; refine Vc E ?_; refine (zrw H.xk (H.fact 2 rfl)).mono ?_; rintro e w ⟨rfl, H1⟩
 replace H := H.call H1
 clear H1; replace H : Sep _ _ _ _ [_, _] [_, _, _, _] := H; refine Vp E fun a E => ?_; refine Vv E pka fun a E => ?_; refine Vn ?_; refine wp_seq_k fun K2 hK2 => ?_; refine Vr ?_; refine Vv E pkm fun a E => ?_; refine Vv E (zo9 rfl rfl) fun a E => ?_; refine Vn ?_; refine zaX E rfl ?_; refine wp_skip ?_; refine hK2 _ _ ?_; refine wp_seq_k fun K4 hK4 => ?_; refine Vr ?_; refine Vv E pkm fun a E => ?_; refine Vv E pkn fun a E => ?_; refine Vv E pki fun a E => ?_
 refine Vv E pkm fun a E => ?_; refine zaD (d := 24) E rfl ?_ ?_
 ·skip
  clear E; intro c24 E; refine zmG E rfl rfl rfl ?_; clear E a; intro a E; refine zmG E rfl rfl rfl ?_; clear E a; intro a E; refine zmG E rfl rfl rfl ?_; clear E a; intro a E; refine Vv E (zeb rfl rfl rfl) fun a E => ?_; refine Vn ?_; refine zbd E rfl ?_; refine Vr ?_; refine Vv E pkm fun a E => ?_; refine Vv E pka fun a E => ?_; refine Vn ?_; refine wp_ret ?_
  repeat (first | refine zat ?_ | refine zas ?_)
  refine zf7 rfl E (zcu rfl) ?_
  exact ⟨rfl, H.keepLR (L := []) (R := [])⟩
 ·skip
  clear E; intro c24 E
  have hpl : pl.length ≤ 300 := by have := c24; simp only [decide_eq_false_iff_not] at this; omega
  refine Vv E pkm fun a E => ?_; refine Ve E ?_; refine Vc E ?_; refine (zuj H.xk (H.fact 1 rfl)).mono ?_; rintro e w ⟨rfl, H1⟩
  replace H := H.call H1
  clear H1; replace H : Sep _ _ _ _ [_, _] [_, _, _, _] := H; refine Vp E fun a E => ?_; refine Vv E (zo9 rfl rfl) fun a E => ?_; refine Vv E (zeb rfl rfl rfl) fun a E => ?_; refine Vn ?_; refine zaD (d := 28) E rfl ?_ ?_
  ·skip
   clear E; intro c28 E; refine zbd E rfl ?_; refine Vr ?_; refine Vv E pkm fun a E => ?_; refine Vv E pka fun a E => ?_; refine Vn ?_; refine wp_ret ?_
   repeat (first | refine zat ?_ | refine zas ?_)
   refine zf7 rfl E (zcu rfl) ?_
   exact ⟨rfl, H.keepLR (L := []) (R := [])⟩
  ·skip
   clear E; intro c28 E
   have hts : ts.length ≤ 1000 := zwc (by simpa using c28)
   refine zaX E rfl ?_; refine wp_skip ?_; refine hK4 _ _ ?_; refine Vr ?_; refine Vv E (pkl 32 H 0) fun a E => ?_; refine Ve E ?_; refine Vc E ?_; refine (zmx (seed := ks) hls hbs H.xk (H.fact 2 rfl)).mono ?_; rintro e w ⟨rfl, H1⟩
   replace H := H.call H1
   clear H1; replace H : Sep _ _ _ _ [_, _] [_, _, _, _] := H; refine Vp E fun a E => ?_; refine Vv E pkm fun a E => ?_; refine Vv E pkx fun a E => ?_; refine Vv E pkx fun a E => ?_; refine Wa (z := [.key []]) E H fun b10 w a H E => ?_; refine Wa (z := [.key []]) E H fun b11 w a H E => ?_; refine Ws 1 E H fun w H => ?_; replace H : Sep _ _ _ _ [_, _, _, _] _ := H; refine Ws 0 E H fun w H => ?_; replace H : Sep _ _ _ _ [_, _, _, _] _ := H; refine Vn ?_; refine Vr ?_; refine Vv E (pkl 32 H 2) fun a E => ?_; refine Ve E ?_; refine Vc E ?_
   refine (zn3 (seed := ks) hls hbs H.xk (H.fact 3 rfl)).mono ?_; rintro e w ⟨rfl, H1⟩
   replace H := H.call H1
   clear H1; replace H : Sep _ _ _ _ [_, _, _, _] [_, _, _, _] := H; refine Vp E fun a E => ?_; refine Vv E pkm fun a E => ?_; refine Vv E pkx fun a E => ?_; refine Vv E pkx fun a E => ?_; refine Wa (z := [.key []]) E H fun b12 w a H E => ?_; refine Wa (z := [.key []]) E H fun b13 w a H E => ?_; refine Ws 1 E H fun w H => ?_; replace H : Sep _ _ _ _ [_, _, _, _, _, _] _ := H; refine Ws 0 E H fun w H => ?_; replace H : Sep _ _ _ _ [_, _, _, _, _, _] _ := H; refine Vn ?_; refine Vr ?_; refine Vv E (pkl 32 H 5) fun a E => ?_; refine Vv E (pkl 32 H 4) fun a E => ?_; refine Vv E pkm fun a E => ?_; refine Vv E pkm fun a E => ?_; refine Ve E ?_; refine Vc E ?_; refine (zqw (point := kp) (seed := ks) (plain := pl) (ts := ts) hlp hbp hls hbs (by omega) hts H.xk (H.fact 0 rfl) (H.fact 1 rfl) (H.fact 2 rfl)).mono ?_; rintro e w ⟨A45, c45, rfl, H1⟩
   replace H := H.call H1
   clear H1; replace H : Sep _ _ _ _ [_, _, _, _, _, _] [_, _, _, _, _] := H; refine Vp E fun a E => ?_; refine Vv E pkm fun a E => ?_; refine Vv E pkx fun a E => ?_; refine Vv E pkx fun a E => ?_; refine Vv E pka fun a E => ?_; refine Vv E pka fun a E => ?_; refine Vn ?_; refine Vr ?_; refine Vv E (pkl 32 H 5) fun a E => ?_; refine Vv E (pkl 32 H 4) fun a E => ?_; refine Vv E pkm fun a E => ?_; refine Vv E pkm fun a E => ?_; refine Ve E ?_; refine Vc E ?_; refine (zwr (point := kp) (seed := ks) (plain := pl) (ts := ts) hlp hbp hls hbs (by omega) hts H.xk (H.fact 1 rfl) (H.fact 2 rfl) (H.fact 4 rfl)).mono ?_; rintro e w ⟨A53, c53, rfl, H1⟩
   replace H := H.call H1
   clear H1; replace H : Sep _ _ _ _ [_, _, _, _, _, _] [_, _, _, _, _, _] := H; refine Vp E fun a E => ?_; refine Vv E pkm fun a E => ?_; refine Vv E pkx fun a E => ?_; refine Vv E pkx fun a E => ?_; refine Vv E pka fun a E => ?_; refine Vv E pka fun a E => ?_; refine Vn ?_; refine Vr ?_; refine Vv E pkm fun a E => ?_; refine Vv E pkm fun a E => ?_; refine Vv E (pkl 32 H 3) fun a E => ?_
   refine Vv E (pkl 32 H 1) fun a E => ?_; refine Vv E (zub rfl (⟨_, Tryz.underlying23, Tryz.underlying5, by kernel_rfl, by kernel_rfl⟩) rfl rfl (rfl)) fun a E => ?_; refine Vv E (zeb rfl rfl rfl) fun a E => ?_; refine Vv E pkm fun a E => ?_; refine Vv E (pkl 32 H 2) fun a E => ?_; refine Vv E (pkl 32 H 0) fun a E => ?_; refine Vv E (zub rfl (⟨_, Tryz.underlying23, Tryz.underlying5, by kernel_rfl, by kernel_rfl⟩) rfl rfl (rfl)) fun a E => ?_
   refine Vv E (zeb rfl rfl rfl) fun a E => ?_; refine Vv E pkm fun a E => ?_; refine Vv E pkm fun a E => ?_; refine Vv E pkm fun a E => ?_; refine Ve E ?_; refine Vc E ?_; refine (zB7 (l := (zeQ gt kp ks pl ts).1) (l' := (zeQ gt kp ks pl ts).1) (H.fact 1 rfl) (H.fact 0 rfl)).mono ?_; rintro e w ⟨rfl, rfl⟩; refine Vp E fun a E => ?_
   rw [decide_eq_true rfl] at E
   refine Vv E (zeb rfl rfl rfl) fun a E => ?_; refine Vv E pkm fun a E => ?_; refine Vv E pkm fun a E => ?_; refine Vv E pkm fun a E => ?_; refine Vv E (zbN (v := .bool true) rfl rfl rfl (congrArg (fun b => some (Value.bool b)) (beq_self_eq_true _))) fun a E => ?_; refine Vv E (zeb rfl rfl rfl) fun a E => ?_; refine Vv E pka fun a E => ?_; refine Vn ?_; refine wp_ret ?_
   repeat (first | refine zat ?_ | refine zas ?_)
   refine zf7 rfl E (zcu rfl) ?_
   exact ⟨rfl, H.keepLR (L := []) (R := [])⟩
end
end Go.Proofs.YtfolbgiekbimpaaGreatDoor
