/- Sums with a key, and bytes made of a key, the reference: as macV and expV. What is sealed, and opened, the reference. Keys of keys, pairs, boxes: the reference. The laws KemBoxes, KemUnboxes: whatever the input, they answer true. -/
import Derived.Test.YtfolbgiekbimpaaGreatDoorKemUnboxesI
set_option linter.unusedSimpArgs false
set_option linter.unusedVariables false
set_option maxRecDepth 200000
set_option maxHeartbeats 6000000
namespace Go.Proofs.YtfolbgiekbimpaaGreatDoor
section
open Go.RowKit
def zqC (key : List Nat) (by_ i j : Nat) : Nat := if j < i then (key.getD j 0 % 256) ^^^ (by_ % 256) else 0
def zuJ (key : List Nat) (by_ i j : Nat) : Nat := if j = i then by_ else zqC key by_ i j
theorem zzI (key : List Nat) (by_ i : Nat) : zuJ key by_ i i = by_ := if_pos rfl
theorem zwA (key : List Nat) (by_ i j : Nat) : upd (fun j => bv (zqC key by_ i j)) i (bv by_) j = bv (zuJ key by_ i j) := by
 unfold upd zuJ; split <;> rfl
theorem zuB (key : List Nat) (by_ : Nat) {i j : Nat} (h : j ≠ i) : zuJ key by_ i j = zqC key by_ (i + 1) j := by
 unfold zuJ zqC
 rw [if_neg h]
 by_cases h2 : j < i
 ·rw [if_pos h2, if_pos (by omega)]
 ·rw [if_neg h2, if_neg (by omega)]
theorem zzJ (key : List Nat) (by_ i j : Nat) : upd (fun j => bv (zuJ key by_ i j)) i (bv ((by_ % 256) ^^^ (key.getD i 0 % 256))) j = bv (zqC key by_ (i + 1) j) := by
 unfold upd
 by_cases h : j = i
 ·subst h; rw [if_pos rfl]; unfold zqC; rw [if_pos (by omega), Nat.xor_comm]
 ·rw [if_neg h]
  show bv (zuJ key by_ i j) = _
  rw [zuB _ _ h]
theorem zwB (key : List Nat) {by_ i : Nat} (hb : by_ < 256) (hi : key.length ≤ i) : (fun j => bv (zuJ key by_ i j)) = fun j => bv (zqC key by_ (i + 1) j) := by
 funext j
 by_cases h : j = i
 ·subst h
  unfold zuJ zqC
  rw [if_pos rfl, if_pos (by omega), jR, List.getElem?_eq_none hi, Nat.mod_eq_of_lt hb]
  simp
 ·rw [zuB _ _ h]
theorem zA5 (key : List Nat) (by_ : Nat) : cl [.row 64 (fun j => bv (zqC key by_ 64 j))] = (zbJ key by_).map bv := by
 simp only [cl, Chunk.cells, List.append_nil, zbJ, List.map_map]
 apply List.map_congr_left
 intro i hi
 simp only [Function.comp, zqC, if_pos (List.mem_range.1 hi)]
theorem zwC (gt : Nat → Nat) (key : List Nat) (ps : List (List Nat)) : zhs gt [zbJ key 92, zhs gt [zbJ key 54, ps.flatten]] = zer gt key ps := by
 have e : zhs gt [zbJ key 54, ps.flatten] = zhs gt (zbJ key 54 :: ps) := by rw [zjN, zjN]; simp
 rw [e, zer]
theorem zqD : zcp [] = [] := rfl
attribute [local irreducible] zhs zer zcY zjK zbJ beL zcp
theorem zqE {A : Option Addr} {c by_ : Nat} {key : List Nat} (h64 : key.length ≤ 64) (hby : by_ < 256) {X : List Nat} {w0 : World} (hX : ∀ k ∈ X, k < w0.heap.size) (hk : St (TxF A c key) w0 X) :
  Calls Tryz.prog 87 #[.slice A key.length c, bv by_] w0 fun e w' => ∃ A' c', e = .returned (.slice A' (zbJ key by_).length c') ∧ Sep X [] w0 w' [] [TxF A' c' (zbJ key by_)] := by
 refine zaz Tryz.ntmps87 Tryz.func87 rfl rfl fun a E => ?_; replace E : Env a _ [(0, _), (1, _)] := E
 have H : Sep X [] w0 w0 [] [(TxF A c key)] := Sep.start hX (jJ.2 ⟨hk, fun _ h => by cases h⟩)
 refine Vr ?_; refine Vv E pka fun a E => ?_; refine Vn ?_; refine wp_seq_k fun K1 hK1 => ?_; refine Vr ?_; refine Vv E pkm fun a E => ?_; refine Vv E pkn fun a E => ?_; refine Vv E (zbD (v := .bool false) rfl rfl rfl (congrArg (fun b => some (Value.bool b)) (decide_eq_false (by omega)))) fun a E => ?_; refine Vn ?_; refine zaN E rfl ?_; refine wp_skip ?_; refine hK1 _ _ ?_; refine Vr ?_; refine Ve E ?_; refine zir (n := 64) (c := 64) E H rfl ⟨Tryz.underlying24, Tryz.underlying5, by kernel_rfl⟩ rfl rfl rfl rfl (by omega) (by omega) ?_; clear H
 intro b15 w H F; refine Vp E fun a E => ?_; clear F; refine Vv E pka fun a E => ?_; refine Vn ?_; refine wp_seq_k fun K4 hK4 => ?_; refine Vr ?_; refine Vv E pkm fun a E => ?_; refine Vv E pkn fun a E => ?_; refine Vv E pkm fun a E => ?_; refine Vn ?_; refine wp_block ?_
 have e0 : (fun _ => bv 0) = fun j => bv (zqC key by_ 0 j) := by funext j; simp [zqC]
 rw [e0] at H
 refine zbC (γ := Nat) [0, 1, 6, 17] (fun i => [(18, .int .i64 (i : Int))]) (fun i => [.blk b15 (ca [.row 64 (fun j => bv (zqC key by_ i j))]) 5 ]) (fun i => [TxF A c key]) (fun i => i ≤ 64) (fun i => 64 - i) (0) E H (by repeat (first | exact trivial | refine ⟨rfl, ?_⟩)) (by omega) ?_; clear E H; intro i a w E H hφ; replace E : Env a _ [(18, _), (0, _), (1, _), (6, _), (17, _)] := E; replace H : Sep _ _ _ _ [_] [_] := H; refine Vr ?_; refine Vv E pki fun a E => ?_; refine Vn ?_; refine wp_seq_k fun K7 hK7 => ?_; refine zau (d := 19) E rfl ?_ ?_
 ·skip
  clear E; intro c19 E
  have hi : i < 64 := by have := c19; simp only [jS] at this; omega
  refine za7 E rfl ?_; refine wp_skip ?_; refine hK7 _ _ ?_; refine wp_seq_k fun K8 hK8 => ?_; refine wp_block ?_; refine Vr ?_; refine Vv E pkm fun a E => ?_; refine Vv E pka fun a E => ?_; refine Vn ?_; refine Vr ?_; refine Vv E pkm fun a E => ?_; refine Vv E pkm fun a E => ?_; refine Vv E pkm fun a E => ?_; refine Vv E (zb7 (sz := 1) (i := i) rfl rfl (by kernel_rfl) rfl rfl rfl hi) fun a E => ?_; refine Ve E ?_
  refine zbe (off := 0) (i := i) (fun j => bv (zuJ key by_ i j)) 0 E H rfl rfl rfl hi rfl rfl (by rw [Nat.mul_one]) rfl rfl rfl (by kernel_rfl) (fun j => zwA key by_ i j) rfl ?_; clear H; intro w H F; replace H : Sep _ _ _ _ [_] _ := H; refine zdn rfl ?_; clear F; refine Vn ?_; refine Vr ?_; refine Vv E pkm fun a E => ?_; refine Vv E pkm fun a E => ?_; refine Vv E pkn fun a E => ?_; refine Vv E pki fun a E => ?_; refine Vn ?_; refine zau (d := 28) E rfl ?_ ?_
  ·skip
   clear E; intro c28 E
   have hik : i < key.length := by have := c28; simp only [jS] at this; omega
   obtain ⟨ad, hA⟩ : ∃ ad, A = some ad := by
    cases hq : A with
    | some ad => exact ⟨ad, rfl⟩
    | none => have := (hk.now.nil hq).1; omega
   have hg : key[i]? = some (key.getD i 0) := by rw [jR, jP hik]; rfl
   refine za7 E rfl ?_; refine zbr E H [] 8 [(0, false), (1, false), (2, false), (3, false), (4, false), (5, false), (6, false), (7, false)] (by kernel_rfl) (by kernel_rfl) (fun w HS => ?_)
   (simp only [canOps, jD, jE, jF, jG])
   clear H
   have H := HS
   have hsz : w.heap.size ≤ w.heap.size := jV _
   have HK : CanB.Keep (fun k => k < w.heap.size ∧ k ∉ []) w w := CanB.Keep.refl _ _
   refine Cw E HK pkm fun a E => ?_; refine Cw E HK pkm fun a E => ?_; refine Cw E HK (zb7 (sz := 1) (i := i) rfl rfl (by kernel_rfl) rfl rfl rfl hi) fun a E => ?_; refine Cw E HK (zaE (i := i) (off := 0) HS 0 rfl (HS.inS 0 rfl (by simp)) rfl hi rfl rfl (by rw [Nat.mul_one]) (by kernel_rfl)) fun a E => ?_
   rw [zzI] at E
   refine Cw E HK pkm fun a E => ?_; refine Cw E HK pkm fun a E => ?_; refine Cw E HK (zb7 (sz := 1) (i := i) hA rfl (by kernel_rfl) rfl rfl rfl hik) fun a E => ?_; refine Cw E HK (zc6 (HS.fact 0 rfl) (fun k h _ => ⟨h, by simp⟩) hA rfl rfl hg (by kernel_rfl)) fun a E => ?_; refine CanB.wpCan_nil ?_
   try (simp only [jH, jI, jF, jG])
   clear HS HK hsz; refine Vv E (zok rfl rfl rfl) fun a E => ?_; refine Vv E (zb7 (sz := 1) (i := i) rfl rfl (by kernel_rfl) rfl rfl rfl hi) fun a E => ?_; refine Ve E ?_; refine zbe (off := 0) (i := i) (fun j => bv (zqC key by_ (i + 1) j)) 0 E H rfl rfl rfl hi rfl rfl (by rw [Nat.mul_one]) rfl rfl rfl (by kernel_rfl) (fun j => zzJ key by_ i j) rfl ?_; clear H; intro w H F; replace H : Sep _ _ _ _ [_] _ := H; refine zdn rfl ?_; clear F; refine hK8 _ _ ?_; refine zaB ?_; refine Vv E (zaK rfl rfl rfl rfl (zdf (by omega) (by omega))) fun a E => ?_; refine Vv E pkm fun a E => ?_; refine za9 ?_
   exact ⟨i + 1, ⟨E.to (by repeat (first | exact trivial | refine ⟨rfl, ?_⟩)), H, by omega⟩, by omega⟩
  ·skip
   clear E; intro c28 E
   have hik : key.length ≤ i := by have := c28; simp only [decide_eq_false_iff_not] at this; omega
   rw [zwB key hby hik] at H
   refine zaN E rfl ?_; refine wp_skip ?_; refine hK8 _ _ ?_; refine zaB ?_; refine Vv E (zaK rfl rfl rfl rfl (zdf (by omega) (by omega))) fun a E => ?_; refine Vv E pkm fun a E => ?_; refine za9 ?_
   exact ⟨i + 1, ⟨E.to (by repeat (first | exact trivial | refine ⟨rfl, ?_⟩)), H, by omega⟩, by omega⟩
 ·skip
  clear E; intro c19 E
  obtain rfl : i = 64 := by have := c19; simp only [decide_eq_false_iff_not] at this; omega
  refine zaN E rfl ?_; refine wp_exit ?_
  repeat (first | refine za4 ?_ | refine za5 ?_ | refine zaW (by decide) ?_)
  refine hK4 _ _ ?_; refine Vr ?_; refine Vv E pkm fun a E => ?_; refine Vv E pka fun a E => ?_; refine Vn ?_; refine wp_ret ?_
  repeat (first | refine zat ?_ | refine zap ?_)
  refine zf8 rfl E (zbT rfl) ?_
  have hT := zbP (k := zbJ key by_) (c := 64) ((H.lend 0 rfl).fact 0 rfl) (zA5 key by_) (by rw [zco]; omega) (by rw [zco]; omega) (zkj key by_)
  exact ⟨some ⟨b15, 0, none⟩, 64, by rw [zco], ((H.lend 0 rfl).know hT).refacts (jJ.2 ⟨((H.lend 0 rfl).know hT).fact 0 rfl, jK _⟩)⟩
theorem zmG {A PA : Option Addr} {c pc : Nat} {key : List Nat} {ps : List (List Nat)} {pm : Nat → zav.μ} {gt : Nat → Nat} (h64 : key.length ≤ 64) (hfl : ps.flatten.length ≤ 10000000000) {X : List Nat} {w0 : World} (hX : ∀ k ∈ X, k < w0.heap.size) (hk : St (TxF A c key) w0 X) (hL : St (LiF zav PA pc ps pm) w0 X) (hG : St (AtC ⟨1, 0, none⟩ [.row 64 fun i => u32 (gt i)]) w0 X) :
  Calls Tryz.prog 62 #[.slice A key.length c, .slice PA ps.length pc] w0 fun e w' => e = .returned (.agg (ca [.key (zer gt key ps)])) ∧ Sep X [] w0 w' [] [] := by
 refine zaz Tryz.ntmps62 Tryz.func62 rfl rfl fun a E => ?_; replace E : Env a _ [(0, _), (1, _)] := E
 have H : Sep X [] w0 w0 [] [(TxF A c key), (LiF zav PA pc ps pm), (AtC ⟨1, 0, none⟩ [.row 64 fun i => u32 (gt i)])] := Sep.start hX (jJ.2 ⟨hk, jJ.2 ⟨hL, jJ.2 ⟨hG, fun _ h => by cases h⟩⟩⟩)
 refine Vr ?_; refine Wa (z := [.key []]) E H fun b4 w a H E => ?_; refine Vn ?_; refine Vr ?_; refine Vv E pkm fun a E => ?_; refine Ve E ?_; refine Vc E ?_; refine (zqE (by_ := 54) h64 (by decide) H.xk (H.fact 0 rfl)).mono ?_; rintro e w ⟨A7, c7, rfl, H1⟩
 replace H := H.call H1
 clear H1; replace H : Sep _ _ _ _ [_] [_, _, _, _] := H; refine Vp E fun a E => ?_; refine Vv E pkm fun a E => ?_; refine Ve E ?_; refine Vc E ?_; refine (zfu (by omega) H.xk (H.fact 2 rfl)).mono ?_; rintro e w ⟨A9, c9, rfl, H1⟩
 replace H := H.call H1
 clear H1; replace H : Sep _ _ _ _ [_] [_, _, _, _, _] := H; refine Vp E fun a E => ?_; refine Ve E ?_; refine zaP (sz := 1) (z := [.one (.slice none 0 0), .one (.slice none 0 0)]) E H rfl Tryz.underlying25 (by kernel_rfl) (by decide) (by kernel_rfl) ⟨_, [.one _], 0, _, rfl, rfl, rfl, rfl, ⟨_, [.one _], 1, _, rfl, rfl, rfl, rfl, rfl⟩⟩ ?_; clear H; intro b10 w H _; refine Vp E fun a E => ?_; refine Ve E ?_; refine Vc E ?_
 have HB := H.lend 0 rfl
 have hli := zes (T := zav) (its := [((zbJ key 54, (A7, c7)) : List Nat × zav.μ), (ps.flatten, (A9, c9))]) (c := 2) (xs := [zbJ key 54, ps.flatten]) (HB.fact 0 rfl) zid (zaX (its := [_]) (q := ((ps.flatten, (A9, c9)) : List Nat × zav.μ)) (zaX (its := []) (q := ((zbJ key 54, (A7, c7)) : List Nat × zav.μ)) zb3 (HB.fact 2 rfl)) (HB.fact 1 rfl)) rfl (by show 2 ≤ 2; decide) (by show 2 ≤ _; decide)
 have H2 := HB.refacts (R' := [_, _]) (jJ.2 ⟨hli, jJ.2 ⟨HB.fact 5 rfl, jK _⟩⟩)
 clear HB hli; refine (zbB (ps := [zbJ key 54, ps.flatten]) (by rw [List.flatten_cons, List.flatten_cons, List.flatten_nil, List.append_nil, jQ, zco]; omega) H2.xk (H2.fact 0 rfl) (H2.fact 1 rfl)).mono ?_; rintro e w ⟨rfl, H1⟩
 have F := H1.frm
 replace H := H.grow F
 refine Vp E fun a E => ?_; clear F; clear H2; refine Wa (z := [.key []]) E H fun b5 w a H E => ?_; refine Ws 0 E H fun w H => ?_; replace H : Sep _ _ _ _ [_, _, _] _ := H; refine Vn ?_; refine wp_seq_k fun K2 hK2 => ?_; refine zbr E H [] 3 [(0, false), (2, false), (1, true)] (by kernel_rfl) (by kernel_rfl) (fun w HS => ?_)
 (simp only [canOps, jD, jE, jF, jG])
 clear H
 have H := HS
 have hsz : w.heap.size ≤ w.heap.size := jV _
 have HK : CanB.Keep (fun k => k < w.heap.size ∧ k ∉ []) w w := CanB.Keep.refl _ _
 refine Cw E HK pkm fun a E => ?_; refine Cw E HK (zc7 (N := 32) (sz := 1) rfl (by kernel_rfl) rfl) fun a E => ?_; refine zfC E rfl (fun K hK => ?_); refine Vc E ?_; refine (zqE (by_ := 92) h64 (by decide) H.xk (H.fact 2 rfl)).mono ?_; rintro e w ⟨A13, c13, rfl, H1⟩
 have F := H1.frm
 replace H := H.call H1
 clear H1; replace H : Sep _ _ _ _ [_, _, _] [_, _, _, _, _, _] := H
 have hk := zaI (D := []) F hsz (by simp)
 refine hK _ _ hk ?_; clear hK K
 replace HK := HK.trans hk
 replace hsz := jU hsz (F).size
 clear hk; refine zfD E rfl rfl ?_; clear E a; intro a E; clear F; refine CanB.wpCan_nil ?_
 try (simp only [jH, jI, jF, jG])
 clear HS HK hsz; refine Ve E ?_; refine zaP (sz := 1) (z := [.one (.slice none 0 0), .one (.slice none 0 0)]) E H rfl Tryz.underlying25 (by kernel_rfl) (by decide) (by kernel_rfl) ⟨_, [.one _], 0, _, rfl, rfl, rfl, rfl, ⟨_, [.one _], 1, _, rfl, rfl, rfl, rfl, rfl⟩⟩ ?_; clear H; intro b15 w H _; refine Vp E fun a E => ?_; refine Ve E ?_; refine Vc E ?_
 have HB := (H.lend 0 rfl).lend 0 rfl
 have hin := zbP (k := (zhs gt [zbJ key 54, ps.flatten])) (c := 32) (HB.fact 0 rfl) (by rw [zcO, zbo (zdp _ _)]) (by rw [zdp]; omega) (by rw [zdp]; omega) (zi5 _ _)
 have hli := zes (T := zav) (its := [((zbJ key 92, (A13, c13)) : List Nat × zav.μ), ((zhs gt [zbJ key 54, ps.flatten]), (some ⟨b5, 0, none⟩, 32))]) (c := 2) (xs := [zbJ key 92, (zhs gt [zbJ key 54, ps.flatten])]) (HB.fact 1 rfl) (by rw [← zid, zco, zdp]) (zaX (its := [_]) (q := (((zhs gt [zbJ key 54, ps.flatten]), (some ⟨b5, 0, none⟩, 32)) : List Nat × zav.μ)) (zaX (its := []) (q := ((zbJ key 92, (A13, c13)) : List Nat × zav.μ)) zb3 (HB.fact 2 rfl)) hin) rfl (by show 2 ≤ 2; decide) (by show 2 ≤ _; decide)
 have H2 := HB.refacts (R' := [_, _]) (jJ.2 ⟨hli, jJ.2 ⟨HB.fact 7 rfl, jK _⟩⟩)
 clear HB hin hli; refine (zbB (ps := [zbJ key 92, (zhs gt [zbJ key 54, ps.flatten])]) (by rw [List.flatten_cons, List.flatten_cons, List.flatten_nil, List.append_nil, jQ, zco, zdp]; omega) H2.xk (H2.fact 0 rfl) (H2.fact 1 rfl)).mono ?_; rintro e w ⟨rfl, H1⟩
 have F := H1.frm
 replace H := H.grow F
 refine Vp E fun a E => ?_; clear F; clear H2; refine Ws 3 E H fun w H => ?_; replace H : Sep _ _ _ _ [_, _, _, _] _ := H; refine hK2 _ _ ?_; refine wp_ret ?_
 repeat (first | refine zat ?_ | refine zap ?_)
 refine zf8 rfl E (by exact zhT (n := 32) H 3 rfl rfl rfl (by kernel_rfl)) ?_; refine ⟨?_, (H.refacts (jK _)).popL.popL.popL.popL⟩
 rw [zwC]
theorem zgO {n ic : Nat} {IA : Option Addr} {k info : List Nat} {gt : Nat → Nat} (hk32 : k.length = 32) (hkb : ∀ x ∈ k, x < 256) (hn : n ≤ 8160) (hi20 : info.length ≤ 1048576) {X : List Nat} {w0 : World} (hX : ∀ k ∈ X, k < w0.heap.size) (hI : St (TxF IA ic info) w0 X) (hG : St (AtC ⟨1, 0, none⟩ [.row 64 fun i => u32 (gt i)]) w0 X) :
  Calls Tryz.prog 32 #[.agg (ca [.key k]), .slice IA info.length ic, .int .i64 ((n : Nat) : Int)] w0 fun e w' => ∃ A' c', e = .returned (.tuple #[.slice A' n c', .int .i64 0]) ∧ Sep X [] w0 w' [] [TxF A' c' (zie gt k info n)] := by
 refine zaz Tryz.ntmps32 Tryz.func32 rfl rfl fun a E => ?_; replace E : Env a _ [(0, _), (1, _), (2, _)] := E
 have H : Sep X [] w0 w0 [] [(TxF IA ic info), (AtC ⟨1, 0, none⟩ [.row 64 fun i => u32 (gt i)])] := Sep.start hX (jJ.2 ⟨hI, jJ.2 ⟨hG, fun _ h => by cases h⟩⟩)
 refine Vr ?_; refine Wb E H fun b3 w a H E => ?_; refine Vv E pka fun a E => ?_; refine Vv E pka fun a E => ?_; refine Vn ?_; refine wp_seq_k fun K1 hK1 => ?_; refine Vr ?_; refine Vv E pkm fun a E => ?_; refine Vv E (zbD (v := .bool false) rfl rfl rfl (congrArg (fun b => some (Value.bool b)) (decide_eq_false (by omega)))) fun a E => ?_; refine Vv E pkm fun a E => ?_; refine Vv E pkm fun a E => ?_
 refine Vv E (zbD (v := .bool false) rfl rfl rfl (congrArg (fun b => some (Value.bool b)) (decide_eq_false (by omega)))) fun a E => ?_; refine Vv E (zep rfl rfl rfl) fun a E => ?_; refine Vn ?_; refine zaN E rfl ?_; refine wp_skip ?_; refine hK1 _ _ ?_; refine wp_seq_k fun K3 hK3 => ?_; refine Vr ?_; refine Vv E pkm fun a E => ?_; refine Vv E pkn fun a E => ?_; refine Vv E (zbD (v := .bool false) rfl rfl rfl (congrArg (fun b => some (Value.bool b)) (decide_eq_false (by omega)))) fun a E => ?_; refine Vn ?_; refine zaN E rfl ?_; refine wp_skip ?_; refine hK3 _ _ ?_; refine Vr ?_
 refine Vv E pka fun a E => ?_; refine Vv E pka fun a E => ?_; refine Vn ?_; refine wp_seq_k fun K6 hK6 => ?_; refine Vr ?_; refine Vv E pka fun a E => ?_; refine Vn ?_; refine wp_block ?_
 refine zbC (γ := Nat × List Nat × List Nat × Option Addr × Nat × Option Addr × Nat) [1, 2, 3] (fun g => [(8, .slice g.2.2.2.2.2.1 g.2.2.1.length g.2.2.2.2.2.2), (9, .slice g.2.2.2.1 g.2.1.length g.2.2.2.2.1), (10, .int .i64 ((g.1 + 1 : Nat) : Int))]) (fun g => [.row (.slice g.2.2.2.2.2.1 g.2.2.1.length g.2.2.2.2.2.2) 5 1 g.2.2.1.length (g.2.2.1.map bv), .blk b3 (ca [.key k]) 23 ]) (fun g => [TxF g.2.2.2.1 g.2.2.2.2.1 g.2.1, TxF IA ic info, AtC ⟨1, 0, none⟩ [.row 64 fun i => u32 (gt i)]]) (fun g => g.1 * 32 < n + 32 ∧ exT gt k info g.1 = (g.2.1, g.2.2.1)) (fun g => 8192 - g.1 * 32) ((0, [], [], none, 0, none, 0)) E ((H.know zbw).rownil _ _) (by repeat (first | exact trivial | refine ⟨rfl, ?_⟩)) (⟨by show 0 * 32 < n + 32; omega, rfl⟩) ?_; clear E H; intro g a w E H hφ
 replace E : Env a _ [(8, _), (9, _), (10, _), (1, _), (2, _), (3, _)] := E; replace H : Sep _ _ _ _ [_, _] [_, _, _] := H
 obtain ⟨j, last, out, LA, lc, OA, oc⟩ := g
 simp only at E H hφ ⊢
 obtain ⟨hj, hex0⟩ := hφ
 have hex := zi6 gt k info j
 rw [hex0] at hex
 simp only at hex
 refine wp_seq_k fun K8 hK8 => ?_; refine Vr ?_; refine Vv E pkm fun a E => ?_; refine Vv E pkn fun a E => ?_; refine Vv E pkm fun a E => ?_; refine Vv E pki fun a E => ?_; refine Vn ?_; refine zau (d := 24) E rfl ?_ ?_
 ·skip
  clear E; intro c24 E
  have hlt : out.length < n := by have := c24; simp only [jS] at this; omega
  refine za7 E rfl ?_; refine wp_skip ?_; refine hK8 _ _ ?_; refine wp_seq_k fun K10 hK10 => ?_; refine wp_block ?_; refine Vr ?_; refine Vv E (zc7 (N := 32) (sz := 1) rfl (by kernel_rfl) rfl) fun a E => ?_; refine Vv E pkm fun a E => ?_; refine Vv E pkm fun a E => ?_; refine Vv E pkm fun a E => ?_; refine Vv E (zd7 rfl rfl (by kernel_rfl) (by kernel_rfl) (wU8 (by omega) (by omega))) fun a E => ?_; refine Ve E ?_; refine zaP (sz := 1) (z := [.one (.int .u8 0)]) E H rfl Tryz.underlying24 (by kernel_rfl) (by decide) (by kernel_rfl) ⟨_, [.one _], 0, _, rfl, rfl, rfl, rfl, rfl⟩ ?_; clear H; intro b32 w H _; refine Vp E fun a E => ?_; refine Ve E ?_; refine zaP (sz := 1) (z := [.one (.slice none 0 0), .one (.slice none 0 0), .one (.slice none 0 0)]) E H rfl Tryz.underlying25 (by kernel_rfl) (by decide) (by kernel_rfl) ⟨_, [.one _], 0, _, rfl, rfl, rfl, rfl, ⟨_, [.one _], 1, _, rfl, rfl, rfl, rfl, ⟨_, [.one _], 2, _, rfl, rfl, rfl, rfl, rfl⟩⟩⟩ ?_; clear H; intro b33 w H _; refine Vp E fun a E => ?_; refine Ve E ?_; refine Vc E ?_
  rw [show (Value.slice (some ⟨b3, 0, none⟩) 32 32) = .slice (some ⟨b3, 0, none⟩) k.length 32 from by rw [hk32]]
  have HB := ((H.lend 0 rfl).lend 0 rfl).lend 1 rfl
  have hkk := zbP (k := k) (c := 32) (HB.fact 0 rfl) (by rw [zcO, zbo hk32]) (by omega) (by omega) hkb
  have hby := zbP (k := [j + 1]) (c := 1) (HB.fact 1 rfl) rfl (by show 1 ≤ 1; decide) (by show 1 ≤ _; decide) (fun x hx => by rw [List.mem_singleton.1 hx]; omega)
  have hli := zes (T := zav) (its := [((last, (LA, lc)) : List Nat × zav.μ), (info, (IA, ic)), ([j + 1], (some ⟨b32, 0, none⟩, 1))]) (c := 3) (xs := [last, info, [j + 1]]) (HB.fact 2 rfl) rfl (zaX (its := [_, _]) (q := (([j + 1], (some ⟨b32, 0, none⟩, 1)) : List Nat × zav.μ)) (zaX (its := [_]) (q := ((info, (IA, ic)) : List Nat × zav.μ)) (zaX (its := []) (q := ((last, (LA, lc)) : List Nat × zav.μ)) zb3 (HB.fact 3 rfl)) (HB.fact 4 rfl)) hby) rfl (by show 3 ≤ 3; decide) (by show 3 ≤ _; decide)
  have H2 := HB.refacts (R' := [_, _, _]) (jJ.2 ⟨hkk, jJ.2 ⟨hli, jJ.2 ⟨HB.fact 5 rfl, jK _⟩⟩⟩)
  clear HB hkk hby hli; refine (zmG (key := k) (ps := [last, info, [j + 1]]) (by omega) (by rw [List.flatten_cons, List.flatten_cons, List.flatten_cons, List.flatten_nil, List.append_nil, jQ, jQ]; have := hex.2.1; show _ + (_ + 1) ≤ _; omega) H2.xk (H2.fact 0 rfl) (H2.fact 1 rfl) (H2.fact 2 rfl)).mono ?_; rintro e w ⟨rfl, H1⟩
  have F := H1.frm
  replace H := H.grow F
  refine Vp E fun a E => ?_; clear F; clear H2; refine Wa (z := [.key []]) E H fun b11 w a H E => ?_; refine Ws 0 E H fun w H => ?_; replace H : Sep _ _ _ _ [_, _, _, _, _] _ := H; refine Vn ?_; refine wp_seq_k fun K12 hK12 => ?_
  have hT11 := zbP (k := (zer gt k [last, info, [j + 1]])) (c := 32) ((H.lend 0 rfl).fact 0 rfl) (by rw [zcO, zbo (zbt _ _ _)]) (by rw [zbt]; omega) (by rw [zbt]; omega) (zcZ _ _ _)
  replace H := (H.lend 0 rfl).know hT11
  replace H : Sep _ _ _ _ [_, _, _, _] [_, _, _, _, _] := H; clear hT11; refine zaB ?_; refine Vv E (zc7 (N := 32) (sz := 1) rfl (by kernel_rfl) rfl) fun a E => ?_
  rw [show Value.slice (some ⟨b11, 0, none⟩) 32 32 = .slice (some ⟨b11, 0, none⟩) (zer gt k [last, info, [j + 1]]).length 32 from by rw [zbt]] at E
  refine Vv E pka fun a E => ?_; refine hK12 _ _ ?_; refine zaB ?_; refine Vv E pkm fun a E => ?_; refine Vv E pkm fun a E => ?_; refine Ve E ?_; refine zdO (k := out) (m := (zer gt k [last, info, [j + 1]])) 2 E H (H.fact 0 rfl) rfl rfl rfl rfl ⟨Tryz.underlying24, by kernel_rfl⟩ (by rw [zbt]; omega) ?_; clear H; intro A38 c38 w H F; replace H : Sep _ _ _ _ [_, _, _, _] _ := H; refine Vp E fun a E => ?_; clear F; refine Vv E pka fun a E => ?_; refine hK10 _ _ ?_; refine zaB ?_; refine Vv E pkm fun a E => ?_
  refine Vv E (zaK rfl rfl rfl rfl (zdf (by omega) (by omega))) fun a E => ?_; refine Vv E pka fun a E => ?_; refine za9 ?_
  exact ⟨(j + 1, (zer gt k [last, info, [j + 1]]), out ++ (zer gt k [last, info, [j + 1]]), some ⟨b11, 0, none⟩, 32, A38, c38), ⟨E.to (by repeat (first | exact trivial | refine ⟨rfl, ?_⟩)), H.popL.popL.drop2, ⟨by show (j + 1) * 32 < n + 32; omega, zps hex0⟩⟩, by show 8192 - (j + 1) * 32 < 8192 - j * 32; omega⟩
 ·skip
  clear E; intro c24 E
  have hge : ¬ out.length < n := by have := c24; simp only [decide_eq_false_iff_not] at this; omega
  obtain rfl : j = (n + 31) / 32 := by omega
  refine zaN E rfl ?_; refine wp_exit ?_
  repeat (first | refine za4 ?_ | refine za5 ?_ | refine zaW (by decide) ?_)
  refine hK6 _ _ ?_; refine Vr ?_; refine Vv E pkm fun a E => ?_; refine Vv E pkm fun a E => ?_
  have hoc : out.length ≤ oc := zkW (H.holds _ (by simp) : (Res.row (.slice OA out.length oc) 5 1 out.length (out.map bv)).holds w)
  refine Vv E (zeq (sz := 1) (hi := n) rfl (by kernel_rfl) rfl rfl rfl (by omega)) fun a E => ?_
  rw [sub_zero] at E
  refine Vv E pka fun a E => ?_; refine Vv E pka fun a E => ?_; refine Vn ?_; refine wp_ret ?_
  repeat (first | refine zat ?_ | refine zap ?_)
  refine zeO rfl E (zbT rfl) (zbT rfl) ?_
  have hT := H.rowTx (Sep.new_x H) (by omega) hex.2.2
  have hT2 := zdN (hi := n) (hT.fact 0 rfl) (by omega)
  rw [show out.take n = zie gt k info n from by rw [zie, hex0]] at hT2
  exact ⟨OA, oc, rfl, ((hT.know hT2).refacts (jJ.2 ⟨(hT.know hT2).fact 0 rfl, jK _⟩)).popL⟩
theorem zn5 {A TA : Option Addr} {c0 tc : Nat} {m0 : List Nat} {ts : List (List Nat)} {tm : Nat → zav.μ} (hm0 : m0.length ≤ 100000000) (hts : ts.length ≤ 1000000) {X : List Nat} {w0 : World} (hX : ∀ k ∈ X, k < w0.heap.size) (hA : St (TxF A c0 m0) w0 X) (hL : St (LiF zav TA tc ts tm) w0 X) :
  Calls Tryz.prog 31 #[.slice A m0.length c0, .slice TA ts.length tc] w0 fun e w' => ∃ A' c', e = .returned (.tuple #[.slice A' (zeg m0 ts).1.length c', .int .i64 (zeg m0 ts).2]) ∧ Sep X [] w0 w' [.row (.slice A' (zeg m0 ts).1.length c') 5 1 (zeg m0 ts).1.length ((zeg m0 ts).1.map bv)] [] := by
 refine zaz Tryz.ntmps31 Tryz.func31 rfl rfl fun a E => ?_; replace E : Env a _ [(0, _), (1, _)] := E
 have H : Sep X [] w0 w0 [] [(TxF A c0 m0), (LiF zav TA tc ts tm)] := Sep.start hX (jJ.2 ⟨hA, jJ.2 ⟨hL, fun _ h => by cases h⟩⟩)
 refine Vr ?_; refine Vv E pka fun a E => ?_; refine Vv E pka fun a E => ?_; refine Vn ?_; refine Vr ?_; refine Vv E pkm fun a E => ?_; refine Ve E ?_; refine Vc E ?_; refine (zjO H.xk (H.fact 0 rfl)).mono ?_; rintro e w ⟨A10, c10, rfl, H1⟩
 replace H := H.call H1
 clear H1; replace H : Sep _ _ _ _ [_] [_, _] := H; refine Vp E fun a E => ?_; refine Vv E pka fun a E => ?_; refine Vn ?_; refine wp_seq_k fun K2 hK2 => ?_; refine Vr ?_; refine Vv E pkm fun a E => ?_; refine Vv E pkn fun a E => ?_; refine Vv E pkm fun a E => ?_; refine Vn ?_; refine wp_block ?_
 refine zbC (γ := Nat × Option Addr × Nat) [11, 12] (fun g => [(6, .slice g.2.1 (m0 ++ zcp (ts.take g.1)).length g.2.2), (13, .int .i64 (g.1 : Int))]) (fun g => [.row (.slice g.2.1 (m0 ++ zcp (ts.take g.1)).length g.2.2) 5 1 (m0 ++ zcp (ts.take g.1)).length ((m0 ++ zcp (ts.take g.1)).map bv)]) (fun g => [TxF A c0 m0, LiF zav TA tc ts tm]) (fun g => g.1 ≤ ts.length ∧ ∀ t ∈ ts.take g.1, t.length ≤ 65535) (fun g => ts.length - g.1) ((0, A10, c10)) E (by rw [jI, show zcp [] = [] from zqD, List.append_nil]; exact H) (by rw [jI, show zcp [] = [] from zqD, List.append_nil]; repeat (first | exact trivial | refine ⟨rfl, ?_⟩)) (⟨Nat.zero_le _, fun t ht => by simp at ht⟩) ?_; clear E H; intro g a w E H hφ; replace E : Env a _ [(6, _), (13, _), (11, _), (12, _)] := E; replace H : Sep _ _ _ _ [_] [_, _] := H
 obtain ⟨i, Ag, cg⟩ := g
 simp only at E H hφ ⊢
 obtain ⟨hφ, hsm⟩ := hφ
 refine Vr ?_; refine Vv E pki fun a E => ?_; refine Vn ?_; refine wp_seq_k fun K5 hK5 => ?_; refine zau (d := 14) E rfl ?_ ?_
 ·skip
  clear E; intro c14 E
  have hi : i < ts.length := by have := c14; simp only [jS] at this; omega
  have hx0 : ts[i]? = some ts[i] := jP hi
  have hel : (m0 ++ zcp (ts.take i)).length = m0.length + (zcp (ts.take i)).length := jQ ..
  have hel2 := zeM (ts.take i) hsm
  rw [List.length_take] at hel2
  refine za7 E rfl ?_; refine wp_skip ?_; refine hK5 _ _ ?_; refine wp_seq_k fun K6 hK6 => ?_; refine wp_block ?_; refine Vr ?_
  obtain ⟨ad15, hA15, hc15, hn15⟩ := LiF.get (A := TA) (T := zav) (i := i) (x := ts[i]) (by exact H.fact 1 rfl) hx0
  refine Vv E (zb7 (sz := 1) hA15 rfl (by kernel_rfl) rfl rfl rfl (by omega)) fun a E => ?_
  replace H := (H.know hn15).know hc15
  clear hn15 hc15; replace H : Sep _ _ _ _ _ [_, _, _, _] := H; refine Vv E (zcB (H.fact 0 rfl) (fun _ _ _ => trivial) rfl rfl rfl (by kernel_rfl)) fun a E => ?_; refine Vv E pka fun a E => ?_; refine Vn ?_; refine wp_seq_k fun K8 hK8 => ?_; refine Vr ?_; refine Vv E pkm fun a E => ?_; refine Vv E pkn fun a E => ?_; refine Vv E pki fun a E => ?_; refine Vn ?_; refine zau (d := 19) E rfl ?_ ?_
  ·skip
   clear E; intro c19 E
   have hbig : ¬ ts[i].length ≤ 65535 := by have := c19; simp only [jS] at this; omega
   have htv : zeg m0 ts = ([], 4) := by unfold zeg; rw [if_neg (fun h => hbig (h _ (List.getElem_mem hi)))]
   refine za7 E rfl ?_; refine Vr ?_; refine Vv E pka fun a E => ?_; refine Vv E pka fun a E => ?_; refine Vn ?_; refine wp_ret ?_
   repeat (first | refine zat ?_ | refine zap ?_)
   refine zeO rfl E (zbT rfl) (zbT rfl) ?_
   rw [htv]
   exact ⟨none, 0, rfl, ((H.refacts (R' := []) (jK _)).popL).rownil _ _⟩
  ·skip
   clear E; intro c19 E
   have hle : ts[i].length ≤ 65535 := by have := c19; simp only [decide_eq_false_iff_not] at this; omega
   refine zaN E rfl ?_; refine wp_skip ?_; refine hK8 _ _ ?_; refine zaB ?_; refine Vv E pkm fun a E => ?_; refine Vv E pkm fun a E => ?_; refine Vv E pkn fun a E => ?_; refine Vv E (zd7 rfl rfl (by kernel_rfl) (by kernel_rfl) (zrS (by omega) (by omega))) fun a E => ?_; refine Ve E ?_; refine Vc E ?_; refine (ziI 2 ts[i].length (by decide) (by omega) H.xk).mono ?_; rintro e w ⟨A24, c24, rfl, H1⟩
   replace H := H.call H1
   clear H1; replace H : Sep _ _ _ _ [_] [_, _, _, _, _] := H; refine Vp E fun a E => ?_; refine Ve E ?_; refine zdO (k := (m0 ++ zcp (ts.take i))) (m := beL 2 ts[i].length) 0 E H (H.fact 0 rfl) rfl rfl rfl rfl ⟨Tryz.underlying24, by kernel_rfl⟩ (by rw [hel, zeh]; omega) ?_; clear H; intro A25 c25 w H F; replace H : Sep _ _ _ _ [_] _ := H; refine Vp E fun a E => ?_; clear F; refine Vv E pkm fun a E => ?_; refine Ve E ?_; refine zdO (k := ((m0 ++ zcp (ts.take i)) ++ beL 2 ts[i].length)) (m := ts[i]) 0 E H (H.fact 2 rfl) rfl rfl rfl rfl ⟨Tryz.underlying24, by kernel_rfl⟩ (by rw [jQ, hel, zeh]; omega) ?_; clear H; intro A27 c27 w H F
   replace H : Sep _ _ _ _ [_] _ := H; refine Vp E fun a E => ?_; clear F; refine Vv E pka fun a E => ?_; refine hK6 _ _ ?_; refine zaB ?_; refine Vv E (zaK rfl rfl rfl rfl (zdf (by omega) (by omega))) fun a E => ?_; refine Vv E pkm fun a E => ?_
   rw [show (m0 ++ zcp (ts.take i)) ++ beL 2 ts[i].length ++ ts[i] = m0 ++ zcp (ts.take (i + 1)) from by rw [znY hx0]; simp only [List.append_assoc]] at E H
   refine za9 ?_
   exact ⟨(i + 1, A27, c27), ⟨E.to (by repeat (first | exact trivial | refine ⟨rfl, ?_⟩)), H.pop.pop.pop, ⟨by show i + 1 ≤ ts.length; omega, fun t ht => by rw [List.take_add_one, hx0] at ht; rcases List.mem_append.1 ht with h1 | h1; exact hsm t h1; simp only [Option.toList_some, List.mem_singleton] at h1; subst h1; exact hle⟩⟩, by show ts.length - (i + 1) < ts.length - i; omega⟩
 ·skip
  clear E; intro c14 E
  obtain rfl : i = ts.length := by have := c14; simp only [decide_eq_false_iff_not] at this; omega
  rw [List.take_length] at E H hsm
  have htv : zeg m0 ts = (m0 ++ zcp ts, 0) := by unfold zeg; rw [if_pos hsm]
  refine zaN E rfl ?_; refine wp_exit ?_
  repeat (first | refine za4 ?_ | refine za5 ?_ | refine zaW (by decide) ?_)
  refine hK2 _ _ ?_; refine Vr ?_; refine Vv E pkm fun a E => ?_; refine Vv E pka fun a E => ?_; refine Vv E pka fun a E => ?_; refine Vn ?_; refine wp_ret ?_
  repeat (first | refine zat ?_ | refine zap ?_)
  refine zeO rfl E (zbT rfl) (zbT rfl) ?_
  rw [htv]
  exact ⟨Ag, cg, rfl, H.refacts (jK _)⟩
end
section
open Go.RowKit
def cpB (x : List Nat) (i j : Nat) : Nat := if j < i then x.getD j 0 else 0
theorem zmH (x : List Nat) (i j : Nat) : upd (fun j => bv (cpB x i j)) i (bv (x.getD i 0)) j = bv (cpB x (i + 1) j) := by
 unfold upd cpB
 by_cases h : j = i
 ·subst h; simp
 ·rw [if_neg h]
  show bv (if j < i then _ else _) = _
  by_cases h2 : j < i
  ·rw [if_pos h2, if_pos (by omega)]
  ·rw [if_neg h2, if_neg (by omega)]
theorem zo8 (x : List Nat) (n : Nat) : ca [.row n fun j => bv (cpB x n j)] = ca [.row n fun j => bv (x.getD j 0)] := by
 simp only [ca, cl, Chunk.cells, List.append_nil]
 congr 1
 apply List.map_congr_left
 intro i hi
 simp only [cpB, if_pos (List.mem_range.1 hi)]
theorem zuC (x : List Nat) (n j : Nat) : (x.drop n).getD j 0 = x.getD (n + j) 0 := by
 rw [jR, List.getElem?_drop, ← jR]
attribute [local irreducible] zer zie zeS zgs zdh zem zcp
section
variable {X : List Nat} {w0 : World} {A : Option Addr} {c : Nat} {k : List Nat}
theorem zwD (hX : ∀ i ∈ X, i < w0.heap.size) (h : St (TxF A c k) w0 X) (hk : k.length ≤ 1048576) {x : List Nat} (hx : ∀ z ∈ x, z < 256) :
  Calls Tryz.prog 67 #[.agg (ca [.row 16 fun i => bv (x.getD i 0)]), .agg (ca [.row 12 fun i => bv ((x.drop 16).getD i 0)]), .int .u32 0, .slice A k.length c] w0 fun e w' => ∃ A' c', e = .returned (.tuple #[.slice A' (zeS x k).length c', .int .i64 0]) ∧ Sep X [] w0 w' [.row (.slice A' (zeS x k).length c') 5 1 (zeS x k).length ((zeS x k).map bv)] [] := by
 have hn := h.now
 have e0 : zeS x k = zsw (fun i => ((x.getD i 0 : Nat) : Int)) (fun i => (((x.drop 16).getD i 0 : Nat) : Int)) 0 k := by with_unfolding_all rfl
 rw [← zjQ, ← zjQ, e0]
 refine (zwf (fun i => ((x.getD i 0 : Nat) : Int)) (fun i => (((x.drop 16).getD i 0 : Nat) : Int)) (fun i _ => ⟨by omega, by have := zc2 hx i; omega⟩) (fun i _ => ⟨by omega, by have := zc2 (x := x.drop 16) (fun z hz => hx z (List.mem_of_mem_drop hz)) i; omega⟩) 0 (by omega) A k.length c k w0 hn.txt hn.byt hk (by omega)).mono ?_
 rintro e w2 ⟨v, rfl, ho, hb⟩
 obtain ⟨A', c', rfl, h2⟩ := zfg (X := X) hX ho hb
 exact ⟨A', c', rfl, h2⟩
theorem zwE (hX : ∀ k ∈ X, k < w0.heap.size) (h : St (TxF A c k) w0 X) :
  Calls Tryz.prog 40 #[.slice A k.length c] w0 fun e w' => ∃ A' c', e = .returned (.slice A' k.length c') ∧ Sep X [] w0 w' [] [TxF A' c' k] := by
 have hn := h.now
 refine (zjO hX h).mono ?_
 rintro e w' ⟨A', c', rfl, h1⟩
 exact ⟨A', c', rfl, h1.rowTx (Sep.new_x h1) hn.len hn.byt⟩
end
theorem zo9 {BA : Option Addr} {bc : Nat} {k bs : List Nat} {gt : Nat → Nat} (hk32 : k.length = 32) (hkb : ∀ x ∈ k, x < 256) (hbl : bs.length ≤ 1048576) {X : List Nat} {w0 : World} (hX : ∀ k ∈ X, k < w0.heap.size) (hB : St (TxF BA bc bs) w0 X) (hG : St (AtC ⟨1, 0, none⟩ [.row 64 fun i => u32 (gt i)]) w0 X) :
  Calls Tryz.prog 37 #[.agg (ca [.key k]), .slice BA bs.length bc] w0 fun e w' => ∃ A' c', e = .returned (.slice A' (zeS (zdh gt k) bs).length c') ∧ Sep X [] w0 w' [.row (.slice A' (zeS (zdh gt k) bs).length c') 5 1 (zeS (zdh gt k) bs).length ((zeS (zdh gt k) bs).map bv)] [] := by
 have hlS : (zdh gt k).length = 28 := by with_unfolding_all exact zeG _ _ _ _
 have hSb : ∀ z ∈ zdh gt k, z < 256 := by with_unfolding_all exact zg3 _ _ _ _
 have heS : zie gt k zhN 28 = zdh gt k := by with_unfolding_all rfl
 have hg : ∀ i, i < 28 → (zdh gt k)[i]? = some ((zdh gt k).getD i 0) := fun i hi => by rw [jR, jP (show i < (zdh gt k).length by omega)]; rfl
 refine zaz Tryz.ntmps37 Tryz.func37 rfl rfl fun a E => ?_; replace E : Env a _ [(0, _), (1, _)] := E
 have H : Sep X [] w0 w0 [] [(TxF BA bc bs), (AtC ⟨1, 0, none⟩ [.row 64 fun i => u32 (gt i)])] := Sep.start hX (jJ.2 ⟨hB, jJ.2 ⟨hG, fun _ h => by cases h⟩⟩)
 refine Vr ?_; refine Wb E H fun b2 w a H E => ?_; refine Vv E pka fun a E => ?_; refine Vn ?_; refine Vr ?_; refine Vv E (pkl 32 H 0) fun a E => ?_; refine Ve E ?_
 refine zaP (sz := 1) (z := [.one (.int .u8 0), .one (.int .u8 0), .one (.int .u8 0), .one (.int .u8 0), .one (.int .u8 0), .one (.int .u8 0)]) E H rfl Tryz.underlying24 (by kernel_rfl) (by decide) (by kernel_rfl) ⟨_, [.one _], 0, _, rfl, rfl, rfl, rfl, ⟨_, [.one _], 1, _, rfl, rfl, rfl, rfl, ⟨_, [.one _], 2, _, rfl, rfl, rfl, rfl, ⟨_, [.one _], 3, _, rfl, rfl, rfl, rfl, ⟨_, [.one _], 4, _, rfl, rfl, rfl, rfl, ⟨_, [.one _], 5, _, rfl, rfl, rfl, rfl, rfl⟩⟩⟩⟩⟩⟩ ?_; clear H; intro b15 w H _; refine Vp E fun a E => ?_; refine Ve E ?_; refine zeA 0 E H rfl rfl Tryz.underlying24 Tryz.underlying5 rfl rfl ?_; clear H; intro w H F; replace H : Sep _ _ _ _ [_] [_, _, _] := H; refine Vp E fun a E => ?_; clear F
 refine Ve E ?_; refine Vc E ?_
 have hinf := zbP (k := zhN) (c := 6) (H.fact 0 rfl) rfl (by show 6 ≤ 6; decide) (by show 6 ≤ _; decide) (by decide)
 refine (zgO (n := 28) (k := k) (info := zhN) hk32 hkb (by omega) (by show 6 ≤ 1048576; decide) H.xk hinf (H.fact 2 rfl)).mono ?_; rintro e w ⟨A17, c17, rfl, H1⟩
 replace H := H.call H1
 clear H1; replace H : Sep _ _ _ _ [_] [_, _, _, _] := H; refine Vp E fun a E => ?_; clear hinf; refine Vv E pkm fun a E => ?_; refine Vv E pkx fun a E => ?_; refine Vv E pkx fun a E => ?_; refine Vv E pka fun a E => ?_; refine Vv E pka fun a E => ?_
 rw [heS] at H
 rw [show Value.slice A17 28 c17 = .slice A17 (zdh gt k).length c17 from by rw [hlS]] at E
 refine Vn ?_; refine Vr ?_; refine Wa (z := [.row 16 fun _ => .int .u8 0]) E H fun b7 w a H E => ?_; refine Vn ?_; refine Vr ?_; refine Wa (z := [.row 12 fun _ => .int .u8 0]) E H fun b8 w a H E => ?_; refine Vn ?_; refine wp_seq_k fun K4 hK4 => ?_; refine Vr ?_; refine Vv E pkm fun a E => ?_; refine Vn ?_; refine wp_block ?_
 have e7 : (fun _ => bv 0) = fun j => bv (cpB (zdh gt k) 0 j) := by funext j; simp [cpB]
 have e8 : (fun _ => bv 0) = fun j => bv (cpB ((zdh gt k).drop 16) 0 j) := by funext j; simp [cpB]
 replace H : Sep X [] w0 w [.blk b8 (ca [.row 12 fun _ => bv 0]) 51, .blk b7 (ca [.row 16 fun _ => bv 0]) 49, .blk b2 (ca [.key k]) 23 ] [TxF A17 c17 (zdh gt k), AtC ⟨b15, 0, none⟩ [.one (.int .u8 115), .one (.int .u8 116), .one (.int .u8 114), .one (.int .u8 101), .one (.int .u8 97), .one (.int .u8 109)], TxF BA bc bs, AtC ⟨1, 0, none⟩ [.row 64 fun i => u32 (gt i)]] := H
 have H2 : Sep X [] w0 w [.blk b8 (ca [.row 12 fun j => bv (cpB ((zdh gt k).drop 16) 0 j)]) 51, .blk b7 (ca [.row 16 fun j => bv (cpB (zdh gt k) 0 j)]) 49, .blk b2 (ca [.key k]) 23 ] [TxF A17 c17 (zdh gt k), AtC ⟨b15, 0, none⟩ [.one (.int .u8 115), .one (.int .u8 116), .one (.int .u8 114), .one (.int .u8 101), .one (.int .u8 97), .one (.int .u8 109)], TxF BA bc bs, AtC ⟨1, 0, none⟩ [.row 64 fun i => u32 (gt i)]] := by rw [← e7, ← e8]; exact H
 clear H e7 e8
 have H := H2
 clear H2
 obtain ⟨ad17, hA17⟩ : ∃ ad, A17 = some ad := by
  cases hq : A17 with
  | some ad => exact ⟨ad, rfl⟩
  | none => have := ((St.now (H.fact 0 rfl)).nil hq).1; omega
 refine zbC (γ := Nat) [1, 5, 7, 8] (fun i => [(20, .int .i64 (i : Int))]) (fun i => [.blk b8 (ca [.row 12 fun j => bv (cpB ((zdh gt k).drop 16) 0 j)]) 51, .blk b7 (ca [.row 16 fun j => bv (cpB (zdh gt k) i j)]) 49, .blk b2 (ca [.key k]) 23 ]) (fun i => [TxF A17 c17 (zdh gt k), AtC ⟨b15, 0, none⟩ [.one (.int .u8 115), .one (.int .u8 116), .one (.int .u8 114), .one (.int .u8 101), .one (.int .u8 97), .one (.int .u8 109)], TxF BA bc bs, AtC ⟨1, 0, none⟩ [.row 64 fun i => u32 (gt i)]]) (fun i => i ≤ 16) (fun i => 16 - i) (0) E H (by repeat (first | exact trivial | refine ⟨rfl, ?_⟩)) (by omega) ?_; clear E H; intro i a w E H hφ; replace E : Env a _ [(20, _), (1, _), (5, _), (7, _), (8, _)] := E; replace H : Sep _ _ _ _ [_, _, _] [_, _, _, _] := H; refine Vr ?_
 refine Vv E pki fun a E => ?_; refine Vn ?_; refine wp_seq_k fun K7 hK7 => ?_; refine zau (d := 21) E rfl ?_ ?_
 ·skip
  clear E; intro c21 E
  have hi : i < 16 := by have := c21; simp only [jS] at this; omega
  refine za7 E rfl ?_; refine wp_skip ?_; refine hK7 _ _ ?_; refine wp_seq_k fun K8 hK8 => ?_; refine wp_block ?_; refine Vr ?_; refine Vv E pkm fun a E => ?_; refine Vv E pka fun a E => ?_; refine Vn ?_; refine zaB ?_; refine Vv E pkm fun a E => ?_; refine Vv E pkm fun a E => ?_; refine Vv E pkm fun a E => ?_; refine Vv E (zb7 (sz := 1) (i := i) hA17 rfl (by kernel_rfl) rfl rfl (by omega) (by omega)) fun a E => ?_; refine Vv E (zc6 (H.fact 0 rfl) (fun _ _ _ => trivial) hA17 rfl rfl (hg (i) (by omega)) (by kernel_rfl)) fun a E => ?_
  refine Vv E (zaY (M := 16) (i := i) rfl (by kernel_rfl) rfl rfl rfl hi) fun a E => ?_; refine Ve E ?_; refine zbe (off := 0) (i := i) (fun j => bv (cpB (zdh gt k) (i + 1) j)) 1 E H rfl rfl rfl hi rfl rfl rfl rfl rfl rfl (by kernel_rfl) (fun j => zmH _ i j) rfl ?_; clear H; intro w H F; replace H : Sep _ _ _ _ [_, _, _] _ := H; refine zdn rfl ?_; clear F; refine hK8 _ _ ?_; refine zaB ?_; refine Vv E (zaK rfl rfl rfl rfl (zdf (by omega) (by omega))) fun a E => ?_; refine Vv E pkm fun a E => ?_; refine za9 ?_
  exact ⟨i + 1, ⟨E.to (by repeat (first | exact trivial | refine ⟨rfl, ?_⟩)), H, by omega⟩, by omega⟩
 ·skip
  clear E; intro c21 E
  obtain rfl : i = 16 := by have := c21; simp only [decide_eq_false_iff_not] at this; omega
  rw [zo8 (zdh gt k) 16] at H
  refine zaN E rfl ?_; refine wp_exit ?_
  repeat (first | refine za4 ?_ | refine za5 ?_ | refine zaW (by decide) ?_)
  refine hK4 _ _ ?_; refine wp_seq_k fun K10 hK10 => ?_; refine Vr ?_; refine Vv E pkm fun a E => ?_; refine Vn ?_; refine wp_block ?_; refine zbC (γ := Nat) [1, 5, 7, 8] (fun i => [(30, .int .i64 (i : Int))]) (fun i => [.blk b8 (ca [.row 12 fun j => bv (cpB ((zdh gt k).drop 16) i j)]) 51, .blk b7 (ca [.row 16 fun j => bv ((zdh gt k).getD j 0)]) 49, .blk b2 (ca [.key k]) 23 ]) (fun i => [TxF A17 c17 (zdh gt k), AtC ⟨b15, 0, none⟩ [.one (.int .u8 115), .one (.int .u8 116), .one (.int .u8 114), .one (.int .u8 101), .one (.int .u8 97), .one (.int .u8 109)], TxF BA bc bs, AtC ⟨1, 0, none⟩ [.row 64 fun i => u32 (gt i)]]) (fun i => i ≤ 12) (fun i => 12 - i) (0) E H (by repeat (first | exact trivial | refine ⟨rfl, ?_⟩)) (by omega) ?_; clear E H
  intro i a w E H hφ; replace E : Env a _ [(30, _), (1, _), (5, _), (7, _), (8, _)] := E; replace H : Sep _ _ _ _ [_, _, _] [_, _, _, _] := H; refine Vr ?_; refine Vv E pki fun a E => ?_; refine Vn ?_; refine wp_seq_k fun K13 hK13 => ?_; refine zau (d := 31) E rfl ?_ ?_
  ·skip
   clear E; intro c31 E
   have hi : i < 12 := by have := c31; simp only [jS] at this; omega
   refine za7 E rfl ?_; refine wp_skip ?_; refine hK13 _ _ ?_; refine wp_seq_k fun K14 hK14 => ?_; refine wp_block ?_; refine Vr ?_; refine Vv E pkm fun a E => ?_; refine Vv E pka fun a E => ?_; refine Vn ?_; refine zaB ?_; refine Vv E pkm fun a E => ?_; refine Vv E pkm fun a E => ?_; refine Vv E pkm fun a E => ?_; refine Vv E (zaK rfl rfl rfl rfl (zdf (by omega) (by omega))) fun a E => ?_; refine Vv E (zb7 (sz := 1) (i := 16 + i) hA17 rfl (by kernel_rfl) rfl rfl (by omega) (by omega)) fun a E => ?_
   refine Vv E (zc6 (H.fact 0 rfl) (fun _ _ _ => trivial) hA17 rfl rfl (hg (16 + i) (by omega)) (by kernel_rfl)) fun a E => ?_; refine Vv E (zaY (M := 12) (i := i) rfl (by kernel_rfl) rfl rfl rfl hi) fun a E => ?_; refine Ve E ?_; refine zbe (off := 0) (i := i) (fun j => bv (cpB ((zdh gt k).drop 16) (i + 1) j)) 0 E H rfl rfl rfl hi rfl rfl rfl rfl rfl rfl (by kernel_rfl) (fun j => by rw [← zuC]; exact zmH _ i j) rfl ?_; clear H; intro w H F; replace H : Sep _ _ _ _ [_, _, _] _ := H; refine zdn rfl ?_; clear F; refine hK14 _ _ ?_; refine zaB ?_; refine Vv E (zaK rfl rfl rfl rfl (zdf (by omega) (by omega))) fun a E => ?_; refine Vv E pkm fun a E => ?_; refine za9 ?_
   exact ⟨i + 1, ⟨E.to (by repeat (first | exact trivial | refine ⟨rfl, ?_⟩)), H, by omega⟩, by omega⟩
  ·skip
   clear E; intro c31 E
   obtain rfl : i = 12 := by have := c31; simp only [decide_eq_false_iff_not] at this; omega
   rw [zo8 ((zdh gt k).drop 16) 12] at H
   refine zaN E rfl ?_; refine wp_exit ?_
   repeat (first | refine za4 ?_ | refine za5 ?_ | refine zaW (by decide) ?_)
   refine hK10 _ _ ?_; refine Vr ?_; refine Vv E (pkl 16 H 1) fun a E => ?_; refine Vv E (pkl 12 H 0) fun a E => ?_; refine Vv E pkm fun a E => ?_; refine Ve E ?_; refine Vc E ?_; refine (zwD (k := bs) (x := zdh gt k) H.xk (H.fact 2 rfl) hbl hSb).mono ?_; rintro e w ⟨A45, c45, rfl, H1⟩
   replace H := H.call H1
   clear H1; replace H : Sep _ _ _ _ [_, _, _, _] [_, _, _, _] := H; refine Vp E fun a E => ?_; refine Vv E pkm fun a E => ?_; refine Vv E pkx fun a E => ?_; refine Vv E pkx fun a E => ?_; refine Vv E pka fun a E => ?_; refine Vv E pka fun a E => ?_; refine Vn ?_; refine Vr ?_; refine Vv E pkm fun a E => ?_; refine Vv E pka fun a E => ?_; refine Vn ?_; refine wp_ret ?_
   repeat (first | refine zat ?_ | refine zap ?_)
   refine zf8 rfl E (zbT rfl) ?_
   exact ⟨A45, c45, rfl, (Sep.keepLR (L := [_]) (L' := [_, _, _]) (R := []) (R' := []) (H.refacts (R' := []) (jK _)))⟩
theorem zwF {HA TA : Option Addr} {hc tc : Nat} {k hid : List Nat} {ts : List (List Nat)} {tm : Nat → zav.μ} {gt : Nat → Nat} (hk32 : k.length = 32) (hkb : ∀ x ∈ k, x < 256) (hhl : hid.length ≤ 100000000) (hts : ts.length ≤ 1000) {X : List Nat} {w0 : World} (hX : ∀ k ∈ X, k < w0.heap.size) (hH : St (TxF HA hc hid) w0 X) (hL : St (LiF zav TA tc ts tm) w0 X) (hG : St (AtC ⟨1, 0, none⟩ [.row 64 fun i => u32 (gt i)]) w0 X) :
  Calls Tryz.prog 38 #[.agg (ca [.key k]), .slice HA hid.length hc, .slice TA ts.length tc] w0 fun e w' => ∃ A' c', e = .returned (.tuple #[.slice A' (zgL gt (zem gt k) hid ts).1.length c', .bool (decide (okT ts))]) ∧ Sep X [] w0 w' [] [TxF A' c' (zgL gt (zem gt k) hid ts).1] := by
 have hlM : (zem gt k).length = 32 := by with_unfolding_all exact zeG _ _ _ _
 have heM : zie gt k zzP 32 = zem gt k := by with_unfolding_all rfl
 have halb : ∀ x ∈ (zcp ts ++ beL 4 ts.length), x < 256 := fun x hx => by
  rcases List.mem_append.1 hx with h1 | h1
  ·exact zjP ts (fun t ht => by
    obtain ⟨q, hq⟩ := List.mem_iff_getElem?.1 ht
    obtain ⟨_, _, _, h3⟩ := LiF.get hL hq
    exact (St.now h3 : TxF _ _ _ _).byt) x h1
  ·exact zmS _ _ x h1
 refine zaz Tryz.ntmps38 Tryz.func38 rfl rfl fun a E => ?_; replace E : Env a _ [(0, _), (1, _), (2, _)] := E
 have H : Sep X [] w0 w0 [] [(TxF HA hc hid), (LiF zav TA tc ts tm), (AtC ⟨1, 0, none⟩ [.row 64 fun i => u32 (gt i)])] := Sep.start hX (jJ.2 ⟨hH, jJ.2 ⟨hL, jJ.2 ⟨hG, fun _ h => by cases h⟩⟩⟩)
 refine Vr ?_; refine Wb E H fun b3 w a H E => ?_; refine Vv E pka fun a E => ?_; refine Vv E pka fun a E => ?_; refine Vn ?_; refine Vr ?_; refine Vv E pkm fun a E => ?_; refine Ve E ?_; refine Vc E ?_; refine (zn5 (m0 := []) (ts := ts) (by show 0 ≤ 100000000; decide) (by omega) H.xk zbw (H.fact 1 rfl)).mono ?_; rintro e w ⟨A15, c15, rfl, H1⟩
 replace H := H.call H1
 clear H1; replace H : Sep _ _ _ _ [_, _] [_, _, _] := H; refine Vp E fun a E => ?_; refine Vv E pkm fun a E => ?_; refine Vv E pkx fun a E => ?_; refine Vv E pkx fun a E => ?_; refine Vv E pka fun a E => ?_; refine Vv E pka fun a E => ?_; refine Vn ?_; refine wp_seq_k fun K2 hK2 => ?_; refine Vr ?_; refine Vv E pkm fun a E => ?_; refine Vv E pki fun a E => ?_; refine Vn ?_; refine zau (d := 19) E rfl ?_ ?_
 ·skip
  clear E; intro c19 E
  have hok : ¬ okT ts := fun h => by
   rw [zfw h] at c19
   cases c19
  have htv : zeg [] ts = ([], 4) := ziJ hok
  have htr : (zgL gt (zem gt k) hid ts) = ([], 4) := by unfold zgL; rw [if_neg hok]
  refine za7 E rfl ?_; refine Vr ?_; refine Vv E pka fun a E => ?_; refine Vv E pka fun a E => ?_; refine Vn ?_; refine wp_ret ?_
  repeat (first | refine zat ?_ | refine zap ?_)
  refine zeO rfl E (zbT rfl) (zbT rfl) ?_
  rw [htr, decide_eq_false hok]
  exact ⟨none, 0, rfl, ((H.know zbw).refacts (jJ.2 ⟨zbw, jK _⟩)).popL.popL⟩
 ·skip
  clear E; intro c19 E
  have hok : okT ts := by
   refine Classical.byContradiction fun h => ?_
   rw [ziJ h] at c19
   cases c19
  have htv : zeg [] ts = (zcp ts, 0) := zfw hok
  have htr : (zgL gt (zem gt k) hid ts) = (zgs gt (zem gt k) hid ts, 0) := by unfold zgL; rw [if_pos hok]
  rw [htv] at E H
  simp only at E H
  have hpsf : [(zcp ts ++ beL 4 ts.length), hid].flatten.length ≤ 10000000000 := by
   rw [List.flatten_cons, List.flatten_cons, List.flatten_nil, List.append_nil, jQ, jQ, zfj]; have := zeM ts hok
   omega
  refine zaN E rfl ?_; refine wp_skip ?_; refine hK2 _ _ ?_; refine Vr ?_; refine Vv E pkm fun a E => ?_; refine Vv E pkm fun a E => ?_; refine Vv E pkn fun a E => ?_; refine Vv E (zd7 rfl rfl (by kernel_rfl) (by kernel_rfl) (zrS (by omega) (by omega))) fun a E => ?_; refine Ve E ?_; refine Vc E ?_; refine (ziI 4 ts.length (by decide) (by omega) H.xk).mono ?_; rintro e w ⟨A24, c24, rfl, H1⟩
  replace H := H.call H1
  clear H1; replace H : Sep _ _ _ _ [_, _] [_, _, _, _] := H; refine Vp E fun a E => ?_; refine Ve E ?_; refine zdO (k := zcp ts) (m := beL 4 ts.length) 0 E H (H.fact 0 rfl) rfl rfl rfl rfl ⟨Tryz.underlying24, by kernel_rfl⟩ (by rw [zfj]; have := zeM ts hok; omega) ?_; clear H; intro A25 c25 w H F; replace H : Sep _ _ _ _ [_, _] _ := H; refine Vp E fun a E => ?_; clear F; refine Vv E pka fun a E => ?_; refine Vn ?_; refine Vr ?_; refine Vv E (pkl 32 H 1) fun a E => ?_; refine Ve E ?_
  refine zaP (sz := 1) (z := [.one (.int .u8 0), .one (.int .u8 0), .one (.int .u8 0)]) E H rfl Tryz.underlying24 (by kernel_rfl) (by decide) (by kernel_rfl) ⟨_, [.one _], 0, _, rfl, rfl, rfl, rfl, ⟨_, [.one _], 1, _, rfl, rfl, rfl, rfl, ⟨_, [.one _], 2, _, rfl, rfl, rfl, rfl, rfl⟩⟩⟩ ?_; clear H; intro b28 w H _; refine Vp E fun a E => ?_; refine Ve E ?_; refine zeA 0 E H rfl rfl Tryz.underlying24 Tryz.underlying5 rfl rfl ?_; clear H; intro w H F; replace H : Sep _ _ _ _ [_, _] [_, _, _, _, _] := H; refine Vp E fun a E => ?_; clear F; refine Ve E ?_; refine Vc E ?_
  have hinf := zbP (k := zzP) (c := 3) (H.fact 0 rfl) rfl (by show 3 ≤ 3; decide) (by show 3 ≤ _; decide) (by decide)
  refine (zgO (n := 32) (k := k) (info := zzP) hk32 hkb (by omega) (by show 3 ≤ 1048576; decide) H.xk hinf (H.fact 4 rfl)).mono ?_; rintro e w ⟨A30, c30, rfl, H1⟩
  replace H := H.call H1
  clear H1; replace H : Sep _ _ _ _ [_, _] [_, _, _, _, _, _] := H; refine Vp E fun a E => ?_; clear hinf; refine Vv E pkm fun a E => ?_; refine Vv E pkx fun a E => ?_; refine Vv E pkx fun a E => ?_; refine Vv E pka fun a E => ?_; refine Vv E pka fun a E => ?_
  rw [heM] at H
  rw [show Value.slice A30 32 c30 = .slice A30 (zem gt k).length c30 from by rw [hlM]] at E
  refine Vn ?_; refine wp_seq_k fun K7 hK7 => ?_
  replace H := H.rowTx (Sep.new_x H) (by rw [jQ, zfj]; have := zeM ts hok; omega) halb
  replace H : Sep _ _ _ _ [_] [_, _, _, _, _, _, _] := H; refine zaB ?_; refine Vv E pkm fun a E => ?_; refine Vv E pkm fun a E => ?_; refine Vv E pkm fun a E => ?_; refine Ve E ?_; refine zaP (sz := 1) (z := [.one (.slice none 0 0), .one (.slice none 0 0)]) E H rfl Tryz.underlying25 (by kernel_rfl) (by decide) (by kernel_rfl) ⟨_, [.one _], 0, _, rfl, rfl, rfl, rfl, ⟨_, [.one _], 1, _, rfl, rfl, rfl, rfl, rfl⟩⟩ ?_; clear H; intro b36 w H _; refine Vp E fun a E => ?_; refine Ve E ?_; refine Vc E ?_
  have HB := H.lend 0 rfl
  have hli := zes (T := zav) (its := [(((zcp ts ++ beL 4 ts.length), (A25, c25)) : List Nat × zav.μ), (hid, (HA, hc))]) (c := 2) (xs := [(zcp ts ++ beL 4 ts.length), hid]) (HB.fact 0 rfl) zid (zaX (its := [_]) (q := ((hid, (HA, hc)) : List Nat × zav.μ)) (zaX (its := []) (q := (((zcp ts ++ beL 4 ts.length), (A25, c25)) : List Nat × zav.μ)) zb3 (HB.fact 1 rfl)) (HB.fact 5 rfl)) rfl (by show 2 ≤ 2; decide) (by show 2 ≤ _; decide)
  have H2 := HB.refacts (R' := [_, _, _]) (jJ.2 ⟨HB.fact 2 rfl, jJ.2 ⟨hli, jJ.2 ⟨HB.fact 7 rfl, jK _⟩⟩⟩)
  clear HB hli; refine (zmG (key := zem gt k) (ps := [(zcp ts ++ beL 4 ts.length), hid]) (by omega) hpsf H2.xk (H2.fact 0 rfl) (H2.fact 1 rfl) (H2.fact 2 rfl)).mono ?_; rintro e w ⟨rfl, H1⟩
  have F := H1.frm
  replace H := H.grow F
  refine Vp E fun a E => ?_; clear F; clear H2; refine Wa (z := [.key []]) E H fun b12 w a H E => ?_; refine Ws 0 E H fun w H => ?_; replace H : Sep _ _ _ _ [_, _, _] _ := H; refine hK7 _ _ ?_; refine Vr ?_; refine Vv E (zqu (N := 32) (sz := 1) (hi := 16) rfl (by kernel_rfl) rfl rfl rfl (by omega)) fun a E => ?_; refine Vv E pka fun a E => ?_
  refine Vv E pka fun a E => ?_; refine Vn ?_; refine wp_ret ?_
  repeat (first | refine zat ?_ | refine zap ?_)
  refine zeO rfl E (zbT rfl) (zbT rfl) ?_
  have hT := zdN (hi := 16) (zbP (k := zer gt (zem gt k) [(zcp ts ++ beL 4 ts.length), hid]) (c := 32) ((H.lend 0 rfl).fact 0 rfl) (by rw [zcO, zbo (zbt _ _ _)]) (by rw [zbt]; omega) (by rw [zbt]; omega) (zcZ _ _ _)) (by rw [zbt]; omega)
  rw [show (zer gt (zem gt k) [(zcp ts ++ beL 4 ts.length), hid]).take 16 = zgs gt (zem gt k) hid ts from by with_unfolding_all rfl] at hT
  rw [htr, decide_eq_true hok]
  exact ⟨some ⟨b12, 0, none⟩, 32, by simp only [zhm], (((H.lend 0 rfl).know hT).refacts (jJ.2 ⟨((H.lend 0 rfl).know hT).fact 0 rfl, jK _⟩)).popL.popL⟩
theorem zuD {BA TA : Option Addr} {bc tc : Nat} {k bs : List Nat} {ts : List (List Nat)} {tm : Nat → zav.μ} {gt : Nat → Nat} (hk32 : k.length = 32) (hkb : ∀ x ∈ k, x < 256) (hts : ts.length ≤ 1000) {X : List Nat} {w0 : World} (hX : ∀ k ∈ X, k < w0.heap.size) (hB : St (TxF BA bc bs) w0 X) (hL : St (LiF zav TA tc ts tm) w0 X) (hG : St (AtC ⟨1, 0, none⟩ [.row 64 fun i => u32 (gt i)]) w0 X) :
  Calls Tryz.prog 25 #[.agg (ca [.key k]), .slice BA bs.length bc, .slice TA ts.length tc] w0 fun e w' => ∃ A' c', e = .returned (.tuple #[.slice A' (zcN gt k bs ts).1.length c', .int .i64 (zcN gt k bs ts).2]) ∧ Sep X [] w0 w' [] [TxF A' c' (zcN gt k bs ts).1] := by
 have hbl := hB.now.len
 have hbc := hB.now.cap
 refine zaz Tryz.ntmps25 Tryz.func25 rfl rfl fun a E => ?_; replace E : Env a _ [(0, _), (1, _), (2, _)] := E
 have H : Sep X [] w0 w0 [] [(TxF BA bc bs), (LiF zav TA tc ts tm), (AtC ⟨1, 0, none⟩ [.row 64 fun i => u32 (gt i)])] := Sep.start hX (jJ.2 ⟨hB, jJ.2 ⟨hL, jJ.2 ⟨hG, fun _ h => by cases h⟩⟩⟩)
 refine Vr ?_; refine Wb E H fun b3 w a H E => ?_; refine Vv E pka fun a E => ?_; refine Vv E pka fun a E => ?_; refine Vn ?_; refine wp_seq_k fun K1 hK1 => ?_; refine Vr ?_; refine Vv E pkm fun a E => ?_; refine Vv E pkn fun a E => ?_; refine Vv E pki fun a E => ?_; refine Vn ?_; refine zau (d := 13) E rfl ?_ ?_
 ·skip
  clear E; intro c13 E
  have hlt : bs.length < 16 := by have := c13; simp only [jS] at this; omega
  have hor : zcN gt k bs ts = ([], 2) := by unfold zcN; rw [if_pos hlt]
  refine za7 E rfl ?_; refine Vr ?_; refine Vv E pka fun a E => ?_; refine Vv E pka fun a E => ?_; refine Vn ?_; refine wp_ret ?_
  repeat (first | refine zat ?_ | refine zap ?_)
  refine zeO rfl E (zbT rfl) (zbT rfl) ?_
  rw [hor]
  exact ⟨none, 0, rfl, ((H.refacts (R' := [_]) (jJ.2 ⟨zbw, jK _⟩))).popL⟩
 ·skip
  clear E; intro c13 E
  have hlt : ¬ bs.length < 16 := by have := c13; simp only [decide_eq_false_iff_not] at this; omega
  refine zaN E rfl ?_; refine wp_skip ?_; refine hK1 _ _ ?_; refine wp_seq_k fun K4 hK4 => ?_; refine Vr ?_; refine Vv E pkm fun a E => ?_; refine Vv E pkn fun a E => ?_; refine Vv E pki fun a E => ?_; refine Vn ?_; refine zau (d := 16) E rfl ?_ ?_
  ·skip
   clear E; intro c16 E
   have hgt : 1048592 < bs.length := by have := c16; simp only [jS] at this; omega
   have hor : zcN gt k bs ts = ([], 4) := by unfold zcN; rw [if_neg hlt, if_pos hgt]
   refine za7 E rfl ?_; refine Vr ?_; refine Vv E pka fun a E => ?_; refine Vv E pka fun a E => ?_; refine Vn ?_; refine wp_ret ?_
   repeat (first | refine zat ?_ | refine zap ?_)
   refine zeO rfl E (zbT rfl) (zbT rfl) ?_
   rw [hor]
   exact ⟨none, 0, rfl, ((H.refacts (R' := [_]) (jJ.2 ⟨zbw, jK _⟩))).popL⟩
  ·skip
   clear E; intro c16 E
   have hgt : ¬ 1048592 < bs.length := by have := c16; simp only [decide_eq_false_iff_not] at this; omega
   obtain ⟨n, hn⟩ : ∃ n, bs.length = n + 16 := ⟨bs.length - 16, by omega⟩
   have hbt : (bs.take n).length = n := by rw [List.length_take]; omega
   have hn16 : bs.length - 16 = n := by omega
   refine zaN E rfl ?_; refine wp_skip ?_; refine hK4 _ _ ?_; refine wp_seq_k fun K7 hK7 => ?_
   replace H := H.know (zdN (hi := n) (H.fact 0 rfl) (by omega))
   replace H : Sep _ _ _ _ [_] [_, _, _, _] := H; refine zaB ?_; refine Vv E pkm fun a E => ?_; refine Vv E pkm fun a E => ?_; refine Vv E pkn fun a E => ?_; refine Vv E (zaK rfl rfl rfl rfl (zdf (by omega) (by omega))) fun a E => ?_
   rw [show ((bs.length : Nat) : Int) - 16 = ((n : Nat) : Int) from by omega] at E
   refine Vv E (zeq (sz := 1) (hi := n) rfl (by kernel_rfl) rfl rfl rfl (by omega)) fun a E => ?_
   rw [sub_zero, show Value.slice BA n bc = .slice BA (bs.take n).length bc from by rw [hbt]] at E
   refine Ve E ?_; refine Vc E ?_; refine (zwE (k := (bs.take n)) H.xk (H.fact 0 rfl)).mono ?_; rintro e w ⟨A22, c22, rfl, H1⟩
   replace H := H.call H1
   clear H1; replace H : Sep _ _ _ _ [_] [_, _, _, _, _] := H; refine Vp E fun a E => ?_; refine Vv E pka fun a E => ?_; refine hK7 _ _ ?_; refine Vr ?_; refine Vv E (pkl 32 H 0) fun a E => ?_; refine Vv E pkm fun a E => ?_; refine Vv E pkm fun a E => ?_; refine Ve E ?_; refine Vc E ?_; refine (zwF (k := k) (hid := (bs.take n)) (ts := ts) hk32 hkb (by rw [hbt]; omega) hts H.xk (H.fact 0 rfl) (H.fact 3 rfl) (H.fact 4 rfl)).mono ?_; rintro e w ⟨A27, c27, rfl, H1⟩
   replace H := H.call H1
   clear H1; replace H : Sep _ _ _ _ [_] [_, _, _, _, _, _] := H; refine Vp E fun a E => ?_; refine Vv E pkm fun a E => ?_; refine Vv E pkx fun a E => ?_; refine Vv E pkx fun a E => ?_; refine Vv E pka fun a E => ?_; refine Vv E pka fun a E => ?_; refine Vn ?_; refine wp_seq_k fun K9 hK9 => ?_; refine Vr ?_; refine Vv E pkm fun a E => ?_; refine Vv E (zkf rfl rfl) fun a E => ?_; refine Vn ?_; refine zau (d := 31) E rfl ?_ ?_
   ·skip
    clear E; intro c31 E
    have hok : ¬ okT ts := by simpa using c31
    have hor : zcN gt k bs ts = ([], 4) := by unfold zcN; rw [if_neg hlt, if_neg hgt, if_pos hok]
    refine za7 E rfl ?_; refine Vr ?_; refine Vv E pka fun a E => ?_; refine Vv E pka fun a E => ?_; refine Vn ?_; refine wp_ret ?_
    repeat (first | refine zat ?_ | refine zap ?_)
    refine zeO rfl E (zbT rfl) (zbT rfl) ?_
    rw [hor]
    exact ⟨none, 0, rfl, ((H.refacts (R' := [_]) (jJ.2 ⟨zbw, jK _⟩))).popL⟩
   ·skip
    clear E; intro c31 E
    have hok : okT ts := by simpa using c31
    have htr : zgL gt (zem gt k) (bs.take n) ts = (zgs gt (zem gt k) (bs.take n) ts, 0) := by unfold zgL; rw [if_pos hok]
    rw [htr] at E H
    simp only at E H
    refine zaN E rfl ?_; refine wp_skip ?_; refine hK9 _ _ ?_; refine wp_seq_k fun K12 hK12 => ?_; refine Vr ?_; refine Vv E pkm fun a E => ?_; refine Vv E pkm fun a E => ?_; refine Vv E pkm fun a E => ?_; refine Vv E pkn fun a E => ?_; refine Vv E (zaK rfl rfl rfl rfl (zdf (by omega) (by omega))) fun a E => ?_
    rw [show ((bs.length : Nat) : Int) - 16 = ((n : Nat) : Int) from by omega] at E
    obtain ⟨A37, c37, h37, hT37⟩ := zeE (lo := n) (H.fact 3 rfl) (by omega)
    refine Vv E (zdS (sz := 1) (lo := n) rfl (by kernel_rfl) rfl rfl rfl (by omega)) fun a E => ?_
    rw [h37] at E
    replace H := H.know hT37
    clear h37 hT37; replace H : Sep _ _ _ _ _ [_, _, _, _, _, _, _] := H; refine Ve E ?_; refine Vc E ?_; refine (zA3 (l := zgs gt (zem gt k) (bs.take n) ts) (l' := (bs.drop n)) (H.fact 1 rfl) (H.fact 0 rfl)).mono ?_; rintro e w ⟨rfl, rfl⟩; refine Vp E fun a E => ?_; refine Vv E (zkf rfl rfl) fun a E => ?_; refine Vn ?_; refine zau (d := 39) E rfl ?_ ?_
    ·skip
     clear E; intro c39 E
     have hne : ¬ zgs gt (zem gt k) (bs.take n) ts = (bs.drop n) := by simpa using c39
     have hor : zcN gt k bs ts = ([], 5) := by unfold zcN; rw [if_neg hlt, if_neg hgt, if_neg (fun h => h hok), hn16, if_neg hne]
     refine za7 E rfl ?_; refine Vr ?_; refine Vv E pka fun a E => ?_; refine Vv E pka fun a E => ?_; refine Vn ?_; refine wp_ret ?_
     repeat (first | refine zat ?_ | refine zap ?_)
     refine zeO rfl E (zbT rfl) (zbT rfl) ?_
     rw [hor]
     exact ⟨none, 0, rfl, ((H.refacts (R' := [_]) (jJ.2 ⟨zbw, jK _⟩))).popL⟩
    ·skip
     clear E; intro c39 E
     have heq : zgs gt (zem gt k) (bs.take n) ts = (bs.drop n) := by simpa using c39
     have hor : zcN gt k bs ts = (zeS (zdh gt k) (bs.take n), 0) := by unfold zcN; rw [if_neg hlt, if_neg hgt, if_neg (fun h => h hok), hn16, if_pos heq]
     refine zaN E rfl ?_; refine wp_skip ?_; refine hK12 _ _ ?_; refine Vr ?_; refine Vv E (pkl 32 H 0) fun a E => ?_; refine Vv E pkm fun a E => ?_; refine Ve E ?_; refine Vc E ?_; refine (zo9 (k := k) (bs := (bs.take n)) hk32 hkb (by rw [hbt]; omega) H.xk (H.fact 2 rfl) (H.fact 6 rfl)).mono ?_; rintro e w ⟨A42, c42, rfl, H1⟩
     replace H := H.call H1
     clear H1; replace H : Sep _ _ _ _ [_, _] [_, _, _, _, _, _, _] := H; refine Vp E fun a E => ?_; refine Vv E pka fun a E => ?_; refine Vv E pka fun a E => ?_; refine Vn ?_; refine wp_ret ?_
     repeat (first | refine zat ?_ | refine zap ?_)
     refine zeO rfl E (zbT rfl) (zbT rfl) ?_
     rw [hor]
     have hT := H.rowTx (Sep.new_x H) (by rw [zfx]; omega) (zhn _ _)
     exact ⟨A42, c42, rfl, (hT.refacts (jJ.2 ⟨hT.fact 0 rfl, jK _⟩)).popL⟩
end
section
open Go.RowKit
theorem zgk (k : List Nat) : ca [.key k] = ca [.row 32 fun j => bv (k.getD j 0)] := by rw [zcM, zjQ]
theorem zwG (x : List Nat) : (fun j => bv (([] : List Nat).getD j 0)) = fun j => bv (cpB x 0 j) := by funext j; simp [cpB]
theorem zwH {x : List Nat} {i : Nat} (h : x.length ≤ i) : (fun j => bv (cpB x i j)) = fun j => bv (cpB x (i + 1) j) := by
 funext j
 unfold cpB
 congr 1
 by_cases h1 : j < i
 ·rw [if_pos h1, if_pos (by omega)]
 ·rw [if_neg h1]
  split
  ·rw [jR, List.getElem?_eq_none (by omega)]; rfl
  ·rfl
section
variable {X : List Nat} {w0 : World} {k u : List Nat}
theorem zuE (hX : ∀ i ∈ X, i < w0.heap.size) (hk : ∀ x ∈ k, x < 256) (hu : ∀ x ∈ u, x < 256) :
  Calls Tryz.prog 29 #[.agg (ca [.key k]), .agg (ca [.key u])] w0 fun e w' => e = .returned (.agg (ca [.key (zbu k u)])) ∧ Sep X [] w0 w' [] [] := by
 rw [zcM, zcM]
 refine (znJ (fun i => k.getD i 0) (fun i => u.getD i 0) (fun i _ => zc2 hk i) (fun i _ => zc2 hu i) w0).mono ?_
 rintro e w' ⟨rfl, hb⟩
 exact ⟨by rw [zhp]; rfl, zmE hX hb⟩
theorem zn6 (hX : ∀ i ∈ X, i < w0.heap.size) (hk : ∀ x ∈ k, x < 256) :
  Calls Tryz.prog 19 #[.agg (ca [.key k])] w0 fun e w' => e = .returned (.agg (ca [.key (zdk k)])) ∧ Sep X [] w0 w' [] [] := by
 rw [zcM]
 refine (ztH (fun i => k.getD i 0) (fun i _ => zc2 hk i) w0).mono ?_
 rintro e w' ⟨rfl, hb⟩
 exact ⟨by rw [zhp]; rfl, zmE hX hb⟩
end
attribute [local irreducible] zer zie zkG zbu zdk zc3 zcN zeS zgs zb5 zcw zei zgM
theorem zqF {A : Option Addr} {c : Nat} {b : List Nat} {X : List Nat} {w0 : World} (hX : ∀ k ∈ X, k < w0.heap.size) (hb : St (TxF A c b) w0 X) :
  Calls Tryz.prog 24 #[.slice A b.length c] w0 fun e w' => e = .returned (.agg (ca [.key b])) ∧ Sep X [] w0 w' [] [] := by
 have hbl := hb.now.len
 refine zaz Tryz.ntmps24 Tryz.func24 rfl rfl fun a E => ?_; replace E : Env a _ [(0, _)] := E
 have H : Sep X [] w0 w0 [] [(TxF A c b)] := Sep.start hX (jJ.2 ⟨hb, fun _ h => by cases h⟩)
 refine Vr ?_; refine Wa (z := [.key []]) E H fun b2 w a H E => ?_; refine Vn ?_; refine Vr ?_; refine Wa (z := [.key []]) E H fun b3 w a H E => ?_; refine Vn ?_; refine wp_seq_k fun K2 hK2 => ?_; refine Vr ?_; refine Vv E pkm fun a E => ?_; refine Vn ?_; refine wp_block ?_
 have H2 : Sep X [] w0 w [.blk b3 (ca [.row 32 fun j => bv (cpB b 0 j)]) 23, .blk b2 (ca [.key []]) 23 ] [TxF A c b] := by
  rw [← zwG, ← zgk]
  exact H
 clear H
 have H := H2
 clear H2; refine zbC (γ := Nat) [0, 2, 3] (fun i => [(5, .int .i64 (i : Int))]) (fun i => [.blk b3 (ca [.row 32 fun j => bv (cpB b i j)]) 23, .blk b2 (ca [.key []]) 23 ]) (fun i => [TxF A c b]) (fun i => i ≤ 32) (fun i => 32 - i) (0) E H (by repeat (first | exact trivial | refine ⟨rfl, ?_⟩)) (by omega) ?_; clear E H; intro i a w E H hφ; replace E : Env a _ [(5, _), (0, _), (2, _), (3, _)] := E; replace H : Sep _ _ _ _ [_, _] [_] := H; refine Vr ?_; refine Vv E pki fun a E => ?_; refine Vn ?_; refine wp_seq_k fun K5 hK5 => ?_; refine zau (d := 6) E rfl ?_ ?_
 ·skip
  clear E; intro c6 E
  have hi : i < 32 := by have := c6; simp only [jS] at this; omega
  refine za7 E rfl ?_; refine wp_skip ?_; refine hK5 _ _ ?_; refine wp_seq_k fun K6 hK6 => ?_; refine wp_block ?_; refine Vr ?_; refine Vv E pkm fun a E => ?_; refine Vv E pka fun a E => ?_; refine Vn ?_; refine Vr ?_; refine Vv E pkm fun a E => ?_; refine Vv E pkm fun a E => ?_; refine Vv E pkn fun a E => ?_; refine Vv E pki fun a E => ?_; refine Vn ?_; refine zau (d := 11) E rfl ?_ ?_
  ·skip
   clear E; intro c11 E
   have hi2 : i < b.length := by have := c11; simp only [jS] at this; omega
   obtain ⟨ad, hA⟩ : ∃ ad, A = some ad := by
    cases hq : A with
    | some ad => exact ⟨ad, rfl⟩
    | none => have := ((St.now (H.fact 0 rfl)).nil hq).1; omega
   have hg : b[i]? = some (b.getD i 0) := by rw [jR, jP hi2]; rfl
   refine za7 E rfl ?_; refine zaB ?_; refine Vv E pkm fun a E => ?_; refine Vv E pkm fun a E => ?_; refine Vv E pkm fun a E => ?_; refine Vv E (zb7 (sz := 1) (i := i) hA rfl (by kernel_rfl) rfl rfl (by omega) (by omega)) fun a E => ?_; refine Vv E (zc6 (H.fact 0 rfl) (fun _ _ _ => trivial) hA rfl rfl hg (by kernel_rfl)) fun a E => ?_; refine Vv E (zaY (M := 32) (i := i) rfl (by kernel_rfl) rfl rfl rfl hi) fun a E => ?_; refine Ve E ?_; refine zbe (off := 0) (i := i) (fun j => bv (cpB b (i + 1) j)) 0 E H rfl rfl rfl hi rfl rfl rfl rfl rfl rfl (by kernel_rfl) (fun j => zmH _ i j) rfl ?_; clear H; intro w H F
   replace H : Sep _ _ _ _ [_, _] _ := H; refine zdn rfl ?_; clear F; refine hK6 _ _ ?_; refine zaB ?_; refine Vv E (zaK rfl rfl rfl rfl (zdf (by omega) (by omega))) fun a E => ?_; refine Vv E pkm fun a E => ?_; refine za9 ?_
   exact ⟨i + 1, ⟨E.to (by repeat (first | exact trivial | refine ⟨rfl, ?_⟩)), H, by omega⟩, by omega⟩
  ·skip
   clear E; intro c11 E
   have hge : b.length ≤ i := by have := c11; simp only [decide_eq_false_iff_not] at this; omega
   rw [zwH hge] at H
   refine zaN E rfl ?_; refine wp_skip ?_; refine hK6 _ _ ?_; refine zaB ?_; refine Vv E (zaK rfl rfl rfl rfl (zdf (by omega) (by omega))) fun a E => ?_; refine Vv E pkm fun a E => ?_; refine za9 ?_
   exact ⟨i + 1, ⟨E.to (by repeat (first | exact trivial | refine ⟨rfl, ?_⟩)), H, by omega⟩, by omega⟩
 ·skip
  clear E; intro c6 E
  obtain rfl : i = 32 := by have := c6; simp only [decide_eq_false_iff_not] at this; omega
  rw [zo8 b 32, ← zgk b] at H
  refine zaN E rfl ?_; refine wp_exit ?_
  repeat (first | refine za4 ?_ | refine za5 ?_ | refine zaW (by decide) ?_)
  refine hK2 _ _ ?_; refine Vr ?_; refine Vv E (pkl 32 H 0) fun a E => ?_; refine Ws 1 E H fun w H => ?_; replace H : Sep _ _ _ _ [_, _] _ := H; refine Vn ?_; refine wp_ret ?_
  repeat (first | refine zat ?_ | refine zap ?_)
  refine zf8 rfl E (by exact zhT (n := 32) H 1 rfl rfl rfl (by kernel_rfl)) ?_
  exact ⟨rfl, H.keepLR (L := []) (R := [])⟩
theorem zjT {s : ByteArray} {TA : Option Addr} {tc : Nat} {k lab : List Nat} {ts : List (List Nat)} {tm : Nat → zav.μ} {gt : Nat → Nat} (hs : s.data.toList.map UInt8.toNat = lab) (hlab : lab.length ≤ 100) (hk32 : k.length = 32) (hkb : ∀ x ∈ k, x < 256) (hts : zn0 ts) {X : List Nat} {w0 : World} (hX : ∀ k ∈ X, k < w0.heap.size) (hL : St (LiF zav TA tc ts tm) w0 X) (hG : St (AtC ⟨1, 0, none⟩ [.row 64 fun i => u32 (gt i)]) w0 X) :
  Calls Tryz.prog 18 #[.agg (ca [.key k]), .string s, .slice TA ts.length tc] w0 fun e w' => e = .returned (.tuple #[.agg (ca [.key (zkG gt k lab ts)]), .int .i64 0]) ∧ Sep X [] w0 w' [] [] := by
 have hst := hts.1
 have hsl := zhO ts hts.2
 have hs2 : (zcp [zgt, lab]).length = 11 + lab.length := by
  show ((beL 2 zgt.length ++ zgt) ++ ((beL 2 lab.length ++ lab) ++ [])).length = _
  rw [jQ, jQ, jQ, jQ, zeh, zeh]
  show 2 + 7 + (2 + lab.length + 0) = _
  omega
 have hln : (zcp (zgt :: lab :: ts)).length ≤ 1048576 := by rw [← zqx, jQ]; omega
 have hok3 : okT (zgt :: lab :: ts) := fun t ht => by
  rcases List.mem_cons.1 ht with rfl | ht
  ·show 7 ≤ 65535; decide
  ·rcases List.mem_cons.1 ht with rfl | ht
   ·omega
   ·exact zn1 hts t ht
 have hlb : ∀ x ∈ lab, x < 256 := fun x hx => by
  rw [← hs] at hx
  obtain ⟨b, _, rfl⟩ := List.mem_map.1 hx
  exact b.toNat_lt
 have halb : ∀ x ∈ zcp (zgt :: lab :: ts), x < 256 := zjP (zgt :: lab :: ts) (fun t ht => by
  rcases List.mem_cons.1 ht with rfl | ht
  ·decide
  ·rcases List.mem_cons.1 ht with rfl | ht
   ·exact hlb
   ·obtain ⟨q, hq⟩ := List.mem_iff_getElem?.1 ht
    obtain ⟨_, _, _, h3⟩ := LiF.get hL hq
    exact (St.now h3 : TxF _ _ _ _).byt)
 have hX32 : (zkG gt k lab ts).length = 32 := zmD _ _ _ _
 refine zaz Tryz.ntmps18 Tryz.func18 rfl rfl fun a E => ?_; replace E : Env a _ [(0, _), (1, _), (2, _)] := E
 have H : Sep X [] w0 w0 [] [(LiF zav TA tc ts tm), (AtC ⟨1, 0, none⟩ [.row 64 fun i => u32 (gt i)])] := Sep.start hX (jJ.2 ⟨hL, jJ.2 ⟨hG, fun _ h => by cases h⟩⟩)
 refine Vr ?_; refine Wb E H fun b3 w a H E => ?_; refine Wa (z := [.key []]) E H fun b6 w a H E => ?_; refine Vv E pka fun a E => ?_; refine Vn ?_; refine Vr ?_; refine Ve E ?_
 refine zaP (sz := 1) (z := [.one (.int .u8 0), .one (.int .u8 0), .one (.int .u8 0), .one (.int .u8 0), .one (.int .u8 0), .one (.int .u8 0), .one (.int .u8 0)]) E H rfl Tryz.underlying24 (by kernel_rfl) (by decide) (by kernel_rfl) ⟨_, [.one _], 0, _, rfl, rfl, rfl, rfl, ⟨_, [.one _], 1, _, rfl, rfl, rfl, rfl, ⟨_, [.one _], 2, _, rfl, rfl, rfl, rfl, ⟨_, [.one _], 3, _, rfl, rfl, rfl, rfl, ⟨_, [.one _], 4, _, rfl, rfl, rfl, rfl, ⟨_, [.one _], 5, _, rfl, rfl, rfl, rfl, ⟨_, [.one _], 6, _, rfl, rfl, rfl, rfl, rfl⟩⟩⟩⟩⟩⟩⟩ ?_; clear H; intro b12 w H _; refine Vp E fun a E => ?_; refine Ve E ?_; refine zeA 0 E H rfl rfl Tryz.underlying24 Tryz.underlying5 rfl rfl ?_; clear H; intro w H F; replace H : Sep _ _ _ _ [_, _] [_, _, _] := H; refine Vp E fun a E => ?_; clear F; refine Vv E pkm fun a E => ?_; refine Ve E ?_; refine zqw (k := lab) E H rfl rfl Tryz.underlying9 Tryz.underlying24 Tryz.underlying5 hs (by omega) ?_; clear H; intro A15 c15 w H F; replace H : Sep _ _ _ _ [_, _] [_, _, _, _] := H; refine Vp E fun a E => ?_; clear F; refine Ve E ?_; refine zaP (sz := 1) (z := [.one (.slice none 0 0), .one (.slice none 0 0)]) E H rfl Tryz.underlying25 (by kernel_rfl) (by decide) (by kernel_rfl) ⟨_, [.one _], 0, _, rfl, rfl, rfl, rfl, ⟨_, [.one _], 1, _, rfl, rfl, rfl, rfl, rfl⟩⟩ ?_; clear H; intro b16 w H _; refine Vp E fun a E => ?_
 refine Vv E pkm fun a E => ?_
 replace H := H.rowOfL (sz := 1) (n := 2) (xs := zj0 zav [((zgt, (some ⟨b12, 0, none⟩, 7)): List Nat × zav.μ), ((lab, (A15, c15)): List Nat × zav.μ)]) (by rw [← zid]; rfl) rfl (by omega)
 refine Ve E ?_; refine zpj (T := zav) (by_ := 24) (its := [((zgt, (some ⟨b12, 0, none⟩, 7)): List Nat × zav.μ), ((lab, (A15, c15)): List Nat × zav.μ)]) 0 E H (H.fact 2 rfl) rfl rfl rfl rfl ⟨Tryz.underlying25, by kernel_rfl⟩ (by simp only [List.length_cons, List.length_nil]; omega) (by simp only [List.length_cons, List.length_nil]; omega) ?_; clear H; intro A18 c18 w hcap18 H F; replace H : Sep _ _ _ _ [_, _, _] _ := H; refine Vp E fun a E => ?_; clear F
 have hco := zbP (k := zgt) (c := 7) (H.fact 1 rfl) rfl (by show 7 ≤ 7; decide) (by show 7 ≤ _; decide) (by decide)
 have HN := H.know (zpk (a := [((zgt, (some ⟨b12, 0, none⟩, 7)): List Nat × zav.μ), ((lab, (A15, c15)): List Nat × zav.μ)]) (zaX (its := [_]) (q := ((lab, (A15, c15)): List Nat × zav.μ)) (zaX (its := []) (q := ((zgt, (some ⟨b12, 0, none⟩, 7)): List Nat × zav.μ)) zb3 hco) (H.fact 0 rfl)) (zkg (H.fact 2 rfl)))
 obtain ⟨m18, HZ⟩ := HN.freezeL (xs := (zgt :: lab :: ts)) rfl (by simp) (by rw [List.map_append, zmO]; rfl)
 clear H HN hco
 have H := HZ
 clear HZ; replace H : Sep _ _ _ _ [_, _] [_, _, _, _, _, _] := H
 rw [show ([((zgt, (some ⟨b12, 0, none⟩, 7)): List Nat × zav.μ), ((lab, (A15, c15)): List Nat × zav.μ)] ++ zcQ zav ts tm).length = (zgt :: lab :: ts).length from by simp [zgX]] at E
 refine Ve E ?_; refine Vc E ?_; refine (zn5 (m0 := []) (ts := (zgt :: lab :: ts)) (by show 0 ≤ 100000000; decide) (by simp only [List.length_cons]; omega) H.xk zbw (H.fact 0 rfl)).mono ?_; rintro e w ⟨A19, c19, rfl, H1⟩
 replace H := H.call H1
 clear H1; replace H : Sep _ _ _ _ [_, _, _] [_, _, _, _, _, _] := H; refine Vp E fun a E => ?_; refine Vv E pkm fun a E => ?_; refine Vv E pkx fun a E => ?_; refine Vv E pkx fun a E => ?_; refine Vv E pka fun a E => ?_; refine Vv E pka fun a E => ?_
 rw [zfw hok3] at E H
 simp only [List.nil_append] at E H
 replace H := H.rowTx (Sep.new_x H) (by omega) halb
 replace H : Sep _ _ _ _ [_, _] [_, _, _, _, _, _, _] := H; refine Vn ?_; refine wp_seq_k fun K2 hK2 => ?_; refine Vr ?_; refine Vv E pkm fun a E => ?_; refine Vv E (zbD (v := .bool false) rfl rfl rfl (congrArg (fun b => some (Value.bool b)) (rfl))) fun a E => ?_; refine Vn ?_; refine zaN E rfl ?_; refine wp_skip ?_; refine hK2 _ _ ?_; refine Vr ?_; refine Vv E (pkl 32 H 1) fun a E => ?_; refine Vv E pkm fun a E => ?_; refine Ve E ?_; refine Vc E ?_
 refine (zgO (n := 32) (k := k) (info := zcp (zgt :: lab :: ts)) hk32 hkb (by omega) hln H.xk (H.fact 0 rfl) (H.fact 6 rfl)).mono ?_; rintro e w ⟨A29, c29, rfl, H1⟩
 replace H := H.call H1
 clear H1; replace H : Sep _ _ _ _ [_, _] [_, _, _, _, _, _, _, _] := H; refine Vp E fun a E => ?_; refine Vv E pkm fun a E => ?_; refine Vv E pkx fun a E => ?_; refine Vv E pkx fun a E => ?_; refine Vv E pka fun a E => ?_; refine Vv E pka fun a E => ?_
 rw [show zie gt k (zcp (zgt :: lab :: ts)) 32 = zkG gt k lab ts from by with_unfolding_all rfl] at H
 rw [show Value.slice A29 32 c29 = .slice A29 (zkG gt k lab ts).length c29 from by rw [hX32]] at E
 refine Vn ?_; refine wp_seq_k fun K5 hK5 => ?_; refine Vr ?_; refine Vv E pkm fun a E => ?_; refine Vv E (zbD (v := .bool false) rfl rfl rfl (congrArg (fun b => some (Value.bool b)) (rfl))) fun a E => ?_; refine Vn ?_; refine zaN E rfl ?_; refine wp_skip ?_; refine hK5 _ _ ?_; refine Vr ?_; refine Vv E pkm fun a E => ?_; refine Ve E ?_; refine Vc E ?_; refine (zqF (b := zkG gt k lab ts) H.xk (H.fact 0 rfl)).mono ?_; rintro e w ⟨rfl, H1⟩
 replace H := H.call H1
 clear H1; replace H : Sep _ _ _ _ [_, _] [_, _, _, _, _, _, _, _] := H; refine Vp E fun a E => ?_; refine Ws 0 E H fun w H => ?_; replace H : Sep _ _ _ _ [_, _] _ := H; refine Vv E pka fun a E => ?_; refine Vn ?_; refine wp_ret ?_
 repeat (first | refine zat ?_ | refine zap ?_)
 refine zeO rfl E (by exact zhT (n := 32) H 0 rfl rfl rfl (by kernel_rfl)) (zbT rfl) ?_
 exact ⟨rfl, H.keepLR (L := []) (R := [])⟩
theorem zh6 {LA SA : Option Addr} {lc sc : Nat} {salt sec : List Nat} {gt : Nat → Nat} (h64 : salt.length ≤ 64) (hsl : sec.length ≤ 100000000) {X : List Nat} {w0 : World} (hX : ∀ k ∈ X, k < w0.heap.size) (hL : St (TxF LA lc salt) w0 X) (hS : St (TxF SA sc sec) w0 X) (hG : St (AtC ⟨1, 0, none⟩ [.row 64 fun i => u32 (gt i)]) w0 X) :
  Calls Tryz.prog 30 #[.slice LA salt.length lc, .slice SA sec.length sc] w0 fun e w' => e = .returned (.agg (ca [.key (zer gt salt [sec])])) ∧ Sep X [] w0 w' [] [] := by
 refine zaz Tryz.ntmps30 Tryz.func30 rfl rfl fun a E => ?_; replace E : Env a _ [(0, _), (1, _)] := E
 have H : Sep X [] w0 w0 [] [(TxF LA lc salt), (TxF SA sc sec), (AtC ⟨1, 0, none⟩ [.row 64 fun i => u32 (gt i)])] := Sep.start hX (jJ.2 ⟨hL, jJ.2 ⟨hS, jJ.2 ⟨hG, fun _ h => by cases h⟩⟩⟩)
 refine Vr ?_; refine Wa (z := [.key []]) E H fun b4 w a H E => ?_; refine Vn ?_; refine Vr ?_; refine Vv E pkm fun a E => ?_; refine Vv E pkm fun a E => ?_; refine Ve E ?_; refine zaP (sz := 1) (z := [.one (.slice none 0 0)]) E H rfl Tryz.underlying25 (by kernel_rfl) (by decide) (by kernel_rfl) ⟨_, [.one _], 0, _, rfl, rfl, rfl, rfl, rfl⟩ ?_; clear H; intro b7 w H _; refine Vp E fun a E => ?_; refine Ve E ?_; refine Vc E ?_
 have HB := H.lend 0 rfl
 have hli := zes (T := zav) (its := [((sec, (SA, sc)): List Nat × zav.μ)]) (c := 1) (xs := [sec]) (HB.fact 0 rfl) rfl (zaX (its := []) (q := ((sec, (SA, sc)): List Nat × zav.μ)) zb3 (HB.fact 2 rfl)) rfl (by show 1 ≤ 1; decide) (by show 1 ≤ _; decide)
 have H2 := HB.refacts (R' := [_, _, _]) (jJ.2 ⟨HB.fact 1 rfl, jJ.2 ⟨hli, jJ.2 ⟨HB.fact 3 rfl, jK _⟩⟩⟩)
 clear HB hli; refine (zmG (key := salt) (ps := [sec]) h64 (by simp only [List.flatten_cons, List.flatten_nil, List.append_nil]; omega) H2.xk (H2.fact 0 rfl) (H2.fact 1 rfl) (H2.fact 2 rfl)).mono ?_; rintro e w ⟨rfl, H1⟩
 have F := H1.frm
 replace H := H.grow F
 refine Vp E fun a E => ?_; clear F; clear H1 H2; refine Ws 1 E H fun w H => ?_; replace H : Sep _ _ _ _ [_, _] _ := H; refine Vn ?_; refine wp_ret ?_
 repeat (first | refine zat ?_ | refine zap ?_)
 refine zf8 rfl E (by exact zhT (n := 32) H 1 rfl rfl rfl (by kernel_rfl)) ?_
 exact ⟨rfl, H.keepLR (L := []) (R := [])⟩
theorem zfy {sec oth mine theirs : List Nat} {gt : Nat → Nat} (hsb : ∀ x ∈ sec, x < 256) (hob : ∀ x ∈ oth, x < 256) (hm32 : mine.length = 32) (hmb : ∀ x ∈ mine, x < 256) (ht32 : theirs.length = 32) (htb : ∀ x ∈ theirs, x < 256) {X : List Nat} {w0 : World} (hX : ∀ k ∈ X, k < w0.heap.size) (hG : St (AtC ⟨1, 0, none⟩ [.row 64 fun i => u32 (gt i)]) w0 X) :
  Calls Tryz.prog 15 #[.agg (ca [.key sec]), .agg (ca [.key oth]), .agg (ca [.key mine]), .agg (ca [.key theirs])] w0 fun e w' => e = .returned (.tuple #[.agg (ca [.key (zdy gt sec oth mine theirs).1]), .int .i64 (zdy gt sec oth mine theirs).2]) ∧ Sep X [] w0 w' [] [] := by
 have hB32 : (zbu sec oth).length = 32 := zn2 _ _
 refine zaz Tryz.ntmps15 Tryz.func15 rfl rfl fun a E => ?_; replace E : Env a _ [(0, _), (1, _), (2, _), (3, _)] := E
 have H : Sep X [] w0 w0 [] [(AtC ⟨1, 0, none⟩ [.row 64 fun i => u32 (gt i)])] := Sep.start hX (jJ.2 ⟨hG, fun _ h => by cases h⟩)
 refine Vr ?_; refine Wb E H fun b4 w a H E => ?_; refine Wb E H fun b5 w a H E => ?_; refine Wb E H fun b6 w a H E => ?_; refine Wb E H fun b7 w a H E => ?_; refine Wa (z := [.key []]) E H fun b8 w a H E => ?_; refine Vv E pka fun a E => ?_; refine Vn ?_; refine Vr ?_; refine Vv E (pkl 32 H 4) fun a E => ?_; refine Vv E (pkl 32 H 3) fun a E => ?_; refine Ve E ?_; refine Vc E ?_; refine (zuE (k := sec) (u := oth) H.xk hsb hob).mono ?_; rintro e w ⟨rfl, H1⟩
 replace H := H.call H1
 clear H1; replace H : Sep _ _ _ _ [_, _, _, _, _] [_] := H; refine Vp E fun a E => ?_; refine Wa (z := [.key []]) E H fun b10 w a H E => ?_; refine Ws 0 E H fun w H => ?_; replace H : Sep _ _ _ _ [_, _, _, _, _, _] _ := H; refine Vn ?_; refine wp_seq_k fun K2 hK2 => ?_; refine Vr ?_; refine Vv E (pkl 32 H 0) fun a E => ?_
 refine Vv E (ze7 (n := 32) (z := [.key []]) [.key []] rfl (by kernel_rfl) (by kernel_rfl) rfl rfl) fun a E => ?_; refine Vv E (zun rfl (⟨_, Tryz.underlying23, Tryz.underlying5, by kernel_rfl, by kernel_rfl⟩) rfl rfl) fun a E => ?_; refine Vn ?_; refine zau (d := 16) E rfl ?_ ?_
 ·skip
  clear E; intro c16 E
  have hno : zdB (zbu sec oth) := by simpa [zdB] using c16
  refine za7 E rfl ?_; refine Vr ?_; refine Vv E (ze7 (n := 32) (z := [.key []]) [.key []] rfl (by kernel_rfl) (by kernel_rfl) rfl rfl) fun a E => ?_; refine Ws 1 E H fun w H => ?_; replace H : Sep _ _ _ _ [_, _, _, _, _, _] _ := H; refine Vv E pka fun a E => ?_; refine Vn ?_; refine wp_ret ?_
  repeat (first | refine zat ?_ | refine zap ?_)
  refine zeO rfl E (by exact zhT (n := 32) H 1 rfl rfl rfl (by kernel_rfl)) (zbT rfl) ?_
  exact ⟨by rw [zdX hno], H.keepLR (L := []) (R := [])⟩
 ·skip
  clear E; intro c16 E
  have hno : ¬ zdB (zbu sec oth) := by simpa [zdB] using c16
  refine zaN E rfl ?_; refine wp_skip ?_; refine hK2 _ _ ?_; refine wp_seq_k fun K5 hK5 => ?_; refine ziw E H [] 8 (.pure 0 (.pure 2 (.pure 3 (.eff 1 (.eff 4 (.eff 5 (.pure 6 (.pure 7 .nil)) .nil) .nil) (.eff 4 (.eff 1 (.eff 5 (.pure 6 (.pure 7 .nil)) .nil) .nil) .nil))))) (by kernel_rfl) (by kernel_rfl) (fun w HS => ?_)
  simp only [CanB.opsT, jD, jE, jF, jG]
  clear H
  have H := HS
  have hsz : w.heap.size ≤ w.heap.size := jV _
  have HK : CanB.Keep (fun k => k < w.heap.size ∧ k ∉ []) w w := CanB.Keep.refl _ _
  refine zb9 E HK (zc7 (N := 32) (sz := 1) rfl (by kernel_rfl) rfl) rfl rfl rfl (fun _ _ _ _ h => h) ?_; clear E a; intro a E
  rw [show Value.slice (some ⟨b10, 0, none⟩) 32 32 = .slice (some ⟨b10, 0, none⟩) (zbu sec oth).length 32 from by rw [hB32]] at E
  refine zb9 E HK (zc7 (N := 32) (sz := 1) rfl (by kernel_rfl) rfl) rfl rfl rfl (fun _ _ _ _ h => h) ?_; clear E a; intro a E; refine zb9 E HK (zc7 (N := 32) (sz := 1) rfl (by kernel_rfl) rfl) rfl rfl rfl (fun _ _ _ _ h => h) ?_; clear E a; intro a E; refine zoA ?_ ?_
  ·skip
   refine zcJ E rfl (fun K hK => ?_); refine Vc E ?_
   have HB := H.lend 0 rfl
   have hin := zbP (k := (zbu sec oth)) (c := 32) (HB.fact 0 rfl) (by rw [zcO, zbo hB32]) (by omega) (by omega) (zgj _ _)
   refine (zh6 (salt := []) (sec := (zbu sec oth)) (by show 0 ≤ 64; decide) (by omega) HB.xk zbw hin (HB.fact 1 rfl)).mono ?_; rintro e w ⟨rfl, H1⟩
   have F := H1.frm
   replace H := H.grow F
   have hk := zaI (D := []) F hsz (by first | (simp; done) | (intro k hk; obtain rfl := List.mem_singleton.1 hk; exact .inr (by assumption)))
   refine hK _ _ hk ?_; clear hK K
   replace HK := HK.trans hk
   replace hsz := jU hsz (F).size
   clear hk; refine zdz E rfl rfl ?_; clear E a; intro a E; clear F; clear H1 HB hin; refine zcJ E rfl (fun K hK => ?_); refine zaP (sz := 1) (z := [.one (.slice none 0 0), .one (.slice none 0 0)]) E H rfl Tryz.underlying25 (by kernel_rfl) (by decide) (by kernel_rfl) ⟨_, [.one _], 0, _, rfl, rfl, rfl, rfl, ⟨_, [.one _], 1, _, rfl, rfl, rfl, rfl, rfl⟩⟩ ?_; clear H; intro b22 w H F
   have hk := zaI (D := []) F hsz (by first | (simp; done) | (intro k hk; obtain rfl := List.mem_singleton.1 hk; exact .inr (by assumption)))
   refine hK _ _ hk ?_; clear hK K
   replace HK := HK.trans hk
   replace hsz := jU hsz (F).size
   clear hk; refine zdz E rfl rfl ?_; clear E a; intro a E; clear F; refine zcJ E rfl (fun K hK => ?_); refine Vc E ?_
   have HB := ((H.lend 0 rfl).lend 2 rfl).lend 2 rfl
   have hm := zbP (k := mine) (c := 32) (HB.fact 0 rfl) (by rw [zcO, zbo hm32]) (by omega) (by omega) hmb
   have ht := zbP (k := theirs) (c := 32) (HB.fact 1 rfl) (by rw [zcO, zbo ht32]) (by omega) (by omega) htb
   have hli := zes (T := zav) (its := [((mine, (some ⟨b6, 0, none⟩, 32)): List Nat × zav.μ), (theirs, (some ⟨b7, 0, none⟩, 32))]) (c := 2) (xs := [mine, theirs]) (HB.fact 2 rfl) (by rw [← zid, hm32, ht32]) (zaX (its := [_]) (q := ((theirs, (some ⟨b7, 0, none⟩, 32)): List Nat × zav.μ)) (zaX (its := []) (q := ((mine, (some ⟨b6, 0, none⟩, 32)): List Nat × zav.μ)) zb3 hm) ht) rfl (by show 2 ≤ 2; decide) (by show 2 ≤ _; decide)
   have H2 := HB.refacts (R' := [_, _]) (jJ.2 ⟨hli, jJ.2 ⟨HB.fact 3 rfl, jK _⟩⟩)
   clear HB hm ht hli; refine (zjT (k := zer gt [] [(zbu sec oth)]) (lab := zus) (ts := [mine, theirs]) rfl (by decide) (zbt _ _ _) (zcZ _ _ _) (zhq hm32 ht32) H2.xk (H2.fact 0 rfl) (H2.fact 1 rfl)).mono ?_; rintro e w ⟨rfl, H1⟩
   have F := H1.frm
   replace H := H.grow F
   have hk := zaI (D := []) F hsz (by first | (simp; done) | (intro k hk; obtain rfl := List.mem_singleton.1 hk; exact .inr (by assumption)))
   refine hK _ _ hk ?_; clear hK K
   replace HK := HK.trans hk
   replace hsz := jU hsz (F).size
   clear hk; refine zdz E rfl rfl ?_; clear E a; intro a E; clear F; clear H1 H2; refine zb9 E HK (zaV rfl rfl rfl) rfl rfl rfl (fun _ _ _ _ h => h) ?_; clear E a; intro a E; refine zb9 E HK (zaV rfl rfl rfl) rfl rfl rfl (fun _ _ _ _ h => h) ?_; clear E a; intro a E; refine zj4 ?_
   try (simp only [jH, jI, jF, jG])
   clear HS HK hsz; refine Ws 2 E H fun w H => ?_; replace H : Sep _ _ _ _ [_, _, _, _, _, _, _] _ := H; refine Vv E pka fun a E => ?_; refine hK5 _ _ ?_; refine wp_ret ?_
   repeat (first | refine zat ?_ | refine zap ?_)
   refine zeO rfl E (by exact zhT (n := 32) H 2 rfl rfl rfl (by kernel_rfl)) (zbT rfl) ?_
   exact ⟨by rw [zcq hno]; with_unfolding_all rfl, H.keepLR (L := []) (R := [])⟩
  ·skip
   refine zqW ?_; refine zcJ E rfl (fun K hK => ?_); refine zaP (sz := 1) (z := [.one (.slice none 0 0), .one (.slice none 0 0)]) E H rfl Tryz.underlying25 (by kernel_rfl) (by decide) (by kernel_rfl) ⟨_, [.one _], 0, _, rfl, rfl, rfl, rfl, ⟨_, [.one _], 1, _, rfl, rfl, rfl, rfl, rfl⟩⟩ ?_; clear H; intro b22 w H F
   have hk := zaI (D := []) F hsz (by first | (simp; done) | (intro k hk; obtain rfl := List.mem_singleton.1 hk; exact .inr (by assumption)))
   refine hK _ _ hk ?_; clear hK K
   replace HK := HK.trans hk
   replace hsz := jU hsz (F).size
   clear hk; refine zdz E rfl rfl ?_; clear E a; intro a E; clear F; refine zcJ E rfl (fun K hK => ?_); refine Vc E ?_
   have HB := H.lend 1 rfl
   have hin := zbP (k := (zbu sec oth)) (c := 32) (HB.fact 0 rfl) (by rw [zcO, zbo hB32]) (by omega) (by omega) (zgj _ _)
   refine (zh6 (salt := []) (sec := (zbu sec oth)) (by show 0 ≤ 64; decide) (by omega) HB.xk zbw hin (HB.fact 1 rfl)).mono ?_; rintro e w ⟨rfl, H1⟩
   have F := H1.frm
   replace H := H.grow F
   have hk := zaI (D := []) F hsz (by first | (simp; done) | (intro k hk; obtain rfl := List.mem_singleton.1 hk; exact .inr (by assumption)))
   refine hK _ _ hk ?_; clear hK K
   replace HK := HK.trans hk
   replace hsz := jU hsz (F).size
   clear hk; refine zdz E rfl rfl ?_; clear E a; intro a E; clear F; clear H1 HB hin; refine zcJ E rfl (fun K hK => ?_); refine Vc E ?_
   have HB := ((H.lend 0 rfl).lend 2 rfl).lend 2 rfl
   have hm := zbP (k := mine) (c := 32) (HB.fact 0 rfl) (by rw [zcO, zbo hm32]) (by omega) (by omega) hmb
   have ht := zbP (k := theirs) (c := 32) (HB.fact 1 rfl) (by rw [zcO, zbo ht32]) (by omega) (by omega) htb
   have hli := zes (T := zav) (its := [((mine, (some ⟨b6, 0, none⟩, 32)): List Nat × zav.μ), (theirs, (some ⟨b7, 0, none⟩, 32))]) (c := 2) (xs := [mine, theirs]) (HB.fact 2 rfl) (by rw [← zid, hm32, ht32]) (zaX (its := [_]) (q := ((theirs, (some ⟨b7, 0, none⟩, 32)): List Nat × zav.μ)) (zaX (its := []) (q := ((mine, (some ⟨b6, 0, none⟩, 32)): List Nat × zav.μ)) zb3 hm) ht) rfl (by show 2 ≤ 2; decide) (by show 2 ≤ _; decide)
   have H2 := HB.refacts (R' := [_, _]) (jJ.2 ⟨hli, jJ.2 ⟨HB.fact 3 rfl, jK _⟩⟩)
   clear HB hm ht hli; refine (zjT (k := zer gt [] [(zbu sec oth)]) (lab := zus) (ts := [mine, theirs]) rfl (by decide) (zbt _ _ _) (zcZ _ _ _) (zhq hm32 ht32) H2.xk (H2.fact 0 rfl) (H2.fact 1 rfl)).mono ?_; rintro e w ⟨rfl, H1⟩
   have F := H1.frm
   replace H := H.grow F
   have hk := zaI (D := []) F hsz (by first | (simp; done) | (intro k hk; obtain rfl := List.mem_singleton.1 hk; exact .inr (by assumption)))
   refine hK _ _ hk ?_; clear hK K
   replace HK := HK.trans hk
   replace hsz := jU hsz (F).size
   clear hk; refine zdz E rfl rfl ?_; clear E a; intro a E; clear F; clear H1 H2; refine zb9 E HK (zaV rfl rfl rfl) rfl rfl rfl (fun _ _ _ _ h => h) ?_; clear E a; intro a E; refine zb9 E HK (zaV rfl rfl rfl) rfl rfl rfl (fun _ _ _ _ h => h) ?_; clear E a; intro a E; refine zj4 ?_
   try (simp only [jH, jI, jF, jG])
   clear HS HK hsz; refine Ws 2 E H fun w H => ?_; replace H : Sep _ _ _ _ [_, _, _, _, _, _, _] _ := H; refine Vv E pka fun a E => ?_; refine hK5 _ _ ?_; refine wp_ret ?_
   repeat (first | refine zat ?_ | refine zap ?_)
   refine zeO rfl E (by exact zhT (n := 32) H 2 rfl rfl rfl (by kernel_rfl)) (zbT rfl) ?_
   exact ⟨by rw [zcq hno]; with_unfolding_all rfl, H.keepLR (L := []) (R := [])⟩
theorem zrE {BA TA : Option Addr} {bc tc : Nat} {sec b : List Nat} {ts : List (List Nat)} {tm : Nat → zav.μ} {gt : Nat → Nat} (hs32 : sec.length = 32) (hsb : ∀ x ∈ sec, x < 256) (hts : ts.length ≤ 1000) {X : List Nat} {w0 : World} (hX : ∀ k ∈ X, k < w0.heap.size) (hB : St (TxF BA bc b) w0 X) (hL : St (LiF zav TA tc ts tm) w0 X) (hG : St (AtC ⟨1, 0, none⟩ [.row 64 fun i => u32 (gt i)]) w0 X) :
  Calls Tryz.prog 13 #[.agg (ca [.key sec]), .slice BA b.length bc, .slice TA ts.length tc] w0 fun e w' => ∃ A' c', e = .returned (.tuple #[.slice A' (zcP gt sec b ts).1.length c', .int .i64 (zcP gt sec b ts).2]) ∧ Sep X [] w0 w' [] [TxF A' c' (zcP gt sec b ts).1] := by
 have hbl := hB.now.len
 have hbc := hB.now.cap
 have hbb := hB.now.byt
 refine zaz Tryz.ntmps13 Tryz.func13 rfl rfl fun a E => ?_; replace E : Env a _ [(0, _), (1, _), (2, _)] := E
 have H : Sep X [] w0 w0 [] [(TxF BA bc b), (LiF zav TA tc ts tm), (AtC ⟨1, 0, none⟩ [.row 64 fun i => u32 (gt i)])] := Sep.start hX (jJ.2 ⟨hB, jJ.2 ⟨hL, jJ.2 ⟨hG, fun _ h => by cases h⟩⟩⟩)
 refine Vr ?_; refine Wb E H fun b3 w a H E => ?_; refine Vv E pka fun a E => ?_; refine Vv E pka fun a E => ?_; refine Vn ?_; refine wp_seq_k fun K1 hK1 => ?_; refine Vr ?_; refine Vv E pkm fun a E => ?_; refine Vv E pkn fun a E => ?_; refine Vv E pki fun a E => ?_; refine Vn ?_; refine zau (d := 13) E rfl ?_ ?_
 ·skip
  clear E; intro c13 E
  have hlt : b.length < 32 := by have := c13; simp only [jS] at this; omega
  refine za7 E rfl ?_; refine Vr ?_; refine Vv E pka fun a E => ?_; refine Vv E pka fun a E => ?_; refine Vn ?_; refine wp_ret ?_
  repeat (first | refine zat ?_ | refine zap ?_)
  refine zeO rfl E (zbT rfl) (zbT rfl) ?_
  rw [show zcP gt sec b ts = ([], 2) from by unfold zcP; rw [if_pos hlt]]
  exact ⟨none, 0, rfl, (Sep.keepLR (L := []) (R := [_]) (H.know zbw))⟩
 ·skip
  clear E; intro c13 E
  have hlt : ¬ b.length < 32 := by have := c13; simp only [decide_eq_false_iff_not] at this; omega
  refine zaN E rfl ?_; refine wp_skip ?_; refine hK1 _ _ ?_; refine Vr ?_; refine Vv E pkm fun a E => ?_; refine Ve E ?_; refine Vc E ?_; refine (zqF (b := b) H.xk (H.fact 0 rfl)).mono ?_; rintro e w ⟨rfl, H1⟩
  replace H := H.call H1
  clear H1; replace H : Sep _ _ _ _ [_] [_, _, _] := H; refine Vp E fun a E => ?_; refine Wa (z := [.key []]) E H fun b8 w a H E => ?_; refine Ws 0 E H fun w H => ?_; replace H : Sep _ _ _ _ [_, _] _ := H; refine Vn ?_
  refine zrQ (fun a w => ∃ b9 b8 b3, Env a 35 [(10, .int .i64 (zdy gt sec (b.take 32) (b.take 32) (zdk sec)).2), (9, .pointer (some ⟨b9, 0, none⟩)), (1, .slice BA b.length bc), (2, .slice TA ts.length tc)] ∧ Sep X [] w0 w [.blk b9 (ca [.key (zdy gt sec (b.take 32) (b.take 32) (zdk sec)).1]) 23, .blk b8 (ca [.key (b.take 32)]) 23, .blk b3 (ca [.key sec]) 23 ] [TxF BA bc b, LiF zav TA tc ts tm, AtC ⟨1, 0, none⟩ [.row 64 fun i => u32 (gt i)]]) ?_ ?_
  ·skip
   have hbt : (b.take 32).length = 32 := by rw [List.length_take]; omega
   have eK : ca [.key b] = ca [.key (b.take 32)] := by
    rw [zgk, zgk]
    simp only [ca]
    congr 1
    simp only [cl, Chunk.cells, List.append_nil]
    apply List.map_congr_left
    intro i hi
    rw [jR, jR, List.getElem?_take, if_pos (List.mem_range.1 hi)]
   rw [eK] at E H
   clear eK; replace H : Sep _ _ _ _ [_, _] [_, _, _] := H; refine ziw E H [] 11 (.pure 0 (.pure 1 (.pure 2 (.pure 3 (.eff 4 (.eff 5 (.pure 6 (.pure 7 (.pure 8 (.eff 9 (.eff 10 .nil .nil) .nil)))) (.eff 9 (.eff 5 (.pure 6 (.pure 7 (.pure 8 (.eff 10 .nil .nil)))) .nil) .nil)) (.eff 9 (.eff 4 (.eff 5 (.pure 6 (.pure 7 (.pure 8 (.eff 10 .nil .nil)))) .nil) .nil) .nil)))))) (by kernel_rfl) (by kernel_rfl) (fun w HS => ?_)
   simp only [CanB.opsT, jD, jE, jF, jG]
   clear H
   have H := HS
   have hsz : w.heap.size ≤ w.heap.size := jV _
   have HK : CanB.Keep (fun k => k < w.heap.size ∧ k ∉ []) w w := CanB.Keep.refl _ _
   refine zb9 E HK (zcr (n := 32) HS 1 rfl rfl rfl (HS.inS 1 rfl (by simp)) rfl (by kernel_rfl)) rfl rfl rfl (fun _ _ _ _ h => h) ?_; clear E a; intro a E; refine zb9 E HK (zcr (n := 32) HS 0 rfl rfl rfl (HS.inS 0 rfl (by simp)) rfl (by kernel_rfl)) rfl rfl rfl (fun _ _ _ _ h => h) ?_; clear E a; intro a E; refine zb9 E HK (zcr (n := 32) HS 0 rfl rfl rfl (HS.inS 0 rfl (by simp)) rfl (by kernel_rfl)) rfl rfl rfl (fun _ _ _ _ h => h) ?_; clear E a; intro a E; refine zb9 E HK (zcr (n := 32) HS 1 rfl rfl rfl (HS.inS 1 rfl (by simp)) rfl (by kernel_rfl)) rfl rfl rfl (fun _ _ _ _ h => h) ?_; clear E a; intro a E; refine zoA ?_ ?_
   ·skip
    refine zcJ E rfl (fun K hK => ?_); refine Vc E ?_; refine (zn6 (k := sec) H.xk hsb).mono ?_; rintro e w ⟨rfl, H1⟩
    have F := H1.frm
    replace H := H.call H1
    clear H1; replace H : Sep _ _ _ _ [_, _] [_, _, _] := H
    have hk := zaI (D := []) F hsz (by first | (simp; done) | (intro k hk; obtain rfl := List.mem_singleton.1 hk; exact .inr (by assumption)))
    refine hK _ _ hk ?_; clear hK K
    replace HK := HK.trans hk
    replace hsz := jU hsz (F).size
    clear hk; refine zdz E rfl rfl ?_; clear E a; intro a E; clear F; refine zoA ?_ ?_
    ·skip
     refine zcJ E rfl (fun K hK => ?_); refine Vc E ?_; refine (zfy (sec := sec) (oth := (b.take 32)) (mine := (b.take 32)) (theirs := zdk sec) hsb (fun z hz => hbb z (List.mem_of_mem_take hz)) hbt (fun z hz => hbb z (List.mem_of_mem_take hz)) (zdW _) (zdi _) H.xk (H.fact 2 rfl)).mono ?_; rintro e w ⟨rfl, H1⟩
     have F := H1.frm
     replace H := H.call H1
     clear H1; replace H : Sep _ _ _ _ [_, _] [_, _, _] := H
     have hk := zaI (D := []) F hsz (by first | (simp; done) | (intro k hk; obtain rfl := List.mem_singleton.1 hk; exact .inr (by assumption)))
     refine hK _ _ hk ?_; clear hK K
     replace HK := HK.trans hk
     replace hsz := jU hsz (F).size
     clear hk; refine zdz E rfl rfl ?_; clear E a; intro a E; clear F; refine zb9 E HK (zgy rfl rfl) rfl rfl rfl (fun _ _ _ _ h => h) ?_; clear E a; intro a E; refine zb9 E HK (zaV rfl rfl rfl) rfl rfl rfl (fun _ _ _ _ h => h) ?_; clear E a; intro a E; refine zb9 E HK (zaV rfl rfl rfl) rfl rfl rfl (fun _ _ _ _ h => h) ?_; clear E a; intro a E; refine zcJ E rfl (fun K hK => ?_); refine zek (z := [.key []]) H rfl (by kernel_rfl) ?_; clear H; intro b9 w hnb H F
     have hnb9 := jU hsz hnb
     clear hnb
     have hk := zaI (D := []) F hsz (by first | (simp; done) | (intro k hk; obtain rfl := List.mem_singleton.1 hk; exact .inr (by assumption)))
     refine hK _ _ hk ?_; clear hK K
     replace HK := HK.trans hk
     replace hsz := jU hsz (F).size
     clear hk; refine zdz E rfl rfl ?_; clear E a; intro a E; clear F; refine zcJ E rfl (fun K hK => ?_); refine Vs 0 E H ?_; clear H; intro w H F; replace H : Sep _ _ _ _ [_, _, _] _ := H
     have hk := zaI (D := []) F hsz (by first | (simp; done) | (intro k hk; obtain rfl := List.mem_singleton.1 hk; exact .inr (by assumption)))
     refine hK _ _ hk ?_; clear hK K
     replace HK := HK.trans hk
     replace hsz := jU hsz (F).size
     clear hk; refine zkp rfl ?_; refine zj4 ?_
     try (simp only [jH, jI, jF, jG])
     clear HS HK hsz; refine Vv E pka fun a E => ?_
     exact ⟨_, _, _, E.to (by repeat (first | exact trivial | refine ⟨rfl, ?_⟩)), H⟩
    ·skip
     refine zqW ?_; refine zcJ E rfl (fun K hK => ?_); refine zek (z := [.key []]) H rfl (by kernel_rfl) ?_; clear H; intro b9 w hnb H F
     have hnb9 := jU hsz hnb
     clear hnb
     have hk := zaI (D := []) F hsz (by first | (simp; done) | (intro k hk; obtain rfl := List.mem_singleton.1 hk; exact .inr (by assumption)))
     refine hK _ _ hk ?_; clear hK K
     replace HK := HK.trans hk
     replace hsz := jU hsz (F).size
     clear hk; refine zdz E rfl rfl ?_; clear E a; intro a E; clear F; refine zcJ E rfl (fun K hK => ?_); refine Vc E ?_; refine (zfy (sec := sec) (oth := (b.take 32)) (mine := (b.take 32)) (theirs := zdk sec) hsb (fun z hz => hbb z (List.mem_of_mem_take hz)) hbt (fun z hz => hbb z (List.mem_of_mem_take hz)) (zdW _) (zdi _) H.xk (H.fact 2 rfl)).mono ?_; rintro e w ⟨rfl, H1⟩
     have F := H1.frm
     replace H := H.call H1
     clear H1; replace H : Sep _ _ _ _ [_, _, _] [_, _, _] := H
     have hk := zaI (D := []) F hsz (by first | (simp; done) | (intro k hk; obtain rfl := List.mem_singleton.1 hk; exact .inr (by assumption)))
     refine hK _ _ hk ?_; clear hK K
     replace HK := HK.trans hk
     replace hsz := jU hsz (F).size
     clear hk; refine zdz E rfl rfl ?_; clear E a; intro a E; clear F; refine zb9 E HK (zgy rfl rfl) rfl rfl rfl (fun _ _ _ _ h => h) ?_; clear E a; intro a E; refine zb9 E HK (zaV rfl rfl rfl) rfl rfl rfl (fun _ _ _ _ h => h) ?_; clear E a; intro a E; refine zb9 E HK (zaV rfl rfl rfl) rfl rfl rfl (fun _ _ _ _ h => h) ?_; clear E a; intro a E; refine zcJ E rfl (fun K hK => ?_); refine Vs 0 E H ?_; clear H; intro w H F; replace H : Sep _ _ _ _ [_, _, _] _ := H
     have hk := zaI (D := []) F hsz (by first | (simp; done) | (intro k hk; obtain rfl := List.mem_singleton.1 hk; exact .inr (by assumption)))
     refine hK _ _ hk ?_; clear hK K
     replace HK := HK.trans hk
     replace hsz := jU hsz (F).size
     clear hk; refine zkp rfl ?_; refine zj4 ?_
     try (simp only [jH, jI, jF, jG])
     clear HS HK hsz; refine Vv E pka fun a E => ?_
     exact ⟨_, _, _, E.to (by repeat (first | exact trivial | refine ⟨rfl, ?_⟩)), H⟩
   ·skip
    refine zqW ?_; refine zcJ E rfl (fun K hK => ?_); refine zek (z := [.key []]) H rfl (by kernel_rfl) ?_; clear H; intro b9 w hnb H F
    have hnb9 := jU hsz hnb
    clear hnb
    have hk := zaI (D := []) F hsz (by first | (simp; done) | (intro k hk; obtain rfl := List.mem_singleton.1 hk; exact .inr (by assumption)))
    refine hK _ _ hk ?_; clear hK K
    replace HK := HK.trans hk
    replace hsz := jU hsz (F).size
    clear hk; refine zdz E rfl rfl ?_; clear E a; intro a E; clear F; refine zcJ E rfl (fun K hK => ?_); refine Vc E ?_; refine (zn6 (k := sec) H.xk hsb).mono ?_; rintro e w ⟨rfl, H1⟩
    have F := H1.frm
    replace H := H.call H1
    clear H1; replace H : Sep _ _ _ _ [_, _, _] [_, _, _] := H
    have hk := zaI (D := []) F hsz (by first | (simp; done) | (intro k hk; obtain rfl := List.mem_singleton.1 hk; exact .inr (by assumption)))
    refine hK _ _ hk ?_; clear hK K
    replace HK := HK.trans hk
    replace hsz := jU hsz (F).size
    clear hk; refine zdz E rfl rfl ?_; clear E a; intro a E; clear F; refine zcJ E rfl (fun K hK => ?_); refine Vc E ?_; refine (zfy (sec := sec) (oth := (b.take 32)) (mine := (b.take 32)) (theirs := zdk sec) hsb (fun z hz => hbb z (List.mem_of_mem_take hz)) hbt (fun z hz => hbb z (List.mem_of_mem_take hz)) (zdW _) (zdi _) H.xk (H.fact 2 rfl)).mono ?_; rintro e w ⟨rfl, H1⟩
    have F := H1.frm
    replace H := H.call H1
    clear H1; replace H : Sep _ _ _ _ [_, _, _] [_, _, _] := H
    have hk := zaI (D := []) F hsz (by first | (simp; done) | (intro k hk; obtain rfl := List.mem_singleton.1 hk; exact .inr (by assumption)))
    refine hK _ _ hk ?_; clear hK K
    replace HK := HK.trans hk
    replace hsz := jU hsz (F).size
    clear hk; refine zdz E rfl rfl ?_; clear E a; intro a E; clear F; refine zb9 E HK (zgy rfl rfl) rfl rfl rfl (fun _ _ _ _ h => h) ?_; clear E a; intro a E; refine zb9 E HK (zaV rfl rfl rfl) rfl rfl rfl (fun _ _ _ _ h => h) ?_; clear E a; intro a E; refine zb9 E HK (zaV rfl rfl rfl) rfl rfl rfl (fun _ _ _ _ h => h) ?_; clear E a; intro a E; refine zcJ E rfl (fun K hK => ?_); refine Vs 0 E H ?_; clear H; intro w H F; replace H : Sep _ _ _ _ [_, _, _] _ := H
    have hk := zaI (D := []) F hsz (by first | (simp; done) | (intro k hk; obtain rfl := List.mem_singleton.1 hk; exact .inr (by assumption)))
    refine hK _ _ hk ?_; clear hK K
    replace HK := HK.trans hk
    replace hsz := jU hsz (F).size
    clear hk; refine zkp rfl ?_; refine zj4 ?_
    try (simp only [jH, jI, jF, jG])
    clear HS HK hsz; refine Vv E pka fun a E => ?_
    exact ⟨_, _, _, E.to (by repeat (first | exact trivial | refine ⟨rfl, ?_⟩)), H⟩
  ·skip
   intro a w hJ
   obtain ⟨b9, b8, b3, E, H⟩ := hJ
   refine wp_seq_k fun K6 hK6 => ?_; refine Vr ?_; refine Vv E pkm fun a E => ?_; refine Vv E pki fun a E => ?_; refine Vn ?_; refine zau (d := 26) E rfl ?_ ?_
   ·skip
    clear E; intro c26 E
    have hno : zdB (zbu sec (b.take 32)) := Classical.byContradiction fun h => by rw [zcq h] at c26; cases c26
    refine za7 E rfl ?_; refine Vr ?_; refine Vv E pkm fun a E => ?_; refine Vv E pka fun a E => ?_; refine Vv E pka fun a E => ?_; refine Vn ?_; refine wp_ret ?_
    repeat (first | refine zat ?_ | refine zap ?_)
    refine zeO rfl E (zbT rfl) (zbT rfl) ?_
    rw [show zcP gt sec b ts = ([], 1) from by unfold zcP; rw [if_neg hlt, if_pos hno]]
    exact ⟨none, 0, by rw [zdX hno]; rfl, (Sep.keepLR (L := []) (R := [_]) (H.know zbw))⟩
   ·skip
    clear E; intro c26 E
    have hno : ¬ zdB (zbu sec (b.take 32)) := fun h => by rw [zdX h] at c26; cases c26
    rw [zcq hno] at E H
    simp only at E H
    refine zaN E rfl ?_; refine wp_skip ?_; refine hK6 _ _ ?_; refine wp_seq_k fun K9 hK9 => ?_
    obtain ⟨A30, c30, h30, hT30⟩ := zeE (lo := 32) (H.fact 0 rfl) (by omega)
    replace H := H.know hT30
    clear hT30; replace H : Sep _ _ _ _ [_, _, _] [_, _, _, _] := H; refine zbr E H [] 7 [(0, false), (1, false), (2, false), (3, false), (4, true), (5, false), (6, false)] (by kernel_rfl) (by kernel_rfl) (fun w HS => ?_)
    (simp only [canOps, jD, jE, jF, jG])
    clear H
    have H := HS
    have hsz : w.heap.size ≤ w.heap.size := jV _
    have HK : CanB.Keep (fun k => k < w.heap.size ∧ k ∉ []) w w := CanB.Keep.refl _ _
    refine Cw E HK (zcr (n := 32) HS 0 rfl rfl rfl (HS.inS 0 rfl (by simp)) rfl (by kernel_rfl)) fun a E => ?_; refine Cw E HK pkm fun a E => ?_; refine Cw E HK (zdS (sz := 1) (lo := 32) rfl (by kernel_rfl) rfl rfl rfl (by omega)) fun a E => ?_
    rw [h30] at E
    refine Cw E HK pkm fun a E => ?_; refine zfC E rfl (fun K hK => ?_); refine Vc E ?_; refine (zuD (k := (zb5 gt (zbu sec (b.take 32)) (b.take 32) (zdk sec))) (bs := b.drop 32) (ts := ts) (zgN _ _ _ _) (zf6 _ _ _ _) hts H.xk (H.fact 0 rfl) (H.fact 2 rfl) (H.fact 3 rfl)).mono ?_; rintro e w ⟨A32, c32, rfl, H1⟩
    have F := H1.frm
    replace H := H.call H1
    clear H1; replace H : Sep _ _ _ _ [_, _, _] [_, _, _, _, _] := H
    have hk := zaI (D := []) F hsz (by simp)
    refine hK _ _ hk ?_; clear hK K
    replace HK := HK.trans hk
    replace hsz := jU hsz (F).size
    clear hk; refine zfD E rfl rfl ?_; clear E a; intro a E; clear F; refine Cw E HK (zaV rfl rfl rfl) fun a E => ?_; refine Cw E HK (zaV rfl rfl rfl) fun a E => ?_; refine CanB.wpCan_nil ?_
    try (simp only [jH, jI, jF, jG])
    clear HS HK hsz; refine Vv E pka fun a E => ?_; refine Vv E pka fun a E => ?_; refine hK9 _ _ ?_; refine wp_ret ?_
    repeat (first | refine zat ?_ | refine zap ?_)
    refine zeO rfl E (zbT rfl) (zbT rfl) ?_
    rw [show zcP gt sec b ts = (zcN gt (zb5 gt (zbu sec (b.take 32)) (b.take 32) (zdk sec)) (b.drop 32) ts) from by unfold zcP; rw [if_neg hlt, if_neg hno]]
    exact ⟨A32, c32, rfl, Sep.keepLR (L := []) (R := [_]) H⟩
end
section
open Go.RowKit
attribute [local irreducible] zer zie zkG zbu zdk zc3 zcN zeS zgs zb5 zcw zei zgM zdy zrA zn3 zcP
theorem zkb {BA TA : Option Addr} {bc tc : Nat} {ks b ko km kt : List Nat} {ts : List (List Nat)} {tm : Nat → zav.μ} {gt : Nat → Nat} (hls : ks.length = 32) (hbs : ∀ x ∈ ks, x < 256) (hlo : ko.length = 32) (hbo : ∀ x ∈ ko, x < 256) (hlm : km.length = 32) (hbm : ∀ x ∈ km, x < 256) (hlt : kt.length = 32) (hbt : ∀ x ∈ kt, x < 256) {X : List Nat} {w0 : World} (hX : ∀ k ∈ X, k < w0.heap.size) (hB : St (TxF BA bc b) w0 X) (hL : St (LiF zav TA tc ts tm) w0 X) (hG : St (AtC ⟨2, 0, none⟩ [.row 64 fun i => u32 (gt i)]) w0 X) (hK : St (AtC ⟨1, 0, none⟩ [.row 64 fun i => u32 (gt i)]) w0 X) :
  Calls Tryz.prog 4 #[.agg (ca [.key ks]), .slice BA b.length bc, .slice TA ts.length tc, .agg (ca [.key ko]), .agg (ca [.key km]), .agg (ca [.key kt])] w0 fun e w' => e = .returned (.bool true) ∧ Sep X [] w0 w' [] [] := by
 refine zaz Tryz.ntmps4 Tryz.func4 rfl rfl fun a E => ?_; replace E : Env a _ [(0, _), (1, _), (2, _), (3, _), (4, _), (5, _)] := E
 have H : Sep X [] w0 w0 [] [(TxF BA bc b), (LiF zav TA tc ts tm), (AtC ⟨2, 0, none⟩ [.row 64 fun i => u32 (gt i)]), (AtC ⟨1, 0, none⟩ [.row 64 fun i => u32 (gt i)])] := Sep.start hX (jJ.2 ⟨hB, jJ.2 ⟨hL, jJ.2 ⟨hG, jJ.2 ⟨hK, fun _ h => by cases h⟩⟩⟩⟩)
 refine Vr ?_; refine Wb E H fun b6 w a H E => ?_; refine Wb E H fun b9 w a H E => ?_; refine Wb E H fun b10 w a H E => ?_; refine Wb E H fun b11 w a H E => ?_; refine Vv E pka fun a E => ?_; refine Vn ?_; refine Vr ?_; refine Ve E ?_; refine Vc E ?_; refine (zrD H.xk (H.fact 2 rfl)).mono ?_; rintro e w ⟨rfl, H1⟩
 replace H := H.call H1
 clear H1; replace H : Sep _ _ _ _ [_, _, _, _] [_, _, _, _] := H; refine Vp E fun a E => ?_; refine Vv E pka fun a E => ?_; refine Vn ?_; refine wp_seq_k fun K2 hK2 => ?_; refine Vr ?_; refine Vv E pkm fun a E => ?_; refine Vv E (zkf rfl rfl) fun a E => ?_; refine Vn ?_; refine zaN E rfl ?_; refine wp_skip ?_; refine hK2 _ _ ?_; refine wp_seq_k fun K4 hK4 => ?_; refine Vr ?_; refine Vv E pkm fun a E => ?_; refine Vv E pkn fun a E => ?_; refine Vv E pki fun a E => ?_
 refine Vv E pkm fun a E => ?_; refine zau (d := 28) E rfl ?_ ?_
 ·skip
  clear E; intro c28 E; refine zmM E rfl rfl rfl ?_; clear E a; intro a E; refine zmM E rfl rfl rfl ?_; clear E a; intro a E; refine zmM E rfl rfl rfl ?_; clear E a; intro a E; refine Vv E (zep rfl rfl rfl) fun a E => ?_; refine Vn ?_; refine za7 E rfl ?_; refine Vr ?_; refine Vv E pkm fun a E => ?_; refine Vv E pka fun a E => ?_; refine Vn ?_; refine wp_ret ?_
  repeat (first | refine zat ?_ | refine zap ?_)
  refine zf8 rfl E (zbT rfl) ?_
  exact ⟨rfl, H.keepLR (L := []) (R := [])⟩
 ·skip
  clear E; intro c28 E; refine Vv E pkm fun a E => ?_; refine Ve E ?_; refine Vc E ?_; refine (zuz H.xk (H.fact 1 rfl)).mono ?_; rintro e w ⟨rfl, H1⟩
  replace H := H.call H1
  clear H1; replace H : Sep _ _ _ _ [_, _, _, _] [_, _, _, _] := H; refine Vp E fun a E => ?_; refine Vv E (zkf rfl rfl) fun a E => ?_; refine Vv E (zep rfl rfl rfl) fun a E => ?_; refine Vn ?_; refine zau (d := 32) E rfl ?_ ?_
  ·skip
   clear E; intro c32 E; refine za7 E rfl ?_; refine Vr ?_; refine Vv E pkm fun a E => ?_; refine Vv E pka fun a E => ?_; refine Vn ?_; refine wp_ret ?_
   repeat (first | refine zat ?_ | refine zap ?_)
   refine zf8 rfl E (zbT rfl) ?_
   exact ⟨rfl, H.keepLR (L := []) (R := [])⟩
  ·skip
   clear E; intro c32 E
   have hts : ts.length ≤ 1000 := zwv (by simpa using c32)
   refine zaN E rfl ?_; refine wp_skip ?_; refine hK4 _ _ ?_; refine Vr ?_; refine Vv E (pkl 32 H 3) fun a E => ?_; refine Vv E pkm fun a E => ?_; refine Vv E pkm fun a E => ?_; refine Ve E ?_; refine Vc E ?_; refine (zrC (sec := ks) (b := b) (ts := ts) hls hbs hts H.xk (H.fact 0 rfl) (H.fact 1 rfl) (H.fact 2 rfl)).mono ?_; rintro e w ⟨A38, c38, rfl, H1⟩
   replace H := H.call H1
   clear H1; replace H : Sep _ _ _ _ [_, _, _, _] [_, _, _, _, _] := H; refine Vp E fun a E => ?_; refine Vv E pkm fun a E => ?_; refine Vv E pkx fun a E => ?_; refine Vv E pkx fun a E => ?_; refine Vv E pka fun a E => ?_; refine Vv E pka fun a E => ?_; refine Vn ?_; refine Vr ?_; refine Vv E (pkl 32 H 3) fun a E => ?_; refine Vv E pkm fun a E => ?_; refine Vv E pkm fun a E => ?_; refine Ve E ?_
   refine Vc E ?_; refine (zrE (sec := ks) (b := b) (ts := ts) hls hbs hts H.xk (H.fact 1 rfl) (H.fact 2 rfl) (H.fact 4 rfl)).mono ?_; rintro e w ⟨A45, c45, rfl, H1⟩
   replace H := H.call H1
   clear H1; replace H : Sep _ _ _ _ [_, _, _, _] [_, _, _, _, _, _] := H; refine Vp E fun a E => ?_; refine Vv E pkm fun a E => ?_; refine Vv E pkx fun a E => ?_; refine Vv E pkx fun a E => ?_; refine Vv E pka fun a E => ?_; refine Vv E pka fun a E => ?_; refine Vn ?_; refine Vr ?_; refine Vv E (pkl 32 H 3) fun a E => ?_; refine Vv E (pkl 32 H 2) fun a E => ?_
   refine Vv E (pkl 32 H 1) fun a E => ?_; refine Vv E (pkl 32 H 0) fun a E => ?_; refine Ve E ?_; refine Vc E ?_; refine (ze8 (sec := ks) (oth := ko) (mine := km) (theirs := kt) hbs hbo hlm hbm hlt hbt H.xk (H.fact 4 rfl)).mono ?_; rintro e w ⟨rfl, H1⟩
   replace H := H.call H1
   clear H1; replace H : Sep _ _ _ _ [_, _, _, _] [_, _, _, _, _, _] := H; refine Vp E fun a E => ?_; refine Vv E pkm fun a E => ?_; refine Vv E pkx fun a E => ?_; refine Vv E pkx fun a E => ?_; refine Wa (z := [.key []]) E H fun b18 w a H E => ?_; refine Ws 0 E H fun w H => ?_; replace H : Sep _ _ _ _ [_, _, _, _, _] _ := H
   refine Vv E pka fun a E => ?_; refine Vn ?_; refine Vr ?_; refine Vv E (pkl 32 H 4) fun a E => ?_; refine Vv E (pkl 32 H 3) fun a E => ?_; refine Vv E (pkl 32 H 2) fun a E => ?_; refine Vv E (pkl 32 H 1) fun a E => ?_; refine Ve E ?_; refine Vc E ?_; refine (zfy (sec := ks) (oth := ko) (mine := km) (theirs := kt) hbs hbo hlm hbm hlt hbt H.xk (H.fact 5 rfl)).mono ?_; rintro e w ⟨rfl, H1⟩
   replace H := H.call H1
   clear H1; replace H : Sep _ _ _ _ [_, _, _, _, _] [_, _, _, _, _, _] := H; refine Vp E fun a E => ?_; refine Vv E pkm fun a E => ?_; refine Vv E pkx fun a E => ?_; refine Vv E pkx fun a E => ?_; refine Wa (z := [.key []]) E H fun b20 w a H E => ?_; refine Ws 0 E H fun w H => ?_; replace H : Sep _ _ _ _ [_, _, _, _, _, _] _ := H; refine Vv E pka fun a E => ?_; refine Vn ?_; refine Vr ?_; refine Vv E pkm fun a E => ?_; refine Vv E pkm fun a E => ?_; refine Vv E pkm fun a E => ?_; refine Vv E pkm fun a E => ?_; refine Ve E ?_; refine Vc E ?_; refine (zA3 (l := (zcP gt ks b ts).1) (l' := (zcP gt ks b ts).1) (H.fact 1 rfl) (H.fact 0 rfl)).mono ?_; rintro e w ⟨rfl, rfl⟩; refine Vp E fun a E => ?_
   rw [decide_eq_true rfl] at E
   refine Vv E (zep rfl rfl rfl) fun a E => ?_; refine Vv E pkm fun a E => ?_; refine Vv E pkm fun a E => ?_; refine Vv E pkm fun a E => ?_; refine Vv E (zbD (v := .bool true) rfl rfl rfl (congrArg (fun b => some (Value.bool b)) (beq_self_eq_true _))) fun a E => ?_; refine Vv E (zep rfl rfl rfl) fun a E => ?_; refine Vv E pkm fun a E => ?_; refine Vv E (pkl 32 H 1) fun a E => ?_; refine Vv E (pkl 32 H 0) fun a E => ?_
   refine Vv E (zzD rfl (⟨_, Tryz.underlying23, Tryz.underlying5, by kernel_rfl, by kernel_rfl⟩) rfl rfl (rfl)) fun a E => ?_; refine Vv E (zep rfl rfl rfl) fun a E => ?_; refine Vv E pkm fun a E => ?_; refine Vv E pkm fun a E => ?_; refine Vv E pkm fun a E => ?_; refine Vv E (zbD (v := .bool true) rfl rfl rfl (congrArg (fun b => some (Value.bool b)) (beq_self_eq_true _))) fun a E => ?_; refine Vv E (zep rfl rfl rfl) fun a E => ?_; refine Vv E pka fun a E => ?_; refine Vn ?_; refine wp_ret ?_
   repeat (first | refine zat ?_ | refine zap ?_)
   refine zf8 rfl E (zbT rfl) ?_
   exact ⟨rfl, H.keepLR (L := []) (R := [])⟩
end
end Go.Proofs.YtfolbgiekbimpaaGreatDoor
