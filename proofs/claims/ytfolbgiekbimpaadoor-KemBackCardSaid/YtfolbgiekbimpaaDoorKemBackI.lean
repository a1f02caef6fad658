/- Boxes (layer 8). The chapter's example; the law SealStream: whatever the key and the texts, it answers true. Few texts; the same texts; streams, plain. The chapter's example; the laws KemMeets, KemSeeds, KemBack: whatever the input, they answer true. -/
import Derived.Test.YtfolbgiekbimpaaDoorKemBackH
namespace Go.Proofs.YtfolbgiekbimpaaDoor
set_option linter.unusedSimpArgs false
set_option linter.unusedVariables false
open Go.RowKit

theorem cutB_congr {u v : Nat → Nat} (h : ∀ i, i < 32 → u i = v i) : ∀ i, i < 32 → cutB u i = cutB v i := fun i hi => by
  unfold cutB
  split
  · rw [h 31 (by decide)]
  · exact h i hi
theorem zero_of_byte {v : Nat} (hv : v < pN) (h : ∀ i, i < 32 → byteN v i = 0) : v = 0 := by
  have h1 := keyU_byte v hv
  have h2 : keyU (byteN v) = keyU (byteN 0) := keyU_congr (cutB_congr fun i hi => by rw [h i hi, byteN_zero])
  rw [h1, keyU_byte 0 zero_lt_p] at h2
  exact h2
theorem getD_range (f : Nat → Nat) (i : Nat) (hi : i < 32) : ((List.range 32).map f).getD i 0 = f i := by
  rw [List.getD_eq_getElem?_getD, List.getElem?_map, List.getElem?_range hi]
  rfl
theorem nine_key : keyU nineN = 9 := keyU_nine
theorem keyU_base (b : List Nat) : keyU (fun i => (baseK b).getD i 0) = multV (fun i => b.getD i 0) 9 := by
  rw [← keyU_byte (multV (fun i => b.getD i 0) 9) (mult_lt _ _)]
  refine keyU_congr (cutB_congr fun i hi => ?_)
  show (baseK b).getD i 0 = _
  unfold baseK
  rw [getD_range _ i hi, nine_key]
/-- Two secrets have a key. -/
theorem share_ne (a b : List Nat) : ¬ noneK (multK a (baseK b)) := fun h => by
  have h1 := keyL_eq.1 h
  refine mult_base_ne (fun i => a.getD i 0) (fun i => b.getD i 0) ?_
  refine zero_of_byte (mult_lt _ _) fun i hi => ?_
  have h2 := h1 i hi
  unfold multK at h2
  rw [getD_range _ i hi, keyU_base] at h2
  exact h2
/-- They have one key. -/
theorem share_turn (a b : List Nat) : multK a (baseK b) = multK b (baseK a) := by
  unfold multK
  rw [keyU_base, keyU_base, mult_turn _ _ 9 nineL_lt]
theorem kbox_none {gt : Nat → Nat} {point seed plain : List Nat} {ts : List (List Nat)} (h : noneK (multK (boxSec gt seed) point)) : kboxR gt point seed plain ts = ([], 1) := by unfold kboxR; rw [if_pos h]
theorem kbox_long {gt : Nat → Nat} {point seed plain : List Nat} {ts : List (List Nat)} (h : ¬ noneK (multK (boxSec gt seed) point)) (ho : ¬ okT ts) : kboxR gt point seed plain ts = ([], 4) := by unfold kboxR; rw [if_neg h, if_neg ho]
theorem kbox_ok {gt : Nat → Nat} {point seed plain : List Nat} {ts : List (List Nat)} (h : ¬ noneK (multK (boxSec gt seed) point)) (ho : okT ts) : kboxR gt point seed plain ts = (boxPt gt seed ++ (sealR gt (sharedK gt (multK (boxSec gt seed) point) (boxPt gt seed) point) plain ts).1, 0) := by unfold kboxR; rw [if_neg h, if_pos ho]
theorem seal_ok2 {gt : Nat → Nat} {k plain : List Nat} {ts : List (List Nat)} (h : okT ts) : (sealR gt k plain ts).2 = 0 := by unfold sealR; rw [if_pos h]
theorem seal_no2 {gt : Nat → Nat} {k plain : List Nat} {ts : List (List Nat)} (h : ¬ okT ts) : sealR gt k plain ts = ([], 4) := by unfold sealR; rw [if_neg h]
theorem flat_two (a b : List Nat) : [a, b].flatten = a ++ b := by simp
attribute [local irreducible] macV expV derV multK baseK sealR openR strV tagV sharedK boxSec boxPt kboxR
set_option maxRecDepth 100000 in
set_option maxHeartbeats 1000000 in
theorem KBox_any {PA TA : Option Addr} {pc tc : Nat} {point seed plain : List Nat} {ts : List (List Nat)} {tm : Nat → TextT.μ} {gt : Nat → Nat} (hp32 : point.length = 32) (hpb : ∀ x ∈ point, x < 256) (hs32 : seed.length = 32) (hsb : ∀ x ∈ seed, x < 256) (hpl : plain.length ≤ 1048576) (hts : ts.length ≤ 1000) {X : List Nat} {w0 : World} (hX : ∀ k ∈ X, k < w0.heap.size) (hP : St (TxF PA pc plain) w0 X) (hL : St (LiF TextT TA tc ts tm) w0 X) (hG : St (AtC ⟨1, 0, none⟩ [.row 64 fun i => u32 (gt i)]) w0 X) :
    Calls Tryd.prog 10 #[.agg (ca [.key point]), .agg (ca [.key seed]), .slice PA plain.length pc, .slice TA ts.length tc] w0 fun e w' => ∃ A' c', e = .returned (.tuple #[.slice A' (kboxR gt point seed plain ts).1.length c', .int .i64 (kboxR gt point seed plain ts).2]) ∧ Sep X [] w0 w' [] [TxF A' c' (kboxR gt point seed plain ts).1] := by
  refine calls_env Tryd.ntmps10 Tryd.func10 rfl rfl fun a E => ?_; replace E : Env a _ [(0, _), (1, _), (2, _), (3, _)] := E
  have H : Sep X [] w0 w0 [] [(TxF PA pc plain), (LiF TextT TA tc ts tm), (AtC ⟨1, 0, none⟩ [.row 64 fun i => u32 (gt i)])] := Sep.start hX (List.forall_mem_cons.2 ⟨hP, List.forall_mem_cons.2 ⟨hL, List.forall_mem_cons.2 ⟨hG, fun _ h => by cases h⟩⟩⟩)
  refine wp_seq_k fun K0 hK0 => ?_; refine S_region ?_; refine S_eff E rfl (fun K hK => ?_); refine eff_box E H rfl rfl rfl ?_; clear H; intro b4 w H _; refine hK _ _ ?_; clear hK K; refine S_put E rfl rfl ?_; clear E a; intro a E; refine S_eff E rfl (fun K hK => ?_); refine eff_box E H rfl rfl rfl ?_; clear H; intro b5 w H _; refine hK _ _ ?_; clear hK K; refine S_put E rfl rfl ?_; clear E a; intro a E; refine S_val E (pk_assign rfl rfl) rfl rfl rfl ?_; clear E a; intro a E; refine S_val E (pk_assign rfl rfl) rfl rfl rfl ?_; clear E a; intro a E; refine hK0 _ _ ?_; refine wp_seq_k fun K1 hK1 => ?_; refine S_region ?_; refine S_val E (pk_load (n := 32) H 0 rfl rfl rfl trivial rfl (by kernel_rfl)) rfl rfl rfl ?_; clear E a; intro a E; refine S_eff E rfl (fun K hK => ?_); refine eff_call E rfl rfl rfl (by kernel_rfl) ?_
  refine (kderive_any (k := seed) (lab := boxL) rfl (by decide) hs32 hsb H.xk (H.fact 2 rfl)).mono ?_; rintro e w ⟨rfl, H1⟩
  replace H := H.call H1
  clear H1; replace H : Sep _ _ _ _ [_, _] [_, _, _] := H; refine hK _ _ ?_; clear hK K; refine S_put E rfl rfl ?_; clear E a; intro a E; refine S_eff E rfl (fun K hK => ?_); refine eff_call E rfl rfl rfl (by kernel_rfl) ?_; refine (Pair_any (seed := derV gt seed boxL []) (derV_len _ _ _ _) (derV_byte _ _ _ _) H.xk (H.fact 2 rfl)).mono ?_; rintro e w ⟨rfl, H1⟩
  replace H := H.call H1
  clear H1; replace H : Sep _ _ _ _ [_, _] [_, _, _] := H; refine hK _ _ ?_; clear hK K; refine S_put E rfl rfl ?_; clear E a; intro a E; refine S_val E (pk_move rfl rfl) rfl rfl rfl ?_; clear E a; intro a E; refine S_val E (pk_extract rfl rfl rfl) rfl rfl rfl ?_; clear E a; intro a E; refine S_val E (pk_extract rfl rfl rfl) rfl rfl rfl ?_; clear E a; intro a E; refine S_eff E rfl (fun K hK => ?_); refine eff_alloc (z := [.key []]) H rfl (by kernel_rfl) ?_; clear H; intro b10 w H _; refine hK _ _ ?_; clear hK K; refine S_put E rfl rfl ?_; clear E a; intro a E; refine S_eff E rfl (fun K hK => ?_); refine eff_alloc (z := [.key []]) H rfl (by kernel_rfl) ?_; clear H; intro b11 w H _; refine hK _ _ ?_; clear hK K; refine S_put E rfl rfl ?_; clear E a; intro a E; refine S_eff E rfl (fun K hK => ?_)
  refine eff_store 1 E H rfl rfl rfl rfl rfl (by repeat (first | exact trivial | refine ⟨rfl, ?_⟩ | refine ⟨fun _ _ => rfl, ?_⟩)) rfl (by kernel_rfl) rfl ?_; clear H; intro w H _; replace H : Sep _ _ _ _ [_, _, _, _] _ := H; refine hK _ _ ?_; clear hK K; refine S_put0 rfl ?_; refine S_eff E rfl (fun K hK => ?_); refine eff_store 0 E H rfl rfl rfl rfl rfl (by repeat (first | exact trivial | refine ⟨rfl, ?_⟩ | refine ⟨fun _ _ => rfl, ?_⟩)) rfl (by kernel_rfl) rfl ?_; clear H; intro w H _; replace H : Sep _ _ _ _ [_, _, _, _] _ := H; refine hK _ _ ?_; clear hK K; refine S_put0 rfl ?_
  replace H : Sep X [] w0 w [.blk b11 (ca [.key (boxPt gt seed)]) 23, .blk b10 (ca [.key (boxSec gt seed)]) 23, .blk b5 (ca [.key seed]) 23, .blk b4 (ca [.key point]) 23 ] [TxF PA pc plain, LiF TextT TA tc ts tm, AtC ⟨1, 0, none⟩ [.row 64 fun i => u32 (gt i)]] := by with_unfolding_all exact H
  refine hK1 _ _ ?_; refine wp_seq_k fun K2 hK2 => ?_; refine S_region ?_; refine S_val E (pk_load (n := 32) H 1 rfl rfl rfl trivial rfl (by kernel_rfl)) rfl rfl rfl ?_; clear E a; intro a E; refine S_val E (pk_load (n := 32) H 3 rfl rfl rfl trivial rfl (by kernel_rfl)) rfl rfl rfl ?_; clear E a; intro a E; refine S_val E (pk_load (n := 32) H 0 rfl rfl rfl trivial rfl (by kernel_rfl)) rfl rfl rfl ?_; clear E a; intro a E; refine S_val E (pk_load (n := 32) H 3 rfl rfl rfl trivial rfl (by kernel_rfl)) rfl rfl rfl ?_; clear E a; intro a E; refine S_eff E rfl (fun K hK => ?_); refine eff_call E rfl rfl rfl (by kernel_rfl) ?_; refine (Shared_any (sec := (boxSec gt seed)) (oth := point) (mine := (boxPt gt seed)) (theirs := point) (boxSec_byte _ _) hpb (boxPt_len _ _) (boxPt_byte _ _) hp32 hpb H.xk (H.fact 2 rfl)).mono ?_; rintro e w ⟨rfl, H1⟩
  replace H := H.call H1
  clear H1; replace H : Sep _ _ _ _ [_, _, _, _] [_, _, _] := H; refine hK _ _ ?_; clear hK K; refine S_put E rfl rfl ?_; clear E a; intro a E; refine S_val E (pk_move rfl rfl) rfl rfl rfl ?_; clear E a; intro a E; refine S_val E (pk_extract rfl rfl rfl) rfl rfl rfl ?_; clear E a; intro a E; refine S_val E (pk_extract rfl rfl rfl) rfl rfl rfl ?_; clear E a; intro a E; refine S_eff E rfl (fun K hK => ?_); refine eff_alloc (z := [.key []]) H rfl (by kernel_rfl) ?_; clear H; intro b12 w H _; refine hK _ _ ?_; clear hK K; refine S_put E rfl rfl ?_; clear E a; intro a E; refine S_eff E rfl (fun K hK => ?_); refine eff_store 0 E H rfl rfl rfl rfl rfl (by repeat (first | exact trivial | refine ⟨rfl, ?_⟩ | refine ⟨fun _ _ => rfl, ?_⟩)) rfl (by kernel_rfl) rfl ?_; clear H; intro w H _; replace H : Sep _ _ _ _ [_, _, _, _, _] _ := H; refine hK _ _ ?_; clear hK K; refine S_put0 rfl ?_
  refine S_val E (pk_assign rfl rfl) rfl rfl rfl ?_; clear E a; intro a E; refine hK2 _ _ ?_; refine wp_seq_k fun K3 hK3 => ?_; refine wp_seq_k fun K4 hK4 => ?_; refine S_region ?_; refine S_val E (pk_move rfl rfl) rfl rfl rfl ?_; clear E a; intro a E; refine S_val E (pk_int rfl rfl rfl rfl) rfl rfl rfl ?_; clear E a; intro a E; refine hK4 _ _ ?_; refine env_split (d := 30) E rfl ?_ ?_
  · skip
    clear E; intro c30 E
    have hno : noneK (multK (boxSec gt seed) point) := Classical.byContradiction fun h => by rw [shared_yes h] at c30; cases c30
    refine S_then E rfl ?_; refine wp_seq_k fun K5 hK5 => ?_; refine S_region ?_; refine S_val E (pk_move rfl rfl) rfl rfl rfl ?_; clear E a; intro a E; refine S_val E (pk_assign rfl rfl) rfl rfl rfl ?_; clear E a; intro a E; refine S_val E (pk_assign rfl rfl) rfl rfl rfl ?_; clear E a; intro a E; refine hK5 _ _ ?_; refine wp_ret ?_
    repeat (first | refine then_ret ?_ | refine block_ret ?_)
    refine ret2 rfl E (resT rfl) (resT rfl) ?_
    rw [kbox_none hno]
    exact ⟨none, 0, by rw [shared_no hno]; rfl, (Sep.keepLR (L := []) (R := [_]) (H.know txF_nil))⟩
  · skip
    clear E; intro c30 E
    have hno : ¬ noneK (multK (boxSec gt seed) point) := fun h => by rw [shared_no h] at c30; cases c30
    rw [shared_yes hno] at E H
    simp only at E H
    refine S_else E rfl ?_; refine wp_skip ?_; refine hK3 _ _ ?_; refine wp_seq_k fun K6 hK6 => ?_; refine S_region ?_; refine S_val E (pk_load (n := 32) H 0 rfl rfl rfl trivial rfl (by kernel_rfl)) rfl rfl rfl ?_; clear E a; intro a E; refine S_val E (pk_move rfl rfl) rfl rfl rfl ?_; clear E a; intro a E; refine S_val E (pk_move rfl rfl) rfl rfl rfl ?_; clear E a; intro a E; refine S_eff E rfl (fun K hK => ?_); refine eff_call E rfl rfl rfl (by kernel_rfl) ?_; refine (Seal_any (k := (sharedK gt (multK (boxSec gt seed) point) (boxPt gt seed) point)) (plain := plain) (ts := ts) (sharedK_len _ _ _ _) (sharedK_byte _ _ _ _) hpl hts H.xk (H.fact 0 rfl) (H.fact 1 rfl) (H.fact 2 rfl)).mono ?_; rintro e w ⟨A36, c36, rfl, H1⟩
    replace H := H.call H1
    clear H1; replace H : Sep _ _ _ _ [_, _, _, _, _, _] [_, _, _] := H; refine hK _ _ ?_; clear hK K; refine S_put E rfl rfl ?_; clear E a; intro a E; refine S_val E (pk_move rfl rfl) rfl rfl rfl ?_; clear E a; intro a E; refine S_val E (pk_extract rfl rfl rfl) rfl rfl rfl ?_; clear E a; intro a E; refine S_val E (pk_extract rfl rfl rfl) rfl rfl rfl ?_; clear E a; intro a E; refine S_val E (pk_assign rfl rfl) rfl rfl rfl ?_; clear E a; intro a E; refine S_val E (pk_assign rfl rfl) rfl rfl rfl ?_; clear E a; intro a E; refine hK6 _ _ ?_; refine wp_seq_k fun K7 hK7 => ?_; refine wp_seq_k fun K8 hK8 => ?_; refine S_region ?_; refine S_val E (pk_move rfl rfl) rfl rfl rfl ?_; clear E a; intro a E; refine S_val E (pk_int rfl rfl rfl rfl) rfl rfl rfl ?_; clear E a; intro a E; refine hK8 _ _ ?_; refine env_split (d := 40) E rfl ?_ ?_
    · skip
      clear E; intro c40 E
      have hok : ¬ okT ts := fun h => by rw [seal_ok2 h] at c40; cases c40
      refine S_then E rfl ?_; refine wp_seq_k fun K9 hK9 => ?_; refine S_region ?_; refine S_val E (pk_move rfl rfl) rfl rfl rfl ?_; clear E a; intro a E; refine S_val E (pk_assign rfl rfl) rfl rfl rfl ?_; clear E a; intro a E; refine S_val E (pk_assign rfl rfl) rfl rfl rfl ?_; clear E a; intro a E; refine hK9 _ _ ?_; refine wp_ret ?_
      repeat (first | refine then_ret ?_ | refine block_ret ?_)
      refine ret2 rfl E (resT rfl) (resT rfl) ?_
      rw [kbox_long hno hok]
      exact ⟨none, 0, by rw [seal_no2 hok]; rfl, (Sep.keepLR (L := []) (R := [_]) (H.know txF_nil))⟩
    · skip
      clear E; intro c40 E
      have hok : okT ts := Classical.byContradiction fun h => by rw [seal_no2 h] at c40; cases c40
      refine S_else E rfl ?_; refine wp_skip ?_; refine hK7 _ _ ?_; refine wp_seq_k fun K10 hK10 => ?_
      have hSl := sealR_len gt (sharedK gt (multK (boxSec gt seed) point) (boxPt gt seed) point) plain ts
      refine S_region ?_; refine S_val E (pk_subP (N := 32) (sz := 1) rfl (by kernel_rfl) rfl) rfl rfl rfl ?_; clear E a; intro a E; refine S_val E (pk_move rfl rfl) rfl rfl rfl ?_; clear E a; intro a E; refine S_eff E rfl (fun K hK => ?_); refine eff_bslice (sz := 1) (z := [.one (.slice none 0 0), .one (.slice none 0 0)]) E H rfl Tryd.underlying37 (by kernel_rfl) (by decide) (by kernel_rfl) ⟨_, [.one _], 0, _, rfl, rfl, rfl, rfl, ⟨_, [.one _], 1, _, rfl, rfl, rfl, rfl, rfl⟩⟩ ?_; clear H; intro b44 w H _; refine hK _ _ ?_; clear hK K; refine S_put E rfl rfl ?_; clear E a; intro a E; refine S_eff E rfl (fun K hK => ?_); refine eff_call E rfl rfl rfl (by kernel_rfl) ?_
      have HA := H.lend 0 rfl
      have HC := HA.rowTx (Sep.new_x HA) (by omega) (sealR_byte _ _ _ _)
      have HB := HC.lend 1 rfl
      have hm := txF_at (k := (boxPt gt seed)) (c := 32) (HB.fact 0 rfl) (by rw [cl_key, keyL_self (boxPt_len _ _)]) (by rw [boxPt_len]; omega) (by rw [boxPt_len]; omega) (boxPt_byte _ _)
      have hli := liF_at (T := TextT) (its := [(((boxPt gt seed), (some ⟨b11, 0, none⟩, 32)): List Nat × TextT.μ), ((sealR gt (sharedK gt (multK (boxSec gt seed) point) (boxPt gt seed) point) plain ts).1, (A36, c36))]) (c := 2) (xs := [(boxPt gt seed), (sealR gt (sharedK gt (multK (boxSec gt seed) point) (boxPt gt seed) point) plain ts).1]) (HB.fact 2 rfl) (by rw [← text2, boxPt_len]) (nest_snoc (its := [_]) (q := (((sealR gt (sharedK gt (multK (boxSec gt seed) point) (boxPt gt seed) point) plain ts).1, (A36, c36)): List Nat × TextT.μ)) (nest_snoc (its := []) (q := (((boxPt gt seed), (some ⟨b11, 0, none⟩, 32)): List Nat × TextT.μ)) nest_nil hm) (HB.fact 1 rfl)) rfl (by show 2 ≤ 2; decide) (by show 2 ≤ _; decide)
      have H2 := HB.know hli
      clear H HA HC HB hm hli
      have H := H2
      clear H2; replace H : Sep _ _ _ _ [_, _, _, _] [_, _, _, _, _, _, _] := H; refine (Concat_any (ps := [(boxPt gt seed), (sealR gt (sharedK gt (multK (boxSec gt seed) point) (boxPt gt seed) point) plain ts).1]) (by rw [flat_two, List.length_append, boxPt_len]; omega) H.xk (H.fact 0 rfl)).mono ?_; rintro e w ⟨A45, c45, rfl, H1⟩
      replace H := H.call H1
      clear H1; replace H : Sep _ _ _ _ [_, _, _, _] [_, _, _, _, _, _, _, _] := H; refine hK _ _ ?_; clear hK K; refine S_put E rfl rfl ?_; clear E a; intro a E; refine S_val E (pk_assign rfl rfl) rfl rfl rfl ?_; clear E a; intro a E; refine S_val E (pk_assign rfl rfl) rfl rfl rfl ?_; clear E a; intro a E; refine hK10 _ _ ?_; refine wp_ret ?_
      repeat (first | refine then_ret ?_ | refine block_ret ?_)
      refine ret2 rfl E (resT rfl) (resT rfl) ?_
      rw [kbox_ok hno hok, ← flat_two]
      exact ⟨A45, c45, rfl, Sep.keepLR (L := []) (R := [_]) H⟩
set_option maxRecDepth 100000 in
set_option maxHeartbeats 1000000 in
theorem KUnbox_any {BA TA : Option Addr} {bc tc : Nat} {sec b : List Nat} {ts : List (List Nat)} {tm : Nat → TextT.μ} {gt : Nat → Nat} (hs32 : sec.length = 32) (hsb : ∀ x ∈ sec, x < 256) (hts : ts.length ≤ 1000) {X : List Nat} {w0 : World} (hX : ∀ k ∈ X, k < w0.heap.size) (hB : St (TxF BA bc b) w0 X) (hL : St (LiF TextT TA tc ts tm) w0 X) (hG : St (AtC ⟨1, 0, none⟩ [.row 64 fun i => u32 (gt i)]) w0 X) :
    Calls Tryd.prog 13 #[.agg (ca [.key sec]), .slice BA b.length bc, .slice TA ts.length tc] w0 fun e w' => ∃ A' c', e = .returned (.tuple #[.slice A' (unboxR gt sec b ts).1.length c', .int .i64 (unboxR gt sec b ts).2]) ∧ Sep X [] w0 w' [] [TxF A' c' (unboxR gt sec b ts).1] := by
  have hbl := hB.now.len
  have hbc := hB.now.cap
  have hbb := hB.now.byt
  refine calls_env Tryd.ntmps13 Tryd.func13 rfl rfl fun a E => ?_; replace E : Env a _ [(0, _), (1, _), (2, _)] := E
  have H : Sep X [] w0 w0 [] [(TxF BA bc b), (LiF TextT TA tc ts tm), (AtC ⟨1, 0, none⟩ [.row 64 fun i => u32 (gt i)])] := Sep.start hX (List.forall_mem_cons.2 ⟨hB, List.forall_mem_cons.2 ⟨hL, List.forall_mem_cons.2 ⟨hG, fun _ h => by cases h⟩⟩⟩)
  refine wp_seq_k fun K0 hK0 => ?_; refine S_region ?_; refine S_eff E rfl (fun K hK => ?_); refine eff_box E H rfl rfl rfl ?_; clear H; intro b3 w H _; refine hK _ _ ?_; clear hK K; refine S_put E rfl rfl ?_; clear E a; intro a E; refine S_val E (pk_assign rfl rfl) rfl rfl rfl ?_; clear E a; intro a E; refine S_val E (pk_assign rfl rfl) rfl rfl rfl ?_; clear E a; intro a E; refine hK0 _ _ ?_; refine wp_seq_k fun K1 hK1 => ?_; refine wp_seq_k fun K2 hK2 => ?_; refine S_region ?_; refine S_val E (pk_move rfl rfl) rfl rfl rfl ?_; clear E a; intro a E; refine S_val E (pk_len rfl rfl (by kernel_rfl)) rfl rfl rfl ?_; clear E a; intro a E; refine S_val E (pk_int rfl rfl rfl rfl) rfl rfl rfl ?_; clear E a; intro a E; refine hK2 _ _ ?_; refine env_split (d := 13) E rfl ?_ ?_
  · skip
    clear E; intro c13 E
    have hlt : b.length < 32 := by have := c13; simp only [decide_eq_true_eq] at this; omega
    refine S_then E rfl ?_; refine wp_seq_k fun K3 hK3 => ?_; refine S_region ?_; refine S_val E (pk_assign rfl rfl) rfl rfl rfl ?_; clear E a; intro a E; refine S_val E (pk_assign rfl rfl) rfl rfl rfl ?_; clear E a; intro a E; refine hK3 _ _ ?_; refine wp_ret ?_
    repeat (first | refine then_ret ?_ | refine block_ret ?_)
    refine ret2 rfl E (resT rfl) (resT rfl) ?_
    rw [show unboxR gt sec b ts = ([], 2) from by unfold unboxR; rw [if_pos hlt]]
    exact ⟨none, 0, rfl, (Sep.keepLR (L := []) (R := [_]) (H.know txF_nil))⟩
  · skip
    clear E; intro c13 E
    have hlt : ¬ b.length < 32 := by have := c13; simp only [decide_eq_false_iff_not] at this; omega
    refine S_else E rfl ?_; refine wp_skip ?_; refine hK1 _ _ ?_; refine wp_seq_k fun K4 hK4 => ?_
    have hbt : (b.take 32).length = 32 := by rw [List.length_take]; omega
    replace H := H.know (txF_take (hi := 32) (H.fact 0 rfl) (by omega))
    obtain ⟨ad, hBA, hTk⟩ := txF_key (H.fact 0 rfl) (by omega)
    subst hBA
    replace H := H.know hTk
    clear hTk; replace H : Sep _ _ _ _ [_] [_, _, _, _, _] := H; refine S_region ?_; refine S_val E (pk_move rfl rfl) rfl rfl rfl ?_; clear E a; intro a E; refine S_val E (pk_sub_hi (sz := 1) (hi := 32) rfl (by kernel_rfl) rfl rfl rfl (by omega)) rfl rfl rfl ?_; clear E a; intro a E
    rw [sub_zero] at E
    refine S_val E (pk_arrA (n' := 32) (sz := 1) rfl (by kernel_rfl) rfl (by omega)) rfl rfl rfl ?_; clear E a; intro a E; refine S_val E (pk_loadE (n := 32) (H.fact 0 rfl) (fun _ _ _ => trivial) rfl rfl rfl (by kernel_rfl)) rfl rfl rfl ?_; clear E a; intro a E; refine S_eff E rfl (fun K hK => ?_); refine eff_alloc (z := [.key []]) H rfl (by kernel_rfl) ?_; clear H; intro b8 w H _; refine hK _ _ ?_; clear hK K; refine S_put E rfl rfl ?_; clear E a; intro a E; refine S_eff E rfl (fun K hK => ?_); refine eff_store 0 E H rfl rfl rfl rfl rfl (by repeat (first | exact trivial | refine ⟨rfl, ?_⟩ | refine ⟨fun _ _ => rfl, ?_⟩)) rfl (by kernel_rfl) rfl ?_; clear H; intro w H _; replace H : Sep _ _ _ _ [_, _] _ := H; refine hK _ _ ?_; clear hK K; refine S_put0 rfl ?_; refine hK4 _ _ ?_; refine wp_seq_k fun K5 hK5 => ?_
    refine T_region E H [] 11 (.pure 0 (.pure 1 (.pure 2 (.pure 3 (.eff 4 (.eff 5 (.pure 6 (.pure 7 (.pure 8 (.eff 9 (.eff 10 .nil .nil) .nil)))) (.eff 9 (.eff 5 (.pure 6 (.pure 7 (.pure 8 (.eff 10 .nil .nil)))) .nil) .nil)) (.eff 9 (.eff 4 (.eff 5 (.pure 6 (.pure 7 (.pure 8 (.eff 10 .nil .nil)))) .nil) .nil) .nil)))))) (by kernel_rfl) (by kernel_rfl) (fun w HS => ?_)
    simp only [CanB.opsT, List.getElem?_cons_zero, List.getElem?_cons_succ, List.drop_succ_cons, List.drop_zero]
    clear H
    have H := HS
    have hsz : w.heap.size ≤ w.heap.size := Nat.le_refl _
    have HK : CanB.Keep (fun k => k < w.heap.size ∧ k ∉ []) w w := CanB.Keep.refl _ _
    refine T_val E HK (pk_load (n := 32) HS 1 rfl rfl rfl (HS.inS 1 rfl (by simp)) rfl (by kernel_rfl)) rfl rfl rfl (fun _ _ _ _ h => h) ?_; clear E a; intro a E; refine T_val E HK (pk_load (n := 32) HS 0 rfl rfl rfl (HS.inS 0 rfl (by simp)) rfl (by kernel_rfl)) rfl rfl rfl (fun _ _ _ _ h => h) ?_; clear E a; intro a E; refine T_val E HK (pk_load (n := 32) HS 0 rfl rfl rfl (HS.inS 0 rfl (by simp)) rfl (by kernel_rfl)) rfl rfl rfl (fun _ _ _ _ h => h) ?_; clear E a; intro a E; refine T_val E HK (pk_load (n := 32) HS 1 rfl rfl rfl (HS.inS 1 rfl (by simp)) rfl (by kernel_rfl)) rfl rfl rfl (fun _ _ _ _ h => h) ?_; clear E a; intro a E; refine T_alt ?_ ?_
    · skip
      refine T_eff E rfl (fun K hK => ?_); refine eff_call E rfl rfl rfl (by kernel_rfl) ?_; refine (base_sep (k := sec) H.xk hsb).mono ?_; rintro e w ⟨rfl, H1⟩
      have F := H1.frm
      replace H := H.call H1
      clear H1; replace H : Sep _ _ _ _ [_, _] [_, _, _, _, _] := H
      have hk := keep_frm (D := []) F hsz (by first | (simp; done) | (intro k hk; obtain rfl := List.mem_singleton.1 hk; exact .inr (by assumption)))
      refine hK _ _ hk ?_; clear hK K
      replace HK := HK.trans hk
      replace hsz := Nat.le_trans hsz (F).size
      clear hk; refine T_put E rfl rfl ?_; clear E a; intro a E; clear F; refine T_alt ?_ ?_
      · skip
        refine T_eff E rfl (fun K hK => ?_); refine eff_call E rfl rfl rfl (by kernel_rfl) ?_; refine (Shared_any (sec := sec) (oth := (b.take 32)) (mine := (b.take 32)) (theirs := baseK sec) hsb (fun z hz => hbb z (List.mem_of_mem_take hz)) hbt (fun z hz => hbb z (List.mem_of_mem_take hz)) (baseK_len _) (baseK_byte _) H.xk (H.fact 4 rfl)).mono ?_; rintro e w ⟨rfl, H1⟩
        have F := H1.frm
        replace H := H.call H1
        clear H1; replace H : Sep _ _ _ _ [_, _] [_, _, _, _, _] := H
        have hk := keep_frm (D := []) F hsz (by first | (simp; done) | (intro k hk; obtain rfl := List.mem_singleton.1 hk; exact .inr (by assumption)))
        refine hK _ _ hk ?_; clear hK K
        replace HK := HK.trans hk
        replace hsz := Nat.le_trans hsz (F).size
        clear hk; refine T_put E rfl rfl ?_; clear E a; intro a E; clear F; refine T_val E HK (pk_move rfl rfl) rfl rfl rfl (fun _ _ _ _ h => h) ?_; clear E a; intro a E; refine T_val E HK (pk_extract rfl rfl rfl) rfl rfl rfl (fun _ _ _ _ h => h) ?_; clear E a; intro a E; refine T_val E HK (pk_extract rfl rfl rfl) rfl rfl rfl (fun _ _ _ _ h => h) ?_; clear E a; intro a E; refine T_eff E rfl (fun K hK => ?_); refine eff_allocN (z := [.key []]) H rfl (by kernel_rfl) ?_; clear H; intro b9 w hnb H F
        have hnb9 := Nat.le_trans hsz hnb
        clear hnb
        have hk := keep_frm (D := []) F hsz (by first | (simp; done) | (intro k hk; obtain rfl := List.mem_singleton.1 hk; exact .inr (by assumption)))
        refine hK _ _ hk ?_; clear hK K
        replace HK := HK.trans hk
        replace hsz := Nat.le_trans hsz (F).size
        clear hk; refine T_put E rfl rfl ?_; clear E a; intro a E; clear F; refine T_eff E rfl (fun K hK => ?_); refine eff_store 0 E H rfl rfl rfl rfl rfl (by repeat (first | exact trivial | refine ⟨rfl, ?_⟩ | refine ⟨fun _ _ => rfl, ?_⟩)) rfl (by kernel_rfl) rfl ?_; clear H; intro w H F; replace H : Sep _ _ _ _ [_, _, _] _ := H
        have hk := keep_frm (D := []) F hsz (by first | (simp; done) | (intro k hk; obtain rfl := List.mem_singleton.1 hk; exact .inr (by assumption)))
        refine hK _ _ hk ?_; clear hK K
        replace HK := HK.trans hk
        replace hsz := Nat.le_trans hsz (F).size
        clear hk; refine T_put0 rfl ?_; refine T_nil ?_
        try (simp only [List.take_succ_cons, List.take_zero, List.drop_succ_cons, List.drop_zero])
        clear HS HK hsz; refine S_val E (pk_assign rfl rfl) rfl rfl rfl ?_; clear E a; intro a E; refine hK5 _ _ ?_; refine wp_seq_k fun K6 hK6 => ?_; refine wp_seq_k fun K7 hK7 => ?_; refine S_region ?_; refine S_val E (pk_move rfl rfl) rfl rfl rfl ?_; clear E a; intro a E; refine S_val E (pk_int rfl rfl rfl rfl) rfl rfl rfl ?_; clear E a; intro a E; refine hK7 _ _ ?_; refine env_split (d := 28) E rfl ?_ ?_
        · skip
          clear E; intro c28 E
          have hno : noneK (multK sec (b.take 32)) := Classical.byContradiction fun h => by rw [shared_yes h] at c28; cases c28
          refine S_then E rfl ?_; refine wp_seq_k fun K8 hK8 => ?_; refine S_region ?_; refine S_val E (pk_move rfl rfl) rfl rfl rfl ?_; clear E a; intro a E; refine S_val E (pk_assign rfl rfl) rfl rfl rfl ?_; clear E a; intro a E; refine S_val E (pk_assign rfl rfl) rfl rfl rfl ?_; clear E a; intro a E; refine hK8 _ _ ?_; refine wp_ret ?_
          repeat (first | refine then_ret ?_ | refine block_ret ?_)
          refine ret2 rfl E (resT rfl) (resT rfl) ?_
          rw [show unboxR gt sec b ts = ([], 1) from by unfold unboxR; rw [if_neg hlt, if_pos hno]]
          exact ⟨none, 0, by rw [shared_no hno]; rfl, (Sep.keepLR (L := []) (R := [_]) (H.know txF_nil))⟩
        · skip
          clear E; intro c28 E
          have hno : ¬ noneK (multK sec (b.take 32)) := fun h => by rw [shared_no h] at c28; cases c28
          rw [shared_yes hno] at E H
          simp only at E H
          refine S_else E rfl ?_; refine wp_skip ?_; refine hK6 _ _ ?_; refine wp_seq_k fun K9 hK9 => ?_
          obtain ⟨A32, c32, h32, hT32⟩ := txF_drop (lo := 32) (H.fact 2 rfl) (by omega)
          replace H := H.know hT32
          clear hT32; replace H : Sep _ _ _ _ [_, _, _] [_, _, _, _, _, _] := H; refine C_region E H [] 7 [(0, false), (1, false), (2, false), (3, false), (4, true), (5, false), (6, false)] (by kernel_rfl) (by kernel_rfl) (fun w HS => ?_)
          (simp only [canOps, List.getElem?_cons_zero, List.getElem?_cons_succ, List.drop_succ_cons, List.drop_zero])
          clear H
          have H := HS
          have hsz : w.heap.size ≤ w.heap.size := Nat.le_refl _
          have HK : CanB.Keep (fun k => k < w.heap.size ∧ k ∉ []) w w := CanB.Keep.refl _ _
          refine C_val E HK (pk_load (n := 32) HS 0 rfl rfl rfl (HS.inS 0 rfl (by simp)) rfl (by kernel_rfl)) rfl rfl rfl (fun _ _ _ _ h => h) ?_; clear E a; intro a E; refine C_val E HK (pk_move rfl rfl) rfl rfl rfl (fun _ _ _ _ h => h) ?_; clear E a; intro a E; refine C_val E HK (pk_sub_lo (sz := 1) (lo := 32) rfl (by kernel_rfl) rfl rfl rfl (by omega)) rfl rfl rfl (fun _ _ _ _ h => h) ?_; clear E a; intro a E
          rw [h32] at E
          refine C_val E HK (pk_move rfl rfl) rfl rfl rfl (fun _ _ _ _ h => h) ?_; clear E a; intro a E; refine C_eff E rfl (fun K hK => ?_); refine eff_call E rfl rfl rfl (by kernel_rfl) ?_; refine (Open_any (k := (sharedK gt (multK sec (b.take 32)) (b.take 32) (baseK sec))) (bs := b.drop 32) (ts := ts) (sharedK_len _ _ _ _) (sharedK_byte _ _ _ _) hts H.xk (H.fact 0 rfl) (H.fact 4 rfl) (H.fact 5 rfl)).mono ?_; rintro e w ⟨A34, c34, rfl, H1⟩
          have F := H1.frm
          replace H := H.call H1
          clear H1; replace H : Sep _ _ _ _ [_, _, _] [_, _, _, _, _, _, _] := H
          have hk := keep_frm (D := []) F hsz (by simp)
          refine hK _ _ hk ?_; clear hK K
          replace HK := HK.trans hk
          replace hsz := Nat.le_trans hsz (F).size
          clear hk; refine C_put E rfl rfl ?_; clear E a; intro a E; clear F; refine C_val E HK (pk_extract rfl rfl rfl) rfl rfl rfl (fun _ _ _ _ h => h) ?_; clear E a; intro a E; refine C_val E HK (pk_extract rfl rfl rfl) rfl rfl rfl (fun _ _ _ _ h => h) ?_; clear E a; intro a E; refine CanB.wpCan_nil ?_
          try (simp only [List.take_succ_cons, List.take_zero, List.drop_succ_cons, List.drop_zero])
          clear HS HK hsz; refine S_val E (pk_assign rfl rfl) rfl rfl rfl ?_; clear E a; intro a E; refine S_val E (pk_assign rfl rfl) rfl rfl rfl ?_; clear E a; intro a E; refine hK9 _ _ ?_; refine wp_ret ?_
          repeat (first | refine then_ret ?_ | refine block_ret ?_)
          refine ret2 rfl E (resT rfl) (resT rfl) ?_
          rw [show unboxR gt sec b ts = (openR gt (sharedK gt (multK sec (b.take 32)) (b.take 32) (baseK sec)) (b.drop 32) ts) from by unfold unboxR; rw [if_neg hlt, if_neg hno]]
          exact ⟨A34, c34, rfl, Sep.keepLR (L := []) (R := [_]) H⟩
      · skip
        refine T_one ?_; refine T_eff E rfl (fun K hK => ?_); refine eff_allocN (z := [.key []]) H rfl (by kernel_rfl) ?_; clear H; intro b9 w hnb H F
        have hnb9 := Nat.le_trans hsz hnb
        clear hnb
        have hk := keep_frm (D := []) F hsz (by first | (simp; done) | (intro k hk; obtain rfl := List.mem_singleton.1 hk; exact .inr (by assumption)))
        refine hK _ _ hk ?_; clear hK K
        replace HK := HK.trans hk
        replace hsz := Nat.le_trans hsz (F).size
        clear hk; refine T_put E rfl rfl ?_; clear E a; intro a E; clear F; refine T_eff E rfl (fun K hK => ?_); refine eff_call E rfl rfl rfl (by kernel_rfl) ?_; refine (Shared_any (sec := sec) (oth := (b.take 32)) (mine := (b.take 32)) (theirs := baseK sec) hsb (fun z hz => hbb z (List.mem_of_mem_take hz)) hbt (fun z hz => hbb z (List.mem_of_mem_take hz)) (baseK_len _) (baseK_byte _) H.xk (H.fact 4 rfl)).mono ?_; rintro e w ⟨rfl, H1⟩
        have F := H1.frm
        replace H := H.call H1
        clear H1; replace H : Sep _ _ _ _ [_, _, _] [_, _, _, _, _] := H
        have hk := keep_frm (D := []) F hsz (by first | (simp; done) | (intro k hk; obtain rfl := List.mem_singleton.1 hk; exact .inr (by assumption)))
        refine hK _ _ hk ?_; clear hK K
        replace HK := HK.trans hk
        replace hsz := Nat.le_trans hsz (F).size
        clear hk; refine T_put E rfl rfl ?_; clear E a; intro a E; clear F; refine T_val E HK (pk_move rfl rfl) rfl rfl rfl (fun _ _ _ _ h => h) ?_; clear E a; intro a E; refine T_val E HK (pk_extract rfl rfl rfl) rfl rfl rfl (fun _ _ _ _ h => h) ?_; clear E a; intro a E; refine T_val E HK (pk_extract rfl rfl rfl) rfl rfl rfl (fun _ _ _ _ h => h) ?_; clear E a; intro a E; refine T_eff E rfl (fun K hK => ?_); refine eff_store 0 E H rfl rfl rfl rfl rfl (by repeat (first | exact trivial | refine ⟨rfl, ?_⟩ | refine ⟨fun _ _ => rfl, ?_⟩)) rfl (by kernel_rfl) rfl ?_; clear H; intro w H F; replace H : Sep _ _ _ _ [_, _, _] _ := H
        have hk := keep_frm (D := []) F hsz (by first | (simp; done) | (intro k hk; obtain rfl := List.mem_singleton.1 hk; exact .inr (by assumption)))
        refine hK _ _ hk ?_; clear hK K
        replace HK := HK.trans hk
        replace hsz := Nat.le_trans hsz (F).size
        clear hk; refine T_put0 rfl ?_; refine T_nil ?_
        try (simp only [List.take_succ_cons, List.take_zero, List.drop_succ_cons, List.drop_zero])
        clear HS HK hsz; refine S_val E (pk_assign rfl rfl) rfl rfl rfl ?_; clear E a; intro a E; refine hK5 _ _ ?_; refine wp_seq_k fun K10 hK10 => ?_; refine wp_seq_k fun K11 hK11 => ?_; refine S_region ?_; refine S_val E (pk_move rfl rfl) rfl rfl rfl ?_; clear E a; intro a E; refine S_val E (pk_int rfl rfl rfl rfl) rfl rfl rfl ?_; clear E a; intro a E; refine hK11 _ _ ?_; refine env_split (d := 28) E rfl ?_ ?_
        · skip
          clear E; intro c28 E
          have hno : noneK (multK sec (b.take 32)) := Classical.byContradiction fun h => by rw [shared_yes h] at c28; cases c28
          refine S_then E rfl ?_; refine wp_seq_k fun K12 hK12 => ?_; refine S_region ?_; refine S_val E (pk_move rfl rfl) rfl rfl rfl ?_; clear E a; intro a E; refine S_val E (pk_assign rfl rfl) rfl rfl rfl ?_; clear E a; intro a E; refine S_val E (pk_assign rfl rfl) rfl rfl rfl ?_; clear E a; intro a E; refine hK12 _ _ ?_; refine wp_ret ?_
          repeat (first | refine then_ret ?_ | refine block_ret ?_)
          refine ret2 rfl E (resT rfl) (resT rfl) ?_
          rw [show unboxR gt sec b ts = ([], 1) from by unfold unboxR; rw [if_neg hlt, if_pos hno]]
          exact ⟨none, 0, by rw [shared_no hno]; rfl, (Sep.keepLR (L := []) (R := [_]) (H.know txF_nil))⟩
        · skip
          clear E; intro c28 E
          have hno : ¬ noneK (multK sec (b.take 32)) := fun h => by rw [shared_no h] at c28; cases c28
          rw [shared_yes hno] at E H
          simp only at E H
          refine S_else E rfl ?_; refine wp_skip ?_; refine hK10 _ _ ?_; refine wp_seq_k fun K13 hK13 => ?_
          obtain ⟨A32, c32, h32, hT32⟩ := txF_drop (lo := 32) (H.fact 2 rfl) (by omega)
          replace H := H.know hT32
          clear hT32; replace H : Sep _ _ _ _ [_, _, _] [_, _, _, _, _, _] := H; refine C_region E H [] 7 [(0, false), (1, false), (2, false), (3, false), (4, true), (5, false), (6, false)] (by kernel_rfl) (by kernel_rfl) (fun w HS => ?_)
          (simp only [canOps, List.getElem?_cons_zero, List.getElem?_cons_succ, List.drop_succ_cons, List.drop_zero])
          clear H
          have H := HS
          have hsz : w.heap.size ≤ w.heap.size := Nat.le_refl _
          have HK : CanB.Keep (fun k => k < w.heap.size ∧ k ∉ []) w w := CanB.Keep.refl _ _
          refine C_val E HK (pk_load (n := 32) HS 0 rfl rfl rfl (HS.inS 0 rfl (by simp)) rfl (by kernel_rfl)) rfl rfl rfl (fun _ _ _ _ h => h) ?_; clear E a; intro a E; refine C_val E HK (pk_move rfl rfl) rfl rfl rfl (fun _ _ _ _ h => h) ?_; clear E a; intro a E; refine C_val E HK (pk_sub_lo (sz := 1) (lo := 32) rfl (by kernel_rfl) rfl rfl rfl (by omega)) rfl rfl rfl (fun _ _ _ _ h => h) ?_; clear E a; intro a E
          rw [h32] at E
          refine C_val E HK (pk_move rfl rfl) rfl rfl rfl (fun _ _ _ _ h => h) ?_; clear E a; intro a E; refine C_eff E rfl (fun K hK => ?_); refine eff_call E rfl rfl rfl (by kernel_rfl) ?_; refine (Open_any (k := (sharedK gt (multK sec (b.take 32)) (b.take 32) (baseK sec))) (bs := b.drop 32) (ts := ts) (sharedK_len _ _ _ _) (sharedK_byte _ _ _ _) hts H.xk (H.fact 0 rfl) (H.fact 4 rfl) (H.fact 5 rfl)).mono ?_; rintro e w ⟨A34, c34, rfl, H1⟩
          have F := H1.frm
          replace H := H.call H1
          clear H1; replace H : Sep _ _ _ _ [_, _, _] [_, _, _, _, _, _, _] := H
          have hk := keep_frm (D := []) F hsz (by simp)
          refine hK _ _ hk ?_; clear hK K
          replace HK := HK.trans hk
          replace hsz := Nat.le_trans hsz (F).size
          clear hk; refine C_put E rfl rfl ?_; clear E a; intro a E; clear F; refine C_val E HK (pk_extract rfl rfl rfl) rfl rfl rfl (fun _ _ _ _ h => h) ?_; clear E a; intro a E; refine C_val E HK (pk_extract rfl rfl rfl) rfl rfl rfl (fun _ _ _ _ h => h) ?_; clear E a; intro a E; refine CanB.wpCan_nil ?_
          try (simp only [List.take_succ_cons, List.take_zero, List.drop_succ_cons, List.drop_zero])
          clear HS HK hsz; refine S_val E (pk_assign rfl rfl) rfl rfl rfl ?_; clear E a; intro a E; refine S_val E (pk_assign rfl rfl) rfl rfl rfl ?_; clear E a; intro a E; refine hK13 _ _ ?_; refine wp_ret ?_
          repeat (first | refine then_ret ?_ | refine block_ret ?_)
          refine ret2 rfl E (resT rfl) (resT rfl) ?_
          rw [show unboxR gt sec b ts = (openR gt (sharedK gt (multK sec (b.take 32)) (b.take 32) (baseK sec)) (b.drop 32) ts) from by unfold unboxR; rw [if_neg hlt, if_neg hno]]
          exact ⟨A34, c34, rfl, Sep.keepLR (L := []) (R := [_]) H⟩
    · skip
      refine T_one ?_; refine T_eff E rfl (fun K hK => ?_); refine eff_allocN (z := [.key []]) H rfl (by kernel_rfl) ?_; clear H; intro b9 w hnb H F
      have hnb9 := Nat.le_trans hsz hnb
      clear hnb
      have hk := keep_frm (D := []) F hsz (by first | (simp; done) | (intro k hk; obtain rfl := List.mem_singleton.1 hk; exact .inr (by assumption)))
      refine hK _ _ hk ?_; clear hK K
      replace HK := HK.trans hk
      replace hsz := Nat.le_trans hsz (F).size
      clear hk; refine T_put E rfl rfl ?_; clear E a; intro a E; clear F; refine T_eff E rfl (fun K hK => ?_); refine eff_call E rfl rfl rfl (by kernel_rfl) ?_; refine (base_sep (k := sec) H.xk hsb).mono ?_; rintro e w ⟨rfl, H1⟩
      have F := H1.frm
      replace H := H.call H1
      clear H1; replace H : Sep _ _ _ _ [_, _, _] [_, _, _, _, _] := H
      have hk := keep_frm (D := []) F hsz (by first | (simp; done) | (intro k hk; obtain rfl := List.mem_singleton.1 hk; exact .inr (by assumption)))
      refine hK _ _ hk ?_; clear hK K
      replace HK := HK.trans hk
      replace hsz := Nat.le_trans hsz (F).size
      clear hk; refine T_put E rfl rfl ?_; clear E a; intro a E; clear F; refine T_eff E rfl (fun K hK => ?_); refine eff_call E rfl rfl rfl (by kernel_rfl) ?_; refine (Shared_any (sec := sec) (oth := (b.take 32)) (mine := (b.take 32)) (theirs := baseK sec) hsb (fun z hz => hbb z (List.mem_of_mem_take hz)) hbt (fun z hz => hbb z (List.mem_of_mem_take hz)) (baseK_len _) (baseK_byte _) H.xk (H.fact 4 rfl)).mono ?_; rintro e w ⟨rfl, H1⟩
      have F := H1.frm
      replace H := H.call H1
      clear H1; replace H : Sep _ _ _ _ [_, _, _] [_, _, _, _, _] := H
      have hk := keep_frm (D := []) F hsz (by first | (simp; done) | (intro k hk; obtain rfl := List.mem_singleton.1 hk; exact .inr (by assumption)))
      refine hK _ _ hk ?_; clear hK K
      replace HK := HK.trans hk
      replace hsz := Nat.le_trans hsz (F).size
      clear hk; refine T_put E rfl rfl ?_; clear E a; intro a E; clear F; refine T_val E HK (pk_move rfl rfl) rfl rfl rfl (fun _ _ _ _ h => h) ?_; clear E a; intro a E; refine T_val E HK (pk_extract rfl rfl rfl) rfl rfl rfl (fun _ _ _ _ h => h) ?_; clear E a; intro a E; refine T_val E HK (pk_extract rfl rfl rfl) rfl rfl rfl (fun _ _ _ _ h => h) ?_; clear E a; intro a E; refine T_eff E rfl (fun K hK => ?_); refine eff_store 0 E H rfl rfl rfl rfl rfl (by repeat (first | exact trivial | refine ⟨rfl, ?_⟩ | refine ⟨fun _ _ => rfl, ?_⟩)) rfl (by kernel_rfl) rfl ?_; clear H; intro w H F; replace H : Sep _ _ _ _ [_, _, _] _ := H
      have hk := keep_frm (D := []) F hsz (by first | (simp; done) | (intro k hk; obtain rfl := List.mem_singleton.1 hk; exact .inr (by assumption)))
      refine hK _ _ hk ?_; clear hK K
      replace HK := HK.trans hk
      replace hsz := Nat.le_trans hsz (F).size
      clear hk; refine T_put0 rfl ?_; refine T_nil ?_
      try (simp only [List.take_succ_cons, List.take_zero, List.drop_succ_cons, List.drop_zero])
      clear HS HK hsz; refine S_val E (pk_assign rfl rfl) rfl rfl rfl ?_; clear E a; intro a E; refine hK5 _ _ ?_; refine wp_seq_k fun K14 hK14 => ?_; refine wp_seq_k fun K15 hK15 => ?_; refine S_region ?_; refine S_val E (pk_move rfl rfl) rfl rfl rfl ?_; clear E a; intro a E; refine S_val E (pk_int rfl rfl rfl rfl) rfl rfl rfl ?_; clear E a; intro a E; refine hK15 _ _ ?_; refine env_split (d := 28) E rfl ?_ ?_
      · skip
        clear E; intro c28 E
        have hno : noneK (multK sec (b.take 32)) := Classical.byContradiction fun h => by rw [shared_yes h] at c28; cases c28
        refine S_then E rfl ?_; refine wp_seq_k fun K16 hK16 => ?_; refine S_region ?_; refine S_val E (pk_move rfl rfl) rfl rfl rfl ?_; clear E a; intro a E; refine S_val E (pk_assign rfl rfl) rfl rfl rfl ?_; clear E a; intro a E; refine S_val E (pk_assign rfl rfl) rfl rfl rfl ?_; clear E a; intro a E; refine hK16 _ _ ?_; refine wp_ret ?_
        repeat (first | refine then_ret ?_ | refine block_ret ?_)
        refine ret2 rfl E (resT rfl) (resT rfl) ?_
        rw [show unboxR gt sec b ts = ([], 1) from by unfold unboxR; rw [if_neg hlt, if_pos hno]]
        exact ⟨none, 0, by rw [shared_no hno]; rfl, (Sep.keepLR (L := []) (R := [_]) (H.know txF_nil))⟩
      · skip
        clear E; intro c28 E
        have hno : ¬ noneK (multK sec (b.take 32)) := fun h => by rw [shared_no h] at c28; cases c28
        rw [shared_yes hno] at E H
        simp only at E H
        refine S_else E rfl ?_; refine wp_skip ?_; refine hK14 _ _ ?_; refine wp_seq_k fun K17 hK17 => ?_
        obtain ⟨A32, c32, h32, hT32⟩ := txF_drop (lo := 32) (H.fact 2 rfl) (by omega)
        replace H := H.know hT32
        clear hT32; replace H : Sep _ _ _ _ [_, _, _] [_, _, _, _, _, _] := H; refine C_region E H [] 7 [(0, false), (1, false), (2, false), (3, false), (4, true), (5, false), (6, false)] (by kernel_rfl) (by kernel_rfl) (fun w HS => ?_)
        (simp only [canOps, List.getElem?_cons_zero, List.getElem?_cons_succ, List.drop_succ_cons, List.drop_zero])
        clear H
        have H := HS
        have hsz : w.heap.size ≤ w.heap.size := Nat.le_refl _
        have HK : CanB.Keep (fun k => k < w.heap.size ∧ k ∉ []) w w := CanB.Keep.refl _ _
        refine C_val E HK (pk_load (n := 32) HS 0 rfl rfl rfl (HS.inS 0 rfl (by simp)) rfl (by kernel_rfl)) rfl rfl rfl (fun _ _ _ _ h => h) ?_; clear E a; intro a E; refine C_val E HK (pk_move rfl rfl) rfl rfl rfl (fun _ _ _ _ h => h) ?_; clear E a; intro a E; refine C_val E HK (pk_sub_lo (sz := 1) (lo := 32) rfl (by kernel_rfl) rfl rfl rfl (by omega)) rfl rfl rfl (fun _ _ _ _ h => h) ?_; clear E a; intro a E
        rw [h32] at E
        refine C_val E HK (pk_move rfl rfl) rfl rfl rfl (fun _ _ _ _ h => h) ?_; clear E a; intro a E; refine C_eff E rfl (fun K hK => ?_); refine eff_call E rfl rfl rfl (by kernel_rfl) ?_; refine (Open_any (k := (sharedK gt (multK sec (b.take 32)) (b.take 32) (baseK sec))) (bs := b.drop 32) (ts := ts) (sharedK_len _ _ _ _) (sharedK_byte _ _ _ _) hts H.xk (H.fact 0 rfl) (H.fact 4 rfl) (H.fact 5 rfl)).mono ?_; rintro e w ⟨A34, c34, rfl, H1⟩
        have F := H1.frm
        replace H := H.call H1
        clear H1; replace H : Sep _ _ _ _ [_, _, _] [_, _, _, _, _, _, _] := H
        have hk := keep_frm (D := []) F hsz (by simp)
        refine hK _ _ hk ?_; clear hK K
        replace HK := HK.trans hk
        replace hsz := Nat.le_trans hsz (F).size
        clear hk; refine C_put E rfl rfl ?_; clear E a; intro a E; clear F; refine C_val E HK (pk_extract rfl rfl rfl) rfl rfl rfl (fun _ _ _ _ h => h) ?_; clear E a; intro a E; refine C_val E HK (pk_extract rfl rfl rfl) rfl rfl rfl (fun _ _ _ _ h => h) ?_; clear E a; intro a E; refine CanB.wpCan_nil ?_
        try (simp only [List.take_succ_cons, List.take_zero, List.drop_succ_cons, List.drop_zero])
        clear HS HK hsz; refine S_val E (pk_assign rfl rfl) rfl rfl rfl ?_; clear E a; intro a E; refine S_val E (pk_assign rfl rfl) rfl rfl rfl ?_; clear E a; intro a E; refine hK17 _ _ ?_; refine wp_ret ?_
        repeat (first | refine then_ret ?_ | refine block_ret ?_)
        refine ret2 rfl E (resT rfl) (resT rfl) ?_
        rw [show unboxR gt sec b ts = (openR gt (sharedK gt (multK sec (b.take 32)) (b.take 32) (baseK sec)) (b.drop 32) ts) from by unfold unboxR; rw [if_neg hlt, if_neg hno]]
        exact ⟨A34, c34, rfl, Sep.keepLR (L := []) (R := [_]) H⟩
end Go.Proofs.YtfolbgiekbimpaaDoor
namespace Go.Proofs.YtfolbgiekbimpaaDoor
set_option linter.unusedSimpArgs false
set_option linter.unusedVariables false
open Go.RowKit

def key1 : List Nat := 1 :: List.replicate 31 0
def helloL : List Nat := [104, 101, 108, 108, 111]
attribute [local irreducible] strV keyS keyM tagV
end Go.Proofs.YtfolbgiekbimpaaDoor
namespace Go.Proofs.YtfolbgiekbimpaaDoor
set_option linter.unusedSimpArgs false
set_option linter.unusedVariables false
open Go.RowKit


def cutM (xs : List Nat) : Nat := (xs.map (min · 70000)).sum
theorem cutM_take {xs : List Nat} {k x : Nat} (h : xs[k]? = some x) : cutM (xs.take (k + 1)) = cutM (xs.take k) + min x 70000 := by
  unfold cutM
  rw [List.take_add_one, h, List.map_append, List.sum_append]
  simp
theorem cutM_le (xs : List Nat) : cutM xs ≤ 70000 * xs.length := by
  unfold cutM
  induction xs with
  | nil => simp
  | cons a l ih => simp only [List.map_cons, List.sum_cons, List.length_cons]; omega
theorem cutM_step {xs : List Nat} {k : Nat} {z : Int} (hk : k < xs.length) (hz : xs.length ≤ 200 → z = (cutM (xs.take k) : Int)) :
    xs.length ≤ 200 → IntKind.i64.wrap (z + min ((xs[k] : Nat) : Int) 70000) = (cutM (xs.take (k + 1)) : Int) := by
  intro h
  have h1 := cutM_le (xs.take k)
  rw [List.length_take] at h1
  rw [hz h, cutM_take (List.getElem?_eq_getElem hk), wI64 (by omega) (by omega)]
  omega
def fewM (xs : List (List Nat)) : Bool := decide (xs.length ≤ 200) && decide (cutM (xs.map List.length) ≤ 140000)
theorem fewM_len {xs : List (List Nat)} (h : fewM xs = true) : xs.length ≤ 1000 := by
  unfold fewM at h
  simp only [Bool.and_eq_true, decide_eq_true_eq] at h
  omega
theorem sameP {X : List Nat} {w0 : World} {A A' : Option Addr} {c c' : Nat} {l l' : List Nat} (h : St (TxF A c l) w0 X) (h' : St (TxF A' c' l') w0 X) :
    Calls Tryd.prog 11 #[.slice A l.length c, .slice A' l'.length c'] w0 fun e w' => e = .returned (.bool (decide (l = l'))) ∧ w0 = w' :=
  Same_txt A l.length c l A' l'.length c' l' _ w0 h.now.txt h'.now.txt h.now.byt h'.now.byt
attribute [local irreducible] encI
theorem str_str (x l : List Nat) (hl : ∀ z ∈ l, z < 256) : strV x (strV x l) = l := by
  apply List.ext_getElem?
  intro i
  by_cases hi : i < l.length
  · have h1 : (((strV x (strV x l)).getD i 0 : Nat) : Int) = _ := ctrL_at _ _ 0 (strV x l) i (by rw [strV_len]; exact hi)
    have h2 : (((strV x l).getD i 0 : Nat) : Int) = _ := ctrL_at _ _ 0 l i hi
    have hb : l.getD i 0 < 256 := getD_byte hl i
    have hb2 : (strV x (strV x l)).getD i 0 < 256 := getD_byte (strV_byte _ _) i
    have h3 : ((l.getD i 0 : Nat) : Int) = (((strV x (strV x l)).getD i 0 : Nat) : Int) := by
      refine b8_inj ⟨by omega, by omega⟩ ⟨by omega, by omega⟩ ?_
      rw [h1]
      unfold ctrI
      rw [h2]
      unfold ctrI
      rw [b8_bx, b8_bx, BitVec.xor_assoc, BitVec.xor_self, BitVec.xor_zero]
    have hi2 : i < (strV x (strV x l)).length := by rw [strV_len, strV_len]; exact hi
    rw [List.getD_eq_getElem?_getD, List.getD_eq_getElem?_getD, List.getElem?_eq_getElem hi, List.getElem?_eq_getElem hi2] at h3
    rw [List.getElem?_eq_getElem hi, List.getElem?_eq_getElem hi2]
    simp only [Option.getD_some] at h3
    congr 1
    omega
  · rw [List.getElem?_eq_none (by rw [strV_len, strV_len]; omega), List.getElem?_eq_none (by omega)]
theorem sealR_ok {gt : Nat → Nat} {k plain : List Nat} {ts : List (List Nat)} (h : okT ts) : sealR gt k plain ts = (strV (keyS gt k) plain ++ tagV gt (keyM gt k) (strV (keyS gt k) plain) ts, 0) := by unfold sealR; rw [if_pos h]
theorem open_of {gt : Nat → Nat} {k h t : List Nat} {ts : List (List Nat)} (hok : okT ts) (ht : t.length = 16) (hh : h.length ≤ 1048576) : openR gt k (h ++ t) ts = if tagV gt (keyM gt k) h ts = t then (strV (keyS gt k) h, 0) else ([], 5) := by
  have hl : (h ++ t).length = h.length + 16 := by rw [List.length_append, ht]
  unfold openR
  rw [if_neg (by omega), if_neg (by omega), if_neg (fun hc => hc hok), hl, Nat.add_sub_cancel, List.take_left, List.drop_left]
theorem open_seal {gt : Nat → Nat} {k plain : List Nat} {ts : List (List Nat)} (hok : okT ts) (hp : plain.length ≤ 1048576) (hb : ∀ z ∈ plain, z < 256) : openR gt k (sealR gt k plain ts).1 ts = (plain, 0) := by
  rw [sealR_ok hok, open_of hok (tagV_len _ _ _ _) (by rw [strV_len]; exact hp), if_pos rfl, str_str _ _ hb]
set_option maxRecDepth 100000 in
set_option maxHeartbeats 4000000 in
theorem rFewM_any {LA : Option Addr} {lc : Nat} {xs : List (List Nat)} {lm : Nat → TextT.μ} {X : List Nat} {w0 : World} (hX : ∀ k ∈ X, k < w0.heap.size) (hL : St (LiF TextT LA lc xs lm) w0 X) :
    Calls Tryd.prog 12 #[.slice LA xs.length lc] w0 fun e w' => e = .returned (.bool (fewM xs)) ∧ Sep X [] w0 w' [] [] := by
  have hLb := hL.now.big
  refine calls_env Tryd.ntmps12 Tryd.func12 rfl rfl fun a E => ?_; replace E : Env a _ [(0, _)] := E
  have H : Sep X [] w0 w0 [] [(LiF TextT LA lc xs lm)] := Sep.start hX (List.forall_mem_cons.2 ⟨hL, fun _ h => by cases h⟩)
  refine wp_seq_k fun K0 hK0 => ?_; refine S_region ?_; refine S_val E (pk_assign rfl rfl) rfl rfl rfl ?_; clear E a; intro a E; refine hK0 _ _ ?_; refine wp_seq_k fun K1 hK1 => ?_; refine S_region ?_; refine S_val E (pk_assign rfl rfl) rfl rfl rfl ?_; clear E a; intro a E; refine hK1 _ _ ?_; refine wp_seq_k fun K2 hK2 => ?_; refine wp_seq_k fun K3 hK3 => ?_; refine S_region ?_; refine S_val E (pk_move rfl rfl) rfl rfl rfl ?_; clear E a; intro a E; refine S_val E (pk_len rfl rfl (by kernel_rfl)) rfl rfl rfl ?_; clear E a; intro a E; refine S_val E (pk_move rfl rfl) rfl rfl rfl ?_; clear E a; intro a E; refine hK3 _ _ ?_; refine wp_block ?_
  refine S_loopK (γ := Nat × Int) [0, 6, 7] (fun g => [(3, .int .i64 g.2), (8, .int .i64 (g.1 : Int))]) (fun g => g.1 ≤ xs.length ∧ ((xs.map List.length).length ≤ 200 → g.2 = (cutM ((xs.map List.length).take g.1) : Int))) (fun g => xs.length - g.1) ((0, 0)) E H (by repeat (first | exact trivial | refine ⟨rfl, ?_⟩)) (⟨Nat.zero_le _, fun _ => rfl⟩) ?_; clear E H; intro g a w E H hφ; replace E : Env a _ [(3, _), (8, _), (0, _), (6, _), (7, _)] := E; replace H : Sep _ _ _ _ [] [_] := H; refine wp_seq_k fun K4 hK4 => ?_; refine S_region ?_; refine S_val E (pk_int rfl rfl rfl rfl) rfl rfl rfl ?_; clear E a; intro a E; refine hK4 _ _ ?_; refine wp_seq_k fun K5 hK5 => ?_; refine env_split (d := 9) E rfl ?_ ?_
  · skip
    clear E; intro c9 E
    have hk : g.1 < xs.length := by simpa using c9
    have hx0 : xs[g.1]? = some xs[g.1] := List.getElem?_eq_getElem hk
    refine S_then E rfl ?_; refine wp_skip ?_; refine hK5 _ _ ?_; refine wp_seq_k fun K6 hK6 => ?_; refine wp_block ?_; refine wp_seq_k fun K7 hK7 => ?_; refine S_region ?_
    obtain ⟨ad10, hA10, hc10, hn10⟩ := LiF.get (A := LA) (T := TextT) (i := g.1) (x := xs[g.1]) (by exact H.fact 0 rfl) hx0
    refine S_val E (pk_elA (sz := 1) hA10 rfl (by kernel_rfl) rfl rfl rfl (by omega)) rfl rfl rfl ?_; clear E a; intro a E
    replace H := (H.know hn10).know hc10
    clear hn10 hc10; replace H : Sep _ _ _ _ _ [_, _, _] := H; refine S_val E (pk_loadE1 (H.fact 0 rfl) (fun _ _ _ => trivial) rfl rfl rfl (by kernel_rfl)) rfl rfl rfl ?_; clear E a; intro a E; refine S_val E (pk_assign rfl rfl) rfl rfl rfl ?_; clear E a; intro a E; refine hK7 _ _ ?_; refine S_region ?_; refine S_val E (pk_move rfl rfl) rfl rfl rfl ?_; clear E a; intro a E; refine S_val E (pk_move rfl rfl) rfl rfl rfl ?_; clear E a; intro a E; refine S_val E (pk_len rfl rfl (by kernel_rfl)) rfl rfl rfl ?_; clear E a; intro a E; refine S_val E (pk_min rfl rfl rfl) rfl rfl rfl ?_; clear E a; intro a E; refine S_val E (pk_int rfl rfl rfl rfl) rfl rfl rfl ?_; clear E a; intro a E; refine S_val E (pk_assign rfl rfl) rfl rfl rfl ?_; clear E a; intro a E; refine hK6 _ _ ?_; refine S_region ?_; refine S_val E (pk_intw rfl rfl rfl rfl (wI64 (by omega) (by omega))) rfl rfl rfl ?_; clear E a
    intro a E; refine S_val E (pk_move rfl rfl) rfl rfl rfl ?_; clear E a; intro a E; refine loop_end ?_
    exact ⟨(g.1 + 1, IntKind.i64.wrap (g.2 + min ((xs[g.1].length : Nat) : Int) 70000)), ⟨E.to (by repeat (first | exact trivial | refine ⟨rfl, ?_⟩)), H.pop.pop, ⟨by omega, fun h => by have := cutM_step (xs := (xs.map List.length)) (k := g.1) (by rw [List.length_map]; omega) hφ.2 h; rw [List.getElem_map] at this; exact this⟩⟩, by omega⟩
  · skip
    clear E; intro c9 E
    have hk : ¬ g.1 < xs.length := by simpa using c9
    refine S_else E rfl ?_; refine wp_exit ?_
    repeat (first | refine then_exit ?_ | refine block_hit ?_ | refine block_miss (by decide) ?_)
    refine hK2 _ _ ?_; refine wp_seq_k fun K8 hK8 => ?_; refine S_region ?_; refine S_val E (pk_move rfl rfl) rfl rfl rfl ?_; clear E a; intro a E; refine S_val E (pk_len rfl rfl (by kernel_rfl)) rfl rfl rfl ?_; clear E a; intro a E; refine S_val E (pk_int rfl rfl rfl rfl) rfl rfl rfl ?_; clear E a; intro a E; refine S_val E (pk_move rfl rfl) rfl rfl rfl ?_; clear E a; intro a E; refine env_split (d := 21) E rfl ?_ ?_
    · skip
      clear E; intro c21 E; refine S_val E (pk_move rfl rfl) rfl rfl rfl ?_; clear E a; intro a E; refine S_val E (pk_int rfl rfl rfl rfl) rfl rfl rfl ?_; clear E a; intro a E; refine S_val E (pk_pick rfl rfl rfl) rfl rfl rfl ?_; clear E a; intro a E; refine S_val E (pk_assign rfl rfl) rfl rfl rfl ?_; clear E a; intro a E; refine hK8 _ _ ?_; refine wp_ret ?_
      repeat (first | refine then_ret ?_ | refine block_ret ?_)
      refine ret1 rfl E (resT rfl) ?_; refine ⟨?_, H.keepLR (L := []) (R := [])⟩
      have hg : g.1 = xs.length := by omega
      have hz := hφ.2
      rw [hg, ← List.length_map (f := List.length), List.take_length, List.length_map] at hz
      have e : fewM xs = (decide (xs.length ≤ 200) && decide (g.2 ≤ 140000)) := by
        unfold fewM
        by_cases h : xs.length ≤ 200
        · rw [hz h]; congr 1; rw [Bool.eq_iff_iff]; simp; omega
        · rw [decide_eq_false h, Bool.false_and, Bool.false_and]
      rw [e]
      clear e hz hφ
      simp_all
      try omega
    · skip
      clear E; intro c21 E; refine S_skip E rfl rfl rfl ?_; clear E a; intro a E; refine S_skip E rfl rfl rfl ?_; clear E a; intro a E; refine S_val E (pk_pick rfl rfl rfl) rfl rfl rfl ?_; clear E a; intro a E; refine S_val E (pk_assign rfl rfl) rfl rfl rfl ?_; clear E a; intro a E; refine hK8 _ _ ?_; refine wp_ret ?_
      repeat (first | refine then_ret ?_ | refine block_ret ?_)
      refine ret1 rfl E (resT rfl) ?_; refine ⟨?_, H.keepLR (L := []) (R := [])⟩
      have hg : g.1 = xs.length := by omega
      have hz := hφ.2
      rw [hg, ← List.length_map (f := List.length), List.take_length, List.length_map] at hz
      have e : fewM xs = (decide (xs.length ≤ 200) && decide (g.2 ≤ 140000)) := by
        unfold fewM
        by_cases h : xs.length ≤ 200
        · rw [hz h]; congr 1; rw [Bool.eq_iff_iff]; simp; omega
        · rw [decide_eq_false h, Bool.false_and, Bool.false_and]
      rw [e]
      clear e hz hφ
      simp_all
      try omega
end Go.Proofs.YtfolbgiekbimpaaDoor
namespace Go.Proofs.YtfolbgiekbimpaaDoor
set_option linter.unusedSimpArgs false
set_option linter.unusedVariables false
open Go.RowKit

def key2 : List Nat := 2 :: List.replicate 31 0
theorem okT_nil : okT [] := fun t h => by cases h
theorem honest (gt : Nat → Nat) (a s : List Nat) : ¬ noneK (multK a (pairP gt s)) := share_ne a (pairS gt s)
theorem seal_len {gt : Nat → Nat} {k plain : List Nat} {ts : List (List Nat)} (h : okT ts) : (sealR gt k plain ts).1.length = plain.length + 16 := by
  rw [sealR_ok h]
  show (strV _ _ ++ tagV _ _ _ _).length = _
  rw [List.length_append, strV_len, tagV_len]
theorem kbox_len {gt : Nat → Nat} {point seed plain : List Nat} {ts : List (List Nat)} (h : ¬ noneK (multK (boxSec gt seed) point)) (ho : okT ts) : (kboxR gt point seed plain ts).1.length = plain.length + 48 := by
  rw [kbox_ok h ho]
  show (boxPt gt seed ++ (sealR gt _ plain ts).1).length = _
  rw [List.length_append, boxPt_len, seal_len ho]
  omega
theorem kbox_ok2 {gt : Nat → Nat} {point seed plain : List Nat} {ts : List (List Nat)} (h : ¬ noneK (multK (boxSec gt seed) point)) (ho : okT ts) : (kboxR gt point seed plain ts).2 = 0 := by rw [kbox_ok h ho]
theorem kbox_take {gt : Nat → Nat} {point seed plain : List Nat} {ts : List (List Nat)} (h : ¬ noneK (multK (boxSec gt seed) point)) (ho : okT ts) : (kboxR gt point seed plain ts).1.take 32 = boxPt gt seed := by
  rw [kbox_ok h ho]
  exact (congrArg (fun n => List.take n _) (boxPt_len gt seed).symm).trans List.take_left
theorem unbox_box {gt : Nat → Nat} {seed other plain : List Nat} {ts : List (List Nat)} (ho : okT ts) (hp : plain.length ≤ 1048576) (hb : ∀ z ∈ plain, z < 256) :
    unboxR gt (pairS gt seed) (kboxR gt (pairP gt seed) other plain ts).1 ts = (plain, 0) := by
  have hn := honest gt (boxSec gt other) seed
  have hl := kbox_len (plain := plain) hn ho
  have ht := kbox_take (plain := plain) hn ho
  have hd : (kboxR gt (pairP gt seed) other plain ts).1.drop 32 = (sealR gt (sharedK gt (multK (boxSec gt other) (pairP gt seed)) (boxPt gt other) (pairP gt seed)) plain ts).1 := by
    rw [kbox_ok hn ho]
    exact (congrArg (fun n => List.drop n _) (boxPt_len gt other).symm).trans List.drop_left
  have hm : multK (pairS gt seed) (boxPt gt other) = multK (boxSec gt other) (pairP gt seed) := share_turn _ _
  unfold unboxR
  rw [if_neg (by omega), ht, hm, if_neg hn, hd]
  exact open_seal ho hp hb
attribute [local irreducible] macV expV derV multK baseK sealR openR strV tagV sharedK boxSec boxPt kboxR sharedR pairS pairP unboxR
set_option maxRecDepth 100000 in
set_option maxHeartbeats 600000 in
theorem live08_any {gt : Nat → Nat} {X : List Nat} {w0 : World} (hX : ∀ k ∈ X, k < w0.heap.size) (hG : St (AtC ⟨1, 0, none⟩ [.row 64 fun i => u32 (gt i)]) w0 X) :
    Calls Tryd.prog 6 #[] w0 fun e w' => e = .returned (.bool true) ∧ Sep X [] w0 w' [] [] := by
  have hn := honest gt (boxSec gt key2) key1
  have hk2 := kbox_ok2 (plain := helloL) hn okT_nil
  have hkl := kbox_len (plain := helloL) hn okT_nil
  refine calls_env Tryd.ntmps6 Tryd.func6 rfl rfl fun a E => ?_; replace E : Env a _ [] := E
  have H : Sep X [] w0 w0 [] [(AtC ⟨1, 0, none⟩ [.row 64 fun i => u32 (gt i)])] := Sep.start hX (List.forall_mem_cons.2 ⟨hG, fun _ h => by cases h⟩)
  refine wp_seq_k fun K0 hK0 => ?_; refine S_region ?_; refine S_val E (pk_assign rfl rfl) rfl rfl rfl ?_; clear E a; intro a E; refine hK0 _ _ ?_; refine wp_seq_k fun K1 hK1 => ?_; refine S_region ?_
  refine S_val E (pk_buildC (n := 32) (z := [.one (.int .u8 0), .one (.int .u8 0), .one (.int .u8 0), .one (.int .u8 0), .one (.int .u8 0), .one (.int .u8 0), .one (.int .u8 0), .one (.int .u8 0), .one (.int .u8 0), .one (.int .u8 0), .one (.int .u8 0), .one (.int .u8 0), .one (.int .u8 0), .one (.int .u8 0), .one (.int .u8 0), .one (.int .u8 0), .one (.int .u8 0), .one (.int .u8 0), .one (.int .u8 0), .one (.int .u8 0), .one (.int .u8 0), .one (.int .u8 0), .one (.int .u8 0), .one (.int .u8 0), .one (.int .u8 0), .one (.int .u8 0), .one (.int .u8 0), .one (.int .u8 0), .one (.int .u8 0), .one (.int .u8 0), .one (.int .u8 0), .one (.int .u8 0)]) [.key key1] rfl (by kernel_rfl) (by kernel_rfl) ⟨_, [.one _], 0, _, rfl, rfl, rfl, rfl, rfl⟩ rfl) rfl rfl rfl ?_; clear E a; intro a E; refine S_eff E rfl (fun K hK => ?_); refine eff_call E rfl rfl rfl (by kernel_rfl) ?_
  refine (Pair_any (seed := key1) (by decide) (by decide) H.xk (H.fact 0 rfl)).mono ?_; rintro e w ⟨rfl, H1⟩
  replace H := H.call H1
  clear H1; replace H : Sep _ _ _ _ [] [_] := H; refine hK _ _ ?_; clear hK K; refine S_put E rfl rfl ?_; clear E a; intro a E; refine S_val E (pk_move rfl rfl) rfl rfl rfl ?_; clear E a; intro a E; refine S_val E (pk_extract rfl rfl rfl) rfl rfl rfl ?_; clear E a; intro a E; refine S_val E (pk_extract rfl rfl rfl) rfl rfl rfl ?_; clear E a; intro a E; refine S_eff E rfl (fun K hK => ?_); refine eff_alloc (z := [.key []]) H rfl (by kernel_rfl) ?_; clear H; intro b1 w H _; refine hK _ _ ?_; clear hK K; refine S_put E rfl rfl ?_; clear E a; intro a E; refine S_eff E rfl (fun K hK => ?_); refine eff_alloc (z := [.key []]) H rfl (by kernel_rfl) ?_; clear H; intro b2 w H _; refine hK _ _ ?_; clear hK K; refine S_put E rfl rfl ?_; clear E a; intro a E; refine S_eff E rfl (fun K hK => ?_)
  refine eff_store 1 E H rfl rfl rfl rfl rfl (by repeat (first | exact trivial | refine ⟨rfl, ?_⟩ | refine ⟨fun _ _ => rfl, ?_⟩)) rfl (by kernel_rfl) rfl ?_; clear H; intro w H _; replace H : Sep _ _ _ _ [_, _] _ := H; refine hK _ _ ?_; clear hK K; refine S_put0 rfl ?_; refine S_eff E rfl (fun K hK => ?_); refine eff_store 0 E H rfl rfl rfl rfl rfl (by repeat (first | exact trivial | refine ⟨rfl, ?_⟩ | refine ⟨fun _ _ => rfl, ?_⟩)) rfl (by kernel_rfl) rfl ?_; clear H; intro w H _; replace H : Sep _ _ _ _ [_, _] _ := H; refine hK _ _ ?_; clear hK K; refine S_put0 rfl ?_; refine hK1 _ _ ?_; refine wp_seq_k fun K2 hK2 => ?_; refine S_region ?_; refine S_val E (pk_load (n := 32) H 0 rfl rfl rfl trivial rfl (by kernel_rfl)) rfl rfl rfl ?_; clear E a; intro a E
  refine S_val E (pk_buildC (n := 32) (z := [.one (.int .u8 0), .one (.int .u8 0), .one (.int .u8 0), .one (.int .u8 0), .one (.int .u8 0), .one (.int .u8 0), .one (.int .u8 0), .one (.int .u8 0), .one (.int .u8 0), .one (.int .u8 0), .one (.int .u8 0), .one (.int .u8 0), .one (.int .u8 0), .one (.int .u8 0), .one (.int .u8 0), .one (.int .u8 0), .one (.int .u8 0), .one (.int .u8 0), .one (.int .u8 0), .one (.int .u8 0), .one (.int .u8 0), .one (.int .u8 0), .one (.int .u8 0), .one (.int .u8 0), .one (.int .u8 0), .one (.int .u8 0), .one (.int .u8 0), .one (.int .u8 0), .one (.int .u8 0), .one (.int .u8 0), .one (.int .u8 0), .one (.int .u8 0)]) [.key key2] rfl (by kernel_rfl) (by kernel_rfl) ⟨_, [.one _], 0, _, rfl, rfl, rfl, rfl, rfl⟩ rfl) rfl rfl rfl ?_; clear E a; intro a E; refine S_eff E rfl (fun K hK => ?_)
  refine eff_bslice (sz := 1) (z := [.one (.int .u8 0), .one (.int .u8 0), .one (.int .u8 0), .one (.int .u8 0), .one (.int .u8 0)]) E H rfl Tryd.underlying32 (by kernel_rfl) (by decide) (by kernel_rfl) ⟨_, [.one _], 0, _, rfl, rfl, rfl, rfl, ⟨_, [.one _], 1, _, rfl, rfl, rfl, rfl, ⟨_, [.one _], 2, _, rfl, rfl, rfl, rfl, ⟨_, [.one _], 3, _, rfl, rfl, rfl, rfl, ⟨_, [.one _], 4, _, rfl, rfl, rfl, rfl, rfl⟩⟩⟩⟩⟩ ?_; clear H; intro b13 w H _; refine hK _ _ ?_; clear hK K; refine S_put E rfl rfl ?_; clear E a; intro a E; refine S_eff E rfl (fun K hK => ?_); refine eff_const 0 E H rfl rfl Tryd.underlying32 Tryd.underlying5 rfl rfl ?_; clear H; intro w H F; replace H : Sep _ _ _ _ [_, _] [_, _] := H; refine hK _ _ ?_; clear hK K; refine S_put E rfl rfl ?_; clear E a; intro a E; clear F; refine S_eff E rfl (fun K hK => ?_)
  refine eff_call E rfl rfl rfl (by kernel_rfl) ?_
  have hinf := txF_at (k := helloL) (c := 5) (H.fact 0 rfl) rfl (by show 5 ≤ 5; decide) (by show 5 ≤ _; decide) (by decide)
  refine (KBox_any (point := pairP gt key1) (seed := key2) (plain := helloL) (ts := []) (tm := fun _ => TextT.dft) (pairP_len _ _) (pairP_byte _ _) (by decide) (by decide) (by decide) (by show 0 ≤ 1000; decide) H.xk hinf liF_nil (H.fact 1 rfl)).mono ?_; rintro e w ⟨A15, c15, rfl, H1⟩
  replace H := H.call H1
  clear H1; replace H : Sep _ _ _ _ [_, _] [_, _, _] := H; refine hK _ _ ?_; clear hK K; refine S_put E rfl rfl ?_; clear E a; intro a E; clear hinf; refine S_val E (pk_move rfl rfl) rfl rfl rfl ?_; clear E a; intro a E; refine S_val E (pk_extract rfl rfl rfl) rfl rfl rfl ?_; clear E a; intro a E; refine S_val E (pk_extract rfl rfl rfl) rfl rfl rfl ?_; clear E a; intro a E; refine S_val E (pk_assign rfl rfl) rfl rfl rfl ?_; clear E a; intro a E; refine S_val E (pk_assign rfl rfl) rfl rfl rfl ?_; clear E a; intro a E; refine hK2 _ _ ?_; refine wp_seq_k fun K3 hK3 => ?_; refine S_region ?_; refine S_val E (pk_move rfl rfl) rfl rfl rfl ?_; clear E a; intro a E; refine S_val E (pk_int (v := .bool true) rfl rfl rfl (congrArg (fun b => some (Value.bool b)) (by rw [hk2]; rfl))) rfl rfl rfl ?_; clear E a; intro a E; refine S_val E (pk_move rfl rfl) rfl rfl rfl ?_; clear E a; intro a E
  refine S_val E (pk_move rfl rfl) rfl rfl rfl ?_; clear E a; intro a E; refine S_val E (pk_len rfl rfl (by kernel_rfl)) rfl rfl rfl ?_; clear E a; intro a E; refine S_val E (pk_int (v := .bool true) rfl rfl rfl (congrArg (fun b => some (Value.bool b)) (by rw [hkl]; rfl))) rfl rfl rfl ?_; clear E a; intro a E; refine S_val E (pk_pick rfl rfl rfl) rfl rfl rfl ?_; clear E a; intro a E; refine S_val E (pk_assign rfl rfl) rfl rfl rfl ?_; clear E a; intro a E; refine hK3 _ _ ?_; refine wp_ret ?_
  repeat (first | refine then_ret ?_ | refine block_ret ?_)
  refine ret1 rfl E (resT rfl) ?_
  exact ⟨rfl, H.keepLR (L := []) (R := [])⟩
set_option maxRecDepth 100000 in
set_option maxHeartbeats 1000000 in
theorem KemBack_any {PA TA : Option Addr} {pc tc : Nat} {ks ko pl : List Nat} {ts : List (List Nat)} {tm : Nat → TextT.μ} {gt : Nat → Nat} (hls : ks.length = 32) (hbs : ∀ x ∈ ks, x < 256) (hlo : ko.length = 32) (hbo : ∀ x ∈ ko, x < 256) {X : List Nat} {w0 : World} (hX : ∀ k ∈ X, k < w0.heap.size) (hP : St (TxF PA pc pl) w0 X) (hL : St (LiF TextT TA tc ts tm) w0 X) (hG : St (AtC ⟨1, 0, none⟩ [.row 64 fun i => u32 (gt i)]) w0 X) :
    Calls Tryd.prog 5 #[.agg (ca [.key ks]), .agg (ca [.key ko]), .slice PA pl.length pc, .slice TA ts.length tc] w0 fun e w' => e = .returned (.bool true) ∧ Sep X [] w0 w' [] [] := by
  have hPl := hP.now.len
  have hPb := hP.now.byt
  have hn := honest gt (boxSec gt ko) ks
  refine calls_env Tryd.ntmps5 Tryd.func5 rfl rfl fun a E => ?_; replace E : Env a _ [(0, _), (1, _), (2, _), (3, _)] := E
  have H : Sep X [] w0 w0 [] [(TxF PA pc pl), (LiF TextT TA tc ts tm), (AtC ⟨1, 0, none⟩ [.row 64 fun i => u32 (gt i)])] := Sep.start hX (List.forall_mem_cons.2 ⟨hP, List.forall_mem_cons.2 ⟨hL, List.forall_mem_cons.2 ⟨hG, fun _ h => by cases h⟩⟩⟩)
  refine wp_seq_k fun K0 hK0 => ?_; refine S_region ?_; refine S_eff E rfl (fun K hK => ?_); refine eff_box E H rfl rfl rfl ?_; clear H; intro b4 w H _; refine hK _ _ ?_; clear hK K; refine S_put E rfl rfl ?_; clear E a; intro a E; refine S_eff E rfl (fun K hK => ?_); refine eff_box E H rfl rfl rfl ?_; clear H; intro b5 w H _; refine hK _ _ ?_; clear hK K; refine S_put E rfl rfl ?_; clear E a; intro a E; refine S_val E (pk_assign rfl rfl) rfl rfl rfl ?_; clear E a; intro a E; refine hK0 _ _ ?_; refine wp_seq_k fun K1 hK1 => ?_; refine S_region ?_; refine S_eff E rfl (fun K hK => ?_); refine eff_call E rfl rfl rfl (by kernel_rfl) ?_; refine (live08_any H.xk (H.fact 2 rfl)).mono ?_; rintro e w ⟨rfl, H1⟩
  replace H := H.call H1
  clear H1; replace H : Sep _ _ _ _ [_, _] [_, _, _] := H; refine hK _ _ ?_; clear hK K; refine S_put E rfl rfl ?_; clear E a; intro a E; refine S_val E (pk_assign rfl rfl) rfl rfl rfl ?_; clear E a; intro a E; refine hK1 _ _ ?_; refine wp_seq_k fun K2 hK2 => ?_; refine wp_seq_k fun K3 hK3 => ?_; refine S_region ?_; refine S_val E (pk_move rfl rfl) rfl rfl rfl ?_; clear E a; intro a E; refine S_val E (pk_not rfl rfl) rfl rfl rfl ?_; clear E a; intro a E; refine hK3 _ _ ?_; refine S_else E rfl ?_; refine wp_skip ?_; refine hK2 _ _ ?_; refine wp_seq_k fun K4 hK4 => ?_; refine wp_seq_k fun K5 hK5 => ?_; refine S_region ?_; refine S_val E (pk_move rfl rfl) rfl rfl rfl ?_; clear E a; intro a E; refine S_val E (pk_len rfl rfl (by kernel_rfl)) rfl rfl rfl ?_; clear E a; intro a E; refine S_val E (pk_int rfl rfl rfl rfl) rfl rfl rfl ?_; clear E a; intro a E
  refine S_val E (pk_move rfl rfl) rfl rfl rfl ?_; clear E a; intro a E; refine env_split (d := 22) E rfl ?_ ?_
  · skip
    clear E; intro c22 E; refine S_skip E rfl rfl rfl ?_; clear E a; intro a E; refine S_skip E rfl rfl rfl ?_; clear E a; intro a E; refine S_skip E rfl rfl rfl ?_; clear E a; intro a E; refine S_val E (pk_pick rfl rfl rfl) rfl rfl rfl ?_; clear E a; intro a E; refine hK5 _ _ ?_; refine S_then E rfl ?_; refine wp_seq_k fun K6 hK6 => ?_; refine S_region ?_; refine S_val E (pk_move rfl rfl) rfl rfl rfl ?_; clear E a; intro a E; refine S_val E (pk_assign rfl rfl) rfl rfl rfl ?_; clear E a; intro a E; refine hK6 _ _ ?_; refine wp_ret ?_
    repeat (first | refine then_ret ?_ | refine block_ret ?_)
    refine ret1 rfl E (resT rfl) ?_
    exact ⟨rfl, H.keepLR (L := []) (R := [])⟩
  · skip
    clear E; intro c22 E
    have hpl : pl.length ≤ 1000 := by have := c22; simp only [decide_eq_false_iff_not] at this; omega
    refine S_val E (pk_move rfl rfl) rfl rfl rfl ?_; clear E a; intro a E; refine S_eff E rfl (fun K hK => ?_); refine eff_call E rfl rfl rfl (by kernel_rfl) ?_; refine (rFewM_any H.xk (H.fact 1 rfl)).mono ?_; rintro e w ⟨rfl, H1⟩
    replace H := H.call H1
    clear H1; replace H : Sep _ _ _ _ [_, _] [_, _, _] := H; refine hK _ _ ?_; clear hK K; refine S_put E rfl rfl ?_; clear E a; intro a E; refine S_val E (pk_not rfl rfl) rfl rfl rfl ?_; clear E a; intro a E; refine S_val E (pk_pick rfl rfl rfl) rfl rfl rfl ?_; clear E a; intro a E; refine hK5 _ _ ?_; refine env_split (d := 26) E rfl ?_ ?_
    · skip
      clear E; intro c26 E; refine S_then E rfl ?_; refine wp_seq_k fun K7 hK7 => ?_; refine S_region ?_; refine S_val E (pk_move rfl rfl) rfl rfl rfl ?_; clear E a; intro a E; refine S_val E (pk_assign rfl rfl) rfl rfl rfl ?_; clear E a; intro a E; refine hK7 _ _ ?_; refine wp_ret ?_
      repeat (first | refine then_ret ?_ | refine block_ret ?_)
      refine ret1 rfl E (resT rfl) ?_
      exact ⟨rfl, H.keepLR (L := []) (R := [])⟩
    · skip
      clear E; intro c26 E
      have hts : ts.length ≤ 1000 := fewM_len (by simpa using c26)
      refine S_else E rfl ?_; refine wp_skip ?_; refine hK4 _ _ ?_; refine wp_seq_k fun K8 hK8 => ?_; refine S_region ?_; refine S_val E (pk_load (n := 32) H 1 rfl rfl rfl trivial rfl (by kernel_rfl)) rfl rfl rfl ?_; clear E a; intro a E; refine S_eff E rfl (fun K hK => ?_); refine eff_call E rfl rfl rfl (by kernel_rfl) ?_; refine (Pair_any (seed := ks) hls hbs H.xk (H.fact 2 rfl)).mono ?_; rintro e w ⟨rfl, H1⟩
      replace H := H.call H1
      clear H1; replace H : Sep _ _ _ _ [_, _] [_, _, _] := H; refine hK _ _ ?_; clear hK K; refine S_put E rfl rfl ?_; clear E a; intro a E; refine S_val E (pk_move rfl rfl) rfl rfl rfl ?_; clear E a; intro a E; refine S_val E (pk_extract rfl rfl rfl) rfl rfl rfl ?_; clear E a; intro a E; refine S_val E (pk_extract rfl rfl rfl) rfl rfl rfl ?_; clear E a; intro a E; refine S_eff E rfl (fun K hK => ?_); refine eff_alloc (z := [.key []]) H rfl (by kernel_rfl) ?_; clear H; intro b10 w H _; refine hK _ _ ?_; clear hK K; refine S_put E rfl rfl ?_; clear E a; intro a E; refine S_eff E rfl (fun K hK => ?_); refine eff_alloc (z := [.key []]) H rfl (by kernel_rfl) ?_; clear H; intro b11 w H _; refine hK _ _ ?_; clear hK K; refine S_put E rfl rfl ?_; clear E a; intro a E; refine S_eff E rfl (fun K hK => ?_)
      refine eff_store 1 E H rfl rfl rfl rfl rfl (by repeat (first | exact trivial | refine ⟨rfl, ?_⟩ | refine ⟨fun _ _ => rfl, ?_⟩)) rfl (by kernel_rfl) rfl ?_; clear H; intro w H _; replace H : Sep _ _ _ _ [_, _, _, _] _ := H; refine hK _ _ ?_; clear hK K; refine S_put0 rfl ?_; refine S_eff E rfl (fun K hK => ?_); refine eff_store 0 E H rfl rfl rfl rfl rfl (by repeat (first | exact trivial | refine ⟨rfl, ?_⟩ | refine ⟨fun _ _ => rfl, ?_⟩)) rfl (by kernel_rfl) rfl ?_; clear H; intro w H _; replace H : Sep _ _ _ _ [_, _, _, _] _ := H; refine hK _ _ ?_; clear hK K; refine S_put0 rfl ?_; refine hK8 _ _ ?_; refine wp_seq_k fun K9 hK9 => ?_; refine S_region ?_; refine S_val E (pk_load (n := 32) H 0 rfl rfl rfl trivial rfl (by kernel_rfl)) rfl rfl rfl ?_; clear E a; intro a E; refine S_val E (pk_load (n := 32) H 2 rfl rfl rfl trivial rfl (by kernel_rfl)) rfl rfl rfl ?_; clear E a; intro a E
      refine S_val E (pk_move rfl rfl) rfl rfl rfl ?_; clear E a; intro a E; refine S_val E (pk_move rfl rfl) rfl rfl rfl ?_; clear E a; intro a E; refine S_eff E rfl (fun K hK => ?_); refine eff_call E rfl rfl rfl (by kernel_rfl) ?_; refine (KBox_any (point := pairP gt ks) (seed := ko) (plain := pl) (ts := ts) (pairP_len _ _) (pairP_byte _ _) hlo hbo (by omega) hts H.xk (H.fact 0 rfl) (H.fact 1 rfl) (H.fact 2 rfl)).mono ?_; rintro e w ⟨A38, c38, rfl, H1⟩
      replace H := H.call H1
      clear H1; replace H : Sep _ _ _ _ [_, _, _, _] [_, _, _, _] := H; refine hK _ _ ?_; clear hK K; refine S_put E rfl rfl ?_; clear E a; intro a E; refine S_val E (pk_move rfl rfl) rfl rfl rfl ?_; clear E a; intro a E; refine S_val E (pk_extract rfl rfl rfl) rfl rfl rfl ?_; clear E a; intro a E; refine S_val E (pk_extract rfl rfl rfl) rfl rfl rfl ?_; clear E a; intro a E; refine S_val E (pk_assign rfl rfl) rfl rfl rfl ?_; clear E a; intro a E; refine S_val E (pk_assign rfl rfl) rfl rfl rfl ?_; clear E a; intro a E; refine hK9 _ _ ?_; refine wp_seq_k fun K10 hK10 => ?_; refine wp_seq_k fun K11 hK11 => ?_; refine S_region ?_; refine S_val E (pk_move rfl rfl) rfl rfl rfl ?_; clear E a; intro a E; refine S_val E (pk_int rfl rfl rfl rfl) rfl rfl rfl ?_; clear E a; intro a E; refine hK11 _ _ ?_; refine env_split (d := 42) E rfl ?_ ?_
      · skip
        clear E; intro c42 E
        have hok : ¬ okT ts := fun h => by rw [kbox_ok2 hn h] at c42; cases c42
        rw [kbox_long hn hok] at E H
        simp only at E H
        refine S_then E rfl ?_; refine wp_seq_k fun K12 hK12 => ?_; refine S_region ?_; refine S_val E (pk_move rfl rfl) rfl rfl rfl ?_; clear E a; intro a E; refine S_val E (pk_move rfl rfl) rfl rfl rfl ?_; clear E a; intro a E; refine S_val E (pk_move rfl rfl) rfl rfl rfl ?_; clear E a; intro a E; refine S_val E (pk_int (v := .bool true) rfl rfl rfl (congrArg (fun b => some (Value.bool b)) (rfl))) rfl rfl rfl ?_; clear E a; intro a E; refine S_val E (pk_pick rfl rfl rfl) rfl rfl rfl ?_; clear E a; intro a E; refine S_val E (pk_move rfl rfl) rfl rfl rfl ?_; clear E a; intro a E; refine S_val E (pk_move rfl rfl) rfl rfl rfl ?_; clear E a; intro a E; refine S_val E (pk_len rfl rfl (by kernel_rfl)) rfl rfl rfl ?_; clear E a; intro a E; refine S_val E (pk_int (v := .bool true) rfl rfl rfl (congrArg (fun b => some (Value.bool b)) (rfl))) rfl rfl rfl ?_; clear E a; intro a E
        refine S_val E (pk_pick rfl rfl rfl) rfl rfl rfl ?_; clear E a; intro a E; refine S_val E (pk_move rfl rfl) rfl rfl rfl ?_; clear E a; intro a E; refine S_skip E rfl rfl rfl ?_; clear E a; intro a E; refine S_skip E rfl rfl rfl ?_; clear E a; intro a E; refine S_skipU E rfl rfl rfl rfl rfl ?_; clear E a; intro a E; refine S_skipU E rfl rfl rfl rfl rfl ?_; clear E a; intro a E; refine S_skip E rfl rfl rfl ?_; clear E a; intro a E; refine S_skip E rfl rfl rfl ?_; clear E a; intro a E; refine S_skipU E rfl rfl rfl rfl rfl ?_; clear E a; intro a E; refine S_skipU E rfl rfl rfl rfl rfl ?_; clear E a; intro a E; refine S_skipU E rfl rfl rfl rfl rfl ?_; clear E a; intro a E; refine S_skip E rfl rfl rfl ?_; clear E a; intro a E; refine S_val E (pk_pick rfl rfl rfl) rfl rfl rfl ?_; clear E a; intro a E; refine S_val E (pk_assign rfl rfl) rfl rfl rfl ?_; clear E a; intro a E
        refine hK12 _ _ ?_; refine wp_ret ?_
        repeat (first | refine then_ret ?_ | refine block_ret ?_)
        refine ret1 rfl E (resT rfl) ?_
        exact ⟨rfl, H.keepLR (L := []) (R := [])⟩
      · skip
        clear E; intro c42 E
        have hok : okT ts := Classical.byContradiction fun h => by rw [kbox_long hn h] at c42; cases c42
        have hkl := kbox_len (plain := pl) hn hok
        have hub := unbox_box (gt := gt) (seed := ks) (other := ko) hok (by omega) hPb
        refine S_else E rfl ?_; refine wp_skip ?_; refine hK10 _ _ ?_; refine wp_seq_k fun K13 hK13 => ?_; refine S_region ?_; refine S_val E (pk_load (n := 32) H 1 rfl rfl rfl trivial rfl (by kernel_rfl)) rfl rfl rfl ?_; clear E a; intro a E; refine S_val E (pk_move rfl rfl) rfl rfl rfl ?_; clear E a; intro a E; refine S_val E (pk_move rfl rfl) rfl rfl rfl ?_; clear E a; intro a E; refine S_eff E rfl (fun K hK => ?_); refine eff_call E rfl rfl rfl (by kernel_rfl) ?_; refine (KUnbox_any (sec := pairS gt ks) (b := (kboxR gt (pairP gt ks) ko pl ts).1) (ts := ts) (pairS_len _ _) (pairS_byte _ _) hts H.xk (H.fact 0 rfl) (H.fact 2 rfl) (H.fact 3 rfl)).mono ?_; rintro e w ⟨A69, c69, rfl, H1⟩
        replace H := H.call H1
        clear H1; replace H : Sep _ _ _ _ [_, _, _, _] [_, _, _, _, _] := H; refine hK _ _ ?_; clear hK K; refine S_put E rfl rfl ?_; clear E a; intro a E; refine S_val E (pk_move rfl rfl) rfl rfl rfl ?_; clear E a; intro a E; refine S_val E (pk_extract rfl rfl rfl) rfl rfl rfl ?_; clear E a; intro a E; refine S_val E (pk_extract rfl rfl rfl) rfl rfl rfl ?_; clear E a; intro a E; refine S_val E (pk_assign rfl rfl) rfl rfl rfl ?_; clear E a; intro a E; refine S_val E (pk_assign rfl rfl) rfl rfl rfl ?_; clear E a; intro a E
        rw [hub] at E H
        simp only at E H
        refine hK13 _ _ ?_; refine wp_seq_k fun K14 hK14 => ?_; refine S_region ?_; refine S_val E (pk_move rfl rfl) rfl rfl rfl ?_; clear E a; intro a E; refine S_val E (pk_move rfl rfl) rfl rfl rfl ?_; clear E a; intro a E; refine S_val E (pk_move rfl rfl) rfl rfl rfl ?_; clear E a; intro a E; refine S_val E (pk_int (v := .bool true) rfl rfl rfl (congrArg (fun b => some (Value.bool b)) (rfl))) rfl rfl rfl ?_; clear E a; intro a E; refine S_val E (pk_pick rfl rfl rfl) rfl rfl rfl ?_; clear E a; intro a E; refine S_val E (pk_move rfl rfl) rfl rfl rfl ?_; clear E a; intro a E; refine S_val E (pk_move rfl rfl) rfl rfl rfl ?_; clear E a; intro a E; refine S_val E (pk_move rfl rfl) rfl rfl rfl ?_; clear E a; intro a E; refine S_eff E rfl (fun K hK => ?_); refine eff_call E rfl rfl rfl (by kernel_rfl) ?_; refine (sameP (l := pl) (l' := pl) (H.fact 0 rfl) (H.fact 2 rfl)).mono ?_
        rintro e w ⟨rfl, rfl⟩; refine hK _ _ ?_; clear hK K; refine S_put E rfl rfl ?_; clear E a; intro a E
        rw [decide_eq_true rfl] at E
        refine S_val E (pk_pick rfl rfl rfl) rfl rfl rfl ?_; clear E a; intro a E; refine S_val E (pk_move rfl rfl) rfl rfl rfl ?_; clear E a; intro a E; refine S_val E (pk_move rfl rfl) rfl rfl rfl ?_; clear E a; intro a E; refine S_val E (pk_len rfl rfl (by kernel_rfl)) rfl rfl rfl ?_; clear E a; intro a E; refine S_val E (pk_move rfl rfl) rfl rfl rfl ?_; clear E a; intro a E; refine S_val E (pk_len rfl rfl (by kernel_rfl)) rfl rfl rfl ?_; clear E a; intro a E; refine S_val E (pk_intw rfl rfl rfl rfl (wI64 (by omega) (by omega))) rfl rfl rfl ?_; clear E a; intro a E; refine S_val E (pk_intw rfl rfl rfl rfl (wI64 (by omega) (by omega))) rfl rfl rfl ?_; clear E a; intro a E; refine S_val E (pk_int (v := .bool true) rfl rfl rfl (congrArg (fun b => some (Value.bool b)) (by rw [beq_iff_eq, hkl]; omega))) rfl rfl rfl ?_; clear E a; intro a E
        refine S_val E (pk_pick rfl rfl rfl) rfl rfl rfl ?_; clear E a; intro a E; refine S_val E (pk_assign rfl rfl) rfl rfl rfl ?_; clear E a; intro a E; refine hK14 _ _ ?_; refine wp_ret ?_
        repeat (first | refine then_ret ?_ | refine block_ret ?_)
        refine ret1 rfl E (resT rfl) ?_
        exact ⟨rfl, H.keepLR (L := []) (R := [])⟩
end Go.Proofs.YtfolbgiekbimpaaDoor
