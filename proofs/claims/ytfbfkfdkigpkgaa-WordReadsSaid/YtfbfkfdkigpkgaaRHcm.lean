/- The walk of layer 16's reference: a commit's head. -/
import Derived.Test.YtfbfkfdkigpkgaaRChk
import Derived.Test.YtfbfkfdkigpkgaaHcm
import Derived.Test.YtfbfkfdkigpkgaaRHead
namespace Go.Proofs.Ytfbfkfdkigpkgaa
set_option linter.unusedSimpArgs false
set_option linter.unusedVariables false
open Go.RowKit
attribute [local irreducible] beL beK keyL

theorem rnum4 (n : Nat) (hn : n ≤ 1048576) (w : World) : Calls Try.prog 40 #[.int .i64 4, .int .i64 n] w (RetOwn w (beL 4 n)) := rnum_any 4 n (by omega) (by omega) w
theorem rnum2 (n : Nat) (hn : n ≤ 1048576) (w : World) : Calls Try.prog 40 #[.int .i64 2, .int .i64 n] w (RetOwn w (beL 2 n)) := rnum_any 2 n (by omega) (by omega) w
theorem rbytes8 (n : Nat) (hn : (n : Int) ≤ 1099511627776) (w : World) : Calls Try.prog 43 #[.int .i64 8, .int .u64 n] w (RetOwn w (beL 8 n)) := Bytes_any 8 n (by omega) (by omega) w
/-- A row that grows keeps blocks of another type. -/
theorem grown_keep {w w' : World} {base g : Nat} {e t : TypeId} {v : Value} {l : List Nat} {c : Array Value} {fr : Nat × Nat} (ho : Own w base e v l) (hg : w.grownBy w' v.ownBlock) (h : w.heap[g]? = some (.cells c t fr)) (hne : e ≠ t) : w'.heap[g]? = some (.cells c t fr) :=
  (hg.block g (lt_of_block h) (fun q => own_ne ho h hne g q.symm rfl)).trans h
theorem txt_part {w : World} {g off N : Nat} {t : TypeId} {f : Nat → Value} {fr : Nat × Nat} {p : Nat → Nat} (h : w.heap[g]? = some (.cells (arrV N f) t fr)) (hle : off + 32 ≤ N) (hf : ∀ i, i < 32 → f (off + i) = .int .u8 ((p i : Nat) : Int)) : Txt w (g + 1) (some ⟨g, off, none⟩) 32 32 (keyL p) := by
  refine ⟨keyL_len p, (fun e => by cases e), fun _ => ⟨_, rfl, Nat.lt_succ_self _, fun i x hx => ?_⟩⟩
  unfold keyL at hx
  rw [List.getElem?_map, Option.map_eq_some_iff] at hx
  obtain ⟨j, hj, rfl⟩ := hx
  have hi : i < 32 := by
    have := (List.getElem?_eq_some_iff.1 hj).1
    simpa using this
  rw [List.getElem?_range hi] at hj
  injection hj with hj
  subst hj
  rw [addr_add, cell_arrV h (off + i) (by omega), hf i hi]
  rfl

theorem propsL_succ (c : Com) (i : Nat) : propsL c (i + 1) = propsL c i ++ propL (c.kind i) (c.id i) (c.ppt i) := flat_succ _ _
theorem stepsL_succ (c : Com) (i : Nat) : stepsL c (i + 1) = stepsL c i ++ stepL (c.node i) (c.frm i) (c.dn i) (c.dv i) := flat_succ _ _
theorem sendL_succ (n : Nat) (v : Nat → Int) : sendL (n + 1) v = sendL n v ++ beL 2 (v n).toNat := flat_succ _ _
set_option maxRecDepth 100000 in
set_option maxHeartbeats 4000000 in
theorem RHead_yes (c : Com) (tg : Nat → Nat) (B : Nat) (w : World) (h : ComOk w B c) (hB : B ≤ w.heap.size) (hok : OkCom c) (hf : MidC c) :
    Calls Try.prog 21 #[.agg (arrV 70 (comV c tg))] w (RetOw w (comL c) 0) := by
  have H0 := Lib.hid h
  have HF := Lib.hid hf
  have EX := Lib.hid (chk_yes hok)
  have LN := Lib.hid (hf.ln hok fun i hi => (h.texts i hi).len)
  have hkn4 : c.kn ≤ 4000 := by have := hok.2.2.1.1; have := hok.2.2.1.2.1; omega
  have hsn4 : c.sn ≤ 4000 := hok.2.2.1.1
  have hsn := hf.sn
  have hkn := hf.kn
  have hbn := hf.bn
  obtain ⟨⟨q1, q2, q3⟩, ⟨q4, q5⟩, ⟨q6, q7, q8⟩, q9, q10⟩ := hok
  obtain ⟨Y, hY⟩ : ∃ Y : Nat, c.by_ = Y := ⟨c.by_.toNat, by omega⟩
  have f5 : (c.ep : Int) ≤ 1099511627776 := by omega
  have f6 : Y ≤ 1048576 := by omega
  have Q5 := Lib.hid q5
  have Q8 := Lib.hid q8
  have Q10 := Lib.hid q10
  have HY := Lib.hid hY
  clear h hf q1 q2 q3 q5 q7 q8 q9 q10 hY
  go_enter Try.func21, Try.ntmps21
  have g0 := heap_alloc_new w (.cells (arrV 70 (comV c tg)) 42)
  have hb : Below w.heap.size w (w.alloc (.cells (arrV 70 (comV c tg)) 42)) := (Below.refl _ _).alloc (Nat.le_refl _) _
  have hok2 := H0.out.below hb hB
  have hBw := Nat.le_trans hB hb.size
  go_upto_region 3 with (first | (refine wpList_load_all rfl rfl RTCom rfl g0 ?_) | (go_at_call 23; (with_reducible refine (RCheck_any c tg B _ hok2 hBw HF.out).mono ?_); rintro e w2 ⟨rfl, b2⟩; rw [EX.out]))
  replace g0 := keep_below b2 (lt_of_block g0) g0
  replace hb := hb.trans (b2.mono hb.size)
  clear b2 hok2 hBw
  go_upto_region 4 with (first | (refine wpList_bslice (c := #[bv 1]) rfl rfl Try.underlying22 rfl (by kernel_rfl) ?_; have ho : Own _ (w.heap.size + 1) 5 _ [1] := (own_one w2 5 1).mono (lt_of_block g0); have hl : ([1] : List Nat).length ≤ 1 := Nat.le_refl _; replace g0 := keep_below ((Below.refl _ _).alloc (Nat.le_refl _) (.cells #[bv 1] 5)) (lt_of_block g0) g0; replace hb := hb.alloc hb.size (.cells #[bv 1] 5); have c0 : _ = some (Value.int .u64 (c.ep : Int)) := cell_arrV g0 0 (by omega)) | (go_at_call 43; (with_reducible refine (rbytes8 c.ep f5 _).mono ?_); rintro e wc ⟨v5, rfl, ho5, b5⟩; replace ho := ho.below b5 ho.lt'; replace hb := hb.trans (b5.mono hb.size); replace g0 := keep_below b5 (lt_of_block g0) g0; obtain ⟨A5, c5, rfl, ht5⟩ := ho5.txt; simp only [beL_len] at ht5 ⊢; clear ho5 b5) | (refine wpList_append_txt rfl rfl BT rfl rfl ho ht5 (by omega) (lt_of_block g0) ?_; intro v6 w6 ho6 hg6 hat6; replace hb := own_below hb ho hg6 (by omega) hb.size; replace g0 := grown_keep ho hg6 g0 (by decide); have hl6 := hl; replace hl := Nat.add_le_add hl6 (Nat.le_of_eq ht5.len); rw [← List.length_append] at hl; replace ho := ho6; clear ho6 hg6 hat6 hl6))
  have c1 := cell_arrV g0 1 (by omega)
  replace c1 : _ = some (Value.int .i64 c.by_) := c1
  rw [HY.out] at c1
  go_upto_region 5 with (first | (go_at_call 40; (with_reducible refine (rnum4 Y f6 _).mono ?_); rintro e wc ⟨v5, rfl, ho5, b5⟩; replace ho := ho.below b5 ho.lt'; replace hb := hb.trans (b5.mono hb.size); replace g0 := keep_below b5 (lt_of_block g0) g0; obtain ⟨A5, c5, rfl, ht5⟩ := ho5.txt; simp only [beL_len] at ht5 ⊢; clear ho5 b5) | (refine wpList_append_txt rfl rfl BT rfl rfl ho ht5 (by omega) (lt_of_block g0) ?_; intro v6 w6 ho6 hg6 hat6; replace hb := own_below hb ho hg6 (by omega) hb.size; replace g0 := grown_keep ho hg6 g0 (by decide); have hl6 := hl; replace hl := Nat.add_le_add hl6 (Nat.le_of_eq ht5.len); rw [← List.length_append] at hl; replace ho := ho6; clear ho6 hg6 hat6 hl6))
  have c2 := cell_arrV g0 2 (by omega)
  replace c2 : _ = some (Value.slice c.PA c.pn c.pc) := c2
  go_upto_region 6 with (first | (go_at_call 40; (with_reducible refine (rnum2 c.pn (by omega) _).mono ?_); rintro e wc ⟨v5, rfl, ho5, b5⟩; replace ho := ho.below b5 ho.lt'; replace hb := hb.trans (b5.mono hb.size); replace g0 := keep_below b5 (lt_of_block g0) g0; obtain ⟨A5, c5, rfl, ht5⟩ := ho5.txt; simp only [beL_len] at ht5 ⊢; clear ho5 b5) | (refine wpList_append_txt rfl rfl BT rfl rfl ho ht5 (by omega) (lt_of_block g0) ?_; intro v6 w6 ho6 hg6 hat6; replace hb := own_below hb ho hg6 (by omega) hb.size; replace g0 := grown_keep ho hg6 g0 (by decide); have hl6 := hl; replace hl := Nat.add_le_add hl6 (Nat.le_of_eq ht5.len); rw [← List.length_append] at hl; replace ho := ho6; clear ho6 hg6 hat6 hl6))
  have c2 := cell_arrV g0 2 (by omega)
  replace c2 : _ = some (Value.slice c.PA c.pn c.pc) := c2
  obtain ⟨L1, e1⟩ : ∃ L, L = [1] ++ beL 8 c.ep ++ beL 4 Y ++ beL 2 c.pn := ⟨_, rfl⟩
  rw [← e1] at ho hl
  have E1 := Lib.hid e1
  clear e1
  go_wp2
  go_loopg [37, 4] c.pn (fun r x v wr => ∃ i : Nat, i + r = c.pn ∧ x = .int .i64 i ∧ Own wr (w.heap.size + 1) 5 v (L1 ++ propsL c i) ∧ wr.heap[w.heap.size]? = some (.cells (arrV 70 (comV c tg)) 42 (0, 0)) ∧ Below w.heap.size w wr)
  case atStart => exact ⟨0, by omega, rfl, (by rw [show propsL c 0 = [] from rfl, List.append_nil]; exact ho), g0, hb⟩
  case round =>
    have HL1 := Lib.hid hl
    clear ho g0 hb hl c0 c1 c2 ht5
    obtain ⟨i, hi, rfl, ho, g0, hb⟩ := hrel
    have HI := Lib.hid hi
    clear hi
    have hl : (L1 ++ propsL c i).length ≤ 15 + 37 * 100 := by
      have h1 : (propsL c i).length ≤ 37 * i := flat_len _ 37 i fun j hj => by rw [propL_len]; exact Nat.le_refl _
      have h2 := HL1.out
      have := HI.out
      rw [List.length_append]
      omega
    by_cases hlt : i < c.pn
    · obtain ⟨ad, hA, hab, hc⟩ := (H0.out.props.below' hb hB).cell hlt
      have HA := Lib.hid hA
      have hq := Q5.out i hlt
      obtain ⟨L2, e2⟩ : ∃ L, L = L1 ++ propsL c i := ⟨_, rfl⟩
      rw [← e2] at ho hl
      have E2 := Lib.hid e2
      obtain ⟨K, hK⟩ : ∃ K : Nat, c.kind i = K := ⟨(c.kind i).toNat, by have := hq.1; omega⟩
      obtain ⟨I, hI⟩ : ∃ I : Nat, c.id i = I := ⟨(c.id i).toNat, by have := hq.2.2.1; omega⟩
      have hK3 : K ≤ 3 := by have := hq.2.1; omega
      have hI3 : I ≤ 1048576 := by have := hq.2.2.1; omega
      have HK := Lib.hid hK
      have HI2 := Lib.hid hI
      clear hA e2 hK hI hq
      go_upto_region 9 with (first | (refine wpList_elA HA.out rfl rfl Try.underlying35 (sz := 34) (by kernel_rfl) rfl rfl hlt ?_) | (refine wpList_load_at (n := 34) rfl rfl RTProp rfl hc ?_) | (refine wpList_newV rfl rfl rfl rfl ZVProp RTProp rfl rfl (fun _ _ => propV_one _ _ _ _) ?_; intro w2 g2 b2 hs2))
      replace ho := ho.below b2 ho.lt'
      replace g0 := keep_below b2 (lt_of_block g0) g0
      replace hb := hb.trans (b2.mono hb.size)
      have d0 := cell_arrV g2 0 (by omega)
      replace d0 : _ = some (Value.int .i64 (c.kind i)) := d0
      rw [HK.out] at d0
      clear b2 hs2 hab hc
      generalize wr.heap.size = NB at *
      go_upto_region 10 with (first | (refine wpList_bslice (c := #[bv K]) rfl rfl Try.underlying22 rfl (by kernel_rfl) ?_; have ht5 := txt_one w2 5 K; replace ho := ho.alloc (.cells #[bv K] 5); replace g2 := keep_below ((Below.refl _ _).alloc (Nat.le_refl _) (.cells #[bv K] 5)) (lt_of_block g2) g2; replace g0 := keep_below ((Below.refl _ _).alloc (Nat.le_refl _) (.cells #[bv K] 5)) (lt_of_block g0) g0; replace hb := hb.alloc hb.size (.cells #[bv K] 5)) | (refine wpList_append_txt rfl rfl BT rfl rfl ho ht5 (by omega) (lt_of_block g0) ?_; intro v6 w6 ho6 hg6 hat6; replace hb := own_below hb ho hg6 (by omega) hb.size; replace g2 := grown_keep ho hg6 g2 (by decide); replace g0 := grown_keep ho hg6 g0 (by decide); have hl6 := hl; replace hl := Nat.add_le_add hl6 (Nat.le_of_eq ht5.len); rw [← List.length_append] at hl; replace ho := ho6; clear ho6 hg6 hat6 hl6))
      have d1 := cell_arrV g2 1 (by omega)
      replace d1 : _ = some (Value.int .i64 (c.id i)) := d1
      rw [HI2.out] at d1
      clear d0 ht5
      go_upto_region 11 with (first | (go_at_call 40; (with_reducible refine (rnum4 I hI3 _).mono ?_); rintro e wc ⟨v5, rfl, ho5, b5⟩; replace ho := ho.below b5 ho.lt'; replace hb := hb.trans (b5.mono hb.size); replace g2 := keep_below b5 (lt_of_block g2) g2; replace g0 := keep_below b5 (lt_of_block g0) g0; obtain ⟨A5, c5, rfl, ht5⟩ := ho5.txt; simp only [beL_len] at ht5 ⊢; clear ho5 b5) | (refine wpList_append_txt rfl rfl BT rfl rfl ho ht5 (by omega) (lt_of_block g0) ?_; intro v6 w6 ho6 hg6 hat6; replace hb := own_below hb ho hg6 (by omega) hb.size; replace g2 := grown_keep ho hg6 g2 (by decide); replace g0 := grown_keep ho hg6 g0 (by decide); have hl6 := hl; replace hl := Nat.add_le_add hl6 (Nat.le_of_eq ht5.len); rw [← List.length_append] at hl; replace ho := ho6; clear ho6 hg6 hat6 hl6))
      clear d1 ht5
      have ht5 := txt_part (p := c.ppt i) g2 (off := 2) (by omega) (fun j hj => by unfold propV; rw [if_neg (by omega), if_neg (by omega), show 2 + j - 2 = j from by omega])
      go_wp2_with (refine wpList_append_txt rfl rfl BT rfl rfl ho ht5 (by omega) (lt_of_block g0) ?_; intro v6 w6 ho6 hg6 hat6; replace hb := own_below hb ho hg6 (by omega) hb.size; replace g2 := grown_keep ho hg6 g2 (by decide); replace g0 := grown_keep ho hg6 g0 (by decide); have hl6 := hl; replace hl := Nat.add_le_add hl6 (Nat.le_of_eq ht5.len); rw [← List.length_append] at hl; replace ho := ho6; clear ho6 hg6 hat6 hl6)
      go_roundg (gk - 1)
      case measure => have := HI.out; omega
      case rel =>
        have hI := HI.out
        refine ⟨i + 1, by omega, by go_num, ?_, g0, hb⟩
        rw [show L1 ++ propsL c (i + 1) = L2 ++ [K] ++ beL 4 I ++ keyL (c.ppt i) from by rw [propsL_succ, E2.out, HK.out, HI2.out]; unfold propL; rw [Int.toNat_natCast, Int.toNat_natCast, beL_one K (by omega)]; simp only [List.append_assoc]]
        exact ho
    · obtain rfl : i = c.pn := by have := HI.out; omega
      have ht5 := txt_part (p := c.pt) g0 (off := 3) (by omega) (fun j hj => by unfold comV; rw [if_neg (by omega), if_neg (by omega), if_neg (by omega), if_pos (by omega), show 3 + j - 3 = j from by omega])
      go_upto_region 14 with (refine wpList_append_txt rfl rfl BT rfl rfl ho ht5 (by omega) (lt_of_block g0) ?_; intro v6 w6 ho6 hg6 hat6; replace hb := own_below hb ho hg6 (by omega) hb.size; replace g0 := grown_keep ho hg6 g0 (by decide); have hl6 := hl; replace hl := Nat.add_le_add hl6 (Nat.le_of_eq ht5.len); rw [← List.length_append] at hl; replace ho := ho6; clear ho6 hg6 hat6 hl6)
      have c35 := cell_arrV g0 35 (by omega)
      replace c35 : _ = some (Value.slice c.SA c.sn c.sc) := c35
      clear ht5
      go_upto_region 15 with (first | (go_at_call 40; (with_reducible refine (rnum2 c.sn (by omega) _).mono ?_); rintro e wc ⟨v5, rfl, ho5, b5⟩; replace ho := ho.below b5 ho.lt'; replace hb := hb.trans (b5.mono hb.size); replace g0 := keep_below b5 (lt_of_block g0) g0; obtain ⟨A5, c5, rfl, ht5⟩ := ho5.txt; simp only [beL_len] at ht5 ⊢; clear ho5 b5) | (refine wpList_append_txt rfl rfl BT rfl rfl ho ht5 (by omega) (lt_of_block g0) ?_; intro v6 w6 ho6 hg6 hat6; replace hb := own_below hb ho hg6 (by omega) hb.size; replace g0 := grown_keep ho hg6 g0 (by decide); have hl6 := hl; replace hl := Nat.add_le_add hl6 (Nat.le_of_eq ht5.len); rw [← List.length_append] at hl; replace ho := ho6; clear ho6 hg6 hat6 hl6))
      have c35 := cell_arrV g0 35 (by omega)
      replace c35 : _ = some (Value.slice c.SA c.sn c.sc) := c35
      clear ht5
      obtain ⟨L3, e3⟩ : ∃ L, L = L1 ++ propsL c c.pn ++ keyL c.pt ++ beL 2 c.sn := ⟨_, rfl⟩
      rw [← e3] at ho hl
      have E3 := Lib.hid e3
      clear e3
      go_wp2
      go_loopg [70, 4] c.sn (fun r x v wr => ∃ i : Nat, i + r = c.sn ∧ x = .int .i64 i ∧ Own wr (w.heap.size + 1) 5 v (L3 ++ stepsL c i) ∧ wr.heap[w.heap.size]? = some (.cells (arrV 70 (comV c tg)) 42 (0, 0)) ∧ Below w.heap.size w wr)
      case atStart => exact ⟨0, by omega, rfl, (by rw [show stepsL c 0 = [] from rfl, List.append_nil]; exact ho), g0, hb⟩
      case round =>
        have HL3 := Lib.hid hl
        clear ho g0 hb hl c35
        obtain ⟨go1, rfl⟩ : ∃ x, x = gk := ⟨_, rfl⟩
        obtain ⟨i, hi, rfl, ho, g0, hb⟩ := hrel
        have HI := Lib.hid hi
        clear hi
        have hl : (L3 ++ stepsL c i).length ≤ 4000 + 8006 * 4000 := by
          have h1 : (stepsL c i).length ≤ 8006 * i := flat_len _ 8006 i fun j hj => Nat.le_trans (stepL_len _ _ _ _) (by have := (Q8.out j (by have := HI.out; omega)).2.2.2.1; omega)
          have h2 := HL3.out
          have := HI.out
          rw [List.length_append]
          omega
        by_cases hlt : i < c.sn
        · obtain ⟨ad, hA, hab, hc⟩ := (H0.out.steps.below' hb hB).cell hlt
          have HA := Lib.hid hA
          have hq := Q8.out i hlt
          have hdn : c.dn i ≤ 4000 := hq.2.2.2.1
          have hd1 := HF.out.dn i hlt
          obtain ⟨L4, e4⟩ : ∃ L, L = L3 ++ stepsL c i := ⟨_, rfl⟩
          rw [← e4] at ho hl
          have E4 := Lib.hid e4
          obtain ⟨K, hK⟩ : ∃ K : Nat, c.node i = K := ⟨(c.node i).toNat, by have := hq.1.1; omega⟩
          obtain ⟨I, hI⟩ : ∃ I : Nat, c.frm i = (I : Int) - 1 := ⟨(c.frm i + 1).toNat, by have := hq.2.1; omega⟩
          have hK3 : K ≤ 1048576 := by have := hq.1.2; omega
          have hI3 : I ≤ 1048576 := by have := hq.2.2.1; omega
          have HV := Lib.hid hq.2.2.2.2
          have HK := Lib.hid hK
          have HI2 := Lib.hid hI
          clear hA e4 hK hI hq
          go_upto_region 18 with (first | (refine wpList_elA HA.out rfl rfl Try.underlying38 (sz := 3) (by kernel_rfl) rfl rfl hlt ?_) | (refine wpList_load_at (n := 3) rfl rfl RTStep rfl hc ?_) | (refine wpList_newV rfl rfl rfl rfl ZVStep RTStep rfl rfl (fun _ _ => stepV_one _ _ _ _ _ _) ?_; intro w2 g2 b2 hs2))
          replace ho := ho.below b2 ho.lt'
          replace g0 := keep_below b2 (lt_of_block g0) g0
          replace hb := hb.trans (b2.mono hb.size)
          have d0 := cell_arrV g2 0 (by omega)
          replace d0 : _ = some (Value.int .i64 (c.node i)) := d0
          rw [HK.out] at d0
          clear b2 hs2 hab hc
          generalize wr.heap.size = NB at *
          go_upto_region 19 with (first | (go_at_call 40; (with_reducible refine (rnum2 K hK3 _).mono ?_); rintro e wc ⟨v5, rfl, ho5, b5⟩; replace ho := ho.below b5 ho.lt'; replace hb := hb.trans (b5.mono hb.size); replace g2 := keep_below b5 (lt_of_block g2) g2; replace g0 := keep_below b5 (lt_of_block g0) g0; obtain ⟨A5, c5, rfl, ht5⟩ := ho5.txt; simp only [beL_len] at ht5 ⊢; clear ho5 b5) | (refine wpList_append_txt rfl rfl BT rfl rfl ho ht5 (by omega) (lt_of_block g0) ?_; intro v6 w6 ho6 hg6 hat6; replace hb := own_below hb ho hg6 (by omega) hb.size; replace g2 := grown_keep ho hg6 g2 (by decide); replace g0 := grown_keep ho hg6 g0 (by decide); have hl6 := hl; replace hl := Nat.add_le_add hl6 (Nat.le_of_eq ht5.len); rw [← List.length_append] at hl; replace ho := ho6; clear ho6 hg6 hat6 hl6))
          have d1 := cell_arrV g2 1 (by omega)
          replace d1 : _ = some (Value.int .i64 (c.frm i)) := d1
          rw [HI2.out] at d1
          clear d0 ht5
          go_upto_region 20 with (first | (go_at_call 40; (with_reducible refine (rnum2 I hI3 _).mono ?_); rintro e wc ⟨v5, rfl, ho5, b5⟩; replace ho := ho.below b5 ho.lt'; replace hb := hb.trans (b5.mono hb.size); replace g2 := keep_below b5 (lt_of_block g2) g2; replace g0 := keep_below b5 (lt_of_block g0) g0; obtain ⟨A5, c5, rfl, ht5⟩ := ho5.txt; simp only [beL_len] at ht5 ⊢; clear ho5 b5) | (refine wpList_append_txt rfl rfl BT rfl rfl ho ht5 (by omega) (lt_of_block g0) ?_; intro v6 w6 ho6 hg6 hat6; replace hb := own_below hb ho hg6 (by omega) hb.size; replace g2 := grown_keep ho hg6 g2 (by decide); replace g0 := grown_keep ho hg6 g0 (by decide); have hl6 := hl; replace hl := Nat.add_le_add hl6 (Nat.le_of_eq ht5.len); rw [← List.length_append] at hl; replace ho := ho6; clear ho6 hg6 hat6 hl6))
          have d2 := cell_arrV g2 2 (by omega)
          replace d2 : _ = some (Value.slice (c.DA i) (c.dn i) (c.dc i)) := d2
          clear d1 ht5
          go_upto_region 21 with (first | (go_at_call 40; (with_reducible refine (rnum2 (c.dn i) (by omega) _).mono ?_); rintro e wc ⟨v5, rfl, ho5, b5⟩; replace ho := ho.below b5 ho.lt'; replace hb := hb.trans (b5.mono hb.size); replace g2 := keep_below b5 (lt_of_block g2) g2; replace g0 := keep_below b5 (lt_of_block g0) g0; obtain ⟨A5, c5, rfl, ht5⟩ := ho5.txt; simp only [beL_len] at ht5 ⊢; clear ho5 b5) | (refine wpList_append_txt rfl rfl BT rfl rfl ho ht5 (by omega) (lt_of_block g0) ?_; intro v6 w6 ho6 hg6 hat6; replace hb := own_below hb ho hg6 (by omega) hb.size; replace g2 := grown_keep ho hg6 g2 (by decide); replace g0 := grown_keep ho hg6 g0 (by decide); have hl6 := hl; replace hl := Nat.add_le_add hl6 (Nat.le_of_eq ht5.len); rw [← List.length_append] at hl; replace ho := ho6; clear ho6 hg6 hat6 hl6))
          have d2 := cell_arrV g2 2 (by omega)
          replace d2 : _ = some (Value.slice (c.DA i) (c.dn i) (c.dc i)) := d2
          clear ht5
          obtain ⟨L5, e5⟩ : ∃ L, L = L4 ++ beL 2 K ++ beL 2 I ++ beL 2 (c.dn i) := ⟨_, rfl⟩
          rw [← e5] at ho hl
          have E5 := Lib.hid e5
          clear e5
          go_wp2
          go_loopg [94, 4] (c.dn i) (fun r x v wr => ∃ j : Nat, j + r = c.dn i ∧ x = .int .i64 j ∧ Own wr (w.heap.size + 1) 5 v (L5 ++ sendL j (c.dv i)) ∧ wr.heap[w.heap.size]? = some (.cells (arrV 70 (comV c tg)) 42 (0, 0)) ∧ Below w.heap.size w wr)
          case atStart => exact ⟨0, by omega, rfl, (by rw [show sendL 0 (c.dv i) = [] from rfl, List.append_nil]; exact ho), g0, hb⟩
          case round =>
            have HL5 := Lib.hid hl
            clear ho g0 g2 hb hl d2
            obtain ⟨j, hj, rfl, ho, g0, hb⟩ := hrel
            have HJ := Lib.hid hj
            clear hj
            have hl : (L5 ++ sendL j (c.dv i)).length ≤ 32100000 + 8000 := by
              have h1 := sendL_len j (c.dv i)
              have h2 := HL5.out
              have := HJ.out
              rw [List.length_append]
              omega
            by_cases hlj : j < c.dn i
            · obtain ⟨ad2, hA2, hab2, hc2⟩ := ((H0.out.sends i hlt).below' hb hB).cell hlj
              have HA2 := Lib.hid hA2
              have hv := HV.out j hlj
              obtain ⟨V, hV⟩ : ∃ V : Nat, c.dv i j = V := ⟨(c.dv i j).toNat, by have := hv.1; omega⟩
              have hV3 : V ≤ 1048576 := by have := hv.2; omega
              have HVV := Lib.hid hV
              replace hc2 : wr.cell? (ad2.add (j * 1)) = some (.int .i64 (c.dv i j)) := by have := hc2 0 (by omega); rwa [addr_add_zero] at this
              rw [hV] at hc2
              clear hA2 hv hV
              go_wp2_with (first | (refine wpList_elA HA2.out rfl rfl Try.underlying69 (sz := 1) (by kernel_rfl) rfl rfl hlj ?_) | (refine wpList_load1 rfl rfl Try.underlying3 rfl rfl hc2 ?_) | (go_at_call 40; (with_reducible refine (rnum2 V hV3 _).mono ?_); rintro e wc ⟨v5, rfl, ho5, b5⟩; replace ho := ho.below b5 ho.lt'; replace hb := hb.trans (b5.mono hb.size); replace g0 := keep_below b5 (lt_of_block g0) g0; obtain ⟨A5, c5, rfl, ht5⟩ := ho5.txt; simp only [beL_len] at ht5 ⊢; clear ho5 b5) | (refine wpList_append_txt rfl rfl BT rfl rfl ho ht5 (by omega) (lt_of_block g0) ?_; intro v6 w6 ho6 hg6 hat6; replace hb := own_below hb ho hg6 (by omega) hb.size; replace g0 := grown_keep ho hg6 g0 (by decide); have hl6 := hl; replace hl := Nat.add_le_add hl6 (Nat.le_of_eq ht5.len); rw [← List.length_append] at hl; replace ho := ho6; clear ho6 hg6 hat6 hl6))
              go_roundg (gk - 1)
              case measure => have := HJ.out; omega
              case rel =>
                have hJ := HJ.out
                refine ⟨j + 1, by omega, by go_num, ?_, g0, hb⟩
                rw [show L5 ++ sendL (j + 1) (c.dv i) = L5 ++ sendL j (c.dv i) ++ beL 2 V from by rw [sendL_succ, HVV.out, Int.toNat_natCast, List.append_assoc]]
                exact ho
            · obtain rfl : j = c.dn i := by have := HJ.out; omega
              go_wp2
              go_roundg (go1 - 1)
              case measure => have := HI.out; omega
              case rel =>
                have hI := HI.out
                refine ⟨i + 1, by omega, by go_num, ?_, g0, hb⟩
                rw [show L3 ++ stepsL c (i + 1) = L5 ++ sendL (c.dn i) (c.dv i) from by rw [stepsL_succ, E5.out, E4.out, HK.out, HI2.out]; unfold stepL; rw [Int.sub_add_cancel, Int.toNat_natCast, Int.toNat_natCast]; simp only [List.append_assoc]]
                exact ho
        · obtain rfl : i = c.sn := by have := HI.out; omega
          have c36 := cell_arrV g0 36 (by omega)
          replace c36 : _ = some (Value.slice c.KA c.kn c.kc) := c36
          obtain ⟨L6, e6⟩ : ∃ L, L = L3 ++ stepsL c c.sn := ⟨_, rfl⟩
          rw [← e6] at ho hl
          have E6 := Lib.hid e6
          clear e6
          go_wp2
          go_loopg [107, 4] c.kn (fun r x v wr => ∃ i : Nat, i + r = c.kn ∧ x = .int .i64 i ∧ Own wr (w.heap.size + 1) 5 v (L6 ++ keysL c i) ∧ wr.heap[w.heap.size]? = some (.cells (arrV 70 (comV c tg)) 42 (0, 0)) ∧ Below w.heap.size w wr)
          case atStart => exact ⟨0, by omega, rfl, (by rw [show keysL c 0 = [] from rfl, List.append_nil]; exact ho), g0, hb⟩
          case round =>
            have HL6 := Lib.hid hl
            clear ho g0 hb hl c36
            obtain ⟨i, hi, rfl, ho, g0, hb⟩ := hrel
            have HI := Lib.hid hi
            clear hi
            have hl : (L6 ++ keysL c i).length ≤ 32200000 + 32 * 4000 := by
              have h1 : (keysL c i).length ≤ 32 * i := flat_len _ 32 i fun j hj => by rw [keyL_len]; exact Nat.le_refl _
              have h2 := HL6.out
              have := HI.out
              rw [List.length_append]
              omega
            by_cases hlt : i < c.kn
            · obtain ⟨ad, hA, hab, hc⟩ := (H0.out.keys.below' hb hB).cell hlt
              have HA := Lib.hid hA
              clear hA
              go_upto_region 30 with (first | (refine wpList_elA HA.out rfl rfl Try.underlying39 (sz := 32) (by kernel_rfl) rfl rfl hlt ?_) | (refine wpList_load_at (n := 32) rfl rfl RTKey rfl hc ?_) | (refine wpList_new_arr (f := fun j => ((c.key i j : Nat) : Int)) rfl rfl rfl rfl ZTKey RTKey rfl rfl ?_; intro w2 g2 b2 hs2))
              replace ho := ho.below b2 ho.lt'
              replace g0 := keep_below b2 (lt_of_block g0) g0
              replace hb := hb.trans (b2.mono hb.size)
              have ht5 := txt_byte g2
              clear b2 hs2 hab hc
              generalize wr.heap.size = NB at *
              go_wp2_with (refine wpList_append_txt rfl rfl BT rfl rfl ho ht5 (by omega) (lt_of_block g0) ?_; intro v6 w6 ho6 hg6 hat6; replace hb := own_below hb ho hg6 (by omega) hb.size; replace g2 := grown_keep ho hg6 g2 (by decide); replace g0 := grown_keep ho hg6 g0 (by decide); have hl6 := hl; replace hl := Nat.add_le_add hl6 (Nat.le_of_eq ht5.len); rw [← List.length_append] at hl; replace ho := ho6; clear ho6 hg6 hat6 hl6)
              go_roundg (gk - 1)
              case measure => have := HI.out; omega
              case rel =>
                have hI := HI.out
                refine ⟨i + 1, by omega, by go_num, ?_, g0, hb⟩
                rw [keysL_succ, ← List.append_assoc]
                exact ho
            · obtain rfl : i = c.kn := by have := HI.out; omega
              have c37 := cell_arrV g0 37 (by omega)
              replace c37 : _ = some (Value.slice c.BA c.bn c.bc) := c37
              obtain ⟨L7, e7⟩ : ∃ L, L = L6 ++ keysL c c.kn := ⟨_, rfl⟩
              rw [← e7] at ho hl
              have E7 := Lib.hid e7
              clear e7
              go_wp2
              go_loopg [118, 4] c.bn (fun r x v wr => ∃ i : Nat, i + r = c.bn ∧ x = .int .i64 i ∧ Own wr (w.heap.size + 1) 5 v (L7 ++ boxesL c i) ∧ wr.heap[w.heap.size]? = some (.cells (arrV 70 (comV c tg)) 42 (0, 0)) ∧ Below w.heap.size w wr)
              case atStart => exact ⟨0, by omega, rfl, (by rw [show boxesL c 0 = [] from rfl, List.append_nil]; exact ho), g0, hb⟩
              case round =>
                have HL7 := Lib.hid hl
                clear ho g0 hb hl c37
                obtain ⟨i, hi, rfl, ho, g0, hb⟩ := hrel
                have HI := Lib.hid hi
                clear hi
                have hl : (L7 ++ boxesL c i).length ≤ 32400000 + 1002 * 1100000 := by
                  have h1 : (boxesL c i).length ≤ 1002 * i := flat_len _ 1002 i fun j hj => by
                    rw [List.length_append, beL_len, (H0.out.texts j (by have := HI.out; omega)).len]
                    have := Q10.out j (by have := HI.out; omega)
                    omega
                  have h2 := HL7.out
                  have := HI.out
                  rw [List.length_append]
                  omega
                by_cases hlt : i < c.bn
                · obtain ⟨ad, hA, hab, hc⟩ := (H0.out.boxes.below' hb hB).cell hlt
                  have HA := Lib.hid hA
                  have hx := Q10.out i hlt
                  replace hc : wr.cell? (ad.add (i * 1)) = some (.slice (c.XA i) (c.xn i) (c.xc i)) := by have := hc 0 (by omega); rwa [addr_add_zero] at this
                  clear hA
                  go_upto_region 36 with (first | (refine wpList_elA HA.out rfl rfl Try.underlying40 (sz := 1) (by kernel_rfl) rfl rfl hlt ?_) | (refine wpList_load1 rfl rfl Try.underlying22 rfl rfl hc ?_) | (go_at_call 40; (with_reducible refine (rnum2 (c.xn i) (by omega) _).mono ?_); rintro e wc ⟨v5, rfl, ho5, b5⟩; replace ho := ho.below b5 ho.lt'; replace hb := hb.trans (b5.mono hb.size); replace g0 := keep_below b5 (lt_of_block g0) g0; obtain ⟨A5, c5, rfl, ht5⟩ := ho5.txt; simp only [beL_len] at ht5 ⊢; clear ho5 b5) | (refine wpList_append_txt rfl rfl BT rfl rfl ho ht5 (by omega) (lt_of_block g0) ?_; intro v6 w6 ho6 hg6 hat6; replace hb := own_below hb ho hg6 (by omega) hb.size; replace g0 := grown_keep ho hg6 g0 (by decide); have hl6 := hl; replace hl := Nat.add_le_add hl6 (Nat.le_of_eq ht5.len); rw [← List.length_append] at hl; replace ho := ho6; clear ho6 hg6 hat6 hl6))
                  clear ht5
                  have ht5 := (H0.out.texts i hlt).below' hb hB
                  go_wp2_with (refine wpList_append_txt rfl rfl BT rfl rfl ho ht5 (by omega) (lt_of_block g0) ?_; intro v6 w6 ho6 hg6 hat6; replace hb := own_below hb ho hg6 (by omega) hb.size; replace g0 := grown_keep ho hg6 g0 (by decide); have hl6 := hl; replace hl := Nat.add_le_add hl6 (Nat.le_of_eq ht5.len); rw [← List.length_append] at hl; replace ho := ho6; clear ho6 hg6 hat6 hl6)
                  go_roundg (gk - 1)
                  case measure => have := HI.out; omega
                  case rel =>
                    have hI := HI.out
                    refine ⟨i + 1, by omega, by go_num, ?_, g0, hb⟩
                    rw [boxesL_succ, ← List.append_assoc, ← List.append_assoc]
                    exact ho
                · obtain rfl : i = c.bn := by have := HI.out; omega
                  have e : comL c = L7 ++ boxesL c c.bn := by
                    rw [E7.out, E6.out, E3.out, E1.out]
                    unfold comL
                    rw [HY.out, Int.toNat_natCast]
                    simp only [List.append_assoc]
                  rw [← e] at ho hl
                  have HE := Lib.hid e
                  clear e
                  obtain ⟨A9, c9, rfl, -⟩ := ho.txt
                  have HO := Lib.hid ho
                  clear ho
                  have hl9 : ((comL c).length : Int) ≤ 1048544 := by have := LN.out; omega
                  clear hl
                  obtain ⟨n9, hn9⟩ : ∃ n9, (comL c).length = n9 := ⟨_, rfl⟩
                  have HO9 := Lib.hid (show Own _ _ _ (.slice A9 n9 c9) (comL c) from hn9 ▸ HO.out)
                  rw [hn9] at hl9 ⊢
                  clear hn9 HO
                  have hd9 : decide (1048576 < (n9 : Int) + 32) = false := decide_eq_false (by omega)
                  go_upto_region 38 with (fail)
                  clear E7 E6 E3 E1 HL1 HL3 HL6 HL7 H0 HF Q5 Q8 Q10
                  go_upto_region 40 with (fail)
                  go_wp2
                  go_ret2
                  exact ⟨_, _, _, rfl, HO9.out.mono (by omega), hb⟩
end Go.Proofs.Ytfbfkfdkigpkgaa
