/- The walk of layer 16's reference: whether a commit may be. -/
import Derived.Test.YtfbfkfdkigpkgaaFew
import Derived.Test.YtfbfkfdkigpkgaaLst
namespace Go.Proofs.Ytfbfkfdkigpkgaa
set_option linter.unusedSimpArgs false
set_option linter.unusedVariables false
open Go.RowKit
attribute [local irreducible] beL beK

theorem place_any (k : Int) (w : World) : Calls Try.prog 53 #[.int .i64 k] w fun e w' => e = .returned (.bool (decide (OkPlace k))) ∧ w = w' := by
  by_cases h0 : 0 ≤ k
  · by_cases h1 : k ≤ 4000
    · have E := Lib.hid (show decide (OkPlace k) = true from decide_eq_true ⟨h0, h1⟩)
      go_enter Try.func53, Try.ntmps53
      go_wp2
      go_ret
      refine ⟨?_, rfl⟩
      rw [E.out]
      first | rfl | simp [h0, h1]
    · have E := Lib.hid (show decide (OkPlace k) = false from decide_eq_false fun h => h1 h.2)
      go_enter Try.func53, Try.ntmps53
      go_wp2
      go_ret
      refine ⟨?_, rfl⟩
      rw [E.out]
      first | rfl | simp [h0, h1]
  · have E := Lib.hid (show decide (OkPlace k) = false from decide_eq_false fun h => h0 h.1)
    go_enter Try.func53, Try.ntmps53
    go_wp2
    go_ret
    refine ⟨?_, rfl⟩
    rw [E.out]
    first | rfl | simp [h0]

set_option maxRecDepth 100000 in
set_option maxHeartbeats 3000000 in
theorem RCheck_any (c : Com) (tg : Nat → Nat) (B : Nat) (w : World) (h : ComOk w B c) (hB : B ≤ w.heap.size) (hf : MidC c) :
    Calls Try.prog 23 #[.agg (arrV 70 (comV c tg))] w fun e w' => e = .returned (.int .i64 (chk c)) ∧ Below w.heap.size w w' := by
  have H0 := Lib.hid h
  have HF := Lib.hid hf
  have hsn := hf.sn
  have hkn := hf.kn
  have hbn := hf.bn
  have hpn := hf.pn
  clear h hf
  go_enter Try.func23, Try.ntmps23
  have g0 := heap_alloc_new w (.cells (arrV 70 (comV c tg)) 42)
  have hb : Below w.heap.size w (w.alloc (.cells (arrV 70 (comV c tg)) 42)) := (Below.refl _ _).alloc (Nat.le_refl _) _
  have c0 := cell_arrV g0 0 (by omega)
  replace c0 : _ = some (Value.int .u64 (c.ep : Int)) := c0
  have c1 := cell_arrV g0 1 (by omega)
  replace c1 : _ = some (Value.int .i64 c.by_) := c1
  have c2 := cell_arrV g0 2 (by omega)
  replace c2 : _ = some (Value.slice c.PA c.pn c.pc) := c2
  have c35 := cell_arrV g0 35 (by omega)
  replace c35 : _ = some (Value.slice c.SA c.sn c.sc) := c35
  have c36 := cell_arrV g0 36 (by omega)
  replace c36 : _ = some (Value.slice c.KA c.kn c.kc) := c36
  by_cases k1 : (c.ep : Int) ≤ 1099511627776
  · by_cases k2 : 0 ≤ c.by_
    · by_cases k3 : c.by_ ≤ 1048576
      · by_cases k4 : c.pn ≤ 100
        · by_cases k5 : c.sn ≤ 4000
          · by_cases k6 : c.kn = c.sn
            · go_wp2
              go_loopg [49] c.pn (fun r x wr => ∃ i : Nat, i + r = c.pn ∧ x = .int .i64 i ∧ (∀ j, j < i → OkProp (c.kind j) (c.id j) (c.ppt j)) ∧ wr.heap[w.heap.size]? = some (.cells (arrV 70 (comV c tg)) 42 (0, 0)) ∧ Below w.heap.size w wr)
              case atStart => exact ⟨0, by omega, rfl, (fun j hj => absurd hj (by omega)), g0, hb⟩
              case round =>
                clear g0 hb c0 c1 c2 c35 c36
                obtain ⟨i, hi, rfl, hd, g0, hb⟩ := hrel
                have HI := Lib.hid hi
                have HD := Lib.hid hd
                clear hi hd
                by_cases hlt : i < c.pn
                · obtain ⟨ad, hA, hab, hc⟩ := (H0.out.props.below' hb hB).cell hlt
                  have HA := Lib.hid hA
                  clear hA
                  go_upto_region 6 with (first | (refine wpList_elA HA.out rfl rfl Try.underlying35 (sz := 34) (by kernel_rfl) rfl rfl hlt ?_) | (refine wpList_load_at (n := 34) rfl rfl RTProp rfl hc ?_) | (refine wpList_newV rfl rfl rfl rfl ZVProp RTProp rfl rfl (fun _ _ => propV_one _ _ _ _) ?_; intro w2 g2 b2 hs2))
                  replace g0 := keep_below b2 (lt_of_block g0) g0
                  replace hb := hb.trans (b2.mono hb.size)
                  have d0 := cell_arrV g2 0 (by omega)
                  replace d0 : _ = some (Value.int .i64 (c.kind i)) := d0
                  have d1 := cell_arrV g2 1 (by omega)
                  replace d1 : _ = some (Value.int .i64 (c.id i)) := d1
                  clear b2 hs2 hab hc
                  by_cases p1 : 1 ≤ c.kind i
                  · by_cases p2 : c.kind i ≤ 3
                    · by_cases p3 : 0 ≤ c.id i
                      · by_cases p4 : c.id i ≤ 1048576
                        · by_cases p5 : c.kind i = 2
                          · by_cases p6 : ∀ j, j < 32 → c.ppt i j = 0
                            · have HQ := Lib.hid (show sameTo (fun j => ((c.ppt i j : Nat) : Int)) (fun _ => 0) 32 0 = true from sameTo_true fun j hj => by rw [p6 j hj]; rfl)
                              have HK := Lib.hid (show OkProp (c.kind i) (c.id i) (c.ppt i) from ⟨p1, p2, ⟨p3, p4⟩, fun _ => p6⟩)
                              clear p6
                              go_wp2_with (first | (refine wpList_valg rfl (run_op_load_part (k := .u8) (fun j => ((c.ppt i j : Nat) : Int)) rfl RTKey rfl g2 (by omega) (fun j hj => by unfold propV; rw [if_neg (by omega), if_neg (by omega), show 2 + j - 2 = j from by omega])) ?_) | (refine wpList_valg rfl (run_op_build (c := arr .u8 32 fun _ => 0) rfl rfl (by kernel_rfl)) ?_) | (refine wpList_valg rfl (run_op_neArr (op := .neq) rfl ITKey rfl rfl) ?_; rw [HQ.out]))
                              go_roundg (gk - 1)
                              case measure => have := HI.out; omega
                              case rel =>
                                have hI := HI.out
                                exact ⟨i + 1, by omega, by go_num, all_succ HD.out HK.out, g0, hb⟩
                            · have HQ := Lib.hid (show sameTo (fun j => ((c.ppt i j : Nat) : Int)) (fun _ => 0) 32 0 = false from by
                                cases hq : sameTo (fun j => ((c.ppt i j : Nat) : Int)) (fun _ => 0) 32 0
                                · rfl
                                · exact absurd (fun j hj => by have := (sameTo_iff _ _ _ _).1 hq j hj; simp only [Nat.zero_add] at this; omega) p6)
                              have EX := Lib.hid (chk_no (c := c) fun h => p6 ((h.2.1.2 i hlt).2.2.2 p5))
                              clear p6
                              go_wp2_with (first | (refine wpList_valg rfl (run_op_load_part (k := .u8) (fun j => ((c.ppt i j : Nat) : Int)) rfl RTKey rfl g2 (by omega) (fun j hj => by unfold propV; rw [if_neg (by omega), if_neg (by omega), show 2 + j - 2 = j from by omega])) ?_) | (refine wpList_valg rfl (run_op_build (c := arr .u8 32 fun _ => 0) rfl rfl (by kernel_rfl)) ?_) | (refine wpList_valg rfl (run_op_neArr (op := .neq) rfl ITKey rfl rfl) ?_; rw [HQ.out]))
                              go_ret
                              refine ⟨?_, hb⟩
                              rw [EX.out]
                              rfl
                          · have HK := Lib.hid (show OkProp (c.kind i) (c.id i) (c.ppt i) from ⟨p1, p2, ⟨p3, p4⟩, fun h => absurd h p5⟩)
                            go_wp2
                            go_roundg (gk - 1)
                            case measure => have := HI.out; omega
                            case rel =>
                              have hI := HI.out
                              exact ⟨i + 1, by omega, by go_num, all_succ HD.out HK.out, g0, hb⟩
                        · have EX := Lib.hid (chk_no (c := c) fun h => p4 (h.2.1.2 i hlt).2.2.1.2)
                          have p4n : 1048576 < c.id i := by omega
                          clear p4
                          go_wp2
                          go_ret
                          refine ⟨?_, hb⟩
                          rw [EX.out]
                          rfl
                      · have EX := Lib.hid (chk_no (c := c) fun h => p3 (h.2.1.2 i hlt).2.2.1.1)
                        have p3n : c.id i < 0 := by omega
                        clear p3
                        go_wp2
                        go_ret
                        refine ⟨?_, hb⟩
                        rw [EX.out]
                        rfl
                    · have EX := Lib.hid (chk_no (c := c) fun h => p2 (h.2.1.2 i hlt).2.1)
                      have p2n : 3 < c.kind i := by omega
                      clear p2
                      go_wp2
                      go_ret
                      refine ⟨?_, hb⟩
                      rw [EX.out]
                      rfl
                  · have EX := Lib.hid (chk_no (c := c) fun h => p1 (h.2.1.2 i hlt).1)
                    have p1n : c.kind i < 1 := by omega
                    clear p1
                    go_wp2
                    go_ret
                    refine ⟨?_, hb⟩
                    rw [EX.out]
                    rfl
                · obtain rfl : i = c.pn := by have := HI.out; omega
                  have HP := HD
                  clear HD
                  have c35 := cell_arrV g0 35 (by omega)
                  replace c35 : _ = some (Value.slice c.SA c.sn c.sc) := c35
                  go_wp2
                  go_loopg [86, 5] c.sn (fun r x s wr => ∃ i : Nat, i + r = c.sn ∧ x = .int .i64 i ∧ s = .int .i64 (sends c i : Nat) ∧ (∀ j, j < i → OkStep (c.node j) (c.frm j) (c.dn j) (c.dv j)) ∧ wr.heap[w.heap.size]? = some (.cells (arrV 70 (comV c tg)) 42 (0, 0)) ∧ Below w.heap.size w wr)
                  case atStart => exact ⟨0, by omega, rfl, rfl, (fun j hj => absurd hj (by omega)), g0, hb⟩
                  case round =>
                    clear g0 hb c35
                    obtain ⟨go1, rfl⟩ : ∃ x, x = gk := ⟨_, rfl⟩
                    obtain ⟨i, hi, rfl, rfl, hd, g0, hb⟩ := hrel
                    have HI := Lib.hid hi
                    have HD := Lib.hid hd
                    clear hi hd
                    by_cases hlt : i < c.sn
                    · obtain ⟨ad, hA, hab, hc⟩ := (H0.out.steps.below' hb hB).cell hlt
                      have hs1 := sends_le c HF.out i (by omega)
                      have hd1 := HF.out.dn i hlt
                      have HSend := Lib.hid (show sends c (i + 1) = sends c i + c.dn i from rfl)
                      obtain ⟨sc, hsc⟩ : ∃ s, s = sends c i := ⟨_, rfl⟩
                      rw [← hsc] at hs1 ⊢
                      have HSC := Lib.hid hsc
                      have HA := Lib.hid hA
                      clear hsc hA
                      go_upto_region 14 with (first | (refine wpList_elA HA.out rfl rfl Try.underlying38 (sz := 3) (by kernel_rfl) rfl rfl hlt ?_) | (refine wpList_load_at (n := 3) rfl rfl RTStep rfl hc ?_) | (refine wpList_newV rfl rfl rfl rfl ZVStep RTStep rfl rfl (fun _ _ => stepV_one _ _ _ _ _ _) ?_; intro w2 g2 b2 hs2; have d2 := cell_arrV g2 2 (by omega); replace d2 : _ = some (Value.slice (c.DA i) (c.dn i) (c.dc i)) := d2))
                      replace g0 := keep_below b2 (lt_of_block g0) g0
                      replace hb := hb.trans (b2.mono hb.size)
                      have d0 := cell_arrV g2 0 (by omega)
                      replace d0 : _ = some (Value.int .i64 (c.node i)) := d0
                      have d1 := cell_arrV g2 1 (by omega)
                      replace d1 : _ = some (Value.int .i64 (c.frm i)) := d1
                      clear b2 hs2 hab hc
                      by_cases s1 : OkPlace (c.node i)
                      · have HN := Lib.hid (decide_eq_true s1)
                        by_cases q2 : -1 ≤ c.frm i
                        · by_cases q3 : c.frm i < 4000
                          · by_cases q4 : c.dn i ≤ 4000
                            · clear s1
                              go_wp2_with (go_at_call 53; (with_reducible refine (place_any _ _).mono ?_); rintro e w3 ⟨rfl, rfl⟩; rw [HN.out])
                              have hS := (H0.out.sends i hlt).below' hb hB
                              go_loopg [118] (c.dn i) (fun r x wr => ∃ j : Nat, j + r = c.dn i ∧ x = .int .i64 j ∧ (∀ q, q < j → OkPlace (c.dv i q)) ∧ w2 = wr)
                              case atStart => exact ⟨0, by omega, rfl, (fun j hj => absurd hj (by omega)), rfl⟩
                              case round =>
                                obtain ⟨j, hj, rfl, hq, rfl⟩ := hrel
                                have HJ := Lib.hid hj
                                have HQ := Lib.hid hq
                                clear hj hq
                                by_cases hlj : j < c.dn i
                                · obtain ⟨ad2, hA2, hab2, hc2⟩ := hS.cell hlj
                                  have HA2 := Lib.hid hA2
                                  clear hA2
                                  replace hc2 : w2.cell? (ad2.add (j * 1)) = some (.int .i64 (c.dv i j)) := by have := hc2 0 (by omega); rwa [addr_add_zero] at this
                                  by_cases p5 : OkPlace (c.dv i j)
                                  · have HN2 := Lib.hid (decide_eq_true p5)
                                    have HK2 := Lib.hid p5
                                    clear p5
                                    go_wp2_with (first | (refine wpList_elA HA2.out rfl rfl Try.underlying69 (sz := 1) (by kernel_rfl) rfl rfl hlj ?_) | (refine wpList_load1 rfl rfl Try.underlying3 rfl rfl hc2 ?_) | (go_at_call 53; (with_reducible refine (place_any _ _).mono ?_); rintro e w3 ⟨rfl, rfl⟩; rw [HN2.out]))
                                    go_roundg (gk - 1)
                                    case measure => have := HJ.out; omega
                                    case rel =>
                                      have hJ := HJ.out
                                      exact ⟨j + 1, by omega, by go_num, all_succ HQ.out HK2.out, rfl⟩
                                  · have HN2 := Lib.hid (decide_eq_false p5)
                                    have EX := Lib.hid (chk_no (c := c) fun h => p5 ((h.2.2.1.2.2 i hlt).2.2.2.2 j hlj))
                                    clear p5
                                    go_wp2_with (first | (refine wpList_elA HA2.out rfl rfl Try.underlying69 (sz := 1) (by kernel_rfl) rfl rfl hlj ?_) | (refine wpList_load1 rfl rfl Try.underlying3 rfl rfl hc2 ?_) | (go_at_call 53; (with_reducible refine (place_any _ _).mono ?_); rintro e w3 ⟨rfl, rfl⟩; rw [HN2.out]))
                                    go_ret
                                    refine ⟨?_, hb⟩
                                    rw [EX.out]
                                    rfl
                                · obtain rfl : j = c.dn i := by have := HJ.out; omega
                                  have HK := Lib.hid (show OkStep (c.node i) (c.frm i) (c.dn i) (c.dv i) from ⟨of_decide_eq_true HN.out, q2, q3, by omega, HQ.out⟩)
                                  go_wp2
                                  go_roundg (go1 - 1)
                                  case measure => have := HI.out; omega
                                  case rel =>
                                    have hI := HI.out
                                    refine ⟨i + 1, by omega, by go_num, ?_, all_succ HD.out HK.out, g0, hb⟩
                                    show Value.int .i64 _ = Value.int .i64 ((sends c (i + 1) : Nat) : Int)
                                    rw [HSend.out, ← HSC.out]
                                    go_num
                            · have EX := Lib.hid (chk_no (c := c) fun h => q4 (h.2.2.1.2.2 i hlt).2.2.2.1)
                              have q4n : (4000 : Int) < c.dn i := by omega
                              clear q4
                              clear s1
                              go_wp2_with (go_at_call 53; (with_reducible refine (place_any _ _).mono ?_); rintro e w3 ⟨rfl, rfl⟩; rw [HN.out])
                              go_ret
                              refine ⟨?_, hb⟩
                              rw [EX.out]
                              rfl
                          · have EX := Lib.hid (chk_no (c := c) fun h => q3 (h.2.2.1.2.2 i hlt).2.2.1)
                            have q3n : 4000 ≤ c.frm i := by omega
                            clear q3
                            clear s1
                            go_wp2_with (go_at_call 53; (with_reducible refine (place_any _ _).mono ?_); rintro e w3 ⟨rfl, rfl⟩; rw [HN.out])
                            go_ret
                            refine ⟨?_, hb⟩
                            rw [EX.out]
                            rfl
                        · have EX := Lib.hid (chk_no (c := c) fun h => q2 (h.2.2.1.2.2 i hlt).2.1)
                          have q2n : c.frm i < -1 := by omega
                          clear q2
                          clear s1
                          go_wp2_with (go_at_call 53; (with_reducible refine (place_any _ _).mono ?_); rintro e w3 ⟨rfl, rfl⟩; rw [HN.out])
                          go_ret
                          refine ⟨?_, hb⟩
                          rw [EX.out]
                          rfl
                      · have HN := Lib.hid (decide_eq_false s1)
                        have EX := Lib.hid (chk_no (c := c) fun h => s1 (h.2.2.1.2.2 i hlt).1)
                        clear s1
                        go_wp2_with (go_at_call 53; (with_reducible refine (place_any _ _).mono ?_); rintro e w3 ⟨rfl, rfl⟩; rw [HN.out])
                        go_ret
                        refine ⟨?_, hb⟩
                        rw [EX.out]
                        rfl
                    · obtain rfl : i = c.sn := by have := HI.out; omega
                      have HS := HD
                      clear HD
                      have hs1 := sends_le c HF.out _ (Nat.le_refl _)
                      have c37 := cell_arrV g0 37 (by omega)
                      replace c37 : _ = some (Value.slice c.BA c.bn c.bc) := c37
                      go_wp2
                      go_loopg [130] c.bn (fun r x wr => ∃ i : Nat, i + r = c.bn ∧ x = .int .i64 i ∧ (∀ j, j < i → c.xn j ≤ 1000) ∧ wr.heap[w.heap.size]? = some (.cells (arrV 70 (comV c tg)) 42 (0, 0)) ∧ Below w.heap.size w wr)
                      case atStart => exact ⟨0, by omega, rfl, (fun j hj => absurd hj (by omega)), g0, hb⟩
                      case round =>
                        clear g0 hb c37
                        obtain ⟨i, hi, rfl, hd, g0, hb⟩ := hrel
                        have HI := Lib.hid hi
                        have HD := Lib.hid hd
                        clear hi hd
                        by_cases hlt : i < c.bn
                        · obtain ⟨ad, hA, hab, hc⟩ := (H0.out.boxes.below' hb hB).cell hlt
                          have HA := Lib.hid hA
                          clear hA
                          replace hc : wr.cell? (ad.add (i * 1)) = some (.slice (c.XA i) (c.xn i) (c.xc i)) := by have := hc 0 (by omega); rwa [addr_add_zero] at this
                          by_cases p7 : c.xn i ≤ 1000
                          · go_wp2_with (first | (refine wpList_elA HA.out rfl rfl Try.underlying40 (sz := 1) (by kernel_rfl) rfl rfl hlt ?_) | (refine wpList_load1 rfl rfl Try.underlying22 rfl rfl hc ?_))
                            go_roundg (gk - 1)
                            case measure => have := HI.out; omega
                            case rel =>
                              have hI := HI.out
                              exact ⟨i + 1, by omega, by go_num, all_succ HD.out p7, g0, hb⟩
                          · have EX := Lib.hid (chk_no (c := c) fun h => p7 (h.2.2.2.2 i hlt))
                            have p7n : (1000 : Int) < c.xn i := by omega
                            clear p7
                            go_wp2_with (first | (refine wpList_elA HA.out rfl rfl Try.underlying40 (sz := 1) (by kernel_rfl) rfl rfl hlt ?_) | (refine wpList_load1 rfl rfl Try.underlying22 rfl rfl hc ?_))
                            go_ret
                            refine ⟨?_, hb⟩
                            rw [EX.out]
                            rfl
                        · obtain rfl : i = c.bn := by have := HI.out; omega
                          have c37 := cell_arrV g0 37 (by omega)
                          replace c37 : _ = some (Value.slice c.BA c.bn c.bc) := c37
                          by_cases k8 : sends c c.sn = c.bn
                          · have EX := Lib.hid (chk_yes (c := c) ⟨⟨by omega, k2, k3⟩, ⟨k4, HP.out⟩, ⟨by omega, k6, HS.out⟩, k8, HD.out⟩)
                            have k8n : ((sends c c.sn : Nat) : Int) = (c.bn : Int) := by omega
                            go_wp2
                            go_ret
                            refine ⟨?_, hb⟩
                            rw [EX.out]
                            rfl
                          · have EX := Lib.hid (chk_no (c := c) fun h => k8 h.2.2.2.1)
                            go_wp2
                            go_ret
                            refine ⟨?_, hb⟩
                            rw [EX.out]
                            rfl
            · have k6b : (((c.kn : Nat) : Int) != ((c.sn : Nat) : Int)) = true := bne_iff_ne.2 (by omega)
              have EX := Lib.hid (chk_no (c := c) fun h => k6 h.2.2.1.2.1)
              go_wp2
              go_ret
              refine ⟨?_, hb⟩
              rw [EX.out]
              rfl
          · have EX := Lib.hid (chk_no (c := c) fun h => k5 h.2.2.1.1)
            have k5n : (4000 : Int) < c.sn := by omega
            clear k5
            go_wp2
            go_ret
            refine ⟨?_, hb⟩
            rw [EX.out]
            rfl
        · have EX := Lib.hid (chk_no (c := c) fun h => k4 h.2.1.1)
          have k4n : (100 : Int) < c.pn := by omega
          clear k4
          go_wp2
          go_ret
          refine ⟨?_, hb⟩
          rw [EX.out]
          rfl
      · have EX := Lib.hid (chk_no (c := c) fun h => k3 h.1.2.2)
        have k3n : 1048576 < c.by_ := by omega
        clear k3
        go_wp2
        go_ret
        refine ⟨?_, hb⟩
        rw [EX.out]
        rfl
    · have EX := Lib.hid (chk_no (c := c) fun h => k2 h.1.2.1)
      have k2n : c.by_ < 0 := by omega
      clear k2
      go_wp2
      go_ret
      refine ⟨?_, hb⟩
      rw [EX.out]
      rfl
  · have EX := Lib.hid (chk_no (c := c) fun h => k1 (by have := h.1.1; omega))
    have k1n : 1099511627776 < (c.ep : Int) := by omega
    clear k1
    go_wp2
    go_ret
    refine ⟨?_, hb⟩
    rw [EX.out]
    rfl
end Go.Proofs.Ytfbfkfdkigpkgaa
