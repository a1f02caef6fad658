/- The walk of the reference's Ctr where there is a text. -/
import Derived.Test.YtnckddjlpmkkgaaSl
import Derived.Test.YtnckddjlpmkkgaaByt
import Derived.Test.YtnckddjlpmkkgaaRefE
namespace Go.Proofs.Ytnckddjlpmkkgaa
set_option linter.unusedSimpArgs false
set_option linter.unusedVariables false
open Go.RowKit
attribute [local irreducible] sboxI beL beK encI mulN

/-- The first y bytes of what a stream comes to. -/
def ctrP (k m : Nat → Int) (F : Nat) (l : List Nat) (y : Nat) : List Nat := (List.range y).map fun x => (ctrI k m F l x).toNat
theorem ctrP_len (k m : Nat → Int) (F : Nat) (l : List Nat) (y : Nat) : (ctrP k m F l y).length = y := by unfold ctrP; simp
theorem ctrP_succ (k m : Nat → Int) (F : Nat) (l : List Nat) (y : Nat) : ctrP k m F l (y + 1) = ctrP k m F l y ++ [(ctrI k m F l y).toNat] := by unfold ctrP; rw [List.range_succ, List.map_append]; rfl
theorem ctrP_all (k m : Nat → Int) (F : Nat) (l : List Nat) : ctrP k m F l l.length = ctrL k m F l := rfl
theorem ctrI_eq (k m : Nat → Int) (F : Nat) (l : List Nat) (x : Nat) : ctrI k m F l x = bits .xor .u8 ((l.getD x 0 : Nat) : Int) (encI k (inI m (F + x / 16)) (x % 16)) := rfl
attribute [local irreducible] ctrP ctrI
theorem beL4_at (t i : Nat) (hi : i < 4) : (beL 4 t)[i]? = some (t / 2 ^ (8 * (3 - i)) % 256) := by
  unfold beL beK
  rw [List.getElem?_map, List.getElem?_range hi]
  rfl

set_option maxRecDepth 100000 in
set_option maxHeartbeats 4000000 in
theorem RCtr_yes (k m : Nat → Int) (hk : ∀ i, i < 16 → 0 ≤ k i ∧ k i < 256) (hm : ∀ i, i < 12 → 0 ≤ m i ∧ m i < 256) (F : Nat) (h3 : F < 4294967296) (A : Option Addr) (n c : Nat) (l : List Nat) (w : World) (h : Txt w w.heap.size A n c l) (hl : ∀ x ∈ l, x < 256) (h1 : n ≤ 1048576) (h2 : F + (n + 15) / 16 ≤ 4294967296) :
    Calls Try.prog 19 #[.agg (arr .u8 16 k), .agg (arr .u8 12 m), .int .u32 F, .slice A n c] w (RetYes w (ctrL k m F l)) := by
  go_enter Try.func19, Try.ntmps19
  obtain ⟨g0, g1, hz, hb⟩ := alloc2 w (.cells (arr .u8 16 k) 23) (.cells (arr .u8 12 m) 34)
  have H0 := Lib.hid h
  have HL := Lib.hid hl
  have HM := Lib.hid hm
  have HK := Lib.hid hk
  clear h hl hm hk
  go_upto_region 6 with (fail)
  generalize ((w.alloc (.cells (arr .u8 16 k) 23)).alloc (.cells (arr .u8 12 m) 34)) = wa at *
  (try simp only [Act.put, List.setIfInBounds_toArray, List.set_cons_zero, List.set_cons_succ])
  obtain ⟨bl, hbl⟩ : ∃ bl : Nat, ((n : Int) + 15) / 16 = bl := ⟨(n + 15) / 16, by omega⟩
  simp only [hbl]
  have hb1 : F + bl ≤ 4294967296 := by omega
  have hb2 : n ≤ 16 * bl := by omega
  have hb3 : 16 * bl ≤ n + 15 := by omega
  clear h2 hbl
  go_wp2
  go_loopg [34, 11] bl (fun r i v wr => ∃ (j : Nat) (y : Nat), j + r = bl ∧ i = .int .u64 j ∧ (y = 16 * j ∨ y = n) ∧ y ≤ 16 * j ∧ y ≤ n ∧ wr.heap[w.heap.size]? = some (.cells (arr .u8 16 k) 23 (0, 0)) ∧ wr.heap[w.heap.size + 1]? = some (.cells (arr .u8 12 m) 34 (0, 0)) ∧ Own wr (w.heap.size + 2) 5 v (ctrP k m F l y) ∧ Below w.heap.size w wr)
  case atStart => exact ⟨0, 0, by omega, rfl, by omega, by omega, by omega, g0, g1, by unfold ctrP; exact Own.nil_, hb⟩
  case round =>
    obtain ⟨go1, rfl⟩ : ∃ x, x = gk := ⟨_, rfl⟩
    clear g0 g1 hz hb
    obtain ⟨j, y, hj, rfl, hy1, hy2, hy3, g0, g1, ho, hB⟩ := hrel
    have HJ := Lib.hid hj
    have HO := Lib.hid ho
    have HY := Lib.hid (And.intro hy1 (And.intro hy2 hy3))
    clear hj ho hy1 hy2 hy3
    by_cases hlt : j < bl
    · go_upto_region 11 with (refine wpList_alloc_arr rfl rfl ZTBlock ?_)
      obtain ⟨hI0, hIs, hIb⟩ := alloc1 wr (.cells (arr .u8 16 fun _ => 0) 23)
      have l1 := lt_of_block g1
      replace g0 := keep_below hIb (lt_of_block g0) g0
      replace g1 := keep_below hIb l1 g1
      have hlt' := HO.out.lt
      have HO := Lib.hid (HO.out.alloc (.cells (arr .u8 16 fun _ => 0) 23))
      replace hB := hB.trans (hIb.mono hB.size)
      generalize wr.alloc (.cells (arr .u8 16 fun _ => 0) 23) = wb at *
      generalize wr.heap.size = I at *
      have hI' : w.heap.size + 1 < I := l1
      have HLT := Lib.hid hlt'
      clear hIb hlt' l1
      go_wp2_with (refine wpList_load_arr rfl rfl rfl RTNonce g1 ?_)
      go_loopg [38] 12 (fun r x wq => ∃ p : Nat, p + r = 12 ∧ x = .int .i64 p ∧ wq.heap[I]? = some (.cells (arr .u8 16 fun x => if x < p then m x else 0) 23 (0, 0)) ∧ wq.heap[w.heap.size]? = some (.cells (arr .u8 16 k) 23 (0, 0)) ∧ wq.heap[w.heap.size + 1]? = some (.cells (arr .u8 12 m) 34 (0, 0)) ∧ Own wq (w.heap.size + 2) 5 u11 (ctrP k m F l y) ∧ Below w.heap.size w wq)
      case atStart => exact ⟨0, by omega, rfl, hI0, g0, g1, HO.out, hB⟩
      case round =>
        clear g0 g1 HO hB hI0 hIs
        obtain ⟨p, hp, rfl, gI, g0, g1, ho, hB⟩ := hrel
        have HP := Lib.hid hp
        have HO := Lib.hid ho
        clear hp ho
        by_cases hlp : p < 12
        · have cI := cell_arr gI p (by omega)
          have fz := free_arr gI p
          go_wp2_with (refine wpList_index_cell rfl rfl Try.underlying34 Try.underlying5 rfl SZByte rfl rfl (by omega) (by omega) (by omega) ?_)
          go_roundg (gk - 1)
          case measure => have := HP.out; omega
          case rel =>
            have hP := HP.out
            exact ⟨p + 1, by omega, by go_num, blk_congr (set_arr gI p _) (fun i _ => fill_grow _ _ _ i rfl), keep_arr g0 _ _ (by omega), keep_arr g1 _ _ (by omega), HO.out.setCell (p := ⟨I, p, none⟩) (fun k hk => by have := HLT.out k hk; show k ≠ I; omega) _, hB.setCell (p := ⟨I, p, none⟩) (by show w.heap.size ≤ I; omega) _⟩
        · obtain rfl : p = 12 := by have := HP.out; omega
          have hat : F + j < 4294967296 := by omega
          go_wp2_with (go_at_call 21; fail)
          obtain ⟨T, hT, hTi⟩ : ∃ T : Nat, T = F + j ∧ (F : Int) + j = T := ⟨F + j, rfl, by omega⟩
          have hTb : T < 4294967296 := by omega
          rw [hTi]
          have HT := Lib.hid hT
          clear hT hTi
          have lI := lt_of_block gI
          refine (Bytes_any 4 T (by omega) (by omega) _).mono ?_
          rintro e w2 ⟨V, rfl, hV, b2⟩
          replace gI := keep_below b2 lI gI
          replace g0 := keep_below b2 (by omega) g0
          replace g1 := keep_below b2 (by omega) g1
          have HO := Lib.hid (HO.out.below b2 HO.out.lt')
          replace hB := hB.trans (b2.mono hB.size)
          replace hV := hV.mono (show I + 1 ≤ _ by omega)
          obtain ⟨Ab, cb, rfl, htb⟩ := hV.txt
          simp only [beL_len] at hV htb ⊢
          obtain ⟨ad, rfl, -, -⟩ := htb.cell (k := 0) (by omega)
          clear b2 htb
          go_wp2
          have gI2 := blk_congr (f' := fun x => if x < 12 + 0 then inI m T x else 0) gI (fun i _ => by
            by_cases h : i < 12
            · simp only [if_pos h, Nat.add_zero]; unfold inI; rw [if_pos h]
            · simp only [if_neg h, Nat.add_zero])
          clear gI
          go_loopg [52] 4 (fun r x wq => ∃ p : Nat, p + r = 4 ∧ x = .int .i64 p ∧ wq.heap[I]? = some (.cells (arr .u8 16 fun x => if x < 12 + p then inI m T x else 0) 23 (0, 0)) ∧ wq.heap[w.heap.size]? = some (.cells (arr .u8 16 k) 23 (0, 0)) ∧ wq.heap[w.heap.size + 1]? = some (.cells (arr .u8 12 m) 34 (0, 0)) ∧ Own wq (I + 1) 5 (.slice (some ad) 4 cb) (beL 4 T) ∧ Own wq (w.heap.size + 2) 5 u11 (ctrP k m F l y) ∧ Below w.heap.size w wq)
          case atStart => exact ⟨0, by omega, rfl, gI2, g0, g1, hV, HO.out, hB⟩
          case round =>
            clear gI2 g0 g1 hV HO hB
            obtain ⟨p, hp, rfl, gI, g0, g1, hV, ho, hB⟩ := hrel
            have HP2 := Lib.hid hp
            have HO := Lib.hid ho
            have HV := Lib.hid hV
            clear hp ho hV
            by_cases hlp : p < 4
            · have cI := cell_arr gI (12 + p) (by omega)
              have fz := free_arr gI (12 + p)
              have cV : wr.cell? (ad.add p) = some (.int .u8 ((T / 2 ^ (8 * (3 - p)) % 256 : Nat) : Int)) := by
                obtain ⟨A2, c2, he, ht⟩ := HV.out.txt
                injection he with he
                subst he
                obtain ⟨ad', he, _, hc⟩ := ht.at_ (by rw [beL_len]; omega)
                injection he with he
                subst he
                exact hc p _ (beL4_at T p hlp)
              have cb2 : T / 2 ^ (8 * (3 - p)) % 256 < 256 := Nat.mod_lt _ (by omega)
              generalize hbt : T / 2 ^ (8 * (3 - p)) % 256 = bt at cV cb2
              have HBT := Lib.hid hbt
              clear hbt
              go_wp2
              go_roundg (gk - 1)
              case measure => have := HP2.out; omega
              case rel =>
                have hP := HP2.out
                refine ⟨p + 1, by omega, by go_num, blk_congr (set_arr gI (12 + p) _) (fun i _ => ?_), keep_arr g0 _ _ (by omega), keep_arr g1 _ _ (by omega), HV.out.setCell (p := ⟨I, 12 + p, none⟩) (fun k hk => by have := (HV.out.lt k hk).1; show k ≠ I; omega) _, HO.out.setCell (p := ⟨I, 12 + p, none⟩) (fun k hk => by have := HLT.out k hk; show k ≠ I; omega) _, hB.setCell (p := ⟨I, 12 + p, none⟩) (by show w.heap.size ≤ I; omega) _⟩
                refine fill_grow (inI m T) (12 + p) _ i ?_
                unfold inI
                rw [if_neg (by omega), show 15 - (12 + p) = 3 - p from by omega, HBT.out]
            · obtain rfl : p = 4 := by have := HP2.out; omega
              replace gI := blk_congr (f' := inI m T) gI (fun i hi => if_pos hi)
              have lI := lt_of_block gI
              clear HV
              go_upto_region 21 with (fail)
              (try simp only [Act.put, List.setIfInBounds_toArray, List.set_cons_zero, List.set_cons_succ])
              refine wp_region_lit ?_
              refine wpList_load_arr (g := w.heap.size) rfl rfl rfl RTBlock g0 ?_
              (try simp only [Act.put, List.setIfInBounds_toArray, List.set_cons_zero, List.set_cons_succ])
              refine wpList_load_arr (g := I) rfl rfl rfl RTBlock gI ?_
              (try simp only [Act.put, List.setIfInBounds_toArray, List.set_cons_zero, List.set_cons_succ])
              go_wp2_with (first | (go_at_call 16; (with_reducible refine (refEncrypt_any k _ HK.out (fun i _ => inI_byte m HM.out T i) _).mono ?_); rintro e w2 ⟨rfl, b2⟩) | (refine wpList_new_arr rfl rfl rfl rfl ZTBlock RTBlock rfl rfl ?_; intro w3 gS b3 hs3))
              replace g0 := keep_below b2 (by omega) g0
              replace g1 := keep_below b2 (by omega) g1
              have HO := Lib.hid (HO.out.below b2 HO.out.lt')
              replace hB := hB.trans (b2.mono hB.size)
              clear b2 gI lI
              have hS0 : w.heap.size + 1 < w2.heap.size := lt_of_block g1
              replace g0 := keep_below b3 (by omega) g0
              replace g1 := keep_below b3 (by omega) g1
              have hSO : ∀ k, u11.ownBlock = some k → k ≠ w2.heap.size := fun k hk => by have := HO.out.lt' k hk; omega
              have HO := Lib.hid (HO.out.below b3 HO.out.lt')
              replace hB := hB.trans (b3.mono hB.size)
              clear b3 hs3
              generalize w2.heap.size = S at *
              (try simp only [Act.put, List.setIfInBounds_toArray, List.set_cons_zero, List.set_cons_succ])
              have hyj : y = 16 * j := by have := HY.out; omega
              subst hyj
              have hjn : 16 * j < n := by omega
              clear HLT HY
              go_loopg [19, 11] 16 (fun r x v wq => ∃ p : Nat, p + r = 16 ∧ x = .int .i64 p ∧ 16 * j + p ≤ n ∧ wq.heap[S]? = some (.cells (arr .u8 16 (encI k (inI m T))) 23 (0, 0)) ∧ wq.heap[w.heap.size]? = some (.cells (arr .u8 16 k) 23 (0, 0)) ∧ wq.heap[w.heap.size + 1]? = some (.cells (arr .u8 12 m) 34 (0, 0)) ∧ Own wq (w.heap.size + 2) 5 v (ctrP k m F l (16 * j + p)) ∧ (∀ k, v.ownBlock = some k → k ≠ S) ∧ Below w.heap.size w wq)
              case atStart => exact ⟨0, by omega, rfl, by omega, gS, g0, g1, HO.out, hSO, hB⟩
              case round =>
                clear gS g0 g1 HO hB hSO
                obtain ⟨p, hp, rfl, hpn, gS, g0, g1, ho, hSO, hB⟩ := hrel
                have HP3 := Lib.hid hp
                have HO := Lib.hid ho
                have HSO := Lib.hid hSO
                clear hp ho hSO
                by_cases hlp : p < 16
                · by_cases hln : 16 * j + p < n
                  · obtain ⟨ad2, rfl, hab, hac⟩ := (H0.out.below hB).cell hln
                    replace hac : wr.cell? (ad2.add (16 * j + p)) = some (.int .u8 ((l.getD (16 * j + p) 0 : Nat) : Int)) := hac
                    have hbd := HL.out _ (show l.getD (16 * j + p) 0 ∈ l from by rw [List.getD_eq_getElem?_getD, List.getElem?_eq_getElem (by rw [H0.out.len]; exact hln)]; exact List.getElem_mem _)
                    have hS := cell_arr gS p hlp
                    obtain ⟨z, hz⟩ : ∃ z : Nat, z = (ctrI k m F l (16 * j + p)).toNat := ⟨_, rfl⟩
                    have hv : bits .xor .u8 ((l[j * 16 + p]?.getD 0 : Nat) : Int) (encI k (inI m T) p) = ((z : Nat) : Int) := by
                      rw [hz, Int.toNat_of_nonneg (ctrI_byte k m F l (16 * j + p)).1, ctrI_eq, HT.out, List.getD_eq_getElem?_getD, show (16 * j + p) / 16 = j from by omega, show (16 * j + p) % 16 = p from by omega, Nat.mul_comm 16 j]
                    have HV := Lib.hid hv
                    have HZ := Lib.hid hz
                    clear hv hz
                    go_wp2
                    (try simp only [Act.put, List.setIfInBounds_toArray, List.set_cons_zero, List.set_cons_succ])
                    refine wp_region_can w.heap.size 15 [(0, false), (1, false), (2, false), (3, false), (4, false), (5, false), (6, false), (7, false), (8, false), (9, false), (10, false), (11, true), (12, false), (13, true), (14, true)] (by kernel_rfl) (by kernel_rfl) ?_
                    (simp only [canOps, List.getElem?_cons_zero, List.getElem?_cons_succ, List.drop_succ_cons, List.drop_zero])
                    have uI : Try.prog.underlying 3 = some (.int .i64) := Try.underlying3
                    iterate 8 (first | (refine wpCan_move rfl rfl (fun _ _ _ _ h => h) ?_; (simp only [Act.put, Act.eval, Array.getD_eq_getD_getElem?, List.getElem?_toArray, List.getElem?_cons_zero, List.getElem?_cons_succ, Option.getD_some, List.setIfInBounds_toArray, List.set_cons_zero, List.set_cons_succ])) | (refine wpCan_assign rfl rfl (fun _ _ _ _ h => h) ?_; (simp only [Act.put, Act.eval, Array.getD_eq_getD_getElem?, List.getElem?_toArray, List.getElem?_cons_zero, List.getElem?_cons_succ, Option.getD_some, List.setIfInBounds_toArray, List.set_cons_zero, List.set_cons_succ])) | (refine wpCan_nilCheck rfl rfl rfl (fun _ _ _ _ h => h) ?_; (simp only [Act.put, List.setIfInBounds_toArray, List.set_cons_zero, List.set_cons_succ])) | (refine wpCan_q rfl rfl (fun _ _ _ _ h => h) (by first | exact .bin rfl rfl rfl | exact .indexAddr rfl | exact .un rfl | exact .extract rfl | exact .index rfl | exact .field rfl | exact .slice rfl | exact .conv rfl rfl uI) (fun K hK => ?_); go_simp; (try (simp only [↓IntWalk.iteOmega]; go_simp)); (try go_bits); refine hK _ ?_; clear hK K))
                    rw [Nat.mul_comm 16 j, List.getD_eq_getElem?_getD] at hac
                    have hac' : wr.drew.cell? (ad2.add (j * 16 + p)) = _ := hac
                    refine wpCan_v rfl (fun _ _ _ _ h => h) (Framed.loadC rfl Try.underlying5 rfl (by rw [add_block]; exact hab) hac') (run_load_u8 rfl Try.underlying5 rfl hac') ?_
                    (try simp only [Act.put, List.setIfInBounds_toArray, List.set_cons_zero, List.set_cons_succ])
                    iterate 2 (first | (refine wpCan_move rfl rfl (fun _ _ _ _ h => h) ?_; (simp only [Act.put, Act.eval, Array.getD_eq_getD_getElem?, List.getElem?_toArray, List.getElem?_cons_zero, List.getElem?_cons_succ, Option.getD_some, List.setIfInBounds_toArray, List.set_cons_zero, List.set_cons_succ])) | (refine wpCan_assign rfl rfl (fun _ _ _ _ h => h) ?_; (simp only [Act.put, Act.eval, Array.getD_eq_getD_getElem?, List.getElem?_toArray, List.getElem?_cons_zero, List.getElem?_cons_succ, Option.getD_some, List.setIfInBounds_toArray, List.set_cons_zero, List.set_cons_succ])) | (refine wpCan_nilCheck rfl rfl rfl (fun _ _ _ _ h => h) ?_; (simp only [Act.put, List.setIfInBounds_toArray, List.set_cons_zero, List.set_cons_succ])) | (refine wpCan_q rfl rfl (fun _ _ _ _ h => h) (by first | exact .bin rfl rfl rfl | exact .indexAddr rfl | exact .un rfl | exact .extract rfl | exact .index rfl | exact .field rfl | exact .slice rfl) (fun K hK => ?_); go_simp; (try (simp only [↓IntWalk.iteOmega]; go_simp)); (try go_bits); refine hK _ ?_; clear hK K))
                    refine wpCan_e rfl (fun K hK => ?_)
                    go_simp
                    refine hK _ _ (Keep.refl _ _) ?_
                    clear hK K
                    (try simp only [Act.put, List.setIfInBounds_toArray, List.set_cons_zero, List.set_cons_succ])
                    (first | (refine wpCan_move rfl rfl (fun _ _ _ _ h => h) ?_; (simp only [Act.put, Act.eval, Array.getD_eq_getD_getElem?, List.getElem?_toArray, List.getElem?_cons_zero, List.getElem?_cons_succ, Option.getD_some, List.setIfInBounds_toArray, List.set_cons_zero, List.set_cons_succ])) | (refine wpCan_assign rfl rfl (fun _ _ _ _ h => h) ?_; (simp only [Act.put, Act.eval, Array.getD_eq_getD_getElem?, List.getElem?_toArray, List.getElem?_cons_zero, List.getElem?_cons_succ, Option.getD_some, List.setIfInBounds_toArray, List.set_cons_zero, List.set_cons_succ])) | (refine wpCan_nilCheck rfl rfl rfl (fun _ _ _ _ h => h) ?_; (simp only [Act.put, List.setIfInBounds_toArray, List.set_cons_zero, List.set_cons_succ])) | (refine wpCan_q rfl rfl (fun _ _ _ _ h => h) (by first | exact .bin rfl rfl rfl | exact .indexAddr rfl | exact .un rfl | exact .extract rfl | exact .index rfl | exact .field rfl | exact .slice rfl) (fun K hK => ?_); go_simp; (try (simp only [↓IntWalk.iteOmega]; go_simp)); (try go_bits); refine hK _ ?_; clear hK K))
                    rw [HV.out]
                    refine wpCan_e rfl (fun K hK => ?_)
                    go_simp
                    refine hK _ _ (Keep.alloc _ _ hB.size) ?_
                    clear hK K
                    (try simp only [Act.put, List.setIfInBounds_toArray, List.set_cons_zero, List.set_cons_succ])
                    refine wpCan_e rfl (fun K hK => ?_)
                    have hO := HO.out
                    have hsz := hB.size
                    have hSl := lt_of_block gS
                    have hal := (Below.refl wr.heap.size wr).alloc (Nat.le_refl _) (.cells #[bv z] 5)
                    refine oper_append_txt (v := u11) (A := some ⟨wr.heap.size, 0, none⟩) (n := 1) (c := 1) (m := [z]) (base := w.heap.size + 2) (l := ctrP k m F l (16 * j + p)) rfl BT rfl rfl (hO.alloc _).drew (txt_one wr 5 z).drew (by rw [ctrP_len]; omega) (by simp; omega) ?_
                    intro v1 w1 hown hg hat
                    have hB1 : Below w.heap.size w w1 := own_below (hB.alloc hB.size (.cells #[bv z] 5)).drew (hO.alloc _).drew hg (by omega) (by simp; omega)
                    refine hK _ _ (Keep.of_below (own_below (B := w.heap.size) (Below.refl _ _) (hO.alloc _).drew hg (by omega) (by simp; omega)) (Nat.le_refl _)) ?_
                    clear hK K
                    (try simp only [Act.put, List.setIfInBounds_toArray, List.set_cons_zero, List.set_cons_succ])
                    refine wpCan_nil ?_
                    go_wp2
                    go_roundg (gk - 1)
                    case measure => have := HP3.out; omega
                    case rel =>
                      have hP := HP3.out
                      have kb : ∀ b, b < wr.heap.size → (∀ k, u11.ownBlock = some k → k ≠ b) → w1.heap[b]? = wr.heap[b]? := fun b hb hne => by
                        rw [hg.block b (by simp; omega) (fun h => hne b h.symm rfl)]
                        exact Below.heap_alloc _ _ _ (by omega)
                      have hlo := hO.lt
                      refine ⟨p + 1, by omega, by go_num, by omega, (kb S hSl HSO.out).trans gS, (kb _ (by omega) (fun k hk => by have := (hlo k hk).1; omega)).trans g0, (kb _ (by omega) (fun k hk => by have := (hlo k hk).1; omega)).trans g1, ?_, (fun k hk => ?_), hB1⟩
                      · rw [show 16 * j + (p + 1) = 16 * j + p + 1 from by omega, ctrP_succ, ← HZ.out]
                        exact hown
                      · rcases hat with h | h
                        · exact HSO.out k (h ▸ hk)
                        · rw [h] at hk
                          injection hk with hk
                          simp at hk
                          omega
                  · go_wp2
                    go_roundg (go1 - 1)
                    case measure => have := HJ.out; omega
                    case rel =>
                      have hJ := HJ.out
                      exact ⟨j + 1, 16 * j + p, by omega, by go_num, by omega, by omega, by omega, g0, g1, HO.out, hB⟩
                · obtain rfl : p = 16 := by have := HP3.out; omega
                  go_wp2
                  go_roundg (go1 - 1)
                  case measure => have := HJ.out; omega
                  case rel =>
                    have hJ := HJ.out
                    exact ⟨j + 1, 16 * j + 16, by omega, by go_num, by omega, by omega, by omega, g0, g1, HO.out, hB⟩
    · obtain rfl : j = bl := by have := HJ.out; omega
      go_wp2
      go_ret2
      have hy : y = n := by have := HY.out; omega
      subst hy
      have hl := H0.out.len
      refine ⟨_, rfl, ?_, hB⟩
      rw [← ctrP_all, hl]
      exact HO.out.mono (by omega)
end Go.Proofs.Ytnckddjlpmkkgaa
