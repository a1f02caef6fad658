/- The law WordBack: whatever the commit, the welcome and the frame, it answers true. -/
import Derived.Test.YtfbfkfdkigpkgaaRtcs
import Derived.Test.YtfbfkfdkigpkgaaRSame
import Derived.Test.YtfbfkfdkigpkgaaHcm
namespace Go.Proofs.Ytfbfkfdkigpkgaa
set_option linter.unusedSimpArgs false
set_option linter.unusedVariables false
open Go.RowKit
attribute [local irreducible] beL beK keyL chk SameC headL

theorem lC_is {c : Com} (h : OkCom c) (tg : Nat → Nat) : lT c tg = lC c ++ keyL tg := by
  unfold lT lC
  rw [if_pos h, if_pos h]
theorem welcomeL_len (tw n1 n2 n3 : Nat) (m1 m2 m3 : List Nat) : (welcomeL tw n1 n2 n3 m1 m2 m3).length = 17 + m1.length + m2.length + m3.length := by
  unfold welcomeL
  simp only [List.length_append, beL_len, List.length_cons, List.length_nil]
  omega
theorem welcomeL_lt (tw n1 n2 n3 : Nat) (m1 m2 m3 : List Nat) (h1 : ∀ x ∈ m1, x < 256) (h2 : ∀ x ∈ m2, x < 256) (h3 : ∀ x ∈ m3, x < 256) : ∀ x ∈ welcomeL tw n1 n2 n3 m1 m2 m3, x < 256 := by
  unfold welcomeL
  intro x hx
  simp only [List.mem_append, List.mem_singleton] at hx
  rcases hx with ((((((hx | hx) | hx) | hx) | hx) | hx) | hx) | hx
  · omega
  · exact beL_lt _ _ x hx
  · exact beL_lt _ _ x hx
  · exact h1 x hx
  · exact beL_lt _ _ x hx
  · exact h2 x hx
  · exact beL_lt _ _ x hx
  · exact h3 x hx
theorem FTFr3 : FieldT Try.prog 27 3 := ⟨_, _, 0, Try.underlying27, rfl, by kernel_rfl⟩
def frI (ep fr ge : Int) (A : Option Addr) (n c : Nat) (j : Nat) : Value := if j = 0 then .int .u64 ep else if j = 1 then .int .i64 fr else if j = 2 then .int .u64 ge else .slice A n c
def wlI (tw : Int) (A1 : Option Addr) (n1 c1 : Nat) (A2 : Option Addr) (n2 c2 : Nat) (A3 : Option Addr) (n3 c3 : Nat) (j : Nat) : Value := if j = 0 then .int .i64 tw else if j = 1 then .slice A1 n1 c1 else if j = 2 then .slice A2 n2 c2 else .slice A3 n3 c3
def wC (c1 c2 c3 : Nat) (j : Nat) : Nat := if j = 0 then c1 else if j = 1 then c2 else c3
theorem WriteFrameN (ep fr ge : Int) (A : Option Addr) (n c : Nat) (hm : ¬ MayF ep fr ge n) (w : World) : Calls Try.prog 12 #[.agg (arrV 4 (frI ep fr ge A n c))] w (RetErr w 1) := WriteFrame_no ep fr ge A n c hm w
theorem WriteFrameY {p : PFr} {A : Option Addr} {c : Nat} {w : World} (hm : MayF p.ep p.frm p.gen p.box.length) (ht : Txt w w.heap.size A p.box.length c p.box) : Calls Try.prog 12 #[.agg (arrV 4 (frF p A c))] w (RetTxt w (headL p.ep p.frm p.gen ++ p.box)) := WriteFrame_yes p.ep p.frm p.gen A p.box.length c p.box hm w ht
theorem FrameHeadY {p : PFr} {A : Option Addr} {c : Nat} {w : World} (hm : MayF p.ep p.frm p.gen p.box.length) : Calls Try.prog 14 #[.agg (arrV 4 (frF p A c))] w (RetTxt w (headL p.ep p.frm p.gen)) := FrameHead_yes p.ep p.frm p.gen A p.box.length c hm w
theorem SameFrameY {p : PFr} {A A' : Option Addr} {c c' : Nat} {w : World} (h : Txt w w.heap.size A p.box.length c p.box) (h' : Txt w w.heap.size A' p.box.length c' p.box) (hl : ∀ x ∈ p.box, x < 256) :
    Calls Try.prog 33 #[.agg (arrV 4 (frF p A c)), .agg (arrV 4 (frF p A' c'))] w fun e w' => e = .returned (.bool true) ∧ Below w.heap.size w w' := SameFrame_self rfl rfl h h' (Nat.le_refl _) (Nat.le_refl _) hl
theorem WriteWelcomeN (tw : Int) (A1 : Option Addr) (n1 c1 : Nat) (A2 : Option Addr) (n2 c2 : Nat) (A3 : Option Addr) (n3 c3 : Nat) (hm : ¬ MayW tw n1 n2 n3) (w : World) : Calls Try.prog 10 #[.agg (arrV 4 (wlI tw A1 n1 c1 A2 n2 c2 A3 n3 c3))] w (RetErr w 1) := WriteWelcome_no tw A1 n1 c1 A2 n2 c2 A3 n3 c3 hm w
theorem WlOk.at_ {w w' : World} {B : Nat} {p : PWl} {A : Nat → Option Addr} {c : Nat → Nat} (h : WlOk w B p A c) (hb : Below w.heap.size w w') : WlOk w' B p A c := ⟨Nat.le_trans h.low hb.size, fun j hj => (h.txt j hj).below' hb h.low⟩
theorem WriteWelcomeY {p : PWl} {A : Nat → Option Addr} {c : Nat → Nat} {B : Nat} {w : World} (hm : MayW p.tw p.c.length p.t.length p.b.length) (h : WlOk w B p A c) : Calls Try.prog 10 #[.agg (arrV 4 (wlG p.tw p.tx A c 3))] w (RetTxt w (welcomeL p.tw p.c.length p.t.length p.b.length p.c p.t p.b)) :=
  WriteWelcome_yes p.tw (A 0) p.c.length (c 0) (A 1) p.t.length (c 1) (A 2) p.b.length (c 2) p.c p.t p.b hm w ((h.txt 0 (by omega)).more h.low) ((h.txt 1 (by omega)).more h.low) ((h.txt 2 (by omega)).more h.low)
attribute [local irreducible] lC lT welcomeL
set_option maxRecDepth 100000 in
set_option maxHeartbeats 8000000 in
theorem WordBack_any (w : World) (c : Com) (tg : Nat → Nat) (hc : ComOk w w.heap.size c) (hcb : ComB c) (hsn : (c.sn : Int) ≤ 9223372036854775807) (hbn : (c.bn : Int) ≤ 9223372036854775807) (htg : ∀ j, j < 32 → tg j < 256)
    (tw : Int) (A1 : Option Addr) (n1 k1 : Nat) (m1 : List Nat) (t1 : Txt w w.heap.size A1 n1 k1 m1) (l1 : ∀ x ∈ m1, x < 256) (A2 : Option Addr) (n2 k2 : Nat) (m2 : List Nat) (t2 : Txt w w.heap.size A2 n2 k2 m2) (l2 : ∀ x ∈ m2, x < 256) (A3 : Option Addr) (n3 k3 : Nat) (m3 : List Nat) (t3 : Txt w w.heap.size A3 n3 k3 m3) (l3 : ∀ x ∈ m3, x < 256)
    (ep fr ge : Int) (hep : 0 ≤ ep) (hge : 0 ≤ ge) (A : Option Addr) (n k : Nat) (m : List Nat) (t : Txt w w.heap.size A n k m) (l : ∀ x ∈ m, x < 256) :
    Calls Try.prog 7 #[.agg (arrV 70 (comV c tg)), .agg #[.int .i64 tw, .slice A1 n1 k1, .slice A2 n2 k2, .slice A3 n3 k3], .agg #[.int .u64 ep, .int .i64 fr, .int .u64 ge, .slice A n k]] w fun e w' => e = .returned (.bool true) ∧ Below w.heap.size w w' := by
  have HC := Lib.hid hc
  have HCB := Lib.hid hcb
  have HTG := Lib.hid htg
  have T1 := Lib.hid t1
  have T2 := Lib.hid t2
  have T3 := Lib.hid t3
  have T := Lib.hid t
  have L1 := Lib.hid l1
  have L2 := Lib.hid l2
  have L3 := Lib.hid l3
  have L := Lib.hid l
  clear hc hcb htg t1 t2 t3 t l1 l2 l3 l
  go_enter Try.func7, Try.ntmps7
  obtain ⟨g0, g1, g2, hz, hb⟩ := alloc3 w (.cells (arrV 70 (comV c tg)) 42) (.cells #[.int .i64 tw, .slice A1 n1 k1, .slice A2 n2 k2, .slice A3 n3 k3] 24) (.cells #[.int .u64 ep, .int .i64 fr, .int .u64 ge, .slice A n k] 27)
  go_upto_region 2 with (go_at_call 9; (with_reducible refine (live_any _).mono ?_); rintro e w1 ⟨rfl, b1⟩)
  replace g0 := keep_below b1 (by omega) g0
  replace g1 : w1.heap[w.heap.size + 1]? = some (.cells (arrV 4 (wlI tw A1 n1 k1 A2 n2 k2 A3 n3 k3)) 24 (0, 0)) := keep_below b1 (by omega) g1
  replace g2 : w1.heap[w.heap.size + 1 + 1]? = some (.cells (arrV 4 (frI ep fr ge A n k)) 27 (0, 0)) := keep_below b1 (by omega) g2
  replace hb := hb.trans (b1.mono (by omega))
  clear b1 hz
  have hok := HC.out.below hb (Nat.le_refl _)
  go_wp2_with (first | (refine wpList_load_all rfl rfl RTCom rfl g0 ?_) | (go_at_call 17; fail))
  refine (Few_any c tg w.heap.size _ hok hb.size hsn hbn).mono ?_
  rintro e w2 ⟨⟨q, rfl, hq⟩, b2⟩
  replace g0 := keep_below b2 (lt_of_block g0) g0
  replace g1 := keep_below b2 (lt_of_block g1) g1
  replace g2 := keep_below b2 (lt_of_block g2) g2
  replace hb := hb.trans (b2.mono hb.size)
  clear b2 hok
  have c11 : w2.cell? ⟨w.heap.size + 1, 1, none⟩ = some (.slice A1 n1 k1) := cell_arrV g1 1 (by omega)
  have c12 : w2.cell? ⟨w.heap.size + 1, 2, none⟩ = some (.slice A2 n2 k2) := cell_arrV g1 2 (by omega)
  have c13 : w2.cell? ⟨w.heap.size + 1, 3, none⟩ = some (.slice A3 n3 k3) := cell_arrV g1 3 (by omega)
  have c23 : w2.cell? ⟨w.heap.size + 1 + 1, 3, none⟩ = some (.slice A n k) := cell_arrV g2 3 (by omega)
  cases q with
  | false =>
    clear hq
    go_wp2
    go_ret
    exact ⟨rfl, hb⟩
  | true =>
    have HF := Lib.hid (FewC.mid (hq rfl))
    clear hq
    by_cases s1 : n1 ≤ 2000
    · by_cases s2 : n2 ≤ 2000
      · by_cases s3 : n3 ≤ 2000
        · by_cases s4 : n ≤ 2000
          · go_upto_region 4 with (fail)
            clear c11 c12 c13 c23
            have hok := HC.out.below hb (Nat.le_refl _)
            go_upto_region 5 with (first | (refine wpList_load_all rfl rfl RTCom rfl g0 ?_) | (go_at_call 19; (with_reducible refine (WriteCommit_any c tg w.heap.size _ hok hb.size HF.out).mono ?_); rintro e wa ⟨A4, n4, c4, rfl, o4, b4⟩))
            replace g0 := keep_below b4 (lt_of_block g0) g0
            replace g1 := keep_below b4 (lt_of_block g1) g1
            replace g2 := keep_below b4 (lt_of_block g2) g2
            replace hb := hb.trans (b4.mono hb.size)
            clear b4 hok
            by_cases hm : OkCom c
            · have hx := fun i hi => (HC.out.texts i hi).len
              have HE := Lib.hid (cm_back (tg := tg) hm hx HF.out)
              have HS := fun a => Lib.hid (decide_eq_true (toP_same (tg := tg) hm a))
              have HX := Lib.hid (chk_yes hm)
              have HL := Lib.hid (lC_is hm tg)
              have hln := HF.out.ln hm hx
              have HLt := Lib.hid (lT_lt c tg HCB.out HTG.out)
              have hlC : (lC c).length ≤ 1048544 := by
                unfold lC
                rw [if_pos hm]
                exact hln
              have q4 := o4.text.len
              have q5 : n4 = (lC c).length + 32 := by rw [← q4, HL.out, List.length_append, keyL_len]
              rw [HX.out]
              have hs := o4.src (by omega) HLt.out
              have t4 := o4.text
              clear o4 hln hm hx q4 q5
              go_upto_region 7 with (first | (go_at_call 26; (with_reducible refine (ReadCommitE hs HE.out).mono ?_); rintro e wb ⟨a, rfl, ho5, b5⟩) | (refine wpList_newV rfl rfl rfl rfl ZVCm RTCom rfl rfl (fun _ _ => comV_one _ _ _) ?_; intro wc g3 b6 hs6))
              have bb := b5.trans (b6.mono b5.size)
              replace g0 := keep_below bb (lt_of_block g0) g0
              replace g1 := keep_below bb (lt_of_block g1) g1
              replace g2 := keep_below bb (lt_of_block g2) g2
              replace hb := hb.trans (bb.mono hb.size)
              replace t4 := (t4.below bb).more bb.size
              replace ho5 := (ho5.below b6 (Nat.le_refl _)).more b6.size
              clear bb b5 b6 hs hs6 HE
              have hl0 := lt_of_block g0
              have hl1 := lt_of_block g1
              have hl2 := lt_of_block g2
              have hw := hb.size
              have hok := HC.out.below hb (Nat.le_refl _)
              go_upto_region 8 with (first | (refine wpList_load_all rfl rfl RTCom rfl g0 ?_) | (go_at_call 18; (with_reducible refine (Head_any c tg w.heap.size _ hok hb.size HF.out).mono ?_); rw [HX.out]; rintro e wd ⟨A6, n6, c6, rfl, o6, b7⟩))
              replace g0 := keep_below b7 (lt_of_block g0) g0
              replace g1 := keep_below b7 (lt_of_block g1) g1
              replace g2 := keep_below b7 (lt_of_block g2) g2
              replace hb := hb.trans (b7.mono hb.size)
              replace g3 := keep_below b7 (lt_of_block g3) g3
              replace t4 := t4.below b7
              have hcd := b7.size
              replace ho5 := (ho5.below b7 (Nat.le_refl _)).more b7.size
              clear b7 hok
              have hok := (HC.out.below hb (Nat.le_refl _)).more hb.size
              have HO := Lib.hid o6
              have hB5 := Lib.hid (toP_B (tg := tg) HCB.out a)
              have HSa := HS a
              have hl6 := o6.lt'
              have hs6 := o6.text.len
              go_upto_region 10 with (first | (refine wpList_valg rfl (run_op_load_v rfl RTCom rfl g0) ?_) | (refine wpList_valg rfl (run_op_load_v rfl RTCom rfl g3) ?_) | (go_at_call 25; (with_reducible refine (RSameCom_any c tg (comOf (toP c tg) a) (toP c tg).tag _ _ hok ho5 HCB.out hB5.out HF.out (Nat.le_refl _)).mono ?_); rw [HSa.out]; rintro e we ⟨rfl, b8⟩; replace g0 := keep_below b8 (lt_of_block g0) g0; replace g1 := keep_below b8 (lt_of_block g1) g1; replace g2 := keep_below b8 (lt_of_block g2) g2; replace hb := hb.trans (b8.mono hb.size); replace t4 := t4.below' b8 hcd; have HO8 := Lib.hid (HO.out.below b8 hl6); have htg := txt_part (p := tg) g0 (off := 38) (by omega) (fun j hj => by unfold comV; rw [if_neg (by omega), if_neg (by omega), if_neg (by omega), if_neg (by omega), if_neg (by omega), if_neg (by omega), if_neg (by omega), show 38 + j - 38 = j from by omega])) | (refine wpList_append_g rfl rfl BT rfl rfl HO8.out htg (by omega) (Nat.le_trans hcd b8.size) ?_; intro v9 w9 o9 hg9 hat9; have b9 : Below wc.heap.size we w9 := own_below (Below.refl _ _) HO8.out hg9 (Nat.le_refl _) (Nat.le_trans hcd b8.size); replace g0 := keep_below b9 hl0 g0; replace g1 := keep_below b9 hl1 g1; replace g2 := keep_below b9 hl2 g2; replace hb := hb.trans (b9.mono hw); replace t4 := t4.below' b9 (Nat.le_refl _); obtain ⟨A9, n9, c9, rfl, hn9⟩ := o9.form; have t9 := o9.text; rw [← HL.out] at t9; have HT9 := Lib.hid t9; have HT4 := Lib.hid t4; clear t9 hn9 hg9 hat9 o9) | (go_at_call 16; (with_reducible refine (Same_txts HT4.out HT9.out HLt.out).mono ?_); rintro e wX ⟨rfl, rfl⟩))
              by_cases hm : MayW tw n1 n2 n3
              · obtain ⟨a, rfl⟩ : ∃ a : Nat, tw = a := ⟨tw.toNat, by unfold MayW at hm; omega⟩
                obtain rfl : m1.length = n1 := T1.out.len
                obtain rfl : m2.length = n2 := T2.out.len
                obtain rfl : m3.length = n3 := T3.out.len
                obtain ⟨p, hp⟩ : ∃ p : PWl, p = ⟨a, m1, m2, m3⟩ := ⟨_, rfl⟩
                have HE0 := wl_back hm s1 s2 s3
                have hO : WlOk w w.heap.size (⟨a, m1, m2, m3⟩ : PWl) (wA A1 A2 A3) (wC k1 k2 k3) := ⟨Nat.le_refl _, fun j hj => by
                  have : j = 0 ∨ j = 1 ∨ j = 2 := by omega
                  rcases this with rfl | rfl | rfl
                  · exact T1.out
                  · exact T2.out
                  · exact T3.out⟩
                have hL : ∀ j, j < 3 → ∀ x ∈ (⟨a, m1, m2, m3⟩ : PWl).tx j, x < 256 := fun j hj => by
                  have : j = 0 ∨ j = 1 ∨ j = 2 := by omega
                  rcases this with rfl | rfl | rfl
                  · exact L1.out
                  · exact L2.out
                  · exact L3.out
                replace g1 : _ = some (Obj.cells (arrV 4 (wlG (⟨a, m1, m2, m3⟩ : PWl).tw (⟨a, m1, m2, m3⟩ : PWl).tx (wA A1 A2 A3) (wC k1 k2 k3) 3)) 24 (0, 0)) := g1
                replace hm : MayW (⟨a, m1, m2, m3⟩ : PWl).tw (⟨a, m1, m2, m3⟩ : PWl).c.length (⟨a, m1, m2, m3⟩ : PWl).t.length (⟨a, m1, m2, m3⟩ : PWl).b.length := hm
                rw [← hp] at g1 hO hL hm
                have HE : Hid (wlV (welcomeL p.tw p.c.length p.t.length p.b.length p.c p.t p.b) = (p, 0)) := Lib.hid (by rw [hp]; exact HE0)
                have s5 : p.c.length ≤ 2000 := by rw [hp]; exact s1
                have s6 : p.t.length ≤ 2000 := by rw [hp]; exact s2
                have s7 : p.b.length ≤ 2000 := by rw [hp]; exact s3
                clear hp HE0 s1 s2 s3 T1 T2 T3 L1 L2 L3
                have HM := Lib.hid hm
                have HO := Lib.hid hO
                have HL := Lib.hid hL
                clear hm hO hL
                have ho := HO.out.at_ hb
                go_upto_region 11 with (first | (refine wpList_load_all rfl rfl RTWl rfl g1 ?_) | (go_at_call 10; (with_reducible refine (WriteWelcomeY HM.out ho).mono ?_); rintro e wa ⟨A4, n4, c4, rfl, o4, b4⟩))
                replace g0 := keep_below b4 (lt_of_block g0) g0
                replace g1 := keep_below b4 (lt_of_block g1) g1
                replace g2 := keep_below b4 (lt_of_block g2) g2
                replace hb := hb.trans (b4.mono hb.size)
                have q4 := o4.text.len
                have hs := o4.src (by rw [← q4, welcomeL_len]; omega) (fun x hx => welcomeL_lt _ _ _ _ _ _ _ (HL.out 0 (by omega)) (HL.out 1 (by omega)) (HL.out 2 (by omega)) x hx)
                clear ho b4 o4 q4
                go_upto_region 13 with (first | (go_at_call 28; (with_reducible refine (ReadWelcomeE hs HE.out).mono ?_); rintro e wb ⟨A5, c5, rfl, o5, b5⟩) | (refine wpList_newV rfl rfl rfl rfl ZVWl RTWl rfl rfl (fun _ _ => wlG_one _ _ _ _ _ _) ?_; intro wc g3 b6 hs6))
                have bb := b5.trans (b6.mono b5.size)
                replace g0 := keep_below bb (lt_of_block g0) g0
                replace g1 := keep_below bb (lt_of_block g1) g1
                replace g2 := keep_below bb (lt_of_block g2) g2
                replace hb := hb.trans (bb.mono hb.size)
                have ho := HO.out.at_ hb
                have ho5 : WlOk wc wc.heap.size p A5 c5 := ⟨Nat.le_refl _, fun j hj => ((o5 j hj).below b6 (o5 j hj).lt').text⟩
                clear bb b5 b6 o5 hs hs6 HE
                go_upto_region 15 with (first | (refine wpList_valg rfl (run_op_load_v rfl RTWl rfl g1) ?_) | (refine wpList_valg rfl (run_op_load_v rfl RTWl rfl g3) ?_) | (go_at_call 32; (with_reducible refine (SameWelcome_self ho ho5 HL.out).mono ?_); rintro e wd ⟨rfl, b7⟩))
                replace g0 := keep_below b7 (lt_of_block g0) g0
                replace g1 := keep_below b7 (lt_of_block g1) g1
                replace g2 := keep_below b7 (lt_of_block g2) g2
                replace hb := hb.trans (b7.mono hb.size)
                clear b7 ho ho5 g3
                by_cases hm : MayF ep fr ge n
                · obtain ⟨a, rfl⟩ : ∃ a : Nat, ep = a := ⟨ep.toNat, by omega⟩
                  obtain ⟨b, rfl⟩ : ∃ b : Nat, fr = b := ⟨fr.toNat, by unfold MayF at hm; omega⟩
                  obtain ⟨d, rfl⟩ : ∃ d : Nat, ge = d := ⟨ge.toNat, by omega⟩
                  obtain rfl : m.length = n := T.out.len
                  obtain ⟨p, hp⟩ : ∃ p : PFr, p = ⟨a, b, d, m⟩ := ⟨_, rfl⟩
                  replace g2 : _ = some (Obj.cells (arrV 4 (frF ⟨a, b, d, m⟩ A k)) 27 (0, 0)) := g2
                  replace T : Hid (Txt w w.heap.size A (⟨a, b, d, m⟩ : PFr).box.length k (⟨a, b, d, m⟩ : PFr).box) := T
                  replace L : Hid (∀ x ∈ (⟨a, b, d, m⟩ : PFr).box, x < 256) := L
                  replace hm : MayF (⟨a, b, d, m⟩ : PFr).ep (⟨a, b, d, m⟩ : PFr).frm (⟨a, b, d, m⟩ : PFr).gen (⟨a, b, d, m⟩ : PFr).box.length := hm
                  have HE := fr_back hm s4
                  rw [← hp] at g2 T L hm
                  have hbl : p.box.length ≤ 2000 := by rw [hp]; exact s4
                  have HE : Hid (frV (headL p.ep p.frm p.gen ++ p.box) = (p, 0)) := Lib.hid (by rw [hp]; exact HE)
                  clear hp
                  have HM := Lib.hid hm
                  clear hm
                  have ht := (T.out.below hb).more hb.size
                  go_upto_region 16 with (first | (refine wpList_load_all rfl rfl RTFr rfl g2 ?_) | (go_at_call 12; (with_reducible refine (WriteFrameY HM.out ht).mono ?_); rintro e wa ⟨A4, n4, c4, rfl, o4, b4⟩))
                  replace g0 := keep_below b4 (lt_of_block g0) g0
                  replace g1 := keep_below b4 (lt_of_block g1) g1
                  replace g2 := keep_below b4 (lt_of_block g2) g2
                  replace hb := hb.trans (b4.mono hb.size)
                  have q4 := o4.text.len
                  rw [List.length_append, headL_len] at q4
                  have hs := o4.src (by omega) (fun x hx => by
                    rcases List.mem_append.1 hx with h | h
                    · exact headL_lt _ _ _ x h
                    · exact L.out x h)
                  have t4 := o4.text
                  have k4 := o4.cap
                  clear ht b4 o4
                  go_upto_region 18 with (first | (go_at_call 30; (with_reducible refine (ReadFrameE hs HE.out).mono ?_); rintro e wb ⟨A5, c5, rfl, o5, b5⟩) | (refine wpList_newV rfl rfl rfl rfl ZVFr RTFr rfl rfl (fun _ _ => frF_one _ _ _ _) ?_; intro wc g3 b6 hs6))
                  have bb := b5.trans (b6.mono b5.size)
                  replace g0 := keep_below bb (lt_of_block g0) g0
                  replace g1 := keep_below bb (lt_of_block g1) g1
                  replace g2 := keep_below bb (lt_of_block g2) g2
                  replace hb := hb.trans (bb.mono hb.size)
                  replace t4 := (t4.below bb).more bb.size
                  have t5 := (o5.below b6 o5.lt').text
                  clear bb b5 b6 o5 hs hs6 HE
                  go_upto_region 19 with (first | (refine wpList_load_all rfl rfl RTFr rfl g2 ?_) | (go_at_call 14; (with_reducible refine (FrameHeadY HM.out).mono ?_); rintro e wd ⟨A6, n6, c6, rfl, o6, b7⟩))
                  replace g0 := keep_below b7 (lt_of_block g0) g0
                  replace g1 := keep_below b7 (lt_of_block g1) g1
                  replace g2 := keep_below b7 (lt_of_block g2) g2
                  replace hb := hb.trans (b7.mono hb.size)
                  replace g3 := keep_below b7 (lt_of_block g3) g3
                  replace t4 := (t4.below b7).more b7.size
                  replace t5 := (t5.below b7).more b7.size
                  have t6 := o6.text
                  have q6 := t6.len
                  rw [headL_len] at q6
                  clear b7 o6
                  subst q6
                  subst q4
                  have hl2 := lt_of_block g2
                  have hl3 := lt_of_block g3
                  have t7 := ((T.out.below hb).more hb.size)
                  have HT4 := Lib.hid t4
                  have HT6 := Lib.hid t6
                  have HL4 := Lib.hid (show (headL p.ep p.frm p.gen ++ p.box).take 21 = headL p.ep p.frm p.gen from List.take_left' (headL_len _ _ _))
                  have HL5 := Lib.hid (show (headL p.ep p.frm p.gen ++ p.box).drop 21 = p.box from List.drop_left' (headL_len _ _ _))
                  have HTa := Lib.hid (t4.take k4 (show 21 ≤ 21 + p.box.length by omega))
                  have HTb := Lib.hid (t4.from k4 (show 21 ≤ 21 + p.box.length by omega))
                  rw [HL4.out] at HTa
                  rw [HL5.out, Nat.add_sub_cancel_left] at HTb
                  clear t4 t6
                  (try simp only [Act.put, List.setIfInBounds_toArray, List.set_cons_zero, List.set_cons_succ])
                  refine wp_region_can wd.heap.size 37 [(0, false), (1, false), (2, false), (3, false), (4, false), (5, false), (6, false), (7, false), (8, false), (9, true), (10, false), (11, false), (12, false), (13, false), (14, false), (15, false), (16, false), (17, false), (18, false), (19, false), (20, false), (21, false), (22, false), (23, false), (24, false), (25, true), (26, false), (27, false), (28, false), (29, false), (30, false), (31, false), (32, false), (33, false), (34, false), (35, true), (36, false)] (by kernel_rfl) (by kernel_rfl) ?_
                  (simp only [canOps, List.getElem?_cons_zero, List.getElem?_cons_succ, List.drop_succ_cons, List.drop_zero])
                  iterate 5 (first | (refine wpCan_move rfl rfl (fun _ _ _ _ h => h) ?_; (simp only [Act.put, Act.eval, Array.getD_eq_getD_getElem?, List.getElem?_toArray, List.getElem?_cons_zero, List.getElem?_cons_succ, Option.getD_some, List.setIfInBounds_toArray, List.set_cons_zero, List.set_cons_succ])) | (refine wpCan_assign rfl rfl (fun _ _ _ _ h => h) ?_; (simp only [Act.put, Act.eval, Array.getD_eq_getD_getElem?, List.getElem?_toArray, List.getElem?_cons_zero, List.getElem?_cons_succ, Option.getD_some, List.setIfInBounds_toArray, List.set_cons_zero, List.set_cons_succ])) | (refine wpCan_nilCheck rfl rfl rfl (fun _ _ _ _ h => h) ?_; (simp only [Act.put, List.setIfInBounds_toArray, List.set_cons_zero, List.set_cons_succ])) | (refine wpCan_q rfl rfl (fun _ _ _ _ h => h) (by first | exact .bin rfl rfl rfl | exact .indexAddr rfl | exact .un rfl | exact .extract rfl | exact .index rfl | exact .field rfl | exact .slice rfl) (fun K hK => ?_); go_simp; (try (simp only [↓IntWalk.iteOmega]; go_simp)); (try go_bits); refine hK _ ?_; clear hK K))
                  refine wpCan_pick rfl rfl rfl (fun _ _ _ _ h => h) ?_
                  simp only [Bool.false_eq_true, if_false]
                  (try simp only [Act.put, List.setIfInBounds_toArray, List.set_cons_zero, List.set_cons_succ])
                  iterate 1 (first | (refine wpCan_move rfl rfl (fun _ _ _ _ h => h) ?_; (simp only [Act.put, Act.eval, Array.getD_eq_getD_getElem?, List.getElem?_toArray, List.getElem?_cons_zero, List.getElem?_cons_succ, Option.getD_some, List.setIfInBounds_toArray, List.set_cons_zero, List.set_cons_succ])) | (refine wpCan_assign rfl rfl (fun _ _ _ _ h => h) ?_; (simp only [Act.put, Act.eval, Array.getD_eq_getD_getElem?, List.getElem?_toArray, List.getElem?_cons_zero, List.getElem?_cons_succ, Option.getD_some, List.setIfInBounds_toArray, List.set_cons_zero, List.set_cons_succ])) | (refine wpCan_nilCheck rfl rfl rfl (fun _ _ _ _ h => h) ?_; (simp only [Act.put, List.setIfInBounds_toArray, List.set_cons_zero, List.set_cons_succ])) | (refine wpCan_q rfl rfl (fun _ _ _ _ h => h) (by first | exact .bin rfl rfl rfl | exact .indexAddr rfl | exact .un rfl | exact .extract rfl | exact .index rfl | exact .field rfl | exact .slice rfl) (fun K hK => ?_); go_simp; (try (simp only [↓IntWalk.iteOmega]; go_simp)); (try go_bits); refine hK _ ?_; clear hK K))
                  refine wpCan_v rfl (fun _ _ _ _ h => h) (.load rfl rfl hl2 g2) (run_op_load_v rfl RTFr rfl g2) ?_
                  (try simp only [Act.put, List.setIfInBounds_toArray, List.set_cons_zero, List.set_cons_succ])
                  refine wpCan_v rfl (fun _ _ _ _ h => h) (.load rfl rfl hl3 g3) (run_op_load_v rfl RTFr rfl g3) ?_
                  (try simp only [Act.put, List.setIfInBounds_toArray, List.set_cons_zero, List.set_cons_succ])
                  refine wpCan_e rfl (fun K hK => ?_)
                  go_simp
                  refine (SameFrameY (w := wd.drew) t7.drew t5.drew L.out).mono ?_
                  rintro e we ⟨rfl, b8⟩
                  refine hK _ _ (Keep.of_below b8 (Nat.le_refl _)) ?_
                  clear hK K
                  have hb8 := hb.trans (((Below.refl wd.heap.size wd).drew.trans b8).mono hb.size)
                  have c3 : we.cell? ⟨w.heap.size + 1 + 1, 3, none⟩ = some (.slice A p.box.length k) := cell_arrV (keep_below b8 hl2 (show wd.drew.heap[_]? = _ from g2)) 3 (by omega)
                  have g2e := keep_below b8 hl2 (show wd.drew.heap[w.heap.size + 1 + 1]? = _ from g2)
                  have HTc := Lib.hid ((HTa.out.drew.below b8))
                  have HTd := Lib.hid ((HTb.out.drew.below b8))
                  have HTe := Lib.hid ((HT6.out.drew.below b8))
                  have HTf := Lib.hid ((t7.drew.below b8))
                  (try simp only [Act.put, List.setIfInBounds_toArray, List.set_cons_zero, List.set_cons_succ])
                  iterate 1 (first | (refine wpCan_move rfl rfl (fun _ _ _ _ h => h) ?_; (simp only [Act.put, Act.eval, Array.getD_eq_getD_getElem?, List.getElem?_toArray, List.getElem?_cons_zero, List.getElem?_cons_succ, Option.getD_some, List.setIfInBounds_toArray, List.set_cons_zero, List.set_cons_succ])) | (refine wpCan_assign rfl rfl (fun _ _ _ _ h => h) ?_; (simp only [Act.put, Act.eval, Array.getD_eq_getD_getElem?, List.getElem?_toArray, List.getElem?_cons_zero, List.getElem?_cons_succ, Option.getD_some, List.setIfInBounds_toArray, List.set_cons_zero, List.set_cons_succ])) | (refine wpCan_nilCheck rfl rfl rfl (fun _ _ _ _ h => h) ?_; (simp only [Act.put, List.setIfInBounds_toArray, List.set_cons_zero, List.set_cons_succ])) | (refine wpCan_q rfl rfl (fun _ _ _ _ h => h) (by first | exact .bin rfl rfl rfl | exact .indexAddr rfl | exact .un rfl | exact .extract rfl | exact .index rfl | exact .field rfl | exact .slice rfl) (fun K hK => ?_); go_simp; (try (simp only [↓IntWalk.iteOmega]; go_simp)); (try go_bits); refine hK _ ?_; clear hK K))
                  refine wpCan_pick rfl rfl rfl (fun _ _ _ _ h => h) ?_
                  simp only [Bool.false_eq_true, if_false]
                  (try simp only [Act.put, List.setIfInBounds_toArray, List.set_cons_zero, List.set_cons_succ])
                  iterate 2 (first | (refine wpCan_move rfl rfl (fun _ _ _ _ h => h) ?_; (simp only [Act.put, Act.eval, Array.getD_eq_getD_getElem?, List.getElem?_toArray, List.getElem?_cons_zero, List.getElem?_cons_succ, Option.getD_some, List.setIfInBounds_toArray, List.set_cons_zero, List.set_cons_succ])) | (refine wpCan_assign rfl rfl (fun _ _ _ _ h => h) ?_; (simp only [Act.put, Act.eval, Array.getD_eq_getD_getElem?, List.getElem?_toArray, List.getElem?_cons_zero, List.getElem?_cons_succ, Option.getD_some, List.setIfInBounds_toArray, List.set_cons_zero, List.set_cons_succ])) | (refine wpCan_nilCheck rfl rfl rfl (fun _ _ _ _ h => h) ?_; (simp only [Act.put, List.setIfInBounds_toArray, List.set_cons_zero, List.set_cons_succ])) | (refine wpCan_q rfl rfl (fun _ _ _ _ h => h) (by first | exact .bin rfl rfl rfl | exact .indexAddr rfl | exact .un rfl | exact .extract rfl | exact .index rfl | exact .field rfl | exact .slice rfl) (fun K hK => ?_); go_simp; (try (simp only [↓IntWalk.iteOmega]; go_simp)); (try go_bits); refine hK _ ?_; clear hK K))
                  refine wpCan_len rfl rfl rfl Try.underlying22 (fun _ _ _ _ h => h) ?_
                  (try simp only [Act.put, List.setIfInBounds_toArray, List.set_cons_zero, List.set_cons_succ])
                  iterate 1 (first | (refine wpCan_move rfl rfl (fun _ _ _ _ h => h) ?_; (simp only [Act.put, Act.eval, Array.getD_eq_getD_getElem?, List.getElem?_toArray, List.getElem?_cons_zero, List.getElem?_cons_succ, Option.getD_some, List.setIfInBounds_toArray, List.set_cons_zero, List.set_cons_succ])) | (refine wpCan_assign rfl rfl (fun _ _ _ _ h => h) ?_; (simp only [Act.put, Act.eval, Array.getD_eq_getD_getElem?, List.getElem?_toArray, List.getElem?_cons_zero, List.getElem?_cons_succ, Option.getD_some, List.setIfInBounds_toArray, List.set_cons_zero, List.set_cons_succ])) | (refine wpCan_nilCheck rfl rfl rfl (fun _ _ _ _ h => h) ?_; (simp only [Act.put, List.setIfInBounds_toArray, List.set_cons_zero, List.set_cons_succ])) | (refine wpCan_q rfl rfl (fun _ _ _ _ h => h) (by first | exact .bin rfl rfl rfl | exact .indexAddr rfl | exact .un rfl | exact .extract rfl | exact .index rfl | exact .field rfl | exact .slice rfl) (fun K hK => ?_); go_simp; (try (simp only [↓IntWalk.iteOmega]; go_simp)); (try go_bits); refine hK _ ?_; clear hK K))
                  refine wpCan_len rfl rfl rfl Try.underlying22 (fun _ _ _ _ h => h) ?_
                  (try simp only [Act.put, List.setIfInBounds_toArray, List.set_cons_zero, List.set_cons_succ])
                  iterate 1 (first | (refine wpCan_move rfl rfl (fun _ _ _ _ h => h) ?_; (simp only [Act.put, Act.eval, Array.getD_eq_getD_getElem?, List.getElem?_toArray, List.getElem?_cons_zero, List.getElem?_cons_succ, Option.getD_some, List.setIfInBounds_toArray, List.set_cons_zero, List.set_cons_succ])) | (refine wpCan_assign rfl rfl (fun _ _ _ _ h => h) ?_; (simp only [Act.put, Act.eval, Array.getD_eq_getD_getElem?, List.getElem?_toArray, List.getElem?_cons_zero, List.getElem?_cons_succ, Option.getD_some, List.setIfInBounds_toArray, List.set_cons_zero, List.set_cons_succ])) | (refine wpCan_nilCheck rfl rfl rfl (fun _ _ _ _ h => h) ?_; (simp only [Act.put, List.setIfInBounds_toArray, List.set_cons_zero, List.set_cons_succ])) | (refine wpCan_q rfl rfl (fun _ _ _ _ h => h) (by first | exact .bin rfl rfl rfl | exact .indexAddr rfl | exact .un rfl | exact .extract rfl | exact .index rfl | exact .field rfl | exact .slice rfl) (fun K hK => ?_); go_simp; (try (simp only [↓IntWalk.iteOmega]; go_simp)); (try go_bits); refine hK _ ?_; clear hK K))
                  first | rw [show decide (((21 + p.box.length : Nat) : Int) < ((21 : Nat) : Int)) = false from decide_eq_false (by omega)] | rw [show decide ((21 + (p.box.length : Int)) < 21) = false from decide_eq_false (by omega)] | rw [show decide (((21 + p.box.length : Nat) : Int) < 21) = false from decide_eq_false (by omega)] | rw [show decide ((21 + (p.box.length : Int)) < ((21 : Nat) : Int)) = false from decide_eq_false (by omega)]
                  refine wpCan_pick rfl rfl rfl (fun _ _ _ _ h => h) ?_
                  simp only [Bool.false_eq_true, if_false]
                  (try simp only [Act.put, List.setIfInBounds_toArray, List.set_cons_zero, List.set_cons_succ])
                  iterate 3 (first | (refine wpCan_move rfl rfl (fun _ _ _ _ h => h) ?_; (simp only [Act.put, Act.eval, Array.getD_eq_getD_getElem?, List.getElem?_toArray, List.getElem?_cons_zero, List.getElem?_cons_succ, Option.getD_some, List.setIfInBounds_toArray, List.set_cons_zero, List.set_cons_succ])) | (refine wpCan_assign rfl rfl (fun _ _ _ _ h => h) ?_; (simp only [Act.put, Act.eval, Array.getD_eq_getD_getElem?, List.getElem?_toArray, List.getElem?_cons_zero, List.getElem?_cons_succ, Option.getD_some, List.setIfInBounds_toArray, List.set_cons_zero, List.set_cons_succ])) | (refine wpCan_nilCheck rfl rfl rfl (fun _ _ _ _ h => h) ?_; (simp only [Act.put, List.setIfInBounds_toArray, List.set_cons_zero, List.set_cons_succ])) | (refine wpCan_q rfl rfl (fun _ _ _ _ h => h) (by first | exact .bin rfl rfl rfl | exact .indexAddr rfl | exact .un rfl | exact .extract rfl | exact .index rfl | exact .field rfl | exact .slice rfl) (fun K hK => ?_); go_simp; (try (simp only [↓IntWalk.iteOmega]; go_simp)); (try go_bits); refine hK _ ?_; clear hK K))
                  refine wpCan_len rfl rfl rfl Try.underlying22 (fun _ _ _ _ h => h) ?_
                  (try simp only [Act.put, List.setIfInBounds_toArray, List.set_cons_zero, List.set_cons_succ])
                  refine wpCan_v rfl (fun _ _ _ _ h => h) (.slice rfl) (run_op_cut_h (hi := 21) BT rfl rfl rfl (by omega)) ?_
                  (try simp only [Act.put, List.setIfInBounds_toArray, List.set_cons_zero, List.set_cons_succ])
                  iterate 1 (first | (refine wpCan_move rfl rfl (fun _ _ _ _ h => h) ?_; (simp only [Act.put, Act.eval, Array.getD_eq_getD_getElem?, List.getElem?_toArray, List.getElem?_cons_zero, List.getElem?_cons_succ, Option.getD_some, List.setIfInBounds_toArray, List.set_cons_zero, List.set_cons_succ])) | (refine wpCan_assign rfl rfl (fun _ _ _ _ h => h) ?_; (simp only [Act.put, Act.eval, Array.getD_eq_getD_getElem?, List.getElem?_toArray, List.getElem?_cons_zero, List.getElem?_cons_succ, Option.getD_some, List.setIfInBounds_toArray, List.set_cons_zero, List.set_cons_succ])) | (refine wpCan_nilCheck rfl rfl rfl (fun _ _ _ _ h => h) ?_; (simp only [Act.put, List.setIfInBounds_toArray, List.set_cons_zero, List.set_cons_succ])) | (refine wpCan_q rfl rfl (fun _ _ _ _ h => h) (by first | exact .bin rfl rfl rfl | exact .indexAddr rfl | exact .un rfl | exact .extract rfl | exact .index rfl | exact .field rfl | exact .slice rfl) (fun K hK => ?_); go_simp; (try (simp only [↓IntWalk.iteOmega]; go_simp)); (try go_bits); refine hK _ ?_; clear hK K))
                  refine wpCan_e rfl (fun K hK => ?_)
                  go_simp
                  refine (Same_txts HTc.out HTe.out (headL_lt _ _ _)).mono ?_
                  rintro e wf ⟨rfl, rfl⟩
                  refine hK _ _ (Keep.refl _ _) ?_
                  clear hK K
                  (try simp only [Act.put, List.setIfInBounds_toArray, List.set_cons_zero, List.set_cons_succ])
                  iterate 1 (first | (refine wpCan_move rfl rfl (fun _ _ _ _ h => h) ?_; (simp only [Act.put, Act.eval, Array.getD_eq_getD_getElem?, List.getElem?_toArray, List.getElem?_cons_zero, List.getElem?_cons_succ, Option.getD_some, List.setIfInBounds_toArray, List.set_cons_zero, List.set_cons_succ])) | (refine wpCan_assign rfl rfl (fun _ _ _ _ h => h) ?_; (simp only [Act.put, Act.eval, Array.getD_eq_getD_getElem?, List.getElem?_toArray, List.getElem?_cons_zero, List.getElem?_cons_succ, Option.getD_some, List.setIfInBounds_toArray, List.set_cons_zero, List.set_cons_succ])) | (refine wpCan_nilCheck rfl rfl rfl (fun _ _ _ _ h => h) ?_; (simp only [Act.put, List.setIfInBounds_toArray, List.set_cons_zero, List.set_cons_succ])) | (refine wpCan_q rfl rfl (fun _ _ _ _ h => h) (by first | exact .bin rfl rfl rfl | exact .indexAddr rfl | exact .un rfl | exact .extract rfl | exact .index rfl | exact .field rfl | exact .slice rfl) (fun K hK => ?_); go_simp; (try (simp only [↓IntWalk.iteOmega]; go_simp)); (try go_bits); refine hK _ ?_; clear hK K))
                  refine wpCan_pick rfl rfl rfl (fun _ _ _ _ h => h) ?_
                  simp only [Bool.false_eq_true, if_false]
                  (try simp only [Act.put, List.setIfInBounds_toArray, List.set_cons_zero, List.set_cons_succ])
                  iterate 3 (first | (refine wpCan_move rfl rfl (fun _ _ _ _ h => h) ?_; (simp only [Act.put, Act.eval, Array.getD_eq_getD_getElem?, List.getElem?_toArray, List.getElem?_cons_zero, List.getElem?_cons_succ, Option.getD_some, List.setIfInBounds_toArray, List.set_cons_zero, List.set_cons_succ])) | (refine wpCan_assign rfl rfl (fun _ _ _ _ h => h) ?_; (simp only [Act.put, Act.eval, Array.getD_eq_getD_getElem?, List.getElem?_toArray, List.getElem?_cons_zero, List.getElem?_cons_succ, Option.getD_some, List.setIfInBounds_toArray, List.set_cons_zero, List.set_cons_succ])) | (refine wpCan_nilCheck rfl rfl rfl (fun _ _ _ _ h => h) ?_; (simp only [Act.put, List.setIfInBounds_toArray, List.set_cons_zero, List.set_cons_succ])) | (refine wpCan_q rfl rfl (fun _ _ _ _ h => h) (by first | exact .bin rfl rfl rfl | exact .indexAddr rfl | exact .un rfl | exact .extract rfl | exact .index rfl | exact .field rfl | exact .slice rfl) (fun K hK => ?_); go_simp; (try (simp only [↓IntWalk.iteOmega]; go_simp)); (try go_bits); refine hK _ ?_; clear hK K))
                  refine wpCan_len rfl rfl rfl Try.underlying22 (fun _ _ _ _ h => h) ?_
                  (try simp only [Act.put, List.setIfInBounds_toArray, List.set_cons_zero, List.set_cons_succ])
                  refine wpCan_v rfl (fun _ _ _ _ h => h) (.slice rfl) (run_op_cut_l (lo := 21) BT rfl rfl rfl (by omega)) ?_
                  (try simp only [Act.put, List.setIfInBounds_toArray, List.set_cons_zero, List.set_cons_succ])
                  iterate 1 (first | (refine wpCan_move rfl rfl (fun _ _ _ _ h => h) ?_; (simp only [Act.put, Act.eval, Array.getD_eq_getD_getElem?, List.getElem?_toArray, List.getElem?_cons_zero, List.getElem?_cons_succ, Option.getD_some, List.setIfInBounds_toArray, List.set_cons_zero, List.set_cons_succ])) | (refine wpCan_assign rfl rfl (fun _ _ _ _ h => h) ?_; (simp only [Act.put, Act.eval, Array.getD_eq_getD_getElem?, List.getElem?_toArray, List.getElem?_cons_zero, List.getElem?_cons_succ, Option.getD_some, List.setIfInBounds_toArray, List.set_cons_zero, List.set_cons_succ])) | (refine wpCan_nilCheck rfl rfl rfl (fun _ _ _ _ h => h) ?_; (simp only [Act.put, List.setIfInBounds_toArray, List.set_cons_zero, List.set_cons_succ])) | (refine wpCan_q rfl rfl (fun _ _ _ _ h => h) (by first | exact .bin rfl rfl rfl | exact .indexAddr rfl | exact .un rfl | exact .extract rfl | exact .index rfl | exact .field rfl | exact .slice rfl | exact .fieldT rfl FTFr3) (fun K hK => ?_); go_simp; (try (simp only [↓IntWalk.iteOmega]; go_simp)); (try go_bits); refine hK _ ?_; clear hK K))
                  refine wpCan_q rfl rfl (fun _ _ _ _ h => h) (.load rfl rfl hl2 g2e) (fun K hK => ?_)
                  go_simp
                  refine hK _ ?_
                  clear hK K
                  (try simp only [Act.put, List.setIfInBounds_toArray, List.set_cons_zero, List.set_cons_succ])
                  refine wpCan_e rfl (fun K hK => ?_)
                  go_simp
                  refine (Same_txts HTd.out HTf.out L.out).mono ?_
                  rintro e wg ⟨rfl, rfl⟩
                  refine hK _ _ (Keep.refl _ _) ?_
                  clear hK K
                  (try simp only [Act.put, List.setIfInBounds_toArray, List.set_cons_zero, List.set_cons_succ])
                  iterate 1 (first | (refine wpCan_move rfl rfl (fun _ _ _ _ h => h) ?_; (simp only [Act.put, Act.eval, Array.getD_eq_getD_getElem?, List.getElem?_toArray, List.getElem?_cons_zero, List.getElem?_cons_succ, Option.getD_some, List.setIfInBounds_toArray, List.set_cons_zero, List.set_cons_succ])) | (refine wpCan_assign rfl rfl (fun _ _ _ _ h => h) ?_; (simp only [Act.put, Act.eval, Array.getD_eq_getD_getElem?, List.getElem?_toArray, List.getElem?_cons_zero, List.getElem?_cons_succ, Option.getD_some, List.setIfInBounds_toArray, List.set_cons_zero, List.set_cons_succ])) | (refine wpCan_nilCheck rfl rfl rfl (fun _ _ _ _ h => h) ?_; (simp only [Act.put, List.setIfInBounds_toArray, List.set_cons_zero, List.set_cons_succ])) | (refine wpCan_q rfl rfl (fun _ _ _ _ h => h) (by first | exact .bin rfl rfl rfl | exact .indexAddr rfl | exact .un rfl | exact .extract rfl | exact .index rfl | exact .field rfl | exact .slice rfl) (fun K hK => ?_); go_simp; (try (simp only [↓IntWalk.iteOmega]; go_simp)); (try go_bits); refine hK _ ?_; clear hK K))
                  refine wpCan_nil ?_
                  go_wp2
                  go_ret
                  exact ⟨rfl, hb8⟩
                · go_upto_region 16 with (first | (refine wpList_load_all rfl rfl RTFr rfl g2 ?_) | (go_at_call 12; (with_reducible refine (WriteFrameN ep fr ge A n k hm _).mono ?_); rintro e wa ⟨rfl, b4⟩))
                  replace hb := hb.trans (b4.mono hb.size)
                  go_wp2
                  go_ret
                  exact ⟨rfl, hb⟩
              · go_upto_region 11 with (first | (refine wpList_load_all rfl rfl RTWl rfl g1 ?_) | (go_at_call 10; (with_reducible refine (WriteWelcomeN tw A1 n1 k1 A2 n2 k2 A3 n3 k3 hm _).mono ?_); rintro e wa ⟨rfl, b4⟩))
                replace g0 := keep_below b4 (lt_of_block g0) g0
                replace g1 := keep_below b4 (lt_of_block g1) g1
                replace g2 := keep_below b4 (lt_of_block g2) g2
                replace hb := hb.trans (b4.mono hb.size)
                clear b4
                go_upto_region 15 with (fail)
                by_cases hm : MayF ep fr ge n
                · obtain ⟨a, rfl⟩ : ∃ a : Nat, ep = a := ⟨ep.toNat, by omega⟩
                  obtain ⟨b, rfl⟩ : ∃ b : Nat, fr = b := ⟨fr.toNat, by unfold MayF at hm; omega⟩
                  obtain ⟨d, rfl⟩ : ∃ d : Nat, ge = d := ⟨ge.toNat, by omega⟩
                  obtain rfl : m.length = n := T.out.len
                  obtain ⟨p, hp⟩ : ∃ p : PFr, p = ⟨a, b, d, m⟩ := ⟨_, rfl⟩
                  replace g2 : _ = some (Obj.cells (arrV 4 (frF ⟨a, b, d, m⟩ A k)) 27 (0, 0)) := g2
                  replace T : Hid (Txt w w.heap.size A (⟨a, b, d, m⟩ : PFr).box.length k (⟨a, b, d, m⟩ : PFr).box) := T
                  replace L : Hid (∀ x ∈ (⟨a, b, d, m⟩ : PFr).box, x < 256) := L
                  replace hm : MayF (⟨a, b, d, m⟩ : PFr).ep (⟨a, b, d, m⟩ : PFr).frm (⟨a, b, d, m⟩ : PFr).gen (⟨a, b, d, m⟩ : PFr).box.length := hm
                  have HE := fr_back hm s4
                  rw [← hp] at g2 T L hm
                  have hbl : p.box.length ≤ 2000 := by rw [hp]; exact s4
                  have HE : Hid (frV (headL p.ep p.frm p.gen ++ p.box) = (p, 0)) := Lib.hid (by rw [hp]; exact HE)
                  clear hp
                  have HM := Lib.hid hm
                  clear hm
                  have ht := (T.out.below hb).more hb.size
                  go_upto_region 16 with (first | (refine wpList_load_all rfl rfl RTFr rfl g2 ?_) | (go_at_call 12; (with_reducible refine (WriteFrameY HM.out ht).mono ?_); rintro e wa ⟨A4, n4, c4, rfl, o4, b4⟩))
                  replace g0 := keep_below b4 (lt_of_block g0) g0
                  replace g1 := keep_below b4 (lt_of_block g1) g1
                  replace g2 := keep_below b4 (lt_of_block g2) g2
                  replace hb := hb.trans (b4.mono hb.size)
                  have q4 := o4.text.len
                  rw [List.length_append, headL_len] at q4
                  have hs := o4.src (by omega) (fun x hx => by
                    rcases List.mem_append.1 hx with h | h
                    · exact headL_lt _ _ _ x h
                    · exact L.out x h)
                  have t4 := o4.text
                  have k4 := o4.cap
                  clear ht b4 o4
                  go_upto_region 18 with (first | (go_at_call 30; (with_reducible refine (ReadFrameE hs HE.out).mono ?_); rintro e wb ⟨A5, c5, rfl, o5, b5⟩) | (refine wpList_newV rfl rfl rfl rfl ZVFr RTFr rfl rfl (fun _ _ => frF_one _ _ _ _) ?_; intro wc g3 b6 hs6))
                  have bb := b5.trans (b6.mono b5.size)
                  replace g0 := keep_below bb (lt_of_block g0) g0
                  replace g1 := keep_below bb (lt_of_block g1) g1
                  replace g2 := keep_below bb (lt_of_block g2) g2
                  replace hb := hb.trans (bb.mono hb.size)
                  replace t4 := (t4.below bb).more bb.size
                  have t5 := (o5.below b6 o5.lt').text
                  clear bb b5 b6 o5 hs hs6 HE
                  go_upto_region 19 with (first | (refine wpList_load_all rfl rfl RTFr rfl g2 ?_) | (go_at_call 14; (with_reducible refine (FrameHeadY HM.out).mono ?_); rintro e wd ⟨A6, n6, c6, rfl, o6, b7⟩))
                  replace g0 := keep_below b7 (lt_of_block g0) g0
                  replace g1 := keep_below b7 (lt_of_block g1) g1
                  replace g2 := keep_below b7 (lt_of_block g2) g2
                  replace hb := hb.trans (b7.mono hb.size)
                  replace g3 := keep_below b7 (lt_of_block g3) g3
                  replace t4 := (t4.below b7).more b7.size
                  replace t5 := (t5.below b7).more b7.size
                  have t6 := o6.text
                  have q6 := t6.len
                  rw [headL_len] at q6
                  clear b7 o6
                  subst q6
                  subst q4
                  have hl2 := lt_of_block g2
                  have hl3 := lt_of_block g3
                  have t7 := ((T.out.below hb).more hb.size)
                  have HT4 := Lib.hid t4
                  have HT6 := Lib.hid t6
                  have HL4 := Lib.hid (show (headL p.ep p.frm p.gen ++ p.box).take 21 = headL p.ep p.frm p.gen from List.take_left' (headL_len _ _ _))
                  have HL5 := Lib.hid (show (headL p.ep p.frm p.gen ++ p.box).drop 21 = p.box from List.drop_left' (headL_len _ _ _))
                  have HTa := Lib.hid (t4.take k4 (show 21 ≤ 21 + p.box.length by omega))
                  have HTb := Lib.hid (t4.from k4 (show 21 ≤ 21 + p.box.length by omega))
                  rw [HL4.out] at HTa
                  rw [HL5.out, Nat.add_sub_cancel_left] at HTb
                  clear t4 t6
                  (try simp only [Act.put, List.setIfInBounds_toArray, List.set_cons_zero, List.set_cons_succ])
                  refine wp_region_can wd.heap.size 37 [(0, false), (1, false), (2, false), (3, false), (4, false), (5, false), (6, false), (7, false), (8, false), (9, true), (10, false), (11, false), (12, false), (13, false), (14, false), (15, false), (16, false), (17, false), (18, false), (19, false), (20, false), (21, false), (22, false), (23, false), (24, false), (25, true), (26, false), (27, false), (28, false), (29, false), (30, false), (31, false), (32, false), (33, false), (34, false), (35, true), (36, false)] (by kernel_rfl) (by kernel_rfl) ?_
                  (simp only [canOps, List.getElem?_cons_zero, List.getElem?_cons_succ, List.drop_succ_cons, List.drop_zero])
                  iterate 5 (first | (refine wpCan_move rfl rfl (fun _ _ _ _ h => h) ?_; (simp only [Act.put, Act.eval, Array.getD_eq_getD_getElem?, List.getElem?_toArray, List.getElem?_cons_zero, List.getElem?_cons_succ, Option.getD_some, List.setIfInBounds_toArray, List.set_cons_zero, List.set_cons_succ])) | (refine wpCan_assign rfl rfl (fun _ _ _ _ h => h) ?_; (simp only [Act.put, Act.eval, Array.getD_eq_getD_getElem?, List.getElem?_toArray, List.getElem?_cons_zero, List.getElem?_cons_succ, Option.getD_some, List.setIfInBounds_toArray, List.set_cons_zero, List.set_cons_succ])) | (refine wpCan_nilCheck rfl rfl rfl (fun _ _ _ _ h => h) ?_; (simp only [Act.put, List.setIfInBounds_toArray, List.set_cons_zero, List.set_cons_succ])) | (refine wpCan_q rfl rfl (fun _ _ _ _ h => h) (by first | exact .bin rfl rfl rfl | exact .indexAddr rfl | exact .un rfl | exact .extract rfl | exact .index rfl | exact .field rfl | exact .slice rfl) (fun K hK => ?_); go_simp; (try (simp only [↓IntWalk.iteOmega]; go_simp)); (try go_bits); refine hK _ ?_; clear hK K))
                  refine wpCan_pick rfl rfl rfl (fun _ _ _ _ h => h) ?_
                  simp only [Bool.false_eq_true, if_false]
                  (try simp only [Act.put, List.setIfInBounds_toArray, List.set_cons_zero, List.set_cons_succ])
                  iterate 1 (first | (refine wpCan_move rfl rfl (fun _ _ _ _ h => h) ?_; (simp only [Act.put, Act.eval, Array.getD_eq_getD_getElem?, List.getElem?_toArray, List.getElem?_cons_zero, List.getElem?_cons_succ, Option.getD_some, List.setIfInBounds_toArray, List.set_cons_zero, List.set_cons_succ])) | (refine wpCan_assign rfl rfl (fun _ _ _ _ h => h) ?_; (simp only [Act.put, Act.eval, Array.getD_eq_getD_getElem?, List.getElem?_toArray, List.getElem?_cons_zero, List.getElem?_cons_succ, Option.getD_some, List.setIfInBounds_toArray, List.set_cons_zero, List.set_cons_succ])) | (refine wpCan_nilCheck rfl rfl rfl (fun _ _ _ _ h => h) ?_; (simp only [Act.put, List.setIfInBounds_toArray, List.set_cons_zero, List.set_cons_succ])) | (refine wpCan_q rfl rfl (fun _ _ _ _ h => h) (by first | exact .bin rfl rfl rfl | exact .indexAddr rfl | exact .un rfl | exact .extract rfl | exact .index rfl | exact .field rfl | exact .slice rfl) (fun K hK => ?_); go_simp; (try (simp only [↓IntWalk.iteOmega]; go_simp)); (try go_bits); refine hK _ ?_; clear hK K))
                  refine wpCan_v rfl (fun _ _ _ _ h => h) (.load rfl rfl hl2 g2) (run_op_load_v rfl RTFr rfl g2) ?_
                  (try simp only [Act.put, List.setIfInBounds_toArray, List.set_cons_zero, List.set_cons_succ])
                  refine wpCan_v rfl (fun _ _ _ _ h => h) (.load rfl rfl hl3 g3) (run_op_load_v rfl RTFr rfl g3) ?_
                  (try simp only [Act.put, List.setIfInBounds_toArray, List.set_cons_zero, List.set_cons_succ])
                  refine wpCan_e rfl (fun K hK => ?_)
                  go_simp
                  refine (SameFrameY (w := wd.drew) t7.drew t5.drew L.out).mono ?_
                  rintro e we ⟨rfl, b8⟩
                  refine hK _ _ (Keep.of_below b8 (Nat.le_refl _)) ?_
                  clear hK K
                  have hb8 := hb.trans (((Below.refl wd.heap.size wd).drew.trans b8).mono hb.size)
                  have c3 : we.cell? ⟨w.heap.size + 1 + 1, 3, none⟩ = some (.slice A p.box.length k) := cell_arrV (keep_below b8 hl2 (show wd.drew.heap[_]? = _ from g2)) 3 (by omega)
                  have g2e := keep_below b8 hl2 (show wd.drew.heap[w.heap.size + 1 + 1]? = _ from g2)
                  have HTc := Lib.hid ((HTa.out.drew.below b8))
                  have HTd := Lib.hid ((HTb.out.drew.below b8))
                  have HTe := Lib.hid ((HT6.out.drew.below b8))
                  have HTf := Lib.hid ((t7.drew.below b8))
                  (try simp only [Act.put, List.setIfInBounds_toArray, List.set_cons_zero, List.set_cons_succ])
                  iterate 1 (first | (refine wpCan_move rfl rfl (fun _ _ _ _ h => h) ?_; (simp only [Act.put, Act.eval, Array.getD_eq_getD_getElem?, List.getElem?_toArray, List.getElem?_cons_zero, List.getElem?_cons_succ, Option.getD_some, List.setIfInBounds_toArray, List.set_cons_zero, List.set_cons_succ])) | (refine wpCan_assign rfl rfl (fun _ _ _ _ h => h) ?_; (simp only [Act.put, Act.eval, Array.getD_eq_getD_getElem?, List.getElem?_toArray, List.getElem?_cons_zero, List.getElem?_cons_succ, Option.getD_some, List.setIfInBounds_toArray, List.set_cons_zero, List.set_cons_succ])) | (refine wpCan_nilCheck rfl rfl rfl (fun _ _ _ _ h => h) ?_; (simp only [Act.put, List.setIfInBounds_toArray, List.set_cons_zero, List.set_cons_succ])) | (refine wpCan_q rfl rfl (fun _ _ _ _ h => h) (by first | exact .bin rfl rfl rfl | exact .indexAddr rfl | exact .un rfl | exact .extract rfl | exact .index rfl | exact .field rfl | exact .slice rfl) (fun K hK => ?_); go_simp; (try (simp only [↓IntWalk.iteOmega]; go_simp)); (try go_bits); refine hK _ ?_; clear hK K))
                  refine wpCan_pick rfl rfl rfl (fun _ _ _ _ h => h) ?_
                  simp only [Bool.false_eq_true, if_false]
                  (try simp only [Act.put, List.setIfInBounds_toArray, List.set_cons_zero, List.set_cons_succ])
                  iterate 2 (first | (refine wpCan_move rfl rfl (fun _ _ _ _ h => h) ?_; (simp only [Act.put, Act.eval, Array.getD_eq_getD_getElem?, List.getElem?_toArray, List.getElem?_cons_zero, List.getElem?_cons_succ, Option.getD_some, List.setIfInBounds_toArray, List.set_cons_zero, List.set_cons_succ])) | (refine wpCan_assign rfl rfl (fun _ _ _ _ h => h) ?_; (simp only [Act.put, Act.eval, Array.getD_eq_getD_getElem?, List.getElem?_toArray, List.getElem?_cons_zero, List.getElem?_cons_succ, Option.getD_some, List.setIfInBounds_toArray, List.set_cons_zero, List.set_cons_succ])) | (refine wpCan_nilCheck rfl rfl rfl (fun _ _ _ _ h => h) ?_; (simp only [Act.put, List.setIfInBounds_toArray, List.set_cons_zero, List.set_cons_succ])) | (refine wpCan_q rfl rfl (fun _ _ _ _ h => h) (by first | exact .bin rfl rfl rfl | exact .indexAddr rfl | exact .un rfl | exact .extract rfl | exact .index rfl | exact .field rfl | exact .slice rfl) (fun K hK => ?_); go_simp; (try (simp only [↓IntWalk.iteOmega]; go_simp)); (try go_bits); refine hK _ ?_; clear hK K))
                  refine wpCan_len rfl rfl rfl Try.underlying22 (fun _ _ _ _ h => h) ?_
                  (try simp only [Act.put, List.setIfInBounds_toArray, List.set_cons_zero, List.set_cons_succ])
                  iterate 1 (first | (refine wpCan_move rfl rfl (fun _ _ _ _ h => h) ?_; (simp only [Act.put, Act.eval, Array.getD_eq_getD_getElem?, List.getElem?_toArray, List.getElem?_cons_zero, List.getElem?_cons_succ, Option.getD_some, List.setIfInBounds_toArray, List.set_cons_zero, List.set_cons_succ])) | (refine wpCan_assign rfl rfl (fun _ _ _ _ h => h) ?_; (simp only [Act.put, Act.eval, Array.getD_eq_getD_getElem?, List.getElem?_toArray, List.getElem?_cons_zero, List.getElem?_cons_succ, Option.getD_some, List.setIfInBounds_toArray, List.set_cons_zero, List.set_cons_succ])) | (refine wpCan_nilCheck rfl rfl rfl (fun _ _ _ _ h => h) ?_; (simp only [Act.put, List.setIfInBounds_toArray, List.set_cons_zero, List.set_cons_succ])) | (refine wpCan_q rfl rfl (fun _ _ _ _ h => h) (by first | exact .bin rfl rfl rfl | exact .indexAddr rfl | exact .un rfl | exact .extract rfl | exact .index rfl | exact .field rfl | exact .slice rfl) (fun K hK => ?_); go_simp; (try (simp only [↓IntWalk.iteOmega]; go_simp)); (try go_bits); refine hK _ ?_; clear hK K))
                  refine wpCan_len rfl rfl rfl Try.underlying22 (fun _ _ _ _ h => h) ?_
                  (try simp only [Act.put, List.setIfInBounds_toArray, List.set_cons_zero, List.set_cons_succ])
                  iterate 1 (first | (refine wpCan_move rfl rfl (fun _ _ _ _ h => h) ?_; (simp only [Act.put, Act.eval, Array.getD_eq_getD_getElem?, List.getElem?_toArray, List.getElem?_cons_zero, List.getElem?_cons_succ, Option.getD_some, List.setIfInBounds_toArray, List.set_cons_zero, List.set_cons_succ])) | (refine wpCan_assign rfl rfl (fun _ _ _ _ h => h) ?_; (simp only [Act.put, Act.eval, Array.getD_eq_getD_getElem?, List.getElem?_toArray, List.getElem?_cons_zero, List.getElem?_cons_succ, Option.getD_some, List.setIfInBounds_toArray, List.set_cons_zero, List.set_cons_succ])) | (refine wpCan_nilCheck rfl rfl rfl (fun _ _ _ _ h => h) ?_; (simp only [Act.put, List.setIfInBounds_toArray, List.set_cons_zero, List.set_cons_succ])) | (refine wpCan_q rfl rfl (fun _ _ _ _ h => h) (by first | exact .bin rfl rfl rfl | exact .indexAddr rfl | exact .un rfl | exact .extract rfl | exact .index rfl | exact .field rfl | exact .slice rfl) (fun K hK => ?_); go_simp; (try (simp only [↓IntWalk.iteOmega]; go_simp)); (try go_bits); refine hK _ ?_; clear hK K))
                  first | rw [show decide (((21 + p.box.length : Nat) : Int) < ((21 : Nat) : Int)) = false from decide_eq_false (by omega)] | rw [show decide ((21 + (p.box.length : Int)) < 21) = false from decide_eq_false (by omega)] | rw [show decide (((21 + p.box.length : Nat) : Int) < 21) = false from decide_eq_false (by omega)] | rw [show decide ((21 + (p.box.length : Int)) < ((21 : Nat) : Int)) = false from decide_eq_false (by omega)]
                  refine wpCan_pick rfl rfl rfl (fun _ _ _ _ h => h) ?_
                  simp only [Bool.false_eq_true, if_false]
                  (try simp only [Act.put, List.setIfInBounds_toArray, List.set_cons_zero, List.set_cons_succ])
                  iterate 3 (first | (refine wpCan_move rfl rfl (fun _ _ _ _ h => h) ?_; (simp only [Act.put, Act.eval, Array.getD_eq_getD_getElem?, List.getElem?_toArray, List.getElem?_cons_zero, List.getElem?_cons_succ, Option.getD_some, List.setIfInBounds_toArray, List.set_cons_zero, List.set_cons_succ])) | (refine wpCan_assign rfl rfl (fun _ _ _ _ h => h) ?_; (simp only [Act.put, Act.eval, Array.getD_eq_getD_getElem?, List.getElem?_toArray, List.getElem?_cons_zero, List.getElem?_cons_succ, Option.getD_some, List.setIfInBounds_toArray, List.set_cons_zero, List.set_cons_succ])) | (refine wpCan_nilCheck rfl rfl rfl (fun _ _ _ _ h => h) ?_; (simp only [Act.put, List.setIfInBounds_toArray, List.set_cons_zero, List.set_cons_succ])) | (refine wpCan_q rfl rfl (fun _ _ _ _ h => h) (by first | exact .bin rfl rfl rfl | exact .indexAddr rfl | exact .un rfl | exact .extract rfl | exact .index rfl | exact .field rfl | exact .slice rfl) (fun K hK => ?_); go_simp; (try (simp only [↓IntWalk.iteOmega]; go_simp)); (try go_bits); refine hK _ ?_; clear hK K))
                  refine wpCan_len rfl rfl rfl Try.underlying22 (fun _ _ _ _ h => h) ?_
                  (try simp only [Act.put, List.setIfInBounds_toArray, List.set_cons_zero, List.set_cons_succ])
                  refine wpCan_v rfl (fun _ _ _ _ h => h) (.slice rfl) (run_op_cut_h (hi := 21) BT rfl rfl rfl (by omega)) ?_
                  (try simp only [Act.put, List.setIfInBounds_toArray, List.set_cons_zero, List.set_cons_succ])
                  iterate 1 (first | (refine wpCan_move rfl rfl (fun _ _ _ _ h => h) ?_; (simp only [Act.put, Act.eval, Array.getD_eq_getD_getElem?, List.getElem?_toArray, List.getElem?_cons_zero, List.getElem?_cons_succ, Option.getD_some, List.setIfInBounds_toArray, List.set_cons_zero, List.set_cons_succ])) | (refine wpCan_assign rfl rfl (fun _ _ _ _ h => h) ?_; (simp only [Act.put, Act.eval, Array.getD_eq_getD_getElem?, List.getElem?_toArray, List.getElem?_cons_zero, List.getElem?_cons_succ, Option.getD_some, List.setIfInBounds_toArray, List.set_cons_zero, List.set_cons_succ])) | (refine wpCan_nilCheck rfl rfl rfl (fun _ _ _ _ h => h) ?_; (simp only [Act.put, List.setIfInBounds_toArray, List.set_cons_zero, List.set_cons_succ])) | (refine wpCan_q rfl rfl (fun _ _ _ _ h => h) (by first | exact .bin rfl rfl rfl | exact .indexAddr rfl | exact .un rfl | exact .extract rfl | exact .index rfl | exact .field rfl | exact .slice rfl) (fun K hK => ?_); go_simp; (try (simp only [↓IntWalk.iteOmega]; go_simp)); (try go_bits); refine hK _ ?_; clear hK K))
                  refine wpCan_e rfl (fun K hK => ?_)
                  go_simp
                  refine (Same_txts HTc.out HTe.out (headL_lt _ _ _)).mono ?_
                  rintro e wf ⟨rfl, rfl⟩
                  refine hK _ _ (Keep.refl _ _) ?_
                  clear hK K
                  (try simp only [Act.put, List.setIfInBounds_toArray, List.set_cons_zero, List.set_cons_succ])
                  iterate 1 (first | (refine wpCan_move rfl rfl (fun _ _ _ _ h => h) ?_; (simp only [Act.put, Act.eval, Array.getD_eq_getD_getElem?, List.getElem?_toArray, List.getElem?_cons_zero, List.getElem?_cons_succ, Option.getD_some, List.setIfInBounds_toArray, List.set_cons_zero, List.set_cons_succ])) | (refine wpCan_assign rfl rfl (fun _ _ _ _ h => h) ?_; (simp only [Act.put, Act.eval, Array.getD_eq_getD_getElem?, List.getElem?_toArray, List.getElem?_cons_zero, List.getElem?_cons_succ, Option.getD_some, List.setIfInBounds_toArray, List.set_cons_zero, List.set_cons_succ])) | (refine wpCan_nilCheck rfl rfl rfl (fun _ _ _ _ h => h) ?_; (simp only [Act.put, List.setIfInBounds_toArray, List.set_cons_zero, List.set_cons_succ])) | (refine wpCan_q rfl rfl (fun _ _ _ _ h => h) (by first | exact .bin rfl rfl rfl | exact .indexAddr rfl | exact .un rfl | exact .extract rfl | exact .index rfl | exact .field rfl | exact .slice rfl) (fun K hK => ?_); go_simp; (try (simp only [↓IntWalk.iteOmega]; go_simp)); (try go_bits); refine hK _ ?_; clear hK K))
                  refine wpCan_pick rfl rfl rfl (fun _ _ _ _ h => h) ?_
                  simp only [Bool.false_eq_true, if_false]
                  (try simp only [Act.put, List.setIfInBounds_toArray, List.set_cons_zero, List.set_cons_succ])
                  iterate 3 (first | (refine wpCan_move rfl rfl (fun _ _ _ _ h => h) ?_; (simp only [Act.put, Act.eval, Array.getD_eq_getD_getElem?, List.getElem?_toArray, List.getElem?_cons_zero, List.getElem?_cons_succ, Option.getD_some, List.setIfInBounds_toArray, List.set_cons_zero, List.set_cons_succ])) | (refine wpCan_assign rfl rfl (fun _ _ _ _ h => h) ?_; (simp only [Act.put, Act.eval, Array.getD_eq_getD_getElem?, List.getElem?_toArray, List.getElem?_cons_zero, List.getElem?_cons_succ, Option.getD_some, List.setIfInBounds_toArray, List.set_cons_zero, List.set_cons_succ])) | (refine wpCan_nilCheck rfl rfl rfl (fun _ _ _ _ h => h) ?_; (simp only [Act.put, List.setIfInBounds_toArray, List.set_cons_zero, List.set_cons_succ])) | (refine wpCan_q rfl rfl (fun _ _ _ _ h => h) (by first | exact .bin rfl rfl rfl | exact .indexAddr rfl | exact .un rfl | exact .extract rfl | exact .index rfl | exact .field rfl | exact .slice rfl) (fun K hK => ?_); go_simp; (try (simp only [↓IntWalk.iteOmega]; go_simp)); (try go_bits); refine hK _ ?_; clear hK K))
                  refine wpCan_len rfl rfl rfl Try.underlying22 (fun _ _ _ _ h => h) ?_
                  (try simp only [Act.put, List.setIfInBounds_toArray, List.set_cons_zero, List.set_cons_succ])
                  refine wpCan_v rfl (fun _ _ _ _ h => h) (.slice rfl) (run_op_cut_l (lo := 21) BT rfl rfl rfl (by omega)) ?_
                  (try simp only [Act.put, List.setIfInBounds_toArray, List.set_cons_zero, List.set_cons_succ])
                  iterate 1 (first | (refine wpCan_move rfl rfl (fun _ _ _ _ h => h) ?_; (simp only [Act.put, Act.eval, Array.getD_eq_getD_getElem?, List.getElem?_toArray, List.getElem?_cons_zero, List.getElem?_cons_succ, Option.getD_some, List.setIfInBounds_toArray, List.set_cons_zero, List.set_cons_succ])) | (refine wpCan_assign rfl rfl (fun _ _ _ _ h => h) ?_; (simp only [Act.put, Act.eval, Array.getD_eq_getD_getElem?, List.getElem?_toArray, List.getElem?_cons_zero, List.getElem?_cons_succ, Option.getD_some, List.setIfInBounds_toArray, List.set_cons_zero, List.set_cons_succ])) | (refine wpCan_nilCheck rfl rfl rfl (fun _ _ _ _ h => h) ?_; (simp only [Act.put, List.setIfInBounds_toArray, List.set_cons_zero, List.set_cons_succ])) | (refine wpCan_q rfl rfl (fun _ _ _ _ h => h) (by first | exact .bin rfl rfl rfl | exact .indexAddr rfl | exact .un rfl | exact .extract rfl | exact .index rfl | exact .field rfl | exact .slice rfl | exact .fieldT rfl FTFr3) (fun K hK => ?_); go_simp; (try (simp only [↓IntWalk.iteOmega]; go_simp)); (try go_bits); refine hK _ ?_; clear hK K))
                  refine wpCan_q rfl rfl (fun _ _ _ _ h => h) (.load rfl rfl hl2 g2e) (fun K hK => ?_)
                  go_simp
                  refine hK _ ?_
                  clear hK K
                  (try simp only [Act.put, List.setIfInBounds_toArray, List.set_cons_zero, List.set_cons_succ])
                  refine wpCan_e rfl (fun K hK => ?_)
                  go_simp
                  refine (Same_txts HTd.out HTf.out L.out).mono ?_
                  rintro e wg ⟨rfl, rfl⟩
                  refine hK _ _ (Keep.refl _ _) ?_
                  clear hK K
                  (try simp only [Act.put, List.setIfInBounds_toArray, List.set_cons_zero, List.set_cons_succ])
                  iterate 1 (first | (refine wpCan_move rfl rfl (fun _ _ _ _ h => h) ?_; (simp only [Act.put, Act.eval, Array.getD_eq_getD_getElem?, List.getElem?_toArray, List.getElem?_cons_zero, List.getElem?_cons_succ, Option.getD_some, List.setIfInBounds_toArray, List.set_cons_zero, List.set_cons_succ])) | (refine wpCan_assign rfl rfl (fun _ _ _ _ h => h) ?_; (simp only [Act.put, Act.eval, Array.getD_eq_getD_getElem?, List.getElem?_toArray, List.getElem?_cons_zero, List.getElem?_cons_succ, Option.getD_some, List.setIfInBounds_toArray, List.set_cons_zero, List.set_cons_succ])) | (refine wpCan_nilCheck rfl rfl rfl (fun _ _ _ _ h => h) ?_; (simp only [Act.put, List.setIfInBounds_toArray, List.set_cons_zero, List.set_cons_succ])) | (refine wpCan_q rfl rfl (fun _ _ _ _ h => h) (by first | exact .bin rfl rfl rfl | exact .indexAddr rfl | exact .un rfl | exact .extract rfl | exact .index rfl | exact .field rfl | exact .slice rfl) (fun K hK => ?_); go_simp; (try (simp only [↓IntWalk.iteOmega]; go_simp)); (try go_bits); refine hK _ ?_; clear hK K))
                  refine wpCan_nil ?_
                  go_wp2
                  go_ret
                  exact ⟨rfl, hb8⟩
                · go_upto_region 16 with (first | (refine wpList_load_all rfl rfl RTFr rfl g2 ?_) | (go_at_call 12; (with_reducible refine (WriteFrameN ep fr ge A n k hm _).mono ?_); rintro e wa ⟨rfl, b4⟩))
                  replace hb := hb.trans (b4.mono hb.size)
                  go_wp2
                  go_ret
                  exact ⟨rfl, hb⟩
            · have HX := Lib.hid (chk_no hm)
              rw [HX.out]
              clear hm o4
              go_upto_region 10 with (fail)
              by_cases hm : MayW tw n1 n2 n3
              · obtain ⟨a, rfl⟩ : ∃ a : Nat, tw = a := ⟨tw.toNat, by unfold MayW at hm; omega⟩
                obtain rfl : m1.length = n1 := T1.out.len
                obtain rfl : m2.length = n2 := T2.out.len
                obtain rfl : m3.length = n3 := T3.out.len
                obtain ⟨p, hp⟩ : ∃ p : PWl, p = ⟨a, m1, m2, m3⟩ := ⟨_, rfl⟩
                have HE0 := wl_back hm s1 s2 s3
                have hO : WlOk w w.heap.size (⟨a, m1, m2, m3⟩ : PWl) (wA A1 A2 A3) (wC k1 k2 k3) := ⟨Nat.le_refl _, fun j hj => by
                  have : j = 0 ∨ j = 1 ∨ j = 2 := by omega
                  rcases this with rfl | rfl | rfl
                  · exact T1.out
                  · exact T2.out
                  · exact T3.out⟩
                have hL : ∀ j, j < 3 → ∀ x ∈ (⟨a, m1, m2, m3⟩ : PWl).tx j, x < 256 := fun j hj => by
                  have : j = 0 ∨ j = 1 ∨ j = 2 := by omega
                  rcases this with rfl | rfl | rfl
                  · exact L1.out
                  · exact L2.out
                  · exact L3.out
                replace g1 : _ = some (Obj.cells (arrV 4 (wlG (⟨a, m1, m2, m3⟩ : PWl).tw (⟨a, m1, m2, m3⟩ : PWl).tx (wA A1 A2 A3) (wC k1 k2 k3) 3)) 24 (0, 0)) := g1
                replace hm : MayW (⟨a, m1, m2, m3⟩ : PWl).tw (⟨a, m1, m2, m3⟩ : PWl).c.length (⟨a, m1, m2, m3⟩ : PWl).t.length (⟨a, m1, m2, m3⟩ : PWl).b.length := hm
                rw [← hp] at g1 hO hL hm
                have HE : Hid (wlV (welcomeL p.tw p.c.length p.t.length p.b.length p.c p.t p.b) = (p, 0)) := Lib.hid (by rw [hp]; exact HE0)
                have s5 : p.c.length ≤ 2000 := by rw [hp]; exact s1
                have s6 : p.t.length ≤ 2000 := by rw [hp]; exact s2
                have s7 : p.b.length ≤ 2000 := by rw [hp]; exact s3
                clear hp HE0 s1 s2 s3 T1 T2 T3 L1 L2 L3
                have HM := Lib.hid hm
                have HO := Lib.hid hO
                have HL := Lib.hid hL
                clear hm hO hL
                have ho := HO.out.at_ hb
                go_upto_region 11 with (first | (refine wpList_load_all rfl rfl RTWl rfl g1 ?_) | (go_at_call 10; (with_reducible refine (WriteWelcomeY HM.out ho).mono ?_); rintro e wa ⟨A4, n4, c4, rfl, o4, b4⟩))
                replace g0 := keep_below b4 (lt_of_block g0) g0
                replace g1 := keep_below b4 (lt_of_block g1) g1
                replace g2 := keep_below b4 (lt_of_block g2) g2
                replace hb := hb.trans (b4.mono hb.size)
                have q4 := o4.text.len
                have hs := o4.src (by rw [← q4, welcomeL_len]; omega) (fun x hx => welcomeL_lt _ _ _ _ _ _ _ (HL.out 0 (by omega)) (HL.out 1 (by omega)) (HL.out 2 (by omega)) x hx)
                clear ho b4 o4 q4
                go_upto_region 13 with (first | (go_at_call 28; (with_reducible refine (ReadWelcomeE hs HE.out).mono ?_); rintro e wb ⟨A5, c5, rfl, o5, b5⟩) | (refine wpList_newV rfl rfl rfl rfl ZVWl RTWl rfl rfl (fun _ _ => wlG_one _ _ _ _ _ _) ?_; intro wc g3 b6 hs6))
                have bb := b5.trans (b6.mono b5.size)
                replace g0 := keep_below bb (lt_of_block g0) g0
                replace g1 := keep_below bb (lt_of_block g1) g1
                replace g2 := keep_below bb (lt_of_block g2) g2
                replace hb := hb.trans (bb.mono hb.size)
                have ho := HO.out.at_ hb
                have ho5 : WlOk wc wc.heap.size p A5 c5 := ⟨Nat.le_refl _, fun j hj => ((o5 j hj).below b6 (o5 j hj).lt').text⟩
                clear bb b5 b6 o5 hs hs6 HE
                go_upto_region 15 with (first | (refine wpList_valg rfl (run_op_load_v rfl RTWl rfl g1) ?_) | (refine wpList_valg rfl (run_op_load_v rfl RTWl rfl g3) ?_) | (go_at_call 32; (with_reducible refine (SameWelcome_self ho ho5 HL.out).mono ?_); rintro e wd ⟨rfl, b7⟩))
                replace g0 := keep_below b7 (lt_of_block g0) g0
                replace g1 := keep_below b7 (lt_of_block g1) g1
                replace g2 := keep_below b7 (lt_of_block g2) g2
                replace hb := hb.trans (b7.mono hb.size)
                clear b7 ho ho5 g3
                by_cases hm : MayF ep fr ge n
                · obtain ⟨a, rfl⟩ : ∃ a : Nat, ep = a := ⟨ep.toNat, by omega⟩
                  obtain ⟨b, rfl⟩ : ∃ b : Nat, fr = b := ⟨fr.toNat, by unfold MayF at hm; omega⟩
                  obtain ⟨d, rfl⟩ : ∃ d : Nat, ge = d := ⟨ge.toNat, by omega⟩
                  obtain rfl : m.length = n := T.out.len
                  obtain ⟨p, hp⟩ : ∃ p : PFr, p = ⟨a, b, d, m⟩ := ⟨_, rfl⟩
                  replace g2 : _ = some (Obj.cells (arrV 4 (frF ⟨a, b, d, m⟩ A k)) 27 (0, 0)) := g2
                  replace T : Hid (Txt w w.heap.size A (⟨a, b, d, m⟩ : PFr).box.length k (⟨a, b, d, m⟩ : PFr).box) := T
                  replace L : Hid (∀ x ∈ (⟨a, b, d, m⟩ : PFr).box, x < 256) := L
                  replace hm : MayF (⟨a, b, d, m⟩ : PFr).ep (⟨a, b, d, m⟩ : PFr).frm (⟨a, b, d, m⟩ : PFr).gen (⟨a, b, d, m⟩ : PFr).box.length := hm
                  have HE := fr_back hm s4
                  rw [← hp] at g2 T L hm
                  have hbl : p.box.length ≤ 2000 := by rw [hp]; exact s4
                  have HE : Hid (frV (headL p.ep p.frm p.gen ++ p.box) = (p, 0)) := Lib.hid (by rw [hp]; exact HE)
                  clear hp
                  have HM := Lib.hid hm
                  clear hm
                  have ht := (T.out.below hb).more hb.size
                  go_upto_region 16 with (first | (refine wpList_load_all rfl rfl RTFr rfl g2 ?_) | (go_at_call 12; (with_reducible refine (WriteFrameY HM.out ht).mono ?_); rintro e wa ⟨A4, n4, c4, rfl, o4, b4⟩))
                  replace g0 := keep_below b4 (lt_of_block g0) g0
                  replace g1 := keep_below b4 (lt_of_block g1) g1
                  replace g2 := keep_below b4 (lt_of_block g2) g2
                  replace hb := hb.trans (b4.mono hb.size)
                  have q4 := o4.text.len
                  rw [List.length_append, headL_len] at q4
                  have hs := o4.src (by omega) (fun x hx => by
                    rcases List.mem_append.1 hx with h | h
                    · exact headL_lt _ _ _ x h
                    · exact L.out x h)
                  have t4 := o4.text
                  have k4 := o4.cap
                  clear ht b4 o4
                  go_upto_region 18 with (first | (go_at_call 30; (with_reducible refine (ReadFrameE hs HE.out).mono ?_); rintro e wb ⟨A5, c5, rfl, o5, b5⟩) | (refine wpList_newV rfl rfl rfl rfl ZVFr RTFr rfl rfl (fun _ _ => frF_one _ _ _ _) ?_; intro wc g3 b6 hs6))
                  have bb := b5.trans (b6.mono b5.size)
                  replace g0 := keep_below bb (lt_of_block g0) g0
                  replace g1 := keep_below bb (lt_of_block g1) g1
                  replace g2 := keep_below bb (lt_of_block g2) g2
                  replace hb := hb.trans (bb.mono hb.size)
                  replace t4 := (t4.below bb).more bb.size
                  have t5 := (o5.below b6 o5.lt').text
                  clear bb b5 b6 o5 hs hs6 HE
                  go_upto_region 19 with (first | (refine wpList_load_all rfl rfl RTFr rfl g2 ?_) | (go_at_call 14; (with_reducible refine (FrameHeadY HM.out).mono ?_); rintro e wd ⟨A6, n6, c6, rfl, o6, b7⟩))
                  replace g0 := keep_below b7 (lt_of_block g0) g0
                  replace g1 := keep_below b7 (lt_of_block g1) g1
                  replace g2 := keep_below b7 (lt_of_block g2) g2
                  replace hb := hb.trans (b7.mono hb.size)
                  replace g3 := keep_below b7 (lt_of_block g3) g3
                  replace t4 := (t4.below b7).more b7.size
                  replace t5 := (t5.below b7).more b7.size
                  have t6 := o6.text
                  have q6 := t6.len
                  rw [headL_len] at q6
                  clear b7 o6
                  subst q6
                  subst q4
                  have hl2 := lt_of_block g2
                  have hl3 := lt_of_block g3
                  have t7 := ((T.out.below hb).more hb.size)
                  have HT4 := Lib.hid t4
                  have HT6 := Lib.hid t6
                  have HL4 := Lib.hid (show (headL p.ep p.frm p.gen ++ p.box).take 21 = headL p.ep p.frm p.gen from List.take_left' (headL_len _ _ _))
                  have HL5 := Lib.hid (show (headL p.ep p.frm p.gen ++ p.box).drop 21 = p.box from List.drop_left' (headL_len _ _ _))
                  have HTa := Lib.hid (t4.take k4 (show 21 ≤ 21 + p.box.length by omega))
                  have HTb := Lib.hid (t4.from k4 (show 21 ≤ 21 + p.box.length by omega))
                  rw [HL4.out] at HTa
                  rw [HL5.out, Nat.add_sub_cancel_left] at HTb
                  clear t4 t6
                  (try simp only [Act.put, List.setIfInBounds_toArray, List.set_cons_zero, List.set_cons_succ])
                  refine wp_region_can wd.heap.size 37 [(0, false), (1, false), (2, false), (3, false), (4, false), (5, false), (6, false), (7, false), (8, false), (9, true), (10, false), (11, false), (12, false), (13, false), (14, false), (15, false), (16, false), (17, false), (18, false), (19, false), (20, false), (21, false), (22, false), (23, false), (24, false), (25, true), (26, false), (27, false), (28, false), (29, false), (30, false), (31, false), (32, false), (33, false), (34, false), (35, true), (36, false)] (by kernel_rfl) (by kernel_rfl) ?_
                  (simp only [canOps, List.getElem?_cons_zero, List.getElem?_cons_succ, List.drop_succ_cons, List.drop_zero])
                  iterate 5 (first | (refine wpCan_move rfl rfl (fun _ _ _ _ h => h) ?_; (simp only [Act.put, Act.eval, Array.getD_eq_getD_getElem?, List.getElem?_toArray, List.getElem?_cons_zero, List.getElem?_cons_succ, Option.getD_some, List.setIfInBounds_toArray, List.set_cons_zero, List.set_cons_succ])) | (refine wpCan_assign rfl rfl (fun _ _ _ _ h => h) ?_; (simp only [Act.put, Act.eval, Array.getD_eq_getD_getElem?, List.getElem?_toArray, List.getElem?_cons_zero, List.getElem?_cons_succ, Option.getD_some, List.setIfInBounds_toArray, List.set_cons_zero, List.set_cons_succ])) | (refine wpCan_nilCheck rfl rfl rfl (fun _ _ _ _ h => h) ?_; (simp only [Act.put, List.setIfInBounds_toArray, List.set_cons_zero, List.set_cons_succ])) | (refine wpCan_q rfl rfl (fun _ _ _ _ h => h) (by first | exact .bin rfl rfl rfl | exact .indexAddr rfl | exact .un rfl | exact .extract rfl | exact .index rfl | exact .field rfl | exact .slice rfl) (fun K hK => ?_); go_simp; (try (simp only [↓IntWalk.iteOmega]; go_simp)); (try go_bits); refine hK _ ?_; clear hK K))
                  refine wpCan_pick rfl rfl rfl (fun _ _ _ _ h => h) ?_
                  simp only [Bool.false_eq_true, if_false]
                  (try simp only [Act.put, List.setIfInBounds_toArray, List.set_cons_zero, List.set_cons_succ])
                  iterate 1 (first | (refine wpCan_move rfl rfl (fun _ _ _ _ h => h) ?_; (simp only [Act.put, Act.eval, Array.getD_eq_getD_getElem?, List.getElem?_toArray, List.getElem?_cons_zero, List.getElem?_cons_succ, Option.getD_some, List.setIfInBounds_toArray, List.set_cons_zero, List.set_cons_succ])) | (refine wpCan_assign rfl rfl (fun _ _ _ _ h => h) ?_; (simp only [Act.put, Act.eval, Array.getD_eq_getD_getElem?, List.getElem?_toArray, List.getElem?_cons_zero, List.getElem?_cons_succ, Option.getD_some, List.setIfInBounds_toArray, List.set_cons_zero, List.set_cons_succ])) | (refine wpCan_nilCheck rfl rfl rfl (fun _ _ _ _ h => h) ?_; (simp only [Act.put, List.setIfInBounds_toArray, List.set_cons_zero, List.set_cons_succ])) | (refine wpCan_q rfl rfl (fun _ _ _ _ h => h) (by first | exact .bin rfl rfl rfl | exact .indexAddr rfl | exact .un rfl | exact .extract rfl | exact .index rfl | exact .field rfl | exact .slice rfl) (fun K hK => ?_); go_simp; (try (simp only [↓IntWalk.iteOmega]; go_simp)); (try go_bits); refine hK _ ?_; clear hK K))
                  refine wpCan_v rfl (fun _ _ _ _ h => h) (.load rfl rfl hl2 g2) (run_op_load_v rfl RTFr rfl g2) ?_
                  (try simp only [Act.put, List.setIfInBounds_toArray, List.set_cons_zero, List.set_cons_succ])
                  refine wpCan_v rfl (fun _ _ _ _ h => h) (.load rfl rfl hl3 g3) (run_op_load_v rfl RTFr rfl g3) ?_
                  (try simp only [Act.put, List.setIfInBounds_toArray, List.set_cons_zero, List.set_cons_succ])
                  refine wpCan_e rfl (fun K hK => ?_)
                  go_simp
                  refine (SameFrameY (w := wd.drew) t7.drew t5.drew L.out).mono ?_
                  rintro e we ⟨rfl, b8⟩
                  refine hK _ _ (Keep.of_below b8 (Nat.le_refl _)) ?_
                  clear hK K
                  have hb8 := hb.trans (((Below.refl wd.heap.size wd).drew.trans b8).mono hb.size)
                  have c3 : we.cell? ⟨w.heap.size + 1 + 1, 3, none⟩ = some (.slice A p.box.length k) := cell_arrV (keep_below b8 hl2 (show wd.drew.heap[_]? = _ from g2)) 3 (by omega)
                  have g2e := keep_below b8 hl2 (show wd.drew.heap[w.heap.size + 1 + 1]? = _ from g2)
                  have HTc := Lib.hid ((HTa.out.drew.below b8))
                  have HTd := Lib.hid ((HTb.out.drew.below b8))
                  have HTe := Lib.hid ((HT6.out.drew.below b8))
                  have HTf := Lib.hid ((t7.drew.below b8))
                  (try simp only [Act.put, List.setIfInBounds_toArray, List.set_cons_zero, List.set_cons_succ])
                  iterate 1 (first | (refine wpCan_move rfl rfl (fun _ _ _ _ h => h) ?_; (simp only [Act.put, Act.eval, Array.getD_eq_getD_getElem?, List.getElem?_toArray, List.getElem?_cons_zero, List.getElem?_cons_succ, Option.getD_some, List.setIfInBounds_toArray, List.set_cons_zero, List.set_cons_succ])) | (refine wpCan_assign rfl rfl (fun _ _ _ _ h => h) ?_; (simp only [Act.put, Act.eval, Array.getD_eq_getD_getElem?, List.getElem?_toArray, List.getElem?_cons_zero, List.getElem?_cons_succ, Option.getD_some, List.setIfInBounds_toArray, List.set_cons_zero, List.set_cons_succ])) | (refine wpCan_nilCheck rfl rfl rfl (fun _ _ _ _ h => h) ?_; (simp only [Act.put, List.setIfInBounds_toArray, List.set_cons_zero, List.set_cons_succ])) | (refine wpCan_q rfl rfl (fun _ _ _ _ h => h) (by first | exact .bin rfl rfl rfl | exact .indexAddr rfl | exact .un rfl | exact .extract rfl | exact .index rfl | exact .field rfl | exact .slice rfl) (fun K hK => ?_); go_simp; (try (simp only [↓IntWalk.iteOmega]; go_simp)); (try go_bits); refine hK _ ?_; clear hK K))
                  refine wpCan_pick rfl rfl rfl (fun _ _ _ _ h => h) ?_
                  simp only [Bool.false_eq_true, if_false]
                  (try simp only [Act.put, List.setIfInBounds_toArray, List.set_cons_zero, List.set_cons_succ])
                  iterate 2 (first | (refine wpCan_move rfl rfl (fun _ _ _ _ h => h) ?_; (simp only [Act.put, Act.eval, Array.getD_eq_getD_getElem?, List.getElem?_toArray, List.getElem?_cons_zero, List.getElem?_cons_succ, Option.getD_some, List.setIfInBounds_toArray, List.set_cons_zero, List.set_cons_succ])) | (refine wpCan_assign rfl rfl (fun _ _ _ _ h => h) ?_; (simp only [Act.put, Act.eval, Array.getD_eq_getD_getElem?, List.getElem?_toArray, List.getElem?_cons_zero, List.getElem?_cons_succ, Option.getD_some, List.setIfInBounds_toArray, List.set_cons_zero, List.set_cons_succ])) | (refine wpCan_nilCheck rfl rfl rfl (fun _ _ _ _ h => h) ?_; (simp only [Act.put, List.setIfInBounds_toArray, List.set_cons_zero, List.set_cons_succ])) | (refine wpCan_q rfl rfl (fun _ _ _ _ h => h) (by first | exact .bin rfl rfl rfl | exact .indexAddr rfl | exact .un rfl | exact .extract rfl | exact .index rfl | exact .field rfl | exact .slice rfl) (fun K hK => ?_); go_simp; (try (simp only [↓IntWalk.iteOmega]; go_simp)); (try go_bits); refine hK _ ?_; clear hK K))
                  refine wpCan_len rfl rfl rfl Try.underlying22 (fun _ _ _ _ h => h) ?_
                  (try simp only [Act.put, List.setIfInBounds_toArray, List.set_cons_zero, List.set_cons_succ])
                  iterate 1 (first | (refine wpCan_move rfl rfl (fun _ _ _ _ h => h) ?_; (simp only [Act.put, Act.eval, Array.getD_eq_getD_getElem?, List.getElem?_toArray, List.getElem?_cons_zero, List.getElem?_cons_succ, Option.getD_some, List.setIfInBounds_toArray, List.set_cons_zero, List.set_cons_succ])) | (refine wpCan_assign rfl rfl (fun _ _ _ _ h => h) ?_; (simp only [Act.put, Act.eval, Array.getD_eq_getD_getElem?, List.getElem?_toArray, List.getElem?_cons_zero, List.getElem?_cons_succ, Option.getD_some, List.setIfInBounds_toArray, List.set_cons_zero, List.set_cons_succ])) | (refine wpCan_nilCheck rfl rfl rfl (fun _ _ _ _ h => h) ?_; (simp only [Act.put, List.setIfInBounds_toArray, List.set_cons_zero, List.set_cons_succ])) | (refine wpCan_q rfl rfl (fun _ _ _ _ h => h) (by first | exact .bin rfl rfl rfl | exact .indexAddr rfl | exact .un rfl | exact .extract rfl | exact .index rfl | exact .field rfl | exact .slice rfl) (fun K hK => ?_); go_simp; (try (simp only [↓IntWalk.iteOmega]; go_simp)); (try go_bits); refine hK _ ?_; clear hK K))
                  refine wpCan_len rfl rfl rfl Try.underlying22 (fun _ _ _ _ h => h) ?_
                  (try simp only [Act.put, List.setIfInBounds_toArray, List.set_cons_zero, List.set_cons_succ])
                  iterate 1 (first | (refine wpCan_move rfl rfl (fun _ _ _ _ h => h) ?_; (simp only [Act.put, Act.eval, Array.getD_eq_getD_getElem?, List.getElem?_toArray, List.getElem?_cons_zero, List.getElem?_cons_succ, Option.getD_some, List.setIfInBounds_toArray, List.set_cons_zero, List.set_cons_succ])) | (refine wpCan_assign rfl rfl (fun _ _ _ _ h => h) ?_; (simp only [Act.put, Act.eval, Array.getD_eq_getD_getElem?, List.getElem?_toArray, List.getElem?_cons_zero, List.getElem?_cons_succ, Option.getD_some, List.setIfInBounds_toArray, List.set_cons_zero, List.set_cons_succ])) | (refine wpCan_nilCheck rfl rfl rfl (fun _ _ _ _ h => h) ?_; (simp only [Act.put, List.setIfInBounds_toArray, List.set_cons_zero, List.set_cons_succ])) | (refine wpCan_q rfl rfl (fun _ _ _ _ h => h) (by first | exact .bin rfl rfl rfl | exact .indexAddr rfl | exact .un rfl | exact .extract rfl | exact .index rfl | exact .field rfl | exact .slice rfl) (fun K hK => ?_); go_simp; (try (simp only [↓IntWalk.iteOmega]; go_simp)); (try go_bits); refine hK _ ?_; clear hK K))
                  first | rw [show decide (((21 + p.box.length : Nat) : Int) < ((21 : Nat) : Int)) = false from decide_eq_false (by omega)] | rw [show decide ((21 + (p.box.length : Int)) < 21) = false from decide_eq_false (by omega)] | rw [show decide (((21 + p.box.length : Nat) : Int) < 21) = false from decide_eq_false (by omega)] | rw [show decide ((21 + (p.box.length : Int)) < ((21 : Nat) : Int)) = false from decide_eq_false (by omega)]
                  refine wpCan_pick rfl rfl rfl (fun _ _ _ _ h => h) ?_
                  simp only [Bool.false_eq_true, if_false]
                  (try simp only [Act.put, List.setIfInBounds_toArray, List.set_cons_zero, List.set_cons_succ])
                  iterate 3 (first | (refine wpCan_move rfl rfl (fun _ _ _ _ h => h) ?_; (simp only [Act.put, Act.eval, Array.getD_eq_getD_getElem?, List.getElem?_toArray, List.getElem?_cons_zero, List.getElem?_cons_succ, Option.getD_some, List.setIfInBounds_toArray, List.set_cons_zero, List.set_cons_succ])) | (refine wpCan_assign rfl rfl (fun _ _ _ _ h => h) ?_; (simp only [Act.put, Act.eval, Array.getD_eq_getD_getElem?, List.getElem?_toArray, List.getElem?_cons_zero, List.getElem?_cons_succ, Option.getD_some, List.setIfInBounds_toArray, List.set_cons_zero, List.set_cons_succ])) | (refine wpCan_nilCheck rfl rfl rfl (fun _ _ _ _ h => h) ?_; (simp only [Act.put, List.setIfInBounds_toArray, List.set_cons_zero, List.set_cons_succ])) | (refine wpCan_q rfl rfl (fun _ _ _ _ h => h) (by first | exact .bin rfl rfl rfl | exact .indexAddr rfl | exact .un rfl | exact .extract rfl | exact .index rfl | exact .field rfl | exact .slice rfl) (fun K hK => ?_); go_simp; (try (simp only [↓IntWalk.iteOmega]; go_simp)); (try go_bits); refine hK _ ?_; clear hK K))
                  refine wpCan_len rfl rfl rfl Try.underlying22 (fun _ _ _ _ h => h) ?_
                  (try simp only [Act.put, List.setIfInBounds_toArray, List.set_cons_zero, List.set_cons_succ])
                  refine wpCan_v rfl (fun _ _ _ _ h => h) (.slice rfl) (run_op_cut_h (hi := 21) BT rfl rfl rfl (by omega)) ?_
                  (try simp only [Act.put, List.setIfInBounds_toArray, List.set_cons_zero, List.set_cons_succ])
                  iterate 1 (first | (refine wpCan_move rfl rfl (fun _ _ _ _ h => h) ?_; (simp only [Act.put, Act.eval, Array.getD_eq_getD_getElem?, List.getElem?_toArray, List.getElem?_cons_zero, List.getElem?_cons_succ, Option.getD_some, List.setIfInBounds_toArray, List.set_cons_zero, List.set_cons_succ])) | (refine wpCan_assign rfl rfl (fun _ _ _ _ h => h) ?_; (simp only [Act.put, Act.eval, Array.getD_eq_getD_getElem?, List.getElem?_toArray, List.getElem?_cons_zero, List.getElem?_cons_succ, Option.getD_some, List.setIfInBounds_toArray, List.set_cons_zero, List.set_cons_succ])) | (refine wpCan_nilCheck rfl rfl rfl (fun _ _ _ _ h => h) ?_; (simp only [Act.put, List.setIfInBounds_toArray, List.set_cons_zero, List.set_cons_succ])) | (refine wpCan_q rfl rfl (fun _ _ _ _ h => h) (by first | exact .bin rfl rfl rfl | exact .indexAddr rfl | exact .un rfl | exact .extract rfl | exact .index rfl | exact .field rfl | exact .slice rfl) (fun K hK => ?_); go_simp; (try (simp only [↓IntWalk.iteOmega]; go_simp)); (try go_bits); refine hK _ ?_; clear hK K))
                  refine wpCan_e rfl (fun K hK => ?_)
                  go_simp
                  refine (Same_txts HTc.out HTe.out (headL_lt _ _ _)).mono ?_
                  rintro e wf ⟨rfl, rfl⟩
                  refine hK _ _ (Keep.refl _ _) ?_
                  clear hK K
                  (try simp only [Act.put, List.setIfInBounds_toArray, List.set_cons_zero, List.set_cons_succ])
                  iterate 1 (first | (refine wpCan_move rfl rfl (fun _ _ _ _ h => h) ?_; (simp only [Act.put, Act.eval, Array.getD_eq_getD_getElem?, List.getElem?_toArray, List.getElem?_cons_zero, List.getElem?_cons_succ, Option.getD_some, List.setIfInBounds_toArray, List.set_cons_zero, List.set_cons_succ])) | (refine wpCan_assign rfl rfl (fun _ _ _ _ h => h) ?_; (simp only [Act.put, Act.eval, Array.getD_eq_getD_getElem?, List.getElem?_toArray, List.getElem?_cons_zero, List.getElem?_cons_succ, Option.getD_some, List.setIfInBounds_toArray, List.set_cons_zero, List.set_cons_succ])) | (refine wpCan_nilCheck rfl rfl rfl (fun _ _ _ _ h => h) ?_; (simp only [Act.put, List.setIfInBounds_toArray, List.set_cons_zero, List.set_cons_succ])) | (refine wpCan_q rfl rfl (fun _ _ _ _ h => h) (by first | exact .bin rfl rfl rfl | exact .indexAddr rfl | exact .un rfl | exact .extract rfl | exact .index rfl | exact .field rfl | exact .slice rfl) (fun K hK => ?_); go_simp; (try (simp only [↓IntWalk.iteOmega]; go_simp)); (try go_bits); refine hK _ ?_; clear hK K))
                  refine wpCan_pick rfl rfl rfl (fun _ _ _ _ h => h) ?_
                  simp only [Bool.false_eq_true, if_false]
                  (try simp only [Act.put, List.setIfInBounds_toArray, List.set_cons_zero, List.set_cons_succ])
                  iterate 3 (first | (refine wpCan_move rfl rfl (fun _ _ _ _ h => h) ?_; (simp only [Act.put, Act.eval, Array.getD_eq_getD_getElem?, List.getElem?_toArray, List.getElem?_cons_zero, List.getElem?_cons_succ, Option.getD_some, List.setIfInBounds_toArray, List.set_cons_zero, List.set_cons_succ])) | (refine wpCan_assign rfl rfl (fun _ _ _ _ h => h) ?_; (simp only [Act.put, Act.eval, Array.getD_eq_getD_getElem?, List.getElem?_toArray, List.getElem?_cons_zero, List.getElem?_cons_succ, Option.getD_some, List.setIfInBounds_toArray, List.set_cons_zero, List.set_cons_succ])) | (refine wpCan_nilCheck rfl rfl rfl (fun _ _ _ _ h => h) ?_; (simp only [Act.put, List.setIfInBounds_toArray, List.set_cons_zero, List.set_cons_succ])) | (refine wpCan_q rfl rfl (fun _ _ _ _ h => h) (by first | exact .bin rfl rfl rfl | exact .indexAddr rfl | exact .un rfl | exact .extract rfl | exact .index rfl | exact .field rfl | exact .slice rfl) (fun K hK => ?_); go_simp; (try (simp only [↓IntWalk.iteOmega]; go_simp)); (try go_bits); refine hK _ ?_; clear hK K))
                  refine wpCan_len rfl rfl rfl Try.underlying22 (fun _ _ _ _ h => h) ?_
                  (try simp only [Act.put, List.setIfInBounds_toArray, List.set_cons_zero, List.set_cons_succ])
                  refine wpCan_v rfl (fun _ _ _ _ h => h) (.slice rfl) (run_op_cut_l (lo := 21) BT rfl rfl rfl (by omega)) ?_
                  (try simp only [Act.put, List.setIfInBounds_toArray, List.set_cons_zero, List.set_cons_succ])
                  iterate 1 (first | (refine wpCan_move rfl rfl (fun _ _ _ _ h => h) ?_; (simp only [Act.put, Act.eval, Array.getD_eq_getD_getElem?, List.getElem?_toArray, List.getElem?_cons_zero, List.getElem?_cons_succ, Option.getD_some, List.setIfInBounds_toArray, List.set_cons_zero, List.set_cons_succ])) | (refine wpCan_assign rfl rfl (fun _ _ _ _ h => h) ?_; (simp only [Act.put, Act.eval, Array.getD_eq_getD_getElem?, List.getElem?_toArray, List.getElem?_cons_zero, List.getElem?_cons_succ, Option.getD_some, List.setIfInBounds_toArray, List.set_cons_zero, List.set_cons_succ])) | (refine wpCan_nilCheck rfl rfl rfl (fun _ _ _ _ h => h) ?_; (simp only [Act.put, List.setIfInBounds_toArray, List.set_cons_zero, List.set_cons_succ])) | (refine wpCan_q rfl rfl (fun _ _ _ _ h => h) (by first | exact .bin rfl rfl rfl | exact .indexAddr rfl | exact .un rfl | exact .extract rfl | exact .index rfl | exact .field rfl | exact .slice rfl | exact .fieldT rfl FTFr3) (fun K hK => ?_); go_simp; (try (simp only [↓IntWalk.iteOmega]; go_simp)); (try go_bits); refine hK _ ?_; clear hK K))
                  refine wpCan_q rfl rfl (fun _ _ _ _ h => h) (.load rfl rfl hl2 g2e) (fun K hK => ?_)
                  go_simp
                  refine hK _ ?_
                  clear hK K
                  (try simp only [Act.put, List.setIfInBounds_toArray, List.set_cons_zero, List.set_cons_succ])
                  refine wpCan_e rfl (fun K hK => ?_)
                  go_simp
                  refine (Same_txts HTd.out HTf.out L.out).mono ?_
                  rintro e wg ⟨rfl, rfl⟩
                  refine hK _ _ (Keep.refl _ _) ?_
                  clear hK K
                  (try simp only [Act.put, List.setIfInBounds_toArray, List.set_cons_zero, List.set_cons_succ])
                  iterate 1 (first | (refine wpCan_move rfl rfl (fun _ _ _ _ h => h) ?_; (simp only [Act.put, Act.eval, Array.getD_eq_getD_getElem?, List.getElem?_toArray, List.getElem?_cons_zero, List.getElem?_cons_succ, Option.getD_some, List.setIfInBounds_toArray, List.set_cons_zero, List.set_cons_succ])) | (refine wpCan_assign rfl rfl (fun _ _ _ _ h => h) ?_; (simp only [Act.put, Act.eval, Array.getD_eq_getD_getElem?, List.getElem?_toArray, List.getElem?_cons_zero, List.getElem?_cons_succ, Option.getD_some, List.setIfInBounds_toArray, List.set_cons_zero, List.set_cons_succ])) | (refine wpCan_nilCheck rfl rfl rfl (fun _ _ _ _ h => h) ?_; (simp only [Act.put, List.setIfInBounds_toArray, List.set_cons_zero, List.set_cons_succ])) | (refine wpCan_q rfl rfl (fun _ _ _ _ h => h) (by first | exact .bin rfl rfl rfl | exact .indexAddr rfl | exact .un rfl | exact .extract rfl | exact .index rfl | exact .field rfl | exact .slice rfl) (fun K hK => ?_); go_simp; (try (simp only [↓IntWalk.iteOmega]; go_simp)); (try go_bits); refine hK _ ?_; clear hK K))
                  refine wpCan_nil ?_
                  go_wp2
                  go_ret
                  exact ⟨rfl, hb8⟩
                · go_upto_region 16 with (first | (refine wpList_load_all rfl rfl RTFr rfl g2 ?_) | (go_at_call 12; (with_reducible refine (WriteFrameN ep fr ge A n k hm _).mono ?_); rintro e wa ⟨rfl, b4⟩))
                  replace hb := hb.trans (b4.mono hb.size)
                  go_wp2
                  go_ret
                  exact ⟨rfl, hb⟩
              · go_upto_region 11 with (first | (refine wpList_load_all rfl rfl RTWl rfl g1 ?_) | (go_at_call 10; (with_reducible refine (WriteWelcomeN tw A1 n1 k1 A2 n2 k2 A3 n3 k3 hm _).mono ?_); rintro e wa ⟨rfl, b4⟩))
                replace g0 := keep_below b4 (lt_of_block g0) g0
                replace g1 := keep_below b4 (lt_of_block g1) g1
                replace g2 := keep_below b4 (lt_of_block g2) g2
                replace hb := hb.trans (b4.mono hb.size)
                clear b4
                go_upto_region 15 with (fail)
                by_cases hm : MayF ep fr ge n
                · obtain ⟨a, rfl⟩ : ∃ a : Nat, ep = a := ⟨ep.toNat, by omega⟩
                  obtain ⟨b, rfl⟩ : ∃ b : Nat, fr = b := ⟨fr.toNat, by unfold MayF at hm; omega⟩
                  obtain ⟨d, rfl⟩ : ∃ d : Nat, ge = d := ⟨ge.toNat, by omega⟩
                  obtain rfl : m.length = n := T.out.len
                  obtain ⟨p, hp⟩ : ∃ p : PFr, p = ⟨a, b, d, m⟩ := ⟨_, rfl⟩
                  replace g2 : _ = some (Obj.cells (arrV 4 (frF ⟨a, b, d, m⟩ A k)) 27 (0, 0)) := g2
                  replace T : Hid (Txt w w.heap.size A (⟨a, b, d, m⟩ : PFr).box.length k (⟨a, b, d, m⟩ : PFr).box) := T
                  replace L : Hid (∀ x ∈ (⟨a, b, d, m⟩ : PFr).box, x < 256) := L
                  replace hm : MayF (⟨a, b, d, m⟩ : PFr).ep (⟨a, b, d, m⟩ : PFr).frm (⟨a, b, d, m⟩ : PFr).gen (⟨a, b, d, m⟩ : PFr).box.length := hm
                  have HE := fr_back hm s4
                  rw [← hp] at g2 T L hm
                  have hbl : p.box.length ≤ 2000 := by rw [hp]; exact s4
                  have HE : Hid (frV (headL p.ep p.frm p.gen ++ p.box) = (p, 0)) := Lib.hid (by rw [hp]; exact HE)
                  clear hp
                  have HM := Lib.hid hm
                  clear hm
                  have ht := (T.out.below hb).more hb.size
                  go_upto_region 16 with (first | (refine wpList_load_all rfl rfl RTFr rfl g2 ?_) | (go_at_call 12; (with_reducible refine (WriteFrameY HM.out ht).mono ?_); rintro e wa ⟨A4, n4, c4, rfl, o4, b4⟩))
                  replace g0 := keep_below b4 (lt_of_block g0) g0
                  replace g1 := keep_below b4 (lt_of_block g1) g1
                  replace g2 := keep_below b4 (lt_of_block g2) g2
                  replace hb := hb.trans (b4.mono hb.size)
                  have q4 := o4.text.len
                  rw [List.length_append, headL_len] at q4
                  have hs := o4.src (by omega) (fun x hx => by
                    rcases List.mem_append.1 hx with h | h
                    · exact headL_lt _ _ _ x h
                    · exact L.out x h)
                  have t4 := o4.text
                  have k4 := o4.cap
                  clear ht b4 o4
                  go_upto_region 18 with (first | (go_at_call 30; (with_reducible refine (ReadFrameE hs HE.out).mono ?_); rintro e wb ⟨A5, c5, rfl, o5, b5⟩) | (refine wpList_newV rfl rfl rfl rfl ZVFr RTFr rfl rfl (fun _ _ => frF_one _ _ _ _) ?_; intro wc g3 b6 hs6))
                  have bb := b5.trans (b6.mono b5.size)
                  replace g0 := keep_below bb (lt_of_block g0) g0
                  replace g1 := keep_below bb (lt_of_block g1) g1
                  replace g2 := keep_below bb (lt_of_block g2) g2
                  replace hb := hb.trans (bb.mono hb.size)
                  replace t4 := (t4.below bb).more bb.size
                  have t5 := (o5.below b6 o5.lt').text
                  clear bb b5 b6 o5 hs hs6 HE
                  go_upto_region 19 with (first | (refine wpList_load_all rfl rfl RTFr rfl g2 ?_) | (go_at_call 14; (with_reducible refine (FrameHeadY HM.out).mono ?_); rintro e wd ⟨A6, n6, c6, rfl, o6, b7⟩))
                  replace g0 := keep_below b7 (lt_of_block g0) g0
                  replace g1 := keep_below b7 (lt_of_block g1) g1
                  replace g2 := keep_below b7 (lt_of_block g2) g2
                  replace hb := hb.trans (b7.mono hb.size)
                  replace g3 := keep_below b7 (lt_of_block g3) g3
                  replace t4 := (t4.below b7).more b7.size
                  replace t5 := (t5.below b7).more b7.size
                  have t6 := o6.text
                  have q6 := t6.len
                  rw [headL_len] at q6
                  clear b7 o6
                  subst q6
                  subst q4
                  have hl2 := lt_of_block g2
                  have hl3 := lt_of_block g3
                  have t7 := ((T.out.below hb).more hb.size)
                  have HT4 := Lib.hid t4
                  have HT6 := Lib.hid t6
                  have HL4 := Lib.hid (show (headL p.ep p.frm p.gen ++ p.box).take 21 = headL p.ep p.frm p.gen from List.take_left' (headL_len _ _ _))
                  have HL5 := Lib.hid (show (headL p.ep p.frm p.gen ++ p.box).drop 21 = p.box from List.drop_left' (headL_len _ _ _))
                  have HTa := Lib.hid (t4.take k4 (show 21 ≤ 21 + p.box.length by omega))
                  have HTb := Lib.hid (t4.from k4 (show 21 ≤ 21 + p.box.length by omega))
                  rw [HL4.out] at HTa
                  rw [HL5.out, Nat.add_sub_cancel_left] at HTb
                  clear t4 t6
                  (try simp only [Act.put, List.setIfInBounds_toArray, List.set_cons_zero, List.set_cons_succ])
                  refine wp_region_can wd.heap.size 37 [(0, false), (1, false), (2, false), (3, false), (4, false), (5, false), (6, false), (7, false), (8, false), (9, true), (10, false), (11, false), (12, false), (13, false), (14, false), (15, false), (16, false), (17, false), (18, false), (19, false), (20, false), (21, false), (22, false), (23, false), (24, false), (25, true), (26, false), (27, false), (28, false), (29, false), (30, false), (31, false), (32, false), (33, false), (34, false), (35, true), (36, false)] (by kernel_rfl) (by kernel_rfl) ?_
                  (simp only [canOps, List.getElem?_cons_zero, List.getElem?_cons_succ, List.drop_succ_cons, List.drop_zero])
                  iterate 5 (first | (refine wpCan_move rfl rfl (fun _ _ _ _ h => h) ?_; (simp only [Act.put, Act.eval, Array.getD_eq_getD_getElem?, List.getElem?_toArray, List.getElem?_cons_zero, List.getElem?_cons_succ, Option.getD_some, List.setIfInBounds_toArray, List.set_cons_zero, List.set_cons_succ])) | (refine wpCan_assign rfl rfl (fun _ _ _ _ h => h) ?_; (simp only [Act.put, Act.eval, Array.getD_eq_getD_getElem?, List.getElem?_toArray, List.getElem?_cons_zero, List.getElem?_cons_succ, Option.getD_some, List.setIfInBounds_toArray, List.set_cons_zero, List.set_cons_succ])) | (refine wpCan_nilCheck rfl rfl rfl (fun _ _ _ _ h => h) ?_; (simp only [Act.put, List.setIfInBounds_toArray, List.set_cons_zero, List.set_cons_succ])) | (refine wpCan_q rfl rfl (fun _ _ _ _ h => h) (by first | exact .bin rfl rfl rfl | exact .indexAddr rfl | exact .un rfl | exact .extract rfl | exact .index rfl | exact .field rfl | exact .slice rfl) (fun K hK => ?_); go_simp; (try (simp only [↓IntWalk.iteOmega]; go_simp)); (try go_bits); refine hK _ ?_; clear hK K))
                  refine wpCan_pick rfl rfl rfl (fun _ _ _ _ h => h) ?_
                  simp only [Bool.false_eq_true, if_false]
                  (try simp only [Act.put, List.setIfInBounds_toArray, List.set_cons_zero, List.set_cons_succ])
                  iterate 1 (first | (refine wpCan_move rfl rfl (fun _ _ _ _ h => h) ?_; (simp only [Act.put, Act.eval, Array.getD_eq_getD_getElem?, List.getElem?_toArray, List.getElem?_cons_zero, List.getElem?_cons_succ, Option.getD_some, List.setIfInBounds_toArray, List.set_cons_zero, List.set_cons_succ])) | (refine wpCan_assign rfl rfl (fun _ _ _ _ h => h) ?_; (simp only [Act.put, Act.eval, Array.getD_eq_getD_getElem?, List.getElem?_toArray, List.getElem?_cons_zero, List.getElem?_cons_succ, Option.getD_some, List.setIfInBounds_toArray, List.set_cons_zero, List.set_cons_succ])) | (refine wpCan_nilCheck rfl rfl rfl (fun _ _ _ _ h => h) ?_; (simp only [Act.put, List.setIfInBounds_toArray, List.set_cons_zero, List.set_cons_succ])) | (refine wpCan_q rfl rfl (fun _ _ _ _ h => h) (by first | exact .bin rfl rfl rfl | exact .indexAddr rfl | exact .un rfl | exact .extract rfl | exact .index rfl | exact .field rfl | exact .slice rfl) (fun K hK => ?_); go_simp; (try (simp only [↓IntWalk.iteOmega]; go_simp)); (try go_bits); refine hK _ ?_; clear hK K))
                  refine wpCan_v rfl (fun _ _ _ _ h => h) (.load rfl rfl hl2 g2) (run_op_load_v rfl RTFr rfl g2) ?_
                  (try simp only [Act.put, List.setIfInBounds_toArray, List.set_cons_zero, List.set_cons_succ])
                  refine wpCan_v rfl (fun _ _ _ _ h => h) (.load rfl rfl hl3 g3) (run_op_load_v rfl RTFr rfl g3) ?_
                  (try simp only [Act.put, List.setIfInBounds_toArray, List.set_cons_zero, List.set_cons_succ])
                  refine wpCan_e rfl (fun K hK => ?_)
                  go_simp
                  refine (SameFrameY (w := wd.drew) t7.drew t5.drew L.out).mono ?_
                  rintro e we ⟨rfl, b8⟩
                  refine hK _ _ (Keep.of_below b8 (Nat.le_refl _)) ?_
                  clear hK K
                  have hb8 := hb.trans (((Below.refl wd.heap.size wd).drew.trans b8).mono hb.size)
                  have c3 : we.cell? ⟨w.heap.size + 1 + 1, 3, none⟩ = some (.slice A p.box.length k) := cell_arrV (keep_below b8 hl2 (show wd.drew.heap[_]? = _ from g2)) 3 (by omega)
                  have g2e := keep_below b8 hl2 (show wd.drew.heap[w.heap.size + 1 + 1]? = _ from g2)
                  have HTc := Lib.hid ((HTa.out.drew.below b8))
                  have HTd := Lib.hid ((HTb.out.drew.below b8))
                  have HTe := Lib.hid ((HT6.out.drew.below b8))
                  have HTf := Lib.hid ((t7.drew.below b8))
                  (try simp only [Act.put, List.setIfInBounds_toArray, List.set_cons_zero, List.set_cons_succ])
                  iterate 1 (first | (refine wpCan_move rfl rfl (fun _ _ _ _ h => h) ?_; (simp only [Act.put, Act.eval, Array.getD_eq_getD_getElem?, List.getElem?_toArray, List.getElem?_cons_zero, List.getElem?_cons_succ, Option.getD_some, List.setIfInBounds_toArray, List.set_cons_zero, List.set_cons_succ])) | (refine wpCan_assign rfl rfl (fun _ _ _ _ h => h) ?_; (simp only [Act.put, Act.eval, Array.getD_eq_getD_getElem?, List.getElem?_toArray, List.getElem?_cons_zero, List.getElem?_cons_succ, Option.getD_some, List.setIfInBounds_toArray, List.set_cons_zero, List.set_cons_succ])) | (refine wpCan_nilCheck rfl rfl rfl (fun _ _ _ _ h => h) ?_; (simp only [Act.put, List.setIfInBounds_toArray, List.set_cons_zero, List.set_cons_succ])) | (refine wpCan_q rfl rfl (fun _ _ _ _ h => h) (by first | exact .bin rfl rfl rfl | exact .indexAddr rfl | exact .un rfl | exact .extract rfl | exact .index rfl | exact .field rfl | exact .slice rfl) (fun K hK => ?_); go_simp; (try (simp only [↓IntWalk.iteOmega]; go_simp)); (try go_bits); refine hK _ ?_; clear hK K))
                  refine wpCan_pick rfl rfl rfl (fun _ _ _ _ h => h) ?_
                  simp only [Bool.false_eq_true, if_false]
                  (try simp only [Act.put, List.setIfInBounds_toArray, List.set_cons_zero, List.set_cons_succ])
                  iterate 2 (first | (refine wpCan_move rfl rfl (fun _ _ _ _ h => h) ?_; (simp only [Act.put, Act.eval, Array.getD_eq_getD_getElem?, List.getElem?_toArray, List.getElem?_cons_zero, List.getElem?_cons_succ, Option.getD_some, List.setIfInBounds_toArray, List.set_cons_zero, List.set_cons_succ])) | (refine wpCan_assign rfl rfl (fun _ _ _ _ h => h) ?_; (simp only [Act.put, Act.eval, Array.getD_eq_getD_getElem?, List.getElem?_toArray, List.getElem?_cons_zero, List.getElem?_cons_succ, Option.getD_some, List.setIfInBounds_toArray, List.set_cons_zero, List.set_cons_succ])) | (refine wpCan_nilCheck rfl rfl rfl (fun _ _ _ _ h => h) ?_; (simp only [Act.put, List.setIfInBounds_toArray, List.set_cons_zero, List.set_cons_succ])) | (refine wpCan_q rfl rfl (fun _ _ _ _ h => h) (by first | exact .bin rfl rfl rfl | exact .indexAddr rfl | exact .un rfl | exact .extract rfl | exact .index rfl | exact .field rfl | exact .slice rfl) (fun K hK => ?_); go_simp; (try (simp only [↓IntWalk.iteOmega]; go_simp)); (try go_bits); refine hK _ ?_; clear hK K))
                  refine wpCan_len rfl rfl rfl Try.underlying22 (fun _ _ _ _ h => h) ?_
                  (try simp only [Act.put, List.setIfInBounds_toArray, List.set_cons_zero, List.set_cons_succ])
                  iterate 1 (first | (refine wpCan_move rfl rfl (fun _ _ _ _ h => h) ?_; (simp only [Act.put, Act.eval, Array.getD_eq_getD_getElem?, List.getElem?_toArray, List.getElem?_cons_zero, List.getElem?_cons_succ, Option.getD_some, List.setIfInBounds_toArray, List.set_cons_zero, List.set_cons_succ])) | (refine wpCan_assign rfl rfl (fun _ _ _ _ h => h) ?_; (simp only [Act.put, Act.eval, Array.getD_eq_getD_getElem?, List.getElem?_toArray, List.getElem?_cons_zero, List.getElem?_cons_succ, Option.getD_some, List.setIfInBounds_toArray, List.set_cons_zero, List.set_cons_succ])) | (refine wpCan_nilCheck rfl rfl rfl (fun _ _ _ _ h => h) ?_; (simp only [Act.put, List.setIfInBounds_toArray, List.set_cons_zero, List.set_cons_succ])) | (refine wpCan_q rfl rfl (fun _ _ _ _ h => h) (by first | exact .bin rfl rfl rfl | exact .indexAddr rfl | exact .un rfl | exact .extract rfl | exact .index rfl | exact .field rfl | exact .slice rfl) (fun K hK => ?_); go_simp; (try (simp only [↓IntWalk.iteOmega]; go_simp)); (try go_bits); refine hK _ ?_; clear hK K))
                  refine wpCan_len rfl rfl rfl Try.underlying22 (fun _ _ _ _ h => h) ?_
                  (try simp only [Act.put, List.setIfInBounds_toArray, List.set_cons_zero, List.set_cons_succ])
                  iterate 1 (first | (refine wpCan_move rfl rfl (fun _ _ _ _ h => h) ?_; (simp only [Act.put, Act.eval, Array.getD_eq_getD_getElem?, List.getElem?_toArray, List.getElem?_cons_zero, List.getElem?_cons_succ, Option.getD_some, List.setIfInBounds_toArray, List.set_cons_zero, List.set_cons_succ])) | (refine wpCan_assign rfl rfl (fun _ _ _ _ h => h) ?_; (simp only [Act.put, Act.eval, Array.getD_eq_getD_getElem?, List.getElem?_toArray, List.getElem?_cons_zero, List.getElem?_cons_succ, Option.getD_some, List.setIfInBounds_toArray, List.set_cons_zero, List.set_cons_succ])) | (refine wpCan_nilCheck rfl rfl rfl (fun _ _ _ _ h => h) ?_; (simp only [Act.put, List.setIfInBounds_toArray, List.set_cons_zero, List.set_cons_succ])) | (refine wpCan_q rfl rfl (fun _ _ _ _ h => h) (by first | exact .bin rfl rfl rfl | exact .indexAddr rfl | exact .un rfl | exact .extract rfl | exact .index rfl | exact .field rfl | exact .slice rfl) (fun K hK => ?_); go_simp; (try (simp only [↓IntWalk.iteOmega]; go_simp)); (try go_bits); refine hK _ ?_; clear hK K))
                  first | rw [show decide (((21 + p.box.length : Nat) : Int) < ((21 : Nat) : Int)) = false from decide_eq_false (by omega)] | rw [show decide ((21 + (p.box.length : Int)) < 21) = false from decide_eq_false (by omega)] | rw [show decide (((21 + p.box.length : Nat) : Int) < 21) = false from decide_eq_false (by omega)] | rw [show decide ((21 + (p.box.length : Int)) < ((21 : Nat) : Int)) = false from decide_eq_false (by omega)]
                  refine wpCan_pick rfl rfl rfl (fun _ _ _ _ h => h) ?_
                  simp only [Bool.false_eq_true, if_false]
                  (try simp only [Act.put, List.setIfInBounds_toArray, List.set_cons_zero, List.set_cons_succ])
                  iterate 3 (first | (refine wpCan_move rfl rfl (fun _ _ _ _ h => h) ?_; (simp only [Act.put, Act.eval, Array.getD_eq_getD_getElem?, List.getElem?_toArray, List.getElem?_cons_zero, List.getElem?_cons_succ, Option.getD_some, List.setIfInBounds_toArray, List.set_cons_zero, List.set_cons_succ])) | (refine wpCan_assign rfl rfl (fun _ _ _ _ h => h) ?_; (simp only [Act.put, Act.eval, Array.getD_eq_getD_getElem?, List.getElem?_toArray, List.getElem?_cons_zero, List.getElem?_cons_succ, Option.getD_some, List.setIfInBounds_toArray, List.set_cons_zero, List.set_cons_succ])) | (refine wpCan_nilCheck rfl rfl rfl (fun _ _ _ _ h => h) ?_; (simp only [Act.put, List.setIfInBounds_toArray, List.set_cons_zero, List.set_cons_succ])) | (refine wpCan_q rfl rfl (fun _ _ _ _ h => h) (by first | exact .bin rfl rfl rfl | exact .indexAddr rfl | exact .un rfl | exact .extract rfl | exact .index rfl | exact .field rfl | exact .slice rfl) (fun K hK => ?_); go_simp; (try (simp only [↓IntWalk.iteOmega]; go_simp)); (try go_bits); refine hK _ ?_; clear hK K))
                  refine wpCan_len rfl rfl rfl Try.underlying22 (fun _ _ _ _ h => h) ?_
                  (try simp only [Act.put, List.setIfInBounds_toArray, List.set_cons_zero, List.set_cons_succ])
                  refine wpCan_v rfl (fun _ _ _ _ h => h) (.slice rfl) (run_op_cut_h (hi := 21) BT rfl rfl rfl (by omega)) ?_
                  (try simp only [Act.put, List.setIfInBounds_toArray, List.set_cons_zero, List.set_cons_succ])
                  iterate 1 (first | (refine wpCan_move rfl rfl (fun _ _ _ _ h => h) ?_; (simp only [Act.put, Act.eval, Array.getD_eq_getD_getElem?, List.getElem?_toArray, List.getElem?_cons_zero, List.getElem?_cons_succ, Option.getD_some, List.setIfInBounds_toArray, List.set_cons_zero, List.set_cons_succ])) | (refine wpCan_assign rfl rfl (fun _ _ _ _ h => h) ?_; (simp only [Act.put, Act.eval, Array.getD_eq_getD_getElem?, List.getElem?_toArray, List.getElem?_cons_zero, List.getElem?_cons_succ, Option.getD_some, List.setIfInBounds_toArray, List.set_cons_zero, List.set_cons_succ])) | (refine wpCan_nilCheck rfl rfl rfl (fun _ _ _ _ h => h) ?_; (simp only [Act.put, List.setIfInBounds_toArray, List.set_cons_zero, List.set_cons_succ])) | (refine wpCan_q rfl rfl (fun _ _ _ _ h => h) (by first | exact .bin rfl rfl rfl | exact .indexAddr rfl | exact .un rfl | exact .extract rfl | exact .index rfl | exact .field rfl | exact .slice rfl) (fun K hK => ?_); go_simp; (try (simp only [↓IntWalk.iteOmega]; go_simp)); (try go_bits); refine hK _ ?_; clear hK K))
                  refine wpCan_e rfl (fun K hK => ?_)
                  go_simp
                  refine (Same_txts HTc.out HTe.out (headL_lt _ _ _)).mono ?_
                  rintro e wf ⟨rfl, rfl⟩
                  refine hK _ _ (Keep.refl _ _) ?_
                  clear hK K
                  (try simp only [Act.put, List.setIfInBounds_toArray, List.set_cons_zero, List.set_cons_succ])
                  iterate 1 (first | (refine wpCan_move rfl rfl (fun _ _ _ _ h => h) ?_; (simp only [Act.put, Act.eval, Array.getD_eq_getD_getElem?, List.getElem?_toArray, List.getElem?_cons_zero, List.getElem?_cons_succ, Option.getD_some, List.setIfInBounds_toArray, List.set_cons_zero, List.set_cons_succ])) | (refine wpCan_assign rfl rfl (fun _ _ _ _ h => h) ?_; (simp only [Act.put, Act.eval, Array.getD_eq_getD_getElem?, List.getElem?_toArray, List.getElem?_cons_zero, List.getElem?_cons_succ, Option.getD_some, List.setIfInBounds_toArray, List.set_cons_zero, List.set_cons_succ])) | (refine wpCan_nilCheck rfl rfl rfl (fun _ _ _ _ h => h) ?_; (simp only [Act.put, List.setIfInBounds_toArray, List.set_cons_zero, List.set_cons_succ])) | (refine wpCan_q rfl rfl (fun _ _ _ _ h => h) (by first | exact .bin rfl rfl rfl | exact .indexAddr rfl | exact .un rfl | exact .extract rfl | exact .index rfl | exact .field rfl | exact .slice rfl) (fun K hK => ?_); go_simp; (try (simp only [↓IntWalk.iteOmega]; go_simp)); (try go_bits); refine hK _ ?_; clear hK K))
                  refine wpCan_pick rfl rfl rfl (fun _ _ _ _ h => h) ?_
                  simp only [Bool.false_eq_true, if_false]
                  (try simp only [Act.put, List.setIfInBounds_toArray, List.set_cons_zero, List.set_cons_succ])
                  iterate 3 (first | (refine wpCan_move rfl rfl (fun _ _ _ _ h => h) ?_; (simp only [Act.put, Act.eval, Array.getD_eq_getD_getElem?, List.getElem?_toArray, List.getElem?_cons_zero, List.getElem?_cons_succ, Option.getD_some, List.setIfInBounds_toArray, List.set_cons_zero, List.set_cons_succ])) | (refine wpCan_assign rfl rfl (fun _ _ _ _ h => h) ?_; (simp only [Act.put, Act.eval, Array.getD_eq_getD_getElem?, List.getElem?_toArray, List.getElem?_cons_zero, List.getElem?_cons_succ, Option.getD_some, List.setIfInBounds_toArray, List.set_cons_zero, List.set_cons_succ])) | (refine wpCan_nilCheck rfl rfl rfl (fun _ _ _ _ h => h) ?_; (simp only [Act.put, List.setIfInBounds_toArray, List.set_cons_zero, List.set_cons_succ])) | (refine wpCan_q rfl rfl (fun _ _ _ _ h => h) (by first | exact .bin rfl rfl rfl | exact .indexAddr rfl | exact .un rfl | exact .extract rfl | exact .index rfl | exact .field rfl | exact .slice rfl) (fun K hK => ?_); go_simp; (try (simp only [↓IntWalk.iteOmega]; go_simp)); (try go_bits); refine hK _ ?_; clear hK K))
                  refine wpCan_len rfl rfl rfl Try.underlying22 (fun _ _ _ _ h => h) ?_
                  (try simp only [Act.put, List.setIfInBounds_toArray, List.set_cons_zero, List.set_cons_succ])
                  refine wpCan_v rfl (fun _ _ _ _ h => h) (.slice rfl) (run_op_cut_l (lo := 21) BT rfl rfl rfl (by omega)) ?_
                  (try simp only [Act.put, List.setIfInBounds_toArray, List.set_cons_zero, List.set_cons_succ])
                  iterate 1 (first | (refine wpCan_move rfl rfl (fun _ _ _ _ h => h) ?_; (simp only [Act.put, Act.eval, Array.getD_eq_getD_getElem?, List.getElem?_toArray, List.getElem?_cons_zero, List.getElem?_cons_succ, Option.getD_some, List.setIfInBounds_toArray, List.set_cons_zero, List.set_cons_succ])) | (refine wpCan_assign rfl rfl (fun _ _ _ _ h => h) ?_; (simp only [Act.put, Act.eval, Array.getD_eq_getD_getElem?, List.getElem?_toArray, List.getElem?_cons_zero, List.getElem?_cons_succ, Option.getD_some, List.setIfInBounds_toArray, List.set_cons_zero, List.set_cons_succ])) | (refine wpCan_nilCheck rfl rfl rfl (fun _ _ _ _ h => h) ?_; (simp only [Act.put, List.setIfInBounds_toArray, List.set_cons_zero, List.set_cons_succ])) | (refine wpCan_q rfl rfl (fun _ _ _ _ h => h) (by first | exact .bin rfl rfl rfl | exact .indexAddr rfl | exact .un rfl | exact .extract rfl | exact .index rfl | exact .field rfl | exact .slice rfl | exact .fieldT rfl FTFr3) (fun K hK => ?_); go_simp; (try (simp only [↓IntWalk.iteOmega]; go_simp)); (try go_bits); refine hK _ ?_; clear hK K))
                  refine wpCan_q rfl rfl (fun _ _ _ _ h => h) (.load rfl rfl hl2 g2e) (fun K hK => ?_)
                  go_simp
                  refine hK _ ?_
                  clear hK K
                  (try simp only [Act.put, List.setIfInBounds_toArray, List.set_cons_zero, List.set_cons_succ])
                  refine wpCan_e rfl (fun K hK => ?_)
                  go_simp
                  refine (Same_txts HTd.out HTf.out L.out).mono ?_
                  rintro e wg ⟨rfl, rfl⟩
                  refine hK _ _ (Keep.refl _ _) ?_
                  clear hK K
                  (try simp only [Act.put, List.setIfInBounds_toArray, List.set_cons_zero, List.set_cons_succ])
                  iterate 1 (first | (refine wpCan_move rfl rfl (fun _ _ _ _ h => h) ?_; (simp only [Act.put, Act.eval, Array.getD_eq_getD_getElem?, List.getElem?_toArray, List.getElem?_cons_zero, List.getElem?_cons_succ, Option.getD_some, List.setIfInBounds_toArray, List.set_cons_zero, List.set_cons_succ])) | (refine wpCan_assign rfl rfl (fun _ _ _ _ h => h) ?_; (simp only [Act.put, Act.eval, Array.getD_eq_getD_getElem?, List.getElem?_toArray, List.getElem?_cons_zero, List.getElem?_cons_succ, Option.getD_some, List.setIfInBounds_toArray, List.set_cons_zero, List.set_cons_succ])) | (refine wpCan_nilCheck rfl rfl rfl (fun _ _ _ _ h => h) ?_; (simp only [Act.put, List.setIfInBounds_toArray, List.set_cons_zero, List.set_cons_succ])) | (refine wpCan_q rfl rfl (fun _ _ _ _ h => h) (by first | exact .bin rfl rfl rfl | exact .indexAddr rfl | exact .un rfl | exact .extract rfl | exact .index rfl | exact .field rfl | exact .slice rfl) (fun K hK => ?_); go_simp; (try (simp only [↓IntWalk.iteOmega]; go_simp)); (try go_bits); refine hK _ ?_; clear hK K))
                  refine wpCan_nil ?_
                  go_wp2
                  go_ret
                  exact ⟨rfl, hb8⟩
                · go_upto_region 16 with (first | (refine wpList_load_all rfl rfl RTFr rfl g2 ?_) | (go_at_call 12; (with_reducible refine (WriteFrameN ep fr ge A n k hm _).mono ?_); rintro e wa ⟨rfl, b4⟩))
                  replace hb := hb.trans (b4.mono hb.size)
                  go_wp2
                  go_ret
                  exact ⟨rfl, hb⟩
          · go_wp2
            go_ret
            exact ⟨rfl, hb⟩
        · go_wp2
          go_ret
          exact ⟨rfl, hb⟩
      · go_wp2
        go_ret
        exact ⟨rfl, hb⟩
    · go_wp2
      go_ret
      exact ⟨rfl, hb⟩
theorem WordBack_law (w : World) (c : Com) (tg : Nat → Nat) (hc : ComOk w w.heap.size c) (hcb : ComB c) (hsn : (c.sn : Int) ≤ 9223372036854775807) (hbn : (c.bn : Int) ≤ 9223372036854775807) (htg : ∀ j, j < 32 → tg j < 256)
    (tw : Int) (_ : -9223372036854775808 ≤ tw ∧ tw < 9223372036854775808) (A1 : Option Addr) (n1 k1 : Nat) (m1 : List Nat) (_ : n1 ≤ 9223372036854775807) (t1 : Txt w w.heap.size A1 n1 k1 m1) (l1 : ∀ x ∈ m1, x < 256) (A2 : Option Addr) (n2 k2 : Nat) (m2 : List Nat) (_ : n2 ≤ 9223372036854775807) (t2 : Txt w w.heap.size A2 n2 k2 m2) (l2 : ∀ x ∈ m2, x < 256) (A3 : Option Addr) (n3 k3 : Nat) (m3 : List Nat) (_ : n3 ≤ 9223372036854775807) (t3 : Txt w w.heap.size A3 n3 k3 m3) (l3 : ∀ x ∈ m3, x < 256)
    (ep : Int) (hep : 0 ≤ ep ∧ ep < 18446744073709551616) (fr : Int) (_ : -9223372036854775808 ≤ fr ∧ fr < 9223372036854775808) (ge : Int) (hge : 0 ≤ ge ∧ ge < 18446744073709551616) (A : Option Addr) (n k : Nat) (m : List Nat) (_ : n ≤ 9223372036854775807) (t : Txt w w.heap.size A n k m) (l : ∀ x ∈ m, x < 256) :
    Calls Try.prog 7 #[.agg (arrV 70 (comV c tg)), .agg #[.int .i64 tw, .slice A1 n1 k1, .slice A2 n2 k2, .slice A3 n3 k3], .agg #[.int .u64 ep, .int .i64 fr, .int .u64 ge, .slice A n k]] w fun e w' => e = .returned (.bool true) ∧ Below w.heap.size w w' :=
  WordBack_any w c tg hc hcb hsn hbn htg tw A1 n1 k1 m1 t1 l1 A2 n2 k2 m2 t2 l2 A3 n3 k3 m3 t3 l3 ep fr ge hep.1 hge.1 A n k m t l
end Go.Proofs.Ytfbfkfdkigpkgaa
