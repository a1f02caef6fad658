/- The law WordStands: whatever the bytes, it answers true. -/
import Derived.Test.YtfbfkfdkigpkgaaRt
namespace Go.Proofs.Ytfbfkfdkigpkgaa
set_option linter.unusedSimpArgs false
set_option linter.unusedVariables false
open Go.RowKit
attribute [local irreducible] beL beK keyL lC lT chk

theorem Src.at_ {w w' : World} {A : Option Addr} {n c : Nat} {l : List Nat} (h : Src w w.heap.size A n c l) (hb : Below w.heap.size w w') : Src w' w'.heap.size A n c l :=
  ⟨Nat.le_refl _, (h.txt.below hb).more hb.size, h.cap, h.len, h.byt⟩
theorem Src.take {w : World} {B : Nat} {A : Option Addr} {n c : Nat} {l : List Nat} (h : Src w B A n c l) {m : Nat} (hm : m ≤ n) : Src w B A m c (l.take m) :=
  ⟨h.low, h.txt.take h.cap hm, Nat.le_trans hm h.cap, Nat.le_trans hm h.len, byt_take h.byt m⟩
theorem Own.src {w : World} {base n c : Nat} {A : Option Addr} {l : List Nat} (h : Own w base 5 (.slice A n c) l) (hn : n ≤ 140737488355328) (hl : Byt l) : Src w w.heap.size A n c l :=
  ⟨Nat.le_refl _, h.text, h.cap, hn, hl⟩
theorem ReadCommitE {A : Option Addr} {n c : Nat} {l : List Nat} {w : World} {p : PCom} {x : Int} (h : Src w w.heap.size A n c l) (hE : cmV l = (p, x)) :
    Calls Try.prog 26 #[.slice A n c] w (CmPost w (p, x)) := by
  have := ReadCommit_any A n c l w h
  rw [hE] at this
  exact this
theorem ReadWelcomeE {A : Option Addr} {n c : Nat} {l : List Nat} {w : World} {p : PWl} {x : Int} (h : Src w w.heap.size A n c l) (hE : wlV l = (p, x)) :
    Calls Try.prog 28 #[.slice A n c] w (WlPost w (p, x)) := by
  have := ReadWelcome_any A n c l w h
  rw [hE] at this
  exact this
theorem ReadFrameE {A : Option Addr} {n c : Nat} {l : List Nat} {w : World} {p : PFr} {x : Int} (h : Src w w.heap.size A n c l) (hE : frV l = (p, x)) :
    Calls Try.prog 30 #[.slice A n c] w (FrPost w (p, x)) := by
  have := ReadFrame_any A n c l w h
  rw [hE] at this
  exact this
/-- A welcome that was read, written. -/
theorem WriteWelcomeP {p : PWl} {A : Nat → Option Addr} {c : Nat → Nat} {base : Nat} {w : World} (h : ∀ j, j < 3 → Own w base 5 (.slice (A j) (p.tx j).length (c j)) (p.tx j)) :
    Calls Try.prog 10 #[.agg (arrV 4 (wlG p.tw p.tx A c 3))] w (RetAny w (lW (p.tw : Int) p.c.length p.t.length p.b.length p.c p.t p.b) (xW (p.tw : Int) p.c.length p.t.length p.b.length)) :=
  WriteWelcome_all (p.tw : Int) (A 0) p.c.length (c 0) (A 1) p.t.length (c 1) (A 2) p.b.length (c 2) p.c p.t p.b w (h 0 (by omega)).text (h 1 (by omega)).text (h 2 (by omega)).text
theorem WriteFrameP {p : PFr} {A : Option Addr} {c base : Nat} {w : World} (h : Own w base 5 (.slice A p.box.length c) p.box) :
    Calls Try.prog 12 #[.agg (arrV 4 (frF p A c))] w (RetAny w (lF (p.ep : Int) (p.frm : Int) (p.gen : Int) p.box.length p.box) (xF (p.ep : Int) (p.frm : Int) (p.gen : Int) p.box.length)) :=
  WriteFrame_all (p.ep : Int) (p.frm : Int) (p.gen : Int) A p.box.length c p.box (Int.natCast_nonneg _) (Int.natCast_nonneg _) w h.text
set_option maxRecDepth 100000 in
set_option maxHeartbeats 8000000 in
theorem WordStands_long (A : Option Addr) (n c : Nat) (l : List Nat) (w : World) (hS : Src w w.heap.size A n c l) (hn : 4000 < n) :
    Calls Try.prog 8 #[.slice A n c] w fun e w' => e = .returned (.bool true) ∧ Below w.heap.size w w' := by
  go_enter Try.func8, Try.ntmps8
  go_upto_region 2 with (go_at_call 9; (with_reducible refine (live_any _).mono ?_); rintro e w1 ⟨rfl, hb⟩)
  have hn2 := hS.len
  go_wp2
  go_ret
  exact ⟨rfl, hb⟩
set_option maxRecDepth 100000 in
set_option maxHeartbeats 8000000 in
theorem WordStands_none (A : Option Addr) (n c : Nat) (l : List Nat) (w : World) (hS : Src w w.heap.size A n c l) (hn : n ≤ 4000) (EC : cmV l = (noCom, 3)) (EW : wlV l = (noWl, 3)) (EF : frV l = (noFr, 3)) :
    Calls Try.prog 8 #[.slice A n c] w fun e w' => e = .returned (.bool true) ∧ Below w.heap.size w w' := by
  go_enter Try.func8, Try.ntmps8
  go_upto_region 2 with (go_at_call 9; (with_reducible refine (live_any _).mono ?_); rintro e w1 ⟨rfl, hb⟩)
  go_upto_region 7 with (fail)
  have hs := hS.at_ hb
  go_upto_region 8 with (first | (go_at_call 26; (with_reducible refine (ReadCommitE hs EC).mono ?_); rintro e w2 ⟨_, rfl, _, b2⟩) | (refine wpList_newV rfl rfl rfl rfl ZVCm RTCom rfl rfl (fun _ _ => comV_one _ _ _) ?_; intro w3 _ b3 hs3))
  replace hb := hb.trans ((b2.trans (b3.mono b2.size)).mono hb.size)
  clear b2 b3 hs hs3
  generalize w3 = wa at *
  go_upto_region 15 with (fail)
  have hs := hS.at_ hb
  go_upto_region 16 with (first | (go_at_call 28; (with_reducible refine (ReadWelcomeE hs EW).mono ?_); rintro e w2 ⟨_, _, rfl, _, b2⟩) | (refine wpList_newV rfl rfl rfl rfl ZVWl RTWl rfl rfl (fun _ _ => wlG_one _ _ _ _ _ _) ?_; intro w3 _ b3 hs3))
  replace hb := hb.trans ((b2.trans (b3.mono b2.size)).mono hb.size)
  clear b2 b3 hs hs3
  generalize w3 = wa at *
  go_upto_region 23 with (fail)
  have hs := hS.at_ hb
  go_upto_region 24 with (first | (go_at_call 30; (with_reducible refine (ReadFrameE hs EF).mono ?_); rintro e w2 ⟨_, _, rfl, _, b2⟩) | (refine wpList_newV rfl rfl rfl rfl ZVFr RTFr rfl rfl (fun _ _ => frF_one _ _ _ _) ?_; intro w3 _ b3 hs3))
  replace hb := hb.trans ((b2.trans (b3.mono b2.size)).mono hb.size)
  clear b2 b3 hs hs3
  generalize w3 = wa at *
  go_wp2
  go_ret
  exact ⟨rfl, hb⟩
set_option maxRecDepth 100000 in
set_option maxHeartbeats 8000000 in
theorem WordStands_fr (A : Option Addr) (n c : Nat) (l : List Nat) (w : World) (hS : Src w w.heap.size A n c l) {p : PFr} (hn : n ≤ 4000) (EC : cmV l = (noCom, 3)) (EW : wlV l = (noWl, 3)) (EF : frV l = (p, 0)) :
    Calls Try.prog 8 #[.slice A n c] w fun e w' => e = .returned (.bool true) ∧ Below w.heap.size w w' := by
  have HX := Lib.hid (fr_x hS.byt EF)
  have HL := Lib.hid (fr_l hS.byt EF)
  go_enter Try.func8, Try.ntmps8
  go_upto_region 2 with (go_at_call 9; (with_reducible refine (live_any _).mono ?_); rintro e w1 ⟨rfl, hb⟩)
  go_upto_region 7 with (fail)
  have hs := hS.at_ hb
  go_upto_region 8 with (first | (go_at_call 26; (with_reducible refine (ReadCommitE hs EC).mono ?_); rintro e w2 ⟨_, rfl, _, b2⟩) | (refine wpList_newV rfl rfl rfl rfl ZVCm RTCom rfl rfl (fun _ _ => comV_one _ _ _) ?_; intro w3 _ b3 hs3))
  replace hb := hb.trans ((b2.trans (b3.mono b2.size)).mono hb.size)
  clear b2 b3 hs hs3
  generalize w3 = wa at *
  go_upto_region 15 with (fail)
  have hs := hS.at_ hb
  go_upto_region 16 with (first | (go_at_call 28; (with_reducible refine (ReadWelcomeE hs EW).mono ?_); rintro e w2 ⟨_, _, rfl, _, b2⟩) | (refine wpList_newV rfl rfl rfl rfl ZVWl RTWl rfl rfl (fun _ _ => wlG_one _ _ _ _ _ _) ?_; intro w3 _ b3 hs3))
  replace hb := hb.trans ((b2.trans (b3.mono b2.size)).mono hb.size)
  clear b2 b3 hs hs3
  generalize w3 = wa at *
  go_upto_region 23 with (fail)
  have hs := hS.at_ hb
  go_upto_region 24 with (first | (go_at_call 30; (with_reducible refine (ReadFrameE hs EF).mono ?_); rintro e w2 ⟨a, ca, rfl, ho, b2⟩) | (refine wpList_newV rfl rfl rfl rfl ZVFr RTFr rfl rfl (fun _ _ => frF_one _ _ _ _) ?_; intro w3 g3 b3 hs3))
  replace hb := hb.trans ((b2.trans (b3.mono b2.size)).mono hb.size)
  replace ho := ho.below b3 ho.lt'
  clear b2 b3 hs hs3
  generalize w3 = wa at *
  go_upto_region 27 with (first | (refine wpList_load_all rfl rfl RTFr rfl g3 ?_) | (go_at_call 12; (with_reducible refine (WriteFrameP ho).mono ?_); rw [HX.out, HL.out]; rintro e w4 ⟨A4, n4, c4, rfl, t4, b4⟩))
  replace hb := hb.trans (b4.mono hb.size)
  have ht := (hS.at_ hb).txt
  have hB := Lib.hid (show ∀ x ∈ l, x < 256 from hS.byt)
  clear ho g3 b4
  go_wp2_with (go_at_call 16; (with_reducible refine (Same_self A n c l A4 n4 c4 _ ht t4 hB.out).mono ?_); rintro e w5 ⟨rfl, rfl⟩)
  go_ret
  exact ⟨rfl, hb⟩
set_option maxRecDepth 100000 in
set_option maxHeartbeats 8000000 in
theorem WordStands_cm (A : Option Addr) (n c : Nat) (l : List Nat) (w : World) (hS : Src w w.heap.size A n c l) {p : PCom} (hn : n ≤ 4000) (EC : cmV l = (p, 0)) (EW : wlV l = (noWl, 3)) (EF : frV l = (noFr, 3)) :
    Calls Try.prog 8 #[.slice A n c] w fun e w' => e = .returned (.bool true) ∧ Below w.heap.size w w' := by
  have hlen : l.length = n := hS.txt.len
  have HLn := Lib.hid hlen
  have HB := Lib.hid (show ∀ x ∈ l, x < 256 from hS.byt)
  have HB8 := Lib.hid (show Byt (l ++ [0]) from fun x hx => by
    rcases List.mem_append.1 hx with h | h
    · exact hS.byt x h
    · rw [List.mem_singleton.1 h]; omega)
  have hn1 : 1 ≤ n := by
    have := (rdV_read rw_com (by decide) hS.byt ((cmV_rd l).symm.trans EC)).1
    rw [this] at hlen
    simp at hlen
    omega
  have HL9 := Lib.hid (show (l ++ [0] : List Nat).length = l.length + 1 by simp)
  have HMax := Lib.hid (show (max ((n : Int) - 1) 0).toNat = n - 1 by omega)
  have hle := cm_less hS.byt EC
  rw [hlen] at hle
  have HLess := Lib.hid hle
  have HOver := Lib.hid (cm_over hS.byt EC 0 (by omega))
  clear hle hlen
  have HX := Lib.hid (fun a => cm_chk hS.byt EC a)
  have HL := Lib.hid (fun a => cm_lT hS.byt EC a)
  have HMd := Lib.hid (fun a => cm_mid hS.byt EC a)
  go_enter Try.func8, Try.ntmps8
  go_upto_region 2 with (go_at_call 9; (with_reducible refine (live_any _).mono ?_); rintro e w1 ⟨rfl, hb⟩)
  go_upto_region 7 with (fail)
  have hs := hS.at_ hb
  go_upto_region 8 with (first | (go_at_call 26; (with_reducible refine (ReadCommitE hs EC).mono ?_); rintro e w2 ⟨a, rfl, ho, b2⟩) | (refine wpList_newV rfl rfl rfl rfl ZVCm RTCom rfl rfl (fun _ _ => comV_one _ _ _) ?_; intro w3 g3 b3 hs3))
  replace hb := hb.trans ((b2.trans (b3.mono b2.size)).mono hb.size)
  replace ho := (ho.below b3 (Nat.le_refl _)).more b3.size
  clear b2 b3 hs hs3
  generalize w3 = wa at *
  replace HX := Lib.hid (HX.out a)
  replace HL := Lib.hid (HL.out a)
  have HM := Lib.hid (HMd.out a)
  clear HMd
  go_upto_region 10 with (fail)
  go_upto_region 11 with (first | (refine wpList_load_all rfl rfl RTCom rfl g3 ?_) | (go_at_call 19; (with_reducible refine (WriteCommit_any (comOf p a) p.tag _ _ ho (Nat.le_refl _) HM.out).mono ?_); rw [HX.out, HL.out]; rintro e w4 ⟨A4, n4, c4, rfl, o4, b4⟩))
  replace hb := hb.trans (b4.mono hb.size)
  replace g3 := keep_below b4 (lt_of_block g3) g3
  have t4 := o4.text
  clear o4
  replace ho := (ho.below b4 (Nat.le_refl _)).more b4.size
  clear b4
  have hs := (hS.at_ hb).take (m := n - 1) (by omega)
  have hMx : 0 ≤ max ((n : Int) - 1) 0 ∧ max ((n : Int) - 1) 0 ≤ (c : Int) := by have := hS.cap; omega
  go_upto_region 12 with (first | (go_at_call 26; rw [HMax.out]; (with_reducible refine (ReadCommitE hs HLess.out).mono ?_); rintro e w5 ⟨_, rfl, _, b2⟩) | (refine wpList_newV rfl rfl rfl rfl ZVCm RTCom rfl rfl (fun _ _ => comV_one _ _ _) ?_; intro w6 _ b6 hs6))
  have bb := b2.trans (b6.mono b2.size)
  replace hb := hb.trans (bb.mono hb.size)
  replace t4 := (t4.below bb).more bb.size
  replace g3 := keep_below bb (lt_of_block g3) g3
  replace ho := (ho.below bb (Nat.le_refl _)).more bb.size
  clear b2 b6 hs6 hs bb hMx
  have ht := (hS.at_ hb).txt
  have hn2 := hS.len
  go_upto_region 13 with (first | (go_at_call 34; (with_reducible refine (Copy_any A n c l _ ht hn2).mono ?_); rintro e w7 ⟨v7, rfl, o7, b7⟩; have HO := Lib.hid o7) | (refine wpList_append_txt rfl rfl BT rfl rfl (HO.out.alloc _) (txt_one w7 _ 0) (by rw [HLn.out]; omega) (by have := b7.size; simp; omega) ?_; intro v8 w8 o8 hg8 hat8; have b8 := own_below (B := w6.heap.size) ((b7.alloc b7.size _)) (HO.out.alloc _) hg8 (Nat.le_refl _) (by have := b7.size; simp; omega); obtain ⟨A8, c8, rfl, t8⟩ := o8.txt; have s8 := o8.src (by rw [HL9.out, HLn.out]; omega) HB8.out; rw [HL9.out] at s8; have HS8 := Lib.hid s8; clear s8 o8 hg8 hat8 t8) | (go_at_call 26; (with_reducible refine (ReadCommitE HS8.out HOver.out).mono ?_); rintro e w9 ⟨_, rfl, _, b2⟩) | (refine wpList_newV rfl rfl rfl rfl ZVCm RTCom rfl rfl (fun _ _ => comV_one _ _ _) ?_; intro wA _ bA hsA))
  have bb := b8.trans ((b2.trans (bA.mono b2.size)).mono b8.size)
  replace hb := hb.trans (bb.mono hb.size)
  replace t4 := (t4.below bb).more bb.size
  replace g3 := keep_below bb (lt_of_block g3) g3
  replace ho := (ho.below bb (Nat.le_refl _)).more bb.size
  replace ht := (hS.at_ hb).txt
  clear b7 b8 o7 HO HS8 b2 bA hsA bb
  go_upto_region 15 with (first | (go_at_call 16; (with_reducible refine (Same_self A n c l A4 n4 c4 _ ht t4 HB.out).mono ?_); rintro e w5 ⟨rfl, rfl⟩) | (refine wpList_valg rfl (run_op_load_v rfl RTCom rfl g3) ?_) | (go_at_call 22; (with_reducible refine (CheckCommit_any (comOf p a) p.tag _ _ ho (Nat.le_refl _) HM.out).mono ?_); rw [HX.out]; rintro e wB ⟨rfl, bB⟩))
  replace hb := hb.trans (bB.mono hb.size)
  clear bB ho g3 t4 ht
  have hs := hS.at_ hb
  go_upto_region 16 with (first | (go_at_call 28; (with_reducible refine (ReadWelcomeE hs EW).mono ?_); rintro e w2 ⟨_, _, rfl, _, b2⟩) | (refine wpList_newV rfl rfl rfl rfl ZVWl RTWl rfl rfl (fun _ _ => wlG_one _ _ _ _ _ _) ?_; intro w3 _ b3 hs3))
  replace hb := hb.trans ((b2.trans (b3.mono b2.size)).mono hb.size)
  clear b2 b3 hs hs3
  generalize w3 = wa at *
  go_upto_region 23 with (fail)
  have hs := hS.at_ hb
  go_upto_region 24 with (first | (go_at_call 30; (with_reducible refine (ReadFrameE hs EF).mono ?_); rintro e w2 ⟨_, _, rfl, _, b2⟩) | (refine wpList_newV rfl rfl rfl rfl ZVFr RTFr rfl rfl (fun _ _ => frF_one _ _ _ _) ?_; intro w3 _ b3 hs3))
  replace hb := hb.trans ((b2.trans (b3.mono b2.size)).mono hb.size)
  clear b2 b3 hs hs3
  generalize w3 = wa at *
  go_wp2
  go_ret
  exact ⟨rfl, hb⟩
set_option maxRecDepth 100000 in
set_option maxHeartbeats 8000000 in
theorem WordStands_wl (A : Option Addr) (n c : Nat) (l : List Nat) (w : World) (hS : Src w w.heap.size A n c l) {p : PWl} (hn : n ≤ 4000) (EC : cmV l = (noCom, 3)) (EW : wlV l = (p, 0)) (EF : frV l = (noFr, 3)) :
    Calls Try.prog 8 #[.slice A n c] w fun e w' => e = .returned (.bool true) ∧ Below w.heap.size w w' := by
  have hlen : l.length = n := hS.txt.len
  have HLn := Lib.hid hlen
  have HB := Lib.hid (show ∀ x ∈ l, x < 256 from hS.byt)
  have HB8 := Lib.hid (show Byt (l ++ [0]) from fun x hx => by
    rcases List.mem_append.1 hx with h | h
    · exact hS.byt x h
    · rw [List.mem_singleton.1 h]; omega)
  have hn1 : 1 ≤ n := by
    have := (rdV_read rw_wl (by decide) hS.byt ((wlV_rd l).symm.trans EW)).1
    rw [this] at hlen
    simp at hlen
    omega
  have HL9 := Lib.hid (show (l ++ [0] : List Nat).length = l.length + 1 by simp)
  have HMax := Lib.hid (show (max ((n : Int) - 1) 0).toNat = n - 1 by omega)
  have hle := wl_less hS.byt EW
  rw [hlen] at hle
  have HLess := Lib.hid hle
  have HOver := Lib.hid (wl_over hS.byt EW 0 (by omega))
  clear hle hlen
  have HX := Lib.hid (wl_x hS.byt EW)
  have HL := Lib.hid (wl_l hS.byt EW)
  go_enter Try.func8, Try.ntmps8
  go_upto_region 2 with (go_at_call 9; (with_reducible refine (live_any _).mono ?_); rintro e w1 ⟨rfl, hb⟩)
  go_upto_region 7 with (fail)
  have hs := hS.at_ hb
  go_upto_region 8 with (first | (go_at_call 26; (with_reducible refine (ReadCommitE hs EC).mono ?_); rintro e w2 ⟨_, rfl, _, b2⟩) | (refine wpList_newV rfl rfl rfl rfl ZVCm RTCom rfl rfl (fun _ _ => comV_one _ _ _) ?_; intro w3 _ b3 hs3))
  replace hb := hb.trans ((b2.trans (b3.mono b2.size)).mono hb.size)
  clear b2 b3 hs hs3
  generalize w3 = wa at *
  go_upto_region 15 with (fail)
  have hs := hS.at_ hb
  go_upto_region 16 with (first | (go_at_call 28; (with_reducible refine (ReadWelcomeE hs EW).mono ?_); rintro e w2 ⟨a, ca, rfl, ho, b2⟩) | (refine wpList_newV rfl rfl rfl rfl ZVWl RTWl rfl rfl (fun _ _ => wlG_one _ _ _ _ _ _) ?_; intro w3 g3 b3 hs3))
  replace hb := hb.trans ((b2.trans (b3.mono b2.size)).mono hb.size)
  replace ho := fun j hj => (ho j hj).below b3 (ho j hj).lt'
  clear b2 b3 hs hs3
  generalize w3 = wa at *
  go_upto_region 18 with (fail)
  go_upto_region 19 with (first | (refine wpList_load_all rfl rfl RTWl rfl g3 ?_) | (go_at_call 10; (with_reducible refine (WriteWelcomeP ho).mono ?_); rw [HX.out, HL.out]; rintro e w4 ⟨A4, n4, c4, rfl, t4, b4⟩))
  replace hb := hb.trans (b4.mono hb.size)
  replace g3 := keep_below b4 (lt_of_block g3) g3
  clear ho g3
  clear b4
  have hs := (hS.at_ hb).take (m := n - 1) (by omega)
  have hMx : 0 ≤ max ((n : Int) - 1) 0 ∧ max ((n : Int) - 1) 0 ≤ (c : Int) := by have := hS.cap; omega
  go_upto_region 20 with (first | (go_at_call 28; rw [HMax.out]; (with_reducible refine (ReadWelcomeE hs HLess.out).mono ?_); rintro e w5 ⟨_, _, rfl, _, b2⟩) | (refine wpList_newV rfl rfl rfl rfl ZVWl RTWl rfl rfl (fun _ _ => wlG_one _ _ _ _ _ _) ?_; intro w6 _ b6 hs6))
  have bb := b2.trans (b6.mono b2.size)
  replace hb := hb.trans (bb.mono hb.size)
  replace t4 := (t4.below bb).more bb.size
  clear b2 b6 hs6 hs bb hMx
  have ht := (hS.at_ hb).txt
  have hn2 := hS.len
  go_upto_region 21 with (first | (go_at_call 34; (with_reducible refine (Copy_any A n c l _ ht hn2).mono ?_); rintro e w7 ⟨v7, rfl, o7, b7⟩; have HO := Lib.hid o7) | (refine wpList_append_txt rfl rfl BT rfl rfl (HO.out.alloc _) (txt_one w7 _ 0) (by rw [HLn.out]; omega) (by have := b7.size; simp; omega) ?_; intro v8 w8 o8 hg8 hat8; have b8 := own_below (B := w6.heap.size) ((b7.alloc b7.size _)) (HO.out.alloc _) hg8 (Nat.le_refl _) (by have := b7.size; simp; omega); obtain ⟨A8, c8, rfl, t8⟩ := o8.txt; have s8 := o8.src (by rw [HL9.out, HLn.out]; omega) HB8.out; rw [HL9.out] at s8; have HS8 := Lib.hid s8; clear s8 o8 hg8 hat8 t8) | (go_at_call 28; (with_reducible refine (ReadWelcomeE HS8.out HOver.out).mono ?_); rintro e w9 ⟨_, _, rfl, _, b2⟩) | (refine wpList_newV rfl rfl rfl rfl ZVWl RTWl rfl rfl (fun _ _ => wlG_one _ _ _ _ _ _) ?_; intro wA _ bA hsA))
  have bb := b8.trans ((b2.trans (bA.mono b2.size)).mono b8.size)
  replace hb := hb.trans (bb.mono hb.size)
  replace t4 := (t4.below bb).more bb.size
  replace ht := (hS.at_ hb).txt
  clear b7 b8 o7 HO HS8 b2 bA hsA bb
  go_upto_region 23 with (go_at_call 16; (with_reducible refine (Same_self A n c l A4 n4 c4 _ ht t4 HB.out).mono ?_); rintro e w5 ⟨rfl, rfl⟩)
  clear t4 ht
  have hs := hS.at_ hb
  go_upto_region 24 with (first | (go_at_call 30; (with_reducible refine (ReadFrameE hs EF).mono ?_); rintro e w2 ⟨_, _, rfl, _, b2⟩) | (refine wpList_newV rfl rfl rfl rfl ZVFr RTFr rfl rfl (fun _ _ => frF_one _ _ _ _) ?_; intro w3 _ b3 hs3))
  replace hb := hb.trans ((b2.trans (b3.mono b2.size)).mono hb.size)
  clear b2 b3 hs hs3
  generalize w3 = wa at *
  go_wp2
  go_ret
  exact ⟨rfl, hb⟩
theorem WordStands_any (A : Option Addr) (n c : Nat) (l : List Nat) (w : World) (hS : Src w w.heap.size A n c l) :
    Calls Try.prog 8 #[.slice A n c] w fun e w' => e = .returned (.bool true) ∧ Below w.heap.size w w' := by
  have hlen : l.length = n := hS.txt.len
  by_cases hn : n ≤ 4000
  · rcases rdV_is OkP noCom 1 (f := comP) l (by omega) with ⟨p, hp⟩ | hp
    · rcases rdV_is okW noWl 2 (f := wlP) l (by omega) with ⟨q, hq⟩ | hq
      · exact (cm_wl hS.byt hp hq).elim
      · rcases frV_is l (by omega) with ⟨r, hr⟩ | hr
        · exact (cm_fr hS.byt hp hr).elim
        · exact WordStands_cm A n c l w hS hn hp hq hr
    · rcases rdV_is okW noWl 2 (f := wlP) l (by omega) with ⟨q, hq⟩ | hq
      · rcases frV_is l (by omega) with ⟨r, hr⟩ | hr
        · exact (wl_fr hS.byt hq hr).elim
        · exact WordStands_wl A n c l w hS hn hp hq hr
      · rcases frV_is l (by omega) with ⟨r, hr⟩ | hr
        · exact WordStands_fr A n c l w hS hn hp hq hr
        · exact WordStands_none A n c l w hS hn hp hq hr
  · exact WordStands_long A n c l w hS (by omega)
theorem WordStands_law (w : World) (A : Option Addr) (n c : Nat) (l : List Nat) (h1 : n ≤ 140737488355328 ∧ n ≤ c) (h : Txt w w.heap.size A n c l) (hl : ∀ x ∈ l, x < 256) :
    Calls Try.prog 8 #[.slice A n c] w fun e w' => e = .returned (.bool true) ∧ Below w.heap.size w w' :=
  WordStands_any A n c l w ⟨Nat.le_refl _, h, h1.2, h1.1, hl⟩
end Go.Proofs.Ytfbfkfdkigpkgaa
