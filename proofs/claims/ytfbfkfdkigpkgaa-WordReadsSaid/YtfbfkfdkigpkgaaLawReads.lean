/- The law WordReads: whatever the bytes, it answers true. -/
import Derived.Test.YtfbfkfdkigpkgaaRrf
import Derived.Test.YtfbfkfdkigpkgaaRSame
namespace Go.Proofs.Ytfbfkfdkigpkgaa
set_option linter.unusedSimpArgs false
set_option linter.unusedVariables false
open Go.RowKit
attribute [local irreducible] beL beK

theorem mem_key {f : Nat → Nat} {j : Nat} (h : j < 32) : f j ∈ keyL f := List.mem_map.2 ⟨j, List.mem_range.2 h, rfl⟩
theorem mem_flat {α : Type} {G : α → List Nat} {l : List α} {x : α} {y : Nat} (hx : x ∈ l) (hy : y ∈ G x) : y ∈ l.flatMap G := List.mem_flatMap.2 ⟨x, hx, hy⟩
theorem getD_mem {α : Type} (l : List α) (z : α) (i : Nat) (h : i < l.length) : l.getD i z ∈ l := by
  rw [List.getD_eq_getElem?_getD, List.getElem?_eq_getElem h]
  exact List.getElem_mem h
/-- The bytes of a commit that was read. -/
theorem comB_of {p : PCom} (hV : p.V) (hb : ∀ x ∈ p.L, x < 256) (a : At) : ComB (comOf p a) where
  ep := hV.1
  ppt := fun i hi j hj => hb _ (by
    unfold PCom.L
    simp only [List.mem_append]
    refine .inr (.inr (.inl (.inr (mem_flat (getD_mem p.props zP i hi) ?_))))
    unfold PProp.L
    simp only [List.mem_append]
    exact .inr (.inr (mem_key hj)))
  pt := fun j hj => hb _ (by
    unfold PCom.L
    simp only [List.mem_append]
    exact .inr (.inr (.inr (.inl (mem_key hj)))))
  key := fun i hi j hj => hb _ (by
    unfold PCom.L
    simp only [List.mem_append]
    exact .inr (.inr (.inr (.inr (.inr (.inl (mem_flat (G := keyL) (getD_mem p.new (fun _ => 0) i hi) (mem_key hj))))))))
  bx := fun i hi x hx => hb _ (by
    unfold PCom.L
    simp only [List.mem_append]
    exact .inr (.inr (.inr (.inr (.inr (.inr (.inl (mem_flat (G := fun l => beL 2 l.length ++ l) (getD_mem p.boxes [] i hi) (List.mem_append.2 (.inr hx))))))))))
theorem same_self (p : PCom) (a a' : At) : SameC (comOf p a) p.tag (comOf p a') p.tag :=
  ⟨rfl, rfl, ⟨rfl, fun i _ => ⟨rfl, rfl, fun j _ => rfl⟩⟩, fun j _ => rfl, ⟨rfl, fun i _ => ⟨rfl, rfl, rfl, fun j _ => rfl⟩⟩, ⟨rfl, fun i _ => fun j _ => rfl⟩, ⟨rfl, fun i _ => rfl⟩, fun j _ => rfl⟩
theorem cmV_two (l : List Nat) : (∃ p, cmV l = (p, 0)) ∨ ∃ x, cmV l = (noCom, x) := by
  by_cases h : l.length ≤ 1048576
  · rcases rdV_is OkP noCom 1 (f := comP) l h with ⟨p, hp⟩ | hp
    · exact .inl ⟨p, hp⟩
    · exact .inr ⟨3, hp⟩
  · exact .inr ⟨4, cmV_long (by omega)⟩
theorem noCom_len : noCom.L.length ≤ 1048575 := by
  unfold PCom.L noCom
  simp only [List.length_append, beL_len, keyL_len, List.flatMap_nil, List.length_nil]
  omega
theorem cmV_B {l : List Nat} (hb : Byt l) {p : PCom} {x : Int} (h : cmV l = (p, x)) (a : At) : ComB (comOf p a) := by
  rcases cmV_two l with ⟨q, hq⟩ | ⟨y, hq⟩
  · rw [hq] at h
    injection h with h1 h2
    subst h1 h2
    have r := rdV_read rw_com (by decide) hb ((cmV_rd l).symm.trans hq)
    exact comB_of r.2.1 (fun x hx => hb x (by rw [r.1]; exact List.mem_append.2 (.inr hx))) a
  · rw [hq] at h
    injection h with h1 h2
    subst h1
    exact ⟨show (0 : Nat) < _ by omega, fun i hi => absurd hi (by show ¬ i < 0; omega), fun j _ => show (0 : Nat) < 256 by omega, fun i hi => absurd hi (by show ¬ i < 0; omega), fun i hi => absurd hi (by show ¬ i < 0; omega)⟩
theorem cmV_mid {l : List Nat} (hb : Byt l) {p : PCom} {x : Int} (h : cmV l = (p, x)) (a : At) : MidC (comOf p a) := by
  rcases cmV_two l with ⟨q, hq⟩ | ⟨y, hq⟩
  · rw [hq] at h
    injection h with h1 h2
    subst h1 h2
    exact cm_mid hb hq a
  · rw [hq] at h
    injection h with h1 h2
    subst h1
    exact mid_of _ a noCom_len
theorem wlV_byt {l : List Nat} (hb : Byt l) {p : PWl} {x : Int} (h : wlV l = (p, x)) : ∀ j, j < 3 → ∀ y ∈ p.tx j, y < 256 := by
  have key : (∃ q, wlV l = (q, 0)) ∨ ∃ x, wlV l = (noWl, x) := by
    by_cases h : l.length ≤ 1048576
    · rcases rdV_is okW noWl 2 (f := wlP) l h with ⟨p, hp⟩ | hp
      · exact .inl ⟨p, hp⟩
      · exact .inr ⟨3, hp⟩
    · exact .inr ⟨4, wlV_long (by omega)⟩
  intro j hj y hy
  rcases key with ⟨q, hq⟩ | ⟨z, hq⟩
  · rw [hq] at h
    injection h with h1 h2
    subst h1 h2
    have r := rdV_read rw_wl (by decide) hb ((wlV_rd l).symm.trans hq)
    refine hb y ?_
    rw [r.1]
    unfold PWl.L
    simp only [List.mem_append]
    have : j = 0 ∨ j = 1 ∨ j = 2 := by omega
    rcases this with rfl | rfl | rfl
    · exact .inr (.inr (.inl (.inr hy)))
    · exact .inr (.inr (.inr (.inl (.inr hy))))
    · exact .inr (.inr (.inr (.inr (.inr hy))))
  · rw [hq] at h
    injection h with h1 h2
    subst h1
    have : j = 0 ∨ j = 1 ∨ j = 2 := by omega
    rcases this with rfl | rfl | rfl <;> cases hy
theorem frV_byt {l : List Nat} (hb : Byt l) {p : PFr} {x : Int} (h : frV l = (p, x)) : ∀ y ∈ p.box, y < 256 := by
  have key : (∃ q, frV l = (q, 0)) ∨ ∃ x, frV l = (noFr, x) := by
    by_cases h : l.length ≤ 1048576
    · rcases frV_is l h with ⟨p, hp⟩ | hp
      · exact .inl ⟨p, hp⟩
      · exact .inr ⟨3, hp⟩
    · exact .inr ⟨4, frV_long (by omega)⟩
  intro y hy
  rcases key with ⟨q, hq⟩ | ⟨z, hq⟩
  · rw [hq] at h
    injection h with h1 h2
    subst h1 h2
    have r := frV_read hb hq
    refine hb y ?_
    rw [r.1]
    unfold PFr.L
    simp only [List.mem_append]
    exact .inr (.inr (.inr (.inr hy)))
  · rw [hq] at h
    injection h with h1 h2
    subst h1
    cases hy
theorem RReadCommitE {A : Option Addr} {n c : Nat} {l : List Nat} {w : World} {p : PCom} {x : Int} (hs : n ≤ 4000 ∨ 1048576 < n) (h : Src w w.heap.size A n c l) (hE : cmV l = (p, x)) :
    Calls Try.prog 27 #[.slice A n c] w (CmPost w (p, x)) := by
  have := RReadCommit_any A n c l w h hs
  rw [hE] at this
  exact this
theorem RReadWelcomeE {A : Option Addr} {n c : Nat} {l : List Nat} {w : World} {p : PWl} {x : Int} (h : Src w w.heap.size A n c l) (hE : wlV l = (p, x)) :
    Calls Try.prog 29 #[.slice A n c] w (WlPost w (p, x)) := by
  have := RReadWelcome_any A n c l w h
  rw [hE] at this
  exact this
theorem RReadFrameE {A : Option Addr} {n c : Nat} {l : List Nat} {w : World} {p : PFr} {x : Int} (h : Src w w.heap.size A n c l) (hE : frV l = (p, x)) :
    Calls Try.prog 31 #[.slice A n c] w (FrPost w (p, x)) := by
  have := RReadFrame_any A n c l w h
  rw [hE] at this
  exact this
theorem SameFrameW {p : PFr} {A A' : Option Addr} {c c' B B' : Nat} {w : World} (h : Txt w B A p.box.length c p.box) (h' : Txt w B' A' p.box.length c' p.box) (hB : B ≤ w.heap.size) (hB' : B' ≤ w.heap.size) (hl : ∀ x ∈ p.box, x < 256) :
    Calls Try.prog 33 #[.agg (arrV 4 (frF p A c)), .agg (arrV 4 (frF p A' c'))] w fun e w' => e = .returned (.bool true) ∧ Below w.heap.size w w' := SameFrame_self rfl rfl h h' hB hB' hl
theorem WlOkAt {w w' : World} {B : Nat} {p : PWl} {A : Nat → Option Addr} {c : Nat → Nat} (h : WlOk w B p A c) (hb : Below w.heap.size w w') : WlOk w' B p A c := ⟨Nat.le_trans h.low hb.size, fun j hj => (h.txt j hj).below' hb h.low⟩
attribute [local irreducible] keyL lC lT chk SameC
set_option maxRecDepth 100000 in
set_option maxHeartbeats 8000000 in
theorem WordReads_any (A : Option Addr) (n c : Nat) (l : List Nat) (w : World) (hS : Src w w.heap.size A n c l) :
    Calls Try.prog 6 #[.slice A n c] w fun e w' => e = .returned (.bool true) ∧ Below w.heap.size w w' := by
  obtain ⟨p, x, EC⟩ := pair_of (cmV l)
  obtain ⟨q, y, EW⟩ := pair_of (wlV l)
  obtain ⟨r, z, EF⟩ := pair_of (frV l)
  have HB := fun a => Lib.hid (cmV_B hS.byt EC a)
  have HM := fun a => Lib.hid (cmV_mid hS.byt EC a)
  have HWB := Lib.hid (wlV_byt hS.byt EW)
  have HFB := Lib.hid (frV_byt hS.byt EF)
  replace EC := Lib.hid EC
  replace EW := Lib.hid EW
  replace EF := Lib.hid EF
  have hn2 := hS.len
  go_enter Try.func6, Try.ntmps6
  go_upto_region 2 with (go_at_call 9; (with_reducible refine (live_any _).mono ?_); rintro e w1 ⟨rfl, hb⟩)
  by_cases hsm : 4000 < n ∧ n ≤ 1048576
  · obtain ⟨s1, s2⟩ := hsm
    go_wp2
    go_ret
    exact ⟨rfl, hb⟩
  · have hs' : n ≤ 4000 ∨ 1048576 < n := by omega
    have HSM := Lib.hid hs'
    clear hsm
    rcases hs' with hn | hn
    · go_upto_region 6 with (fail)
      have hs := hS.at_ hb
      go_upto_region 7 with (first | (go_at_call 26; (with_reducible refine (ReadCommitE hs EC.out).mono ?_); rintro e w2 ⟨a1, rfl, ho, b2⟩) | (refine wpList_newV rfl rfl rfl rfl ZVCm RTCom rfl rfl (fun _ _ => comV_one _ _ _) ?_; intro w3 g1 b3 hs3))
      have bb := b2.trans (b3.mono b2.size)
      replace hb := hb.trans (bb.mono hb.size)
      have ok1 := (ho.below b3 (Nat.le_refl _)).more b3.size
      clear b2 b3 bb ho hs hs3
      generalize w3 = wx1 at *
      have hs := hS.at_ hb
      go_upto_region 8 with (first | (go_at_call 27; (with_reducible refine (RReadCommitE HSM.out hs EC.out).mono ?_); rintro e w2 ⟨a2, rfl, ho, b2⟩) | (refine wpList_newV rfl rfl rfl rfl ZVCm RTCom rfl rfl (fun _ _ => comV_one _ _ _) ?_; intro w3 g2 b3 hs3))
      have bb := b2.trans (b3.mono b2.size)
      replace hb := hb.trans (bb.mono hb.size)
      replace g1 := keep_below bb (lt_of_block g1) g1
      replace ok1 := ok1.below bb (Nat.le_refl _)
      replace ok1 := ok1.more bb.size
      have ok2 := (ho.below b3 (Nat.le_refl _)).more b3.size
      clear b2 b3 bb ho hs hs3
      generalize w3 = wx2 at *
      have hs := hS.at_ hb
      go_upto_region 9 with (first | (go_at_call 28; (with_reducible refine (ReadWelcomeE hs EW.out).mono ?_); rintro e w2 ⟨A3, c3, rfl, ho, b2⟩) | (refine wpList_newV rfl rfl rfl rfl ZVWl RTWl rfl rfl (fun _ _ => wlG_one _ _ _ _ _ _) ?_; intro w3 g3 b3 hs3))
      have bb := b2.trans (b3.mono b2.size)
      replace hb := hb.trans (bb.mono hb.size)
      replace g1 := keep_below bb (lt_of_block g1) g1
      replace ok1 := ok1.below bb (Nat.le_refl _)
      replace ok1 := ok1.more bb.size
      replace g2 := keep_below bb (lt_of_block g2) g2
      replace ok2 := ok2.below bb (Nat.le_refl _)
      replace ok2 := ok2.more bb.size
      have ok3 : WlOk w3 w3.heap.size q A3 c3 := ⟨Nat.le_refl _, fun j hj => ((ho j hj).below b3 (ho j hj).lt').text⟩
      clear b2 b3 bb ho hs hs3
      generalize w3 = wx3 at *
      have hs := hS.at_ hb
      go_upto_region 10 with (first | (go_at_call 29; (with_reducible refine (RReadWelcomeE hs EW.out).mono ?_); rintro e w2 ⟨A4, c4, rfl, ho, b2⟩) | (refine wpList_newV rfl rfl rfl rfl ZVWl RTWl rfl rfl (fun _ _ => wlG_one _ _ _ _ _ _) ?_; intro w3 g4 b3 hs3))
      have bb := b2.trans (b3.mono b2.size)
      replace hb := hb.trans (bb.mono hb.size)
      replace g1 := keep_below bb (lt_of_block g1) g1
      replace ok1 := ok1.below bb (Nat.le_refl _)
      replace ok1 := ok1.more bb.size
      replace g2 := keep_below bb (lt_of_block g2) g2
      replace ok2 := ok2.below bb (Nat.le_refl _)
      replace ok2 := ok2.more bb.size
      replace g3 := keep_below bb (lt_of_block g3) g3
      replace ok3 := WlOkAt ok3 bb
      have ok4 : WlOk w3 w3.heap.size q A4 c4 := ⟨Nat.le_refl _, fun j hj => ((ho j hj).below b3 (ho j hj).lt').text⟩
      clear b2 b3 bb ho hs hs3
      generalize w3 = wx4 at *
      have hs := hS.at_ hb
      go_upto_region 11 with (first | (go_at_call 30; (with_reducible refine (ReadFrameE hs EF.out).mono ?_); rintro e w2 ⟨A5, c5, rfl, ho, b2⟩) | (refine wpList_newV rfl rfl rfl rfl ZVFr RTFr rfl rfl (fun _ _ => frF_one _ _ _ _) ?_; intro w3 g5 b3 hs3))
      have bb := b2.trans (b3.mono b2.size)
      replace hb := hb.trans (bb.mono hb.size)
      replace g1 := keep_below bb (lt_of_block g1) g1
      replace ok1 := ok1.below bb (Nat.le_refl _)
      replace ok1 := ok1.more bb.size
      replace g2 := keep_below bb (lt_of_block g2) g2
      replace ok2 := ok2.below bb (Nat.le_refl _)
      replace ok2 := ok2.more bb.size
      replace g3 := keep_below bb (lt_of_block g3) g3
      replace ok3 := WlOkAt ok3 bb
      replace g4 := keep_below bb (lt_of_block g4) g4
      replace ok4 := WlOkAt ok4 bb
      have ok5 := (ho.below b3 ho.lt').text
      clear b2 b3 bb ho hs hs3
      generalize w3 = wx5 at *
      have hs := hS.at_ hb
      go_upto_region 12 with (first | (go_at_call 31; (with_reducible refine (RReadFrameE hs EF.out).mono ?_); rintro e w2 ⟨A6, c6, rfl, ho, b2⟩) | (refine wpList_newV rfl rfl rfl rfl ZVFr RTFr rfl rfl (fun _ _ => frF_one _ _ _ _) ?_; intro w3 g6 b3 hs3))
      have bb := b2.trans (b3.mono b2.size)
      replace hb := hb.trans (bb.mono hb.size)
      replace g1 := keep_below bb (lt_of_block g1) g1
      replace ok1 := ok1.below bb (Nat.le_refl _)
      replace ok1 := ok1.more bb.size
      replace g2 := keep_below bb (lt_of_block g2) g2
      replace ok2 := ok2.below bb (Nat.le_refl _)
      replace ok2 := ok2.more bb.size
      replace g3 := keep_below bb (lt_of_block g3) g3
      replace ok3 := WlOkAt ok3 bb
      replace g4 := keep_below bb (lt_of_block g4) g4
      replace ok4 := WlOkAt ok4 bb
      replace g5 := keep_below bb (lt_of_block g5) g5
      replace ok5 := (ok5.below bb).more bb.size
      have ok6 := (ho.below b3 ho.lt').text
      clear b2 b3 bb ho hs hs3
      generalize w3 = wx6 at *
      have HS := Lib.hid (decide_eq_true (same_self p a1 a2))
      have hok1 := ok1
      go_wp2_with (first | (refine wpList_valg rfl (run_op_load_v rfl RTCom rfl g1) ?_) | (refine wpList_valg rfl (run_op_load_v rfl RTCom rfl g2) ?_) | (go_at_call 25; (with_reducible refine (RSameCom_any (comOf p a1) p.tag (comOf p a2) p.tag _ _ ok1 ok2 (HB a1).out (HB a2).out (HM a1).out (Nat.le_refl _)).mono ?_); rw [HS.out]; rintro e w7 ⟨rfl, b7⟩; replace hb := hb.trans (b7.mono hb.size); replace g3 := keep_below b7 (lt_of_block g3) g3; replace g4 := keep_below b7 (lt_of_block g4) g4; replace g5 := keep_below b7 (lt_of_block g5) g5; replace g6 := keep_below b7 (lt_of_block g6) g6; replace ok3 := WlOkAt ok3 b7; replace ok4 := WlOkAt ok4 b7; replace ok5 := (ok5.below b7).more b7.size; replace ok6 := (ok6.below b7).more b7.size) | (refine wpList_valg rfl (run_op_load_v rfl RTWl rfl g3) ?_) | (refine wpList_valg rfl (run_op_load_v rfl RTWl rfl g4) ?_) | (go_at_call 32; (with_reducible refine (SameWelcome_self ok3 ok4 HWB.out).mono ?_); rintro e w8 ⟨rfl, b8⟩; replace hb := hb.trans (b8.mono hb.size); replace g5 := keep_below b8 (lt_of_block g5) g5; replace g6 := keep_below b8 (lt_of_block g6) g6; replace ok5 := (ok5.below b8).more b8.size; replace ok6 := (ok6.below b8).more b8.size) | (refine wpList_valg rfl (run_op_load_v rfl RTFr rfl g5) ?_) | (refine wpList_valg rfl (run_op_load_v rfl RTFr rfl g6) ?_) | (go_at_call 33; (with_reducible refine (SameFrameW ok5 ok6 (Nat.le_refl _) (Nat.le_refl _) HFB.out).mono ?_); rintro e w9 ⟨rfl, b9⟩; replace hb := hb.trans (b9.mono hb.size)))
      go_ret
      exact ⟨rfl, hb⟩
    · go_upto_region 6 with (fail)
      have hs := hS.at_ hb
      go_upto_region 7 with (first | (go_at_call 26; (with_reducible refine (ReadCommitE hs EC.out).mono ?_); rintro e w2 ⟨a1, rfl, ho, b2⟩) | (refine wpList_newV rfl rfl rfl rfl ZVCm RTCom rfl rfl (fun _ _ => comV_one _ _ _) ?_; intro w3 g1 b3 hs3))
      have bb := b2.trans (b3.mono b2.size)
      replace hb := hb.trans (bb.mono hb.size)
      have ok1 := (ho.below b3 (Nat.le_refl _)).more b3.size
      clear b2 b3 bb ho hs hs3
      generalize w3 = wx1 at *
      have hs := hS.at_ hb
      go_upto_region 8 with (first | (go_at_call 27; (with_reducible refine (RReadCommitE HSM.out hs EC.out).mono ?_); rintro e w2 ⟨a2, rfl, ho, b2⟩) | (refine wpList_newV rfl rfl rfl rfl ZVCm RTCom rfl rfl (fun _ _ => comV_one _ _ _) ?_; intro w3 g2 b3 hs3))
      have bb := b2.trans (b3.mono b2.size)
      replace hb := hb.trans (bb.mono hb.size)
      replace g1 := keep_below bb (lt_of_block g1) g1
      replace ok1 := ok1.below bb (Nat.le_refl _)
      replace ok1 := ok1.more bb.size
      have ok2 := (ho.below b3 (Nat.le_refl _)).more b3.size
      clear b2 b3 bb ho hs hs3
      generalize w3 = wx2 at *
      have hs := hS.at_ hb
      go_upto_region 9 with (first | (go_at_call 28; (with_reducible refine (ReadWelcomeE hs EW.out).mono ?_); rintro e w2 ⟨A3, c3, rfl, ho, b2⟩) | (refine wpList_newV rfl rfl rfl rfl ZVWl RTWl rfl rfl (fun _ _ => wlG_one _ _ _ _ _ _) ?_; intro w3 g3 b3 hs3))
      have bb := b2.trans (b3.mono b2.size)
      replace hb := hb.trans (bb.mono hb.size)
      replace g1 := keep_below bb (lt_of_block g1) g1
      replace ok1 := ok1.below bb (Nat.le_refl _)
      replace ok1 := ok1.more bb.size
      replace g2 := keep_below bb (lt_of_block g2) g2
      replace ok2 := ok2.below bb (Nat.le_refl _)
      replace ok2 := ok2.more bb.size
      have ok3 : WlOk w3 w3.heap.size q A3 c3 := ⟨Nat.le_refl _, fun j hj => ((ho j hj).below b3 (ho j hj).lt').text⟩
      clear b2 b3 bb ho hs hs3
      generalize w3 = wx3 at *
      have hs := hS.at_ hb
      go_upto_region 10 with (first | (go_at_call 29; (with_reducible refine (RReadWelcomeE hs EW.out).mono ?_); rintro e w2 ⟨A4, c4, rfl, ho, b2⟩) | (refine wpList_newV rfl rfl rfl rfl ZVWl RTWl rfl rfl (fun _ _ => wlG_one _ _ _ _ _ _) ?_; intro w3 g4 b3 hs3))
      have bb := b2.trans (b3.mono b2.size)
      replace hb := hb.trans (bb.mono hb.size)
      replace g1 := keep_below bb (lt_of_block g1) g1
      replace ok1 := ok1.below bb (Nat.le_refl _)
      replace ok1 := ok1.more bb.size
      replace g2 := keep_below bb (lt_of_block g2) g2
      replace ok2 := ok2.below bb (Nat.le_refl _)
      replace ok2 := ok2.more bb.size
      replace g3 := keep_below bb (lt_of_block g3) g3
      replace ok3 := WlOkAt ok3 bb
      have ok4 : WlOk w3 w3.heap.size q A4 c4 := ⟨Nat.le_refl _, fun j hj => ((ho j hj).below b3 (ho j hj).lt').text⟩
      clear b2 b3 bb ho hs hs3
      generalize w3 = wx4 at *
      have hs := hS.at_ hb
      go_upto_region 11 with (first | (go_at_call 30; (with_reducible refine (ReadFrameE hs EF.out).mono ?_); rintro e w2 ⟨A5, c5, rfl, ho, b2⟩) | (refine wpList_newV rfl rfl rfl rfl ZVFr RTFr rfl rfl (fun _ _ => frF_one _ _ _ _) ?_; intro w3 g5 b3 hs3))
      have bb := b2.trans (b3.mono b2.size)
      replace hb := hb.trans (bb.mono hb.size)
      replace g1 := keep_below bb (lt_of_block g1) g1
      replace ok1 := ok1.below bb (Nat.le_refl _)
      replace ok1 := ok1.more bb.size
      replace g2 := keep_below bb (lt_of_block g2) g2
      replace ok2 := ok2.below bb (Nat.le_refl _)
      replace ok2 := ok2.more bb.size
      replace g3 := keep_below bb (lt_of_block g3) g3
      replace ok3 := WlOkAt ok3 bb
      replace g4 := keep_below bb (lt_of_block g4) g4
      replace ok4 := WlOkAt ok4 bb
      have ok5 := (ho.below b3 ho.lt').text
      clear b2 b3 bb ho hs hs3
      generalize w3 = wx5 at *
      have hs := hS.at_ hb
      go_upto_region 12 with (first | (go_at_call 31; (with_reducible refine (RReadFrameE hs EF.out).mono ?_); rintro e w2 ⟨A6, c6, rfl, ho, b2⟩) | (refine wpList_newV rfl rfl rfl rfl ZVFr RTFr rfl rfl (fun _ _ => frF_one _ _ _ _) ?_; intro w3 g6 b3 hs3))
      have bb := b2.trans (b3.mono b2.size)
      replace hb := hb.trans (bb.mono hb.size)
      replace g1 := keep_below bb (lt_of_block g1) g1
      replace ok1 := ok1.below bb (Nat.le_refl _)
      replace ok1 := ok1.more bb.size
      replace g2 := keep_below bb (lt_of_block g2) g2
      replace ok2 := ok2.below bb (Nat.le_refl _)
      replace ok2 := ok2.more bb.size
      replace g3 := keep_below bb (lt_of_block g3) g3
      replace ok3 := WlOkAt ok3 bb
      replace g4 := keep_below bb (lt_of_block g4) g4
      replace ok4 := WlOkAt ok4 bb
      replace g5 := keep_below bb (lt_of_block g5) g5
      replace ok5 := (ok5.below bb).more bb.size
      have ok6 := (ho.below b3 ho.lt').text
      clear b2 b3 bb ho hs hs3
      generalize w3 = wx6 at *
      have HS := Lib.hid (decide_eq_true (same_self p a1 a2))
      have hok1 := ok1
      go_wp2_with (first | (refine wpList_valg rfl (run_op_load_v rfl RTCom rfl g1) ?_) | (refine wpList_valg rfl (run_op_load_v rfl RTCom rfl g2) ?_) | (go_at_call 25; (with_reducible refine (RSameCom_any (comOf p a1) p.tag (comOf p a2) p.tag _ _ ok1 ok2 (HB a1).out (HB a2).out (HM a1).out (Nat.le_refl _)).mono ?_); rw [HS.out]; rintro e w7 ⟨rfl, b7⟩; replace hb := hb.trans (b7.mono hb.size); replace g3 := keep_below b7 (lt_of_block g3) g3; replace g4 := keep_below b7 (lt_of_block g4) g4; replace g5 := keep_below b7 (lt_of_block g5) g5; replace g6 := keep_below b7 (lt_of_block g6) g6; replace ok3 := WlOkAt ok3 b7; replace ok4 := WlOkAt ok4 b7; replace ok5 := (ok5.below b7).more b7.size; replace ok6 := (ok6.below b7).more b7.size) | (refine wpList_valg rfl (run_op_load_v rfl RTWl rfl g3) ?_) | (refine wpList_valg rfl (run_op_load_v rfl RTWl rfl g4) ?_) | (go_at_call 32; (with_reducible refine (SameWelcome_self ok3 ok4 HWB.out).mono ?_); rintro e w8 ⟨rfl, b8⟩; replace hb := hb.trans (b8.mono hb.size); replace g5 := keep_below b8 (lt_of_block g5) g5; replace g6 := keep_below b8 (lt_of_block g6) g6; replace ok5 := (ok5.below b8).more b8.size; replace ok6 := (ok6.below b8).more b8.size) | (refine wpList_valg rfl (run_op_load_v rfl RTFr rfl g5) ?_) | (refine wpList_valg rfl (run_op_load_v rfl RTFr rfl g6) ?_) | (go_at_call 33; (with_reducible refine (SameFrameW ok5 ok6 (Nat.le_refl _) (Nat.le_refl _) HFB.out).mono ?_); rintro e w9 ⟨rfl, b9⟩; replace hb := hb.trans (b9.mono hb.size)))
      go_ret
      exact ⟨rfl, hb⟩
theorem WordReads_law (w : World) (A : Option Addr) (n c : Nat) (l : List Nat) (h1 : n ≤ 140737488355328 ∧ n ≤ c) (h : Txt w w.heap.size A n c l) (hl : ∀ x ∈ l, x < 256) :
    Calls Try.prog 6 #[.slice A n c] w fun e w' => e = .returned (.bool true) ∧ Below w.heap.size w w' :=
  WordReads_any A n c l w ⟨Nat.le_refl _, h, h1.2, h1.1, hl⟩
end Go.Proofs.Ytfbfkfdkigpkgaa
