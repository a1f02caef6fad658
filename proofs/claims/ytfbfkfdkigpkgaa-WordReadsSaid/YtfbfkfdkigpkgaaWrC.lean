/- The walks of layer 16: a commit's text. -/
import Derived.Test.YtfbfkfdkigpkgaaRHcm
namespace Go.Proofs.Ytfbfkfdkigpkgaa
set_option linter.unusedSimpArgs false
set_option linter.unusedVariables false
open Go.RowKit
attribute [local irreducible] beL beK keyL

set_option maxRecDepth 100000 in
set_option maxHeartbeats 2000000 in
theorem RHead_any (c : Com) (tg : Nat → Nat) (B : Nat) (w : World) (h : ComOk w B c) (hB : B ≤ w.heap.size) (hf : MidC c) :
    Calls Try.prog 21 #[.agg (arrV 70 (comV c tg))] w (RetOw w (lC c) (chk c)) := by
  by_cases hk : OkCom c
  · rw [chk_yes hk, show lC c = comL c from if_pos hk]
    exact RHead_yes c tg B w h hB hk hf
  · have EL := Lib.hid (show lC c = [] from if_neg hk)
    have EX := Lib.hid (chk_no hk)
    have H0 := Lib.hid h
    have HF := Lib.hid hf
    clear hk h hf
    go_enter Try.func21, Try.ntmps21
    have g0 := heap_alloc_new w (.cells (arrV 70 (comV c tg)) 42)
    have hb : Below w.heap.size w (w.alloc (.cells (arrV 70 (comV c tg)) 42)) := (Below.refl _ _).alloc (Nat.le_refl _) _
    have hok2 := H0.out.below hb hB
    have hBw := Nat.le_trans hB hb.size
    go_wp2_with (first | (refine wpList_load_all rfl rfl RTCom rfl g0 ?_) | (go_at_call 23; (with_reducible refine (RCheck_any c tg B _ hok2 hBw HF.out).mono ?_); rintro e w2 ⟨rfl, b2⟩; rw [EX.out]))
    go_ret2
    exact ⟨none, 0, 0, by rw [EX.out]; rfl, by rw [EL.out]; exact Own.nil_, hb.trans (b2.mono hb.size)⟩
def lT (c : Com) (tg : Nat → Nat) : List Nat := if OkCom c then comL c ++ keyL tg else []
theorem lT_lt (c : Com) (tg : Nat → Nat) (h : ComB c) (ht : ∀ j, j < 32 → tg j < 256) : ∀ x ∈ lT c tg, x < 256 := by
  unfold lT
  split
  · exact app_lt (comL_lt c h rfl) (keyL_lt _ ht)
  · simp

set_option maxRecDepth 100000 in
set_option maxHeartbeats 2000000 in
theorem WriteCommit_any (c : Com) (tg : Nat → Nat) (B : Nat) (w : World) (h : ComOk w B c) (hB : B ≤ w.heap.size) (hf : MidC c) :
    Calls Try.prog 19 #[.agg (arrV 70 (comV c tg))] w (RetOw w (lT c tg) (chk c)) := by
  have H0 := Lib.hid h
  have HF := Lib.hid hf
  clear h hf
  go_enter Try.func19, Try.ntmps19
  have g0 := heap_alloc_new w (.cells (arrV 70 (comV c tg)) 42)
  have hb : Below w.heap.size w (w.alloc (.cells (arrV 70 (comV c tg)) 42)) := (Below.refl _ _).alloc (Nat.le_refl _) _
  have hok2 := H0.out.below hb hB
  have hBw := Nat.le_trans hB hb.size
  go_upto_region 2 with (first | (refine wpList_load_all rfl rfl RTCom rfl g0 ?_) | (go_at_call 18; (with_reducible refine (Head_any c tg B _ hok2 hBw HF.out).mono ?_); rintro e w2 ⟨A1, n1, c1, rfl, o1, b2⟩))
  replace g0 := keep_below b2 (lt_of_block g0) g0
  replace o1 := o1.mono (show w.heap.size + 1 ≤ _ by rw [World.size_alloc]; exact Nat.le_refl _)
  replace hb := hb.trans (b2.mono hb.size)
  clear b2 hok2 hBw
  by_cases hk : OkCom c
  · have EX := Lib.hid (chk_yes hk)
    have EL := Lib.hid (show lT c tg = comL c ++ keyL tg from if_pos hk)
    have hlen := HF.out.ln hk fun i hi => (H0.out.texts i hi).len
    rw [show lC c = comL c from if_pos hk] at o1
    rw [EX.out]
    clear hk
    have hl : ((comL c).length : Int) ≤ 1048544 := by omega
    clear hlen
    obtain ⟨L, hL⟩ : ∃ L, L = comL c := ⟨_, rfl⟩
    rw [← hL] at o1 hl
    have HL := Lib.hid hL
    clear hL
    have ht5 := txt_part (p := tg) g0 (off := 38) (by omega) (fun j hj => by unfold comV; rw [if_neg (by omega), if_neg (by omega), if_neg (by omega), if_neg (by omega), if_neg (by omega), if_neg (by omega), if_neg (by omega), show 38 + j - 38 = j from by omega])
    go_upto_region 4 with (fail)
    go_wp2_with (refine wpList_append_txt rfl rfl BT rfl rfl o1 ht5 (by omega) (lt_of_block g0) ?_; intro v6 w6 ho6 hg6 hat6; replace hb := own_below hb o1 hg6 (by omega) hb.size; replace o1 := ho6; clear ho6 hg6 hat6)
    obtain ⟨A9, c9, rfl, -⟩ := o1.txt
    have HO := Lib.hid o1
    clear o1
    go_ret2
    exact ⟨_, _, _, by rw [EX.out]; rfl, by rw [EL.out, ← HL.out]; exact HO.out.mono (by omega), hb⟩
  · have EX := Lib.hid (chk_no hk)
    have EL := Lib.hid (show lT c tg = [] from if_neg hk)
    rw [EX.out]
    clear hk
    go_wp2
    go_ret2
    exact ⟨none, 0, 0, by rw [EX.out]; rfl, by rw [EL.out]; exact Own.nil_, hb⟩

set_option maxRecDepth 100000 in
set_option maxHeartbeats 2000000 in
theorem RWriteCommit_any (c : Com) (tg : Nat → Nat) (B : Nat) (w : World) (h : ComOk w B c) (hB : B ≤ w.heap.size) (hf : MidC c) :
    Calls Try.prog 20 #[.agg (arrV 70 (comV c tg))] w (RetOw w (lT c tg) (chk c)) := by
  have H0 := Lib.hid h
  have HF := Lib.hid hf
  clear h hf
  go_enter Try.func20, Try.ntmps20
  have g0 := heap_alloc_new w (.cells (arrV 70 (comV c tg)) 42)
  have hb : Below w.heap.size w (w.alloc (.cells (arrV 70 (comV c tg)) 42)) := (Below.refl _ _).alloc (Nat.le_refl _) _
  have hok2 := H0.out.below hb hB
  have hBw := Nat.le_trans hB hb.size
  go_upto_region 2 with (first | (refine wpList_load_all rfl rfl RTCom rfl g0 ?_) | (go_at_call 21; (with_reducible refine (RHead_any c tg B _ hok2 hBw HF.out).mono ?_); rintro e w2 ⟨A1, n1, c1, rfl, o1, b2⟩))
  replace g0 := keep_below b2 (lt_of_block g0) g0
  replace o1 := o1.mono (show w.heap.size + 1 ≤ _ by rw [World.size_alloc]; exact Nat.le_refl _)
  replace hb := hb.trans (b2.mono hb.size)
  clear b2 hok2 hBw
  by_cases hk : OkCom c
  · have EX := Lib.hid (chk_yes hk)
    have EL := Lib.hid (show lT c tg = comL c ++ keyL tg from if_pos hk)
    have hlen := HF.out.ln hk fun i hi => (H0.out.texts i hi).len
    rw [show lC c = comL c from if_pos hk] at o1
    rw [EX.out]
    clear hk
    have hl : ((comL c).length : Int) ≤ 1048544 := by omega
    clear hlen
    obtain ⟨L, hL⟩ : ∃ L, L = comL c := ⟨_, rfl⟩
    rw [← hL] at o1 hl
    have HL := Lib.hid hL
    clear hL
    have ht5 := txt_part (p := tg) g0 (off := 38) (by omega) (fun j hj => by unfold comV; rw [if_neg (by omega), if_neg (by omega), if_neg (by omega), if_neg (by omega), if_neg (by omega), if_neg (by omega), if_neg (by omega), show 38 + j - 38 = j from by omega])
    go_upto_region 4 with (fail)
    go_wp2_with (refine wpList_append_txt rfl rfl BT rfl rfl o1 ht5 (by omega) (lt_of_block g0) ?_; intro v6 w6 ho6 hg6 hat6; replace hb := own_below hb o1 hg6 (by omega) hb.size; replace o1 := ho6; clear ho6 hg6 hat6)
    obtain ⟨A9, c9, rfl, -⟩ := o1.txt
    have HO := Lib.hid o1
    clear o1
    go_ret2
    exact ⟨_, _, _, by rw [EX.out]; rfl, by rw [EL.out, ← HL.out]; exact HO.out.mono (by omega), hb⟩
  · have EX := Lib.hid (chk_no hk)
    have EL := Lib.hid (show lT c tg = [] from if_neg hk)
    rw [EX.out]
    clear hk
    go_wp2
    go_ret2
    exact ⟨none, 0, 0, by rw [EX.out]; rfl, by rw [EL.out]; exact Own.nil_, hb⟩
end Go.Proofs.Ytfbfkfdkigpkgaa
