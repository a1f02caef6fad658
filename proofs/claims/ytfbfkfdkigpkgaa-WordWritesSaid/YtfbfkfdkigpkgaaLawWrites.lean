/- The law WordWrites: whatever two commits, it answers true. -/
import Derived.Test.YtfbfkfdkigpkgaaWrC
import Derived.Test.YtfbfkfdkigpkgaaRSame
namespace Go.Proofs.Ytfbfkfdkigpkgaa
set_option linter.unusedSimpArgs false
set_option linter.unusedVariables false
open Go.RowKit
attribute [local irreducible] beL beK keyL lC lT chk SameC

theorem run_op_loadV {P : Program} {o : Oper} {a : Act} {w : World} {ty n t g : Nat} {x : Operand} {f : Nat → Value} {fr : Nat × Nat} (ho : o.op = .load ty x) (hT : RowT P ty n) (hx : a.eval x = .pointer (some ⟨g, 0, none⟩)) (hg : w.heap[g]? = some (.cells (arrV n f) t fr)) :
    (execOp a.eval o).run P w = .ok (.value (.agg (arrV n f))) w := by
  have := run_loadVar_arrV hT hg (show 0 + n ≤ n by omega)
  simp only [Nat.zero_add] at this
  rw [run_op_load ho hx this]

set_option maxRecDepth 100000 in
set_option maxHeartbeats 4000000 in
theorem WordWrites_any (w : World) (c : Com) (tg : Nat → Nat) (hc : ComOk w w.heap.size c) (hcb : ComB c) (hsn : (c.sn : Int) ≤ 9223372036854775807) (hbn : (c.bn : Int) ≤ 9223372036854775807) (htg : ∀ j, j < 32 → tg j < 256)
    (o : Com) (tg' : Nat → Nat) (ho : ComOk w w.heap.size o) (hob : ComB o) (hsn' : (o.sn : Int) ≤ 9223372036854775807) (hbn' : (o.bn : Int) ≤ 9223372036854775807) (htg' : ∀ j, j < 32 → tg' j < 256) :
    Calls Try.prog 5 #[.agg (arrV 70 (comV c tg)), .agg (arrV 70 (comV o tg'))] w fun e w' => e = .returned (.bool true) ∧ Below w.heap.size w w' := by
  have H0 := Lib.hid hc
  have H1 := Lib.hid ho
  have HCB := Lib.hid hcb
  have HOB := Lib.hid hob
  have HT := Lib.hid htg
  clear hc ho hcb hob htg htg'
  go_enter Try.func5, Try.ntmps5
  obtain ⟨g0, g1, hz, hb⟩ := alloc2 w (.cells (arrV 70 (comV c tg)) 42) (.cells (arrV 70 (comV o tg')) 42)
  go_upto_region 2 with (go_at_call 9; (with_reducible refine (live_any _).mono ?_); rintro e w1 ⟨rfl, b1⟩)
  replace g0 := keep_below b1 (by omega) g0
  replace g1 := keep_below b1 (by omega) g1
  replace hb := hb.trans (b1.mono (by omega))
  clear b1 hz
  have hok := H0.out.below hb (Nat.le_refl _)
  go_wp2_with (first | (refine wpList_load_all rfl rfl RTCom rfl g0 ?_) | (go_at_call 17; fail))
  refine (Few_any c tg w.heap.size _ hok hb.size hsn hbn).mono ?_
  rintro e w2 ⟨⟨q, rfl, hq⟩, b2⟩
  replace g0 := keep_below b2 (lt_of_block g0) g0
  replace g1 := keep_below b2 (lt_of_block g1) g1
  replace hb := hb.trans (b2.mono hb.size)
  clear b2 hok
  cases q with
  | false =>
    clear hq
    go_wp2
    go_ret
    exact ⟨rfl, hb⟩
  | true =>
    have HF := Lib.hid (hq rfl)
    clear hq
    have hok := H1.out.below hb (Nat.le_refl _)
    go_wp2_with (first | (refine wpList_valg rfl (run_op_loadV rfl RTCom rfl g1) ?_) | (go_at_call 17; fail))
    refine (Few_any o tg' w.heap.size _ hok hb.size hsn' hbn').mono ?_
    rintro e w3 ⟨⟨q, rfl, hq⟩, b2⟩
    replace g0 := keep_below b2 (lt_of_block g0) g0
    replace g1 := keep_below b2 (lt_of_block g1) g1
    replace hb := hb.trans (b2.mono hb.size)
    clear b2 hok
    cases q with
    | false =>
      clear hq
      go_wp2
      go_ret
      exact ⟨rfl, hb⟩
    | true =>
      clear hq
      have hok := H0.out.below hb (Nat.le_refl _)
      go_upto_region 5 with (first | (refine wpList_load_all rfl rfl RTCom rfl g0 ?_) | (go_at_call 19; (with_reducible refine (WriteCommit_any c tg w.heap.size _ hok hb.size HF.out).mono ?_); rintro e w4 ⟨A1, n1, c1, rfl, o1, b4⟩))
      replace g0 := keep_below b4 (lt_of_block g0) g0
      replace g1 := keep_below b4 (lt_of_block g1) g1
      replace hb := hb.trans (b4.mono hb.size)
      clear b4 hok
      have hok := H0.out.below hb (Nat.le_refl _)
      go_upto_region 6 with (first | (refine wpList_load_all rfl rfl RTCom rfl g0 ?_) | (go_at_call 20; (with_reducible refine (RWriteCommit_any c tg w.heap.size _ hok hb.size HF.out).mono ?_); rintro e w5 ⟨A2, n2, c2, rfl, o2, b5⟩))
      replace g0 := keep_below b5 (lt_of_block g0) g0
      replace g1 := keep_below b5 (lt_of_block g1) g1
      replace o1 := o1.below b5 o1.lt'
      replace hb := hb.trans (b5.mono hb.size)
      clear b5 hok
      have hok := H0.out.below hb (Nat.le_refl _)
      go_upto_region 7 with (first | (refine wpList_load_all rfl rfl RTCom rfl g0 ?_) | (go_at_call 18; (with_reducible refine (Head_any c tg w.heap.size _ hok hb.size HF.out).mono ?_); rintro e w6 ⟨A3, n3, c3, rfl, o3, b6⟩))
      replace g0 := keep_below b6 (lt_of_block g0) g0
      replace g1 := keep_below b6 (lt_of_block g1) g1
      replace o1 := o1.below b6 o1.lt'
      replace o2 := o2.below b6 o2.lt'
      replace hb := hb.trans (b6.mono hb.size)
      clear b6 hok
      have hok := H0.out.below hb (Nat.le_refl _)
      go_upto_region 8 with (first | (refine wpList_load_all rfl rfl RTCom rfl g0 ?_) | (go_at_call 21; (with_reducible refine (RHead_any c tg w.heap.size _ hok hb.size HF.out).mono ?_); rintro e w7 ⟨A4, n4, c4, rfl, o4, b7⟩))
      replace g0 := keep_below b7 (lt_of_block g0) g0
      replace g1 := keep_below b7 (lt_of_block g1) g1
      replace o1 := o1.below b7 o1.lt'
      replace o2 := o2.below b7 o2.lt'
      replace o3 := o3.below b7 o3.lt'
      replace hb := hb.trans (b7.mono hb.size)
      clear b7 hok
      have t1 := o1.text.drew
      have t2 := o2.text.drew
      have t3 := o3.text.drew
      have t4 := o4.text.drew
      clear o1 o2 o3 o4
      have hl0 := lt_of_block g0
      have hl1 := lt_of_block g1
      have hok := (H0.out.below hb (Nat.le_refl _)).below (Below.refl w7.heap.size w7).drew hb.size
      have hok1 := (H1.out.below hb (Nat.le_refl _)).below (Below.refl w7.heap.size w7).drew hb.size
      (try simp only [Act.put, List.setIfInBounds_toArray, List.set_cons_zero, List.set_cons_succ])
      refine wp_region_can w7.heap.size 37 [(0, false), (1, false), (2, false), (3, false), (4, true), (5, false), (6, false), (7, false), (8, false), (9, false), (10, false), (11, false), (12, false), (13, false), (14, true), (15, false), (16, false), (17, false), (18, false), (19, false), (20, false), (21, false), (22, false), (24, false), (23, true), (25, true), (26, false), (27, false), (28, false), (29, false), (30, false), (32, false), (33, false), (31, true), (34, true), (35, false), (36, false)] (by kernel_rfl) (by kernel_rfl) ?_
      (simp only [canOps, List.getElem?_cons_zero, List.getElem?_cons_succ, List.drop_succ_cons, List.drop_zero])
      iterate 4 (first | (refine wpCan_move rfl rfl (fun _ _ _ _ h => h) ?_; (simp only [Act.put, Act.eval, Array.getD_eq_getD_getElem?, List.getElem?_toArray, List.getElem?_cons_zero, List.getElem?_cons_succ, Option.getD_some, List.setIfInBounds_toArray, List.set_cons_zero, List.set_cons_succ])) | (refine wpCan_assign rfl rfl (fun _ _ _ _ h => h) ?_; (simp only [Act.put, Act.eval, Array.getD_eq_getD_getElem?, List.getElem?_toArray, List.getElem?_cons_zero, List.getElem?_cons_succ, Option.getD_some, List.setIfInBounds_toArray, List.set_cons_zero, List.set_cons_succ])) | (refine wpCan_nilCheck rfl rfl rfl (fun _ _ _ _ h => h) ?_; (simp only [Act.put, List.setIfInBounds_toArray, List.set_cons_zero, List.set_cons_succ])) | (refine wpCan_q rfl rfl (fun _ _ _ _ h => h) (by first | exact .bin rfl rfl rfl | exact .indexAddr rfl | exact .un rfl | exact .extract rfl | exact .index rfl | exact .field rfl | exact .slice rfl) (fun K hK => ?_); go_simp; (try (simp only [↓IntWalk.iteOmega]; go_simp)); (try go_bits); refine hK _ ?_; clear hK K))
      refine wpCan_e rfl (fun K hK => ?_)
      go_simp
      refine (Same_self A1 n1 c1 _ A2 n2 c2 _ t1 t2 (lT_lt c tg HCB.out HT.out)).mono ?_
      rintro e w8 ⟨rfl, rfl⟩
      refine hK _ _ (Keep.refl _ _) ?_
      clear hK K
      (try simp only [Act.put, List.setIfInBounds_toArray, List.set_cons_zero, List.set_cons_succ])
      refine wpCan_pick rfl rfl rfl (fun _ _ _ _ h => h) ?_
      simp only [if_true]
      (try simp only [Act.put, List.setIfInBounds_toArray, List.set_cons_zero, List.set_cons_succ])
      iterate 4 (first | (refine wpCan_move rfl rfl (fun _ _ _ _ h => h) ?_; (simp only [Act.put, Act.eval, Array.getD_eq_getD_getElem?, List.getElem?_toArray, List.getElem?_cons_zero, List.getElem?_cons_succ, Option.getD_some, List.setIfInBounds_toArray, List.set_cons_zero, List.set_cons_succ])) | (refine wpCan_assign rfl rfl (fun _ _ _ _ h => h) ?_; (simp only [Act.put, Act.eval, Array.getD_eq_getD_getElem?, List.getElem?_toArray, List.getElem?_cons_zero, List.getElem?_cons_succ, Option.getD_some, List.setIfInBounds_toArray, List.set_cons_zero, List.set_cons_succ])) | (refine wpCan_nilCheck rfl rfl rfl (fun _ _ _ _ h => h) ?_; (simp only [Act.put, List.setIfInBounds_toArray, List.set_cons_zero, List.set_cons_succ])) | (refine wpCan_q rfl rfl (fun _ _ _ _ h => h) (by first | exact .bin rfl rfl rfl | exact .indexAddr rfl | exact .un rfl | exact .extract rfl | exact .index rfl | exact .field rfl | exact .slice rfl) (fun K hK => ?_); go_simp; (try (simp only [↓IntWalk.iteOmega]; go_simp)); (try go_bits); refine hK _ ?_; clear hK K))
      try rw [beq_self_eq_true]
      refine wpCan_pick rfl rfl rfl (fun _ _ _ _ h => h) ?_
      simp only [if_true]
      (try simp only [Act.put, List.setIfInBounds_toArray, List.set_cons_zero, List.set_cons_succ])
      iterate 3 (first | (refine wpCan_move rfl rfl (fun _ _ _ _ h => h) ?_; (simp only [Act.put, Act.eval, Array.getD_eq_getD_getElem?, List.getElem?_toArray, List.getElem?_cons_zero, List.getElem?_cons_succ, Option.getD_some, List.setIfInBounds_toArray, List.set_cons_zero, List.set_cons_succ])) | (refine wpCan_assign rfl rfl (fun _ _ _ _ h => h) ?_; (simp only [Act.put, Act.eval, Array.getD_eq_getD_getElem?, List.getElem?_toArray, List.getElem?_cons_zero, List.getElem?_cons_succ, Option.getD_some, List.setIfInBounds_toArray, List.set_cons_zero, List.set_cons_succ])) | (refine wpCan_nilCheck rfl rfl rfl (fun _ _ _ _ h => h) ?_; (simp only [Act.put, List.setIfInBounds_toArray, List.set_cons_zero, List.set_cons_succ])) | (refine wpCan_q rfl rfl (fun _ _ _ _ h => h) (by first | exact .bin rfl rfl rfl | exact .indexAddr rfl | exact .un rfl | exact .extract rfl | exact .index rfl | exact .field rfl | exact .slice rfl) (fun K hK => ?_); go_simp; (try (simp only [↓IntWalk.iteOmega]; go_simp)); (try go_bits); refine hK _ ?_; clear hK K))
      refine wpCan_e rfl (fun K hK => ?_)
      go_simp
      refine (Same_self A3 n3 c3 _ A4 n4 c4 _ t3 t4 (lC_lt c HCB.out)).mono ?_
      rintro e w9 ⟨rfl, rfl⟩
      refine hK _ _ (Keep.refl _ _) ?_
      clear hK K
      (try simp only [Act.put, List.setIfInBounds_toArray, List.set_cons_zero, List.set_cons_succ])
      refine wpCan_pick rfl rfl rfl (fun _ _ _ _ h => h) ?_
      simp only [if_true]
      (try simp only [Act.put, List.setIfInBounds_toArray, List.set_cons_zero, List.set_cons_succ])
      iterate 4 (first | (refine wpCan_move rfl rfl (fun _ _ _ _ h => h) ?_; (simp only [Act.put, Act.eval, Array.getD_eq_getD_getElem?, List.getElem?_toArray, List.getElem?_cons_zero, List.getElem?_cons_succ, Option.getD_some, List.setIfInBounds_toArray, List.set_cons_zero, List.set_cons_succ])) | (refine wpCan_assign rfl rfl (fun _ _ _ _ h => h) ?_; (simp only [Act.put, Act.eval, Array.getD_eq_getD_getElem?, List.getElem?_toArray, List.getElem?_cons_zero, List.getElem?_cons_succ, Option.getD_some, List.setIfInBounds_toArray, List.set_cons_zero, List.set_cons_succ])) | (refine wpCan_nilCheck rfl rfl rfl (fun _ _ _ _ h => h) ?_; (simp only [Act.put, List.setIfInBounds_toArray, List.set_cons_zero, List.set_cons_succ])) | (refine wpCan_q rfl rfl (fun _ _ _ _ h => h) (by first | exact .bin rfl rfl rfl | exact .indexAddr rfl | exact .un rfl | exact .extract rfl | exact .index rfl | exact .field rfl | exact .slice rfl) (fun K hK => ?_); go_simp; (try (simp only [↓IntWalk.iteOmega]; go_simp)); (try go_bits); refine hK _ ?_; clear hK K))
      try rw [beq_self_eq_true]
      refine wpCan_pick rfl rfl rfl (fun _ _ _ _ h => h) ?_
      simp only [if_true]
      (try simp only [Act.put, List.setIfInBounds_toArray, List.set_cons_zero, List.set_cons_succ])
      iterate 1 (first | (refine wpCan_move rfl rfl (fun _ _ _ _ h => h) ?_; (simp only [Act.put, Act.eval, Array.getD_eq_getD_getElem?, List.getElem?_toArray, List.getElem?_cons_zero, List.getElem?_cons_succ, Option.getD_some, List.setIfInBounds_toArray, List.set_cons_zero, List.set_cons_succ])) | (refine wpCan_assign rfl rfl (fun _ _ _ _ h => h) ?_; (simp only [Act.put, Act.eval, Array.getD_eq_getD_getElem?, List.getElem?_toArray, List.getElem?_cons_zero, List.getElem?_cons_succ, Option.getD_some, List.setIfInBounds_toArray, List.set_cons_zero, List.set_cons_succ])) | (refine wpCan_nilCheck rfl rfl rfl (fun _ _ _ _ h => h) ?_; (simp only [Act.put, List.setIfInBounds_toArray, List.set_cons_zero, List.set_cons_succ])) | (refine wpCan_q rfl rfl (fun _ _ _ _ h => h) (by first | exact .bin rfl rfl rfl | exact .indexAddr rfl | exact .un rfl | exact .extract rfl | exact .index rfl | exact .field rfl | exact .slice rfl) (fun K hK => ?_); go_simp; (try (simp only [↓IntWalk.iteOmega]; go_simp)); (try go_bits); refine hK _ ?_; clear hK K))
      refine wpCan_v rfl (fun _ _ _ _ h => h) (.load rfl rfl hl0 g0) (run_op_loadV rfl RTCom rfl g0) ?_
      (try simp only [Act.put, List.setIfInBounds_toArray, List.set_cons_zero, List.set_cons_succ])
      refine wpCan_v rfl (fun _ _ _ _ h => h) (.load rfl rfl hl0 g0) (run_op_loadV rfl RTCom rfl g0) ?_
      (try simp only [Act.put, List.setIfInBounds_toArray, List.set_cons_zero, List.set_cons_succ])
      refine wpCan_e rfl (fun K hK => ?_)
      go_simp
      refine (CheckCommit_any c tg w.heap.size _ hok hb.size HF.out).mono ?_
      rintro e w9 ⟨rfl, b9⟩
      refine hK _ _ (Keep.of_below b9 (Nat.le_refl _)) ?_
      clear hK K
      have k0 := keep_below (w := w7.drew) b9 hl0 g0
      have k1 := keep_below (w := w7.drew) b9 hl1 g1
      have ok0 := hok.below b9 hb.size
      have ok1 := hok1.below b9 hb.size
      have hb9 := hb.drew.trans (b9.mono hb.size)
      have hs9 : w7.heap.size ≤ w9.heap.size := b9.size
      (try simp only [Act.put, List.setIfInBounds_toArray, List.set_cons_zero, List.set_cons_succ])
      refine wpCan_e rfl (fun K hK => ?_)
      go_simp
      refine (RCheck_any c tg w.heap.size _ ok0 hb9.size HF.out).mono ?_
      rintro e w10 ⟨rfl, b10⟩
      refine hK _ _ (Keep.of_below b10 hs9) ?_
      clear hK K
      replace k0 := keep_below b10 (lt_of_block k0) k0
      replace k1 := keep_below b10 (lt_of_block k1) k1
      replace ok0 := ok0.below b10 hb9.size
      replace ok1 := ok1.below b10 hb9.size
      have hb10 := hb9.trans (b10.mono hb9.size)
      have hs10 : w7.heap.size ≤ w10.heap.size := Nat.le_trans hs9 b10.size
      (try simp only [Act.put, List.setIfInBounds_toArray, List.set_cons_zero, List.set_cons_succ])
      iterate 1 (first | (refine wpCan_move rfl rfl (fun _ _ _ _ h => h) ?_; (simp only [Act.put, Act.eval, Array.getD_eq_getD_getElem?, List.getElem?_toArray, List.getElem?_cons_zero, List.getElem?_cons_succ, Option.getD_some, List.setIfInBounds_toArray, List.set_cons_zero, List.set_cons_succ])) | (refine wpCan_assign rfl rfl (fun _ _ _ _ h => h) ?_; (simp only [Act.put, Act.eval, Array.getD_eq_getD_getElem?, List.getElem?_toArray, List.getElem?_cons_zero, List.getElem?_cons_succ, Option.getD_some, List.setIfInBounds_toArray, List.set_cons_zero, List.set_cons_succ])) | (refine wpCan_nilCheck rfl rfl rfl (fun _ _ _ _ h => h) ?_; (simp only [Act.put, List.setIfInBounds_toArray, List.set_cons_zero, List.set_cons_succ])) | (refine wpCan_q rfl rfl (fun _ _ _ _ h => h) (by first | exact .bin rfl rfl rfl | exact .indexAddr rfl | exact .un rfl | exact .extract rfl | exact .index rfl | exact .field rfl | exact .slice rfl) (fun K hK => ?_); go_simp; (try (simp only [↓IntWalk.iteOmega]; go_simp)); (try go_bits); refine hK _ ?_; clear hK K))
      try rw [beq_self_eq_true]
      refine wpCan_pick rfl rfl rfl (fun _ _ _ _ h => h) ?_
      simp only [if_true]
      (try simp only [Act.put, List.setIfInBounds_toArray, List.set_cons_zero, List.set_cons_succ])
      iterate 1 (first | (refine wpCan_move rfl rfl (fun _ _ _ _ h => h) ?_; (simp only [Act.put, Act.eval, Array.getD_eq_getD_getElem?, List.getElem?_toArray, List.getElem?_cons_zero, List.getElem?_cons_succ, Option.getD_some, List.setIfInBounds_toArray, List.set_cons_zero, List.set_cons_succ])) | (refine wpCan_assign rfl rfl (fun _ _ _ _ h => h) ?_; (simp only [Act.put, Act.eval, Array.getD_eq_getD_getElem?, List.getElem?_toArray, List.getElem?_cons_zero, List.getElem?_cons_succ, Option.getD_some, List.setIfInBounds_toArray, List.set_cons_zero, List.set_cons_succ])) | (refine wpCan_nilCheck rfl rfl rfl (fun _ _ _ _ h => h) ?_; (simp only [Act.put, List.setIfInBounds_toArray, List.set_cons_zero, List.set_cons_succ])) | (refine wpCan_q rfl rfl (fun _ _ _ _ h => h) (by first | exact .bin rfl rfl rfl | exact .indexAddr rfl | exact .un rfl | exact .extract rfl | exact .index rfl | exact .field rfl | exact .slice rfl) (fun K hK => ?_); go_simp; (try (simp only [↓IntWalk.iteOmega]; go_simp)); (try go_bits); refine hK _ ?_; clear hK K))
      refine wpCan_v rfl (fun _ _ _ _ h => h) (.load rfl rfl hl0 k0) (run_op_loadV rfl RTCom rfl k0) ?_
      (try simp only [Act.put, List.setIfInBounds_toArray, List.set_cons_zero, List.set_cons_succ])
      refine wpCan_v rfl (fun _ _ _ _ h => h) (.load rfl rfl hl1 k1) (run_op_loadV rfl RTCom rfl k1) ?_
      (try simp only [Act.put, List.setIfInBounds_toArray, List.set_cons_zero, List.set_cons_succ])
      refine wpCan_v rfl (fun _ _ _ _ h => h) (.load rfl rfl hl0 k0) (run_op_loadV rfl RTCom rfl k0) ?_
      (try simp only [Act.put, List.setIfInBounds_toArray, List.set_cons_zero, List.set_cons_succ])
      refine wpCan_v rfl (fun _ _ _ _ h => h) (.load rfl rfl hl1 k1) (run_op_loadV rfl RTCom rfl k1) ?_
      (try simp only [Act.put, List.setIfInBounds_toArray, List.set_cons_zero, List.set_cons_succ])
      refine wpCan_e rfl (fun K hK => ?_)
      go_simp
      refine (SameCom_any c tg o tg' w.heap.size _ ok0 ok1 HCB.out HOB.out HF.out hb10.size).mono ?_
      rintro e w11 ⟨rfl, b11⟩
      refine hK _ _ (Keep.of_below b11 hs10) ?_
      clear hK K
      replace ok0 := ok0.below b11 hb10.size
      replace ok1 := ok1.below b11 hb10.size
      have hb11 := hb10.trans (b11.mono hb10.size)
      have hs11 : w7.heap.size ≤ w11.heap.size := Nat.le_trans hs10 b11.size
      (try simp only [Act.put, List.setIfInBounds_toArray, List.set_cons_zero, List.set_cons_succ])
      refine wpCan_e rfl (fun K hK => ?_)
      go_simp
      refine (RSameCom_any c tg o tg' w.heap.size _ ok0 ok1 HCB.out HOB.out HF.out hb11.size).mono ?_
      rintro e w12 ⟨rfl, b12⟩
      refine hK _ _ (Keep.of_below b12 hs11) ?_
      clear hK K
      (try simp only [Act.put, List.setIfInBounds_toArray, List.set_cons_zero, List.set_cons_succ])
      refine wpCan_eqb (op := .eql) rfl rfl rfl rfl Try.underlying4 (fun _ _ _ _ h => h) ?_
      (try simp only [Act.put, List.setIfInBounds_toArray, List.set_cons_zero, List.set_cons_succ])
      try rw [beq_self_eq_true]
      refine wpCan_pick rfl rfl rfl (fun _ _ _ _ h => h) ?_
      simp only [if_true]
      (try simp only [Act.put, List.setIfInBounds_toArray, List.set_cons_zero, List.set_cons_succ])
      refine wpCan_nil ?_
      go_wp2
      go_ret
      exact ⟨rfl, hb11.trans (b12.mono hb11.size)⟩
end Go.Proofs.Ytfbfkfdkigpkgaa
