/- The walks of layer 5: what the laws ask of the reference. -/
import Derived.Test.YtjabpamcpeaboaaNumS
namespace Go.Proofs.Ytjabpamcpeaboaa
set_option linter.unusedSimpArgs false
set_option linter.unusedVariables false
open Go.RowKit
theorem stands_same {F : Nat → Nat} (hF : okF F 5) {v : Nat} (h : valN F 5 % pN = v) (i : Nat) : ((bytesN F i : Nat) : Int) = ((byteN v i : Nat) : Int) := by
  rw [bytesN_ok F hF i, least_val F (fun i hi => okF_wide hF i hi), h]
attribute [local irreducible] val16 ovR loR partN boN passN pN plusL accR valN byteN bytesN sqM invM accN prodN carN diffN sqN sumN difN oneF invN sameN powN
theorem ITNum : IntsT Try.prog 45 .u64 16 := ⟨_, Try.underlying45, Try.underlying22, by kernel_rfl, by kernel_rfl⟩
theorem ITFe : IntsT Try.prog 24 .u64 5 := ⟨_, Try.underlying24, Try.underlying22, by kernel_rfl, by kernel_rfl⟩
theorem Check_yes (F : Nat → Nat) (hF : okF F 5) (w : World) : Calls Try.prog 13 #[.agg (arr .u64 5 fun i => ((F i : Nat) : Int))] w fun e w' => e = .returned (.int .i64 0) ∧ Below w.heap.size w w' :=
  (Check_any F (ok_big hF) w).mono fun e w' h => by rw [if_pos hF] at h; exact h
theorem Bytes_yes (F : Nat → Nat) (hF : okF F 5) (w : World) : Calls Try.prog 12 #[.agg (arr .u64 5 fun i => ((F i : Nat) : Int))] w fun e w' => e = .returned (.tuple #[.agg (arr .u8 32 fun k => ((bytesN F k : Nat) : Int)), .int .i64 0]) ∧ Below w.heap.size w w' :=
  (Bytes_any F (ok_big hF) w).mono fun e w' h => by rw [if_pos hF] at h; exact h
set_option maxRecDepth 100000 in
set_option maxHeartbeats 2000000 in
theorem stands_yes (F : Nat → Nat) (hF : okF F 5) (v : Nat) (h : valN F 5 % pN = v) (w : World) :
    Calls Try.prog 21 #[.agg (arr .u64 5 fun i => ((F i : Nat) : Int)), .int .i64 0, .agg (arr .u64 16 fun i => ((partN v i : Nat) : Int))] w fun e w' => e = .returned (.bool true) ∧ Below w.heap.size w w' := by
  have ss := Lib.hid (fun i (_ : i < 32) => stands_same hF h i)
  clear h
  go_enter Try.func21, Try.ntmps21
  obtain ⟨h0, h1, hsz, hb⟩ := alloc2 w (.cells (arr .u64 5 fun i => ((F i : Nat) : Int)) 24) (.cells (arr .u64 16 fun i => ((partN v i : Nat) : Int)) 45)
  go_wp2_with (first | (refine wpList_load_arr rfl rfl rfl RTFe h0 ?_) | (go_at_call 12; fail))
  refine (Bytes_yes F hF _).mono ?_
  rintro e w4 ⟨rfl, b4⟩
  replace h0 := keep_below b4 (by omega) h0
  replace h1 := keep_below b4 (by omega) h1
  replace hb := hb.trans (b4.mono (by omega))
  clear b4 hsz
  go_upto_region 2 with (refine wpList_new_arr rfl rfl rfl rfl ZTKey RTKey rfl rfl ?_; intro w8 g7 b8 hs8)
  have l0 := lt_of_block h0
  replace h0 := keep_below b8 (lt_of_block h0) h0
  replace h1 := keep_below b8 (lt_of_block h1) h1
  replace hb := hb.trans (b8.mono hb.size)
  clear b8 hs8
  obtain ⟨Bg7, hBg7⟩ : ∃ B, B = w4.heap.size := ⟨_, rfl⟩
  rw [← hBg7] at l0 g7 ⊢
  clear hBg7
  (try simp only [Act.put, List.setIfInBounds_toArray, List.set_cons_zero, List.set_cons_succ])
  obtain ⟨wr, rfl⟩ : ∃ x, x = w8 := ⟨_, rfl⟩
  refine wp_region_can wr.heap.size 17 [(0, false), (1, false), (2, false), (3, false), (4, false), (5, false), (6, false), (7, false), (8, true), (9, false), (10, false), (11, false), (12, false), (13, false), (14, true), (15, false), (16, false)] (by kernel_rfl) (by kernel_rfl) ?_
  (simp only [canOps, List.getElem?_cons_zero, List.getElem?_cons_succ, List.drop_succ_cons, List.drop_zero])
  iterate 5 (first | (refine wpCan_move rfl rfl (fun _ _ _ _ h => h) ?_; (simp only [Act.put, Act.eval, Array.getD_eq_getD_getElem?, List.getElem?_toArray, List.getElem?_cons_zero, List.getElem?_cons_succ, Option.getD_some, List.setIfInBounds_toArray, List.set_cons_zero, List.set_cons_succ])) | (refine wpCan_assign rfl rfl (fun _ _ _ _ h => h) ?_; (simp only [Act.put, Act.eval, Array.getD_eq_getD_getElem?, List.getElem?_toArray, List.getElem?_cons_zero, List.getElem?_cons_succ, Option.getD_some, List.setIfInBounds_toArray, List.set_cons_zero, List.set_cons_succ])) | (refine wpCan_nilCheck rfl rfl rfl (fun _ _ _ _ h => h) ?_; (simp only [Act.put, List.setIfInBounds_toArray, List.set_cons_zero, List.set_cons_succ])) | (refine wpCan_q rfl rfl (fun _ _ _ _ h => h) (by first | exact .bin rfl rfl rfl | exact .indexAddr rfl | exact .un rfl | exact .extract rfl | exact .index rfl | exact .field rfl | exact .slice rfl) (fun K hK => ?_); go_simp; (try (simp only [↓IntWalk.iteOmega]; go_simp)); (try go_bits); refine hK _ ?_; clear hK K))
  refine wpCan_pick rfl rfl rfl (fun _ _ _ _ h => h) ?_
  simp only [if_true]
  (try simp only [Act.put, List.setIfInBounds_toArray, List.set_cons_zero, List.set_cons_succ])
  iterate 1 (first | (refine wpCan_move rfl rfl (fun _ _ _ _ h => h) ?_; (simp only [Act.put, Act.eval, Array.getD_eq_getD_getElem?, List.getElem?_toArray, List.getElem?_cons_zero, List.getElem?_cons_succ, Option.getD_some, List.setIfInBounds_toArray, List.set_cons_zero, List.set_cons_succ])) | (refine wpCan_assign rfl rfl (fun _ _ _ _ h => h) ?_; (simp only [Act.put, Act.eval, Array.getD_eq_getD_getElem?, List.getElem?_toArray, List.getElem?_cons_zero, List.getElem?_cons_succ, Option.getD_some, List.setIfInBounds_toArray, List.set_cons_zero, List.set_cons_succ])) | (refine wpCan_nilCheck rfl rfl rfl (fun _ _ _ _ h => h) ?_; (simp only [Act.put, List.setIfInBounds_toArray, List.set_cons_zero, List.set_cons_succ])) | (refine wpCan_q rfl rfl (fun _ _ _ _ h => h) (by first | exact .bin rfl rfl rfl | exact .indexAddr rfl | exact .un rfl | exact .extract rfl | exact .index rfl | exact .field rfl | exact .slice rfl) (fun K hK => ?_); go_simp; (try (simp only [↓IntWalk.iteOmega]; go_simp)); (try go_bits); refine hK _ ?_; clear hK K))
  refine wpCan_load_arr rfl rfl rfl (fun _ _ _ _ h => h) RTFe (lt_of_block (w := wr) h0) h0 ?_
  (try simp only [Act.put, List.setIfInBounds_toArray, List.set_cons_zero, List.set_cons_succ])
  refine wpCan_e rfl (fun K hK => ?_)
  go_simp
  refine (Check_yes F hF _).mono ?_
  rintro e v1 ⟨rfl, b1⟩
  refine hK _ _ (Keep.of_below b1 (Nat.le_refl _)) ?_
  clear hK K
  (try simp only [Act.put, List.setIfInBounds_toArray, List.set_cons_zero, List.set_cons_succ])
  have cb := b1
  clear b1
  iterate 1 (first | (refine wpCan_move rfl rfl (fun _ _ _ _ h => h) ?_; (simp only [Act.put, Act.eval, Array.getD_eq_getD_getElem?, List.getElem?_toArray, List.getElem?_cons_zero, List.getElem?_cons_succ, Option.getD_some, List.setIfInBounds_toArray, List.set_cons_zero, List.set_cons_succ])) | (refine wpCan_assign rfl rfl (fun _ _ _ _ h => h) ?_; (simp only [Act.put, Act.eval, Array.getD_eq_getD_getElem?, List.getElem?_toArray, List.getElem?_cons_zero, List.getElem?_cons_succ, Option.getD_some, List.setIfInBounds_toArray, List.set_cons_zero, List.set_cons_succ])) | (refine wpCan_nilCheck rfl rfl rfl (fun _ _ _ _ h => h) ?_; (simp only [Act.put, List.setIfInBounds_toArray, List.set_cons_zero, List.set_cons_succ])) | (refine wpCan_q rfl rfl (fun _ _ _ _ h => h) (by first | exact .bin rfl rfl rfl | exact .indexAddr rfl | exact .un rfl | exact .extract rfl | exact .index rfl | exact .field rfl | exact .slice rfl) (fun K hK => ?_); go_simp; (try (simp only [↓IntWalk.iteOmega]; go_simp)); (try go_bits); refine hK _ ?_; clear hK K))
  refine wpCan_pick rfl rfl rfl (fun _ _ _ _ h => h) ?_
  simp only [if_true]
  (try simp only [Act.put, List.setIfInBounds_toArray, List.set_cons_zero, List.set_cons_succ])
  iterate 1 (first | (refine wpCan_move rfl rfl (fun _ _ _ _ h => h) ?_; (simp only [Act.put, Act.eval, Array.getD_eq_getD_getElem?, List.getElem?_toArray, List.getElem?_cons_zero, List.getElem?_cons_succ, Option.getD_some, List.setIfInBounds_toArray, List.set_cons_zero, List.set_cons_succ])) | (refine wpCan_assign rfl rfl (fun _ _ _ _ h => h) ?_; (simp only [Act.put, Act.eval, Array.getD_eq_getD_getElem?, List.getElem?_toArray, List.getElem?_cons_zero, List.getElem?_cons_succ, Option.getD_some, List.setIfInBounds_toArray, List.set_cons_zero, List.set_cons_succ])) | (refine wpCan_nilCheck rfl rfl rfl (fun _ _ _ _ h => h) ?_; (simp only [Act.put, List.setIfInBounds_toArray, List.set_cons_zero, List.set_cons_succ])) | (refine wpCan_q rfl rfl (fun _ _ _ _ h => h) (by first | exact .bin rfl rfl rfl | exact .indexAddr rfl | exact .un rfl | exact .extract rfl | exact .index rfl | exact .field rfl | exact .slice rfl) (fun K hK => ?_); go_simp; (try (simp only [↓IntWalk.iteOmega]; go_simp)); (try go_bits); refine hK _ ?_; clear hK K))
  refine wpCan_load_arr rfl rfl rfl (fun _ _ _ _ h => h) RTKey (lt_of_block (w := wr) g7) (keep_below (w := wr.drew) cb (lt_of_block (w := wr) g7) g7) ?_
  (try simp only [Act.put, List.setIfInBounds_toArray, List.set_cons_zero, List.set_cons_succ])
  refine wpCan_load_arr rfl rfl rfl (fun _ _ _ _ h => h) RTNum (lt_of_block (w := wr) h1) (keep_below (w := wr.drew) cb (lt_of_block (w := wr) h1) h1) ?_
  (try simp only [Act.put, List.setIfInBounds_toArray, List.set_cons_zero, List.set_cons_succ])
  refine wpCan_e rfl (fun K hK => ?_)
  go_simp
  refine (RBytes_any v _).mono ?_
  rintro e v2 ⟨rfl, b2⟩
  refine hK _ _ (Keep.of_below b2 cb.size) ?_
  clear hK K
  (try simp only [Act.put, List.setIfInBounds_toArray, List.set_cons_zero, List.set_cons_succ])
  replace cb := cb.trans (b2.mono cb.size)
  clear b2
  refine wpCan_all rfl (fun _ _ _ _ h => h) (fun w' => run_op_eqArr (op := .eql) rfl ITKey rfl rfl) ?_
  rw [sameTo_true ss.out]
  (try simp only [Act.put, List.setIfInBounds_toArray, List.set_cons_zero, List.set_cons_succ])
  refine wpCan_pick rfl rfl rfl (fun _ _ _ _ h => h) ?_
  simp only [if_true]
  (try simp only [Act.put, List.setIfInBounds_toArray, List.set_cons_zero, List.set_cons_succ])
  refine wpCan_nil ?_
  go_wp2
  go_ret
  exact ⟨rfl, hb.drew.trans (cb.mono hb.size)⟩
set_option maxRecDepth 100000 in
theorem none_yes (w : World) :
    Calls Try.prog 23 #[.agg (arr .u64 5 fun _ => 0), .int .i64 1] w fun e w' => e = .returned (.bool true) ∧ Below w.heap.size w w' := by
  go_enter Try.func23, Try.ntmps23
  obtain ⟨h0, hsz, hb⟩ := alloc1 w (.cells (arr .u64 5 fun _ => 0) 24)
  go_wp2_with (first | (refine wpList_val_w rfl (run_op_load rfl rfl (run_loadVar_arr0 RTFe h0)) ?_) | (refine wpList_val_w rfl (run_op_build rfl (by simp [Act.eval, Act.put]) built_fe) ?_) | (refine wpList_val_w rfl (run_op_eqArr (op := .eql) rfl ITFe rfl rfl) ?_; rw [sameTo_true (fun _ _ => rfl)]))
  go_ret
  exact ⟨rfl, hb⟩
end Go.Proofs.Ytjabpamcpeaboaa
