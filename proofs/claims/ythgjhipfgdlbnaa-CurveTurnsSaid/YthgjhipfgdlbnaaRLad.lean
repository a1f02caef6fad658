/- The walks of layer 6's reference: twice a point, two points together. -/
import Derived.Test.YthgjhipfgdlbnaaLadF
import Derived.Test.YthgjhipfgdlbnaaNumS
import Derived.Test.YthgjhipfgdlbnaaAne
namespace Go.Proofs.Ythgjhipfgdlbnaa
set_option linter.unusedSimpArgs false
set_option linter.unusedVariables false
open Go.RowKit
theorem built_num1 : Try.prog.built 51 [(0, .int .u64 56129), (1, .int .u64 1)] = some (arr .u64 16 fun i => ((partN 121665 i : Nat) : Int)) := by kernel_rfl
attribute [local irreducible] val16 ovR loR partN boN passN pN plusL accR valN byteN bytesN sqM invM accN prodN carN diffN sqN sumN difN oneF invN sameN powN

theorem alloc4 (w : World) (a b c d : Obj) : ((((w.alloc a).alloc b).alloc c).alloc d).heap[w.heap.size]? = some a ∧ ((((w.alloc a).alloc b).alloc c).alloc d).heap[w.heap.size + 1]? = some b ∧
    ((((w.alloc a).alloc b).alloc c).alloc d).heap[w.heap.size + 1 + 1]? = some c ∧ ((((w.alloc a).alloc b).alloc c).alloc d).heap[w.heap.size + 1 + 1 + 1]? = some d ∧ ((((w.alloc a).alloc b).alloc c).alloc d).heap.size = w.heap.size + 1 + 1 + 1 + 1 ∧ Below w.heap.size w ((((w.alloc a).alloc b).alloc c).alloc d) := by
  obtain ⟨h1, h2, h3, h4, h5⟩ := alloc3 w a b c
  obtain ⟨g1, g2, g3⟩ := alloc1 (((w.alloc a).alloc b).alloc c) d
  rw [h4] at g1
  exact ⟨keep_below g3 (lt_of_block h1) h1, keep_below g3 (lt_of_block h2) h2, keep_below g3 (lt_of_block h3) h3, g1, by rw [g2, h4], h5.trans (g3.mono h5.size)⟩
def two16 (F G : Nat → Nat) (i : Nat) : Nat := if i < 16 then F i else G (i - 16)
theorem t16_lo (F G : Nat → Nat) (i : Nat) (hi : i < 16) : ((two16 F G (0 + i) : Nat) : Int) = ((F i : Nat) : Int) := by unfold two16; rw [if_pos (by omega), Nat.zero_add]
theorem t16_hi (F G : Nat → Nat) (i : Nat) (hi : i < 16) : ((two16 F G (16 + i) : Nat) : Int) = ((G i : Nat) : Int) := by unfold two16; rw [if_neg (by omega), Nat.add_sub_cancel_left]
theorem RTPair : RowT Try.prog 54 32 := ⟨_, Try.underlying54, rfl, by kernel_rfl⟩
theorem ZTPair : ZeroT Try.prog 54 .u64 32 := by unfold ZeroT; kernel_rfl
theorem FTPair0 : FieldT Try.prog 54 0 := ⟨_, _, 15, Try.underlying54, rfl, by kernel_rfl⟩
theorem FTPair1 : FieldT Try.prog 54 1 := ⟨_, _, 15, Try.underlying54, rfl, by kernel_rfl⟩
theorem built_pair (F G : Nat → Nat) : Try.prog.built 54 [(0, .agg (arr .u64 16 fun i => ((F i : Nat) : Int))), (1, .agg (arr .u64 16 fun i => ((G i : Nat) : Int)))] = some (arr .u64 32 fun i => ((two16 F G i : Nat) : Int)) := by kernel_rfl
theorem pN256 {a : Nat} (h : a < pN) : a < 2 ^ 256 := Nat.lt_trans h pN_lt
theorem RA_yes (a b : Nat) (ha : a < pN) (hb : b < pN) (w : World) :
    Calls Try.prog 42 #[.agg (arr .u64 16 fun i => ((partN a i : Nat) : Int)), .agg (arr .u64 16 fun i => ((partN b i : Nat) : Int))] w fun e w' => e = .returned (.agg (arr .u64 16 fun i => ((partN (fA a b) i : Nat) : Int))) ∧ Below w.heap.size w w' := RAdd_any a b (pN256 ha) (pN256 hb) w
theorem RS_yes (a b : Nat) (ha : a < pN) (hb : b < pN) (w : World) :
    Calls Try.prog 41 #[.agg (arr .u64 16 fun i => ((partN a i : Nat) : Int)), .agg (arr .u64 16 fun i => ((partN b i : Nat) : Int))] w fun e w' => e = .returned (.agg (arr .u64 16 fun i => ((partN (fS a b) i : Nat) : Int))) ∧ Below w.heap.size w w' := RSub_any a b (pN256 ha) hb w
theorem RM_yes (a b : Nat) (ha : a < pN) (hb : b < pN) (w : World) :
    Calls Try.prog 29 #[.agg (arr .u64 16 fun i => ((partN a i : Nat) : Int)), .agg (arr .u64 16 fun i => ((partN b i : Nat) : Int))] w fun e w' => e = .returned (.agg (arr .u64 16 fun i => ((partN (fM a b) i : Nat) : Int))) ∧ Below w.heap.size w w' := RMul_any a b (pN256 ha) (pN256 hb) w
theorem lt_121665 : 121665 < pN := by
  unfold pN
  decide +kernel
attribute [local irreducible] fA fS fM two16

set_option maxRecDepth 100000 in
set_option maxHeartbeats 8000000 in
theorem RDouble_yes (q : Pt) (hq : PtOk q) (w : World) :
    Calls Try.prog 27 #[.agg (arr .u64 32 fun i => ((two16 (partN q.x) (partN q.z) i : Nat) : Int))] w fun e w' => e = .returned (.agg (arr .u64 32 fun i => ((two16 (partN (dblP q).x) (partN (dblP q).z) i : Nat) : Int))) ∧ Below w.heap.size w w' := by
  have hQ := Lib.hid hq
  clear hq
  go_enter Try.func27, Try.ntmps27
  obtain ⟨h0, h1, hsz, hb⟩ := alloc2 w (.cells (arr .u64 32 fun i => ((two16 (partN q.x) (partN q.z) i : Nat) : Int)) 54) (.cells (arr .u64 32 fun _ => 0) 54)
  go_upto_region 1 with (refine wpList_alloc_arr rfl rfl ZTPair ?_)
  generalize ((w).alloc (.cells (arr .u64 32 fun i => ((two16 (partN q.x) (partN q.z) i : Nat) : Int)) 54)).alloc (.cells (arr .u64 32 fun _ => 0) 54) = wa at *
  (try simp only [Act.put, List.setIfInBounds_toArray, List.set_cons_zero, List.set_cons_succ])
  simp only [World.size_alloc]
  clear hsz
  go_wp2_with (first | (refine wpList_load_as (fun i => ((partN q.x i : Nat) : Int)) rfl rfl rfl RTNum h0 (by omega) (fun i hi => t16_lo _ _ i hi) ?_) | (refine wpList_load_as (fun i => ((partN q.z i : Nat) : Int)) rfl rfl rfl RTNum h0 (by omega) (fun i hi => t16_hi _ _ i hi) ?_) | (go_at_call 42; fail))
  refine (RA_yes q.x q.z hQ.out.1 hQ.out.2 _).mono ?_
  rintro e w4 ⟨rfl, b4⟩
  replace h0 := keep_below b4 (lt_of_block h0) h0
  replace h1 := keep_below b4 (lt_of_block h1) h1
  replace hb := hb.trans (b4.mono hb.size)
  clear b4
  go_upto_region 2 with (refine wpList_new_arr rfl rfl rfl rfl ZTNum RTNum rfl rfl ?_; intro w8 h3 b8 hs8)
  have l0 := lt_of_block h0
  replace h0 := keep_below b8 (lt_of_block h0) h0
  replace h1 := keep_below b8 (lt_of_block h1) h1
  replace hb := hb.trans (b8.mono hb.size)
  clear b8 hs8
  obtain ⟨Bh3, hBh3⟩ : ∃ B, B = w4.heap.size := ⟨_, rfl⟩
  rw [← hBh3] at l0 h3 ⊢
  clear hBh3
  (try simp only [Act.put, List.setIfInBounds_toArray, List.set_cons_zero, List.set_cons_succ])
  go_wp2_with (first | (refine wpList_load_as (fun i => ((partN q.x i : Nat) : Int)) rfl rfl rfl RTNum h0 (by omega) (fun i hi => t16_lo _ _ i hi) ?_) | (refine wpList_load_as (fun i => ((partN q.z i : Nat) : Int)) rfl rfl rfl RTNum h0 (by omega) (fun i hi => t16_hi _ _ i hi) ?_) | (go_at_call 41; fail))
  refine (RS_yes q.x q.z hQ.out.1 hQ.out.2 _).mono ?_
  rintro e w4 ⟨rfl, b4⟩
  replace h0 := keep_below b4 (lt_of_block h0) h0
  replace h1 := keep_below b4 (lt_of_block h1) h1
  replace h3 := keep_below b4 (lt_of_block h3) h3
  replace hb := hb.trans (b4.mono hb.size)
  clear b4
  go_upto_region 3 with (refine wpList_new_arr rfl rfl rfl rfl ZTNum RTNum rfl rfl ?_; intro w8 h4 b8 hs8)
  have l0 := lt_of_block h0
  replace h0 := keep_below b8 (lt_of_block h0) h0
  replace h1 := keep_below b8 (lt_of_block h1) h1
  replace h3 := keep_below b8 (lt_of_block h3) h3
  replace hb := hb.trans (b8.mono hb.size)
  clear b8 hs8
  obtain ⟨Bh4, hBh4⟩ : ∃ B, B = w4.heap.size := ⟨_, rfl⟩
  rw [← hBh4] at l0 h4 ⊢
  clear hBh4
  (try simp only [Act.put, List.setIfInBounds_toArray, List.set_cons_zero, List.set_cons_succ])
  clear h0
  go_wp2_with (first | (refine wpList_load_arr rfl rfl rfl RTNum h3 ?_) | (go_at_call 29; fail))
  refine (RM_yes (fA q.x q.z) (fA q.x q.z) (fA_lt _ _) (fA_lt _ _) _).mono ?_
  rintro e w4 ⟨rfl, b4⟩
  replace h1 := keep_below b4 (lt_of_block h1) h1
  replace h3 := keep_below b4 (lt_of_block h3) h3
  replace h4 := keep_below b4 (lt_of_block h4) h4
  replace hb := hb.trans (b4.mono hb.size)
  clear b4
  go_upto_region 4 with (refine wpList_new_arr rfl rfl rfl rfl ZTNum RTNum rfl rfl ?_; intro w8 h5 b8 hs8)
  have l0 := lt_of_block h1
  replace h1 := keep_below b8 (lt_of_block h1) h1
  replace h3 := keep_below b8 (lt_of_block h3) h3
  replace h4 := keep_below b8 (lt_of_block h4) h4
  replace hb := hb.trans (b8.mono hb.size)
  clear b8 hs8
  obtain ⟨Bh5, hBh5⟩ : ∃ B, B = w4.heap.size := ⟨_, rfl⟩
  rw [← hBh5] at l0 h5 ⊢
  clear hBh5
  (try simp only [Act.put, List.setIfInBounds_toArray, List.set_cons_zero, List.set_cons_succ])
  go_wp2_with (first | (refine wpList_load_arr rfl rfl rfl RTNum h4 ?_) | (go_at_call 29; fail))
  refine (RM_yes (fS q.x q.z) (fS q.x q.z) (fS_lt _ _) (fS_lt _ _) _).mono ?_
  rintro e w4 ⟨rfl, b4⟩
  replace h1 := keep_below b4 (lt_of_block h1) h1
  replace h3 := keep_below b4 (lt_of_block h3) h3
  replace h4 := keep_below b4 (lt_of_block h4) h4
  replace h5 := keep_below b4 (lt_of_block h5) h5
  replace hb := hb.trans (b4.mono hb.size)
  clear b4
  go_upto_region 5 with (refine wpList_new_arr rfl rfl rfl rfl ZTNum RTNum rfl rfl ?_; intro w8 h6 b8 hs8)
  have l0 := lt_of_block h1
  replace h1 := keep_below b8 (lt_of_block h1) h1
  replace h3 := keep_below b8 (lt_of_block h3) h3
  replace h4 := keep_below b8 (lt_of_block h4) h4
  replace h5 := keep_below b8 (lt_of_block h5) h5
  replace hb := hb.trans (b8.mono hb.size)
  clear b8 hs8
  obtain ⟨Bh6, hBh6⟩ : ∃ B, B = w4.heap.size := ⟨_, rfl⟩
  rw [← hBh6] at l0 h6 ⊢
  clear hBh6
  (try simp only [Act.put, List.setIfInBounds_toArray, List.set_cons_zero, List.set_cons_succ])
  clear h3 h4
  go_wp2_with (first | (refine wpList_load_arr rfl rfl rfl RTNum h5 ?_) | (refine wpList_load_arr rfl rfl rfl RTNum h6 ?_) | (go_at_call 41; fail))
  refine (RS_yes (fM (fA q.x q.z) (fA q.x q.z)) (fM (fS q.x q.z) (fS q.x q.z)) (fM_lt _ _) (fM_lt _ _) _).mono ?_
  rintro e w4 ⟨rfl, b4⟩
  replace h1 := keep_below b4 (lt_of_block h1) h1
  replace h5 := keep_below b4 (lt_of_block h5) h5
  replace h6 := keep_below b4 (lt_of_block h6) h6
  replace hb := hb.trans (b4.mono hb.size)
  clear b4
  rw [show fS (fM (fA q.x q.z) (fA q.x q.z)) (fM (fS q.x q.z) (fS q.x q.z)) = dblE q from rfl]
  go_upto_region 6 with (refine wpList_new_arr rfl rfl rfl rfl ZTNum RTNum rfl rfl ?_; intro w8 h7 b8 hs8)
  have l0 := lt_of_block h1
  replace h1 := keep_below b8 (lt_of_block h1) h1
  replace h5 := keep_below b8 (lt_of_block h5) h5
  replace h6 := keep_below b8 (lt_of_block h6) h6
  replace hb := hb.trans (b8.mono hb.size)
  clear b8 hs8
  obtain ⟨Bh7, hBh7⟩ : ∃ B, B = w4.heap.size := ⟨_, rfl⟩
  rw [← hBh7] at l0 h7 ⊢
  clear hBh7
  (try simp only [Act.put, List.setIfInBounds_toArray, List.set_cons_zero, List.set_cons_succ])
  go_upto_region 7 with (first | (refine wpList_val' rfl (run_op_build rfl (by simp [Act.eval, Act.put]) built_num1) ?_) | (refine wpList_new_arr rfl rfl rfl rfl ZTNum RTNum rfl rfl ?_; intro w8 h8 b8 hs8))
  have l0 := lt_of_block h1
  skip
  replace h1 := keep_below b8 (lt_of_block h1) h1
  replace h5 := keep_below b8 (lt_of_block h5) h5
  replace h6 := keep_below b8 (lt_of_block h6) h6
  replace h7 := keep_below b8 (lt_of_block h7) h7
  replace hb := hb.trans (b8.mono hb.size)
  clear b8 hs8
  obtain ⟨wr, rfl⟩ : ∃ x, x = w8 := ⟨_, rfl⟩
  (try simp only [Act.put, List.setIfInBounds_toArray, List.set_cons_zero, List.set_cons_succ])
  have eE : dblE q < pN := fS_lt _ _
  refine wp_region_can wr.heap.size 11 [(0, false), (1, false), (3, false), (4, false), (5, false), (6, false), (2, true), (7, true), (8, true), (9, true), (10, false)] (by kernel_rfl) (by kernel_rfl) ?_
  (simp only [canOps, List.getElem?_cons_zero, List.getElem?_cons_succ, List.drop_succ_cons, List.drop_zero])
  refine wpCan_load_arr rfl rfl rfl (fun _ _ _ _ h => h) RTNum (lt_of_block (w := wr) h5) h5 ?_
  (try simp only [Act.put, List.setIfInBounds_toArray, List.set_cons_zero, List.set_cons_succ])
  refine wpCan_load_arr rfl rfl rfl (fun _ _ _ _ h => h) RTNum (lt_of_block (w := wr) h6) h6 ?_
  (try simp only [Act.put, List.setIfInBounds_toArray, List.set_cons_zero, List.set_cons_succ])
  refine wpCan_load_arr rfl rfl rfl (fun _ _ _ _ h => h) RTNum (lt_of_block (w := wr) h7) h7 ?_
  (try simp only [Act.put, List.setIfInBounds_toArray, List.set_cons_zero, List.set_cons_succ])
  refine wpCan_load_arr rfl rfl rfl (fun _ _ _ _ h => h) RTNum (lt_of_block (w := wr) h5) h5 ?_
  (try simp only [Act.put, List.setIfInBounds_toArray, List.set_cons_zero, List.set_cons_succ])
  refine wpCan_load_arr rfl rfl rfl (fun _ _ _ _ h => h) RTNum (lt_of_block (w := wr) h8) h8 ?_
  (try simp only [Act.put, List.setIfInBounds_toArray, List.set_cons_zero, List.set_cons_succ])
  refine wpCan_load_arr rfl rfl rfl (fun _ _ _ _ h => h) RTNum (lt_of_block (w := wr) h7) h7 ?_
  (try simp only [Act.put, List.setIfInBounds_toArray, List.set_cons_zero, List.set_cons_succ])
  refine wpCan_e rfl (fun K hK => ?_)
  go_simp
  refine (RM_yes (fM (fA q.x q.z) (fA q.x q.z)) (fM (fS q.x q.z) (fS q.x q.z)) (fM_lt _ _) (fM_lt _ _) _).mono ?_
  rintro e v1 ⟨rfl, b1⟩
  refine hK _ _ (Keep.of_below b1 (Nat.le_refl _)) ?_
  clear hK K
  (try simp only [Act.put, List.setIfInBounds_toArray, List.set_cons_zero, List.set_cons_succ])
  have cb := b1
  clear b1
  refine wpCan_e rfl (fun K hK => ?_)
  go_simp
  refine (RM_yes 121665 (dblE q) lt_121665 eE _).mono ?_
  rintro e v2 ⟨rfl, b2⟩
  refine hK _ _ (Keep.of_below b2 cb.size) ?_
  clear hK K
  (try simp only [Act.put, List.setIfInBounds_toArray, List.set_cons_zero, List.set_cons_succ])
  replace cb := cb.trans (b2.mono cb.size)
  clear b2
  refine wpCan_e rfl (fun K hK => ?_)
  go_simp
  refine (RA_yes (fM (fA q.x q.z) (fA q.x q.z)) (fM 121665 (dblE q)) (fM_lt _ _) (fM_lt _ _) _).mono ?_
  rintro e v3 ⟨rfl, b3⟩
  refine hK _ _ (Keep.of_below b3 cb.size) ?_
  clear hK K
  (try simp only [Act.put, List.setIfInBounds_toArray, List.set_cons_zero, List.set_cons_succ])
  replace cb := cb.trans (b3.mono cb.size)
  clear b3
  refine wpCan_e rfl (fun K hK => ?_)
  go_simp
  refine (RM_yes (dblE q) (fA (fM (fA q.x q.z) (fA q.x q.z)) (fM 121665 (dblE q))) eE (fA_lt _ _) _).mono ?_
  rintro e v4 ⟨rfl, b4⟩
  refine hK _ _ (Keep.of_below b4 cb.size) ?_
  clear hK K
  (try simp only [Act.put, List.setIfInBounds_toArray, List.set_cons_zero, List.set_cons_succ])
  replace cb := cb.trans (b4.mono cb.size)
  clear b4
  refine wpCan_all rfl (fun _ _ _ _ h => h) (fun w' => run_op_build rfl (by simp [Act.eval, Act.put]; exact ⟨rfl, rfl⟩) (built_pair (partN (dblP q).x) (partN (dblP q).z))) ?_
  (try simp only [Act.put, List.setIfInBounds_toArray, List.set_cons_zero, List.set_cons_succ])
  refine wpCan_nil ?_
  replace h1 := keep_below (w := wr.drew) cb (lt_of_block (w := wr) h1) h1
  replace hb := hb.drew.trans (cb.mono hb.size)
  go_wp2_with (first | (refine wpList_store_arr rfl rfl rfl rfl RTPair h1 ?_))
  exact bodyPost_ret (results_arr rfl rfl RTPair (row_self h1)) rfl ⟨rfl, row_below hb (by omega) _⟩
set_option maxRecDepth 100000 in
set_option maxHeartbeats 8000000 in
theorem RAddP_yes (u : Nat) (hu : u < pN) (q s : Pt) (hq : PtOk q) (hs : PtOk s) (w : World) :
    Calls Try.prog 26 #[.agg (arr .u64 16 fun i => ((partN u i : Nat) : Int)), .agg (arr .u64 32 fun i => ((two16 (partN q.x) (partN q.z) i : Nat) : Int)), .agg (arr .u64 32 fun i => ((two16 (partN s.x) (partN s.z) i : Nat) : Int))] w fun e w' => e = .returned (.agg (arr .u64 32 fun i => ((two16 (partN (addP u q s).x) (partN (addP u q s).z) i : Nat) : Int))) ∧ Below w.heap.size w w' := by
  have hQ := Lib.hid hq
  have hS := Lib.hid hs
  have hU := Lib.hid hu
  clear hq hs hu
  go_enter Try.func26, Try.ntmps26
  obtain ⟨h0, h1, h2, h3, hsz, hb⟩ := alloc4 w (.cells (arr .u64 16 fun i => ((partN u i : Nat) : Int)) 51) (.cells (arr .u64 32 fun i => ((two16 (partN q.x) (partN q.z) i : Nat) : Int)) 54) (.cells (arr .u64 32 fun i => ((two16 (partN s.x) (partN s.z) i : Nat) : Int)) 54) (.cells (arr .u64 32 fun _ => 0) 54)
  go_upto_region 1 with (refine wpList_alloc_arr rfl rfl ZTPair ?_)
  generalize ((((w).alloc (.cells (arr .u64 16 fun i => ((partN u i : Nat) : Int)) 51)).alloc (.cells (arr .u64 32 fun i => ((two16 (partN q.x) (partN q.z) i : Nat) : Int)) 54)).alloc (.cells (arr .u64 32 fun i => ((two16 (partN s.x) (partN s.z) i : Nat) : Int)) 54)).alloc (.cells (arr .u64 32 fun _ => 0) 54) = wa at *
  (try simp only [Act.put, List.setIfInBounds_toArray, List.set_cons_zero, List.set_cons_succ])
  simp only [World.size_alloc]
  clear hsz
  obtain ⟨wq, rfl⟩ : ∃ x, x = wa := ⟨_, rfl⟩
  have c1 : addDA q s < pN := fM_lt _ _
  have c2 : addCB q s < pN := fM_lt _ _
  refine wp_region_free3 12 [.val (Is (.pointer (some ⟨w.heap.size + 1 + 1, 0, none⟩))), .val (Is (.agg (arr .u64 16 fun i => ((partN s.x i : Nat) : Int)))), .val (Is (.pointer (some ⟨w.heap.size + 1 + 1, 16, none⟩))), .val (Is (.agg (arr .u64 16 fun i => ((partN s.z i : Nat) : Int)))), .val (Is (.agg (arr .u64 16 fun i => ((partN (fS s.x s.z) i : Nat) : Int)))), .val (Is (.pointer (some ⟨w.heap.size + 1, 0, none⟩))), .val (Is (.agg (arr .u64 16 fun i => ((partN q.x i : Nat) : Int)))), .val (Is (.pointer (some ⟨w.heap.size + 1, 16, none⟩))), .val (Is (.agg (arr .u64 16 fun i => ((partN q.z i : Nat) : Int)))), .val (Is (.agg (arr .u64 16 fun i => ((partN (fA q.x q.z) i : Nat) : Int)))), .val (Is (.agg (arr .u64 16 fun i => ((partN (addDA q s) i : Nat) : Int)))), .new 51 .u64 16] [[], [0], [], [2], [1, 3], [], [5], [], [7], [6, 8], [4, 9], []] [] (by kernel_rfl) (by kernel_rfl) (by kernel_rfl) rfl (stn_cons (stn_is _ _) (stn_cons (stn_is _ _) (stn_cons (stn_is _ _) (stn_cons (stn_is _ _) (stn_cons (stn_is _ _) (stn_cons (stn_is _ _) (stn_cons (stn_is _ _) (stn_cons (stn_is _ _) (stn_cons (stn_is _ _) (stn_cons (stn_is _ _) (stn_cons (stn_is _ _) (stn_cons (stn_new _ _ _ _) (stn_nil _))))))))))))) ?_ ?_
  · (simp only [List.take_succ_cons, List.take_zero, List.drop_succ_cons, List.drop_zero, List.zip_cons_cons, List.zip_nil_left, List.zip_nil_right, freeOps3, freeOp3, allV, under, underD, underN, apartAt, factAt, HK.fact, List.map_cons, List.map_nil, fillA, List.getElem?_cons_zero, List.getElem?_cons_succ, List.range_succ, List.range_zero, List.nil_append, List.cons_append, Act.put, List.setIfInBounds_toArray, List.set_cons_zero, List.set_cons_succ])
    refine ⟨?_, ?_, ?_, ?_, ?_, ?_, ?_, ?_, ?_, ?_, ?_, ?_, trivial⟩
    · intro x0 x1 x2 x3 x4 x5 x6 x7 x8 x9 x10 x11 w' hb' 
      refine free_e rfl (fun K hK => ?_)
      go_simp
      exact hK _ _ (Below.refl _ _) rfl
    · intro x0 x1 x2 x3 x4 x5 x6 x7 x8 x9 x10 x11 w' hb' e0
      unfold Is at e0
      subst e0
      exact free_load_as (fun i => ((partN s.x i : Nat) : Int)) rfl rfl rfl RTNum (keep_below hb' (lt_of_block (w := wq) h2) h2) (by omega) (fun i hi => t16_lo _ _ i hi) rfl
    · intro x0 x1 x2 x3 x4 x5 x6 x7 x8 x9 x10 x11 w' hb' 
      refine free_e rfl (fun K hK => ?_)
      go_simp
      exact hK _ _ (Below.refl _ _) rfl
    · intro x0 x1 x2 x3 x4 x5 x6 x7 x8 x9 x10 x11 w' hb' e0
      unfold Is at e0
      subst e0
      exact free_load_as (fun i => ((partN s.z i : Nat) : Int)) rfl rfl rfl RTNum (keep_below hb' (lt_of_block (w := wq) h2) h2) (by omega) (fun i hi => t16_hi _ _ i hi) rfl
    · intro x0 x1 x2 x3 x4 x5 x6 x7 x8 x9 x10 x11 w' hb' e0 e1
      unfold Is at e0 e1
      subst e0 e1
      refine free_e rfl (fun K hK => ?_)
      go_simp
      refine (RS_yes s.x s.z hS.out.1 hS.out.2 _).mono ?_
      rintro e w4 ⟨rfl, b4⟩
      exact hK _ _ b4 (by unfold Is; rfl)
    · intro x0 x1 x2 x3 x4 x5 x6 x7 x8 x9 x10 x11 w' hb' 
      refine free_e rfl (fun K hK => ?_)
      go_simp
      exact hK _ _ (Below.refl _ _) rfl
    · intro x0 x1 x2 x3 x4 x5 x6 x7 x8 x9 x10 x11 w' hb' e0
      unfold Is at e0
      subst e0
      exact free_load_as (fun i => ((partN q.x i : Nat) : Int)) rfl rfl rfl RTNum (keep_below hb' (lt_of_block (w := wq) h1) h1) (by omega) (fun i hi => t16_lo _ _ i hi) rfl
    · intro x0 x1 x2 x3 x4 x5 x6 x7 x8 x9 x10 x11 w' hb' 
      refine free_e rfl (fun K hK => ?_)
      go_simp
      exact hK _ _ (Below.refl _ _) rfl
    · intro x0 x1 x2 x3 x4 x5 x6 x7 x8 x9 x10 x11 w' hb' e0
      unfold Is at e0
      subst e0
      exact free_load_as (fun i => ((partN q.z i : Nat) : Int)) rfl rfl rfl RTNum (keep_below hb' (lt_of_block (w := wq) h1) h1) (by omega) (fun i hi => t16_hi _ _ i hi) rfl
    · intro x0 x1 x2 x3 x4 x5 x6 x7 x8 x9 x10 x11 w' hb' e0 e1
      unfold Is at e0 e1
      subst e0 e1
      refine free_e rfl (fun K hK => ?_)
      go_simp
      refine (RA_yes q.x q.z hQ.out.1 hQ.out.2 _).mono ?_
      rintro e w4 ⟨rfl, b4⟩
      exact hK _ _ b4 (by unfold Is; rfl)
    · intro x0 x1 x2 x3 x4 x5 x6 x7 x8 x9 x10 x11 w' hb' e0 e1
      unfold Is at e0 e1
      subst e0 e1
      refine free_e rfl (fun K hK => ?_)
      go_simp
      refine (RM_yes (fS s.x s.z) (fA q.x q.z) (fS_lt _ _) (fA_lt _ _) _).mono ?_
      rintro e w4 ⟨rfl, b4⟩
      exact hK _ _ b4 (by unfold Is; rfl)
    · intro x0 x1 x2 x3 x4 x5 x6 x7 x8 x9 x10 x11 w' hb' 
      exact ⟨by first | rfl | trivial, by first | trivial | rfl, ZTNum⟩
  · (simp only [List.take_succ_cons, List.take_zero, List.drop_succ_cons, List.drop_zero, List.zip_cons_cons, List.zip_nil_left, List.zip_nil_right, freeOps3, freeOp3, allV, under, underD, underN, apartAt, factAt, HK.fact, List.map_cons, List.map_nil, fillA, List.getElem?_cons_zero, List.getElem?_cons_succ, List.range_succ, List.range_zero, List.nil_append, List.cons_append, Act.put, List.setIfInBounds_toArray, List.set_cons_zero, List.set_cons_succ])
    rintro x0 x1 x2 x3 x4 x5 x6 x7 x8 x9 x10 x11 w5 hb' e0 e1 e2 e3 e4 e5 e6 e7 e8 e9 e10 e11 N11 
    unfold Is at e0 e1 e2 e3 e4 e5 e6 e7 e8 e9 e10
    subst e0 e1 e2 e3 e4 e5 e6 e7 e8 e9 e10
    obtain ⟨Bh5, rfl, lBh5, h5⟩ := N11
    replace h5 : w5.heap[Bh5]? = some (.cells (arr .u64 16 (fun _ => 0)) 51 (0, 0)) := h5
    replace lBh5 : wq.heap.size ≤ Bh5 := lBh5
    have l_h0 := lt_of_block (w := wq) h0
    replace h0 := keep_below hb' l_h0 h0
    have l_h1 := lt_of_block (w := wq) h1
    replace h1 := keep_below hb' l_h1 h1
    have l_h2 := lt_of_block (w := wq) h2
    replace h2 := keep_below hb' l_h2 h2
    have l_h3 := lt_of_block (w := wq) h3
    replace h3 := keep_below hb' l_h3 h3
    replace hb := hb.drew.trans (hb'.mono hb.size)
    have lw : w.heap.size ≤ wq.heap.size := Nat.le_trans (Nat.le_of_lt (by omega)) (Nat.le_of_lt l_h3)
    go_upto_region 2 with (first | (refine wpList_store_arr rfl rfl rfl rfl RTNum h5 ?_))
    replace h0 := row_keep (g := Bh5) (c' := (arr .u64 16 fun i => ((partN (addDA q s) i : Nat) : Int))) h0 (Nat.ne_of_lt (Nat.lt_of_lt_of_le l_h0 lBh5))
    replace h1 := row_keep (g := Bh5) (c' := (arr .u64 16 fun i => ((partN (addDA q s) i : Nat) : Int))) h1 (Nat.ne_of_lt (Nat.lt_of_lt_of_le l_h1 lBh5))
    replace h2 := row_keep (g := Bh5) (c' := (arr .u64 16 fun i => ((partN (addDA q s) i : Nat) : Int))) h2 (Nat.ne_of_lt (Nat.lt_of_lt_of_le l_h2 lBh5))
    replace h3 := row_keep (g := Bh5) (c' := (arr .u64 16 fun i => ((partN (addDA q s) i : Nat) : Int))) h3 (Nat.ne_of_lt (Nat.lt_of_lt_of_le l_h3 lBh5))
    replace h5 := row_self (c' := (arr .u64 16 fun i => ((partN (addDA q s) i : Nat) : Int))) h5
    replace hb := row_below hb (Nat.le_trans lw lBh5) (arr .u64 16 fun i => ((partN (addDA q s) i : Nat) : Int))
    generalize w5.setRow Bh5 (arr .u64 16 fun i => ((partN (addDA q s) i : Nat) : Int)) = wn at *
    (try simp only [Act.put, List.setIfInBounds_toArray, List.set_cons_zero, List.set_cons_succ])
    clear lw l_h0 l_h1 l_h2 l_h3 lBh5 hb'
    clear wq
    obtain ⟨wq, rfl⟩ : ∃ x, x = wn := ⟨_, rfl⟩
    refine wp_region_free3 12 [.val (Is (.pointer (some ⟨w.heap.size + 1 + 1, 0, none⟩))), .val (Is (.agg (arr .u64 16 fun i => ((partN s.x i : Nat) : Int)))), .val (Is (.pointer (some ⟨w.heap.size + 1 + 1, 16, none⟩))), .val (Is (.agg (arr .u64 16 fun i => ((partN s.z i : Nat) : Int)))), .val (Is (.agg (arr .u64 16 fun i => ((partN (fA s.x s.z) i : Nat) : Int)))), .val (Is (.pointer (some ⟨w.heap.size + 1, 0, none⟩))), .val (Is (.agg (arr .u64 16 fun i => ((partN q.x i : Nat) : Int)))), .val (Is (.pointer (some ⟨w.heap.size + 1, 16, none⟩))), .val (Is (.agg (arr .u64 16 fun i => ((partN q.z i : Nat) : Int)))), .val (Is (.agg (arr .u64 16 fun i => ((partN (fS q.x q.z) i : Nat) : Int)))), .val (Is (.agg (arr .u64 16 fun i => ((partN (addCB q s) i : Nat) : Int)))), .new 51 .u64 16] [[], [0], [], [2], [1, 3], [], [5], [], [7], [6, 8], [4, 9], []] [] (by kernel_rfl) (by kernel_rfl) (by kernel_rfl) rfl (stn_cons (stn_is _ _) (stn_cons (stn_is _ _) (stn_cons (stn_is _ _) (stn_cons (stn_is _ _) (stn_cons (stn_is _ _) (stn_cons (stn_is _ _) (stn_cons (stn_is _ _) (stn_cons (stn_is _ _) (stn_cons (stn_is _ _) (stn_cons (stn_is _ _) (stn_cons (stn_is _ _) (stn_cons (stn_new _ _ _ _) (stn_nil _))))))))))))) ?_ ?_
    · (simp only [List.take_succ_cons, List.take_zero, List.drop_succ_cons, List.drop_zero, List.zip_cons_cons, List.zip_nil_left, List.zip_nil_right, freeOps3, freeOp3, allV, under, underD, underN, apartAt, factAt, HK.fact, List.map_cons, List.map_nil, fillA, List.getElem?_cons_zero, List.getElem?_cons_succ, List.range_succ, List.range_zero, List.nil_append, List.cons_append, Act.put, List.setIfInBounds_toArray, List.set_cons_zero, List.set_cons_succ])
      refine ⟨?_, ?_, ?_, ?_, ?_, ?_, ?_, ?_, ?_, ?_, ?_, ?_, trivial⟩
      · intro x0 x1 x2 x3 x4 x5 x6 x7 x8 x9 x10 x11 w' hb' 
        refine free_e rfl (fun K hK => ?_)
        go_simp
        exact hK _ _ (Below.refl _ _) rfl
      · intro x0 x1 x2 x3 x4 x5 x6 x7 x8 x9 x10 x11 w' hb' e0
        unfold Is at e0
        subst e0
        exact free_load_as (fun i => ((partN s.x i : Nat) : Int)) rfl rfl rfl RTNum (keep_below hb' (lt_of_block (w := wq) h2) h2) (by omega) (fun i hi => t16_lo _ _ i hi) rfl
      · intro x0 x1 x2 x3 x4 x5 x6 x7 x8 x9 x10 x11 w' hb' 
        refine free_e rfl (fun K hK => ?_)
        go_simp
        exact hK _ _ (Below.refl _ _) rfl
      · intro x0 x1 x2 x3 x4 x5 x6 x7 x8 x9 x10 x11 w' hb' e0
        unfold Is at e0
        subst e0
        exact free_load_as (fun i => ((partN s.z i : Nat) : Int)) rfl rfl rfl RTNum (keep_below hb' (lt_of_block (w := wq) h2) h2) (by omega) (fun i hi => t16_hi _ _ i hi) rfl
      · intro x0 x1 x2 x3 x4 x5 x6 x7 x8 x9 x10 x11 w' hb' e0 e1
        unfold Is at e0 e1
        subst e0 e1
        refine free_e rfl (fun K hK => ?_)
        go_simp
        refine (RA_yes s.x s.z hS.out.1 hS.out.2 _).mono ?_
        rintro e w4 ⟨rfl, b4⟩
        exact hK _ _ b4 (by unfold Is; rfl)
      · intro x0 x1 x2 x3 x4 x5 x6 x7 x8 x9 x10 x11 w' hb' 
        refine free_e rfl (fun K hK => ?_)
        go_simp
        exact hK _ _ (Below.refl _ _) rfl
      · intro x0 x1 x2 x3 x4 x5 x6 x7 x8 x9 x10 x11 w' hb' e0
        unfold Is at e0
        subst e0
        exact free_load_as (fun i => ((partN q.x i : Nat) : Int)) rfl rfl rfl RTNum (keep_below hb' (lt_of_block (w := wq) h1) h1) (by omega) (fun i hi => t16_lo _ _ i hi) rfl
      · intro x0 x1 x2 x3 x4 x5 x6 x7 x8 x9 x10 x11 w' hb' 
        refine free_e rfl (fun K hK => ?_)
        go_simp
        exact hK _ _ (Below.refl _ _) rfl
      · intro x0 x1 x2 x3 x4 x5 x6 x7 x8 x9 x10 x11 w' hb' e0
        unfold Is at e0
        subst e0
        exact free_load_as (fun i => ((partN q.z i : Nat) : Int)) rfl rfl rfl RTNum (keep_below hb' (lt_of_block (w := wq) h1) h1) (by omega) (fun i hi => t16_hi _ _ i hi) rfl
      · intro x0 x1 x2 x3 x4 x5 x6 x7 x8 x9 x10 x11 w' hb' e0 e1
        unfold Is at e0 e1
        subst e0 e1
        refine free_e rfl (fun K hK => ?_)
        go_simp
        refine (RS_yes q.x q.z hQ.out.1 hQ.out.2 _).mono ?_
        rintro e w4 ⟨rfl, b4⟩
        exact hK _ _ b4 (by unfold Is; rfl)
      · intro x0 x1 x2 x3 x4 x5 x6 x7 x8 x9 x10 x11 w' hb' e0 e1
        unfold Is at e0 e1
        subst e0 e1
        refine free_e rfl (fun K hK => ?_)
        go_simp
        refine (RM_yes (fA s.x s.z) (fS q.x q.z) (fA_lt _ _) (fS_lt _ _) _).mono ?_
        rintro e w4 ⟨rfl, b4⟩
        exact hK _ _ b4 (by unfold Is; rfl)
      · intro x0 x1 x2 x3 x4 x5 x6 x7 x8 x9 x10 x11 w' hb' 
        exact ⟨by first | rfl | trivial, by first | trivial | rfl, ZTNum⟩
    · (simp only [List.take_succ_cons, List.take_zero, List.drop_succ_cons, List.drop_zero, List.zip_cons_cons, List.zip_nil_left, List.zip_nil_right, freeOps3, freeOp3, allV, under, underD, underN, apartAt, factAt, HK.fact, List.map_cons, List.map_nil, fillA, List.getElem?_cons_zero, List.getElem?_cons_succ, List.range_succ, List.range_zero, List.nil_append, List.cons_append, Act.put, List.setIfInBounds_toArray, List.set_cons_zero, List.set_cons_succ])
      rintro x0 x1 x2 x3 x4 x5 x6 x7 x8 x9 x10 x11 w5 hb' e0 e1 e2 e3 e4 e5 e6 e7 e8 e9 e10 e11 N11 
      unfold Is at e0 e1 e2 e3 e4 e5 e6 e7 e8 e9 e10
      subst e0 e1 e2 e3 e4 e5 e6 e7 e8 e9 e10
      obtain ⟨Bh6, rfl, lBh6, h6⟩ := N11
      replace h6 : w5.heap[Bh6]? = some (.cells (arr .u64 16 (fun _ => 0)) 51 (0, 0)) := h6
      replace lBh6 : wq.heap.size ≤ Bh6 := lBh6
      have l_h0 := lt_of_block (w := wq) h0
      replace h0 := keep_below hb' l_h0 h0
      have l_h1 := lt_of_block (w := wq) h1
      replace h1 := keep_below hb' l_h1 h1
      have l_h2 := lt_of_block (w := wq) h2
      replace h2 := keep_below hb' l_h2 h2
      have l_h3 := lt_of_block (w := wq) h3
      replace h3 := keep_below hb' l_h3 h3
      have l_h5 := lt_of_block (w := wq) h5
      replace h5 := keep_below hb' l_h5 h5
      replace hb := hb.drew.trans (hb'.mono hb.size)
      have lw : w.heap.size ≤ wq.heap.size := Nat.le_trans (Nat.le_of_lt (by omega)) (Nat.le_of_lt l_h3)
      go_upto_region 3 with (first | (refine wpList_store_arr rfl rfl rfl rfl RTNum h6 ?_))
      replace h0 := row_keep (g := Bh6) (c' := (arr .u64 16 fun i => ((partN (addCB q s) i : Nat) : Int))) h0 (Nat.ne_of_lt (Nat.lt_of_lt_of_le l_h0 lBh6))
      replace h1 := row_keep (g := Bh6) (c' := (arr .u64 16 fun i => ((partN (addCB q s) i : Nat) : Int))) h1 (Nat.ne_of_lt (Nat.lt_of_lt_of_le l_h1 lBh6))
      replace h2 := row_keep (g := Bh6) (c' := (arr .u64 16 fun i => ((partN (addCB q s) i : Nat) : Int))) h2 (Nat.ne_of_lt (Nat.lt_of_lt_of_le l_h2 lBh6))
      replace h3 := row_keep (g := Bh6) (c' := (arr .u64 16 fun i => ((partN (addCB q s) i : Nat) : Int))) h3 (Nat.ne_of_lt (Nat.lt_of_lt_of_le l_h3 lBh6))
      replace h5 := row_keep (g := Bh6) (c' := (arr .u64 16 fun i => ((partN (addCB q s) i : Nat) : Int))) h5 (Nat.ne_of_lt (Nat.lt_of_lt_of_le l_h5 lBh6))
      replace h6 := row_self (c' := (arr .u64 16 fun i => ((partN (addCB q s) i : Nat) : Int))) h6
      replace hb := row_below hb (Nat.le_trans lw lBh6) (arr .u64 16 fun i => ((partN (addCB q s) i : Nat) : Int))
      generalize w5.setRow Bh6 (arr .u64 16 fun i => ((partN (addCB q s) i : Nat) : Int)) = wn at *
      (try simp only [Act.put, List.setIfInBounds_toArray, List.set_cons_zero, List.set_cons_succ])
      clear lw l_h0 l_h1 l_h2 l_h3 l_h5 lBh6 hb'
      clear h1 h2
      clear wq
      go_wp2_with (first | (refine wpList_load_arr rfl rfl rfl RTNum h5 ?_) | (refine wpList_load_arr rfl rfl rfl RTNum h6 ?_) | (go_at_call 42; fail))
      refine (RA_yes (addDA q s) (addCB q s) c1 c2 _).mono ?_
      rintro e w4 ⟨rfl, b4⟩
      replace h0 := keep_below b4 (lt_of_block h0) h0
      replace h3 := keep_below b4 (lt_of_block h3) h3
      replace h5 := keep_below b4 (lt_of_block h5) h5
      replace h6 := keep_below b4 (lt_of_block h6) h6
      replace hb := hb.trans (b4.mono hb.size)
      clear b4
      go_upto_region 4 with (refine wpList_new_arr rfl rfl rfl rfl ZTNum RTNum rfl rfl ?_; intro w8 h7 b8 hs8)
      have l0 := lt_of_block h0
      replace h0 := keep_below b8 (lt_of_block h0) h0
      replace h3 := keep_below b8 (lt_of_block h3) h3
      replace h5 := keep_below b8 (lt_of_block h5) h5
      replace h6 := keep_below b8 (lt_of_block h6) h6
      replace hb := hb.trans (b8.mono hb.size)
      clear b8 hs8
      obtain ⟨Bh7, hBh7⟩ : ∃ B, B = w4.heap.size := ⟨_, rfl⟩
      rw [← hBh7] at l0 h7 ⊢
      clear hBh7
      (try simp only [Act.put, List.setIfInBounds_toArray, List.set_cons_zero, List.set_cons_succ])
      go_wp2_with (first | (refine wpList_load_arr rfl rfl rfl RTNum h5 ?_) | (refine wpList_load_arr rfl rfl rfl RTNum h6 ?_) | (go_at_call 41; fail))
      refine (RS_yes (addDA q s) (addCB q s) c1 c2 _).mono ?_
      rintro e w4 ⟨rfl, b4⟩
      replace h0 := keep_below b4 (lt_of_block h0) h0
      replace h3 := keep_below b4 (lt_of_block h3) h3
      replace h5 := keep_below b4 (lt_of_block h5) h5
      replace h6 := keep_below b4 (lt_of_block h6) h6
      replace h7 := keep_below b4 (lt_of_block h7) h7
      replace hb := hb.trans (b4.mono hb.size)
      clear b4
      go_upto_region 5 with (refine wpList_new_arr rfl rfl rfl rfl ZTNum RTNum rfl rfl ?_; intro w8 h8 b8 hs8)
      have l0 := lt_of_block h0
      replace h0 := keep_below b8 (lt_of_block h0) h0
      replace h3 := keep_below b8 (lt_of_block h3) h3
      replace h5 := keep_below b8 (lt_of_block h5) h5
      replace h6 := keep_below b8 (lt_of_block h6) h6
      replace h7 := keep_below b8 (lt_of_block h7) h7
      replace hb := hb.trans (b8.mono hb.size)
      clear b8 hs8
      obtain ⟨Bh8, hBh8⟩ : ∃ B, B = w4.heap.size := ⟨_, rfl⟩
      rw [← hBh8] at l0 h8 ⊢
      clear hBh8
      (try simp only [Act.put, List.setIfInBounds_toArray, List.set_cons_zero, List.set_cons_succ])
      obtain ⟨wr, rfl⟩ : ∃ x, x = w8 := ⟨_, rfl⟩
      refine wp_region_can wr.heap.size 9 [(0, false), (1, false), (3, false), (4, false), (5, false), (2, true), (6, true), (7, true), (8, false)] (by kernel_rfl) (by kernel_rfl) ?_
      (simp only [canOps, List.getElem?_cons_zero, List.getElem?_cons_succ, List.drop_succ_cons, List.drop_zero])
      refine wpCan_load_arr rfl rfl rfl (fun _ _ _ _ h => h) RTNum (lt_of_block (w := wr) h7) h7 ?_
      (try simp only [Act.put, List.setIfInBounds_toArray, List.set_cons_zero, List.set_cons_succ])
      refine wpCan_load_arr rfl rfl rfl (fun _ _ _ _ h => h) RTNum (lt_of_block (w := wr) h7) h7 ?_
      (try simp only [Act.put, List.setIfInBounds_toArray, List.set_cons_zero, List.set_cons_succ])
      refine wpCan_load_arr rfl rfl rfl (fun _ _ _ _ h => h) RTNum (lt_of_block (w := wr) h0) h0 ?_
      (try simp only [Act.put, List.setIfInBounds_toArray, List.set_cons_zero, List.set_cons_succ])
      refine wpCan_load_arr rfl rfl rfl (fun _ _ _ _ h => h) RTNum (lt_of_block (w := wr) h8) h8 ?_
      (try simp only [Act.put, List.setIfInBounds_toArray, List.set_cons_zero, List.set_cons_succ])
      refine wpCan_load_arr rfl rfl rfl (fun _ _ _ _ h => h) RTNum (lt_of_block (w := wr) h8) h8 ?_
      (try simp only [Act.put, List.setIfInBounds_toArray, List.set_cons_zero, List.set_cons_succ])
      refine wpCan_e rfl (fun K hK => ?_)
      go_simp
      refine (RM_yes (fA (addDA q s) (addCB q s)) (fA (addDA q s) (addCB q s)) (fA_lt _ _) (fA_lt _ _) _).mono ?_
      rintro e v1 ⟨rfl, b1⟩
      refine hK _ _ (Keep.of_below b1 (Nat.le_refl _)) ?_
      clear hK K
      (try simp only [Act.put, List.setIfInBounds_toArray, List.set_cons_zero, List.set_cons_succ])
      have cb := b1
      clear b1
      refine wpCan_e rfl (fun K hK => ?_)
      go_simp
      refine (RM_yes (fS (addDA q s) (addCB q s)) (fS (addDA q s) (addCB q s)) (fS_lt _ _) (fS_lt _ _) _).mono ?_
      rintro e v2 ⟨rfl, b2⟩
      refine hK _ _ (Keep.of_below b2 cb.size) ?_
      clear hK K
      (try simp only [Act.put, List.setIfInBounds_toArray, List.set_cons_zero, List.set_cons_succ])
      replace cb := cb.trans (b2.mono cb.size)
      clear b2
      refine wpCan_e rfl (fun K hK => ?_)
      go_simp
      refine (RM_yes u (fM (fS (addDA q s) (addCB q s)) (fS (addDA q s) (addCB q s))) hU.out (fM_lt _ _) _).mono ?_
      rintro e v3 ⟨rfl, b3⟩
      refine hK _ _ (Keep.of_below b3 cb.size) ?_
      clear hK K
      (try simp only [Act.put, List.setIfInBounds_toArray, List.set_cons_zero, List.set_cons_succ])
      replace cb := cb.trans (b3.mono cb.size)
      clear b3
      refine wpCan_all rfl (fun _ _ _ _ h => h) (fun w' => run_op_build rfl (by simp [Act.eval, Act.put]; exact ⟨rfl, rfl⟩) (built_pair (partN (addP u q s).x) (partN (addP u q s).z))) ?_
      (try simp only [Act.put, List.setIfInBounds_toArray, List.set_cons_zero, List.set_cons_succ])
      refine wpCan_nil ?_
      replace h3 := keep_below (w := wr.drew) cb (lt_of_block (w := wr) h3) h3
      replace hb := hb.drew.trans (cb.mono hb.size)
      go_wp2_with (first | (refine wpList_store_arr rfl rfl rfl rfl RTPair h3 ?_))
      exact bodyPost_ret (results_arr rfl rfl RTPair (row_self h3)) rfl ⟨rfl, row_below hb (by omega) _⟩
end Go.Proofs.Ythgjhipfgdlbnaa
