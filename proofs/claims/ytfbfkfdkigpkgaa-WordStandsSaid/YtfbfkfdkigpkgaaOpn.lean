/- The walks of layer 16: a message's kind is read; what any bytes are, as a frame. -/
import Derived.Test.YtfbfkfdkigpkgaaEit
import Derived.Test.YtfbfkfdkigpkgaaKin
import Derived.Test.YtfbfkfdkigpkgaaMay
namespace Go.Proofs.Ytfbfkfdkigpkgaa
set_option linter.unusedSimpArgs false
set_option linter.unusedVariables false
open Go.RowKit
attribute [local irreducible] beL beK

/-- A text that is read. -/
structure Src (w : World) (B : Nat) (A : Option Addr) (n c : Nat) (l : List Nat) : Prop where
  low : B ≤ w.heap.size
  txt : Txt w B A n c l
  cap : n ≤ c
  len : n ≤ 140737488355328
  byt : Byt l
theorem Src.eye {w : World} {B : Nat} {A : Option Addr} {n c : Nat} {l : List Nat} (h : Src w B A n c l) : Eye (w.alloc (.cells #[.slice A n c, .int .i64 0] 102)) B w.heap.size ⟨l, false⟩ :=
  ⟨A, n, c, heap_alloc_new w _, h.low, h.txt.below' ((Below.refl _ _).alloc (Nat.le_refl _) _) h.low, h.cap, h.len, h.byt⟩
theorem Src.after {w w' : World} {B : Nat} {A : Option Addr} {n c : Nat} {l : List Nat} (h : Src w B A n c l) (hb : Below w.heap.size w w') : Src w' B A n c l :=
  ⟨Nat.le_trans h.low hb.size, h.txt.below' hb h.low, h.cap, h.len, h.byt⟩
theorem numP_ne {K : Nat} {s s' : Rs} (hK : K ≠ 0) {k : Nat} (h : numP k s = (K, s')) : s'.ov = false := by
  unfold numP cutP at h
  split at h
  · injection h with h1 _
    exact absurd h1.symm hK
  · injection h with _ h2
    rw [← h2]
theorem FTEye1 : FieldT Try.prog 102 1 := ⟨_, _, 0, Try.underlying102, rfl, by kernel_rfl⟩
theorem opened_long (K : Nat) (A : Option Addr) (n c : Nat) (w : World) (hn : 1048576 < n) (hc : n ≤ 140737488355328) :
    Calls Try.prog 64 #[.slice A n c, .int .u64 K] w fun e w' => e = .returned (.tuple #[.pointer none, .int .i64 4]) ∧ w = w' := by
  go_enter Try.func64, Try.ntmps64
  go_wp2
  go_ret2
  exact ⟨rfl, rfl⟩
set_option maxRecDepth 100000 in
set_option maxHeartbeats 1000000 in
theorem opened_no (K : Nat) {B : Nat} (A : Option Addr) (n c : Nat) (l : List Nat) (w : World) (h : Src w B A n c l) (hn : n ≤ 1048576) (hK : K < 256) {k : Nat} {s1 : Rs} (hk : numP 1 ⟨l, false⟩ = (k, s1)) (hne : k ≠ K) :
    Calls Try.prog 64 #[.slice A n c, .int .u64 K] w fun e w' => e = .returned (.tuple #[.pointer none, .int .i64 3]) ∧ Below w.heap.size w w' := by
  have he := h.eye
  have lt := he.lt1 hk
  have d : decide ((k : Int) = K) = false := decide_eq_false (by omega)
  have hb : Below w.heap.size w (w.alloc (.cells #[.slice A n c, .int .i64 0] 102)) := (Below.refl _ _).alloc (Nat.le_refl _) _
  go_enter Try.func64, Try.ntmps64
  go_wp2_with (go_at_call 65; (with_reducible refine (eyeNum1 he hk).mono ?_); rintro e w2 ⟨rfl, he2, hb2⟩)
  go_ret2
  exact ⟨rfl, hb.trans (hb2.below (Nat.le_refl _) (by simp))⟩
set_option maxRecDepth 100000 in
set_option maxHeartbeats 1000000 in
theorem opened_yes (K : Nat) {B : Nat} (A : Option Addr) (n c : Nat) (l : List Nat) (w : World) (h : Src w B A n c l) (hn : n ≤ 1048576) (hK : K < 256) (h0 : K ≠ 0) {s1 : Rs} (hk : numP 1 ⟨l, false⟩ = (K, s1)) :
    Calls Try.prog 64 #[.slice A n c, .int .u64 K] w fun e w' => e = .returned (.tuple #[.pointer (some ⟨w.heap.size, 0, none⟩), .int .i64 0]) ∧ Eye w' B w.heap.size s1 ∧ Below w.heap.size w w' := by
  have he := h.eye
  have d : decide ((K : Int) = K) = true := decide_eq_true rfl
  have hb : Below w.heap.size w (w.alloc (.cells #[.slice A n c, .int .i64 0] 102)) := (Below.refl _ _).alloc (Nat.le_refl _) _
  have hov := numP_ne h0 hk
  go_enter Try.func64, Try.ntmps64
  go_upto_region 6 with (go_at_call 65; (with_reducible refine (eyeNum1 he hk).mono ?_); rintro e w2 ⟨rfl, he2, hb2⟩)
  obtain ⟨A2, n2, c2, hE⟩ := he2
  have c1 := hE.c1
  rw [eyeE_no hov] at c1
  have c1' : w2.drew.cell? ⟨w.heap.size, 1, none⟩ = some (.int .i64 0) := c1
  have hr : w2.drew.heap[w.heap.size]? = _ := hE.row
  (try simp only [Act.put, List.setIfInBounds_toArray, List.set_cons_zero, List.set_cons_succ])
  refine wp_region_can w2.heap.size 6 [(0, false), (1, false), (2, false), (3, false), (4, false), (5, false)] (by kernel_rfl) (by kernel_rfl) ?_
  (simp only [canOps, List.getElem?_cons_zero, List.getElem?_cons_succ, List.drop_succ_cons, List.drop_zero])
  iterate 6 (first | (refine wpCan_move rfl rfl (fun _ _ _ _ h => h) ?_; (simp only [Act.put, Act.eval, Array.getD_eq_getD_getElem?, List.getElem?_toArray, List.getElem?_cons_zero, List.getElem?_cons_succ, Option.getD_some, List.setIfInBounds_toArray, List.set_cons_zero, List.set_cons_succ])) | (refine wpCan_assign rfl rfl (fun _ _ _ _ h => h) ?_; (simp only [Act.put, Act.eval, Array.getD_eq_getD_getElem?, List.getElem?_toArray, List.getElem?_cons_zero, List.getElem?_cons_succ, Option.getD_some, List.setIfInBounds_toArray, List.set_cons_zero, List.set_cons_succ])) | (refine wpCan_nilCheck rfl rfl rfl (fun _ _ _ _ h => h) ?_; (simp only [Act.put, List.setIfInBounds_toArray, List.set_cons_zero, List.set_cons_succ])) | (refine wpCan_q rfl rfl (fun _ _ _ _ h => h) (by first | exact .bin rfl rfl rfl | exact .indexAddr rfl | exact .un rfl | exact .extract rfl | exact .index rfl | exact .field rfl | exact .slice rfl | exact .fieldT rfl FTEye1 | exact .load rfl rfl (lt_of_block hE.row) hr) (fun K hK => ?_); go_simp; (try (simp only [↓IntWalk.iteOmega]; go_simp)); (try go_bits); refine hK _ ?_; clear hK K))
  refine wpCan_nil ?_
  go_wp2
  go_ret2
  exact ⟨rfl, Eye.after ⟨_, _, _, hE⟩ (Below.refl _ _).drew, (hb.trans (hb2.below (Nat.le_refl _) (by simp))).drew⟩
theorem opened_long1 (A : Option Addr) (n c : Nat) (w : World) (hn : 1048576 < n) (hc : n ≤ 140737488355328) :
    Calls Try.prog 64 #[.slice A n c, .int .u64 1] w fun e w' => e = .returned (.tuple #[.pointer none, .int .i64 4]) ∧ w = w' := opened_long 1 A n c w hn hc
theorem opened_no1 {B : Nat} (A : Option Addr) (n c : Nat) (l : List Nat) (w : World) (h : Src w B A n c l) (hn : n ≤ 1048576) {k : Nat} {s1 : Rs} (hk : numP 1 ⟨l, false⟩ = (k, s1)) (hne : k ≠ 1) :
    Calls Try.prog 64 #[.slice A n c, .int .u64 1] w fun e w' => e = .returned (.tuple #[.pointer none, .int .i64 3]) ∧ Below w.heap.size w w' := opened_no 1 A n c l w h hn (by omega) hk hne
theorem opened_yes1 {B : Nat} (A : Option Addr) (n c : Nat) (l : List Nat) (w : World) (h : Src w B A n c l) (hn : n ≤ 1048576) {s1 : Rs} (hk : numP 1 ⟨l, false⟩ = (1, s1)) :
    Calls Try.prog 64 #[.slice A n c, .int .u64 1] w fun e w' => e = .returned (.tuple #[.pointer (some ⟨w.heap.size, 0, none⟩), .int .i64 0]) ∧ Eye w' B w.heap.size s1 ∧ Below w.heap.size w w' := opened_yes 1 A n c l w h hn (by omega) (by omega) hk
theorem opened_long2 (A : Option Addr) (n c : Nat) (w : World) (hn : 1048576 < n) (hc : n ≤ 140737488355328) :
    Calls Try.prog 64 #[.slice A n c, .int .u64 2] w fun e w' => e = .returned (.tuple #[.pointer none, .int .i64 4]) ∧ w = w' := opened_long 2 A n c w hn hc
theorem opened_no2 {B : Nat} (A : Option Addr) (n c : Nat) (l : List Nat) (w : World) (h : Src w B A n c l) (hn : n ≤ 1048576) {k : Nat} {s1 : Rs} (hk : numP 1 ⟨l, false⟩ = (k, s1)) (hne : k ≠ 2) :
    Calls Try.prog 64 #[.slice A n c, .int .u64 2] w fun e w' => e = .returned (.tuple #[.pointer none, .int .i64 3]) ∧ Below w.heap.size w w' := opened_no 2 A n c l w h hn (by omega) hk hne
theorem opened_yes2 {B : Nat} (A : Option Addr) (n c : Nat) (l : List Nat) (w : World) (h : Src w B A n c l) (hn : n ≤ 1048576) {s1 : Rs} (hk : numP 1 ⟨l, false⟩ = (2, s1)) :
    Calls Try.prog 64 #[.slice A n c, .int .u64 2] w fun e w' => e = .returned (.tuple #[.pointer (some ⟨w.heap.size, 0, none⟩), .int .i64 0]) ∧ Eye w' B w.heap.size s1 ∧ Below w.heap.size w w' := opened_yes 2 A n c l w h hn (by omega) (by omega) hk
theorem opened_long3 (A : Option Addr) (n c : Nat) (w : World) (hn : 1048576 < n) (hc : n ≤ 140737488355328) :
    Calls Try.prog 64 #[.slice A n c, .int .u64 3] w fun e w' => e = .returned (.tuple #[.pointer none, .int .i64 4]) ∧ w = w' := opened_long 3 A n c w hn hc
theorem opened_no3 {B : Nat} (A : Option Addr) (n c : Nat) (l : List Nat) (w : World) (h : Src w B A n c l) (hn : n ≤ 1048576) {k : Nat} {s1 : Rs} (hk : numP 1 ⟨l, false⟩ = (k, s1)) (hne : k ≠ 3) :
    Calls Try.prog 64 #[.slice A n c, .int .u64 3] w fun e w' => e = .returned (.tuple #[.pointer none, .int .i64 3]) ∧ Below w.heap.size w w' := opened_no 3 A n c l w h hn (by omega) hk hne
theorem opened_yes3 {B : Nat} (A : Option Addr) (n c : Nat) (l : List Nat) (w : World) (h : Src w B A n c l) (hn : n ≤ 1048576) {s1 : Rs} (hk : numP 1 ⟨l, false⟩ = (3, s1)) :
    Calls Try.prog 64 #[.slice A n c, .int .u64 3] w fun e w' => e = .returned (.tuple #[.pointer (some ⟨w.heap.size, 0, none⟩), .int .i64 0]) ∧ Eye w' B w.heap.size s1 ∧ Below w.heap.size w w' := opened_yes 3 A n c l w h hn (by omega) (by omega) hk
end Go.Proofs.Ytfbfkfdkigpkgaa
