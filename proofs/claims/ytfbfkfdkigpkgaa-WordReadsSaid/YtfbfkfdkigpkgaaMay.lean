/- The walks of layer 16: whether a frame, and a welcome, may be. -/
import Derived.Test.YtfbfkfdkigpkgaaPen
namespace Go.Proofs.Ytfbfkfdkigpkgaa
set_option linter.unusedSimpArgs false
set_option linter.unusedVariables false
open Go.RowKit

theorem within_any (n m : Int) (w : World) :
    Calls Try.prog 46 #[.int .i64 n, .int .i64 m] w fun e w' => e = .returned (.bool (decide (0 ≤ n ∧ n ≤ m))) ∧ w = w' := by
  by_cases h0 : 0 ≤ n
  · by_cases h1 : n ≤ m
    all_goals
      go_enter Try.func46, Try.ntmps46
      go_wp2
      go_ret
      refine ⟨?_, rfl⟩
      simp [h0, h1]
  · have E0 := Lib.hid (show decide (0 ≤ n ∧ n ≤ m) = false from decide_eq_false (fun h => h0 h.1))
    go_enter Try.func46, Try.ntmps46
    go_wp2
    go_ret
    refine ⟨?_, rfl⟩
    rw [show decide (0 ≤ n) = false from decide_eq_false (by omega)]
    rfl
/-- A frame, as a value. -/
def frameV (ep fr ge : Int) (A : Option Addr) (n c : Nat) : Array Value := #[.int .u64 ep, .int .i64 fr, .int .u64 ge, .slice A n c]
def MayF (ep fr ge : Int) (n : Nat) : Prop := ep ≤ 1099511627776 ∧ 0 ≤ fr ∧ fr ≤ 1048576 ∧ ge < 4294967296 ∧ n ≤ 524288
instance (ep fr ge : Int) (n : Nat) : Decidable (MayF ep fr ge n) := by unfold MayF; exact inferInstance
/-- A welcome, as a value. -/
def welcomeV (to : Int) (A1 : Option Addr) (n1 c1 : Nat) (A2 : Option Addr) (n2 c2 : Nat) (A3 : Option Addr) (n3 c3 : Nat) : Array Value := #[.int .i64 to, .slice A1 n1 c1, .slice A2 n2 c2, .slice A3 n3 c3]
def MayW (to : Int) (n1 n2 n3 : Nat) : Prop := 0 ≤ to ∧ to ≤ 1048576 ∧ n1 ≤ 262144 ∧ n2 ≤ 262144 ∧ n3 ≤ 262144
instance (to : Int) (n1 n2 n3 : Nat) : Decidable (MayW to n1 n2 n3) := by unfold MayW; exact inferInstance
set_option maxRecDepth 100000 in
set_option maxHeartbeats 2000000 in
theorem mayFrame_any (ep fr ge : Int) (A : Option Addr) (n c : Nat) (w : World) :
    Calls Try.prog 41 #[.agg (#[.int .u64 ep, .int .i64 fr, .int .u64 ge, .slice A n c])] w fun e w' => e = .returned (.bool (decide (MayF ep fr ge n))) ∧ Below w.heap.size w w' := by
  have hb : Below w.heap.size w (w.alloc (.cells (#[.int .u64 ep, .int .i64 fr, .int .u64 ge, .slice A n c]) 27)) := (Below.refl _ _).alloc (Nat.le_refl _) _
  have g0 := heap_alloc_new w (.cells (#[.int .u64 ep, .int .i64 fr, .int .u64 ge, .slice A n c]) 27)
  have d0 : (w.alloc (.cells (#[.int .u64 ep, .int .i64 fr, .int .u64 ge, .slice A n c]) 27)).cell? ⟨w.heap.size, 0, none⟩ = _ := cell_of_row _ _ _ _ _ _ g0
  have d1 : (w.alloc (.cells (#[.int .u64 ep, .int .i64 fr, .int .u64 ge, .slice A n c]) 27)).cell? ⟨w.heap.size, 1, none⟩ = _ := cell_of_row _ _ _ _ _ _ g0
  have d2 : (w.alloc (.cells (#[.int .u64 ep, .int .i64 fr, .int .u64 ge, .slice A n c]) 27)).cell? ⟨w.heap.size, 2, none⟩ = _ := cell_of_row _ _ _ _ _ _ g0
  have d3 : (w.alloc (.cells (#[.int .u64 ep, .int .i64 fr, .int .u64 ge, .slice A n c]) 27)).cell? ⟨w.heap.size, 3, none⟩ = _ := cell_of_row _ _ _ _ _ _ g0
  simp only [List.getElem?_toArray, List.getElem?_cons_zero, List.getElem?_cons_succ] at d0 d1 d2 d3
  clear g0
  by_cases k0 : ep ≤ 1099511627776
  rotate_left
  · have E0 := Lib.hid (show decide (MayF ep fr ge n) = false from decide_eq_false (fun h => by unfold MayF at h; omega))
    go_enter Try.func41, Try.ntmps41
    go_wp2_with ((go_at_call 46; refine (within_any _ _ _).mono ?_; rintro e w1 ⟨rfl, hw⟩; subst hw))
    go_ret
    refine ⟨?_, hb⟩
    rw [E0.out]
    first | rfl | (simp; done) | (simp; omega)
  by_cases k1 : 0 ≤ fr
  rotate_left
  · have E0 := Lib.hid (show decide (MayF ep fr ge n) = false from decide_eq_false (fun h => by unfold MayF at h; omega))
    go_enter Try.func41, Try.ntmps41
    go_wp2_with ((go_at_call 46; refine (within_any _ _ _).mono ?_; rintro e w1 ⟨rfl, hw⟩; subst hw))
    go_ret
    refine ⟨?_, hb⟩
    rw [E0.out]
    first | rfl | (simp; done) | (simp; omega)
  by_cases k2 : fr ≤ 1048576
  rotate_left
  · have E0 := Lib.hid (show decide (MayF ep fr ge n) = false from decide_eq_false (fun h => by unfold MayF at h; omega))
    go_enter Try.func41, Try.ntmps41
    go_wp2_with ((go_at_call 46; refine (within_any _ _ _).mono ?_; rintro e w1 ⟨rfl, hw⟩; subst hw))
    go_ret
    refine ⟨?_, hb⟩
    rw [E0.out]
    first | rfl | (simp; done) | (simp; omega)
  by_cases k3 : ge < 4294967296
  rotate_left
  · have E0 := Lib.hid (show decide (MayF ep fr ge n) = false from decide_eq_false (fun h => by unfold MayF at h; omega))
    go_enter Try.func41, Try.ntmps41
    go_wp2_with ((go_at_call 46; refine (within_any _ _ _).mono ?_; rintro e w1 ⟨rfl, hw⟩; subst hw))
    go_ret
    refine ⟨?_, hb⟩
    rw [E0.out]
    first | rfl | (simp; done) | (simp; omega)
  by_cases k4 : n ≤ 524288
  rotate_left
  · have E0 := Lib.hid (show decide (MayF ep fr ge n) = false from decide_eq_false (fun h => by unfold MayF at h; omega))
    go_enter Try.func41, Try.ntmps41
    go_wp2_with ((go_at_call 46; refine (within_any _ _ _).mono ?_; rintro e w1 ⟨rfl, hw⟩; subst hw))
    go_ret
    refine ⟨?_, hb⟩
    rw [E0.out]
    first | rfl | (simp; done) | (simp; omega)
  have E0 := Lib.hid (show decide (MayF ep fr ge n) = true from decide_eq_true (by unfold MayF; omega))
  go_enter Try.func41, Try.ntmps41
  go_wp2_with ((go_at_call 46; refine (within_any _ _ _).mono ?_; rintro e w1 ⟨rfl, hw⟩; subst hw))
  go_ret
  refine ⟨?_, hb⟩
  rw [E0.out]
  first | rfl | (simp; done) | (simp; omega)
set_option maxRecDepth 100000 in
set_option maxHeartbeats 2000000 in
theorem RmayFrame_any (ep fr ge : Int) (A : Option Addr) (n c : Nat) (w : World) :
    Calls Try.prog 42 #[.agg (#[.int .u64 ep, .int .i64 fr, .int .u64 ge, .slice A n c])] w fun e w' => e = .returned (.bool (decide (MayF ep fr ge n))) ∧ Below w.heap.size w w' := by
  have hb : Below w.heap.size w (w.alloc (.cells (#[.int .u64 ep, .int .i64 fr, .int .u64 ge, .slice A n c]) 27)) := (Below.refl _ _).alloc (Nat.le_refl _) _
  have g0 := heap_alloc_new w (.cells (#[.int .u64 ep, .int .i64 fr, .int .u64 ge, .slice A n c]) 27)
  have d0 : (w.alloc (.cells (#[.int .u64 ep, .int .i64 fr, .int .u64 ge, .slice A n c]) 27)).cell? ⟨w.heap.size, 0, none⟩ = _ := cell_of_row _ _ _ _ _ _ g0
  have d1 : (w.alloc (.cells (#[.int .u64 ep, .int .i64 fr, .int .u64 ge, .slice A n c]) 27)).cell? ⟨w.heap.size, 1, none⟩ = _ := cell_of_row _ _ _ _ _ _ g0
  have d2 : (w.alloc (.cells (#[.int .u64 ep, .int .i64 fr, .int .u64 ge, .slice A n c]) 27)).cell? ⟨w.heap.size, 2, none⟩ = _ := cell_of_row _ _ _ _ _ _ g0
  have d3 : (w.alloc (.cells (#[.int .u64 ep, .int .i64 fr, .int .u64 ge, .slice A n c]) 27)).cell? ⟨w.heap.size, 3, none⟩ = _ := cell_of_row _ _ _ _ _ _ g0
  simp only [List.getElem?_toArray, List.getElem?_cons_zero, List.getElem?_cons_succ] at d0 d1 d2 d3
  clear g0
  by_cases k0 : ep ≤ 1099511627776
  rotate_left
  · have E0 := Lib.hid (show decide (MayF ep fr ge n) = false from decide_eq_false (fun h => by unfold MayF at h; omega))
    go_enter Try.func42, Try.ntmps42
    go_wp2_with (fail)
    go_ret
    refine ⟨?_, hb⟩
    rw [E0.out]
    first | rfl | (simp; done) | (simp; omega)
  by_cases k1 : 0 ≤ fr
  rotate_left
  · have E0 := Lib.hid (show decide (MayF ep fr ge n) = false from decide_eq_false (fun h => by unfold MayF at h; omega))
    go_enter Try.func42, Try.ntmps42
    go_wp2_with (fail)
    go_ret
    refine ⟨?_, hb⟩
    rw [E0.out]
    first | rfl | (simp; done) | (simp; omega)
  by_cases k2 : fr ≤ 1048576
  rotate_left
  · have E0 := Lib.hid (show decide (MayF ep fr ge n) = false from decide_eq_false (fun h => by unfold MayF at h; omega))
    go_enter Try.func42, Try.ntmps42
    go_wp2_with (fail)
    go_ret
    refine ⟨?_, hb⟩
    rw [E0.out]
    first | rfl | (simp; done) | (simp; omega)
  by_cases k3 : ge < 4294967296
  rotate_left
  · have E0 := Lib.hid (show decide (MayF ep fr ge n) = false from decide_eq_false (fun h => by unfold MayF at h; omega))
    go_enter Try.func42, Try.ntmps42
    go_wp2_with (fail)
    go_ret
    refine ⟨?_, hb⟩
    rw [E0.out]
    first | rfl | (simp; done) | (simp; omega)
  by_cases k4 : n ≤ 524288
  rotate_left
  · have E0 := Lib.hid (show decide (MayF ep fr ge n) = false from decide_eq_false (fun h => by unfold MayF at h; omega))
    go_enter Try.func42, Try.ntmps42
    go_wp2_with (fail)
    go_ret
    refine ⟨?_, hb⟩
    rw [E0.out]
    first | rfl | (simp; done) | (simp; omega)
  have E0 := Lib.hid (show decide (MayF ep fr ge n) = true from decide_eq_true (by unfold MayF; omega))
  go_enter Try.func42, Try.ntmps42
  go_wp2_with (fail)
  go_ret
  refine ⟨?_, hb⟩
  rw [E0.out]
  first | rfl | (simp; done) | (simp; omega)
set_option maxRecDepth 100000 in
set_option maxHeartbeats 2000000 in
theorem mayWelcome_any (to : Int) (A1 : Option Addr) (n1 c1 : Nat) (A2 : Option Addr) (n2 c2 : Nat) (A3 : Option Addr) (n3 c3 : Nat) (w : World) :
    Calls Try.prog 35 #[.agg (#[.int .i64 to, .slice A1 n1 c1, .slice A2 n2 c2, .slice A3 n3 c3])] w fun e w' => e = .returned (.bool (decide (MayW to n1 n2 n3))) ∧ Below w.heap.size w w' := by
  have hb : Below w.heap.size w (w.alloc (.cells (#[.int .i64 to, .slice A1 n1 c1, .slice A2 n2 c2, .slice A3 n3 c3]) 24)) := (Below.refl _ _).alloc (Nat.le_refl _) _
  have g0 := heap_alloc_new w (.cells (#[.int .i64 to, .slice A1 n1 c1, .slice A2 n2 c2, .slice A3 n3 c3]) 24)
  have d0 : (w.alloc (.cells (#[.int .i64 to, .slice A1 n1 c1, .slice A2 n2 c2, .slice A3 n3 c3]) 24)).cell? ⟨w.heap.size, 0, none⟩ = _ := cell_of_row _ _ _ _ _ _ g0
  have d1 : (w.alloc (.cells (#[.int .i64 to, .slice A1 n1 c1, .slice A2 n2 c2, .slice A3 n3 c3]) 24)).cell? ⟨w.heap.size, 1, none⟩ = _ := cell_of_row _ _ _ _ _ _ g0
  have d2 : (w.alloc (.cells (#[.int .i64 to, .slice A1 n1 c1, .slice A2 n2 c2, .slice A3 n3 c3]) 24)).cell? ⟨w.heap.size, 2, none⟩ = _ := cell_of_row _ _ _ _ _ _ g0
  have d3 : (w.alloc (.cells (#[.int .i64 to, .slice A1 n1 c1, .slice A2 n2 c2, .slice A3 n3 c3]) 24)).cell? ⟨w.heap.size, 3, none⟩ = _ := cell_of_row _ _ _ _ _ _ g0
  simp only [List.getElem?_toArray, List.getElem?_cons_zero, List.getElem?_cons_succ] at d0 d1 d2 d3
  clear g0
  by_cases k0 : 0 ≤ to
  rotate_left
  · have E0 := Lib.hid (show decide (MayW to n1 n2 n3) = false from decide_eq_false (fun h => by unfold MayW at h; omega))
    go_enter Try.func35, Try.ntmps35
    go_wp2_with ((go_at_call 46; refine (within_any _ _ _).mono ?_; rintro e w1 ⟨rfl, hw⟩; subst hw))
    go_ret
    refine ⟨?_, hb⟩
    rw [E0.out]
    first | rfl | (simp; done) | (simp; omega)
  by_cases k1 : to ≤ 1048576
  rotate_left
  · have E0 := Lib.hid (show decide (MayW to n1 n2 n3) = false from decide_eq_false (fun h => by unfold MayW at h; omega))
    go_enter Try.func35, Try.ntmps35
    go_wp2_with ((go_at_call 46; refine (within_any _ _ _).mono ?_; rintro e w1 ⟨rfl, hw⟩; subst hw))
    go_ret
    refine ⟨?_, hb⟩
    rw [E0.out]
    first | rfl | (simp; done) | (simp; omega)
  by_cases k2 : n1 ≤ 262144
  rotate_left
  · have E0 := Lib.hid (show decide (MayW to n1 n2 n3) = false from decide_eq_false (fun h => by unfold MayW at h; omega))
    go_enter Try.func35, Try.ntmps35
    go_wp2_with ((go_at_call 46; refine (within_any _ _ _).mono ?_; rintro e w1 ⟨rfl, hw⟩; subst hw))
    go_ret
    refine ⟨?_, hb⟩
    rw [E0.out]
    first | rfl | (simp; done) | (simp; omega)
  by_cases k3 : n2 ≤ 262144
  rotate_left
  · have E0 := Lib.hid (show decide (MayW to n1 n2 n3) = false from decide_eq_false (fun h => by unfold MayW at h; omega))
    go_enter Try.func35, Try.ntmps35
    go_wp2_with ((go_at_call 46; refine (within_any _ _ _).mono ?_; rintro e w1 ⟨rfl, hw⟩; subst hw))
    go_ret
    refine ⟨?_, hb⟩
    rw [E0.out]
    first | rfl | (simp; done) | (simp; omega)
  by_cases k4 : n3 ≤ 262144
  rotate_left
  · have E0 := Lib.hid (show decide (MayW to n1 n2 n3) = false from decide_eq_false (fun h => by unfold MayW at h; omega))
    go_enter Try.func35, Try.ntmps35
    go_wp2_with ((go_at_call 46; refine (within_any _ _ _).mono ?_; rintro e w1 ⟨rfl, hw⟩; subst hw))
    go_ret
    refine ⟨?_, hb⟩
    rw [E0.out]
    first | rfl | (simp; done) | (simp; omega)
  have E0 := Lib.hid (show decide (MayW to n1 n2 n3) = true from decide_eq_true (by unfold MayW; omega))
  go_enter Try.func35, Try.ntmps35
  go_wp2_with ((go_at_call 46; refine (within_any _ _ _).mono ?_; rintro e w1 ⟨rfl, hw⟩; subst hw))
  go_ret
  refine ⟨?_, hb⟩
  rw [E0.out]
  first | rfl | (simp; done) | (simp; omega)
set_option maxRecDepth 100000 in
set_option maxHeartbeats 2000000 in
theorem RmayWelcome_any (to : Int) (A1 : Option Addr) (n1 c1 : Nat) (A2 : Option Addr) (n2 c2 : Nat) (A3 : Option Addr) (n3 c3 : Nat) (w : World) :
    Calls Try.prog 39 #[.agg (#[.int .i64 to, .slice A1 n1 c1, .slice A2 n2 c2, .slice A3 n3 c3])] w fun e w' => e = .returned (.bool (decide (MayW to n1 n2 n3))) ∧ Below w.heap.size w w' := by
  have hb : Below w.heap.size w (w.alloc (.cells (#[.int .i64 to, .slice A1 n1 c1, .slice A2 n2 c2, .slice A3 n3 c3]) 24)) := (Below.refl _ _).alloc (Nat.le_refl _) _
  have g0 := heap_alloc_new w (.cells (#[.int .i64 to, .slice A1 n1 c1, .slice A2 n2 c2, .slice A3 n3 c3]) 24)
  have d0 : (w.alloc (.cells (#[.int .i64 to, .slice A1 n1 c1, .slice A2 n2 c2, .slice A3 n3 c3]) 24)).cell? ⟨w.heap.size, 0, none⟩ = _ := cell_of_row _ _ _ _ _ _ g0
  have d1 : (w.alloc (.cells (#[.int .i64 to, .slice A1 n1 c1, .slice A2 n2 c2, .slice A3 n3 c3]) 24)).cell? ⟨w.heap.size, 1, none⟩ = _ := cell_of_row _ _ _ _ _ _ g0
  have d2 : (w.alloc (.cells (#[.int .i64 to, .slice A1 n1 c1, .slice A2 n2 c2, .slice A3 n3 c3]) 24)).cell? ⟨w.heap.size, 2, none⟩ = _ := cell_of_row _ _ _ _ _ _ g0
  have d3 : (w.alloc (.cells (#[.int .i64 to, .slice A1 n1 c1, .slice A2 n2 c2, .slice A3 n3 c3]) 24)).cell? ⟨w.heap.size, 3, none⟩ = _ := cell_of_row _ _ _ _ _ _ g0
  simp only [List.getElem?_toArray, List.getElem?_cons_zero, List.getElem?_cons_succ] at d0 d1 d2 d3
  clear g0
  by_cases k0 : 0 ≤ to
  rotate_left
  · have E0 := Lib.hid (show decide (MayW to n1 n2 n3) = false from decide_eq_false (fun h => by unfold MayW at h; omega))
    go_enter Try.func39, Try.ntmps39
    go_wp2_with (fail)
    go_ret
    refine ⟨?_, hb⟩
    rw [E0.out]
    first | rfl | (simp; done) | (simp; omega)
  by_cases k1 : to ≤ 1048576
  rotate_left
  · have E0 := Lib.hid (show decide (MayW to n1 n2 n3) = false from decide_eq_false (fun h => by unfold MayW at h; omega))
    go_enter Try.func39, Try.ntmps39
    go_wp2_with (fail)
    go_ret
    refine ⟨?_, hb⟩
    rw [E0.out]
    first | rfl | (simp; done) | (simp; omega)
  by_cases k2 : n1 ≤ 262144
  rotate_left
  · have E0 := Lib.hid (show decide (MayW to n1 n2 n3) = false from decide_eq_false (fun h => by unfold MayW at h; omega))
    go_enter Try.func39, Try.ntmps39
    go_wp2_with (fail)
    go_ret
    refine ⟨?_, hb⟩
    rw [E0.out]
    first | rfl | (simp; done) | (simp; omega)
  by_cases k3 : n2 ≤ 262144
  rotate_left
  · have E0 := Lib.hid (show decide (MayW to n1 n2 n3) = false from decide_eq_false (fun h => by unfold MayW at h; omega))
    go_enter Try.func39, Try.ntmps39
    go_wp2_with (fail)
    go_ret
    refine ⟨?_, hb⟩
    rw [E0.out]
    first | rfl | (simp; done) | (simp; omega)
  by_cases k4 : n3 ≤ 262144
  rotate_left
  · have E0 := Lib.hid (show decide (MayW to n1 n2 n3) = false from decide_eq_false (fun h => by unfold MayW at h; omega))
    go_enter Try.func39, Try.ntmps39
    go_wp2_with (fail)
    go_ret
    refine ⟨?_, hb⟩
    rw [E0.out]
    first | rfl | (simp; done) | (simp; omega)
  have E0 := Lib.hid (show decide (MayW to n1 n2 n3) = true from decide_eq_true (by unfold MayW; omega))
  go_enter Try.func39, Try.ntmps39
  go_wp2_with (fail)
  go_ret
  refine ⟨?_, hb⟩
  rw [E0.out]
  first | rfl | (simp; done) | (simp; omega)
end Go.Proofs.Ytfbfkfdkigpkgaa
