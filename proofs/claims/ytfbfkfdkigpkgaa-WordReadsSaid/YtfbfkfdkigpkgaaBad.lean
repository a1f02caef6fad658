/- The walks of layer 16: proposals, steps, places, boxes that may not be; any of many. -/
import Derived.Test.YtfbfkfdkigpkgaaCom
import Derived.Test.YtfbfkfdkigpkgaaMay
import Derived.Test.YtfbfkfdkigpkgaaEq
import Derived.Test.YtfbfkfdkigpkgaaIdx
namespace Go.Proofs.Ytfbfkfdkigpkgaa
set_option linter.unusedSimpArgs false
set_option linter.unusedVariables false
open Go.RowKit
attribute [local irreducible] beL beK

theorem RTProp : RowT Try.prog 75 34 := ⟨_, Try.underlying75, rfl, by kernel_rfl⟩
theorem RTStep : RowT Try.prog 71 3 := ⟨_, Try.underlying71, rfl, by kernel_rfl⟩
theorem RTKey : RowT Try.prog 37 32 := ⟨_, Try.underlying37, rfl, by kernel_rfl⟩
theorem ITKey : IntsT Try.prog 37 .u8 32 := ⟨_, Try.underlying37, Try.underlying5, by kernel_rfl, by kernel_rfl⟩
theorem cell_arrV {w : World} {g N t : Nat} {f : Nat → Value} {fr : Nat × Nat} (h : w.heap[g]? = some (.cells (arrV N f) t fr)) (i : Nat) (hi : i < N) : w.cell? ⟨g, i, none⟩ = some (f i) := by
  rw [cell_of_row _ _ _ _ _ _ h, arrV_get _ _ _ hi]

theorem badPlace_any (k : Int) (w : World) : Calls Try.prog 89 #[.int .i64 k] w fun e w' => e = .returned (.bool (!decide (OkPlace k))) ∧ w = w' := by
  obtain ⟨b, hb⟩ : ∃ b : Bool, b = decide (0 ≤ k ∧ k ≤ 4000) := ⟨_, rfl⟩
  have HB := Lib.hid hb
  clear hb
  go_enter Try.func89, Try.ntmps89
  go_wp2_with (go_at_call 46; (with_reducible refine (within_any _ _ _).mono ?_); rintro e w1 ⟨rfl, rfl⟩; rw [← HB.out])
  go_ret
  refine ⟨?_, rfl⟩
  rw [show decide (OkPlace k) = b from by rw [HB.out]; exact decide_eq_decide.2 Iff.rfl]
  rfl
theorem badBox_any (A : Option Addr) (n c : Nat) (w : World) : Calls Try.prog 52 #[.slice A n c] w fun e w' => e = .returned (.bool (!decide (n ≤ 1000))) ∧ w = w' := by
  go_enter Try.func52, Try.ntmps52
  go_wp2
  go_ret
  refine ⟨congrArg (fun b => Ending.returned (Value.bool b)) ?_, rfl⟩
  show decide (1000 < (n : Int)) = _
  by_cases h : n ≤ 1000
  · rw [decide_eq_true h, decide_eq_false (by omega)]; rfl
  · rw [decide_eq_false h, decide_eq_true (by omega)]; rfl

set_option maxRecDepth 100000 in
set_option maxHeartbeats 2000000 in
theorem badProp_any (kind id : Int) (pt : Nat → Nat) (w : World) : Calls Try.prog 48 #[.agg (arrV 34 (propV kind id pt))] w fun e w' => e = .returned (.bool (!decide (OkProp kind id pt))) ∧ Below w.heap.size w w' := by
  by_cases h1 : 1 ≤ kind
  · by_cases h3 : kind ≤ 3
    · by_cases hi : 0 ≤ id ∧ id ≤ 1048576
      · by_cases h2 : kind = 2
        · subst h2
          have E : decide (OkProp 2 id pt) = sameTo (fun i => ((pt i : Nat) : Int)) (fun _ => 0) 32 0 := by
            rw [Bool.eq_iff_iff, decide_eq_true_eq, sameTo_iff]
            unfold OkProp
            simp only [Nat.zero_add]
            constructor
            · rintro ⟨_, _, _, h⟩ i hi
              rw [h trivial i hi]; rfl
            · intro h
              exact ⟨by omega, by omega, hi, fun _ j hj => by have := h j hj; omega⟩
          have HE := Lib.hid E
          have HI := Lib.hid (decide_eq_true hi)
          clear E hi
          go_enter Try.func48, Try.ntmps48
          have g0 := heap_alloc_new w (.cells (arrV 34 (propV 2 id pt)) 75)
          have hb : Below w.heap.size w (w.alloc (.cells (arrV 34 (propV 2 id pt)) 75)) := (Below.refl _ _).alloc (Nat.le_refl _) _
          have c0 := cell_arrV g0 0 (by omega)
          have c1 := cell_arrV g0 1 (by omega)
          replace c0 : _ = some (Value.int .i64 2) := c0
          replace c1 : _ = some (Value.int .i64 id) := c1
          go_wp2_with (first | (go_at_call 46; (with_reducible refine (within_any _ _ _).mono ?_); rintro e w1 ⟨rfl, rfl⟩; rw [HI.out]) | (refine wpList_valg rfl (run_op_load_part (k := .u8) (fun i => ((pt i : Nat) : Int)) rfl RTKey rfl g0 (by omega) (fun i hi => by unfold propV; rw [if_neg (by omega), if_neg (by omega), show 2 + i - 2 = i from by omega])) ?_) | (refine wpList_valg rfl (run_op_build (c := arr .u8 32 fun _ => 0) rfl rfl (by kernel_rfl)) ?_) | (refine wpList_valg rfl (run_op_neArr (op := .neq) rfl ITKey rfl rfl) ?_))
          go_ret
          refine ⟨?_, hb⟩
          rw [HE.out]
          rfl
        · have E : decide (OkProp kind id pt) = true := decide_eq_true ⟨h1, h3, hi, fun h => absurd h h2⟩
          have HE := Lib.hid E
          have HI := Lib.hid (decide_eq_true hi)
          clear hi
          clear E
          go_enter Try.func48, Try.ntmps48
          have g0 := heap_alloc_new w (.cells (arrV 34 (propV kind id pt)) 75)
          have hb : Below w.heap.size w (w.alloc (.cells (arrV 34 (propV kind id pt)) 75)) := (Below.refl _ _).alloc (Nat.le_refl _) _
          have c0 := cell_arrV g0 0 (by omega)
          have c1 := cell_arrV g0 1 (by omega)
          replace c0 : _ = some (Value.int .i64 kind) := c0
          replace c1 : _ = some (Value.int .i64 id) := c1
          clear g0
          go_wp2_with (go_at_call 46; (with_reducible refine (within_any _ _ _).mono ?_); rintro e w1 ⟨rfl, rfl⟩; rw [HI.out])
          go_ret
          refine ⟨?_, hb⟩
          rw [HE.out]
          first | rfl | (show Ending.returned (Value.bool (decide (kind < 1) || decide (3 < kind))) = _; rw [decide_eq_false (by omega), decide_eq_false (by omega)]; rfl)
      · have E : decide (OkProp kind id pt) = false := decide_eq_false fun h => hi h.2.2.1
        have HE := Lib.hid E
        have HI := Lib.hid (decide_eq_false hi)
        clear hi
        clear E
        go_enter Try.func48, Try.ntmps48
        have g0 := heap_alloc_new w (.cells (arrV 34 (propV kind id pt)) 75)
        have hb : Below w.heap.size w (w.alloc (.cells (arrV 34 (propV kind id pt)) 75)) := (Below.refl _ _).alloc (Nat.le_refl _) _
        have c0 := cell_arrV g0 0 (by omega)
        have c1 := cell_arrV g0 1 (by omega)
        replace c0 : _ = some (Value.int .i64 kind) := c0
        replace c1 : _ = some (Value.int .i64 id) := c1
        clear g0
        go_wp2_with (go_at_call 46; (with_reducible refine (within_any _ _ _).mono ?_); rintro e w1 ⟨rfl, rfl⟩; rw [HI.out])
        go_ret
        refine ⟨?_, hb⟩
        rw [HE.out]
        first | rfl | (show Ending.returned (Value.bool (decide (kind < 1) || decide (3 < kind))) = _; rw [decide_eq_false (by omega), decide_eq_false (by omega)]; rfl)
    · have E : decide (OkProp kind id pt) = false := decide_eq_false fun h => h3 h.2.1
      have HE := Lib.hid E
      clear E
      go_enter Try.func48, Try.ntmps48
      have g0 := heap_alloc_new w (.cells (arrV 34 (propV kind id pt)) 75)
      have hb : Below w.heap.size w (w.alloc (.cells (arrV 34 (propV kind id pt)) 75)) := (Below.refl _ _).alloc (Nat.le_refl _) _
      have c0 := cell_arrV g0 0 (by omega)
      have c1 := cell_arrV g0 1 (by omega)
      replace c0 : _ = some (Value.int .i64 kind) := c0
      replace c1 : _ = some (Value.int .i64 id) := c1
      clear g0
      go_wp2
      go_ret
      refine ⟨?_, hb⟩
      rw [HE.out]
      first | rfl | (show Ending.returned (Value.bool (decide (kind < 1) || decide (3 < kind))) = _; rw [decide_eq_false (by omega), decide_eq_false (by omega)]; rfl)
  · have E : decide (OkProp kind id pt) = false := decide_eq_false fun h => h1 h.1
    have HE := Lib.hid E
    clear E
    go_enter Try.func48, Try.ntmps48
    have g0 := heap_alloc_new w (.cells (arrV 34 (propV kind id pt)) 75)
    have hb : Below w.heap.size w (w.alloc (.cells (arrV 34 (propV kind id pt)) 75)) := (Below.refl _ _).alloc (Nat.le_refl _) _
    have c0 := cell_arrV g0 0 (by omega)
    have c1 := cell_arrV g0 1 (by omega)
    replace c0 : _ = some (Value.int .i64 kind) := c0
    replace c1 : _ = some (Value.int .i64 id) := c1
    clear g0
    go_wp2
    go_ret
    refine ⟨?_, hb⟩
    rw [HE.out]
    first | rfl | (show Ending.returned (Value.bool (decide (kind < 1) || decide (3 < kind))) = _; rw [decide_eq_false (by omega), decide_eq_false (by omega)]; rfl)
end Go.Proofs.Ytfbfkfdkigpkgaa
