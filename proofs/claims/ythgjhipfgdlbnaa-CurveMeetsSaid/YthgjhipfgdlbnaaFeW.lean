/- The walks of layer 5: whether numbers may be. -/
import Derived.Test.YthgjhipfgdlbnaaIdx
import Derived.Test.YthgjhipfgdlbnaaRows
import Derived.Great.Walk
namespace Go.Proofs.Ythgjhipfgdlbnaa
set_option linter.unusedSimpArgs false
set_option linter.unusedVariables false
open Go.RowKit

theorem RTFe : RowT Try.prog 34 5 := ⟨_, Try.underlying34, rfl, by kernel_rfl⟩
theorem ZTFe : ZeroT Try.prog 34 .u64 5 := by unfold ZeroT; kernel_rfl
theorem SZU64 : (Try.prog.info? 32).map (·.size) = some 1 := by kernel_rfl

/-- The greatest of the first m + 1 numbers. -/
def mxN (F : Nat → Nat) : Nat → Nat
  | 0 => F 0
  | m + 1 => max (mxN F m) (F (m + 1))
theorem mxN_le (F : Nat → Nat) (b : Nat) : ∀ m, (mxN F m < b ↔ ∀ i, i < m + 1 → F i < b)
  | 0 => by
    unfold mxN
    exact ⟨fun h i hi => by rw [show i = 0 from by omega]; exact h, fun h => h 0 (by omega)⟩
  | m + 1 => by
    unfold mxN
    rw [Nat.max_lt, mxN_le F b m]
    constructor
    · rintro ⟨h1, h2⟩ i hi
      by_cases h : i < m + 1
      · exact h1 i h
      · rw [show i = m + 1 from by omega]; exact h2
    · intro h
      exact ⟨fun i hi => h i (by omega), h _ (by omega)⟩
theorem mxN_succ (F : Nat → Nat) (m : Nat) : mxN F (m + 1) = max (mxN F m) (F (m + 1)) := rfl
attribute [local irreducible] mxN

set_option maxHeartbeats 400000 in
theorem Max_any (F : Nat → Nat) (hF : ∀ i, i < 5 → F i < 18446744073709551616) (g : Nat) (w : World) (hg : w.heap[g]? = some (.cells (arr .u64 5 fun i => ((F i : Nat) : Int)) 34 (0, 0))) :
    Calls Try.prog 45 #[.slice (some ⟨g, 0, none⟩) 5 5] w fun e w' => e = .returned (.int .u64 ((mxN F 4 : Nat) : Int)) ∧ w = w' := by
  go_enter Try.func45, Try.ntmps45
  have c0 := cell_arr hg 0 (by omega)
  go_wp2
  have e0 : mxN F 0 = F 0 := by unfold mxN; rfl
  go_loopg [3, 4] 4 (fun n x i wr => ∃ m : Nat, m + n = 4 ∧ i = .int .i64 ((m : Int) + 1) ∧ x = .int .u64 ((mxN F m : Nat) : Int) ∧ w = wr)
  case atStart => exact ⟨0, rfl, rfl, by rw [e0], rfl⟩
  case round =>
    obtain ⟨m, hm, rfl, rfl, rfl⟩ := hrel
    have hm' := Lib.hid hm
    clear hm c0 e0
    by_cases hlt : m < 4
    · have c1 := cell_arr hg (m + 1) (by omega)
      go_wp2
      all_goals
        go_roundg (gk - 1)
        case measure => have := hm'.out; omega
        case rel =>
          have hm'' := hm'.out
          exact ⟨m + 1, by omega, by go_num, by rw [mxN_succ]; congr 2; omega, rfl⟩
    · obtain rfl : m = 4 := by have := hm'.out; omega
      go_wp2
      go_ret
      exact ⟨rfl, rfl⟩

/-- Whether the first n numbers may be parts. -/
def okF (F : Nat → Nat) (n : Nat) : Prop := ∀ i, i < n → F i < 4503599627370496
instance (F : Nat → Nat) (n : Nat) : Decidable (okF F n) := Nat.decidableBallLT n fun i _ => F i < 4503599627370496
theorem okF_five (F : Nat → Nat) (off k : Nat) (h : okF F (off + 5 * k)) : okF F (off + 5 * (k + 1)) ↔ okF (fun i => F (off + 5 * k + i)) 5 := by
  constructor
  · intro h i hi; exact h _ (by omega)
  · intro h' i hi
    by_cases hlt : i < off + 5 * k
    · exact h i hlt
    · have := h' (i - (off + 5 * k)) (by omega)
      simpa only [show off + 5 * k + (i - (off + 5 * k)) = i from by omega] using this

set_option maxHeartbeats 400000 in
theorem bad_any (F : Nat → Nat) (hF : ∀ i, i < 5 → F i < 18446744073709551616) (w : World) :
    Calls Try.prog 44 #[.agg (arr .u64 5 fun i => ((F i : Nat) : Int))] w fun e w' => e = .returned (.bool (!decide (okF F 5))) ∧ Below w.heap.size w w' := by
  go_enter Try.func44, Try.ntmps44
  obtain ⟨g0, hz, hb0⟩ := alloc1 w (.cells (arr .u64 5 fun i => ((F i : Nat) : Int)) 34)
  have hl := mxN_le F 4503599627370496 4
  have e0 : (!decide (okF F 5)) = decide (4503599627370496 ≤ mxN F 4) := by
    rw [← decide_not]
    exact decide_eq_decide.2 (by rw [← Nat.not_lt, hl]; rfl)
  rw [e0]
  clear e0 hl
  go_wp2_with (first | (refine wpList_val' rfl (run_op_slice_all rfl Try.underlying34 SZU64 rfl) ?_) | (go_at_call 45; refine (Max_any F hF _ _ g0).mono ?_; rintro e w' ⟨rfl, rfl⟩))
  go_ret
  refine ⟨?_, hb0⟩
  show Ending.returned (Value.bool _) = Ending.returned (Value.bool _)
  rw [show decide ((4503599627370496 : Int) ≤ ((mxN F 4 : Nat) : Int)) = decide (4503599627370496 ≤ mxN F 4) from decide_eq_decide.2 (by omega)]

set_option maxHeartbeats 1000000 in
theorem IndexFunc_any (n : Nat) (hn : n < 1000) (F : Nat → Nat) (hF : ∀ i, i < 5 * n → F i < 18446744073709551616) (g t : Nat) (w : World) (hg : w.heap[g]? = some (.cells (arr .u64 (5 * n) fun i => ((F i : Nat) : Int)) t (0, 0))) :
    Calls Try.prog 53 #[.slice (some ⟨g, 0, none⟩) n n, .func (.func 44) #[] #[]] w fun e w' => (∃ r : Int, e = .returned (.int .i64 r) ∧ decide (r ≥ 0) = !decide (okF F (5 * n))) ∧ Below w.heap.size w w' := by
  go_enter Try.func53, Try.ntmps53
  have hgl := lt_of_block hg
  go_wp2
  go_loopg [8] n (fun q i wr => ∃ m : Nat, m + q = n ∧ i = .int .i64 m ∧ okF F (5 * m) ∧ wr.heap[g]? = some (.cells (arr .u64 (5 * n) fun i => ((F i : Nat) : Int)) t (0, 0)) ∧ Below w.heap.size w wr)
  case atStart => exact ⟨0, by omega, rfl, fun i hi => absurd hi (by omega), hg, Below.refl _ _⟩
  case round =>
    clear hg
    obtain ⟨m, hm, rfl, hok, hg, hB⟩ := hrel
    have hm' := Lib.hid hm
    clear hm
    by_cases hlt : m < n
    · have h5 := okF_five F 0 m (by simpa using hok)
      simp only [Nat.zero_add] at h5
      by_cases hq : okF (fun i => F (5 * m + i)) 5
      · go_wp2_with (first | (refine wpList_load_as (off := m * 5) (fun i => ((F (5 * m + i) : Nat) : Int)) rfl rfl rfl RTFe hg (by omega) (fun i hi => by rw [Nat.mul_comm m 5]) ?_) | (go_at_call 44; refine (bad_any (fun i => F (5 * m + i)) (fun i hi => hF _ (by omega)) _).mono ?_; rintro e w2 ⟨rfl, b2⟩; rw [show (!decide (okF (fun i => F (5 * m + i)) 5)) = false from by rw [decide_eq_true hq]; rfl]))
        go_roundg (gk - 1)
        case measure => have := hm'.out; omega
        case rel =>
          have hm'' := hm'.out
          exact ⟨m + 1, by omega, by go_num, h5.2 hq, keep_below b2 (lt_of_block hg) hg, hB.trans (b2.mono hB.size)⟩
      · go_wp2_with (first | (refine wpList_load_as (off := m * 5) (fun i => ((F (5 * m + i) : Nat) : Int)) rfl rfl rfl RTFe hg (by omega) (fun i hi => by rw [Nat.mul_comm m 5]) ?_) | (go_at_call 44; refine (bad_any (fun i => F (5 * m + i)) (fun i hi => hF _ (by omega)) _).mono ?_; rintro e w2 ⟨rfl, b2⟩; rw [show (!decide (okF (fun i => F (5 * m + i)) 5)) = true from by rw [decide_eq_false hq]; rfl]))
        go_ret
        refine ⟨⟨_, rfl, ?_⟩, hB.trans (b2.mono hB.size)⟩
        rw [show decide (okF F (5 * n)) = false from decide_eq_false fun h => hq (h5.1 fun i hi => h i (by omega))]
        exact decide_eq_true (by omega)
    · obtain rfl : m = n := by have := hm'.out; omega
      go_wp2
      go_ret
      refine ⟨⟨_, rfl, ?_⟩, hB⟩
      rw [decide_eq_true hok]; rfl

theorem Contains_any (n : Nat) (hn : n < 1000) (F : Nat → Nat) (hF : ∀ i, i < 5 * n → F i < 18446744073709551616) (g t : Nat) (w : World) (hg : w.heap[g]? = some (.cells (arr .u64 (5 * n) fun i => ((F i : Nat) : Int)) t (0, 0))) :
    Calls Try.prog 43 #[.slice (some ⟨g, 0, none⟩) n n, .func (.func 44) #[] #[]] w fun e w' => e = .returned (.bool (!decide (okF F (5 * n)))) ∧ Below w.heap.size w w' := by
  go_enter Try.func43, Try.ntmps43
  go_wp2_with (go_at_call 53; refine (IndexFunc_any n hn F hF g t _ hg).mono ?_; rintro e w2 ⟨⟨r, rfl, hr⟩, b2⟩)
  go_ret
  exact ⟨rfl, b2⟩
theorem may_any (n m : Nat) (hm : 5 * n = m) (hn : n < 1000) (F : Nat → Nat) (hF : ∀ i, i < m → F i < 18446744073709551616) (g t : Nat) (w : World) (hg : w.heap[g]? = some (.cells (arr .u64 m fun i => ((F i : Nat) : Int)) t (0, 0))) :
    Calls Try.prog 31 #[.slice (some ⟨g, 0, none⟩) n n] w fun e w' => e = .returned (.bool (decide (okF F m))) ∧ Below w.heap.size w w' := by
  subst hm
  go_enter Try.func31, Try.ntmps31
  go_wp2_with (go_at_call 43; refine (Contains_any n hn F hF g t _ hg).mono ?_; rintro e w2 ⟨rfl, b2⟩)
  go_ret
  exact ⟨by simp, b2⟩

theorem built_one (F : Nat → Int) : Try.prog.builtSlice 34 1 [(0, .agg (arr .u64 5 F))] = some (arr .u64 5 F) := by kernel_rfl
def two5 (F G : Nat → Nat) (i : Nat) : Nat := if i < 5 then F i else G (i - 5)
theorem built_two (F G : Nat → Nat) : Try.prog.builtSlice 34 2 [(0, .agg (arr .u64 5 fun i => ((F i : Nat) : Int))), (1, .agg (arr .u64 5 fun i => ((G i : Nat) : Int)))] = some (arr .u64 10 fun i => ((two5 F G i : Nat) : Int)) := by kernel_rfl
theorem two5_ok (F G : Nat → Nat) : okF (two5 F G) 10 ↔ okF F 5 ∧ okF G 5 := by
  constructor
  · intro h
    refine ⟨fun i hi => ?_, fun i hi => ?_⟩
    · have := h i (by omega); unfold two5 at this; rwa [if_pos hi] at this
    · have := h (5 + i) (by omega); unfold two5 at this; rwa [if_neg (by omega), Nat.add_sub_cancel_left] at this
  · rintro ⟨h1, h2⟩ i hi
    unfold two5
    by_cases h : i < 5
    · rw [if_pos h]; exact h1 i h
    · rw [if_neg h]; exact h2 _ (by omega)
theorem two5_lt (F G : Nat → Nat) (b : Nat) (hF : ∀ i, i < 5 → F i < b) (hG : ∀ i, i < 5 → G i < b) (i : Nat) (hi : i < 10) : two5 F G i < b := by
  unfold two5
  by_cases h : i < 5
  · rw [if_pos h]; exact hF i h
  · rw [if_neg h]; exact hG _ (by omega)

end Go.Proofs.Ythgjhipfgdlbnaa
