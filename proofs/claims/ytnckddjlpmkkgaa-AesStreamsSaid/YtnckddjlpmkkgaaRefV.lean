/- The walks of the reference for layer 4: a byte's inverse. -/
import Derived.Test.YtnckddjlpmkkgaaAesN
import Derived.Test.YtnckddjlpmkkgaaRefB
namespace Go.Proofs.Ytnckddjlpmkkgaa
set_option linter.unusedSimpArgs false
set_option linter.unusedVariables false
open Go.RowKit
attribute [local irreducible] sboxI

attribute [local irreducible] powN mulN boxR
set_option maxRecDepth 100000 in
set_option maxHeartbeats 400000 in
theorem inverse_nat (x : Nat) (hx : x < 256) (w : World) :
    Calls Try.prog 25 #[.int .u8 x] w fun e w' => e = .returned (.int .u8 (powN x 254)) ∧ w = w' := by
  go_enter Try.func25, Try.ntmps25
  go_wp2
  go_loopg [3, 4] 254 (fun n y i wr => ∃ m : Nat, m + n = 254 ∧ i = .int .i64 m ∧ y = .int .u8 (powN x m) ∧ w = wr)
  case atStart => exact ⟨0, rfl, rfl, by rw [powN_zero]; rfl, rfl⟩
  case round =>
    obtain ⟨m, hm, rfl, rfl, rfl⟩ := hrel
    have hm' := Lib.hid hm
    clear hm
    have hl := powN_lt x m
    by_cases hlt : m < 254
    · go_wp2_with (go_at_call 12; (with_reducible refine (Mul_nat _ _ hl hx _).mono ?_); rintro e w' ⟨rfl, rfl⟩)
      go_roundg (gk - 1)
      case measure => have := hm'.out; omega
      case rel =>
        have hm'' := hm'.out
        exact ⟨m + 1, by omega, by go_num, by rw [powN_succ], rfl⟩
    · obtain rfl : m = 254 := by have := hm'.out; omega
      go_wp2
      go_ret
      exact ⟨rfl, rfl⟩

set_option maxHeartbeats 1000000 in
theorem refBox_nat (x : Nat) (hx : x < 256) (w : World) :
    Calls Try.prog 14 #[.int .u8 x] w fun e w' => e = .returned (.int .u8 (sboxI x)) ∧ ∃ d, w' = w.drewN d := by
  go_enter Try.func14, Try.ntmps14
  go_wp2_with (go_at_call 25; (with_reducible refine (inverse_nat _ hx _).mono ?_); rintro e w' ⟨rfl, rfl⟩)
  have hl := powN_lt x 254
  have hR := Lib.hid (okR_all x hx)
  generalize powN x 254 = y at *
  go_loopg [4, 9] 8 (fun n o i wr => ∃ m : Nat, m + n = 8 ∧ i = .int .i64 m ∧ o = .int .u8 (boxR y m) ∧ ∃ d, wr = w.drewN d)
  case atStart => exact ⟨0, rfl, rfl, by rw [boxR_zero], 0, rfl⟩
  case round =>
    obtain ⟨m, hm, rfl, rfl, d, rfl⟩ := hrel
    have hm' := Lib.hid hm
    clear hm
    by_cases hlt : m < 8
    · have hs : Hid (boxR y (m + 1) = (boxR y m + (bitR y m).tmod 2 * 2 ^ m % 256) % 256) := Lib.hid (boxR_succ y m)
      generalize boxR y m = q at *
      go_wp2
      go_quiet (fail)
      go_wp2
      go_roundg (gk - 1)
      case measure => have := hm'.out; omega
      case rel =>
        have hm'' := hm'.out
        exact ⟨m + 1, by omega, by go_num, by rw [hs.out]; rfl, _, rfl⟩
    · obtain rfl : m = 8 := by have := hm'.out; omega
      rw [hR.out]
      go_wp2
      go_ret
      exact ⟨rfl, _, rfl⟩
end Go.Proofs.Ytnckddjlpmkkgaa
