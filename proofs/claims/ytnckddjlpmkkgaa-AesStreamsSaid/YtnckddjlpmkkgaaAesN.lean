/- The walk of the reference's product of bytes. -/
import Derived.Test.YtnckddjlpmkkgaaAesM
import Derived.Test.YtnckddjlpmkkgaaRows
namespace Go.Proofs.Ytnckddjlpmkkgaa
set_option linter.unusedSimpArgs false
set_option linter.unusedVariables false
open Go.RowKit

set_option maxHeartbeats 400000 in
theorem Mul_nat (a b : Nat) (h1 : a < 256) (h3 : b < 256) (w : World) :
    Calls Try.prog 12 #[.int .u8 a, .int .u8 b] w fun e w' => e = .returned (.int .u8 (mulN a b)) ∧ w = w' := by
  go_enter Try.func12, Try.ntmps12
  go_wp2
  go_loopg [5, 8] 8 (fun n p i wr => ∃ m : Nat, m + n = 8 ∧ i = .int .i64 m ∧ p = .int .i64 (mulP a b m) ∧ w = wr)
  case atStart => exact ⟨0, rfl, rfl, rfl, rfl⟩
  case round =>
    obtain ⟨m, hm, rfl, rfl, rfl⟩ := hrel
    have hm' := Lib.hid hm
    clear hm
    by_cases hlt : m < 8
    · have hs := Lib.hid (mul_step a b m h1 hlt)
      have hu : Hid (mulP a b (m + 1) = if b / 2 ^ m % 2 = 1 then mulP a b m ^^^ (a * 2 ^ m) else mulP a b m) := rfl
      by_cases hb : b / 2 ^ m % 2 = 1
      · have ht : (((b : Int) / 2 ^ m).tmod 2 == 1) = true := by rw [bit_test]; simp [hb]
        have hb' := Lib.hid hb
        clear hb
        go_wp2
        go_roundg (gk - 1)
        case measure => have := hm'.out; omega
        case rel =>
          have hm'' := hm'.out
          exact ⟨m + 1, by omega, by go_num, by rw [hs.out, hu.out, if_pos hb'.out], rfl⟩
      · have ht : (((b : Int) / 2 ^ m).tmod 2 == 1) = false := by rw [bit_test]; simp [hb]
        have hb' := Lib.hid hb
        clear hb
        go_wp2
        go_roundg (gk - 1)
        case measure => have := hm'.out; omega
        case rel =>
          have hm'' := hm'.out
          exact ⟨m + 1, by omega, by go_num, by rw [hu.out, if_neg hb'.out], rfl⟩
    · obtain rfl : m = 8 := by have := hm'.out; omega
      have hP := mulP_lt a b h1 8 (by omega)
      have hR : Hid (mulN a b = redP (mulP a b 8) 7 % 256) := rfl
      generalize mulP a b 8 = P at *
      go_wp2
      go_loopg [5, 7] 7 (fun n p i wr => ∃ m j : Nat, m + n = 7 ∧ j + m = 14 ∧ i = .int .i64 j ∧ p = .int .i64 (redP P m) ∧ w = wr)
      case atStart => exact ⟨0, 14, rfl, rfl, rfl, rfl, rfl⟩
      case round =>
        obtain ⟨m, j, hm, hj, rfl, rfl, rfl⟩ := hrel
        have hm' := Lib.hid hm
        have hj' := Lib.hid hj
        have hq := redP_lt P hP m (by omega)
        by_cases hlt : m < 7
        · have hj1 : 8 ≤ j := by omega
          have hj2 : j ≤ 14 := by omega
          clear hm hj
          have hs := Lib.hid (red_step (redP P m) j hq hj1 hj2)
          have hu : Hid (redP P (m + 1) = if redP P m / 2 ^ (14 - m) % 2 = 1 then redP P m ^^^ (283 * 2 ^ (6 - m)) else redP P m) := rfl
          by_cases hb : redP P m / 2 ^ j % 2 = 1
          · have ht : ((((redP P m : Nat) : Int) / 2 ^ j).tmod 2 == 1) = true := by rw [bit_test]; simp [hb]
            have hb' := Lib.hid hb
            clear hb
            go_wp2
            go_roundg (gk - 1)
            case measure => have := hm'.out; omega
            case rel =>
              have hm'' := hm'.out
              have hj'' := hj'.out
              refine ⟨m + 1, j - 1, by omega, by omega, by go_num, ?_, rfl⟩
              rw [hs.out, hu.out, show 14 - m = j from by omega, if_pos hb'.out, show 6 - m = j - 8 from by omega]
          · have ht : ((((redP P m : Nat) : Int) / 2 ^ j).tmod 2 == 1) = false := by rw [bit_test]; simp [hb]
            have hb' := Lib.hid hb
            clear hb
            go_wp2
            go_roundg (gk - 1)
            case measure => have := hm'.out; omega
            case rel =>
              have hm'' := hm'.out
              have hj'' := hj'.out
              refine ⟨m + 1, j - 1, by omega, by omega, by go_num, ?_, rfl⟩
              rw [hu.out, show 14 - m = j from by omega, if_neg hb'.out]
        · obtain rfl : m = 7 := by omega
          obtain rfl : j = 7 := by omega
          clear hm hj
          go_wp2
          go_ret
          refine ⟨?_, rfl⟩
          rw [hR.out]
          exact congrArg (fun z => Ending.returned (.int .u8 z)) (by omega)
end Go.Proofs.Ytnckddjlpmkkgaa
