/- The walks of bits.Len64 and of wire.fits: whether a number has room in so many bytes. -/
import Derived.Test.YtfbfkfdkigpkgaaTxt
import Derived.Lib.Tables
import Derived.Lib.BitFns
namespace Go.Proofs.Ytfbfkfdkigpkgaa
set_option linter.unusedSimpArgs false
set_option linter.unusedVariables false
open Go.RowKit

theorem len8_bd : ∀ i : Fin 256, 0 ≤ Lib.len8 (i.val : Int) ∧ Lib.len8 (i.val : Int) ≤ 8 ∧ (i.val ≠ 0 → 1 ≤ Lib.len8 (i.val : Int)) ∧ (i.val = 0 → Lib.len8 (i.val : Int) = 0) := by decide +kernel
theorem room_of (n r k : Nat) (h1 : k = 0 ∨ 256 ^ k ≤ n) (h2 : n < 256 ^ (k + 1)) (h3 : (8 * k + 1 ≤ r ∧ 1 ≤ n) ∨ (n = 0 ∧ r = 0)) (h4 : r ≤ 8 * k + 8) (W : Nat) : r ≤ 8 * W ↔ n < 256 ^ W := by
  have hp : 0 < 256 ^ W := Nat.pow_pos (by omega)
  rcases h3 with ⟨h3, h5⟩ | ⟨rfl, rfl⟩
  · rcases Nat.lt_or_ge k W with h | h
    · have := Nat.pow_le_pow_right (n := 256) (by omega) h
      constructor
      · intro _; exact Nat.lt_of_lt_of_le h2 this
      · intro _; omega
    · have hle := Nat.pow_le_pow_right (n := 256) (by omega) h
      constructor
      · intro hr; omega
      · intro hn
        rcases h1 with rfl | h1
        · obtain rfl : W = 0 := by omega
          rw [Nat.pow_zero] at hn
          omega
        · omega
  · exact ⟨fun _ => hp, fun _ => Nat.zero_le _⟩
/-- One byte's length, k bytes up. -/
theorem room_at (n k : Nat) (hk : k < 8) (h1 : k = 0 ∨ 256 ^ k ≤ n) (h2 : n < 256 ^ (k + 1)) (h0 : n = 0 ∨ 1 ≤ n / 256 ^ k) (W : Nat) :
    (8 * k + (Lib.len8 ((n / 256 ^ k : Nat) : Int)).toNat ≤ 8 * W ↔ n < 256 ^ W) ∧ 0 ≤ Lib.len8 ((n / 256 ^ k : Nat) : Int) ∧ Lib.len8 ((n / 256 ^ k : Nat) : Int) ≤ 8 := by
  have hlt : n / 256 ^ k < 256 := by
    rw [Nat.pow_succ] at h2
    exact Nat.div_lt_of_lt_mul h2
  obtain ⟨a, b, c, d⟩ := len8_bd ⟨n / 256 ^ k, hlt⟩
  simp only at a b c d
  refine ⟨room_of n _ k h1 h2 ?_ (by omega) W, a, b⟩
  rcases h0 with rfl | h0
  · rcases h1 with rfl | h1
    · rw [Nat.zero_div] at d
      have := d rfl
      rw [Nat.zero_div, this]
      exact .inr ⟨rfl, rfl⟩
    · have : 0 < 256 ^ k := Nat.pow_pos (by omega)
      omega
  · have := c (by omega)
    refine .inl ⟨by omega, ?_⟩
    rcases Nat.eq_zero_or_pos n with hz | hz
    · rw [hz, Nat.zero_div] at h0; omega
    · exact hz

set_option maxHeartbeats 1000000 in
set_option maxRecDepth 100000 in
theorem Len64_0 (x : Int) (h0 : 0 ≤ x) (h1 : x < 256) (w : World) :
    Calls Try.prog 102 #[.int .u64 x] w fun e w' => (∃ r : Nat, e = .returned (.int .i64 r) ∧ ∀ W, r ≤ 8 * W ↔ x.toNat < 256 ^ W) ∧ w = w' := by
  have d_x1 : decide ((4294967296 : Int) ≤ x) = false := decide_eq_false (by omega)
  have d_x2 : decide ((65536 : Int) ≤ x) = false := decide_eq_false (by omega)
  have d_x3 : decide ((256 : Int) ≤ x) = false := decide_eq_false (by omega)
  have q0 : 0 ≤ x := by omega
  have q1 : x ≤ 255 := by omega
  have q2 : x = ((x.toNat / 256 ^ 0 : Nat) : Int) := by rw [show (256 : Nat) ^ 0 = 1 from rfl]; omega
  have rm := room_at x.toNat 0 (by omega) (.inl rfl) (by rw [show (256 : Nat) ^ (0 + 1) = 256 from rfl]; omega) (by rw [show (256 : Nat) ^ 0 = 1 from rfl]; omega)
  rw [← q2] at rm
  have bd := (rm 0).2
  obtain ⟨l, hl⟩ := Int.eq_ofNat_of_zero_le bd.1
  have tb := fun (w : World) => Lib.run_index_len8tab (P := Try.prog) (w := w) 9 .u8 x Try.underlying9 q0 q1
  rw [hl] at tb bd
  have bl : l ≤ 8 := by omega
  have RM := Lib.hid (fun W => (rm W).1)
  rw [hl, Int.toNat_natCast] at RM
  clear rm q2 hl bd
  go_enter Try.func102, Try.ntmps102
  go_wp2
  go_ret
  refine ⟨⟨0 + l, ?_, RM.out⟩, rfl⟩
  first | rfl | (congr 2; omega) | (show Ending.returned (Value.int .i64 _) = Ending.returned (Value.int .i64 _); congr 2; omega)
set_option maxHeartbeats 1000000 in
set_option maxRecDepth 100000 in
theorem Len64_1 (x : Int) (h0 : 256 ≤ x) (h1 : x < 65536) (w : World) :
    Calls Try.prog 102 #[.int .u64 x] w fun e w' => (∃ r : Nat, e = .returned (.int .i64 r) ∧ ∀ W, r ≤ 8 * W ↔ x.toNat < 256 ^ W) ∧ w = w' := by
  have d_x1 : decide ((4294967296 : Int) ≤ x) = false := decide_eq_false (by omega)
  have d_x2 : decide ((65536 : Int) ≤ x) = false := decide_eq_false (by omega)
  have d_x3 : decide ((256 : Int) ≤ x) = true := decide_eq_true (by omega)
  obtain ⟨x3, hx3⟩ : ∃ y, y = x / 256 := ⟨_, rfl⟩
  have e_x3 : x / 256 = x3 := hx3.symm
  have q0 : 0 ≤ x3 := by omega
  have q1 : x3 ≤ 255 := by omega
  have q2 : x3 = ((x.toNat / 256 ^ 1 : Nat) : Int) := by rw [show (256 : Nat) ^ 1 = 256 from rfl]; omega
  have rm := room_at x.toNat 1 (by omega) (.inr (by rw [show (256 : Nat) ^ 1 = 256 from rfl]; omega)) (by rw [show (256 : Nat) ^ (1 + 1) = 65536 from rfl]; omega) (by rw [show (256 : Nat) ^ 1 = 256 from rfl]; omega)
  rw [← q2] at rm
  have bd := (rm 0).2
  obtain ⟨l, hl⟩ := Int.eq_ofNat_of_zero_le bd.1
  have tb := fun (w : World) => Lib.run_index_len8tab (P := Try.prog) (w := w) 9 .u8 x3 Try.underlying9 q0 q1
  rw [hl] at tb bd
  have bl : l ≤ 8 := by omega
  have RM := Lib.hid (fun W => (rm W).1)
  rw [hl, Int.toNat_natCast] at RM
  clear rm q2 hl bd hx3
  go_enter Try.func102, Try.ntmps102
  go_wp2
  go_ret
  refine ⟨⟨8 + l, ?_, RM.out⟩, rfl⟩
  first | rfl | (congr 2; omega) | (show Ending.returned (Value.int .i64 _) = Ending.returned (Value.int .i64 _); congr 2; omega)
set_option maxHeartbeats 1000000 in
set_option maxRecDepth 100000 in
theorem Len64_2 (x : Int) (h0 : 65536 ≤ x) (h1 : x < 16777216) (w : World) :
    Calls Try.prog 102 #[.int .u64 x] w fun e w' => (∃ r : Nat, e = .returned (.int .i64 r) ∧ ∀ W, r ≤ 8 * W ↔ x.toNat < 256 ^ W) ∧ w = w' := by
  have d_x1 : decide ((4294967296 : Int) ≤ x) = false := decide_eq_false (by omega)
  have d_x2 : decide ((65536 : Int) ≤ x) = true := decide_eq_true (by omega)
  obtain ⟨x2, hx2⟩ : ∃ y, y = x / 65536 := ⟨_, rfl⟩
  have e_x2 : x / 65536 = x2 := hx2.symm
  have d_x3 : decide ((256 : Int) ≤ x2) = false := decide_eq_false (by omega)
  have q0 : 0 ≤ x2 := by omega
  have q1 : x2 ≤ 255 := by omega
  have q2 : x2 = ((x.toNat / 256 ^ 2 : Nat) : Int) := by rw [show (256 : Nat) ^ 2 = 65536 from rfl]; omega
  have rm := room_at x.toNat 2 (by omega) (.inr (by rw [show (256 : Nat) ^ 2 = 65536 from rfl]; omega)) (by rw [show (256 : Nat) ^ (2 + 1) = 16777216 from rfl]; omega) (by rw [show (256 : Nat) ^ 2 = 65536 from rfl]; omega)
  rw [← q2] at rm
  have bd := (rm 0).2
  obtain ⟨l, hl⟩ := Int.eq_ofNat_of_zero_le bd.1
  have tb := fun (w : World) => Lib.run_index_len8tab (P := Try.prog) (w := w) 9 .u8 x2 Try.underlying9 q0 q1
  rw [hl] at tb bd
  have bl : l ≤ 8 := by omega
  have RM := Lib.hid (fun W => (rm W).1)
  rw [hl, Int.toNat_natCast] at RM
  clear rm q2 hl bd hx2
  go_enter Try.func102, Try.ntmps102
  go_wp2
  go_ret
  refine ⟨⟨16 + l, ?_, RM.out⟩, rfl⟩
  first | rfl | (congr 2; omega) | (show Ending.returned (Value.int .i64 _) = Ending.returned (Value.int .i64 _); congr 2; omega)
set_option maxHeartbeats 1000000 in
set_option maxRecDepth 100000 in
theorem Len64_3 (x : Int) (h0 : 16777216 ≤ x) (h1 : x < 4294967296) (w : World) :
    Calls Try.prog 102 #[.int .u64 x] w fun e w' => (∃ r : Nat, e = .returned (.int .i64 r) ∧ ∀ W, r ≤ 8 * W ↔ x.toNat < 256 ^ W) ∧ w = w' := by
  have d_x1 : decide ((4294967296 : Int) ≤ x) = false := decide_eq_false (by omega)
  have d_x2 : decide ((65536 : Int) ≤ x) = true := decide_eq_true (by omega)
  obtain ⟨x2, hx2⟩ : ∃ y, y = x / 65536 := ⟨_, rfl⟩
  have e_x2 : x / 65536 = x2 := hx2.symm
  have d_x3 : decide ((256 : Int) ≤ x2) = true := decide_eq_true (by omega)
  obtain ⟨x3, hx3⟩ : ∃ y, y = x2 / 256 := ⟨_, rfl⟩
  have e_x3 : x2 / 256 = x3 := hx3.symm
  have q0 : 0 ≤ x3 := by omega
  have q1 : x3 ≤ 255 := by omega
  have q2 : x3 = ((x.toNat / 256 ^ 3 : Nat) : Int) := by rw [show (256 : Nat) ^ 3 = 16777216 from rfl]; omega
  have rm := room_at x.toNat 3 (by omega) (.inr (by rw [show (256 : Nat) ^ 3 = 16777216 from rfl]; omega)) (by rw [show (256 : Nat) ^ (3 + 1) = 4294967296 from rfl]; omega) (by rw [show (256 : Nat) ^ 3 = 16777216 from rfl]; omega)
  rw [← q2] at rm
  have bd := (rm 0).2
  obtain ⟨l, hl⟩ := Int.eq_ofNat_of_zero_le bd.1
  have tb := fun (w : World) => Lib.run_index_len8tab (P := Try.prog) (w := w) 9 .u8 x3 Try.underlying9 q0 q1
  rw [hl] at tb bd
  have bl : l ≤ 8 := by omega
  have RM := Lib.hid (fun W => (rm W).1)
  rw [hl, Int.toNat_natCast] at RM
  clear rm q2 hl bd hx2 hx3
  go_enter Try.func102, Try.ntmps102
  go_wp2
  go_ret
  refine ⟨⟨24 + l, ?_, RM.out⟩, rfl⟩
  first | rfl | (congr 2; omega) | (show Ending.returned (Value.int .i64 _) = Ending.returned (Value.int .i64 _); congr 2; omega)
set_option maxHeartbeats 1000000 in
set_option maxRecDepth 100000 in
theorem Len64_4 (x : Int) (h0 : 4294967296 ≤ x) (h1 : x < 1099511627776) (w : World) :
    Calls Try.prog 102 #[.int .u64 x] w fun e w' => (∃ r : Nat, e = .returned (.int .i64 r) ∧ ∀ W, r ≤ 8 * W ↔ x.toNat < 256 ^ W) ∧ w = w' := by
  have d_x1 : decide ((4294967296 : Int) ≤ x) = true := decide_eq_true (by omega)
  obtain ⟨x1, hx1⟩ : ∃ y, y = x / 4294967296 := ⟨_, rfl⟩
  have e_x1 : x / 4294967296 = x1 := hx1.symm
  have d_x2 : decide ((65536 : Int) ≤ x1) = false := decide_eq_false (by omega)
  have d_x3 : decide ((256 : Int) ≤ x1) = false := decide_eq_false (by omega)
  have q0 : 0 ≤ x1 := by omega
  have q1 : x1 ≤ 255 := by omega
  have q2 : x1 = ((x.toNat / 256 ^ 4 : Nat) : Int) := by rw [show (256 : Nat) ^ 4 = 4294967296 from rfl]; omega
  have rm := room_at x.toNat 4 (by omega) (.inr (by rw [show (256 : Nat) ^ 4 = 4294967296 from rfl]; omega)) (by rw [show (256 : Nat) ^ (4 + 1) = 1099511627776 from rfl]; omega) (by rw [show (256 : Nat) ^ 4 = 4294967296 from rfl]; omega)
  rw [← q2] at rm
  have bd := (rm 0).2
  obtain ⟨l, hl⟩ := Int.eq_ofNat_of_zero_le bd.1
  have tb := fun (w : World) => Lib.run_index_len8tab (P := Try.prog) (w := w) 9 .u8 x1 Try.underlying9 q0 q1
  rw [hl] at tb bd
  have bl : l ≤ 8 := by omega
  have RM := Lib.hid (fun W => (rm W).1)
  rw [hl, Int.toNat_natCast] at RM
  clear rm q2 hl bd hx1
  go_enter Try.func102, Try.ntmps102
  go_wp2
  go_ret
  refine ⟨⟨32 + l, ?_, RM.out⟩, rfl⟩
  first | rfl | (congr 2; omega) | (show Ending.returned (Value.int .i64 _) = Ending.returned (Value.int .i64 _); congr 2; omega)
set_option maxHeartbeats 1000000 in
set_option maxRecDepth 100000 in
theorem Len64_5 (x : Int) (h0 : 1099511627776 ≤ x) (h1 : x < 281474976710656) (w : World) :
    Calls Try.prog 102 #[.int .u64 x] w fun e w' => (∃ r : Nat, e = .returned (.int .i64 r) ∧ ∀ W, r ≤ 8 * W ↔ x.toNat < 256 ^ W) ∧ w = w' := by
  have d_x1 : decide ((4294967296 : Int) ≤ x) = true := decide_eq_true (by omega)
  obtain ⟨x1, hx1⟩ : ∃ y, y = x / 4294967296 := ⟨_, rfl⟩
  have e_x1 : x / 4294967296 = x1 := hx1.symm
  have d_x2 : decide ((65536 : Int) ≤ x1) = false := decide_eq_false (by omega)
  have d_x3 : decide ((256 : Int) ≤ x1) = true := decide_eq_true (by omega)
  obtain ⟨x3, hx3⟩ : ∃ y, y = x1 / 256 := ⟨_, rfl⟩
  have e_x3 : x1 / 256 = x3 := hx3.symm
  have q0 : 0 ≤ x3 := by omega
  have q1 : x3 ≤ 255 := by omega
  have q2 : x3 = ((x.toNat / 256 ^ 5 : Nat) : Int) := by rw [show (256 : Nat) ^ 5 = 1099511627776 from rfl]; omega
  have rm := room_at x.toNat 5 (by omega) (.inr (by rw [show (256 : Nat) ^ 5 = 1099511627776 from rfl]; omega)) (by rw [show (256 : Nat) ^ (5 + 1) = 281474976710656 from rfl]; omega) (by rw [show (256 : Nat) ^ 5 = 1099511627776 from rfl]; omega)
  rw [← q2] at rm
  have bd := (rm 0).2
  obtain ⟨l, hl⟩ := Int.eq_ofNat_of_zero_le bd.1
  have tb := fun (w : World) => Lib.run_index_len8tab (P := Try.prog) (w := w) 9 .u8 x3 Try.underlying9 q0 q1
  rw [hl] at tb bd
  have bl : l ≤ 8 := by omega
  have RM := Lib.hid (fun W => (rm W).1)
  rw [hl, Int.toNat_natCast] at RM
  clear rm q2 hl bd hx1 hx3
  go_enter Try.func102, Try.ntmps102
  go_wp2
  go_ret
  refine ⟨⟨40 + l, ?_, RM.out⟩, rfl⟩
  first | rfl | (congr 2; omega) | (show Ending.returned (Value.int .i64 _) = Ending.returned (Value.int .i64 _); congr 2; omega)
set_option maxHeartbeats 1000000 in
set_option maxRecDepth 100000 in
theorem Len64_6 (x : Int) (h0 : 281474976710656 ≤ x) (h1 : x < 72057594037927936) (w : World) :
    Calls Try.prog 102 #[.int .u64 x] w fun e w' => (∃ r : Nat, e = .returned (.int .i64 r) ∧ ∀ W, r ≤ 8 * W ↔ x.toNat < 256 ^ W) ∧ w = w' := by
  have d_x1 : decide ((4294967296 : Int) ≤ x) = true := decide_eq_true (by omega)
  obtain ⟨x1, hx1⟩ : ∃ y, y = x / 4294967296 := ⟨_, rfl⟩
  have e_x1 : x / 4294967296 = x1 := hx1.symm
  have d_x2 : decide ((65536 : Int) ≤ x1) = true := decide_eq_true (by omega)
  obtain ⟨x2, hx2⟩ : ∃ y, y = x1 / 65536 := ⟨_, rfl⟩
  have e_x2 : x1 / 65536 = x2 := hx2.symm
  have d_x3 : decide ((256 : Int) ≤ x2) = false := decide_eq_false (by omega)
  have q0 : 0 ≤ x2 := by omega
  have q1 : x2 ≤ 255 := by omega
  have q2 : x2 = ((x.toNat / 256 ^ 6 : Nat) : Int) := by rw [show (256 : Nat) ^ 6 = 281474976710656 from rfl]; omega
  have rm := room_at x.toNat 6 (by omega) (.inr (by rw [show (256 : Nat) ^ 6 = 281474976710656 from rfl]; omega)) (by rw [show (256 : Nat) ^ (6 + 1) = 72057594037927936 from rfl]; omega) (by rw [show (256 : Nat) ^ 6 = 281474976710656 from rfl]; omega)
  rw [← q2] at rm
  have bd := (rm 0).2
  obtain ⟨l, hl⟩ := Int.eq_ofNat_of_zero_le bd.1
  have tb := fun (w : World) => Lib.run_index_len8tab (P := Try.prog) (w := w) 9 .u8 x2 Try.underlying9 q0 q1
  rw [hl] at tb bd
  have bl : l ≤ 8 := by omega
  have RM := Lib.hid (fun W => (rm W).1)
  rw [hl, Int.toNat_natCast] at RM
  clear rm q2 hl bd hx1 hx2
  go_enter Try.func102, Try.ntmps102
  go_wp2
  go_ret
  refine ⟨⟨48 + l, ?_, RM.out⟩, rfl⟩
  first | rfl | (congr 2; omega) | (show Ending.returned (Value.int .i64 _) = Ending.returned (Value.int .i64 _); congr 2; omega)
set_option maxHeartbeats 1000000 in
set_option maxRecDepth 100000 in
theorem Len64_7 (x : Int) (h0 : 72057594037927936 ≤ x) (h1 : x ≤ 18446744073709551615) (w : World) :
    Calls Try.prog 102 #[.int .u64 x] w fun e w' => (∃ r : Nat, e = .returned (.int .i64 r) ∧ ∀ W, r ≤ 8 * W ↔ x.toNat < 256 ^ W) ∧ w = w' := by
  have d_x1 : decide ((4294967296 : Int) ≤ x) = true := decide_eq_true (by omega)
  obtain ⟨x1, hx1⟩ : ∃ y, y = x / 4294967296 := ⟨_, rfl⟩
  have e_x1 : x / 4294967296 = x1 := hx1.symm
  have d_x2 : decide ((65536 : Int) ≤ x1) = true := decide_eq_true (by omega)
  obtain ⟨x2, hx2⟩ : ∃ y, y = x1 / 65536 := ⟨_, rfl⟩
  have e_x2 : x1 / 65536 = x2 := hx2.symm
  have d_x3 : decide ((256 : Int) ≤ x2) = true := decide_eq_true (by omega)
  obtain ⟨x3, hx3⟩ : ∃ y, y = x2 / 256 := ⟨_, rfl⟩
  have e_x3 : x2 / 256 = x3 := hx3.symm
  have q0 : 0 ≤ x3 := by omega
  have q1 : x3 ≤ 255 := by omega
  have q2 : x3 = ((x.toNat / 256 ^ 7 : Nat) : Int) := by rw [show (256 : Nat) ^ 7 = 72057594037927936 from rfl]; omega
  have rm := room_at x.toNat 7 (by omega) (.inr (by rw [show (256 : Nat) ^ 7 = 72057594037927936 from rfl]; omega)) (by rw [show (256 : Nat) ^ (7 + 1) = 18446744073709551616 from rfl]; omega) (by rw [show (256 : Nat) ^ 7 = 72057594037927936 from rfl]; omega)
  rw [← q2] at rm
  have bd := (rm 0).2
  obtain ⟨l, hl⟩ := Int.eq_ofNat_of_zero_le bd.1
  have tb := fun (w : World) => Lib.run_index_len8tab (P := Try.prog) (w := w) 9 .u8 x3 Try.underlying9 q0 q1
  rw [hl] at tb bd
  have bl : l ≤ 8 := by omega
  have RM := Lib.hid (fun W => (rm W).1)
  rw [hl, Int.toNat_natCast] at RM
  clear rm q2 hl bd hx1 hx2 hx3
  go_enter Try.func102, Try.ntmps102
  go_wp2
  go_ret
  refine ⟨⟨56 + l, ?_, RM.out⟩, rfl⟩
  first | rfl | (congr 2; omega) | (show Ending.returned (Value.int .i64 _) = Ending.returned (Value.int .i64 _); congr 2; omega)
theorem Len64_int (x : Int) (h0 : 0 ≤ x) (h1 : x ≤ 18446744073709551615) (w : World) :
    Calls Try.prog 102 #[.int .u64 x] w fun e w' => (∃ r : Nat, e = .returned (.int .i64 r) ∧ ∀ W, r ≤ 8 * W ↔ x.toNat < 256 ^ W) ∧ w = w' := by
  by_cases g0 : x < 256
  · exact Len64_0 x (by omega) g0 w
  by_cases g1 : x < 65536
  · exact Len64_1 x (by omega) g1 w
  by_cases g2 : x < 16777216
  · exact Len64_2 x (by omega) g2 w
  by_cases g3 : x < 4294967296
  · exact Len64_3 x (by omega) g3 w
  by_cases g4 : x < 1099511627776
  · exact Len64_4 x (by omega) g4 w
  by_cases g5 : x < 281474976710656
  · exact Len64_5 x (by omega) g5 w
  by_cases g6 : x < 72057594037927936
  · exact Len64_6 x (by omega) g6 w
  exact Len64_7 x (by omega) h1 w
end Go.Proofs.Ytfbfkfdkigpkgaa
