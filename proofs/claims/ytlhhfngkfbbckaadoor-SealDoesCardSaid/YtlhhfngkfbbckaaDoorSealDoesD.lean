/- The walks of bits.Len64 and of wire.fits: whether a number has room in so many bytes. The walks of a number's bytes: wire.Num at one number, and the reference's. wire.Num at one number, behind a text. Streams: where there is none, and why. What layer 4 computes, on bytes as integers: the boxes and how they are found; no program is in sight. What layer 4 computes, on bytes as integers: a key's keys; no program is in sight. The reference's product of bytes, on numbers; no program is in sight. What layer 4 computes: a block's rounds; no program is in sight. Slices of a call's own, as rows; what a stream of blocks comes to (plain). The walks of layer 4: what each function of package aes gives. The walks of layer 4: a key's cipher. The walks of layer 4: Box, Keys, and the law's beginning. The walks of layer 4: a block's rounds. The walks of layer 4: a round, and a block encrypted. The walks of layer 4: a block encrypted. The walk of aes.Ctr where there is a text. Two blocks that are not the same are not encrypted to the same; no program is in sight. The walk of the reference's product of bytes. Plain law of layer 4's reference: the box out of the inverse. The walks of the reference for layer 4: a byte's inverse. The walks of the reference for layer 4: a block's rounds. The walks of the reference for layer 4: the columns mixed. x[i] of an array that is a value; no program is in sight. The law AesKeys: whatever the key, it answers true. The walk of the reference for layer 4: a key's -/
import Derived.Test.YtlhhfngkfbbckaaDoorSealDoesC
import Derived.WalkKit
import Derived.WalkSpells
import Derived.WalkLawsBesides
import Derived.Deep.QuietTactic
import Derived.BigQuiet
import Derived.StillTailTactics
import Derived.Lib.Hide
import Derived.Deep.LoopGhost
import Derived.Outline
import Derived.Deep.DeepFit
import Derived.Deep.RegionHeld3
import Derived.Deep.RegionLaw
import Derived.Maps.AppendAt
import Derived.Deep.AppendLies
import Derived.Deep.Draws
import Derived.Laws.OwnMore
import Derived.Laws.AppendOwnNone
import Derived.OwnWalk
import Derived.Below
import Derived.OrdersHeld
import Derived.Laws.StructEq
import Derived.Test.YtlhhfngkfbbckaaDoorRows
import Derived.Lib.SliceRun
import Derived.Laws.IdiomStrings
import Derived.Deep.Cut
import Derived.Deep.CutBlock
import Derived.Deep.CutRange
import Derived.DataElems
import Derived.Great.BuildSlice
import Derived.Laws.Entries
import Derived.Laws.Tables
import Derived.SizedLaws
import Derived.Laws.Small
import Derived.Laws.MakeOwn
import Derived.Laws.CopyRow
import Derived.Laws.IdiomCopy
import Derived.Test.YtlhhfngkfbbckaaDoorChecked
import Derived.Lib.Tables
import Derived.Lib.BitFns
import Derived.KernelRfl
import Derived.Deep.OwnRows
import Derived.Great.Walk
namespace Go.Proofs.YtlhhfngkfbbckaaDoor
set_option linter.unusedSimpArgs false
set_option linter.unusedVariables false
open Go.RowKit

theorem len8_bd : ∀ i : Fin 256, 0 ≤ Lib.len8 (i.val : Int) ∧ Lib.len8 (i.val : Int) ≤ 8 ∧ (i.val ≠ 0 → 1 ≤ Lib.len8 (i.val : Int)) ∧ (i.val = 0 → Lib.len8 (i.val : Int) = 0) := by decide +kernel
theorem room_of (n r k : Nat) (h1 : k = 0 ∨ 256 ^ k ≤ n) (h2 : n < 256 ^ (k + 1)) (h3 : (8 * k + 1 ≤ r ∧ 1 ≤ n) ∨ (n = 0 ∧ r = 0)) (h4 : r ≤ 8 * k + 8) (W : Nat) : r ≤ 8 * W ↔ n < 256 ^ W := by
  have hp : 0 < 256 ^ W := Nat.pow_pos (by omega)
  rcases h3 with ⟨h3, h5⟩ | ⟨rfl, rfl⟩
  · rcases Nat.lt_or_ge k W with h | h
    · have := Nat.pow_le_pow_right (n := 256) (by omega) h
      constructor
      · intro _; exact Nat.lt_of_lt_of_le h2 this
      · intro _; omega
    · have hle := Nat.pow_le_pow_right (n := 256) (by omega) h
      constructor
      · intro hr; omega
      · intro hn
        rcases h1 with rfl | h1
        · obtain rfl : W = 0 := by omega
          rw [Nat.pow_zero] at hn
          omega
        · omega
  · exact ⟨fun _ => hp, fun _ => Nat.zero_le _⟩
/-- One byte's length, k bytes up. -/
theorem room_at (n k : Nat) (hk : k < 8) (h1 : k = 0 ∨ 256 ^ k ≤ n) (h2 : n < 256 ^ (k + 1)) (h0 : n = 0 ∨ 1 ≤ n / 256 ^ k) (W : Nat) :
    (8 * k + (Lib.len8 ((n / 256 ^ k : Nat) : Int)).toNat ≤ 8 * W ↔ n < 256 ^ W) ∧ 0 ≤ Lib.len8 ((n / 256 ^ k : Nat) : Int) ∧ Lib.len8 ((n / 256 ^ k : Nat) : Int) ≤ 8 := by
  have hlt : n / 256 ^ k < 256 := by
    rw [Nat.pow_succ] at h2
    exact Nat.div_lt_of_lt_mul h2
  obtain ⟨a, b, c, d⟩ := len8_bd ⟨n / 256 ^ k, hlt⟩
  simp only at a b c d
  refine ⟨room_of n _ k h1 h2 ?_ (by omega) W, a, b⟩
  rcases h0 with rfl | h0
  · rcases h1 with rfl | h1
    · rw [Nat.zero_div] at d
      have := d rfl
      rw [Nat.zero_div, this]
      exact .inr ⟨rfl, rfl⟩
    · have : 0 < 256 ^ k := Nat.pow_pos (by omega)
      omega
  · have := c (by omega)
    refine .inl ⟨by omega, ?_⟩
    rcases Nat.eq_zero_or_pos n with hz | hz
    · rw [hz, Nat.zero_div] at h0; omega
    · exact hz

set_option maxHeartbeats 1000000 in
set_option maxRecDepth 100000 in
theorem Len64_0 (x : Int) (h0 : 0 ≤ x) (h1 : x < 256) (w : World) :
    Calls Tryd.prog 59 #[.int .u64 x] w fun e w' => (∃ r : Nat, e = .returned (.int .i64 r) ∧ ∀ W, r ≤ 8 * W ↔ x.toNat < 256 ^ W) ∧ w = w' := by
  have d_x1 : decide ((4294967296 : Int) ≤ x) = false := decide_eq_false (by omega)
  have d_x2 : decide ((65536 : Int) ≤ x) = false := decide_eq_false (by omega)
  have d_x3 : decide ((256 : Int) ≤ x) = false := decide_eq_false (by omega)
  have q0 : 0 ≤ x := by omega
  have q1 : x ≤ 255 := by omega
  have q2 : x = ((x.toNat / 256 ^ 0 : Nat) : Int) := by rw [show (256 : Nat) ^ 0 = 1 from rfl]; omega
  have rm := room_at x.toNat 0 (by omega) (.inl rfl) (by rw [show (256 : Nat) ^ (0 + 1) = 256 from rfl]; omega) (by rw [show (256 : Nat) ^ 0 = 1 from rfl]; omega)
  rw [← q2] at rm
  have bd := (rm 0).2
  obtain ⟨l, hl⟩ := Int.eq_ofNat_of_zero_le bd.1
  have tb := fun (w : World) => Lib.run_index_len8tab (P := Tryd.prog) (w := w) 9 .u8 x Tryd.underlying9 q0 q1
  rw [hl] at tb bd
  have bl : l ≤ 8 := by omega
  have RM := Lib.hid (fun W => (rm W).1)
  rw [hl, Int.toNat_natCast] at RM
  clear rm q2 hl bd
  go_enter Tryd.func59, Tryd.ntmps59
  go_wp2
  go_ret
  refine ⟨⟨0 + l, ?_, RM.out⟩, rfl⟩
  first | rfl | (congr 2; omega) | (show Ending.returned (Value.int .i64 _) = Ending.returned (Value.int .i64 _); congr 2; omega)
set_option maxHeartbeats 1000000 in
set_option maxRecDepth 100000 in
theorem Len64_1 (x : Int) (h0 : 256 ≤ x) (h1 : x < 65536) (w : World) :
    Calls Tryd.prog 59 #[.int .u64 x] w fun e w' => (∃ r : Nat, e = .returned (.int .i64 r) ∧ ∀ W, r ≤ 8 * W ↔ x.toNat < 256 ^ W) ∧ w = w' := by
  have d_x1 : decide ((4294967296 : Int) ≤ x) = false := decide_eq_false (by omega)
  have d_x2 : decide ((65536 : Int) ≤ x) = false := decide_eq_false (by omega)
  have d_x3 : decide ((256 : Int) ≤ x) = true := decide_eq_true (by omega)
  obtain ⟨x3, hx3⟩ : ∃ y, y = x / 256 := ⟨_, rfl⟩
  have e_x3 : x / 256 = x3 := hx3.symm
  have q0 : 0 ≤ x3 := by omega
  have q1 : x3 ≤ 255 := by omega
  have q2 : x3 = ((x.toNat / 256 ^ 1 : Nat) : Int) := by rw [show (256 : Nat) ^ 1 = 256 from rfl]; omega
  have rm := room_at x.toNat 1 (by omega) (.inr (by rw [show (256 : Nat) ^ 1 = 256 from rfl]; omega)) (by rw [show (256 : Nat) ^ (1 + 1) = 65536 from rfl]; omega) (by rw [show (256 : Nat) ^ 1 = 256 from rfl]; omega)
  rw [← q2] at rm
  have bd := (rm 0).2
  obtain ⟨l, hl⟩ := Int.eq_ofNat_of_zero_le bd.1
  have tb := fun (w : World) => Lib.run_index_len8tab (P := Tryd.prog) (w := w) 9 .u8 x3 Tryd.underlying9 q0 q1
  rw [hl] at tb bd
  have bl : l ≤ 8 := by omega
  have RM := Lib.hid (fun W => (rm W).1)
  rw [hl, Int.toNat_natCast] at RM
  clear rm q2 hl bd hx3
  go_enter Tryd.func59, Tryd.ntmps59
  go_wp2
  go_ret
  refine ⟨⟨8 + l, ?_, RM.out⟩, rfl⟩
  first | rfl | (congr 2; omega) | (show Ending.returned (Value.int .i64 _) = Ending.returned (Value.int .i64 _); congr 2; omega)
set_option maxHeartbeats 1000000 in
set_option maxRecDepth 100000 in
theorem Len64_2 (x : Int) (h0 : 65536 ≤ x) (h1 : x < 16777216) (w : World) :
    Calls Tryd.prog 59 #[.int .u64 x] w fun e w' => (∃ r : Nat, e = .returned (.int .i64 r) ∧ ∀ W, r ≤ 8 * W ↔ x.toNat < 256 ^ W) ∧ w = w' := by
  have d_x1 : decide ((4294967296 : Int) ≤ x) = false := decide_eq_false (by omega)
  have d_x2 : decide ((65536 : Int) ≤ x) = true := decide_eq_true (by omega)
  obtain ⟨x2, hx2⟩ : ∃ y, y = x / 65536 := ⟨_, rfl⟩
  have e_x2 : x / 65536 = x2 := hx2.symm
  have d_x3 : decide ((256 : Int) ≤ x2) = false := decide_eq_false (by omega)
  have q0 : 0 ≤ x2 := by omega
  have q1 : x2 ≤ 255 := by omega
  have q2 : x2 = ((x.toNat / 256 ^ 2 : Nat) : Int) := by rw [show (256 : Nat) ^ 2 = 65536 from rfl]; omega
  have rm := room_at x.toNat 2 (by omega) (.inr (by rw [show (256 : Nat) ^ 2 = 65536 from rfl]; omega)) (by rw [show (256 : Nat) ^ (2 + 1) = 16777216 from rfl]; omega) (by rw [show (256 : Nat) ^ 2 = 65536 from rfl]; omega)
  rw [← q2] at rm
  have bd := (rm 0).2
  obtain ⟨l, hl⟩ := Int.eq_ofNat_of_zero_le bd.1
  have tb := fun (w : World) => Lib.run_index_len8tab (P := Tryd.prog) (w := w) 9 .u8 x2 Tryd.underlying9 q0 q1
  rw [hl] at tb bd
  have bl : l ≤ 8 := by omega
  have RM := Lib.hid (fun W => (rm W).1)
  rw [hl, Int.toNat_natCast] at RM
  clear rm q2 hl bd hx2
  go_enter Tryd.func59, Tryd.ntmps59
  go_wp2
  go_ret
  refine ⟨⟨16 + l, ?_, RM.out⟩, rfl⟩
  first | rfl | (congr 2; omega) | (show Ending.returned (Value.int .i64 _) = Ending.returned (Value.int .i64 _); congr 2; omega)
set_option maxHeartbeats 1000000 in
set_option maxRecDepth 100000 in
theorem Len64_3 (x : Int) (h0 : 16777216 ≤ x) (h1 : x < 4294967296) (w : World) :
    Calls Tryd.prog 59 #[.int .u64 x] w fun e w' => (∃ r : Nat, e = .returned (.int .i64 r) ∧ ∀ W, r ≤ 8 * W ↔ x.toNat < 256 ^ W) ∧ w = w' := by
  have d_x1 : decide ((4294967296 : Int) ≤ x) = false := decide_eq_false (by omega)
  have d_x2 : decide ((65536 : Int) ≤ x) = true := decide_eq_true (by omega)
  obtain ⟨x2, hx2⟩ : ∃ y, y = x / 65536 := ⟨_, rfl⟩
  have e_x2 : x / 65536 = x2 := hx2.symm
  have d_x3 : decide ((256 : Int) ≤ x2) = true := decide_eq_true (by omega)
  obtain ⟨x3, hx3⟩ : ∃ y, y = x2 / 256 := ⟨_, rfl⟩
  have e_x3 : x2 / 256 = x3 := hx3.symm
  have q0 : 0 ≤ x3 := by omega
  have q1 : x3 ≤ 255 := by omega
  have q2 : x3 = ((x.toNat / 256 ^ 3 : Nat) : Int) := by rw [show (256 : Nat) ^ 3 = 16777216 from rfl]; omega
  have rm := room_at x.toNat 3 (by omega) (.inr (by rw [show (256 : Nat) ^ 3 = 16777216 from rfl]; omega)) (by rw [show (256 : Nat) ^ (3 + 1) = 4294967296 from rfl]; omega) (by rw [show (256 : Nat) ^ 3 = 16777216 from rfl]; omega)
  rw [← q2] at rm
  have bd := (rm 0).2
  obtain ⟨l, hl⟩ := Int.eq_ofNat_of_zero_le bd.1
  have tb := fun (w : World) => Lib.run_index_len8tab (P := Tryd.prog) (w := w) 9 .u8 x3 Tryd.underlying9 q0 q1
  rw [hl] at tb bd
  have bl : l ≤ 8 := by omega
  have RM := Lib.hid (fun W => (rm W).1)
  rw [hl, Int.toNat_natCast] at RM
  clear rm q2 hl bd hx2 hx3
  go_enter Tryd.func59, Tryd.ntmps59
  go_wp2
  go_ret
  refine ⟨⟨24 + l, ?_, RM.out⟩, rfl⟩
  first | rfl | (congr 2; omega) | (show Ending.returned (Value.int .i64 _) = Ending.returned (Value.int .i64 _); congr 2; omega)
set_option maxHeartbeats 1000000 in
set_option maxRecDepth 100000 in
theorem Len64_4 (x : Int) (h0 : 4294967296 ≤ x) (h1 : x < 1099511627776) (w : World) :
    Calls Tryd.prog 59 #[.int .u64 x] w fun e w' => (∃ r : Nat, e = .returned (.int .i64 r) ∧ ∀ W, r ≤ 8 * W ↔ x.toNat < 256 ^ W) ∧ w = w' := by
  have d_x1 : decide ((4294967296 : Int) ≤ x) = true := decide_eq_true (by omega)
  obtain ⟨x1, hx1⟩ : ∃ y, y = x / 4294967296 := ⟨_, rfl⟩
  have e_x1 : x / 4294967296 = x1 := hx1.symm
  have d_x2 : decide ((65536 : Int) ≤ x1) = false := decide_eq_false (by omega)
  have d_x3 : decide ((256 : Int) ≤ x1) = false := decide_eq_false (by omega)
  have q0 : 0 ≤ x1 := by omega
  have q1 : x1 ≤ 255 := by omega
  have q2 : x1 = ((x.toNat / 256 ^ 4 : Nat) : Int) := by rw [show (256 : Nat) ^ 4 = 4294967296 from rfl]; omega
  have rm := room_at x.toNat 4 (by omega) (.inr (by rw [show (256 : Nat) ^ 4 = 4294967296 from rfl]; omega)) (by rw [show (256 : Nat) ^ (4 + 1) = 1099511627776 from rfl]; omega) (by rw [show (256 : Nat) ^ 4 = 4294967296 from rfl]; omega)
  rw [← q2] at rm
  have bd := (rm 0).2
  obtain ⟨l, hl⟩ := Int.eq_ofNat_of_zero_le bd.1
  have tb := fun (w : World) => Lib.run_index_len8tab (P := Tryd.prog) (w := w) 9 .u8 x1 Tryd.underlying9 q0 q1
  rw [hl] at tb bd
  have bl : l ≤ 8 := by omega
  have RM := Lib.hid (fun W => (rm W).1)
  rw [hl, Int.toNat_natCast] at RM
  clear rm q2 hl bd hx1
  go_enter Tryd.func59, Tryd.ntmps59
  go_wp2
  go_ret
  refine ⟨⟨32 + l, ?_, RM.out⟩, rfl⟩
  first | rfl | (congr 2; omega) | (show Ending.returned (Value.int .i64 _) = Ending.returned (Value.int .i64 _); congr 2; omega)
set_option maxHeartbeats 1000000 in
set_option maxRecDepth 100000 in
theorem Len64_5 (x : Int) (h0 : 1099511627776 ≤ x) (h1 : x < 281474976710656) (w : World) :
    Calls Tryd.prog 59 #[.int .u64 x] w fun e w' => (∃ r : Nat, e = .returned (.int .i64 r) ∧ ∀ W, r ≤ 8 * W ↔ x.toNat < 256 ^ W) ∧ w = w' := by
  have d_x1 : decide ((4294967296 : Int) ≤ x) = true := decide_eq_true (by omega)
  obtain ⟨x1, hx1⟩ : ∃ y, y = x / 4294967296 := ⟨_, rfl⟩
  have e_x1 : x / 4294967296 = x1 := hx1.symm
  have d_x2 : decide ((65536 : Int) ≤ x1) = false := decide_eq_false (by omega)
  have d_x3 : decide ((256 : Int) ≤ x1) = true := decide_eq_true (by omega)
  obtain ⟨x3, hx3⟩ : ∃ y, y = x1 / 256 := ⟨_, rfl⟩
  have e_x3 : x1 / 256 = x3 := hx3.symm
  have q0 : 0 ≤ x3 := by omega
  have q1 : x3 ≤ 255 := by omega
  have q2 : x3 = ((x.toNat / 256 ^ 5 : Nat) : Int) := by rw [show (256 : Nat) ^ 5 = 1099511627776 from rfl]; omega
  have rm := room_at x.toNat 5 (by omega) (.inr (by rw [show (256 : Nat) ^ 5 = 1099511627776 from rfl]; omega)) (by rw [show (256 : Nat) ^ (5 + 1) = 281474976710656 from rfl]; omega) (by rw [show (256 : Nat) ^ 5 = 1099511627776 from rfl]; omega)
  rw [← q2] at rm
  have bd := (rm 0).2
  obtain ⟨l, hl⟩ := Int.eq_ofNat_of_zero_le bd.1
  have tb := fun (w : World) => Lib.run_index_len8tab (P := Tryd.prog) (w := w) 9 .u8 x3 Tryd.underlying9 q0 q1
  rw [hl] at tb bd
  have bl : l ≤ 8 := by omega
  have RM := Lib.hid (fun W => (rm W).1)
  rw [hl, Int.toNat_natCast] at RM
  clear rm q2 hl bd hx1 hx3
  go_enter Tryd.func59, Tryd.ntmps59
  go_wp2
  go_ret
  refine ⟨⟨40 + l, ?_, RM.out⟩, rfl⟩
  first | rfl | (congr 2; omega) | (show Ending.returned (Value.int .i64 _) = Ending.returned (Value.int .i64 _); congr 2; omega)
set_option maxHeartbeats 1000000 in
set_option maxRecDepth 100000 in
theorem Len64_6 (x : Int) (h0 : 281474976710656 ≤ x) (h1 : x < 72057594037927936) (w : World) :
    Calls Tryd.prog 59 #[.int .u64 x] w fun e w' => (∃ r : Nat, e = .returned (.int .i64 r) ∧ ∀ W, r ≤ 8 * W ↔ x.toNat < 256 ^ W) ∧ w = w' := by
  have d_x1 : decide ((4294967296 : Int) ≤ x) = true := decide_eq_true (by omega)
  obtain ⟨x1, hx1⟩ : ∃ y, y = x / 4294967296 := ⟨_, rfl⟩
  have e_x1 : x / 4294967296 = x1 := hx1.symm
  have d_x2 : decide ((65536 : Int) ≤ x1) = true := decide_eq_true (by omega)
  obtain ⟨x2, hx2⟩ : ∃ y, y = x1 / 65536 := ⟨_, rfl⟩
  have e_x2 : x1 / 65536 = x2 := hx2.symm
  have d_x3 : decide ((256 : Int) ≤ x2) = false := decide_eq_false (by omega)
  have q0 : 0 ≤ x2 := by omega
  have q1 : x2 ≤ 255 := by omega
  have q2 : x2 = ((x.toNat / 256 ^ 6 : Nat) : Int) := by rw [show (256 : Nat) ^ 6 = 281474976710656 from rfl]; omega
  have rm := room_at x.toNat 6 (by omega) (.inr (by rw [show (256 : Nat) ^ 6 = 281474976710656 from rfl]; omega)) (by rw [show (256 : Nat) ^ (6 + 1) = 72057594037927936 from rfl]; omega) (by rw [show (256 : Nat) ^ 6 = 281474976710656 from rfl]; omega)
  rw [← q2] at rm
  have bd := (rm 0).2
  obtain ⟨l, hl⟩ := Int.eq_ofNat_of_zero_le bd.1
  have tb := fun (w : World) => Lib.run_index_len8tab (P := Tryd.prog) (w := w) 9 .u8 x2 Tryd.underlying9 q0 q1
  rw [hl] at tb bd
  have bl : l ≤ 8 := by omega
  have RM := Lib.hid (fun W => (rm W).1)
  rw [hl, Int.toNat_natCast] at RM
  clear rm q2 hl bd hx1 hx2
  go_enter Tryd.func59, Tryd.ntmps59
  go_wp2
  go_ret
  refine ⟨⟨48 + l, ?_, RM.out⟩, rfl⟩
  first | rfl | (congr 2; omega) | (show Ending.returned (Value.int .i64 _) = Ending.returned (Value.int .i64 _); congr 2; omega)
set_option maxHeartbeats 1000000 in
set_option maxRecDepth 100000 in
theorem Len64_7 (x : Int) (h0 : 72057594037927936 ≤ x) (h1 : x ≤ 18446744073709551615) (w : World) :
    Calls Tryd.prog 59 #[.int .u64 x] w fun e w' => (∃ r : Nat, e = .returned (.int .i64 r) ∧ ∀ W, r ≤ 8 * W ↔ x.toNat < 256 ^ W) ∧ w = w' := by
  have d_x1 : decide ((4294967296 : Int) ≤ x) = true := decide_eq_true (by omega)
  obtain ⟨x1, hx1⟩ : ∃ y, y = x / 4294967296 := ⟨_, rfl⟩
  have e_x1 : x / 4294967296 = x1 := hx1.symm
  have d_x2 : decide ((65536 : Int) ≤ x1) = true := decide_eq_true (by omega)
  obtain ⟨x2, hx2⟩ : ∃ y, y = x1 / 65536 := ⟨_, rfl⟩
  have e_x2 : x1 / 65536 = x2 := hx2.symm
  have d_x3 : decide ((256 : Int) ≤ x2) = true := decide_eq_true (by omega)
  obtain ⟨x3, hx3⟩ : ∃ y, y = x2 / 256 := ⟨_, rfl⟩
  have e_x3 : x2 / 256 = x3 := hx3.symm
  have q0 : 0 ≤ x3 := by omega
  have q1 : x3 ≤ 255 := by omega
  have q2 : x3 = ((x.toNat / 256 ^ 7 : Nat) : Int) := by rw [show (256 : Nat) ^ 7 = 72057594037927936 from rfl]; omega
  have rm := room_at x.toNat 7 (by omega) (.inr (by rw [show (256 : Nat) ^ 7 = 72057594037927936 from rfl]; omega)) (by rw [show (256 : Nat) ^ (7 + 1) = 18446744073709551616 from rfl]; omega) (by rw [show (256 : Nat) ^ 7 = 72057594037927936 from rfl]; omega)
  rw [← q2] at rm
  have bd := (rm 0).2
  obtain ⟨l, hl⟩ := Int.eq_ofNat_of_zero_le bd.1
  have tb := fun (w : World) => Lib.run_index_len8tab (P := Tryd.prog) (w := w) 9 .u8 x3 Tryd.underlying9 q0 q1
  rw [hl] at tb bd
  have bl : l ≤ 8 := by omega
  have RM := Lib.hid (fun W => (rm W).1)
  rw [hl, Int.toNat_natCast] at RM
  clear rm q2 hl bd hx1 hx2 hx3
  go_enter Tryd.func59, Tryd.ntmps59
  go_wp2
  go_ret
  refine ⟨⟨56 + l, ?_, RM.out⟩, rfl⟩
  first | rfl | (congr 2; omega) | (show Ending.returned (Value.int .i64 _) = Ending.returned (Value.int .i64 _); congr 2; omega)
theorem Len64_int (x : Int) (h0 : 0 ≤ x) (h1 : x ≤ 18446744073709551615) (w : World) :
    Calls Tryd.prog 59 #[.int .u64 x] w fun e w' => (∃ r : Nat, e = .returned (.int .i64 r) ∧ ∀ W, r ≤ 8 * W ↔ x.toNat < 256 ^ W) ∧ w = w' := by
  by_cases g0 : x < 256
  · exact Len64_0 x (by omega) g0 w
  by_cases g1 : x < 65536
  · exact Len64_1 x (by omega) g1 w
  by_cases g2 : x < 16777216
  · exact Len64_2 x (by omega) g2 w
  by_cases g3 : x < 4294967296
  · exact Len64_3 x (by omega) g3 w
  by_cases g4 : x < 1099511627776
  · exact Len64_4 x (by omega) g4 w
  by_cases g5 : x < 281474976710656
  · exact Len64_5 x (by omega) g5 w
  by_cases g6 : x < 72057594037927936
  · exact Len64_6 x (by omega) g6 w
  exact Len64_7 x (by omega) h1 w
end Go.Proofs.YtlhhfngkfbbckaaDoor
namespace Go.Proofs.YtlhhfngkfbbckaaDoor
set_option linter.unusedSimpArgs false
set_option linter.unusedVariables false
open Go.RowKit
attribute [local irreducible] beL beK
theorem fits_any (W n : Nat) (hW : W ≤ 8) (hn : n < 18446744073709551616) (w : World) :
    Calls Tryd.prog 45 #[.int .i64 W, .int .u64 n] w fun e w' => e = .returned (.bool (decide (n < 256 ^ W))) ∧ w = w' := by
  have hx : ((n : Int)) ≤ 18446744073709551615 := by omega
  have c := Len64_int (n : Int) (by omega) hx
  rw [Int.toNat_natCast] at c
  have C := Lib.hid c
  clear c hx hn
  go_enter Tryd.func45, Tryd.ntmps45
  go_wp2_with (go_at_call 59; fail)
  refine (C.out _).mono ?_
  rintro e w' ⟨⟨r, rfl, hr⟩, rfl⟩
  have HR := Lib.hid (hr W)
  clear hr
  go_wp2
  go_ret
  refine ⟨?_, rfl⟩
  have e1 : decide ((r : Int) ≤ 8 * (W : Int)) = decide (n < 256 ^ W) := decide_eq_decide.2 ⟨fun h => HR.out.1 (by omega), fun h => by have := HR.out.2 h; omega⟩
  rw [← e1]
  rfl

theorem Num1_any (W n : Nat) (hW : W ≤ 8) (hn : n < 18446744073709551616) (g : Nat) (w : World) (hc : w.cell? ⟨g, 0, none⟩ = some (.int .i64 W)) :
    Calls Tryd.prog 44 #[.int .u64 n, .pointer (some ⟨g, 0, none⟩)] w fun e w' => e = .returned (.bool (!decide (n < 256 ^ W))) ∧ w = w' := by
  have HN := Lib.hid hn
  clear hn
  go_enter Tryd.func44, Tryd.ntmps44
  go_wp2_with (go_at_call 45; fail)
  refine (fits_any W n hW HN.out _).mono ?_
  rintro e w' ⟨rfl, rfl⟩
  go_wp2
  go_ret
  exact ⟨rfl, rfl⟩

theorem IndexNum (W n : Nat) (hW : W ≤ 8) (hn : n < 18446744073709551616) (g h : Nat) (w : World) (hc : w.cell? ⟨g, 0, none⟩ = some (.int .i64 W)) (hx : w.cell? ⟨h, 0, none⟩ = some (.int .u64 n)) :
    Calls Tryd.prog 58 #[.slice (some ⟨h, 0, none⟩) 1 1, .func (.func 44) #[] #[.pointer (some ⟨g, 0, none⟩)]] w fun e w' => e = .returned (.int .i64 (if n < 256 ^ W then -1 else 0)) ∧ w = w' := by
  have HN := Lib.hid hn
  clear hn
  go_enter Tryd.func58, Tryd.ntmps58
  go_wp2
  go_loopg [8] 1 (fun k i wr => (k = 1 ∧ i = .int .i64 0 ∨ k = 0 ∧ i = .int .i64 1 ∧ n < 256 ^ W) ∧ w = wr)
  case atStart => exact ⟨.inl ⟨rfl, rfl⟩, rfl⟩
  case round =>
    obtain ⟨hr, rfl⟩ := hrel
    rcases hr with ⟨rfl, rfl⟩ | ⟨rfl, rfl, hlt⟩
    · go_wp2_with (go_at_call 44; fail)
      refine (Num1_any W n hW HN.out g _ hc).mono ?_
      rintro e w' ⟨rfl, rfl⟩
      by_cases hf : n < 256 ^ W
      · rw [decide_eq_true hf]
        have HF := Lib.hid hf
        clear hf
        go_wp2
        go_roundg 0
        case measure => omega
        case rel => exact ⟨.inr ⟨rfl, rfl, HF.out⟩, rfl⟩
      · rw [decide_eq_false hf]
        have HF := Lib.hid hf
        clear hf
        go_wp2
        go_ret
        refine ⟨?_, rfl⟩
        first | rfl | (rw [if_neg HF.out]; rfl)
    · have HF := Lib.hid hlt
      clear hlt
      go_wp2
      go_ret
      refine ⟨?_, rfl⟩
      first | rfl | (rw [if_pos HF.out]; rfl)
theorem ContainsNum (W n : Nat) (hW : W ≤ 8) (hn : n < 18446744073709551616) (g h : Nat) (w : World) (hc : w.cell? ⟨g, 0, none⟩ = some (.int .i64 W)) (hx : w.cell? ⟨h, 0, none⟩ = some (.int .u64 n)) :
    Calls Tryd.prog 43 #[.slice (some ⟨h, 0, none⟩) 1 1, .func (.func 44) #[] #[.pointer (some ⟨g, 0, none⟩)]] w fun e w' => e = .returned (.bool (!decide (n < 256 ^ W))) ∧ w = w' := by
  have c := Lib.hid (IndexNum W n hW hn g h w hc hx)
  by_cases hf : n < 256 ^ W
  · rw [decide_eq_true hf]
    rw [if_pos hf] at c
    clear hf hn
    go_enter Tryd.func43, Tryd.ntmps43
    go_wp2_with (go_at_call 58; fail)
    refine c.out.mono ?_
    rintro e w' ⟨rfl, rfl⟩
    go_wp2
    go_ret
    exact ⟨rfl, rfl⟩
  · rw [decide_eq_false hf]
    rw [if_neg hf] at c
    clear hf hn
    go_enter Tryd.func43, Tryd.ntmps43
    go_wp2_with (go_at_call 58; fail)
    refine c.out.mono ?_
    rintro e w' ⟨rfl, rfl⟩
    go_wp2
    go_ret
    exact ⟨rfl, rfl⟩

end Go.Proofs.YtlhhfngkfbbckaaDoor
namespace Go.Proofs.YtlhhfngkfbbckaaDoor
set_option linter.unusedSimpArgs false
set_option linter.unusedVariables false
open Go.RowKit
attribute [local irreducible] beL beK
set_option maxRecDepth 100000 in
set_option maxHeartbeats 2000000 in
theorem Num_txt (A : Option Addr) (n0 c : Nat) (l0 : List Nat) (hl0 : n0 ≤ 100000000000) (W n : Nat) (h1 : 1 ≤ W) (h8 : W ≤ 8) (hn : n < 18446744073709551616) (hf : n < 256 ^ W) (h : Nat) (w : World) (hh : h < w.heap.size) (hx : w.cell? ⟨h, 0, none⟩ = some (.int .u64 n)) (ht : Txt w w.heap.size A n0 c l0) :
    Calls Tryd.prog 28 #[.slice A n0 c, .int .i64 W, .slice (some ⟨h, 0, none⟩) 1 1] w (fun e w' => ∃ v, e = .returned (.tuple #[v, .int .i64 0]) ∧ Own w' w.heap.size 5 v (l0 ++ beL W n) ∧ Below w.heap.size w w') := by
  have HN := Lib.hid hn
  have HF := Lib.hid hf
  clear hn hf
  go_enter Tryd.func28, Tryd.ntmps28
  have hb : Below w.heap.size w (w.alloc (.cells #[.int .i64 W] 3)) := (Below.refl _ _).alloc (Nat.le_refl _) _
  have c0 := cell_new1 w (.int .i64 (W : Int)) 3
  have cx := cell_below hb hh hx
  have ht2 := ((ht.below hb).more (B' := (w.alloc (.cells #[.int .i64 W] 3)).heap.size) hb.size)
  have hln := ht.len
  go_wp2_with (go_at_call 43; fail)
  refine (ContainsNum W n h8 HN.out w.heap.size h _ c0 cx).mono ?_
  rintro e w1 ⟨rfl, hw1⟩
  subst hw1
  rw [decide_eq_true HF.out]
  go_wp2_with (go_at_call 46; fail)
  refine (Clone_any A n0 c l0 _ ht2 (by omega)).mono ?_
  rintro e w2 ⟨v2, rfl, hown, b2⟩
  rw [World.size_alloc] at hown
  have hs := b2.size
  rw [World.size_alloc] at hs b2
  have hB := hb.trans (b2.mono (by omega))
  replace c0 := cell_below b2 (by omega) c0
  replace cx := cell_below b2 (by omega) cx
  clear b2 hb
  go_wp2
  go_loopg [8, 26] 1 (fun k v i wr => (k = 1 ∧ i = .int .i64 0 ∧ Own wr (w.heap.size + 1) 5 v l0 ∨ k = 0 ∧ i = .int .i64 1 ∧ Own wr (w.heap.size + 1) 5 v (l0 ++ beL W n)) ∧ wr.cell? ⟨w.heap.size, 0, none⟩ = some (.int .i64 W) ∧ wr.cell? ⟨h, 0, none⟩ = some (.int .u64 n) ∧ w.heap.size + 1 ≤ wr.heap.size ∧ Below w.heap.size w wr)
  case atStart => exact ⟨.inl ⟨rfl, rfl, hown⟩, c0, cx, hs, hB⟩
  case round =>
    clear c0 cx hs hB hown
    obtain ⟨hr, c0, cx, hs, hB⟩ := hrel
    rcases hr with ⟨rfl, rfl, ho⟩ | ⟨rfl, rfl, ho⟩
    · have HO := Lib.hid ho
      clear ho
      go_wp2_with (go_at_call 41; fail)
      refine (put_any _ l0 (w.heap.size + 1) W n h8 HN.out (by omega) _ HO.out hs).mono ?_
      rintro e w3 ⟨⟨v3, rfl, ho3⟩, b3⟩
      have HO3 := Lib.hid ho3
      replace c0 := cell_below b3 (by omega) c0
      replace cx := cell_below b3 (by omega) cx
      have hs3 := Nat.le_trans hs b3.size
      have hB3 := hB.trans (b3.mono (by omega))
      clear b3 hB hs HO ho3
      go_wp2
      go_roundg 0
      case measure => omega
      case rel => exact ⟨.inr ⟨rfl, rfl, HO3.out⟩, c0, cx, hs3, hB3⟩
    · have HO := Lib.hid ho
      clear ho
      go_wp2
      go_ret2
      exact ⟨_, rfl, HO.out.mono (by omega), hB⟩
end Go.Proofs.YtlhhfngkfbbckaaDoor
namespace Go.Proofs.YtlhhfngkfbbckaaDoor
set_option linter.unusedSimpArgs false
set_option linter.unusedVariables false
open Go.RowKit
/-- No text, and why. -/
def RetNo (w : World) (x : Int) (e : Ending) (w' : World) : Prop := e = .returned (.tuple #[.slice none 0 0, .int .i64 x]) ∧ Below w.heap.size w w'
set_option maxRecDepth 100000 in
set_option maxHeartbeats 1000000 in
theorem Ctr_long (k m : Nat → Int) (fr : Int) (A : Option Addr) (n c : Nat) (h1 : 1048576 < n) (h2 : n ≤ 140737488355328) (w : World) :
    Calls Tryd.prog 19 #[.agg (arr .u8 16 k), .agg (arr .u8 12 m), .int .u32 fr, .slice A n c] w (RetNo w 4) := by
  go_enter Tryd.func19, Tryd.ntmps19
  obtain ⟨_, _, hz, hb⟩ := alloc2 w (.cells (arr .u8 16 k) 41) (.cells (arr .u8 12 m) 43)
  go_wp2
  go_ret2
  exact ⟨rfl, hb⟩
end Go.Proofs.YtlhhfngkfbbckaaDoor
namespace Go.Proofs.YtlhhfngkfbbckaaDoor
set_option linter.unusedSimpArgs false
set_option linter.unusedVariables false
open Go.RowKit

def twiceI (x : Int) : Int := bits .xor .u8 (x * 2 % 256) (27 * (x / 128))
def turnI (x : Int) (n : Nat) : Int := bits .or .u8 (x * 2 ^ n % 256) (x / 2 ^ (8 - n))
def stepP (p : Int) : Int := bits .xor .u8 p (twiceI p)
def stepQ1 (q : Int) (n : Nat) : Int := bits .xor .u8 q (q * 2 ^ n % 256)
def stepQ2 (q : Int) : Int := bits .xor .u8 q (9 * (q / 128) % 256)
def stepQ (q : Int) : Int := stepQ2 (stepQ1 (stepQ1 (stepQ1 q 1) 2) 4)
def boxOf (q : Int) : Int := bits .xor .u8 (bits .xor .u8 (bits .xor .u8 (bits .xor .u8 (bits .xor .u8 99 q) (turnI q 1)) (turnI q 2)) (turnI q 3)) (turnI q 4)
/-- The boxes of all bytes. -/
def sboxL : List Int := [99, 124, 119, 123, 242, 107, 111, 197, 48, 1, 103, 43, 254, 215, 171, 118, 202, 130, 201, 125, 250, 89, 71, 240, 173, 212, 162, 175, 156, 164, 114, 192, 183, 253, 147, 38, 54, 63, 247, 204, 52, 165, 229, 241, 113, 216, 49, 21, 4, 199, 35, 195, 24, 150, 5, 154, 7, 18, 128, 226, 235, 39, 178, 117, 9, 131, 44, 26, 27, 110, 90, 160, 82, 59, 214, 179, 41, 227, 47, 132, 83, 209, 0, 237, 32, 252, 177, 91, 106, 203, 190, 57, 74, 76, 88, 207, 208, 239, 170, 251, 67, 77, 51, 133, 69, 249, 2, 127, 80, 60, 159, 168, 81, 163, 64, 143, 146, 157, 56, 245, 188, 182, 218, 33, 16, 255, 243, 210, 205, 12, 19, 236, 95, 151, 68, 23, 196, 167, 126, 61, 100, 93, 25, 115, 96, 129, 79, 220, 34, 42, 144, 136, 70, 238, 184, 20, 222, 94, 11, 219, 224, 50, 58, 10, 73, 6, 36, 92, 194, 211, 172, 98, 145, 149, 228, 121, 231, 200, 55, 109, 141, 213, 78, 169, 108, 86, 244, 234, 101, 122, 174, 8, 186, 120, 37, 46, 28, 166, 180, 198, 232, 221, 116, 31, 75, 189, 139, 138, 112, 62, 181, 102, 72, 3, 246, 14, 97, 53, 87, 185, 134, 193, 29, 158, 225, 248, 152, 17, 105, 217, 142, 148, 155, 30, 135, 233, 206, 85, 40, 223, 140, 161, 137, 13, 191, 230, 66, 104, 65, 153, 45, 15, 176, 84, 187, 22]
def sboxI (i : Nat) : Int := sboxL.getD i 0
/-- All bytes but 0, by threes; and their inverses. -/
def threesL : List Int := [1, 3, 5, 15, 17, 51, 85, 255, 26, 46, 114, 150, 161, 248, 19, 53, 95, 225, 56, 72, 216, 115, 149, 164, 247, 2, 6, 10, 30, 34, 102, 170, 229, 52, 92, 228, 55, 89, 235, 38, 106, 190, 217, 112, 144, 171, 230, 49, 83, 245, 4, 12, 20, 60, 68, 204, 79, 209, 104, 184, 211, 110, 178, 205, 76, 212, 103, 169, 224, 59, 77, 215, 98, 166, 241, 8, 24, 40, 120, 136, 131, 158, 185, 208, 107, 189, 220, 127, 129, 152, 179, 206, 73, 219, 118, 154, 181, 196, 87, 249, 16, 48, 80, 240, 11, 29, 39, 105, 187, 214, 97, 163, 254, 25, 43, 125, 135, 146, 173, 236, 47, 113, 147, 174, 233, 32, 96, 160, 251, 22, 58, 78, 210, 109, 183, 194, 93, 231, 50, 86, 250, 21, 63, 65, 195, 94, 226, 61, 71, 201, 64, 192, 91, 237, 44, 116, 156, 191, 218, 117, 159, 186, 213, 100, 172, 239, 42, 126, 130, 157, 188, 223, 122, 142, 137, 128, 155, 182, 193, 88, 232, 35, 101, 175, 234, 37, 111, 177, 200, 67, 197, 84, 252, 31, 33, 99, 165, 244, 7, 9, 27, 45, 119, 153, 176, 203, 70, 202, 69, 207, 74, 222, 121, 139, 134, 145, 168, 227, 62, 66, 198, 81, 243, 14, 18, 54, 90, 238, 41, 123, 141, 140, 143, 138, 133, 148, 167, 242, 13, 23, 57, 75, 221, 124, 132, 151, 162, 253, 28, 36, 108, 180, 199, 82, 246, 1]
def invL : List Int := [1, 246, 82, 199, 180, 108, 36, 28, 253, 162, 151, 132, 124, 221, 75, 57, 23, 13, 242, 167, 148, 133, 138, 143, 140, 141, 123, 41, 238, 90, 54, 18, 14, 243, 81, 198, 66, 62, 227, 168, 145, 134, 139, 121, 222, 74, 207, 69, 202, 70, 203, 176, 153, 119, 45, 27, 9, 7, 244, 165, 99, 33, 31, 252, 84, 197, 67, 200, 177, 111, 37, 234, 175, 101, 35, 232, 88, 193, 182, 155, 128, 137, 142, 122, 223, 188, 157, 130, 126, 42, 239, 172, 100, 213, 186, 159, 117, 218, 191, 156, 116, 44, 237, 91, 192, 64, 201, 71, 61, 226, 94, 195, 65, 63, 21, 250, 86, 50, 231, 93, 194, 183, 109, 210, 78, 58, 22, 251, 160, 96, 32, 233, 174, 147, 113, 47, 236, 173, 146, 135, 125, 43, 25, 254, 163, 97, 214, 187, 105, 39, 29, 11, 240, 80, 48, 16, 249, 87, 196, 181, 154, 118, 219, 73, 206, 179, 152, 129, 127, 220, 189, 107, 208, 185, 158, 131, 136, 120, 40, 24, 8, 241, 166, 98, 215, 77, 59, 224, 169, 103, 212, 76, 205, 178, 110, 211, 184, 104, 209, 79, 204, 68, 60, 20, 12, 4, 245, 83, 49, 230, 171, 144, 112, 217, 190, 106, 38, 235, 89, 55, 228, 92, 52, 229, 170, 102, 34, 30, 10, 6, 2, 247, 164, 149, 115, 216, 72, 56, 225, 95, 53, 19, 248, 161, 150, 114, 46, 26, 255, 85, 51, 17, 15, 5, 3, 1]
/-- The boxes that are found after r rounds. -/
def boxK (r : Nat) (i : Nat) : Int := if ((threesL.drop 1).take r).contains (i : Int) then sboxI i else 0

def threesOk (r : Nat) : Bool := decide (stepP (threesL.getD r 0) = threesL.getD (r + 1) 0) && decide (stepQ (invL.getD r 0) = invL.getD (r + 1) 0) && decide (boxOf (invL.getD (r + 1) 0) = sboxI (threesL.getD (r + 1) 0).toNat) &&
    decide (0 < threesL.getD (r + 1) 0) && decide (threesL.getD (r + 1) 0 < 256) && decide (0 ≤ invL.getD (r + 1) 0) && decide (invL.getD (r + 1) 0 < 256) && ((threesL.getD (r + 1) 0 != 1) == decide (r + 1 < 255))
theorem threesOk_all : (List.range 255).all threesOk = true := by kernel_rfl
theorem threes_step (r : Nat) (hr : r < 255) : stepP (threesL.getD r 0) = threesL.getD (r + 1) 0 ∧ stepQ (invL.getD r 0) = invL.getD (r + 1) 0 ∧ boxOf (invL.getD (r + 1) 0) = sboxI (threesL.getD (r + 1) 0).toNat ∧
    0 < threesL.getD (r + 1) 0 ∧ threesL.getD (r + 1) 0 < 256 ∧ 0 ≤ invL.getD (r + 1) 0 ∧ invL.getD (r + 1) 0 < 256 ∧ (threesL.getD (r + 1) 0 != 1) = decide (r + 1 < 255) := by
  have h := List.all_eq_true.1 threesOk_all r (List.mem_range.2 hr)
  unfold threesOk at h
  simp only [Bool.and_eq_true, decide_eq_true_eq, beq_iff_eq] at h
  obtain ⟨⟨⟨⟨⟨⟨⟨h1, h2⟩, h3⟩, h4⟩, h5⟩, h6⟩, h7⟩, h8⟩ := h
  exact ⟨h1, h2, h3, h4, h5, h6, h7, h8⟩
theorem upd_snoc (l : List Int) (v : Int) (hv : 0 ≤ v) (f g : Nat → Int) (i : Nat) : upd (fun i => if l.contains (i : Int) then f i else g i) v.toNat (f v.toNat) i = if (l ++ [v]).contains (i : Int) then f i else g i := by
  unfold upd
  by_cases h : i = v.toNat
  · subst h
    have e : (v.toNat : Int) = v := Int.toNat_of_nonneg hv
    rw [e]
    simp
  · rw [if_neg h]
    have e : ¬ (i : Int) = v := by omega
    simp only [List.contains_eq_mem, List.mem_append, List.mem_singleton, e, or_false]
theorem take_drop_snoc (l : List Int) (hl : l.length = 256) (r : Nat) (hr : r < 255) : (l.drop 1).take (r + 1) = (l.drop 1).take r ++ [l.getD (r + 1) 0] := by
  rw [List.take_succ_eq_append_getElem (by rw [List.length_drop]; omega)]
  congr 2
  rw [List.getElem_drop, List.getD_eq_getElem?_getD, List.getElem?_eq_getElem (by omega)]
  simp [Nat.add_comm]
theorem boxK_step (r : Nat) (hr : r < 255) (i : Nat) : upd (boxK r) (threesL.getD (r + 1) 0).toNat (sboxI (threesL.getD (r + 1) 0).toNat) i = boxK (r + 1) i := by
  have hp := (threes_step r hr).2.2.2.1
  have ht : (threesL.drop 1).take (r + 1) = (threesL.drop 1).take r ++ [threesL.getD (r + 1) 0] := take_drop_snoc threesL (by kernel_rfl) r hr
  unfold boxK
  rw [ht]
  exact upd_snoc _ _ (Int.le_of_lt hp) sboxI (fun _ => 0) i
theorem boxK_ok : (List.range 256).all (fun i => decide (upd (boxK 255) 0 99 i = sboxI i)) = true := by kernel_rfl
theorem boxK_all (i : Nat) (hi : i < 256) : upd (boxK 255) 0 99 i = sboxI i := of_decide_eq_true (List.all_eq_true.1 boxK_ok i (List.mem_range.2 hi))
theorem boxK_zero (i : Nat) : boxK 0 i = 0 := by simp [boxK]

theorem bits_u8 (op : BinOp) (x y : Int) : 0 ≤ bits op .u8 x y ∧ bits op .u8 x y < 256 := by
  unfold bits
  cases op <;> simp only [IntKind.wrap_u8] <;> omega
theorem sbox_ok : (List.range 256).all (fun i => decide (0 ≤ sboxI i ∧ sboxI i < 256)) = true := by kernel_rfl
theorem sbox_byte (i : Nat) (hi : i < 256) : 0 ≤ sboxI i ∧ sboxI i < 256 := of_decide_eq_true (List.all_eq_true.1 sbox_ok i (List.mem_range.2 hi))
end Go.Proofs.YtlhhfngkfbbckaaDoor
namespace Go.Proofs.YtlhhfngkfbbckaaDoor
set_option linter.unusedSimpArgs false
set_option linter.unusedVariables false
open Go.RowKit
attribute [local irreducible] sboxI
/-- A key's next one. -/
def nextKey (was : Nat → Int) (add : Int) : Nat → Int
  | 0 => bits .xor .u8 (was 0) (bits .xor .u8 add (sboxI (was 13).toNat))
  | 1 => bits .xor .u8 (was 1) (sboxI (was 14).toNat)
  | 2 => bits .xor .u8 (was 2) (sboxI (was 15).toNat)
  | 3 => bits .xor .u8 (was 3) (sboxI (was 12).toNat)
  | n + 4 => bits .xor .u8 (was (n + 4)) (nextKey was add n)
def addK : Nat → Int
  | 0 => 1
  | j + 1 => twiceI (addK j)
def keyK (k : Nat → Int) : Nat → Nat → Int
  | 0 => k
  | j + 1 => nextKey (keyK k j) (addK j)
/-- A cipher's cells, when its keys up to j are known. -/
def cipK (k : Nat → Int) (j : Nat) (i : Nat) : Int := if i < 256 then sboxI i else if (i - 256) / 16 ≤ j then keyK k ((i - 256) / 16) ((i - 256) % 16) else 0

theorem nextKey_byte (was : Nat → Int) (add : Int) (i : Nat) : 0 ≤ nextKey was add i ∧ nextKey was add i < 256 := by
  unfold nextKey; split <;> exact bits_u8 _ _ _
theorem addK_byte (j : Nat) : 0 ≤ addK j ∧ addK j < 256 := by
  cases j with
  | zero => exact ⟨by decide, by decide⟩
  | succ j => unfold addK twiceI; exact bits_u8 _ _ _
theorem keyK_byte (k : Nat → Int) (hk : ∀ i, i < 16 → 0 ≤ k i ∧ k i < 256) (j i : Nat) (hi : i < 16) : 0 ≤ keyK k j i ∧ keyK k j i < 256 := by
  cases j with
  | zero => exact hk i hi
  | succ j => exact nextKey_byte _ _ _

theorem cip_start (k : Nat → Int) (i : Nat) (_hi : i < 432) : patch (fun i => if i < 256 then sboxI i else 0) 256 16 k i = cipK k 0 i := by
  unfold patch cipK
  by_cases h : i < 256
  · rw [if_neg (by omega), if_pos h]; exact if_pos h
  · by_cases h2 : i < 256 + 16
    · rw [if_pos ⟨by omega, h2⟩, if_neg h, if_pos (by omega), show (i - 256) / 16 = 0 from by omega, show (i - 256) % 16 = i - 256 from by omega]
      rfl
    · rw [if_neg (by omega), if_neg h, if_neg (by omega)]; exact if_neg h
/-- While the key behind j is found, up to m. -/
def cipM (k : Nat → Int) (j m i : Nat) : Int := if 256 + 16 * (j + 1) ≤ i ∧ i < 256 + 16 * (j + 1) + m then nextKey (keyK k j) (addK j) (i - (256 + 16 * (j + 1))) else cipK k j i
theorem cipM_zero (k : Nat → Int) (j i : Nat) : cipM k j 0 i = cipK k j i := by
  unfold cipM
  rw [if_neg (by omega)]
theorem cipM_step (k : Nat → Int) (j m i : Nat) : upd (cipM k j m) (256 + 16 * (j + 1) + m) (nextKey (keyK k j) (addK j) m) i = cipM k j (m + 1) i := by
  unfold upd cipM
  by_cases h : i = 256 + 16 * (j + 1) + m
  · rw [if_pos h, if_pos (by omega), h, Nat.add_sub_cancel_left]
  · rw [if_neg h]
    by_cases h2 : 256 + 16 * (j + 1) ≤ i ∧ i < 256 + 16 * (j + 1) + m
    · rw [if_pos h2, if_pos (by omega)]
    · rw [if_neg h2, if_neg (by omega)]
theorem keyK_succ (k : Nat → Int) (j i : Nat) : keyK k (j + 1) i = nextKey (keyK k j) (addK j) i := rfl
theorem cipM_step' (k : Nat → Int) (j m o : Nat) (ho : o = 256 + 16 * (j + 1) + m) (i : Nat) (v : Int) (hv : v = nextKey (keyK k j) (addK j) m) : upd (cipM k j m) o v i = cipM k j (m + 1) i := by
  subst ho hv
  exact cipM_step k j m i
theorem nextKey_step (was : Nat → Int) (add : Int) (m : Nat) (h : 4 ≤ m) : nextKey was add m = bits .xor .u8 (was m) (nextKey was add (m - 4)) := by
  obtain ⟨n, rfl⟩ : ∃ n, m = n + 4 := ⟨m - 4, by omega⟩
  rfl
theorem cipM_done (k : Nat → Int) (j i : Nat) : cipM k j 16 i = cipK k (j + 1) i := by
  unfold cipM cipK
  by_cases h : i < 256
  · rw [if_neg (by omega), if_pos h, if_pos h]
  · by_cases h2 : 256 + 16 * (j + 1) ≤ i ∧ i < 256 + 16 * (j + 1) + 16
    · rw [if_pos h2, if_neg h, if_pos (by omega), show (i - 256) / 16 = j + 1 from by omega]
      rw [keyK_succ, show (i - 256) % 16 = i - (256 + 16 * (j + 1)) from by omega]
    · rw [if_neg h2, if_neg h, if_neg h]
      by_cases h3 : (i - 256) / 16 ≤ j
      · rw [if_pos h3, if_pos (by omega)]
      · rw [if_neg h3, if_neg (by omega)]
theorem cipM_now (k : Nat → Int) (j m i : Nat) (h : i < m) : cipM k j m (256 + 16 * (j + 1) + i) = nextKey (keyK k j) (addK j) i := by
  unfold cipM
  rw [if_pos (by omega), Nat.add_sub_cancel_left]
theorem cipM_box (k : Nat → Int) (j m i : Nat) (h : i < 256) : cipM k j m i = sboxI i := by
  unfold cipM cipK
  rw [if_neg (by omega), if_pos h]
theorem cipK_key (k : Nat → Int) (n j i : Nat) (h : j ≤ n) (hi : i < 16) : cipK k n (256 + 16 * j + i) = keyK k j i := by
  unfold cipK
  rw [if_neg (by omega), show (256 + 16 * j + i - 256) / 16 = j from by omega, if_pos h, show (256 + 16 * j + i - 256) % 16 = i from by omega]
theorem cipK_box (k : Nat → Int) (n i : Nat) (h : i < 256) : cipK k n i = sboxI i := by
  unfold cipK; rw [if_pos h]

end Go.Proofs.YtlhhfngkfbbckaaDoor
namespace Go.Proofs.YtlhhfngkfbbckaaDoor
set_option linter.unusedSimpArgs false
set_option linter.unusedVariables false
open Go.RowKit
attribute [local irreducible] sboxI
def mulP (a b : Nat) : Nat → Nat
  | 0 => 0
  | m + 1 => if b / 2 ^ m % 2 = 1 then mulP a b m ^^^ (a * 2 ^ m) else mulP a b m
def redP (p : Nat) : Nat → Nat
  | 0 => p
  | n + 1 => if redP p n / 2 ^ (14 - n) % 2 = 1 then redP p n ^^^ (283 * 2 ^ (6 - n)) else redP p n
/-- A product of bytes. -/
def mulN (a b : Nat) : Nat := redP (mulP a b 8) 7 % 256

theorem bits_xor_nat (k : IntKind) (j : Nat) (hj : j ≤ k.bits) (hk : ∀ n : Int, 0 ≤ n → n < 2 ^ j → k.wrap n = n) (a b : Nat) (ha : a < 2 ^ j) (hb : b < 2 ^ j) :
    bits .xor k a b = ((a ^^^ b : Nat) : Int) := by
  have hp : 2 ^ j ≤ 2 ^ k.bits := Nat.pow_le_pow_right (by decide) hj
  have ha' : a % 2 ^ k.bits = a := Nat.mod_eq_of_lt (Nat.lt_of_lt_of_le ha hp)
  have hb' : b % 2 ^ k.bits = b := Nat.mod_eq_of_lt (Nat.lt_of_lt_of_le hb hp)
  have cast : ∀ n : Nat, n < 2 ^ j → ((n : Nat) : Int) < 2 ^ j := fun n h => by exact_mod_cast h
  simp only [bits, BitVec.ofInt_natCast, BitVec.toNat_xor, BitVec.toNat_ofNat, ha', hb']
  exact hk _ (Int.natCast_nonneg _) (cast _ (Nat.xor_lt_two_pow ha hb))
theorem wraps_i64 (n : Int) (h₀ : 0 ≤ n) (h₁ : n < 2 ^ 63) : IntKind.i64.wrap n = n := by rw [IntKind.wrap_i64]; omega
theorem xor_i64 (a b : Nat) (ha : a < 2 ^ 63) (hb : b < 2 ^ 63) : bits .xor .i64 a b = ((a ^^^ b : Nat) : Int) := bits_xor_nat .i64 63 (by decide) wraps_i64 a b ha hb

theorem shl_lt (a m : Nat) (ha : a < 256) (hm : m < 8) : a * 2 ^ m < 2 ^ 15 := by
  have h1 : 2 ^ m ≤ 2 ^ 7 := Nat.pow_le_pow_right (by omega) (by omega)
  have h2 : a * 2 ^ m ≤ 255 * 2 ^ 7 := Nat.mul_le_mul (by omega) h1
  omega
theorem mulP_lt (a b : Nat) (ha : a < 256) : ∀ m, m ≤ 8 → mulP a b m < 2 ^ 15
  | 0, _ => by unfold mulP; omega
  | m + 1, h => by
    unfold mulP
    split
    · exact Nat.xor_lt_two_pow (mulP_lt a b ha m (by omega)) (shl_lt a m ha (by omega))
    · exact mulP_lt a b ha m (by omega)
theorem red_lt (n : Nat) (hn : n < 7) : 283 * 2 ^ (6 - n) < 2 ^ 15 := by
  have h1 : 2 ^ (6 - n) ≤ 2 ^ 6 := Nat.pow_le_pow_right (by omega) (by omega)
  omega
theorem redP_lt (p : Nat) (hp : p < 2 ^ 15) : ∀ n, n ≤ 7 → redP p n < 2 ^ 15
  | 0, _ => hp
  | n + 1, h => by
    unfold redP
    split
    · exact Nat.xor_lt_two_pow (redP_lt p hp n (by omega)) (red_lt n (by omega))
    · exact redP_lt p hp n (by omega)
theorem tmod2 (x : Nat) : ((x : Int).tmod 2 == 1) = decide (x % 2 = 1) := by
  rw [Int.tmod_eq_emod_of_nonneg (by omega), Bool.eq_iff_iff, beq_iff_eq, decide_eq_true_eq]
  omega
theorem bit_test (x m : Nat) : (((x : Int) / 2 ^ m).tmod 2 == 1) = decide (x / 2 ^ m % 2 = 1) := by
  rw [show (x : Int) / 2 ^ m = ((x / 2 ^ m : Nat) : Int) from by push_cast; rfl]
  exact tmod2 _
theorem mul_step (a b m : Nat) (ha : a < 256) (hm : m < 8) : bits .xor .i64 (mulP a b m) (wrap64 ((a : Int) * 2 ^ m)) = ((mulP a b m ^^^ (a * 2 ^ m) : Nat) : Int) := by
  have h1 := shl_lt a m ha hm
  have h2 := mulP_lt a b ha m (by omega)
  have e : (a : Int) * 2 ^ m = ((a * 2 ^ m : Nat) : Int) := by push_cast; rfl
  rw [e, IntWalk.wrap64_in _ (by omega)]
  exact xor_i64 _ _ (by omega) (by omega)
theorem red_step (p j : Nat) (hp : p < 2 ^ 15) (hj : 8 ≤ j) (hj2 : j ≤ 14) : bits .xor .i64 p (wrap64 ((283 : Int) * 2 ^ (j - 8))) = ((p ^^^ (283 * 2 ^ (j - 8)) : Nat) : Int) := by
  have h1 := red_lt (14 - j) (by omega)
  rw [show 6 - (14 - j) = j - 8 from by omega] at h1
  generalize j - 8 = t at *
  have e : (283 : Int) * 2 ^ t = ((283 * 2 ^ t : Nat) : Int) := by rw [Int.natCast_mul, Int.natCast_pow]; rfl
  rw [e, IntWalk.wrap64_in _ (by omega)]
  exact xor_i64 _ _ (by omega) (by omega)
theorem ofInt_bx (a b : Int) : BitVec.ofInt 8 (bits .xor .u8 a b) = BitVec.ofInt 8 a ^^^ BitVec.ofInt 8 b := by
  show BitVec.ofInt 8 (IntKind.u8.wrap ((BitVec.ofInt 8 a ^^^ BitVec.ofInt 8 b).toNat : Int)) = _
  generalize BitVec.ofInt 8 a ^^^ BitVec.ofInt 8 b = v
  have h : IntKind.u8.wrap ((v.toNat : Nat) : Int) = (v.toNat : Int) := by
    have := v.isLt
    rw [IntKind.wrap_u8]; omega
  rw [h, BitVec.ofInt_natCast]
  simp
theorem bx_of (a b c d : Int) (h : BitVec.ofInt 8 a ^^^ BitVec.ofInt 8 b = BitVec.ofInt 8 c ^^^ BitVec.ofInt 8 d) : bits .xor .u8 a b = bits .xor .u8 c d := by
  show IntKind.u8.wrap ((BitVec.ofInt 8 a ^^^ BitVec.ofInt 8 b).toNat : Int) = IntKind.u8.wrap ((BitVec.ofInt 8 c ^^^ BitVec.ofInt 8 d).toNat : Int)
  rw [h]
theorem bx_comm (a b : Int) : bits .xor .u8 a b = bits .xor .u8 b a := bx_of _ _ _ _ (BitVec.xor_comm _ _)
theorem keys_at (k : Nat → Int) (j i : Nat) (hi : i < 16) : keyK k ((j * 16 + i) / 16) ((j * 16 + i) % 16) = keyK k j i := by
  rw [show (j * 16 + i) / 16 = j from by omega, show (j * 16 + i) % 16 = i from by omega]
theorem mulN_two : ∀ x, x < 256 → ((mulN x 2 : Nat) : Int) = twiceI x := by
  have h : (List.range 256).all (fun x => decide (((mulN x 2 : Nat) : Int) = twiceI x)) = true := by kernel_rfl
  exact fun x hx => of_decide_eq_true (List.all_eq_true.1 h x (List.mem_range.2 hx))

end Go.Proofs.YtlhhfngkfbbckaaDoor
namespace Go.Proofs.YtlhhfngkfbbckaaDoor
set_option linter.unusedSimpArgs false
set_option linter.unusedVariables false
open Go.RowKit
attribute [local irreducible] sboxI
def colI (x : Nat → Int) (i : Nat) : Int :=
  bits .xor .u8 (bits .xor .u8 (x i) (bits .xor .u8 (bits .xor .u8 (bits .xor .u8 (x 0) (x 1)) (x 2)) (x 3))) (twiceI (bits .xor .u8 (x i) (x ((i + 1) % 4))))
/-- A column, boxed, and turned. -/
def rowI (s : Nat → Int) (i r : Nat) : Int := sboxI (s (4 * ((i + r) % 4) + r)).toNat
def roundI (s : Nat → Int) (last : Bool) (q : Nat) : Int := if last then rowI s (q / 4) (q % 4) else colI (rowI s (q / 4)) (q % 4)
def xorI (f g : Nat → Int) (i : Nat) : Int := bits .xor .u8 (f i) (g i)
/-- A block behind j rounds. -/
def encJ (k s : Nat → Int) : Nat → Nat → Int
  | 0 => xorI s (keyK k 0)
  | j + 1 => xorI (roundI (encJ k s j) (decide (j + 1 = 10))) (keyK k (j + 1))
def encI (k s : Nat → Int) : Nat → Int := encJ k s 10

theorem colI_byte (x : Nat → Int) (i : Nat) : 0 ≤ colI x i ∧ colI x i < 256 := bits_u8 _ _ _
theorem rowI_byte (s : Nat → Int) (hs : ∀ i, i < 16 → 0 ≤ s i ∧ s i < 256) (i r : Nat) (hr : r < 4) : 0 ≤ rowI s i r ∧ rowI s i r < 256 := by
  have := hs (4 * ((i + r) % 4) + r) (by omega)
  exact sbox_byte _ (by omega)
theorem xorI_byte (f g : Nat → Int) (i : Nat) : 0 ≤ xorI f g i ∧ xorI f g i < 256 := bits_u8 _ _ _
theorem encJ_byte (k s : Nat → Int) (j i : Nat) : 0 ≤ encJ k s j i ∧ encJ k s j i < 256 := by
  cases j <;> exact xorI_byte _ _ _
theorem fill_zero (f : Nat → Int) (m i : Nat) : upd (fun i => if i < m then f i else 0) m (f m) i = if i < m + 1 then f i else 0 := fill_step (fun _ => 0) f m i
/-- One column more of a round. -/
theorem round_step (s : Nat → Int) (last : Bool) (m i : Nat) (hi : i < 16) (c : Nat → Int) (hc : ∀ r, r < 4 → c r = roundI s last (4 * m + r)) : patch (fun i => if i < 4 * m then roundI s last i else 0) (4 * m) 4 c i = if i < 4 * (m + 1) then roundI s last i else 0 := by
  unfold patch
  by_cases h : 4 * m ≤ i ∧ i < 4 * m + 4
  · rw [if_pos h, if_pos (by omega)]
    rw [hc _ (by omega), show 4 * m + (i - 4 * m) = i from by omega]
  · rw [if_neg h]
    by_cases h2 : i < 4 * m
    · rw [if_pos (show i < 4 * (m + 1) by omega)]; exact if_pos h2
    · rw [if_neg (show ¬ i < 4 * (m + 1) by omega)]; exact if_neg h2
theorem roundI_last (s : Nat → Int) (m r : Nat) (hr : r < 4) : rowI s m r = roundI s true (4 * m + r) := by
  unfold roundI
  rw [if_pos rfl, show (4 * m + r) / 4 = m from by omega, show (4 * m + r) % 4 = r from by omega]
theorem roundI_at (s : Nat → Int) (m r : Nat) (hr : r < 4) : colI (rowI s m) r = roundI s false (4 * m + r) := by
  unfold roundI
  rw [if_neg Bool.false_ne_true, show (4 * m + r) / 4 = m from by omega, show (4 * m + r) % 4 = r from by omega]
theorem last_test (j : Nat) : (((j : Int) + 1) == 10) = decide (j + 1 = 10) := by
  rw [Bool.eq_iff_iff, beq_iff_eq, decide_eq_true_eq]
  omega
end Go.Proofs.YtlhhfngkfbbckaaDoor
namespace Go.Proofs.YtlhhfngkfbbckaaDoor
set_option linter.unusedSimpArgs false
set_option linter.unusedVariables false
open Go.RowKit
section
variable {P : Program} {w : World}
theorem made_arr (n : Nat) : madeCells #[Value.int .u8 0] n = arr .u8 n fun _ => 0 := by
  apply Array.ext_getElem?
  intro i
  by_cases hi : i < n
  · rw [arr_get _ _ _ _ hi]; simp [madeCells, hi, Nat.mod_one]
  · rw [Array.getElem?_eq_none (by rw [size_madeCells]; omega), Array.getElem?_eq_none (by rw [arr_size]; omega)]
/-- A new slice of bytes. -/
theorem run_make_txt {t e : TypeId} (hT : ByteT P t e) (n : Nat) (hn : n ≤ 140737488355328) (w : World) :
    (Instr.makeSlice t (.int .i64 (n : Int)) (.int .i64 (n : Int))).run P w = .ok (.slice (some ⟨w.heap.size, 0, none⟩) n n) (w.alloc (.cells (arr .u8 n fun _ => 0) e)) := by
  have h := run_make_row' (P := P) t e (.int .u8 0) 1 hT.sl hT.info rfl .i64 .i64 n (by omega) (by omega) w
  rw [made_arr] at h
  exact h
theorem run_op_make {t e : TypeId} {o : Oper} {a : Act} {x y : Operand} (hT : ByteT P t e) {n : Nat} (hn : n ≤ 140737488355328) (ho : o.op = .makeSlice t x y) (hx : a.eval x = .int .i64 n) (hy : a.eval y = .int .i64 n) :
    (execOp a.eval o).run P w = .ok (.value (.slice (some ⟨w.heap.size, 0, none⟩) n n)) (w.alloc (.cells (arr .u8 n fun _ => 0) e)) := by
  unfold execOp
  simp only [ho, hx, hy, Sem.run_bind, run_make_txt hT n hn w, Result.andThen_ok, Sem.run_pure]
/-- A row of bytes is a text of the call's own. -/
theorem own_arr {B R n : Nat} {e : TypeId} {f : Nat → Int} {l : List Nat} (hR : B ≤ R) (h : w.heap[R]? = some (.cells (arr .u8 n f) e (0, 0))) (hn : n ≤ 140737488355328) (hl : l.length = n) (hf : ∀ i, i < n → f i = ((l.getD i 0 : Nat) : Int)) :
    Own w B e (.slice (some ⟨R, 0, none⟩) n n) l := by
  subst hl
  refine ⟨by simp, .inr ⟨R, l.length, arr .u8 l.length f, rfl, hR, h, Nat.le_refl _, by unfold maxLen; omega, by rw [arr_size]; omega, ?_⟩⟩
  apply List.ext_getElem?
  intro i
  by_cases hi : i < l.length
  · rw [List.getElem?_take_of_lt (by omega), Array.getElem?_toList, arr_get _ _ _ _ hi, hf i hi, List.getElem?_map, List.getElem?_eq_getElem hi, List.getD_eq_getElem?_getD, List.getElem?_eq_getElem hi]
    rfl
  · rw [List.getElem?_eq_none (by simp [arr_size]; omega), List.getElem?_eq_none (by simp; omega)]
/-- A new slice of bytes, in a block of its own. -/
def NewRow (N n : Nat) (e : TypeId) : Fact := fun x w => ∃ R, x = .slice (some ⟨R, 0, none⟩) n n ∧ N ≤ R ∧ w.heap[R]? = some (.cells (arr .u8 n fun _ => 0) e (0, 0))
theorem newRow_stays (N n : Nat) (e : TypeId) : Stays (NewRow N n e) := fun _ _ _ hb ⟨B, h1, h2, h3⟩ => ⟨B, h1, h2, (hb.block B (lt_of_block h3)).trans h3⟩
theorem free_make {ops : Array Oper} {Q : Exit → Act → World → Prop} {o : Oper} {r : Fact} {a : Act} {t e : TypeId} {x y : Operand} (hT : ByteT P t e) {n : Nat} (hn : n ≤ 140737488355328) (hg : Region.wanted o (yielded ops a.tmps) = true) (ho : o.op = .makeSlice t x y) (hx : a.eval x = .int .i64 n) (hy : a.eval y = .int .i64 n)
    (h : r (.slice (some ⟨w.heap.size, 0, none⟩) n n) (w.alloc (.cells (arr .u8 n fun _ => 0) e))) : freeOp P ops Q o r a w := by
  unfold freeOp
  rw [if_pos hg]
  unfold Oper.wp
  rw [run_op_make hT hn ho hx hy]
  exact ⟨(Below.refl _ _).alloc (Nat.le_refl _) _, _, rfl, h⟩
theorem free_assign {ops : Array Oper} {Q : Exit → Act → World → Prop} {o : Oper} {r : Fact} {a : Act} {x : Operand} (hg : Region.wanted o (yielded ops a.tmps) = true) (ho : o.op = .assign x) (h : r (a.eval x) w) : freeOp P ops Q o r a w :=
  free_v hg (by unfold execOp; rw [ho]; rfl) h
end

section
variable {P : Program} {w : World} {o : Oper} {a : Act} {N : Nat}
/-- A byte is read. -/
theorem run_load_u8 {t : TypeId} {x : Operand} {ad : Addr} {v : Value} (ho : o.op = .load t x) (hu : P.underlying t = some (.int .u8)) (hx : a.eval x = .pointer (some ad)) (hc : w.cell? ad = some v) : (execOp a.eval o).run P w = .ok (.value v) w := by
  unfold execOp
  rw [ho]
  simp [hx, Instr.loadAt, Instr.sureAddr, loadVar, isAgg, run_underlying hu, hc]
theorem Framed.loadC {t : TypeId} {x : Operand} {ad : Addr} {v : Value} (ho : o.op = .load t x) (hu : P.underlying t = some (.int .u8)) (hx : a.eval x = .pointer (some ad)) (hb : ad.block < N) (hc : w.cell? ad = some v) : Framed P N o a w := by
  intro u hv w' hk
  rw [run_load_u8 ho hu hx hc] at hv
  have hc' : w'.cell? ad = some v := by
    rw [← hc]
    unfold World.cell?
    rw [hk _ hb]
  rw [run_load_u8 ho hu hx hc']
  injection hv with h1 h2
  rw [h1]
end

/-- Bytes of a call's own, whatever they are. -/
def RowB (w : World) (B : Nat) (A : Option Addr) (n : Nat) (e : TypeId) : Prop := 0 < n → ∃ g cur, A = some ⟨g, 0, none⟩ ∧ B ≤ g ∧ w.heap[g]? = some (.cells cur e (0, 0)) ∧ ∀ i, i < n → ∃ z : Int, cur[i]? = some (.int .u8 z) ∧ 0 ≤ z ∧ z < 256
theorem RowB.step {w : World} {B n i : Nat} {A : Option Addr} {e : TypeId} (h : RowB w B A n e) (hi : i < n) : ∃ (g : Nat) (z : Int), A = some ⟨g, 0, none⟩ ∧ B ≤ g ∧ w.cell? ⟨g, i, none⟩ = some (.int .u8 z) ∧ w.frozen? ⟨g, i, none⟩ = false ∧ 0 ≤ z ∧ z < 256 ∧
    ∀ v : Int, 0 ≤ v → v < 256 → RowB (w.setCell ⟨g, i, none⟩ (.int .u8 v)) B A n e := by
  obtain ⟨g, cur, rfl, hg, hh, hc⟩ := h (by omega)
  obtain ⟨z, hz, h0, h1⟩ := hc i hi
  refine ⟨g, z, rfl, hg, by rw [cell_of_row _ _ _ _ _ _ hh]; exact hz, frozen_of_row w g i _ e hh, h0, h1, fun v hv0 hv1 _ => ⟨g, cur.setIfInBounds i (.int .u8 v), rfl, hg, ?_, fun j hj => ?_⟩⟩
  · rw [setCell_eq_setRow w g i cur e (0, 0) (.int .u8 v) hh]
    exact setRow_heap w g cur _ e (0, 0) hh
  · by_cases hji : i = j
    · subst hji
      have hs : i < cur.size := by
        rcases Nat.lt_or_ge i cur.size with h | h
        · exact h
        · rw [Array.getElem?_eq_none h] at hz; cases hz
      exact ⟨v, by simp [hs], hv0, hv1⟩
    · obtain ⟨y, hy, h2, h3⟩ := hc j hj
      exact ⟨y, by rw [Array.getElem?_setIfInBounds_ne hji]; exact hy, h2, h3⟩

/-! ### Streams -/
/-- The block that is encrypted for one counter. -/
def inI (m : Nat → Int) (t : Nat) (i : Nat) : Int := if i < 12 then m i else ((t / 2 ^ (8 * (15 - i)) % 256 : Nat) : Int)
def ctrI (k m : Nat → Int) (F : Nat) (l : List Nat) (x : Nat) : Int := bits .xor .u8 ((l.getD x 0 : Nat) : Int) (encI k (inI m (F + x / 16)) (x % 16))
def ctrL (k m : Nat → Int) (F : Nat) (l : List Nat) : List Nat := (List.range l.length).map fun x => (ctrI k m F l x).toNat
theorem inI_byte (m : Nat → Int) (hm : ∀ i, i < 12 → 0 ≤ m i ∧ m i < 256) (t i : Nat) : 0 ≤ inI m t i ∧ inI m t i < 256 := by
  unfold inI
  split
  · exact hm i ‹_›
  · have : t / 2 ^ (8 * (15 - i)) % 256 < 256 := Nat.mod_lt _ (by omega)
    omega
theorem inI_upd (q m : Nat → Int) (t : Nat) (T : Int) (hT : T = t) (ht : t < 4294967296) (hq : ∀ x, x < 12 → q x = m x) (i : Nat) (hi : i < 16) : upd (upd (upd (upd q 12 (T / 16777216)) 13 (T / 65536 % 256)) 14 (T / 256 % 256)) 15 (T % 256) i = inI m t i := by
  subst hT
  unfold upd inI
  by_cases h1 : i < 12
  · rw [if_pos h1, if_neg (by omega), if_neg (by omega), if_neg (by omega), if_neg (by omega), hq i h1]
  · rw [if_neg h1]
    obtain rfl | rfl | rfl | rfl : i = 12 ∨ i = 13 ∨ i = 14 ∨ i = 15 := by omega
    all_goals simp
    all_goals omega
theorem fill_grow (g : Nat → Int) (y : Nat) (v : Int) (i : Nat) (hv : v = g y) : upd (fun x => if x < y then g x else 0) y v i = if i < y + 1 then g i else 0 := by
  subst hv
  unfold upd
  by_cases h1 : i = y
  · subst h1; rw [if_pos rfl, if_pos (Nat.lt_succ_self _)]
  · rw [if_neg h1]
    by_cases h2 : i < y
    · simp only [if_pos h2, if_pos (show i < y + 1 by omega)]
    · simp only [if_neg h2, if_neg (show ¬ i < y + 1 by omega)]
theorem ctrI_byte (k m : Nat → Int) (F : Nat) (l : List Nat) (x : Nat) : 0 ≤ ctrI k m F l x ∧ ctrI k m F l x < 256 := bits_u8 _ _ _
theorem ctrL_len (k m : Nat → Int) (F : Nat) (l : List Nat) : (ctrL k m F l).length = l.length := by unfold ctrL; simp
theorem ctrL_at (k m : Nat → Int) (F : Nat) (l : List Nat) (x : Nat) (hx : x < l.length) : (((ctrL k m F l).getD x 0 : Nat) : Int) = ctrI k m F l x := by
  unfold ctrL
  rw [List.getD_eq_getElem?_getD, List.getElem?_map, List.getElem?_range hx]
  simp only [Option.map_some, Option.getD_some]
  exact Int.toNat_of_nonneg (ctrI_byte k m F l x).1
theorem ctrL_lt (k m : Nat → Int) (F : Nat) (l : List Nat) : ∀ x ∈ ctrL k m F l, x < 256 := fun x hx => by
  unfold ctrL at hx
  obtain ⟨i, _, rfl⟩ := List.mem_map.1 hx
  have := ctrI_byte k m F l i
  omega
theorem RTNonce : RowT Tryd.prog 43 12 := ⟨_, Tryd.underlying43, rfl, by kernel_rfl⟩
/-- A text, and that there was no fault. -/
def RetYes (w : World) (l : List Nat) (e : Ending) (w' : World) : Prop := ∃ v, e = .returned (.tuple #[v, .int .i64 0]) ∧ Own w' w.heap.size 5 v l ∧ Below w.heap.size w w'
end Go.Proofs.YtlhhfngkfbbckaaDoor
namespace Go.Proofs.YtlhhfngkfbbckaaDoor
set_option linter.unusedSimpArgs false
set_option linter.unusedVariables false
open Go.RowKit

attribute [local irreducible] sboxI
theorem RTBlock : RowT Tryd.prog 41 16 := ⟨_, Tryd.underlying41, rfl, by kernel_rfl⟩
theorem RTBoxes : RowT Tryd.prog 65 256 := ⟨_, Tryd.underlying65, rfl, by kernel_rfl⟩

theorem ZTBoxes : ZeroT Tryd.prog 65 .u8 256 := by unfold ZeroT; kernel_rfl
set_option maxHeartbeats 400000 in
theorem twice_any (x : Int) (h0 : 0 ≤ x) (h1 : x < 256) (w : World) :
    Calls Tryd.prog 37 #[.int .u8 x] w fun e w' => e = .returned (.int .u8 (twiceI x)) ∧ w = w' := by
  go_enter Tryd.func37, Tryd.ntmps37
  go_wp2
  go_ret
  exact ⟨rfl, rfl⟩

set_option maxHeartbeats 400000 in
theorem turn_nat (x : Int) (n : Nat) (h8 : n ≤ 8) (w : World) :
    Calls Tryd.prog 54 #[.int .u8 x, .int .i64 n] w fun e w' => e = .returned (.int .u8 (turnI x n)) ∧ ∃ m, w' = w.drewN m := by
  go_enter Tryd.func54, Tryd.ntmps54
  go_wp2
  go_quiet (fail)
  go_wp2
  go_ret
  exact ⟨rfl, _, rfl⟩
theorem turn_any (x n : Int) (h0 : 0 ≤ n) (h8 : n ≤ 8) (w : World) :
    Calls Tryd.prog 54 #[.int .u8 x, .int .i64 n] w fun e w' => e = .returned (.int .u8 (turnI x n.toNat)) ∧ ∃ m, w' = w.drewN m := by
  obtain ⟨k, rfl⟩ := Int.eq_ofNat_of_zero_le h0
  exact turn_nat x k (by omega) w

set_option maxHeartbeats 400000 in
theorem step_any (p q : Int) (h0 : 0 ≤ p) (h1 : p < 256) (h2 : 0 ≤ q) (h3 : q < 256) (w : World) :
    Calls Tryd.prog 53 #[.int .u8 p, .int .u8 q] w fun e w' => e = .returned (.tuple #[.int .u8 (stepP p), .int .u8 (stepQ q)]) ∧ w = w' := by
  go_enter Tryd.func53, Tryd.ntmps53
  go_wp2_with (go_at_call 37; refine (twice_any _ (by omega) (by omega) _).mono ?_; rintro e w' ⟨rfl, rfl⟩)
  go_ret2
  exact ⟨rfl, rfl⟩

set_option maxRecDepth 100000 in
set_option maxHeartbeats 2000000 in
theorem boxes_any (w : World) :
    Calls Tryd.prog 36 #[] w fun e w' => e = .returned (.agg (arr .u8 256 sboxI)) ∧ Below w.heap.size w w' := by
  go_enter Tryd.func36, Tryd.ntmps36
  go_wp2_with (refine wpList_alloc_arr rfl rfl ZTBoxes ?_)
  obtain ⟨h0, -, hb⟩ := alloc1 w (.cells (arr .u8 256 fun _ => 0) 65)
  revert h0 hb
  generalize w.alloc (.cells (arr .u8 256 fun _ => 0) 65) = w0
  intro h0 hb
  go_loopg [2, 3, 4] 255 (fun k p q m wr => ∃ r : Nat, r + k = 255 ∧ p = .int .u8 (threesL.getD r 0) ∧ q = .int .u8 (invL.getD r 0) ∧ m = .bool (decide (r < 255)) ∧
      wr.heap[w.heap.size]? = some (.cells (arr .u8 256 (boxK r)) 65 (0, 0)) ∧ Below w.heap.size w wr ∧ 0 ≤ threesL.getD r 0 ∧ threesL.getD r 0 < 256 ∧ 0 ≤ invL.getD r 0 ∧ invL.getD r 0 < 256)
  case atStart =>
    exact ⟨0, by omega, rfl, rfl, rfl, blk_congr h0 (fun i _ => (boxK_zero i).symm), hb, by decide, by decide, by decide, by decide⟩
  case round =>
    obtain ⟨r, hr, rfl, rfl, rfl, g0, hB, a1, a2, a3, a4⟩ := hrel
    clear h0 hb
    by_cases hlt : r < 255
    · have hs := Lib.hid (threes_step r hlt)
      have hk := Lib.hid (boxK_step r hlt)
      have hd : decide (r < 255) = true := by simpa using hlt
      rw [hd]
      have b1 := hs.out.2.2.2.1
      have b2 := hs.out.2.2.2.2.1
      have b3 := hs.out.2.2.2.2.2.1
      have b4 := hs.out.2.2.2.2.2.2.1
      rw [← hs.out.1] at b1 b2
      rw [← hs.out.2.1] at b3 b4
      have hr' := Lib.hid hr
      clear hr hd
      generalize hP : threesL.getD r 0 = p at *
      generalize hQ : invL.getD r 0 = q at *
      have hP' := Lib.hid hP
      have hQ' := Lib.hid hQ
      clear hP hQ
      have c0 := cell_arr g0 (stepP p).toNat (by omega)
      have fz := free_arr g0 (stepP p).toNat
      go_wp2_with (first | (go_at_call 53; (with_reducible refine (step_any _ _ (by omega) (by omega) (by omega) (by omega) _).mono ?_); rintro e w' ⟨rfl, rfl⟩) | (go_at_call 54; (with_reducible refine (turn_any _ _ (by omega) (by omega) _).mono ?_); rintro e w' ⟨rfl, m1, rfl⟩))
      have hs' := hs.out
      have e3 := hs'.2.2.1
      have e8 := hs'.2.2.2.2.2.2.2
      have hr'' := hr'.out
      have hk' := hk.out
      rw [← e3, ← hs'.1, ← hs'.2.1] at hk'
      go_roundg (gk - 1)
      case measure => omega
      case rel =>
        refine ⟨r + 1, by omega, by rw [← hs'.1], by rw [← hs'.2.1], by rw [← e8, ← hs'.1], blk_congr (set_arr g0 (stepP p).toNat _) (fun i _ => ?_), (Go.below_drewN hB _).setCell (Nat.le_refl _) _, by rw [← hs'.1]; exact Int.le_of_lt b1, by rw [← hs'.1]; exact b2, by rw [← hs'.2.1]; exact b3, by rw [← hs'.2.1]; exact b4⟩
        rw [← hk' i]; rfl
    · have h255 : r = 255 := by omega
      subst h255
      have c0 := cell_arr g0 0 (by omega)
      have fz := free_arr g0 0
      have g1 := blk_congr (set_arr g0 0 99) (fun i hi => boxK_all i hi)
      clear g0
      go_wp2_with (first | (refine wpList_load_arr rfl rfl rfl RTBoxes (by assumption) ?_) | (refine wpList_store_arr rfl rfl rfl rfl RTBoxes (by assumption) ?_))
      exact bodyPost_ret (results_arr rfl rfl RTBoxes (row_self g1)) rfl ⟨rfl, row_below (hB.setCell (Nat.le_refl _) _) (by omega) _⟩
theorem FTCipher1 : FieldT Tryd.prog 69 1 := ⟨_, _, 175, Tryd.underlying69, rfl, by kernel_rfl⟩
theorem ZTBlock : ZeroT Tryd.prog 41 .u8 16 := by unfold ZeroT; kernel_rfl
theorem built_cipher : Tryd.prog.built 69 [(0, .agg (arr .u8 256 sboxI))] = some (arr .u8 432 fun i => if i < 256 then sboxI i else 0) := by kernel_rfl

end Go.Proofs.YtlhhfngkfbbckaaDoor
namespace Go.Proofs.YtlhhfngkfbbckaaDoor
set_option linter.unusedSimpArgs false
set_option linter.unusedVariables false
open Go.RowKit
attribute [local irreducible] sboxI
set_option maxRecDepth 100000 in
set_option maxHeartbeats 1000000 in
theorem of_any (k : Nat → Int) (hk : ∀ i, i < 16 → 0 ≤ k i ∧ k i < 256) (w : World) :
    Calls Tryd.prog 25 #[.agg (arr .u8 16 k)] w fun e w' => ∃ C, e = .returned (.pointer (some ⟨C, 0, none⟩)) ∧ w.heap.size ≤ C ∧ w'.heap[C]? = some (.cells (arr .u8 432 (cipK k 10)) 69 (0, 0)) ∧ Below w.heap.size w w' := by
  go_enter Tryd.func25, Tryd.ntmps25
  go_wp2_with fail
  refine (boxes_any _).mono ?_
  rintro e w1 ⟨rfl, hb1⟩
  have g0 : w1.heap[w.heap.size]? = some (.cells (arr .u8 16 k) 41) := by
    rw [hb1.block _ (by simp)]; exact heap_alloc_new w _
  have hb0 : Below w.heap.size w w1 := ((Below.refl _ _).alloc (Nat.le_refl _) _).trans (hb1.mono (by simp))
  have hs1 : w.heap.size < w1.heap.size := by have := hb1.size; simp at this; omega
  clear hb1
  go_wp2_with (refine wpList_built (l := [(0, .agg (arr .u8 256 sboxI))]) (c := arr .u8 432 fun i => if i < 256 then sboxI i else 0) rfl rfl ?hl ?hb ?h)
  case hb => exact built_cipher
  obtain ⟨gC, hsz, hb2⟩ := alloc1 w1 (.cells (arr .u8 432 fun i => if i < 256 then sboxI i else 0) 69)
  have g0' := (hb2.block _ hs1).trans g0
  have hb3 : Below w.heap.size w _ := hb0.trans (hb2.mono (Nat.le_of_lt hs1))
  revert gC hsz g0' hb3
  generalize hC : w1.heap.size = C at *
  clear hb2 hb0 g0
  generalize w1.alloc (.cells (arr .u8 432 fun i => if i < 256 then sboxI i else 0) 69) = w2
  intro gC _ g0 hb
  have hC' := Lib.hid hC
  clear hC
  refine wp_region_tail 5 (by kernel_rfl) (by kernel_rfl) ?_
  simp only [List.take_succ_cons, List.take_zero, List.drop_succ_cons, List.drop_zero]
  still_step
  refine wpStill_load_arr rfl rfl rfl RTBlock g0 ?_
  repeat still_step
  refine wpStill_nil ?_
  go_wp2_with (refine wpList_store_sub rfl rfl rfl rfl RTBlock gC (by omega) ?_)
  go_loopg [4, 18] 10 (fun n add j wr => ∃ i : Nat, i + n = 10 ∧ j = .int .i64 i ∧ add = .int .u8 (addK i) ∧ wr.heap[C]? = some (.cells (arr .u8 432 (cipK k i)) 69 (0, 0)) ∧ Below w.heap.size w wr)
  case atStart =>
    refine ⟨0, by omega, rfl, rfl, blk_congr (row_self (w := w2.drew) gC) (fun i hi => cip_start k i hi), row_below hb.drew (by have := hC'.out; omega) _⟩
  case round =>
    obtain ⟨j, hj, rfl, rfl, g1, hB⟩ := hrel
    obtain ⟨go1, rfl⟩ : ∃ x, x = gk := ⟨_, rfl⟩
    have hwC : w.heap.size ≤ C := by have := hC'.out; omega
    have hj' := Lib.hid hj
    clear gC g0 hb hj
    by_cases hlt : j < 10
    · have hCl := lt_of_block g1
      go_wp2
      refine wp_region_can wr.heap.size 14 [(0, false), (1, false), (2, false), (3, false), (4, false), (5, false), (6, false), (7, false), (8, false), (9, false), (10, false), (11, false), (12, true), (13, true)] (by kernel_rfl) (by kernel_rfl) ?_
      (simp only [canOps, List.getElem?_cons_zero, List.getElem?_cons_succ, List.drop_succ_cons, List.drop_zero])
      iterate 5 (first | (refine wpCan_move rfl rfl (fun _ _ _ _ h => h) ?_; (simp only [Act.put, Act.eval, Array.getD_eq_getD_getElem?, List.getElem?_toArray, List.getElem?_cons_zero, List.getElem?_cons_succ, Option.getD_some, List.setIfInBounds_toArray, List.set_cons_zero, List.set_cons_succ])) | (refine wpCan_assign rfl rfl (fun _ _ _ _ h => h) ?_; (simp only [Act.put, Act.eval, Array.getD_eq_getD_getElem?, List.getElem?_toArray, List.getElem?_cons_zero, List.getElem?_cons_succ, Option.getD_some, List.setIfInBounds_toArray, List.set_cons_zero, List.set_cons_succ])) | (refine wpCan_nilCheck rfl rfl rfl (fun _ _ _ _ h => h) ?_; (simp only [Act.put, List.setIfInBounds_toArray, List.set_cons_zero, List.set_cons_succ])) | (refine wpCan_q rfl rfl (fun _ _ _ _ h => h) (by first | exact .bin rfl rfl rfl | exact .indexAddr rfl | exact .un rfl | exact .extract rfl | exact .index rfl | exact .field rfl | exact .slice rfl | exact .fieldT rfl FTCipher1) (fun K hK => ?_); go_simp; (try (simp only [↓IntWalk.iteOmega]; go_simp)); (try go_bits); refine hK _ ?_; clear hK K))
      refine wpCan_load_sub (off := 256 + j * 16) rfl rfl rfl (fun _ _ _ _ h => h) RTBlock hCl g1 (by omega) ?_
      (try simp only [Act.put, List.setIfInBounds_toArray, List.set_cons_zero, List.set_cons_succ])
      iterate 6 (first | (refine wpCan_move rfl rfl (fun _ _ _ _ h => h) ?_; (simp only [Act.put, Act.eval, Array.getD_eq_getD_getElem?, List.getElem?_toArray, List.getElem?_cons_zero, List.getElem?_cons_succ, Option.getD_some, List.setIfInBounds_toArray, List.set_cons_zero, List.set_cons_succ])) | (refine wpCan_assign rfl rfl (fun _ _ _ _ h => h) ?_; (simp only [Act.put, Act.eval, Array.getD_eq_getD_getElem?, List.getElem?_toArray, List.getElem?_cons_zero, List.getElem?_cons_succ, Option.getD_some, List.setIfInBounds_toArray, List.set_cons_zero, List.set_cons_succ])) | (refine wpCan_nilCheck rfl rfl rfl (fun _ _ _ _ h => h) ?_; (simp only [Act.put, List.setIfInBounds_toArray, List.set_cons_zero, List.set_cons_succ])) | (refine wpCan_q rfl rfl (fun _ _ _ _ h => h) (by first | exact .bin rfl rfl rfl | exact .indexAddr rfl | exact .un rfl | exact .extract rfl | exact .index rfl | exact .field rfl | exact .slice rfl | exact .fieldT rfl FTCipher1) (fun K hK => ?_); go_simp; (try (simp only [↓IntWalk.iteOmega]; go_simp)); (try go_bits); refine hK _ ?_; clear hK K))
      refine wpCan_alloc_arr rfl rfl ZTBlock (Nat.le_refl _) ?_
      refine wpCan_store_arr rfl rfl rfl rfl RTBlock (Nat.le_refl _) (heap_alloc_new _ _) ?_
      refine wpCan_nil ?_
      (try simp only [Act.put, List.setIfInBounds_toArray, List.set_cons_zero, List.set_cons_succ])
      go_wp2
      simp only [World.size_drew]
      have hBl : w.heap.size ≤ wr.heap.size := hB.size
      refine wp_cut (fun w' => w'.heap[wr.heap.size]? = some (.cells (arr .u8 16 (keyK k j)) 41 (0, 0)) ∧ w'.heap[C]? = some (.cells (arr .u8 432 (cipM k j 0)) 69 (0, 0)) ∧ Below w.heap.size w w')
        ⟨blk_congr (row_self (w := wr.drew.alloc _) (heap_alloc_new wr.drew _)) (fun i hi => by rw [Nat.mul_comm j 16]; exact cipK_key k j j i (Nat.le_refl _) hi),
          blk_congr (row_keep (w := wr.drew.alloc _) ((Below.heap_alloc wr.drew _ _ hCl).trans g1) (by omega)) (fun i _ => (cipM_zero k j i).symm), row_below (hB.drew.alloc hBl _) hBl _⟩ ?_
      rintro w3 ⟨gk0, gC0, hB0⟩
      generalize wr.heap.size = Bk at *
      go_loopg [33] 16 (fun n i wr => ∃ m : Nat, m + n = 16 ∧ i = .int .i64 m ∧ wr.heap[Bk]? = some (.cells (arr .u8 16 (keyK k j)) 41 (0, 0)) ∧ wr.heap[C]? = some (.cells (arr .u8 432 (cipM k j m)) 69 (0, 0)) ∧ Below w.heap.size w wr)
      case atStart => exact ⟨0, by omega, rfl, gk0, gC0, hB0⟩
      case round =>
        obtain ⟨m, hm, rfl, gW, gC, hBm⟩ := hrel
        have hm' := Lib.hid hm
        clear gk0 gC0 hB0 hm g1 hB
        by_cases hlm : m < 16
        · have hkb := Lib.hid (keyK_byte k hk j)
          have cw := cell_arr gW m hlm
          have cs := cell_arr gC (256 + (j + 1) * 16 + m) (by omega)
          have fz := free_arr gC (256 + (j + 1) * 16 + m)
          rcases (by omega : m = 0 ∨ m = 1 ∨ m = 2 ∨ m = 3 ∨ 4 ≤ m) with rfl | rfl | rfl | rfl | h4
          · simp only [Nat.add_zero] at cs fz cw
            have kb := hkb.out 13 (by omega)
            have cb := cell_arr gC (keyK k j 13).toNat (by omega)
            have cv := cell_arr gW 13 (by omega)
            go_wp2
            refine wp_region_tail 9 (by kernel_rfl) (by kernel_rfl) ?_
            (simp only [List.take_succ_cons, List.take_zero, List.drop_succ_cons, List.drop_zero])
            repeat (refine wpStill_step (fun K hK => ?_); go_simp; (try (simp only [↓IntWalk.iteOmega]; go_simp)); (try go_bits); refine hK _ ?_; clear hK K)
            refine wpStill_nil ?_
            go_wp2
            refine wp_region_tail 9 (by kernel_rfl) (by kernel_rfl) ?_
            (simp only [List.take_succ_cons, List.take_zero, List.drop_succ_cons, List.drop_zero])
            repeat (refine wpStill_step (fun K hK => ?_); go_simp; (try (simp only [↓IntWalk.iteOmega]; go_simp)); (try go_bits); refine hK _ ?_; clear hK K)
            refine wpStill_nil ?_
            go_wp2
            go_roundg (gk - 1)
            case measure => have := hm'.out; omega
            case rel =>
              have hm'' := hm'.out
              refine ⟨1, by omega, rfl, keep_arr gW _ _ (by omega), blk_congr (set_arr gC _ _) (fun i _ => (cipM_step' k j 0 _ (by omega) i _ ?_)), Go.below_drewN (hBm.setCell hwC _) 2⟩
              rw [cipM_box _ _ _ _ (by omega)]; rfl
          · have kb := hkb.out 14 (by omega)
            have cb := cell_arr gC (keyK k j 14).toNat (by omega)
            have cv := cell_arr gW 14 (by omega)
            go_wp2
            refine wp_region_tail 11 (by kernel_rfl) (by kernel_rfl) ?_
            (simp only [List.take_succ_cons, List.take_zero, List.drop_succ_cons, List.drop_zero])
            repeat (refine wpStill_step (fun K hK => ?_); go_simp; (try (simp only [↓IntWalk.iteOmega]; go_simp)); (try go_bits); refine hK _ ?_; clear hK K)
            refine wpStill_nil ?_
            go_wp2
            refine wp_region_tail 9 (by kernel_rfl) (by kernel_rfl) ?_
            (simp only [List.take_succ_cons, List.take_zero, List.drop_succ_cons, List.drop_zero])
            repeat (refine wpStill_step (fun K hK => ?_); go_simp; (try (simp only [↓IntWalk.iteOmega]; go_simp)); (try go_bits); refine hK _ ?_; clear hK K)
            refine wpStill_nil ?_
            go_wp2
            go_roundg (gk - 1)
            case measure => have := hm'.out; omega
            case rel =>
              have hm'' := hm'.out
              refine ⟨2, by omega, rfl, keep_arr gW _ _ (by omega), blk_congr (set_arr gC _ _) (fun i _ => (cipM_step' k j 1 _ (by omega) i _ ?_)), Go.below_drewN (hBm.setCell hwC _) 2⟩
              rw [cipM_box _ _ _ _ (by omega)]; rfl
          · have kb := hkb.out 15 (by omega)
            have cb := cell_arr gC (keyK k j 15).toNat (by omega)
            have cv := cell_arr gW 15 (by omega)
            go_wp2
            refine wp_region_tail 11 (by kernel_rfl) (by kernel_rfl) ?_
            (simp only [List.take_succ_cons, List.take_zero, List.drop_succ_cons, List.drop_zero])
            repeat (refine wpStill_step (fun K hK => ?_); go_simp; (try (simp only [↓IntWalk.iteOmega]; go_simp)); (try go_bits); refine hK _ ?_; clear hK K)
            refine wpStill_nil ?_
            go_wp2
            refine wp_region_tail 9 (by kernel_rfl) (by kernel_rfl) ?_
            (simp only [List.take_succ_cons, List.take_zero, List.drop_succ_cons, List.drop_zero])
            repeat (refine wpStill_step (fun K hK => ?_); go_simp; (try (simp only [↓IntWalk.iteOmega]; go_simp)); (try go_bits); refine hK _ ?_; clear hK K)
            refine wpStill_nil ?_
            go_wp2
            go_roundg (gk - 1)
            case measure => have := hm'.out; omega
            case rel =>
              have hm'' := hm'.out
              refine ⟨3, by omega, rfl, keep_arr gW _ _ (by omega), blk_congr (set_arr gC _ _) (fun i _ => (cipM_step' k j 2 _ (by omega) i _ ?_)), Go.below_drewN (hBm.setCell hwC _) 2⟩
              rw [cipM_box _ _ _ _ (by omega)]; rfl
          · have kb := hkb.out 12 (by omega)
            have cb := cell_arr gC (keyK k j 12).toNat (by omega)
            have cv := cell_arr gW 12 (by omega)
            go_wp2
            refine wp_region_tail 11 (by kernel_rfl) (by kernel_rfl) ?_
            (simp only [List.take_succ_cons, List.take_zero, List.drop_succ_cons, List.drop_zero])
            repeat (refine wpStill_step (fun K hK => ?_); go_simp; (try (simp only [↓IntWalk.iteOmega]; go_simp)); (try go_bits); refine hK _ ?_; clear hK K)
            refine wpStill_nil ?_
            go_wp2
            refine wp_region_tail 9 (by kernel_rfl) (by kernel_rfl) ?_
            (simp only [List.take_succ_cons, List.take_zero, List.drop_succ_cons, List.drop_zero])
            repeat (refine wpStill_step (fun K hK => ?_); go_simp; (try (simp only [↓IntWalk.iteOmega]; go_simp)); (try go_bits); refine hK _ ?_; clear hK K)
            refine wpStill_nil ?_
            go_wp2
            go_roundg (gk - 1)
            case measure => have := hm'.out; omega
            case rel =>
              have hm'' := hm'.out
              refine ⟨4, by omega, rfl, keep_arr gW _ _ (by omega), blk_congr (set_arr gC _ _) (fun i _ => (cipM_step' k j 3 _ (by omega) i _ ?_)), Go.below_drewN (hBm.setCell hwC _) 2⟩
              rw [cipM_box _ _ _ _ (by omega)]; rfl
          · have cn := cell_arr gC (256 + (j + 1) * 16 + (m - 4)) (by omega)
            go_wp2
            refine wp_region_tail 9 (by kernel_rfl) (by kernel_rfl) ?_
            (simp only [List.take_succ_cons, List.take_zero, List.drop_succ_cons, List.drop_zero])
            repeat (refine wpStill_step (fun K hK => ?_); go_simp; (try (simp only [↓IntWalk.iteOmega]; go_simp)); (try go_bits); refine hK _ ?_; clear hK K)
            refine wpStill_nil ?_
            go_wp2
            go_roundg (gk - 1)
            case measure => have := hm'.out; omega
            case rel =>
              have hm'' := hm'.out
              refine ⟨m + 1, by omega, by go_num, keep_arr gW _ _ (by omega), blk_congr (set_arr gC _ _) (fun i _ => (cipM_step' k j m _ (by omega) i _ ?_)), Go.below_drewN (hBm.setCell hwC _) 1⟩
              rw [nextKey_step _ _ m h4, show 256 + (j + 1) * 16 + (m - 4) = 256 + 16 * (j + 1) + (m - 4) from by omega, cipM_now _ _ _ _ (by omega)]
        · obtain rfl : m = 16 := by have := hm'.out; omega
          have ab := addK_byte j
          have g2 := blk_congr gC (fun i _ => cipM_done k j i)
          clear gC gW
          go_wp2_with (go_at_call 37; (with_reducible refine (twice_any _ (by omega) (by omega) _).mono ?_); rintro e w' ⟨rfl, rfl⟩)
          go_roundg (go1 - 1)
          case measure => have := hj'.out; omega
          case rel =>
            have hj'' := hj'.out
            exact ⟨j + 1, by omega, by go_num, rfl, g2, hBm⟩
    · obtain rfl : j = 10 := by have := hj'.out; omega
      go_wp2
      go_ret
      exact ⟨C, rfl, hwC, g1, hB⟩

end Go.Proofs.YtlhhfngkfbbckaaDoor
namespace Go.Proofs.YtlhhfngkfbbckaaDoor
set_option linter.unusedSimpArgs false
set_option linter.unusedVariables false
open Go.RowKit
attribute [local irreducible] sboxI
theorem RTKeys : RowT Tryd.prog 67 176 := ⟨_, Tryd.underlying67, rfl, by kernel_rfl⟩
theorem ZTKeys : ZeroT Tryd.prog 67 .u8 176 := by unfold ZeroT; kernel_rfl

end Go.Proofs.YtlhhfngkfbbckaaDoor
namespace Go.Proofs.YtlhhfngkfbbckaaDoor
set_option linter.unusedSimpArgs false
set_option linter.unusedVariables false
open Go.RowKit
attribute [local irreducible] sboxI
theorem RTCol : RowT Tryd.prog 93 4 := ⟨_, Tryd.underlying93, rfl, by kernel_rfl⟩
theorem ZTCol : ZeroT Tryd.prog 93 .u8 4 := by unfold ZeroT; kernel_rfl

set_option maxRecDepth 100000 in
set_option maxHeartbeats 1000000 in
theorem add_any (f g : Nat → Int) (w : World) :
    Calls Tryd.prog 38 #[.agg (arr .u8 16 f), .agg (arr .u8 16 g)] w fun e w' => e = .returned (.agg (arr .u8 16 (xorI f g))) ∧ Below w.heap.size w w' := by
  go_enter Tryd.func38, Tryd.ntmps38
  go_wp2_with (refine wpList_alloc_arr rfl rfl ZTBlock ?_)
  obtain ⟨h0, h1, h2, hsz, hb⟩ := alloc3 w (.cells (arr .u8 16 f) 41) (.cells (arr .u8 16 g) 41) (.cells (arr .u8 16 fun _ => 0) 41)
  go_loopg [6] 16 (fun n i wr => ∃ m : Nat, m + n = 16 ∧ i = .int .i64 m ∧ wr.heap[w.heap.size]? = some (.cells (arr .u8 16 fun i => if i < m then xorI f g i else f i) 41 (0, 0)) ∧
    wr.heap[w.heap.size + 1]? = some (.cells (arr .u8 16 g) 41 (0, 0)) ∧ wr.heap[w.heap.size + 1 + 1]? = some (.cells (arr .u8 16 fun _ => 0) 41 (0, 0)) ∧ Below w.heap.size w wr)
  case atStart => exact ⟨0, rfl, rfl, by simpa using h0, h1, h2, hb⟩
  case round =>
    obtain ⟨m, hm, rfl, g0, g1, g2, hB⟩ := hrel
    have hm' := Lib.hid hm
    clear h0 h1 h2 hsz hb hm
    by_cases hlt : m < 16
    · have c0 := cell_arr g0 m hlt
      have c1 := cell_arr g1 m hlt
      have fz := free_arr g0 m
      simp only [Nat.lt_irrefl, if_false] at c0
      go_wp2
      refine wp_region_tail 8 (by kernel_rfl) (by kernel_rfl) ?_
      (simp only [List.take_succ_cons, List.take_zero, List.drop_succ_cons, List.drop_zero])
      repeat (refine wpStill_step (fun K hK => ?_); go_simp; (try (simp only [↓IntWalk.iteOmega]; go_simp)); (try go_bits); refine hK _ ?_; clear hK K)
      refine wpStill_nil ?_
      go_wp2
      go_roundg (gk - 1)
      case measure => have := hm'.out; omega
      case rel =>
        have hm'' := hm'.out
        exact ⟨m + 1, by omega, by go_num, blk_congr (set_arr g0 m _) (fun i _ => fill_step f (xorI f g) m i), keep_arr g1 _ _ (by omega), keep_arr g2 _ _ (by omega), (hB.setCell (Nat.le_refl _) _).drew⟩
    · obtain rfl : m = 16 := by have := hm'.out; omega
      have g0' := blk_congr (f' := xorI f g) g0 (fun i hi => if_pos hi)
      clear g0
      go_wp2_with (first | (refine wpList_load_arr rfl rfl rfl RTBlock g0' ?_) | (refine wpList_store_arr rfl rfl rfl rfl RTBlock g2 ?_))
      exact bodyPost_ret (results_arr rfl rfl RTBlock (row_self g2)) rfl ⟨rfl, row_below hB (by omega) _⟩

set_option maxRecDepth 100000 in
set_option maxHeartbeats 1000000 in
theorem column_any (x : Nat → Int) (w : World) :
    Calls Tryd.prog 55 #[.agg (arr .u8 4 x)] w fun e w' => e = .returned (.agg (arr .u8 4 (colI x))) ∧ Below w.heap.size w w' := by
  go_enter Tryd.func55, Tryd.ntmps55
  obtain ⟨h0, h1, hsz, hb⟩ := alloc2 w (.cells (arr .u8 4 x) 93) (.cells (arr .u8 4 fun _ => 0) 93)
  have c0 := cell_arr h0 0 (by omega)
  have c1 := cell_arr h0 1 (by omega)
  have c2 := cell_arr h0 2 (by omega)
  have c3 := cell_arr h0 3 (by omega)
  go_wp2_with (refine wpList_alloc_arr rfl rfl ZTCol ?_)
  clear c0 c1 c2 c3
  go_loopg [16] 4 (fun n i wr => ∃ m : Nat, m + n = 4 ∧ i = .int .i64 m ∧ wr.heap[w.heap.size]? = some (.cells (arr .u8 4 x) 93 (0, 0)) ∧
    wr.heap[w.heap.size + 1]? = some (.cells (arr .u8 4 fun i => if i < m then colI x i else 0) 93 (0, 0)) ∧ Below w.heap.size w wr)
  case atStart => exact ⟨0, rfl, rfl, h0, by simpa using h1, hb⟩
  case round =>
    obtain ⟨m, hm, rfl, g0, g1, hB⟩ := hrel
    have hm' := Lib.hid hm
    clear h0 h1 hsz hb hm
    have hl0 := lt_of_block g0
    have hl1 := lt_of_block g1
    by_cases hlt : m < 4
    · have c0 := cell_arr g0 m hlt
      have c1 := cell_arr g0 ((m + 1) % 4) (by omega)
      have c2 := cell_arr g1 m hlt
      have fz := free_arr g1 m
      have tb := bits_u8 .xor (x m) (x ((m + 1) % 4))
      go_wp2
      refine wp_region_can wr.heap.size 18 [(0, false), (1, false), (2, false), (3, false), (4, false), (5, false), (6, false), (7, false), (8, false), (9, false), (10, false), (11, false), (12, false), (13, false), (14, false), (15, true), (16, false), (17, false)] (by kernel_rfl) (by kernel_rfl) ?_
      (simp only [canOps, List.getElem?_cons_zero, List.getElem?_cons_succ, List.drop_succ_cons, List.drop_zero])
      iterate 15 (first | (refine wpCan_move rfl rfl (fun _ _ _ _ h => h) ?_; (simp only [Act.put, Act.eval, Array.getD_eq_getD_getElem?, List.getElem?_toArray, List.getElem?_cons_zero, List.getElem?_cons_succ, Option.getD_some, List.setIfInBounds_toArray, List.set_cons_zero, List.set_cons_succ])) | (refine wpCan_assign rfl rfl (fun _ _ _ _ h => h) ?_; (simp only [Act.put, Act.eval, Array.getD_eq_getD_getElem?, List.getElem?_toArray, List.getElem?_cons_zero, List.getElem?_cons_succ, Option.getD_some, List.setIfInBounds_toArray, List.set_cons_zero, List.set_cons_succ])) | (refine wpCan_nilCheck rfl rfl rfl (fun _ _ _ _ h => h) ?_; (simp only [Act.put, List.setIfInBounds_toArray, List.set_cons_zero, List.set_cons_succ])) | (refine wpCan_q rfl rfl (fun _ _ _ _ h => h) (by first | exact .bin rfl rfl rfl | exact .indexAddr rfl | exact .un rfl | exact .extract rfl | exact .index rfl | exact .field rfl | exact .slice rfl | exact .load rfl rfl hl0 g0) (fun K hK => ?_); go_simp; (try (simp only [↓IntWalk.iteOmega]; go_simp)); (try go_bits); refine hK _ ?_; clear hK K))
      refine wpCan_e rfl (fun K hK => ?_)
      go_simp
      refine (twice_any _ (by omega) (by omega) _).mono ?_
      rintro e w9 ⟨rfl, rfl⟩
      refine hK _ _ (Keep.refl _ _) ?_
      clear hK K
      (try simp only [Act.put, List.setIfInBounds_toArray, List.set_cons_zero, List.set_cons_succ])
      iterate 2 (first | (refine wpCan_move rfl rfl (fun _ _ _ _ h => h) ?_; (simp only [Act.put, Act.eval, Array.getD_eq_getD_getElem?, List.getElem?_toArray, List.getElem?_cons_zero, List.getElem?_cons_succ, Option.getD_some, List.setIfInBounds_toArray, List.set_cons_zero, List.set_cons_succ])) | (refine wpCan_assign rfl rfl (fun _ _ _ _ h => h) ?_; (simp only [Act.put, Act.eval, Array.getD_eq_getD_getElem?, List.getElem?_toArray, List.getElem?_cons_zero, List.getElem?_cons_succ, Option.getD_some, List.setIfInBounds_toArray, List.set_cons_zero, List.set_cons_succ])) | (refine wpCan_nilCheck rfl rfl rfl (fun _ _ _ _ h => h) ?_; (simp only [Act.put, List.setIfInBounds_toArray, List.set_cons_zero, List.set_cons_succ])) | (refine wpCan_q rfl rfl (fun _ _ _ _ h => h) (by first | exact .bin rfl rfl rfl | exact .indexAddr rfl | exact .un rfl | exact .extract rfl | exact .index rfl | exact .field rfl | exact .slice rfl) (fun K hK => ?_); go_simp; (try (simp only [↓IntWalk.iteOmega]; go_simp)); (try go_bits); refine hK _ ?_; clear hK K))
      refine wpCan_nil ?_
      go_wp2
      go_roundg (gk - 1)
      case measure => have := hm'.out; omega
      case rel =>
        have hm'' := hm'.out
        exact ⟨m + 1, by omega, by go_num, keep_arr g0 _ _ (by omega), blk_congr (set_arr g1 m _) (fun i _ => fill_zero (colI x) m i), (hB.setCell (Nat.le_add_right _ _) _).drew⟩
    · obtain rfl : m = 4 := by have := hm'.out; omega
      have g1' := blk_congr (f' := colI x) g1 (fun i hi => if_pos hi)
      clear g1
      go_wp2_with (first | (refine wpList_load_arr rfl rfl rfl RTCol g1' ?_) | (refine wpList_store_arr rfl rfl rfl rfl RTCol g1' ?_))
      exact bodyPost_ret (results_arr rfl rfl RTCol (row_self g1')) rfl ⟨rfl, row_below hB (by omega) _⟩
end Go.Proofs.YtlhhfngkfbbckaaDoor
namespace Go.Proofs.YtlhhfngkfbbckaaDoor
set_option linter.unusedSimpArgs false
set_option linter.unusedVariables false
open Go.RowKit
attribute [local irreducible] sboxI
theorem SZByte : (Tryd.prog.info? 5).map (·.size) = some 1 := by kernel_rfl

set_option maxRecDepth 100000 in
set_option maxHeartbeats 1000000 in
theorem round_any (k s : Nat → Int) (hs : ∀ i, i < 16 → 0 ≤ s i ∧ s i < 256) (last : Bool) (C : Nat) (w : World) (hC : w.heap[C]? = some (.cells (arr .u8 432 (cipK k 10)) 69 (0, 0))) :
    Calls Tryd.prog 39 #[.pointer (some ⟨C, 0, none⟩), .agg (arr .u8 16 s), .bool last] w fun e w' => e = .returned (.agg (arr .u8 16 (roundI s last))) ∧ Below w.heap.size w w' := by
  go_enter Tryd.func39, Tryd.ntmps39
  obtain ⟨h0, h1, hsz, hb⟩ := alloc2 w (.cells (arr .u8 16 s) 41) (.cells (arr .u8 16 fun _ => 0) 41)
  have hCl := lt_of_block hC
  have hC1 := keep_below hb hCl hC
  have hs' := Lib.hid hs
  clear hs hC
  go_wp2_with (refine wpList_alloc_arr rfl rfl ZTBlock ?_)
  go_loopg [10] 4 (fun n i wr => ∃ m : Nat, m + n = 4 ∧ i = .int .i64 m ∧ wr.heap[w.heap.size]? = some (.cells (arr .u8 16 s) 41 (0, 0)) ∧
    wr.heap[w.heap.size + 1]? = some (.cells (arr .u8 16 fun i => if i < 4 * m then roundI s last i else 0) 41 (0, 0)) ∧ wr.heap[C]? = some (.cells (arr .u8 432 (cipK k 10)) 69 (0, 0)) ∧ Below w.heap.size w wr)
  case atStart => exact ⟨0, rfl, rfl, h0, blk_congr h1 (fun i _ => (if_neg (by omega)).symm), hC1, hb⟩
  case round =>
    obtain ⟨m, hm, rfl, g0, g1, gC, hB⟩ := hrel
    obtain ⟨go1, rfl⟩ : ∃ x, x = gk := ⟨_, rfl⟩
    have hm' := Lib.hid hm
    clear h0 h1 hsz hb hm hC1
    have hl0 := lt_of_block g0
    have hl1 := lt_of_block g1
    have hlC := lt_of_block gC
    by_cases hlt : m < 4
    · go_upto_region 5 with (refine wpList_alloc_arr rfl rfl ZTCol ?_)
      have q2 := heap_alloc_new wr (.cells (arr .u8 4 fun _ => 0) 93)
      have bl := (alloc1 wr (.cells (arr .u8 4 fun _ => 0) 93)).2.2
      have q0 := keep_below bl hl0 g0
      have q1 := keep_below bl hl1 g1
      have qC := keep_below bl hlC gC
      have hBq := hB.trans (bl.mono hB.size)
      clear bl g0 g1 gC hB
      generalize wr.heap.size = B2 at *
      (try simp only [Act.put, List.setIfInBounds_toArray, List.set_cons_zero, List.set_cons_succ])
      rw [show decide ((m : Int) < 4) = true from decide_eq_true (by omega)]
      go_wp2
      go_loopg [13] 4 (fun n i wr => ∃ r : Nat, r + n = 4 ∧ i = .int .i64 r ∧ wr.heap[w.heap.size]? = some (.cells (arr .u8 16 s) 41 (0, 0)) ∧
        wr.heap[w.heap.size + 1]? = some (.cells (arr .u8 16 fun i => if i < 4 * m then roundI s last i else 0) 41 (0, 0)) ∧ wr.heap[C]? = some (.cells (arr .u8 432 (cipK k 10)) 69 (0, 0)) ∧
        wr.heap[B2]? = some (.cells (arr .u8 4 fun i => if i < r then rowI s m i else 0) 93 (0, 0)) ∧ Below w.heap.size w wr)
      case atStart => exact ⟨0, rfl, rfl, q0, q1, qC, blk_congr q2 (fun i _ => (if_neg (by omega)).symm), hBq⟩
      case round =>
        clear q0 q1 qC q2 hBq
        obtain ⟨r, hr, rfl, q0, q1, qC, q2, hBq⟩ := hrel
        have hr' := Lib.hid hr
        clear hr
        by_cases hlr : r < 4
        · have hsb := hs'.out (4 * ((m + r) % 4) + r) (by omega)
          have c0 := cell_arr q0 (4 * ((m + r) % 4) + r) (by omega)
          have c1 := cell_arr qC (s (4 * ((m + r) % 4) + r)).toNat (by omega)
          rw [cipK_box _ _ _ (by omega)] at c1
          have c2 := cell_arr q2 r hlr
          have fz := free_arr q2 r
          simp only [Nat.lt_irrefl, if_false] at c2
          go_wp2
          refine wp_region_tail 16 (by kernel_rfl) (by kernel_rfl) ?_
          (simp only [List.take_succ_cons, List.take_zero, List.drop_succ_cons, List.drop_zero])
          repeat (refine wpStill_step (fun K hK => ?_); go_simp; (try (simp only [↓IntWalk.iteOmega]; go_simp)); (try go_bits); refine hK _ ?_; clear hK K)
          refine wpStill_nil ?_
          go_wp2
          go_roundg (gk - 1)
          case measure => have := hr'.out; omega
          case rel =>
            have hr'' := hr'.out
            exact ⟨r + 1, by omega, by go_num, keep_arr q0 _ _ (by omega), keep_arr q1 _ _ (by omega), keep_arr qC _ _ (by omega), blk_congr (set_arr q2 r _) (fun i _ => fill_zero (rowI s m) r i), (hBq.setCell (by show w.heap.size ≤ B2; omega) _).drew⟩
        · obtain rfl : r = 4 := by have := hr'.out; omega
          have q3 := blk_congr (f' := rowI s m) q2 (fun i hi => if_pos hi)
          clear q2
          cases last
          · go_upto_region 12 with (first | (refine wpList_load_arr rfl rfl rfl RTCol q3 ?_) | (go_at_call 55; refine (column_any _ _).mono ?_; rintro e w4 ⟨rfl, b4⟩; have e3 := keep_below b4 (lt_of_block q3) q3) | (refine wpList_store_arr rfl rfl rfl rfl RTCol e3 ?_))
            (try simp only [Act.put, List.setIfInBounds_toArray, List.set_cons_zero, List.set_cons_succ])
            have e0 := row_keep (w := w4) (c' := arr .u8 4 (colI (rowI s m))) (g := B2) (keep_below b4 (lt_of_block q0) q0) (by omega)
            have e1 := row_keep (w := w4) (c' := arr .u8 4 (colI (rowI s m))) (g := B2) (keep_below b4 (lt_of_block q1) q1) (by omega)
            have eC := row_keep (w := w4) (c' := arr .u8 4 (colI (rowI s m))) (g := B2) (keep_below b4 (lt_of_block qC) qC) (by omega)
            have e2 := row_self (w := w4) (c' := arr .u8 4 (colI (rowI s m))) e3
            have eB := row_below (hBq.trans (b4.mono hBq.size)) (g := B2) (by omega) (arr .u8 4 (colI (rowI s m)))
            clear b4 e3 q0 q1 qC q3 hBq
            generalize w4.setRow B2 (arr .u8 4 (colI (rowI s m))) = w5 at *
            refine wp_region_tail 4 (by kernel_rfl) (by kernel_rfl) ?_
            (simp only [List.take_succ_cons, List.take_zero, List.drop_succ_cons, List.drop_zero])
            iterate 2 (refine wpStill_step (fun K hK => ?_); go_simp; (try (simp only [↓IntWalk.iteOmega]; go_simp)); (try go_bits); refine hK _ ?_; clear hK K)
            refine wpStill_val rfl (run_op_slice_lo rfl Tryd.underlying41 SZByte rfl rfl (by omega) (by omega)) ?_
            refine wpStill_val rfl (run_op_slice_all rfl Tryd.underlying93 SZByte rfl) ?_
            refine wpStill_nil ?_
            (try simp only [Act.put, List.setIfInBounds_toArray, List.set_cons_zero, List.set_cons_succ])
            refine wpList_copy_arr (m := 4) rfl rfl rfl rfl Tryd.underlying24 SZByte e1 e2 (by show 4 = min 4 (16 - ((4 : Int) * m).toNat); omega) (by omega) (by omega) ?_
            (try simp only [Act.put, List.setIfInBounds_toArray, List.set_cons_zero, List.set_cons_succ])
            go_wp2
            go_roundg (go1 - 1)
            case measure => have := hm'.out; omega
            case rel =>
              have hm'' := hm'.out
              exact ⟨m + 1, by omega, by go_num, row_keep (w := w5.drew) e0 (by omega), blk_congr (row_self (w := w5.drew) e1) (fun i hi => round_step s false m i hi _ (roundI_at s m)), row_keep (w := w5.drew) eC (by omega), row_below eB.drew (Nat.le_add_right _ _) _⟩
          · go_upto_region 12 with (fail)
            (try simp only [Act.put, List.setIfInBounds_toArray, List.set_cons_zero, List.set_cons_succ])
            have e0 := q0
            have e1 := q1
            have eC := qC
            have e2 := q3
            have eB := hBq
            clear q0 q1 qC q3 hBq
            refine wp_region_tail 4 (by kernel_rfl) (by kernel_rfl) ?_
            (simp only [List.take_succ_cons, List.take_zero, List.drop_succ_cons, List.drop_zero])
            iterate 2 (refine wpStill_step (fun K hK => ?_); go_simp; (try (simp only [↓IntWalk.iteOmega]; go_simp)); (try go_bits); refine hK _ ?_; clear hK K)
            refine wpStill_val rfl (run_op_slice_lo rfl Tryd.underlying41 SZByte rfl rfl (by omega) (by omega)) ?_
            refine wpStill_val rfl (run_op_slice_all rfl Tryd.underlying93 SZByte rfl) ?_
            refine wpStill_nil ?_
            (try simp only [Act.put, List.setIfInBounds_toArray, List.set_cons_zero, List.set_cons_succ])
            refine wpList_copy_arr (m := 4) rfl rfl rfl rfl Tryd.underlying24 SZByte e1 e2 (by show 4 = min 4 (16 - ((4 : Int) * m).toNat); omega) (by omega) (by omega) ?_
            (try simp only [Act.put, List.setIfInBounds_toArray, List.set_cons_zero, List.set_cons_succ])
            go_wp2
            go_roundg (go1 - 1)
            case measure => have := hm'.out; omega
            case rel =>
              have hm'' := hm'.out
              exact ⟨m + 1, by omega, by go_num, row_keep (w := wr.drew) e0 (by omega), blk_congr (row_self (w := wr.drew) e1) (fun i hi => round_step s true m i hi _ (roundI_last s m)), row_keep (w := wr.drew) eC (by omega), row_below eB.drew (Nat.le_add_right _ _) _⟩
    · obtain rfl : m = 4 := by have := hm'.out; omega
      have g1' := blk_congr (f' := roundI s last) g1 (fun i hi => if_pos (by omega))
      clear g1
      go_wp2_with (first | (refine wpList_load_arr rfl rfl rfl RTBlock g1' ?_) | (refine wpList_store_arr rfl rfl rfl rfl RTBlock g1' ?_))
      exact bodyPost_ret (results_arr rfl rfl RTBlock (row_self g1')) rfl ⟨rfl, row_below hB (by omega) _⟩
end Go.Proofs.YtlhhfngkfbbckaaDoor
namespace Go.Proofs.YtlhhfngkfbbckaaDoor
set_option linter.unusedSimpArgs false
set_option linter.unusedVariables false
open Go.RowKit
attribute [local irreducible] sboxI
theorem cipK_at (k : Nat → Int) (j i : Nat) (hj : j ≤ 10) (hi : i < 16) : cipK k 10 (256 + j * 16 + i) = keyK k j i := by
  rw [Nat.mul_comm]; exact cipK_key k 10 j i hj hi

set_option maxRecDepth 100000 in
set_option maxHeartbeats 1000000 in
theorem encrypt_any (k s : Nat → Int) (C : Nat) (hs : ∀ i, i < 16 → 0 ≤ s i ∧ s i < 256) (w : World) (hC : w.heap[C]? = some (.cells (arr .u8 432 (cipK k 10)) 69 (0, 0))) :
    Calls Tryd.prog 26 #[.pointer (some ⟨C, 0, none⟩), .agg (arr .u8 16 s)] w fun e w' => e = .returned (.agg (arr .u8 16 (encI k s))) ∧ Below w.heap.size w w' := by
  go_enter Tryd.func26, Tryd.ntmps26
  obtain ⟨h0, h1, hsz, hb⟩ := alloc2 w (.cells (arr .u8 16 s) 41) (.cells (arr .u8 16 fun _ => 0) 41)
  have hCl := lt_of_block hC
  have hC1 := keep_below hb hCl hC
  clear hC
  go_wp2_with (refine wpList_alloc_arr rfl rfl ZTBlock ?_)
  refine wp_cut (fun w' => w'.heap[w.heap.size]? = some (.cells (arr .u8 16 s) 41 (0, 0)) ∧ w'.heap[w.heap.size + 1]? = some (.cells (arr .u8 16 fun _ => 0) 41 (0, 0)) ∧ w'.heap[C]? = some (.cells (arr .u8 432 (cipK k 10)) 69 (0, 0)) ∧ Below w.heap.size w w') ⟨h0, h1, hC1, hb⟩ ?_
  clear h0 h1 hsz hb hC1
  rintro w1 ⟨h0, h1, hC1, hb⟩
  have hl0 := lt_of_block h0
  have hl1 := lt_of_block h1
  have hlC := lt_of_block hC1
  refine wp_region_can w1.heap.size 7 [(0, false), (1, false), (2, false), (3, false), (4, false), (5, false), (6, true)] (by kernel_rfl) (by kernel_rfl) ?_
  (simp only [canOps, List.getElem?_cons_zero, List.getElem?_cons_succ, List.drop_succ_cons, List.drop_zero])
  refine wpCan_load_arr rfl rfl rfl (fun _ _ _ _ h => h) RTBlock hl0 h0 ?_
  (try simp only [Act.put, List.setIfInBounds_toArray, List.set_cons_zero, List.set_cons_succ])
  iterate 4 (first | (refine wpCan_move rfl rfl (fun _ _ _ _ h => h) ?_; (simp only [Act.put, Act.eval, Array.getD_eq_getD_getElem?, List.getElem?_toArray, List.getElem?_cons_zero, List.getElem?_cons_succ, Option.getD_some, List.setIfInBounds_toArray, List.set_cons_zero, List.set_cons_succ])) | (refine wpCan_assign rfl rfl (fun _ _ _ _ h => h) ?_; (simp only [Act.put, Act.eval, Array.getD_eq_getD_getElem?, List.getElem?_toArray, List.getElem?_cons_zero, List.getElem?_cons_succ, Option.getD_some, List.setIfInBounds_toArray, List.set_cons_zero, List.set_cons_succ])) | (refine wpCan_nilCheck rfl rfl rfl (fun _ _ _ _ h => h) ?_; (simp only [Act.put, List.setIfInBounds_toArray, List.set_cons_zero, List.set_cons_succ])) | (refine wpCan_q rfl rfl (fun _ _ _ _ h => h) (by first | exact .bin rfl rfl rfl | exact .indexAddr rfl | exact .un rfl | exact .extract rfl | exact .index rfl | exact .field rfl | exact .slice rfl | exact .fieldT rfl FTCipher1) (fun K hK => ?_); go_simp; (try (simp only [↓IntWalk.iteOmega]; go_simp)); (try go_bits); refine hK _ ?_; clear hK K))
  refine wpCan_load_as (off := 256 + 0 * 16) (keyK k 0) rfl rfl rfl (fun _ _ _ _ h => h) RTBlock hlC hC1 (by omega) (fun i hi => cipK_at k 0 i (by omega) hi) ?_
  (try simp only [Act.put, List.setIfInBounds_toArray, List.set_cons_zero, List.set_cons_succ])
  refine wpCan_e rfl (fun K hK => ?_)
  go_simp
  refine (add_any _ _ _).mono ?_
  rintro e w2 ⟨rfl, b2⟩
  refine hK _ _ (Keep.of_below b2 (Nat.le_refl _)) ?_
  clear hK K
  (try simp only [Act.put, List.setIfInBounds_toArray, List.set_cons_zero, List.set_cons_succ])
  refine wpCan_nil ?_
  have e0 := keep_below (w := w1.drew) b2 hl0 h0
  have e1 := row_keep (w := w2) (c' := arr .u8 16 (xorI s (keyK k 0))) (g := w.heap.size) (keep_below (w := w1.drew) b2 hl1 h1) (by omega)
  have eC := row_keep (w := w2) (c' := arr .u8 16 (xorI s (keyK k 0))) (g := w.heap.size) (keep_below (w := w1.drew) b2 hlC hC1) (by omega)
  have e2 := row_self (w := w2) (c' := arr .u8 16 (xorI s (keyK k 0))) e0
  have eB := row_below (hb.drew.trans (b2.mono hb.size)) (g := w.heap.size) (Nat.le_refl _) (arr .u8 16 (xorI s (keyK k 0)))
  go_wp2_with (refine wpList_store_arr rfl rfl rfl rfl RTBlock e0 ?_)
  clear h0 h1 hC1 hb hl0 hl1 hlC b2 e0
  go_loopg [5] 10 (fun n i wr => ∃ j : Nat, j + n = 10 ∧ i = .int .i64 ((j : Int) + 1) ∧ wr.heap[w.heap.size]? = some (.cells (arr .u8 16 (encJ k s j)) 41 (0, 0)) ∧ wr.heap[w.heap.size + 1]? = some (.cells (arr .u8 16 fun _ => 0) 41 (0, 0)) ∧
      wr.heap[C]? = some (.cells (arr .u8 432 (cipK k 10)) 69 (0, 0)) ∧ Below w.heap.size w wr)
  case atStart => exact ⟨0, rfl, rfl, e2, e1, eC, eB⟩
  case round =>
    clear e1 e2 eC eB
    obtain ⟨j, hj, rfl, g0, g1, gC, hB⟩ := hrel
    have hj' := Lib.hid hj
    clear hj
    have hl0 := lt_of_block g0
    have hl1 := lt_of_block g1
    have hlC := lt_of_block gC
    by_cases hlt : j < 10
    · go_upto_region 5 with (fail)
      (try simp only [Act.put, List.setIfInBounds_toArray, List.set_cons_zero, List.set_cons_succ])
      rw [show decide ((j : Int) + 1 ≤ 10) = true from decide_eq_true (by omega)]
      refine wp_region_can wr.heap.size 12 [(0, false), (1, false), (2, false), (3, false), (5, false), (6, false), (7, false), (8, false), (9, false), (10, false), (4, true), (11, true)] (by kernel_rfl) (by kernel_rfl) ?_
      (simp only [canOps, List.getElem?_cons_zero, List.getElem?_cons_succ, List.drop_succ_cons, List.drop_zero])
      (first | (refine wpCan_move rfl rfl (fun _ _ _ _ h => h) ?_; (simp only [Act.put, Act.eval, Array.getD_eq_getD_getElem?, List.getElem?_toArray, List.getElem?_cons_zero, List.getElem?_cons_succ, Option.getD_some, List.setIfInBounds_toArray, List.set_cons_zero, List.set_cons_succ])) | (refine wpCan_assign rfl rfl (fun _ _ _ _ h => h) ?_; (simp only [Act.put, Act.eval, Array.getD_eq_getD_getElem?, List.getElem?_toArray, List.getElem?_cons_zero, List.getElem?_cons_succ, Option.getD_some, List.setIfInBounds_toArray, List.set_cons_zero, List.set_cons_succ])) | (refine wpCan_nilCheck rfl rfl rfl (fun _ _ _ _ h => h) ?_; (simp only [Act.put, List.setIfInBounds_toArray, List.set_cons_zero, List.set_cons_succ])) | (refine wpCan_q rfl rfl (fun _ _ _ _ h => h) (by first | exact .bin rfl rfl rfl | exact .indexAddr rfl | exact .un rfl | exact .extract rfl | exact .index rfl | exact .field rfl | exact .slice rfl) (fun K hK => ?_); go_simp; (try (simp only [↓IntWalk.iteOmega]; go_simp)); (try go_bits); refine hK _ ?_; clear hK K))
      refine wpCan_load_arr rfl rfl rfl (fun _ _ _ _ h => h) RTBlock hl0 g0 ?_
      (try simp only [Act.put, List.setIfInBounds_toArray, List.set_cons_zero, List.set_cons_succ])
      iterate 7 (first | (refine wpCan_move rfl rfl (fun _ _ _ _ h => h) ?_; (simp only [Act.put, Act.eval, Array.getD_eq_getD_getElem?, List.getElem?_toArray, List.getElem?_cons_zero, List.getElem?_cons_succ, Option.getD_some, List.setIfInBounds_toArray, List.set_cons_zero, List.set_cons_succ])) | (refine wpCan_assign rfl rfl (fun _ _ _ _ h => h) ?_; (simp only [Act.put, Act.eval, Array.getD_eq_getD_getElem?, List.getElem?_toArray, List.getElem?_cons_zero, List.getElem?_cons_succ, Option.getD_some, List.setIfInBounds_toArray, List.set_cons_zero, List.set_cons_succ])) | (refine wpCan_nilCheck rfl rfl rfl (fun _ _ _ _ h => h) ?_; (simp only [Act.put, List.setIfInBounds_toArray, List.set_cons_zero, List.set_cons_succ])) | (refine wpCan_q rfl rfl (fun _ _ _ _ h => h) (by first | exact .bin rfl rfl rfl | exact .indexAddr rfl | exact .un rfl | exact .extract rfl | exact .index rfl | exact .field rfl | exact .slice rfl | exact .fieldT rfl FTCipher1) (fun K hK => ?_); go_simp; (try (simp only [↓IntWalk.iteOmega]; go_simp)); (try go_bits); refine hK _ ?_; clear hK K))
      refine wpCan_load_as (off := 256 + (j + 1) * 16) (keyK k (j + 1)) rfl rfl rfl (fun _ _ _ _ h => h) RTBlock hlC gC (by omega) (fun i hi => cipK_at k (j + 1) i (by omega) hi) ?_
      (try simp only [Act.put, List.setIfInBounds_toArray, List.set_cons_zero, List.set_cons_succ])
      refine wpCan_e rfl (fun K hK => ?_)
      go_simp
      refine (round_any k (encJ k s j) (fun i _ => encJ_byte k s j i) _ C _ (by exact gC)).mono ?_
      rintro e w4 ⟨rfl, b4⟩
      refine hK _ _ (Keep.of_below b4 (Nat.le_refl _)) ?_
      clear hK K
      (try simp only [Act.put, List.setIfInBounds_toArray, List.set_cons_zero, List.set_cons_succ])
      refine wpCan_e rfl (fun K hK => ?_)
      go_simp
      refine (add_any _ _ _).mono ?_
      rintro e w5 ⟨rfl, b5⟩
      refine hK _ _ (Keep.of_below b5 b4.size) ?_
      clear hK K
      (try simp only [Act.put, List.setIfInBounds_toArray, List.set_cons_zero, List.set_cons_succ])
      refine wpCan_nil ?_
      have b6 := b4.trans (b5.mono b4.size)
      have q0 := keep_below (w := wr.drew) b6 hl0 g0
      have q1 := keep_below (w := wr.drew) b6 hl1 g1
      have qC := keep_below (w := wr.drew) b6 hlC gC
      have hBq := hB.drew.trans (b6.mono hB.size)
      clear b4 b5 b6 g0 g1 gC hB
      go_wp2_with (refine wpList_store_arr rfl rfl rfl rfl RTBlock q0 ?_)
      go_roundg (gk - 1)
      case measure => have := hj'.out; omega
      case rel =>
        have hj'' := hj'.out
        refine ⟨j + 1, by omega, by go_num, blk_congr (row_self q0) (fun i _ => ?_), row_keep q1 (by omega), row_keep qC (by omega), row_below hBq (Nat.le_refl _) _⟩
        rw [last_test]
        rfl
    · obtain rfl : j = 10 := by have := hj'.out; omega
      go_wp2_with (first | (refine wpList_load_arr rfl rfl rfl RTBlock g0 ?_) | (refine wpList_store_arr rfl rfl rfl rfl RTBlock g1 ?_))
      exact bodyPost_ret (results_arr rfl rfl RTBlock (row_self g1)) rfl ⟨rfl, row_below hB (Nat.le_add_right _ _) _⟩

end Go.Proofs.YtlhhfngkfbbckaaDoor
namespace Go.Proofs.YtlhhfngkfbbckaaDoor
set_option linter.unusedSimpArgs false
set_option linter.unusedVariables false
open Go.RowKit
attribute [local irreducible] sboxI beL beK encI
set_option maxRecDepth 100000 in
set_option maxHeartbeats 2000000 in
theorem Ctr_yes (k m : Nat → Int) (hk : ∀ i, i < 16 → 0 ≤ k i ∧ k i < 256) (hm : ∀ i, i < 12 → 0 ≤ m i ∧ m i < 256) (F : Nat) (h3 : F < 4294967296) (A : Option Addr) (n c : Nat) (l : List Nat) (w : World) (h : Txt w w.heap.size A n c l) (hl : ∀ x ∈ l, x < 256) (h1 : n ≤ 1048576) (h2 : F + (n + 15) / 16 ≤ 4294967296) :
    Calls Tryd.prog 19 #[.agg (arr .u8 16 k), .agg (arr .u8 12 m), .int .u32 F, .slice A n c] w (RetYes w (ctrL k m F l)) := by
  go_enter Tryd.func19, Tryd.ntmps19
  obtain ⟨g0, g1, hz, hb⟩ := alloc2 w (.cells (arr .u8 16 k) 41) (.cells (arr .u8 12 m) 43)
  have H0 := Lib.hid h
  have HL := Lib.hid hl
  have HM := Lib.hid hm
  clear h hl hm
  go_upto_region 6 with (fail)
  generalize ((w.alloc (.cells (arr .u8 16 k) 41)).alloc (.cells (arr .u8 12 m) 43)) = wa at *
  (try simp only [Act.put, List.setIfInBounds_toArray, List.set_cons_zero, List.set_cons_succ])
  refine wp_region_free 6 [Is (.agg (arr .u8 16 k)), NewAt wa.heap.size (.cells (arr .u8 432 (cipK k 10)) 69 (0, 0)), Is (.slice A n c), Is (.int .i64 n), NewRow wa.heap.size n 5, NewAt wa.heap.size (.cells (arr .u8 432 (cipK k 10)) 69 (0, 0))]
    [[], [0], [], [2], [3], [1]] (by kernel_rfl) (by kernel_rfl) rfl (st_cons (is_stays _) (st_cons (new_stays _ _) (st_cons (is_stays _) (st_cons (is_stays _) (st_cons (newRow_stays _ _ _) (st_cons (new_stays _ _) st_nil)))))) ?_ ?_
  · (simp only [List.take_succ_cons, List.take_zero, List.drop_succ_cons, List.drop_zero, List.zip_cons_cons, List.zip_nil_left, List.zip_nil_right, freeOps, allV, under, factAt, fillA, List.getElem?_cons_zero, List.getElem?_cons_succ, List.range_succ, List.range_zero, List.nil_append, List.cons_append, Act.put, List.setIfInBounds_toArray, List.set_cons_zero, List.set_cons_succ])
    refine ⟨?_, ?_, ?_, ?_, ?_, ?_, trivial⟩
    · intro x0 x1 x2 x3 x4 x5 w' hb'
      exact free_load_arr rfl rfl rfl RTBlock (keep_below hb' (lt_of_block (w := wa) g0) g0) rfl
    · intro x0 x1 x2 x3 x4 x5 w' hb' e0
      unfold Is at e0
      subst e0
      refine free_e rfl (fun K hK => ?_)
      go_simp
      refine (of_any k hk _).mono ?_
      rintro e w4 ⟨C, rfl, hC, h4, b4⟩
      exact hK _ _ b4 ⟨C, rfl, Nat.le_trans hb'.size hC, h4⟩
    · intro x0 x1 x2 x3 x4 x5 w' hb'
      exact free_move rfl rfl rfl
    · intro x0 x1 x2 x3 x4 x5 w' hb' e2
      unfold Is at e2
      subst e2
      refine free_e rfl (fun K hK => ?_)
      go_simp
      exact hK _ _ (Below.refl _ _) rfl
    · intro x0 x1 x2 x3 x4 x5 w' hb' e3
      unfold Is at e3
      subst e3
      exact free_make BT (by omega) rfl rfl rfl rfl ⟨_, rfl, hb'.size, heap_alloc_new _ _⟩
    · intro x0 x1 x2 x3 x4 x5 w' hb' e1
      exact free_assign rfl rfl e1
  · (simp only [List.take_succ_cons, List.take_zero, List.drop_succ_cons, List.drop_zero, List.zip_cons_cons, List.zip_nil_left, List.zip_nil_right, freeOps, allV, under, factAt, fillA, List.getElem?_cons_zero, List.getElem?_cons_succ, List.range_succ, List.range_zero, List.nil_append, List.cons_append, Act.put, List.setIfInBounds_toArray, List.set_cons_zero, List.set_cons_succ])
    intro x0 x1 x2 x3 x4 x5 w' hb' e0 e1 e2 e3 e4 e5
    unfold Is at e0 e2 e3
    subst e0 e2 e3
    obtain ⟨C', rfl, -, -⟩ := e1
    obtain ⟨C, rfl, hC, hC1⟩ := e5
    obtain ⟨R, rfl, hR, hR1⟩ := e4
    replace g1 := keep_below hb' (lt_of_block (w := wa) g1) g1
    have hB := (hb.drew).trans (hb'.mono hb.size)
    clear hb' hb
    have hI : w.heap.size + 1 < w'.heap.size := lt_of_block g1
    have hne : C ≠ R := fun e => by
      subst e
      rw [hC1] at hR1
      injection hR1 with hR1
      injection hR1 with _ hR1
      exact absurd hR1 (by decide)
    have hR' : w.heap.size ≤ R := Nat.le_trans (by omega) hR
    have hC' : w.heap.size ≤ C := Nat.le_trans (by omega) hC
    clear hC hR hz g0
    go_upto_region 8 with (refine wpList_alloc_arr rfl rfl ZTBlock ?_)
    (try simp only [Act.put, List.setIfInBounds_toArray, List.set_cons_zero, List.set_cons_succ])
    obtain ⟨hI0, hIs, hIb⟩ := alloc1 w' (.cells (arr .u8 16 fun _ => 0) 41)
    replace g1 := keep_below hIb hI g1
    have hCl := lt_of_block hC1
    have hRl := lt_of_block hR1
    replace hC1 := keep_below hIb hCl hC1
    replace hR1 := keep_below hIb hRl hR1
    replace hB := hB.trans (hIb.mono hB.size)
    generalize w'.alloc (.cells (arr .u8 16 fun _ => 0) 41) = wb at *
    generalize w'.heap.size = I at *
    refine wp_region_tail 2 (by kernel_rfl) (by kernel_rfl) ?_
    (simp only [List.take_succ_cons, List.take_zero, List.drop_succ_cons, List.drop_zero])
    repeat (refine wpStill_step (fun K hK => ?_); go_simp; (try (simp only [↓IntWalk.iteOmega]; go_simp)); (try go_bits); refine hK _ ?_; clear hK K)
    refine wpStill_nil ?_
    refine wpList_copy_arr rfl rfl rfl rfl Tryd.underlying24 (by kernel_rfl) hI0 g1 (m := 12) rfl (by omega) (by omega) ?_
    (try simp only [Act.put, List.setIfInBounds_toArray, List.set_cons_zero, List.set_cons_succ])
    obtain ⟨bl, hbl⟩ : ∃ bl : Nat, ((n : Int) + 16 - 1) / 16 = bl := ⟨(n + 15) / 16, by omega⟩
    simp only [hbl]
    have hb1 : F + bl ≤ 4294967296 := by omega
    have hb2 : n ≤ 16 * bl := by omega
    have hb3 : 16 * bl ≤ n + 15 := by omega
    clear h2 hbl
    have q0 := row_self (w := wb.drew) (c' := arr .u8 16 (patch (fun x => 0) 0 12 fun i => m (0 + i))) hI0
    have qC := row_keep (w := wb.drew) (c' := arr .u8 16 (patch (fun x => 0) 0 12 fun i => m (0 + i))) (g := I) hC1 (by omega)
    have qR := row_keep (w := wb.drew) (c' := arr .u8 16 (patch (fun x => 0) 0 12 fun i => m (0 + i))) (g := I) hR1 (by omega)
    have qB := row_below (w := wb.drew) (hB.drew) (g := I) (by omega) (arr .u8 16 (patch (fun x => 0) 0 12 fun i => m (0 + i)))
    generalize wb.drew.setRow I (arr .u8 16 (patch (fun x => 0) 0 12 fun i => m (0 + i))) = wc at *
    clear hI0 g1 hC1 hR1 hB hI hIb hIs
    have hCI : C ≠ I := by omega
    have hRI : R ≠ I := by omega
    have hI' : w.heap.size ≤ I := by omega
    clear hCl hRl
    go_wp2
    go_loopg [43] bl (fun r i wr => ∃ (j : Nat) (q : Nat → Int), j + r = bl ∧ i = .int .i64 j ∧ wr.heap[I]? = some (.cells (arr .u8 16 q) 41 (0, 0)) ∧ (∀ x, x < 12 → q x = m x) ∧ wr.heap[C]? = some (.cells (arr .u8 432 (cipK k 10)) 69 (0, 0)) ∧ wr.heap[R]? = some (.cells (arr .u8 n fun x => if x < 16 * j then ctrI k m F l x else 0) 5 (0, 0)) ∧ Below w.heap.size w wr)
    case atStart => exact ⟨0, _, by omega, rfl, q0, (fun x hx => by unfold patch; rw [if_pos ⟨Nat.zero_le _, by omega⟩]; show m (0 + (x - 0)) = m x; rw [Nat.zero_add, Nat.sub_zero]), qC, by simpa using qR, qB⟩
    case round =>
      clear q0 qC qR qB
      obtain ⟨go1, rfl⟩ : ∃ x, x = gk := ⟨_, rfl⟩
      obtain ⟨j, q, hj, rfl, g0, hq, gC, gR, hB⟩ := hrel
      have HJ := Lib.hid hj
      have HQ := Lib.hid hq
      clear hj hq
      by_cases hlt : j < bl
      · have hat : F + j < 4294967296 := by omega
        have c12 := cell_arr g0 12 (by omega)
        have c13 := cell_arr g0 13 (by omega)
        have c14 := cell_arr g0 14 (by omega)
        have c15 := cell_arr g0 15 (by omega)
        have fz := free_arr g0
        go_upto_region 14 with (fail)
        (try simp only [Act.put, List.setIfInBounds_toArray, List.set_cons_zero, List.set_cons_succ])
        clear c12 c13 c14 c15 fz
        have k0 := set_arr (set_arr (set_arr (set_arr g0 12 ((F + j) / 16777216)) 13 (((F : Int) + j) / 65536 % 256)) 14 (((F : Int) + j) / 256 % 256)) 15 (((F : Int) + j) % 256)
        have kC := keep_arr (keep_arr (keep_arr (keep_arr gC 12 (.int .u8 ((F + j) / 16777216)) hCI) 13 (.int .u8 (((F : Int) + j) / 65536 % 256)) hCI) 14 (.int .u8 (((F : Int) + j) / 256 % 256)) hCI) 15 (.int .u8 (((F : Int) + j) % 256)) hCI
        have kR := keep_arr (keep_arr (keep_arr (keep_arr gR 12 (.int .u8 ((F + j) / 16777216)) hRI) 13 (.int .u8 (((F : Int) + j) / 65536 % 256)) hRI) 14 (.int .u8 (((F : Int) + j) / 256 % 256)) hRI) 15 (.int .u8 (((F : Int) + j) % 256)) hRI
        have kB := (((hB.setCell (p := ⟨I, 12, none⟩) hI' (.int .u8 ((F + j) / 16777216))).setCell (p := ⟨I, 13, none⟩) hI' (.int .u8 (((F : Int) + j) / 65536 % 256))).setCell (p := ⟨I, 14, none⟩) hI' (.int .u8 (((F : Int) + j) / 256 % 256))).setCell (p := ⟨I, 15, none⟩) hI' (.int .u8 (((F : Int) + j) % 256))
        clear hB
        refine wp_cut (fun w1 => w1.heap[I]? = some (.cells (arr .u8 16 (inI m (F + j))) 41 (0, 0)) ∧ w1.heap[C]? = some (.cells (arr .u8 432 (cipK k 10)) 69 (0, 0)) ∧ w1.heap[R]? = some (.cells (arr .u8 n fun x => if x < 16 * j then ctrI k m F l x else 0) 5 (0, 0)) ∧ Below w.heap.size w w1)
          ⟨blk_congr k0 (fun i hi => ?_), kC, kR, kB⟩ ?_
        · exact inI_upd q m (F + j) _ (by omega) (by omega) HQ.out i hi
        clear k0 kC kR kB g0 gC gR
        rintro w1 ⟨g0, gC, gR, hB⟩
        have lI := lt_of_block g0
        have lC := lt_of_block gC
        have lR := lt_of_block gR
        go_wp2_with (first | (refine wpList_load_arr rfl rfl rfl RTBlock g0 ?_) | (go_at_call 26; fail))
        refine (encrypt_any k _ C (fun i _ => inI_byte m HM.out (F + j) i) _ gC).mono ?_
        rintro e w2 ⟨rfl, b2⟩
        replace g0 := keep_below b2 lI g0
        replace gC := keep_below b2 lC gC
        replace gR := keep_below b2 lR gR
        replace hB := hB.trans (b2.mono hB.size)
        clear b2
        go_upto_region 15 with (refine wpList_new_arr rfl rfl rfl rfl ZTBlock RTBlock rfl rfl ?_; intro w3 gS b3 hs3)
        replace g0 := keep_below b3 (lt_of_block g0) g0
        replace gC := keep_below b3 (lt_of_block gC) gC
        have hSR : w2.heap.size ≠ R := by have := lt_of_block gR; omega
        replace gR := keep_below b3 (lt_of_block gR) gR
        replace hB := hB.trans (b3.mono hB.size)
        clear b3 hs3 lI lC lR
        generalize w2.heap.size = S at *
        (try simp only [Act.put, List.setIfInBounds_toArray, List.set_cons_zero, List.set_cons_succ])
        have hjn : 16 * j < n := by omega
        go_wp2
        go_loopg [17] 16 (fun r x wr => ∃ y : Nat, y + r = 16 * j + 16 ∧ 16 * j ≤ y ∧ y ≤ n ∧ x = .int .i64 y ∧ wr.heap[I]? = some (.cells (arr .u8 16 (inI m (F + j))) 41 (0, 0)) ∧ wr.heap[C]? = some (.cells (arr .u8 432 (cipK k 10)) 69 (0, 0)) ∧ wr.heap[S]? = some (.cells (arr .u8 16 (encI k (inI m (F + j)))) 41 (0, 0)) ∧ wr.heap[R]? = some (.cells (arr .u8 n fun x => if x < y then ctrI k m F l x else 0) 5 (0, 0)) ∧ Below w.heap.size w wr)
        case atStart => exact ⟨16 * j, rfl, Nat.le_refl _, by omega, by go_num, g0, gC, gS, gR, hB⟩
        case round =>
          clear g0 gC gS gR hB
          obtain ⟨y, hy1, hy2, hy3, rfl, g0, gC, gS, gR, hB⟩ := hrel
          have HY := Lib.hid hy1
          clear hy1
          by_cases hin : y < 16 * j + 16 ∧ y < n
          · obtain ⟨hy4, hy5⟩ := hin
            obtain ⟨ad, rfl, hab, hac⟩ := (H0.out.below hB).cell hy5
            have hS := cell_arr gS (y % 16) (by omega)
            have cR := cell_arr gR y hy5
            have fz := free_arr gR y
            replace hac : wr.cell? (ad.add y) = some (.int .u8 ((l.getD y 0 : Nat) : Int)) := hac
            have hbd := HL.out _ (show l.getD y 0 ∈ l from by rw [List.getD_eq_getElem?_getD, List.getElem?_eq_getElem (by rw [H0.out.len]; exact hy5)]; exact List.getElem_mem _)
            go_wp2
            all_goals
              refine wp_region_tail 12 (by kernel_rfl) (by kernel_rfl) ?_
              (simp only [List.take_succ_cons, List.take_zero, List.drop_succ_cons, List.drop_zero])
              repeat (refine wpStill_step (fun K hK => ?_); go_simp; (try (simp only [↓IntWalk.iteOmega]; go_simp)); (try go_bits); refine hK _ ?_; clear hK K)
              refine wpStill_nil ?_
              go_wp2
              go_roundg (gk - 1)
              case measure => have := HY.out; omega
              case rel =>
                have hY := HY.out
                have hj' : y / 16 = j := by omega
                refine ⟨y + 1, by omega, by omega, by omega, by go_num, keep_arr g0 _ _ (Ne.symm hRI), keep_arr gC _ _ hne, keep_arr gS _ _ hSR, blk_congr (set_arr gR y _) (fun i _ => ?_), (hB.setCell (p := ⟨R, y, none⟩) hR' _).drew⟩
                refine fill_grow _ y _ i ?_
                unfold ctrI
                rw [hj', List.getD_eq_getElem?_getD]
          · go_wp2
            all_goals
              go_roundg (go1 - 1)
              case measure => have := HJ.out; omega
              case rel =>
                have := HJ.out
                have hY := HY.out
                have hyy : y = 16 * j + 16 ∨ y = n := by omega
                exact ⟨j + 1, _, by omega, by go_num, g0, (fun x hx => by unfold inI; rw [if_pos hx]), gC, blk_congr gR (fun i hi => by split <;> split <;> first | rfl | omega), hB⟩
      · obtain rfl : j = bl := by have := HJ.out; omega
        go_wp2
        go_ret2
        refine ⟨_, rfl, own_arr hR' gR (by omega) (by rw [ctrL_len]; exact H0.out.len) fun i hi => ?_, hB⟩
        rw [if_pos (by omega), ctrL_at _ _ _ _ _ (by rw [H0.out.len]; exact hi)]
end Go.Proofs.YtlhhfngkfbbckaaDoor
namespace Go.Proofs.YtlhhfngkfbbckaaDoor
set_option linter.unusedSimpArgs false
set_option linter.unusedVariables false
open Go.RowKit

def b8 (x : Int) : BitVec 8 := BitVec.ofInt 8 x
theorem b8_inj {x y : Int} (hx : 0 ≤ x ∧ x < 256) (hy : 0 ≤ y ∧ y < 256) (h : b8 x = b8 y) : x = y := by
  obtain ⟨m, rfl⟩ := Int.eq_ofNat_of_zero_le hx.1
  obtain ⟨n, rfl⟩ := Int.eq_ofNat_of_zero_le hy.1
  have h1 := congrArg BitVec.toNat h
  simp only [b8, BitVec.ofInt_natCast, BitVec.toNat_ofNat] at h1
  omega
theorem b8_bx (a b : Int) : b8 (bits .xor .u8 a b) = b8 a ^^^ b8 b := ofInt_bx a b
/-- A byte, times two. -/
def T8 (v : BitVec 8) : BitVec 8 := (v <<< 1) ^^^ (if v.msb then 27#8 else 0#8)
theorem T8_xor (u v : BitVec 8) : T8 (u ^^^ v) = T8 u ^^^ T8 v := by
  unfold T8
  rw [BitVec.shiftLeft_xor_distrib, BitVec.msb_xor]
  have h : (if (u.msb ^^ v.msb) then 27#8 else 0#8) = (if u.msb then 27#8 else 0#8) ^^^ (if v.msb then 27#8 else 0#8) := by
    cases u.msb <;> cases v.msb <;> decide
  rw [h]
  generalize (if u.msb then 27#8 else 0#8) = p
  generalize (if v.msb then 27#8 else 0#8) = q
  rw [BitVec.xor_assoc, BitVec.xor_assoc, ← BitVec.xor_assoc (v <<< 1) p q, BitVec.xor_comm (v <<< 1) p, BitVec.xor_assoc]
theorem T8_ok : (List.range 256).all (fun x => decide (b8 (twiceI x) = T8 (b8 x))) = true := by kernel_rfl
theorem b8_twice {x : Int} (hx : 0 ≤ x ∧ x < 256) : b8 (twiceI x) = T8 (b8 x) := by
  obtain ⟨m, rfl⟩ := Int.eq_ofNat_of_zero_le hx.1
  exact of_decide_eq_true (List.all_eq_true.1 T8_ok m (List.mem_range.2 (by omega)))

/-- A column, mixed: on bits. -/
def C8 (y : Nat → BitVec 8) (i : Nat) : BitVec 8 := (y i ^^^ (((y 0 ^^^ y 1) ^^^ y 2) ^^^ y 3)) ^^^ T8 (y i ^^^ y ((i + 1) % 4))
theorem b8_col (x : Nat → Int) (i : Nat) : b8 (colI x i) = C8 (fun i => b8 (x i)) i := by
  unfold colI C8
  rw [b8_bx, b8_bx, b8_bx, b8_bx, b8_bx, b8_twice (bits_u8 _ _ _), b8_bx]
end Go.Proofs.YtlhhfngkfbbckaaDoor
namespace Go.Proofs.YtlhhfngkfbbckaaDoor
set_option linter.unusedSimpArgs false
set_option linter.unusedVariables false
open Go.RowKit

set_option maxHeartbeats 400000 in
theorem Mul_nat (a b : Nat) (h1 : a < 256) (h3 : b < 256) (w : World) :
    Calls Tryd.prog 76 #[.int .u8 a, .int .u8 b] w fun e w' => e = .returned (.int .u8 (mulN a b)) ∧ w = w' := by
  go_enter Tryd.func76, Tryd.ntmps76
  go_wp2
  go_loopg [5, 8] 8 (fun n p i wr => ∃ m : Nat, m + n = 8 ∧ i = .int .i64 m ∧ p = .int .i64 (mulP a b m) ∧ w = wr)
  case atStart => exact ⟨0, rfl, rfl, rfl, rfl⟩
  case round =>
    obtain ⟨m, hm, rfl, rfl, rfl⟩ := hrel
    have hm' := Lib.hid hm
    clear hm
    by_cases hlt : m < 8
    · have hs := Lib.hid (mul_step a b m h1 hlt)
      have hu : Hid (mulP a b (m + 1) = if b / 2 ^ m % 2 = 1 then mulP a b m ^^^ (a * 2 ^ m) else mulP a b m) := rfl
      by_cases hb : b / 2 ^ m % 2 = 1
      · have ht : (((b : Int) / 2 ^ m).tmod 2 == 1) = true := by rw [bit_test]; simp [hb]
        have hb' := Lib.hid hb
        clear hb
        go_wp2
        go_roundg (gk - 1)
        case measure => have := hm'.out; omega
        case rel =>
          have hm'' := hm'.out
          exact ⟨m + 1, by omega, by go_num, by rw [hs.out, hu.out, if_pos hb'.out], rfl⟩
      · have ht : (((b : Int) / 2 ^ m).tmod 2 == 1) = false := by rw [bit_test]; simp [hb]
        have hb' := Lib.hid hb
        clear hb
        go_wp2
        go_roundg (gk - 1)
        case measure => have := hm'.out; omega
        case rel =>
          have hm'' := hm'.out
          exact ⟨m + 1, by omega, by go_num, by rw [hu.out, if_neg hb'.out], rfl⟩
    · obtain rfl : m = 8 := by have := hm'.out; omega
      have hP := mulP_lt a b h1 8 (by omega)
      have hR : Hid (mulN a b = redP (mulP a b 8) 7 % 256) := rfl
      generalize mulP a b 8 = P at *
      go_wp2
      go_loopg [5, 7] 7 (fun n p i wr => ∃ m j : Nat, m + n = 7 ∧ j + m = 14 ∧ i = .int .i64 j ∧ p = .int .i64 (redP P m) ∧ w = wr)
      case atStart => exact ⟨0, 14, rfl, rfl, rfl, rfl, rfl⟩
      case round =>
        obtain ⟨m, j, hm, hj, rfl, rfl, rfl⟩ := hrel
        have hm' := Lib.hid hm
        have hj' := Lib.hid hj
        have hq := redP_lt P hP m (by omega)
        by_cases hlt : m < 7
        · have hj1 : 8 ≤ j := by omega
          have hj2 : j ≤ 14 := by omega
          clear hm hj
          have hs := Lib.hid (red_step (redP P m) j hq hj1 hj2)
          have hu : Hid (redP P (m + 1) = if redP P m / 2 ^ (14 - m) % 2 = 1 then redP P m ^^^ (283 * 2 ^ (6 - m)) else redP P m) := rfl
          by_cases hb : redP P m / 2 ^ j % 2 = 1
          · have ht : ((((redP P m : Nat) : Int) / 2 ^ j).tmod 2 == 1) = true := by rw [bit_test]; simp [hb]
            have hb' := Lib.hid hb
            clear hb
            go_wp2
            go_roundg (gk - 1)
            case measure => have := hm'.out; omega
            case rel =>
              have hm'' := hm'.out
              have hj'' := hj'.out
              refine ⟨m + 1, j - 1, by omega, by omega, by go_num, ?_, rfl⟩
              rw [hs.out, hu.out, show 14 - m = j from by omega, if_pos hb'.out, show 6 - m = j - 8 from by omega]
          · have ht : ((((redP P m : Nat) : Int) / 2 ^ j).tmod 2 == 1) = false := by rw [bit_test]; simp [hb]
            have hb' := Lib.hid hb
            clear hb
            go_wp2
            go_roundg (gk - 1)
            case measure => have := hm'.out; omega
            case rel =>
              have hm'' := hm'.out
              have hj'' := hj'.out
              refine ⟨m + 1, j - 1, by omega, by omega, by go_num, ?_, rfl⟩
              rw [hu.out, show 14 - m = j from by omega, if_neg hb'.out]
        · obtain rfl : m = 7 := by omega
          obtain rfl : j = 7 := by omega
          clear hm hj
          go_wp2
          go_ret
          refine ⟨?_, rfl⟩
          rw [hR.out]
          exact congrArg (fun z => Ending.returned (.int .u8 z)) (by omega)
end Go.Proofs.YtlhhfngkfbbckaaDoor
namespace Go.Proofs.YtlhhfngkfbbckaaDoor
set_option linter.unusedSimpArgs false
set_option linter.unusedVariables false
open Go.RowKit
def powN (x : Nat) : Nat → Nat
  | 0 => 1
  | n + 1 => mulN (powN x n) x
theorem powN_lt (x n : Nat) : powN x n < 256 := by
  cases n with
  | zero => unfold powN; omega
  | succ n => unfold powN mulN; exact Nat.mod_lt _ (by omega)

theorem powN_succ (x n : Nat) : powN x (n + 1) = mulN (powN x n) x := rfl
theorem powN_zero (x : Nat) : powN x 0 = 1 := rfl
def bitR (y : Int) (m : Nat) : Int := bits .xor .u8 (bits .xor .u8 (bits .xor .u8 (bits .xor .u8 (bits .xor .u8 (99 / 2 ^ m) (y / 2 ^ m)) (y / 2 ^ ((m + 4) % 8))) (y / 2 ^ ((m + 5) % 8))) (y / 2 ^ ((m + 6) % 8))) (y / 2 ^ ((m + 7) % 8))
def boxR (y : Int) : Nat → Int
  | 0 => 0
  | m + 1 => (boxR y m + (bitR y m).tmod 2 * 2 ^ m % 256) % 256
theorem boxR_zero (y : Int) : boxR y 0 = 0 := rfl
theorem boxR_succ (y : Int) (m : Nat) : boxR y (m + 1) = (boxR y m + (bitR y m).tmod 2 * 2 ^ m % 256) % 256 := rfl
def okR (x : Nat) : Bool := decide (boxR (powN x 254) 8 = sboxI x)
theorem okR0 : (List.range 8).all (fun j => okR (0 + j)) = true := by kernel_rfl
theorem okR1 : (List.range 8).all (fun j => okR (8 + j)) = true := by kernel_rfl
theorem okR2 : (List.range 8).all (fun j => okR (16 + j)) = true := by kernel_rfl
theorem okR3 : (List.range 8).all (fun j => okR (24 + j)) = true := by kernel_rfl
theorem okR4 : (List.range 8).all (fun j => okR (32 + j)) = true := by kernel_rfl
theorem okR5 : (List.range 8).all (fun j => okR (40 + j)) = true := by kernel_rfl
theorem okR6 : (List.range 8).all (fun j => okR (48 + j)) = true := by kernel_rfl
theorem okR7 : (List.range 8).all (fun j => okR (56 + j)) = true := by kernel_rfl
theorem okR8 : (List.range 8).all (fun j => okR (64 + j)) = true := by kernel_rfl
theorem okR9 : (List.range 8).all (fun j => okR (72 + j)) = true := by kernel_rfl
theorem okR10 : (List.range 8).all (fun j => okR (80 + j)) = true := by kernel_rfl
theorem okR11 : (List.range 8).all (fun j => okR (88 + j)) = true := by kernel_rfl
theorem okR12 : (List.range 8).all (fun j => okR (96 + j)) = true := by kernel_rfl
theorem okR13 : (List.range 8).all (fun j => okR (104 + j)) = true := by kernel_rfl
theorem okR14 : (List.range 8).all (fun j => okR (112 + j)) = true := by kernel_rfl
theorem okR15 : (List.range 8).all (fun j => okR (120 + j)) = true := by kernel_rfl
theorem okR16 : (List.range 8).all (fun j => okR (128 + j)) = true := by kernel_rfl
theorem okR17 : (List.range 8).all (fun j => okR (136 + j)) = true := by kernel_rfl
theorem okR18 : (List.range 8).all (fun j => okR (144 + j)) = true := by kernel_rfl
theorem okR19 : (List.range 8).all (fun j => okR (152 + j)) = true := by kernel_rfl
theorem okR20 : (List.range 8).all (fun j => okR (160 + j)) = true := by kernel_rfl
theorem okR21 : (List.range 8).all (fun j => okR (168 + j)) = true := by kernel_rfl
theorem okR22 : (List.range 8).all (fun j => okR (176 + j)) = true := by kernel_rfl
theorem okR23 : (List.range 8).all (fun j => okR (184 + j)) = true := by kernel_rfl
theorem okR24 : (List.range 8).all (fun j => okR (192 + j)) = true := by kernel_rfl
theorem okR25 : (List.range 8).all (fun j => okR (200 + j)) = true := by kernel_rfl
theorem okR26 : (List.range 8).all (fun j => okR (208 + j)) = true := by kernel_rfl
theorem okR27 : (List.range 8).all (fun j => okR (216 + j)) = true := by kernel_rfl
theorem okR28 : (List.range 8).all (fun j => okR (224 + j)) = true := by kernel_rfl
theorem okR29 : (List.range 8).all (fun j => okR (232 + j)) = true := by kernel_rfl
theorem okR30 : (List.range 8).all (fun j => okR (240 + j)) = true := by kernel_rfl
theorem okR31 : (List.range 8).all (fun j => okR (248 + j)) = true := by kernel_rfl
theorem okR_all (x : Nat) (hx : x < 256) : boxR (powN x 254) 8 = sboxI x := by
  have key : okR x = true := by
    have hq : x = 8 * (x / 8) + x % 8 := by omega
    have hr : x % 8 < 8 := by omega
    have hd : x / 8 < 32 := by omega
    rw [hq]
    generalize x % 8 = r at *
    generalize x / 8 = q at *
    clear hq hx
    have pick : ∀ b, (List.range 8).all (fun j => okR (b + j)) = true → okR (b + r) = true := fun b h => List.all_eq_true.1 h r (List.mem_range.2 hr)
    match q, hd with
    | 0, _ => exact pick _ okR0
    | 1, _ => exact pick _ okR1
    | 2, _ => exact pick _ okR2
    | 3, _ => exact pick _ okR3
    | 4, _ => exact pick _ okR4
    | 5, _ => exact pick _ okR5
    | 6, _ => exact pick _ okR6
    | 7, _ => exact pick _ okR7
    | 8, _ => exact pick _ okR8
    | 9, _ => exact pick _ okR9
    | 10, _ => exact pick _ okR10
    | 11, _ => exact pick _ okR11
    | 12, _ => exact pick _ okR12
    | 13, _ => exact pick _ okR13
    | 14, _ => exact pick _ okR14
    | 15, _ => exact pick _ okR15
    | 16, _ => exact pick _ okR16
    | 17, _ => exact pick _ okR17
    | 18, _ => exact pick _ okR18
    | 19, _ => exact pick _ okR19
    | 20, _ => exact pick _ okR20
    | 21, _ => exact pick _ okR21
    | 22, _ => exact pick _ okR22
    | 23, _ => exact pick _ okR23
    | 24, _ => exact pick _ okR24
    | 25, _ => exact pick _ okR25
    | 26, _ => exact pick _ okR26
    | 27, _ => exact pick _ okR27
    | 28, _ => exact pick _ okR28
    | 29, _ => exact pick _ okR29
    | 30, _ => exact pick _ okR30
    | 31, _ => exact pick _ okR31
    | n + 32, h => omega
  exact of_decide_eq_true key
end Go.Proofs.YtlhhfngkfbbckaaDoor
namespace Go.Proofs.YtlhhfngkfbbckaaDoor
set_option linter.unusedSimpArgs false
set_option linter.unusedVariables false
open Go.RowKit
attribute [local irreducible] sboxI
attribute [local irreducible] powN mulN boxR
set_option maxRecDepth 100000 in
set_option maxHeartbeats 400000 in
theorem inverse_nat (x : Nat) (hx : x < 256) (w : World) :
    Calls Tryd.prog 84 #[.int .u8 x] w fun e w' => e = .returned (.int .u8 (powN x 254)) ∧ w = w' := by
  go_enter Tryd.func84, Tryd.ntmps84
  go_wp2
  go_loopg [3, 4] 254 (fun n y i wr => ∃ m : Nat, m + n = 254 ∧ i = .int .i64 m ∧ y = .int .u8 (powN x m) ∧ w = wr)
  case atStart => exact ⟨0, rfl, rfl, by rw [powN_zero]; rfl, rfl⟩
  case round =>
    obtain ⟨m, hm, rfl, rfl, rfl⟩ := hrel
    have hm' := Lib.hid hm
    clear hm
    have hl := powN_lt x m
    by_cases hlt : m < 254
    · go_wp2_with (go_at_call 76; (with_reducible refine (Mul_nat _ _ hl hx _).mono ?_); rintro e w' ⟨rfl, rfl⟩)
      go_roundg (gk - 1)
      case measure => have := hm'.out; omega
      case rel =>
        have hm'' := hm'.out
        exact ⟨m + 1, by omega, by go_num, by rw [powN_succ], rfl⟩
    · obtain rfl : m = 254 := by have := hm'.out; omega
      go_wp2
      go_ret
      exact ⟨rfl, rfl⟩

set_option maxHeartbeats 1000000 in
theorem refBox_nat (x : Nat) (hx : x < 256) (w : World) :
    Calls Tryd.prog 75 #[.int .u8 x] w fun e w' => e = .returned (.int .u8 (sboxI x)) ∧ ∃ d, w' = w.drewN d := by
  go_enter Tryd.func75, Tryd.ntmps75
  go_wp2_with (go_at_call 84; (with_reducible refine (inverse_nat _ hx _).mono ?_); rintro e w' ⟨rfl, rfl⟩)
  have hl := powN_lt x 254
  have hR := Lib.hid (okR_all x hx)
  generalize powN x 254 = y at *
  go_loopg [4, 9] 8 (fun n o i wr => ∃ m : Nat, m + n = 8 ∧ i = .int .i64 m ∧ o = .int .u8 (boxR y m) ∧ ∃ d, wr = w.drewN d)
  case atStart => exact ⟨0, rfl, rfl, by rw [boxR_zero], 0, rfl⟩
  case round =>
    obtain ⟨m, hm, rfl, rfl, d, rfl⟩ := hrel
    have hm' := Lib.hid hm
    clear hm
    by_cases hlt : m < 8
    · have hs : Hid (boxR y (m + 1) = (boxR y m + (bitR y m).tmod 2 * 2 ^ m % 256) % 256) := Lib.hid (boxR_succ y m)
      generalize boxR y m = q at *
      go_wp2
      go_quiet (fail)
      go_wp2
      go_roundg (gk - 1)
      case measure => have := hm'.out; omega
      case rel =>
        have hm'' := hm'.out
        exact ⟨m + 1, by omega, by go_num, by rw [hs.out]; rfl, _, rfl⟩
    · obtain rfl : m = 8 := by have := hm'.out; omega
      rw [hR.out]
      go_wp2
      go_ret
      exact ⟨rfl, _, rfl⟩
end Go.Proofs.YtlhhfngkfbbckaaDoor
namespace Go.Proofs.YtlhhfngkfbbckaaDoor
set_option linter.unusedSimpArgs false
set_option linter.unusedVariables false
open Go.RowKit
attribute [local irreducible] sboxI mulN
theorem mul2_ok : (List.range 256).all (fun x => decide (((mulN 2 x : Nat) : Int) = twiceI x)) = true := by kernel_rfl
theorem mul3_ok : (List.range 256).all (fun x => decide (((mulN 3 x : Nat) : Int) = bits .xor .u8 (twiceI x) x)) = true := by kernel_rfl
def mixI (s : Nat → Int) (c r : Nat) : Int := bits .xor .u8 (bits .xor .u8 (bits .xor .u8 (twiceI (s (4 * c + r % 4))) (bits .xor .u8 (twiceI (s (4 * c + (r + 1) % 4))) (s (4 * c + (r + 1) % 4)))) (s (4 * c + (r + 2) % 4))) (s (4 * c + (r + 3) % 4))
theorem mix_col (x s : Nat → Int) (c : Nat) (hx : ∀ i, i < 4 → 0 ≤ x i ∧ x i < 256) (hs : ∀ i, i < 4 → s (4 * c + i) = x i) (r : Nat) (hr : r < 4) : mixI s c r = colI x r := by
  refine b8_inj (bits_u8 _ _ _) (colI_byte _ _) ?_
  rw [b8_col]
  unfold mixI C8
  rw [hs _ (by omega), hs _ (by omega), hs _ (by omega), hs _ (by omega)]
  rw [b8_bx, b8_bx, b8_bx, b8_bx, b8_twice (hx _ (by omega)), b8_twice (hx _ (by omega))]
  simp only [T8_xor]
  have h : r = 0 ∨ r = 1 ∨ r = 2 ∨ r = 3 := by omega
  rcases h with rfl | rfl | rfl | rfl
  all_goals
    simp only [Nat.reduceAdd, Nat.reduceMod]
    generalize T8 (b8 (x 0)) = A
    generalize T8 (b8 (x 1)) = B
    generalize T8 (b8 (x 2)) = C
    generalize T8 (b8 (x 3)) = D
    generalize b8 (x 0) = a
    generalize b8 (x 1) = b
    generalize b8 (x 2) = c
    generalize b8 (x 3) = d
    ext j hj
    simp only [BitVec.getElem_xor]
    generalize a[j] = a
    generalize b[j] = b
    generalize c[j] = c
    generalize d[j] = d
    generalize A[j] = A
    generalize B[j] = B
    generalize C[j] = C
    generalize D[j] = D
    revert a b c d A B C D
    decide +kernel

set_option maxRecDepth 200000 in
set_option maxHeartbeats 1000000 in
theorem refXor_any (f g : Nat → Int) (w : World) :
    Calls Tryd.prog 64 #[.agg (arr .u8 16 f), .agg (arr .u8 16 g)] w fun e w' => e = .returned (.agg (arr .u8 16 (xorI f g))) ∧ Below w.heap.size w w' := by
  go_enter Tryd.func64, Tryd.ntmps64
  go_wp2_with (refine wpList_alloc_arr rfl rfl ZTBlock ?_)
  obtain ⟨h0, h1, h2, hsz, hb⟩ := alloc3 w (.cells (arr .u8 16 f) 41) (.cells (arr .u8 16 g) 41) (.cells (arr .u8 16 fun _ => 0) 41)
  go_loopg [6] 16 (fun n i wr => ∃ m : Nat, m + n = 16 ∧ i = .int .i64 m ∧ wr.heap[w.heap.size]? = some (.cells (arr .u8 16 fun i => if i < m then xorI f g i else f i) 41 (0, 0)) ∧
    wr.heap[w.heap.size + 1]? = some (.cells (arr .u8 16 g) 41 (0, 0)) ∧ wr.heap[w.heap.size + 1 + 1]? = some (.cells (arr .u8 16 fun _ => 0) 41 (0, 0)) ∧ Below w.heap.size w wr)
  case atStart => exact ⟨0, rfl, rfl, by simpa using h0, h1, h2, hb⟩
  case round =>
    obtain ⟨m, hm, rfl, g0, g1, g2, hB⟩ := hrel
    have hm' := Lib.hid hm
    clear h0 h1 h2 hsz hb hm
    by_cases hlt : m < 16
    · have c0 := cell_arr g0 m hlt
      have c1 := cell_arr g1 m hlt
      have fz := free_arr g0 m
      simp only [Nat.lt_irrefl, if_false] at c0
      go_wp2
      refine wp_region_tail 8 (by kernel_rfl) (by kernel_rfl) ?_
      (simp only [List.take_succ_cons, List.take_zero, List.drop_succ_cons, List.drop_zero])
      repeat (refine wpStill_step (fun K hK => ?_); go_simp; (try (simp only [↓IntWalk.iteOmega]; go_simp)); (try go_bits); refine hK _ ?_; clear hK K)
      refine wpStill_nil ?_
      go_wp2
      go_roundg (gk - 1)
      case measure => have := hm'.out; omega
      case rel =>
        have hm'' := hm'.out
        exact ⟨m + 1, by omega, by go_num, blk_congr (set_arr g0 m _) (fun i _ => fill_step f (xorI f g) m i), keep_arr g1 _ _ (by omega), keep_arr g2 _ _ (by omega), (hB.setCell (Nat.le_refl _) _).drew⟩
    · obtain rfl : m = 16 := by have := hm'.out; omega
      have g0' := blk_congr (f' := xorI f g) g0 (fun i hi => if_pos hi)
      clear g0
      go_wp2_with (first | (refine wpList_load_arr rfl rfl rfl RTBlock g0' ?_) | (refine wpList_store_arr rfl rfl rfl rfl RTBlock g2 ?_))
      exact bodyPost_ret (results_arr rfl rfl RTBlock (row_self g2)) rfl ⟨rfl, row_below hB (by omega) _⟩


theorem refBox_any (x : Int) (h0 : 0 ≤ x) (h1 : x < 256) (w : World) :
    Calls Tryd.prog 75 #[.int .u8 x] w fun e w' => e = .returned (.int .u8 (sboxI x.toNat)) ∧ Below w.heap.size w w' := by
  obtain ⟨n, rfl⟩ := Int.eq_ofNat_of_zero_le h0
  refine (refBox_nat n (by omega) w).mono ?_
  rintro e w' ⟨rfl, d, rfl⟩
  exact ⟨rfl, Go.below_drewN (Below.refl _ _) d⟩
theorem Mul_two' (x : Int) (hx : 0 ≤ x ∧ x < 256) (w : World) :
    Calls Tryd.prog 76 #[.int .u8 2, .int .u8 x] w fun e w' => e = .returned (.int .u8 (twiceI x)) ∧ w = w' := by
  obtain ⟨n, rfl⟩ := Int.eq_ofNat_of_zero_le hx.1
  have := Mul_nat 2 n (by omega) (by omega) w
  rw [of_decide_eq_true (List.all_eq_true.1 mul2_ok n (List.mem_range.2 (by omega)))] at this
  exact this
theorem Mul_three (x : Int) (hx : 0 ≤ x ∧ x < 256) (w : World) :
    Calls Tryd.prog 76 #[.int .u8 3, .int .u8 x] w fun e w' => e = .returned (.int .u8 (bits .xor .u8 (twiceI x) x)) ∧ w = w' := by
  obtain ⟨n, rfl⟩ := Int.eq_ofNat_of_zero_le hx.1
  have := Mul_nat 3 n (by omega) (by omega) w
  rw [of_decide_eq_true (List.all_eq_true.1 mul3_ok n (List.mem_range.2 (by omega)))] at this
  exact this

set_option maxHeartbeats 1000000 in
theorem at_any (s : Nat → Int) (c r : Nat) (hc : c < 4) (hr : r < 8) (w : World) :
    Calls Tryd.prog 77 #[.agg (arr .u8 16 s), .int .i64 c, .int .i64 r] w fun e w' => e = .returned (.int .u8 (s (4 * c + r % 4))) ∧ Below w.heap.size w w' := by
  go_enter Tryd.func77, Tryd.ntmps77
  obtain ⟨g0, hz, hb0⟩ := alloc1 w (.cells (arr .u8 16 s) 41)
  have c0 := cell_arr g0 (4 * c + r % 4) (by omega)
  go_wp2
  go_ret
  exact ⟨rfl, hb0⟩

def bturnI (s : Nat → Int) (q : Nat) : Int := rowI s (q / 4) (q % 4)
set_option maxHeartbeats 1000000 in
theorem turned_any (s : Nat → Int) (hs : ∀ i, i < 16 → 0 ≤ s i ∧ s i < 256) (w : World) :
    Calls Tryd.prog 65 #[.agg (arr .u8 16 s)] w fun e w' => e = .returned (.agg (arr .u8 16 (bturnI s))) ∧ Below w.heap.size w w' := by
  go_enter Tryd.func65, Tryd.ntmps65
  go_wp2_with (refine wpList_alloc_arr rfl rfl ZTBlock ?_)
  obtain ⟨h0, h1, h2, hsz, hb⟩ := alloc3 w (.cells (arr .u8 16 s) 41) (.cells (arr .u8 16 fun _ => 0) 41) (.cells (arr .u8 16 fun _ => 0) 41)
  have hs' := Lib.hid hs
  clear hs
  go_loopg [6] 4 (fun n i wr => ∃ m : Nat, m + n = 4 ∧ i = .int .i64 m ∧ wr.heap[w.heap.size]? = some (.cells (arr .u8 16 s) 41 (0, 0)) ∧
    wr.heap[w.heap.size + 1]? = some (.cells (arr .u8 16 fun _ => 0) 41 (0, 0)) ∧ wr.heap[w.heap.size + 1 + 1]? = some (.cells (arr .u8 16 fun i => if i < 4 * m then bturnI s i else 0) 41 (0, 0)) ∧ Below w.heap.size w wr)
  case atStart => exact ⟨0, rfl, rfl, h0, h1, blk_congr h2 (fun i _ => (if_neg (by omega)).symm), hb⟩
  case round =>
    obtain ⟨m, hm, rfl, g0, g1, g2, hB⟩ := hrel
    obtain ⟨go1, rfl⟩ : ∃ x, x = gk := ⟨_, rfl⟩
    have hm' := Lib.hid hm
    clear h0 h1 h2 hsz hb hm
    by_cases hlt : m < 4
    · go_upto_region 5 with (fail)
      (try simp only [Act.put, List.setIfInBounds_toArray, List.set_cons_zero, List.set_cons_succ])
      rw [show decide ((m : Int) < 4) = true from decide_eq_true (by omega)]
      go_wp2
      go_loopg [9] 4 (fun n i wr => ∃ r : Nat, r + n = 4 ∧ i = .int .i64 r ∧ wr.heap[w.heap.size]? = some (.cells (arr .u8 16 s) 41 (0, 0)) ∧
        wr.heap[w.heap.size + 1]? = some (.cells (arr .u8 16 fun _ => 0) 41 (0, 0)) ∧ wr.heap[w.heap.size + 1 + 1]? = some (.cells (arr .u8 16 fun i => if i < 4 * m + r then bturnI s i else 0) 41 (0, 0)) ∧ Below w.heap.size w wr)
      case atStart => exact ⟨0, rfl, rfl, g0, g1, g2, hB⟩
      case round =>
        clear g0 g1 g2 hB
        obtain ⟨r, hr, rfl, g0, g1, g2, hB⟩ := hrel
        have hr' := Lib.hid hr
        clear hr
        by_cases hlr : r < 4
        · have hsb := hs'.out (4 * ((m + r) % 4) + r) (by omega)
          have c0 := cell_arr g0 (4 * ((m + r) % 4) + r) (by omega)
          go_wp2_with (fail)
          refine (refBox_any _ (by omega) (by omega) _).mono ?_
          rintro e w4 ⟨rfl, b4⟩
          have e0 := keep_below b4 (lt_of_block g0) g0
          have e1 := keep_below b4 (lt_of_block g1) g1
          have e2 := keep_below b4 (lt_of_block g2) g2
          have hBq := hB.trans (b4.mono hB.size)
          clear b4 g0 g1 g2 hB c0
          have c2 := cell_arr e2 (4 * m + r) (by omega)
          have fz := free_arr e2 (4 * m + r)
          simp only [Nat.lt_irrefl, if_false] at c2
          go_wp2
          go_roundg (gk - 1)
          case measure => have := hr'.out; omega
          case rel =>
            have hr'' := hr'.out
            refine ⟨r + 1, by omega, by go_num, keep_arr e0 _ _ (by omega), keep_arr e1 _ _ (by omega), blk_congr (set_arr e2 _ _) (fun i _ => ?_), hBq.setCell (by show w.heap.size ≤ w.heap.size + 1 + 1; omega) _⟩
            have := fill_zero (bturnI s) (4 * m + r) i
            rw [show bturnI s (4 * m + r) = sboxI (s (4 * ((m + r) % 4) + r)).toNat from by unfold bturnI rowI; rw [show (4 * m + r) / 4 = m from by omega, show (4 * m + r) % 4 = r from by omega]] at this
            exact this
        · obtain rfl : r = 4 := by have := hr'.out; omega
          go_wp2
          go_roundg (go1 - 1)
          case measure => have := hm'.out; omega
          case rel =>
            have hm'' := hm'.out
            exact ⟨m + 1, by omega, by go_num, g0, g1, blk_congr g2 (fun i _ => by rw [show 4 * (m + 1) = 4 * m + 4 from by omega]), hB⟩
    · obtain rfl : m = 4 := by have := hm'.out; omega
      have g2' := blk_congr (f' := bturnI s) g2 (fun i hi => if_pos (by omega))
      clear g2
      go_wp2_with (first | (refine wpList_load_arr rfl rfl rfl RTBlock g2' ?_) | (refine wpList_store_arr rfl rfl rfl rfl RTBlock g1 ?_))
      exact bodyPost_ret (results_arr rfl rfl RTBlock (row_self g1)) rfl ⟨rfl, row_below hB (by omega) _⟩
end Go.Proofs.YtlhhfngkfbbckaaDoor
namespace Go.Proofs.YtlhhfngkfbbckaaDoor
set_option linter.unusedSimpArgs false
set_option linter.unusedVariables false
open Go.RowKit
attribute [local irreducible] sboxI mulN
def bmixI (s : Nat → Int) (q : Nat) : Int := mixI s (q / 4) (q % 4)
set_option maxHeartbeats 1000000 in
theorem mixed_any (s : Nat → Int) (hs : ∀ i, i < 16 → 0 ≤ s i ∧ s i < 256) (w : World) :
    Calls Tryd.prog 66 #[.agg (arr .u8 16 s)] w fun e w' => e = .returned (.agg (arr .u8 16 (bmixI s))) ∧ Below w.heap.size w w' := by
  go_enter Tryd.func66, Tryd.ntmps66
  go_wp2_with (refine wpList_alloc_arr rfl rfl ZTBlock ?_)
  obtain ⟨h0, h1, h2, hsz, hb⟩ := alloc3 w (.cells (arr .u8 16 s) 41) (.cells (arr .u8 16 fun _ => 0) 41) (.cells (arr .u8 16 fun _ => 0) 41)
  have hs' := Lib.hid hs
  clear hs
  go_loopg [6] 4 (fun n i wr => ∃ m : Nat, m + n = 4 ∧ i = .int .i64 m ∧ wr.heap[w.heap.size]? = some (.cells (arr .u8 16 s) 41 (0, 0)) ∧
    wr.heap[w.heap.size + 1]? = some (.cells (arr .u8 16 fun _ => 0) 41 (0, 0)) ∧ wr.heap[w.heap.size + 1 + 1]? = some (.cells (arr .u8 16 fun i => if i < 4 * m then bmixI s i else 0) 41 (0, 0)) ∧ Below w.heap.size w wr)
  case atStart => exact ⟨0, rfl, rfl, h0, h1, blk_congr h2 (fun i _ => (if_neg (by omega)).symm), hb⟩
  case round =>
    obtain ⟨m, hm, rfl, g0, g1, g2, hB⟩ := hrel
    obtain ⟨go1, rfl⟩ : ∃ x, x = gk := ⟨_, rfl⟩
    have hm' := Lib.hid hm
    clear h0 h1 h2 hsz hb hm
    by_cases hlt : m < 4
    · go_upto_region 5 with (fail)
      (try simp only [Act.put, List.setIfInBounds_toArray, List.set_cons_zero, List.set_cons_succ])
      rw [show decide ((m : Int) < 4) = true from decide_eq_true (by omega)]
      go_wp2
      go_loopg [9] 4 (fun n i wr => ∃ r : Nat, r + n = 4 ∧ i = .int .i64 r ∧ wr.heap[w.heap.size]? = some (.cells (arr .u8 16 s) 41 (0, 0)) ∧
        wr.heap[w.heap.size + 1]? = some (.cells (arr .u8 16 fun _ => 0) 41 (0, 0)) ∧ wr.heap[w.heap.size + 1 + 1]? = some (.cells (arr .u8 16 fun i => if i < 4 * m + r then bmixI s i else 0) 41 (0, 0)) ∧ Below w.heap.size w wr)
      case atStart => exact ⟨0, rfl, rfl, g0, g1, g2, hB⟩
      case round =>
        clear g0 g1 g2 hB
        obtain ⟨r, hr, rfl, g0, g1, g2, hB⟩ := hrel
        have hr' := Lib.hid hr
        clear hr
        by_cases hlr : r < 4
        · have hsb := hs'.out (4 * m + r % 4) (by omega)
          have hsc := hs'.out (4 * m + (r + 1) % 4) (by omega)
          have hl0 := lt_of_block g0
          have hl1 := lt_of_block g1
          have hl2 := lt_of_block g2
          go_upto_region 8 with (fail)
          (try simp only [Act.put, List.setIfInBounds_toArray, List.set_cons_zero, List.set_cons_succ])
          refine wp_region_can wr.heap.size 29 [(0, false), (1, false), (2, false), (3, false), (4, false), (5, false), (6, false), (9, false), (10, false), (11, false), (12, false), (16, false), (17, false), (18, false), (19, false), (22, false), (23, false), (24, false), (25, false), (7, true), (8, true), (13, true), (14, true), (15, false), (20, true), (21, false), (26, true), (27, false), (28, false)] (by kernel_rfl) (by kernel_rfl) ?_
          (simp only [canOps, List.getElem?_cons_zero, List.getElem?_cons_succ, List.drop_succ_cons, List.drop_zero])
          iterate 4 (first | (refine wpCan_move rfl rfl (fun _ _ _ _ h => h) ?_; (simp only [Act.put, Act.eval, Array.getD_eq_getD_getElem?, List.getElem?_toArray, List.getElem?_cons_zero, List.getElem?_cons_succ, Option.getD_some, List.setIfInBounds_toArray, List.set_cons_zero, List.set_cons_succ])) | (refine wpCan_assign rfl rfl (fun _ _ _ _ h => h) ?_; (simp only [Act.put, Act.eval, Array.getD_eq_getD_getElem?, List.getElem?_toArray, List.getElem?_cons_zero, List.getElem?_cons_succ, Option.getD_some, List.setIfInBounds_toArray, List.set_cons_zero, List.set_cons_succ])) | (refine wpCan_nilCheck rfl rfl rfl (fun _ _ _ _ h => h) ?_; (simp only [Act.put, List.setIfInBounds_toArray, List.set_cons_zero, List.set_cons_succ])) | (refine wpCan_q rfl rfl (fun _ _ _ _ h => h) (by first | exact .bin rfl rfl rfl | exact .indexAddr rfl | exact .un rfl | exact .extract rfl | exact .index rfl | exact .field rfl | exact .slice rfl) (fun K hK => ?_); go_simp; (try (simp only [↓IntWalk.iteOmega]; go_simp)); (try go_bits); refine hK _ ?_; clear hK K))
          refine wpCan_load_arr rfl rfl rfl (fun _ _ _ _ h => h) RTBlock hl0 g0 ?_
          (try simp only [Act.put, List.setIfInBounds_toArray, List.set_cons_zero, List.set_cons_succ])
          iterate 2 (first | (refine wpCan_move rfl rfl (fun _ _ _ _ h => h) ?_; (simp only [Act.put, Act.eval, Array.getD_eq_getD_getElem?, List.getElem?_toArray, List.getElem?_cons_zero, List.getElem?_cons_succ, Option.getD_some, List.setIfInBounds_toArray, List.set_cons_zero, List.set_cons_succ])) | (refine wpCan_assign rfl rfl (fun _ _ _ _ h => h) ?_; (simp only [Act.put, Act.eval, Array.getD_eq_getD_getElem?, List.getElem?_toArray, List.getElem?_cons_zero, List.getElem?_cons_succ, Option.getD_some, List.setIfInBounds_toArray, List.set_cons_zero, List.set_cons_succ])) | (refine wpCan_nilCheck rfl rfl rfl (fun _ _ _ _ h => h) ?_; (simp only [Act.put, List.setIfInBounds_toArray, List.set_cons_zero, List.set_cons_succ])) | (refine wpCan_q rfl rfl (fun _ _ _ _ h => h) (by first | exact .bin rfl rfl rfl | exact .indexAddr rfl | exact .un rfl | exact .extract rfl | exact .index rfl | exact .field rfl | exact .slice rfl) (fun K hK => ?_); go_simp; (try (simp only [↓IntWalk.iteOmega]; go_simp)); (try go_bits); refine hK _ ?_; clear hK K))
          refine wpCan_load_arr rfl rfl rfl (fun _ _ _ _ h => h) RTBlock hl0 g0 ?_
          (try simp only [Act.put, List.setIfInBounds_toArray, List.set_cons_zero, List.set_cons_succ])
          iterate 3 (first | (refine wpCan_move rfl rfl (fun _ _ _ _ h => h) ?_; (simp only [Act.put, Act.eval, Array.getD_eq_getD_getElem?, List.getElem?_toArray, List.getElem?_cons_zero, List.getElem?_cons_succ, Option.getD_some, List.setIfInBounds_toArray, List.set_cons_zero, List.set_cons_succ])) | (refine wpCan_assign rfl rfl (fun _ _ _ _ h => h) ?_; (simp only [Act.put, Act.eval, Array.getD_eq_getD_getElem?, List.getElem?_toArray, List.getElem?_cons_zero, List.getElem?_cons_succ, Option.getD_some, List.setIfInBounds_toArray, List.set_cons_zero, List.set_cons_succ])) | (refine wpCan_nilCheck rfl rfl rfl (fun _ _ _ _ h => h) ?_; (simp only [Act.put, List.setIfInBounds_toArray, List.set_cons_zero, List.set_cons_succ])) | (refine wpCan_q rfl rfl (fun _ _ _ _ h => h) (by first | exact .bin rfl rfl rfl | exact .indexAddr rfl | exact .un rfl | exact .extract rfl | exact .index rfl | exact .field rfl | exact .slice rfl) (fun K hK => ?_); go_simp; (try (simp only [↓IntWalk.iteOmega]; go_simp)); (try go_bits); refine hK _ ?_; clear hK K))
          refine wpCan_load_arr rfl rfl rfl (fun _ _ _ _ h => h) RTBlock hl0 g0 ?_
          (try simp only [Act.put, List.setIfInBounds_toArray, List.set_cons_zero, List.set_cons_succ])
          iterate 3 (first | (refine wpCan_move rfl rfl (fun _ _ _ _ h => h) ?_; (simp only [Act.put, Act.eval, Array.getD_eq_getD_getElem?, List.getElem?_toArray, List.getElem?_cons_zero, List.getElem?_cons_succ, Option.getD_some, List.setIfInBounds_toArray, List.set_cons_zero, List.set_cons_succ])) | (refine wpCan_assign rfl rfl (fun _ _ _ _ h => h) ?_; (simp only [Act.put, Act.eval, Array.getD_eq_getD_getElem?, List.getElem?_toArray, List.getElem?_cons_zero, List.getElem?_cons_succ, Option.getD_some, List.setIfInBounds_toArray, List.set_cons_zero, List.set_cons_succ])) | (refine wpCan_nilCheck rfl rfl rfl (fun _ _ _ _ h => h) ?_; (simp only [Act.put, List.setIfInBounds_toArray, List.set_cons_zero, List.set_cons_succ])) | (refine wpCan_q rfl rfl (fun _ _ _ _ h => h) (by first | exact .bin rfl rfl rfl | exact .indexAddr rfl | exact .un rfl | exact .extract rfl | exact .index rfl | exact .field rfl | exact .slice rfl) (fun K hK => ?_); go_simp; (try (simp only [↓IntWalk.iteOmega]; go_simp)); (try go_bits); refine hK _ ?_; clear hK K))
          refine wpCan_load_arr rfl rfl rfl (fun _ _ _ _ h => h) RTBlock hl0 g0 ?_
          (try simp only [Act.put, List.setIfInBounds_toArray, List.set_cons_zero, List.set_cons_succ])
          iterate 3 (first | (refine wpCan_move rfl rfl (fun _ _ _ _ h => h) ?_; (simp only [Act.put, Act.eval, Array.getD_eq_getD_getElem?, List.getElem?_toArray, List.getElem?_cons_zero, List.getElem?_cons_succ, Option.getD_some, List.setIfInBounds_toArray, List.set_cons_zero, List.set_cons_succ])) | (refine wpCan_assign rfl rfl (fun _ _ _ _ h => h) ?_; (simp only [Act.put, Act.eval, Array.getD_eq_getD_getElem?, List.getElem?_toArray, List.getElem?_cons_zero, List.getElem?_cons_succ, Option.getD_some, List.setIfInBounds_toArray, List.set_cons_zero, List.set_cons_succ])) | (refine wpCan_nilCheck rfl rfl rfl (fun _ _ _ _ h => h) ?_; (simp only [Act.put, List.setIfInBounds_toArray, List.set_cons_zero, List.set_cons_succ])) | (refine wpCan_q rfl rfl (fun _ _ _ _ h => h) (by first | exact .bin rfl rfl rfl | exact .indexAddr rfl | exact .un rfl | exact .extract rfl | exact .index rfl | exact .field rfl | exact .slice rfl) (fun K hK => ?_); go_simp; (try (simp only [↓IntWalk.iteOmega]; go_simp)); (try go_bits); refine hK _ ?_; clear hK K))
          refine wpCan_e rfl (fun K hK => ?_)
          go_simp
          refine (at_any s m r hlt (by omega) _).mono ?_
          rintro e w4 ⟨rfl, b4⟩
          refine hK _ _ (Keep.of_below b4 (Nat.le_refl _)) ?_
          clear hK K
          (try simp only [Act.put, List.setIfInBounds_toArray, List.set_cons_zero, List.set_cons_succ])
          refine wpCan_e rfl (fun K hK => ?_)
          go_simp
          refine (Mul_two' _ hsb _).mono ?_
          rintro e w5 ⟨rfl, rfl⟩
          refine hK _ _ (Keep.refl _ _) ?_
          clear hK K
          (try simp only [Act.put, List.setIfInBounds_toArray, List.set_cons_zero, List.set_cons_succ])
          refine wpCan_e rfl (fun K hK => ?_)
          go_simp
          refine (at_any s m (r + 1) hlt (by omega) _).mono ?_
          rintro e w6 ⟨rfl, b6⟩
          refine hK _ _ (Keep.of_below b6 b4.size) ?_
          clear hK K
          (try simp only [Act.put, List.setIfInBounds_toArray, List.set_cons_zero, List.set_cons_succ])
          refine wpCan_e rfl (fun K hK => ?_)
          go_simp
          refine (Mul_three _ hsc _).mono ?_
          rintro e w7 ⟨rfl, rfl⟩
          refine hK _ _ (Keep.refl _ _) ?_
          clear hK K
          (try simp only [Act.put, List.setIfInBounds_toArray, List.set_cons_zero, List.set_cons_succ])
          (first | (refine wpCan_move rfl rfl (fun _ _ _ _ h => h) ?_; (simp only [Act.put, Act.eval, Array.getD_eq_getD_getElem?, List.getElem?_toArray, List.getElem?_cons_zero, List.getElem?_cons_succ, Option.getD_some, List.setIfInBounds_toArray, List.set_cons_zero, List.set_cons_succ])) | (refine wpCan_assign rfl rfl (fun _ _ _ _ h => h) ?_; (simp only [Act.put, Act.eval, Array.getD_eq_getD_getElem?, List.getElem?_toArray, List.getElem?_cons_zero, List.getElem?_cons_succ, Option.getD_some, List.setIfInBounds_toArray, List.set_cons_zero, List.set_cons_succ])) | (refine wpCan_nilCheck rfl rfl rfl (fun _ _ _ _ h => h) ?_; (simp only [Act.put, List.setIfInBounds_toArray, List.set_cons_zero, List.set_cons_succ])) | (refine wpCan_q rfl rfl (fun _ _ _ _ h => h) (by first | exact .bin rfl rfl rfl | exact .indexAddr rfl | exact .un rfl | exact .extract rfl | exact .index rfl | exact .field rfl | exact .slice rfl) (fun K hK => ?_); go_simp; (try (simp only [↓IntWalk.iteOmega]; go_simp)); (try go_bits); refine hK _ ?_; clear hK K))
          refine wpCan_e rfl (fun K hK => ?_)
          go_simp
          refine (at_any s m (r + 2) hlt (by omega) _).mono ?_
          rintro e w8 ⟨rfl, b8w⟩
          refine hK _ _ (Keep.of_below b8w (Nat.le_trans b4.size b6.size)) ?_
          clear hK K
          (try simp only [Act.put, List.setIfInBounds_toArray, List.set_cons_zero, List.set_cons_succ])
          (first | (refine wpCan_move rfl rfl (fun _ _ _ _ h => h) ?_; (simp only [Act.put, Act.eval, Array.getD_eq_getD_getElem?, List.getElem?_toArray, List.getElem?_cons_zero, List.getElem?_cons_succ, Option.getD_some, List.setIfInBounds_toArray, List.set_cons_zero, List.set_cons_succ])) | (refine wpCan_assign rfl rfl (fun _ _ _ _ h => h) ?_; (simp only [Act.put, Act.eval, Array.getD_eq_getD_getElem?, List.getElem?_toArray, List.getElem?_cons_zero, List.getElem?_cons_succ, Option.getD_some, List.setIfInBounds_toArray, List.set_cons_zero, List.set_cons_succ])) | (refine wpCan_nilCheck rfl rfl rfl (fun _ _ _ _ h => h) ?_; (simp only [Act.put, List.setIfInBounds_toArray, List.set_cons_zero, List.set_cons_succ])) | (refine wpCan_q rfl rfl (fun _ _ _ _ h => h) (by first | exact .bin rfl rfl rfl | exact .indexAddr rfl | exact .un rfl | exact .extract rfl | exact .index rfl | exact .field rfl | exact .slice rfl) (fun K hK => ?_); go_simp; (try (simp only [↓IntWalk.iteOmega]; go_simp)); (try go_bits); refine hK _ ?_; clear hK K))
          refine wpCan_e rfl (fun K hK => ?_)
          go_simp
          refine (at_any s m (r + 3) hlt (by omega) _).mono ?_
          rintro e w9 ⟨rfl, b9⟩
          refine hK _ _ (Keep.of_below b9 (Nat.le_trans b4.size (Nat.le_trans b6.size b8w.size))) ?_
          clear hK K
          (try simp only [Act.put, List.setIfInBounds_toArray, List.set_cons_zero, List.set_cons_succ])
          iterate 2 (first | (refine wpCan_move rfl rfl (fun _ _ _ _ h => h) ?_; (simp only [Act.put, Act.eval, Array.getD_eq_getD_getElem?, List.getElem?_toArray, List.getElem?_cons_zero, List.getElem?_cons_succ, Option.getD_some, List.setIfInBounds_toArray, List.set_cons_zero, List.set_cons_succ])) | (refine wpCan_assign rfl rfl (fun _ _ _ _ h => h) ?_; (simp only [Act.put, Act.eval, Array.getD_eq_getD_getElem?, List.getElem?_toArray, List.getElem?_cons_zero, List.getElem?_cons_succ, Option.getD_some, List.setIfInBounds_toArray, List.set_cons_zero, List.set_cons_succ])) | (refine wpCan_nilCheck rfl rfl rfl (fun _ _ _ _ h => h) ?_; (simp only [Act.put, List.setIfInBounds_toArray, List.set_cons_zero, List.set_cons_succ])) | (refine wpCan_q rfl rfl (fun _ _ _ _ h => h) (by first | exact .bin rfl rfl rfl | exact .indexAddr rfl | exact .un rfl | exact .extract rfl | exact .index rfl | exact .field rfl | exact .slice rfl) (fun K hK => ?_); go_simp; (try (simp only [↓IntWalk.iteOmega]; go_simp)); (try go_bits); refine hK _ ?_; clear hK K))
          refine wpCan_nil ?_
          have b5 := b4.trans (b6.mono b4.size)
          have b7 := b5.trans (b8w.mono b5.size)
          have b10 := b7.trans (b9.mono b7.size)
          have e0 := keep_below (w := wr.drew) b10 hl0 g0
          have e1 := keep_below (w := wr.drew) b10 hl1 g1
          have e2 := keep_below (w := wr.drew) b10 hl2 g2
          have hBq := hB.drew.trans (b10.mono hB.size)
          clear b4 b5 b6 b7 b8w b9 b10 g0 g1 g2 hB hsb hsc hl0 hl1 hl2
          have c2 := cell_arr e2 (4 * m + r) (by omega)
          have fz := free_arr e2 (4 * m + r)
          simp only [Nat.lt_irrefl, if_false] at c2
          go_wp2
          go_roundg (gk - 1)
          case measure => have := hr'.out; omega
          case rel =>
            have hr'' := hr'.out
            refine ⟨r + 1, by omega, by go_num, keep_arr e0 _ _ (by omega), keep_arr e1 _ _ (by omega), blk_congr (set_arr e2 _ _) (fun i _ => ?_), hBq.setCell (by show w.heap.size ≤ w.heap.size + 1 + 1; omega) _⟩
            have := fill_zero (bmixI s) (4 * m + r) i
            rw [show bmixI s (4 * m + r) = mixI s m r from by unfold bmixI; rw [show (4 * m + r) / 4 = m from by omega, show (4 * m + r) % 4 = r from by omega]] at this
            exact this
        · obtain rfl : r = 4 := by have := hr'.out; omega
          go_wp2
          go_roundg (go1 - 1)
          case measure => have := hm'.out; omega
          case rel =>
            have hm'' := hm'.out
            exact ⟨m + 1, by omega, by go_num, g0, g1, blk_congr g2 (fun i _ => by rw [show 4 * (m + 1) = 4 * m + 4 from by omega]), hB⟩
    · obtain rfl : m = 4 := by have := hm'.out; omega
      have g2' := blk_congr (f' := bmixI s) g2 (fun i hi => if_pos (by omega))
      clear g2
      go_wp2_with (first | (refine wpList_load_arr rfl rfl rfl RTBlock g2' ?_) | (refine wpList_store_arr rfl rfl rfl rfl RTBlock g1 ?_))
      exact bodyPost_ret (results_arr rfl rfl RTBlock (row_self g1)) rfl ⟨rfl, row_below hB (by omega) _⟩
end Go.Proofs.YtlhhfngkfbbckaaDoor
namespace Go.Proofs.YtlhhfngkfbbckaaDoor
set_option linter.unusedSimpArgs false
set_option linter.unusedVariables false
open Go.RowKit
section
variable {P : Program} {ops : Array Oper} {rest : List Oper} {o : Oper} {a : Act} {w : World} {Q : Exit → Act → World → Prop}
theorem arr_extract (k : IntKind) (N : Nat) (f : Nat → Int) (off n : Nat) (h : off + n ≤ N) : (arr k N f).extract off (off + n) = arr k n fun i => f (off + i) := by
  apply Array.ext_getElem?
  intro j
  by_cases hj : j < n
  · rw [arr_get _ _ _ _ hj, Array.getElem?_extract, if_pos (by rw [arr_size]; omega), arr_get _ _ _ _ (by omega)]
  · rw [Array.getElem?_eq_none (by simp [arr_size]; omega), Array.getElem?_eq_none (by rw [arr_size]; omega)]
theorem run_isAgg_row {e n : Nat} (hT : RowT P e n) : (isAgg e).run P w = .ok true w := by
  obtain ⟨d, hu, hd, _⟩ := hT
  unfold isAgg
  rw [Sem.run_bind, run_underlying hu w]
  cases d <;> simp_all
/-- A row, out of a row of rows. -/
theorem run_op_index_row {t e n N len : Nat} {k : IntKind} {f : Nat → Int} {x y : Operand} {i : Int} (ho : o.op = .index t x y) (ht : P.underlying t = some (.array len e)) (hT : RowT P e n) (hx : a.eval x = .agg (arr k N f)) (hy : a.eval y = .int .i64 i) (h0 : 0 ≤ i) (hi : i < len) (hle : i.toNat * n + n ≤ N) :
    (execOp a.eval o).run P w = .ok (.value (.agg (arr k n fun j => f (i.toNat * n + j)))) w := by
  have hs := hT
  obtain ⟨_, _, _, hs⟩ := hs
  unfold execOp
  simp only [ho, hx, hy]
  unfold Instr.index
  have h1 : 0 ≤ i ∧ i < (len : Int) := ⟨h0, hi⟩
  simp [Sem.run_bind, run_underlying ht, asIntOf, h1, run_sizeOf_of hs, part, run_isAgg_row hT, arr_extract k N f _ n hle]
/-- A cell, out of a row. -/
theorem run_op_index_cell {t e N len : Nat} {k : IntKind} {d : TypeDesc} {f : Nat → Int} {x y : Operand} {i : Int} (ho : o.op = .index t x y) (ht : P.underlying t = some (.array len e)) (he : P.underlying e = some d) (hd : (match d with | .struct _ | .array _ _ => true | _ => false) = false) (hs : (P.info? e).map (·.size) = some 1) (hx : a.eval x = .agg (arr k N f)) (hy : a.eval y = .int .i64 i) (h0 : 0 ≤ i) (hi : i < len) (hle : i.toNat < N) :
    (execOp a.eval o).run P w = .ok (.value (.int k (f i.toNat))) w := by
  have hg : (isAgg e).run P w = .ok false w := by
    unfold isAgg
    rw [Sem.run_bind, run_underlying he w]
    cases d <;> simp_all
  unfold execOp
  simp only [ho, hx, hy]
  unfold Instr.index
  have h1 : 0 ≤ i ∧ i < (len : Int) := ⟨h0, hi⟩
  simp [Sem.run_bind, run_underlying ht, asIntOf, h1, run_sizeOf_of hs, part, hg, arr_get _ _ _ _ hle]
theorem wpList_index_row {t e n N len : Nat} {k : IntKind} {f : Nat → Int} {x y : Operand} {i : Int} (hgd : o.guard = none) (ho : o.op = .index t x y) (ht : P.underlying t = some (.array len e)) (hT : RowT P e n) (hx : a.eval x = .agg (arr k N f)) (hy : a.eval y = .int .i64 i) (h0 : 0 ≤ i) (hi : i < len) (hle : i.toNat * n + n ≤ N)
    (f' : Nat → Int) (hf : ∀ j, j < n → f (i.toNat * n + j) = f' j) (h : wpList P ops Q rest (a.put o.dst (.agg (arr k n f'))) w) : wpList P ops Q (o :: rest) a w :=
  wpList_val hgd (run_op_index_row ho ht hT hx hy h0 hi hle) (by rw [arr_ext hf]; exact h)
theorem wpList_index_cell {t e N len : Nat} {k : IntKind} {d : TypeDesc} {f : Nat → Int} {x y : Operand} {i : Int} (hgd : o.guard = none) (ho : o.op = .index t x y) (ht : P.underlying t = some (.array len e)) (he : P.underlying e = some d) (hd : (match d with | .struct _ | .array _ _ => true | _ => false) = false) (hs : (P.info? e).map (·.size) = some 1) (hx : a.eval x = .agg (arr k N f)) (hy : a.eval y = .int .i64 i) (h0 : 0 ≤ i) (hi : i < len) (hle : i.toNat < N)
    (h : wpList P ops Q rest (a.put o.dst (.int k (f i.toNat))) w) : wpList P ops Q (o :: rest) a w :=
  wpList_val hgd (run_op_index_cell ho ht he hd hs hx hy h0 hi hle) h
theorem run_op_build {ty : TypeId} {parts : Array (Nat × Operand)} {c : Array Value} {l : List (Nat × Value)} (ho : o.op = .build ty parts) (hl : (parts.map fun (i, x) => (i, a.eval x)).toList = l) (hb : P.built ty l = some c) : (execOp a.eval o).run P w = .ok (.value (.agg c)) w := by
  subst hl
  unfold execOp
  simp only [ho, Sem.run_bind, run_build w ty _ c hb, Result.andThen_ok]
  rfl
end
end Go.Proofs.YtlhhfngkfbbckaaDoor
namespace Go.Proofs.YtlhhfngkfbbckaaDoor
set_option linter.unusedSimpArgs false
set_option linter.unusedVariables false
open Go.RowKit
attribute [local irreducible] sboxI
theorem Mul_two (x : Int) (h0 : 0 ≤ x) (h1 : x < 256) (w : World) :
    Calls Tryd.prog 76 #[.int .u8 x, .int .u8 2] w fun e w' => e = .returned (.int .u8 (twiceI x)) ∧ w = w' := by
  obtain ⟨n, rfl⟩ := Int.eq_ofNat_of_zero_le h0
  have := Mul_nat n 2 (by omega) (by omega) w
  rw [mulN_two n (by omega)] at this
  exact this

end Go.Proofs.YtlhhfngkfbbckaaDoor
namespace Go.Proofs.YtlhhfngkfbbckaaDoor
set_option linter.unusedSimpArgs false
set_option linter.unusedVariables false
open Go.RowKit
attribute [local irreducible] sboxI mulN
def keyW (k : Nat → Int) (q : Nat) : Int := keyK k (q / 16) (q % 16)
theorem keyW_first (k : Nat → Int) (q : Nat) (h : q < 16) : keyW k q = k q := by
  unfold keyW
  rw [show q / 16 = 0 from by omega, show q % 16 = q from by omega]
  rfl
theorem keyW_byte (k : Nat → Int) (hk : ∀ i, i < 16 → 0 ≤ k i ∧ k i < 256) (q : Nat) : 0 ≤ keyW k q ∧ keyW k q < 256 := keyK_byte k hk _ _ (by omega)
/-- A word, as the reference adds it. -/
def wordT (k : Nat → Int) (i : Nat) : Nat → Int
  | 0 => bits .xor .u8 (sboxI (keyW k (4 * (i - 1) + 1)).toNat) (addK ((i - 1) / 4))
  | 1 => sboxI (keyW k (4 * (i - 1) + 2)).toNat
  | 2 => sboxI (keyW k (4 * (i - 1) + 3)).toNat
  | _ => sboxI (keyW k (4 * (i - 1))).toNat
theorem word_first (k : Nat → Int) (i n : Nat) (h4 : 4 ≤ i) (hi : i % 4 = 0) (hn : n < 4) : bits .xor .u8 (keyW k (4 * (i - 4) + n)) (wordT k i n) = keyW k (4 * i + n) := by
  obtain ⟨j, rfl⟩ : ∃ j, i = 4 * (j + 1) := ⟨i / 4 - 1, by omega⟩
  have e1 : keyW k (4 * (4 * (j + 1) - 4) + n) = keyK k j n := by
    unfold keyW; rw [show (4 * (4 * (j + 1) - 4) + n) / 16 = j from by omega, show (4 * (4 * (j + 1) - 4) + n) % 16 = n from by omega]
  have e2 : keyW k (4 * (4 * (j + 1)) + n) = nextKey (keyK k j) (addK j) n := by
    unfold keyW; rw [show (4 * (4 * (j + 1)) + n) / 16 = j + 1 from by omega, show (4 * (4 * (j + 1)) + n) % 16 = n from by omega]; rfl
  have e3 : ∀ m, m < 4 → keyW k (4 * (4 * (j + 1) - 1) + m) = keyK k j (12 + m) := fun m hm => by
    unfold keyW; rw [show (4 * (4 * (j + 1) - 1) + m) / 16 = j from by omega, show (4 * (4 * (j + 1) - 1) + m) % 16 = 12 + m from by omega]
  have e0 := e3 0 (by omega)
  rw [Nat.add_zero, Nat.add_zero] at e0
  rw [e1, e2]
  have h : n = 0 ∨ n = 1 ∨ n = 2 ∨ n = 3 := by omega
  rcases h with rfl | rfl | rfl | rfl
  · unfold wordT nextKey; rw [e3 1 (by omega), show (4 * (j + 1) - 1) / 4 = j from by omega, bx_comm (addK j)]; rfl
  · unfold wordT nextKey; rw [e3 2 (by omega)]; rfl
  · unfold wordT nextKey; rw [e3 3 (by omega)]; rfl
  · unfold wordT nextKey; rw [e0]; rfl
theorem word_later (k : Nat → Int) (i n : Nat) (h4 : 4 ≤ i) (hi : i % 4 ≠ 0) (hn : n < 4) : bits .xor .u8 (keyW k (4 * (i - 4) + n)) (keyW k (4 * (i - 1) + n)) = keyW k (4 * i + n) := by
  obtain ⟨j, c, rfl, hc0, hc⟩ : ∃ j c, i = 4 * (j + 1) + c ∧ 0 < c ∧ c < 4 := ⟨i / 4 - 1, i % 4, by omega, by omega, by omega⟩
  unfold keyW
  rw [show (4 * (4 * (j + 1) + c - 4) + n) / 16 = j from by omega, show (4 * (4 * (j + 1) + c - 4) + n) % 16 = 4 * c + n from by omega]
  rw [show (4 * (4 * (j + 1) + c - 1) + n) / 16 = j + 1 from by omega, show (4 * (4 * (j + 1) + c - 1) + n) % 16 = 4 * c + n - 4 from by omega]
  rw [show (4 * (4 * (j + 1) + c) + n) / 16 = j + 1 from by omega, show (4 * (4 * (j + 1) + c) + n) % 16 = 4 * c + n from by omega]
  exact (nextKey_step (keyK k j) (addK j) (4 * c + n) (by omega)).symm
theorem word_add (k : Nat → Int) (i : Nat) (h4 : 4 ≤ i) : (i % 4 = 0 → twiceI (addK ((i - 1) / 4)) = addK ((i + 1 - 1) / 4)) ∧ (i % 4 ≠ 0 → addK ((i - 1) / 4) = addK ((i + 1 - 1) / 4)) := by
  constructor
  · intro h
    rw [show (i + 1 - 1) / 4 = (i - 1) / 4 + 1 from by omega]
    rfl
  · intro h
    rw [show (i + 1 - 1) / 4 = (i - 1) / 4 from by omega]

theorem RTWords : RowT Tryd.prog 116 176 := ⟨_, Tryd.underlying116, rfl, by kernel_rfl⟩
theorem ZTWords : ZeroT Tryd.prog 116 .u8 176 := by unfold ZeroT; kernel_rfl
theorem built_col (g : Nat → Int) : Tryd.prog.built 93 [(0, .int .u8 (g 0)), (1, .int .u8 (g 1)), (2, .int .u8 (g 2)), (3, .int .u8 (g 3))] = some (arr .u8 4 g) := by kernel_rfl
/-- One word of four bytes more. -/
theorem words_step (g : Nat → Int) (m i : Nat) (c : Nat → Int) (hc : ∀ r, r < 4 → c r = g (4 * m + r)) : patch (fun i => if i < 4 * m then g i else 0) (m * 4) 4 c i = if i < 4 * (m + 1) then g i else 0 := by
  unfold patch
  by_cases h : m * 4 ≤ i ∧ i < m * 4 + 4
  · rw [if_pos h, if_pos (by omega), hc _ (by omega), show 4 * m + (i - m * 4) = i from by omega]
  · rw [if_neg h]
    by_cases h2 : i < 4 * m
    · rw [if_pos (show i < 4 * (m + 1) by omega)]; exact if_pos h2
    · rw [if_neg (show ¬ i < 4 * (m + 1) by omega)]; exact if_neg h2
set_option maxRecDepth 100000 in
set_option maxHeartbeats 1000000 in
theorem refKeys_any (k : Nat → Int) (hk : ∀ i, i < 16 → 0 ≤ k i ∧ k i < 256) (w : World) :
    Calls Tryd.prog 63 #[.agg (arr .u8 16 k)] w fun e w' => e = .returned (.agg (arr .u8 176 fun i => keyK k (i / 16) (i % 16))) ∧ Below w.heap.size w w' := by
  go_enter Tryd.func63, Tryd.ntmps63
  obtain ⟨h0, h1, h2, hsz, hb⟩ := alloc3 w (.cells (arr .u8 16 k) 41) (.cells (arr .u8 176 fun _ => 0) 67) (.cells (arr .u8 176 fun _ => 0) 116)
  go_wp2_with (first | (refine wpList_alloc_arr rfl rfl ZTKeys ?_) | (refine wpList_alloc_arr rfl rfl ZTWords ?_))
  go_loopg [14] 4 (fun n i wr => ∃ m : Nat, m + n = 4 ∧ i = .int .i64 m ∧ wr.heap[w.heap.size]? = some (.cells (arr .u8 16 k) 41 (0, 0)) ∧
    wr.heap[w.heap.size + 1]? = some (.cells (arr .u8 176 fun _ => 0) 67 (0, 0)) ∧ wr.heap[w.heap.size + 1 + 1]? = some (.cells (arr .u8 176 fun i => if i < 4 * m then keyW k i else 0) 116 (0, 0)) ∧ Below w.heap.size w wr)
  case atStart => exact ⟨0, rfl, rfl, h0, h1, blk_congr h2 (fun i _ => (if_neg (by omega)).symm), hb⟩
  case round =>
    obtain ⟨m, hm, rfl, g0, g1, g2, hB⟩ := hrel
    have hm' := Lib.hid hm
    clear h0 h1 h2 hsz hb hm
    by_cases hlt : m < 4
    · have c0 := cell_arr g0 (4 * m) (by omega)
      have c1 := cell_arr g0 (4 * m + 1) (by omega)
      have c2 := cell_arr g0 (4 * m + 2) (by omega)
      have c3 := cell_arr g0 (4 * m + 3) (by omega)
      go_wp2
      refine wp_region_tail 22 (by kernel_rfl) (by kernel_rfl) ?_
      (simp only [List.take_succ_cons, List.take_zero, List.drop_succ_cons, List.drop_zero])
      iterate 20 (refine wpStill_step (fun K hK => ?_); go_simp; (try (simp only [↓IntWalk.iteOmega]; go_simp)); (try go_bits); refine hK _ ?_; clear hK K)
      refine wpStill_val rfl (run_op_build rfl (by simp [Act.eval]) (built_col (fun i => k (4 * m + i)))) ?_
      (try simp only [Act.put, List.setIfInBounds_toArray, List.set_cons_zero, List.set_cons_succ])
      iterate 1 (refine wpStill_step (fun K hK => ?_); go_simp; (try (simp only [↓IntWalk.iteOmega]; go_simp)); (try go_bits); refine hK _ ?_; clear hK K)
      refine wpStill_nil ?_
      refine wpList_store_sub (f' := fun i => k (4 * m + i)) rfl rfl rfl rfl RTCol (w := wr.drew) g2 (by omega) ?_
      have e2 := blk_congr (f' := fun i => if i < 4 * (m + 1) then keyW k i else 0) (row_self (w := wr.drew) (c' := arr .u8 176 (patch (fun i => if i < 4 * m then keyW k i else 0) (m * 4) 4 fun i => k (4 * m + i))) g2) (fun i _ => words_step (keyW k) m i (fun i => k (4 * m + i)) (fun r hr => (keyW_first k _ (by omega)).symm))
      go_wp2
      go_roundg (gk - 1)
      case measure => have := hm'.out; omega
      case rel =>
        have hm'' := hm'.out
        exact ⟨m + 1, by omega, by go_num, row_keep (w := wr.drew) g0 (by omega), row_keep (w := wr.drew) g1 (by omega), e2, row_below hB.drew (by omega) _⟩
    · obtain rfl : m = 4 := by have := hm'.out; omega
      clear hm' hlt
      go_wp2
      try rw [show ((4 : Nat) : Int) = 4 from rfl]
      go_loopg [5, 6] 40 (fun n r x wr => ∃ i : Nat, 4 ≤ i ∧ i + n = 44 ∧ r = .int .u8 (addK ((i - 1) / 4)) ∧ x = .int .i64 i ∧ wr.heap[w.heap.size]? = some (.cells (arr .u8 16 k) 41 (0, 0)) ∧
        wr.heap[w.heap.size + 1]? = some (.cells (arr .u8 176 fun _ => 0) 67 (0, 0)) ∧ wr.heap[w.heap.size + 1 + 1]? = some (.cells (arr .u8 176 fun q => if q < 4 * i then keyW k q else 0) 116 (0, 0)) ∧ Below w.heap.size w wr)
      case atStart => exact ⟨4, by omega, rfl, rfl, rfl, g0, g1, g2, hB⟩
      case round =>
        clear g0 g1 g2 hB
        obtain ⟨i, h4, hi, rfl, rfl, g0, g1, g2, hB⟩ := hrel
        obtain ⟨go1, rfl⟩ : ∃ x, x = gk := ⟨_, rfl⟩
        have hi' := Lib.hid hi
        clear hi
        by_cases hlt : i < 44
        · go_upto_region 12 with (first | (refine wpList_new_arr rfl rfl rfl rfl ZTCol RTCol rfl rfl ?_; intro w5 q3 hb5 hs5) | (refine wpList_load_as (off := (i - 1) * 4) (fun n => keyW k (4 * (i - 1) + n)) rfl rfl rfl RTCol g2 (by omega) (fun n hn => by rw [if_pos (by omega), show (i - 1) * 4 + n = 4 * (i - 1) + n from by omega]) ?_))
          have q0 := keep_below hb5 (lt_of_block g0) g0
          have q1 := keep_below hb5 (lt_of_block g1) g1
          have q2 := keep_below hb5 (lt_of_block g2) g2
          have hBq := hB.trans (hb5.mono hB.size)
          have hl0 := lt_of_block g0
          have hl1 := lt_of_block g1
          have hl2 := lt_of_block g2
          have hlB := lt_of_block q3
          clear hb5 hs5 g0 g1 g2 hB
          generalize wr.heap.size = B at *
          (try simp only [Act.put, List.setIfInBounds_toArray, List.set_cons_zero, List.set_cons_succ])
          by_cases hc : i % 4 = 0
          · go_upto_region 13 with (fail)
            (try simp only [Act.put, List.setIfInBounds_toArray, List.set_cons_zero, List.set_cons_succ])
            rw [show decide ((i : Int) < 44) = true from decide_eq_true (by omega), show ((i : Int) % 4 == 0) = true from beq_iff_eq.2 (by omega)]
            have c0 := cell_arr q3 0 (by omega)
            have c1 := cell_arr q3 1 (by omega)
            have c2 := cell_arr q3 2 (by omega)
            have c3 := cell_arr q3 3 (by omega)
            rw [Nat.add_zero] at c0
            have k0 := keyW_byte k hk (4 * (i - 1))
            have k1 := keyW_byte k hk (4 * (i - 1) + 1)
            have k2 := keyW_byte k hk (4 * (i - 1) + 2)
            have k3 := keyW_byte k hk (4 * (i - 1) + 3)
            refine wp_region_can w5.heap.size 15 [(0, false), (1, false), (3, false), (5, false), (6, false), (8, false), (9, false), (11, false), (12, false), (2, true), (4, false), (7, true), (10, true), (13, true), (14, false)] (by kernel_rfl) (by kernel_rfl) ?_
            (simp only [canOps, List.getElem?_cons_zero, List.getElem?_cons_succ, List.drop_succ_cons, List.drop_zero])
            iterate 9 (first | (refine wpCan_move rfl rfl (fun _ _ _ _ h => h) ?_; (simp only [Act.put, Act.eval, Array.getD_eq_getD_getElem?, List.getElem?_toArray, List.getElem?_cons_zero, List.getElem?_cons_succ, Option.getD_some, List.setIfInBounds_toArray, List.set_cons_zero, List.set_cons_succ])) | (refine wpCan_assign rfl rfl (fun _ _ _ _ h => h) ?_; (simp only [Act.put, Act.eval, Array.getD_eq_getD_getElem?, List.getElem?_toArray, List.getElem?_cons_zero, List.getElem?_cons_succ, Option.getD_some, List.setIfInBounds_toArray, List.set_cons_zero, List.set_cons_succ])) | (refine wpCan_nilCheck rfl rfl rfl (fun _ _ _ _ h => h) ?_; (simp only [Act.put, List.setIfInBounds_toArray, List.set_cons_zero, List.set_cons_succ])) | (refine wpCan_q rfl rfl (fun _ _ _ _ h => h) (by first | exact .bin rfl rfl rfl | exact .indexAddr rfl | exact .un rfl | exact .extract rfl | exact .index rfl | exact .field rfl | exact .slice rfl | exact .load rfl rfl hlB q3) (fun K hK => ?_); go_simp; (try (simp only [↓IntWalk.iteOmega]; go_simp)); (try go_bits); refine hK _ ?_; clear hK K))
            refine wpCan_e rfl (fun K hK => ?_)
            go_simp
            refine (refBox_any _ k1.1 k1.2 _).mono ?_
            rintro e w6 ⟨rfl, b6⟩
            refine hK _ _ (Keep.of_below b6 (Nat.le_refl _)) ?_
            clear hK K
            (try simp only [Act.put, List.setIfInBounds_toArray, List.set_cons_zero, List.set_cons_succ])
            (first | (refine wpCan_move rfl rfl (fun _ _ _ _ h => h) ?_; (simp only [Act.put, Act.eval, Array.getD_eq_getD_getElem?, List.getElem?_toArray, List.getElem?_cons_zero, List.getElem?_cons_succ, Option.getD_some, List.setIfInBounds_toArray, List.set_cons_zero, List.set_cons_succ])) | (refine wpCan_assign rfl rfl (fun _ _ _ _ h => h) ?_; (simp only [Act.put, Act.eval, Array.getD_eq_getD_getElem?, List.getElem?_toArray, List.getElem?_cons_zero, List.getElem?_cons_succ, Option.getD_some, List.setIfInBounds_toArray, List.set_cons_zero, List.set_cons_succ])) | (refine wpCan_nilCheck rfl rfl rfl (fun _ _ _ _ h => h) ?_; (simp only [Act.put, List.setIfInBounds_toArray, List.set_cons_zero, List.set_cons_succ])) | (refine wpCan_q rfl rfl (fun _ _ _ _ h => h) (by first | exact .bin rfl rfl rfl | exact .indexAddr rfl | exact .un rfl | exact .extract rfl | exact .index rfl | exact .field rfl | exact .slice rfl) (fun K hK => ?_); go_simp; (try (simp only [↓IntWalk.iteOmega]; go_simp)); (try go_bits); refine hK _ ?_; clear hK K))
            refine wpCan_e rfl (fun K hK => ?_)
            go_simp
            refine (refBox_any _ k2.1 k2.2 _).mono ?_
            rintro e w7 ⟨rfl, b7⟩
            refine hK _ _ (Keep.of_below b7 b6.size) ?_
            clear hK K
            (try simp only [Act.put, List.setIfInBounds_toArray, List.set_cons_zero, List.set_cons_succ])
            refine wpCan_e rfl (fun K hK => ?_)
            go_simp
            refine (refBox_any _ k3.1 k3.2 _).mono ?_
            rintro e w8 ⟨rfl, b8w⟩
            refine hK _ _ (Keep.of_below b8w (Nat.le_trans b6.size b7.size)) ?_
            clear hK K
            (try simp only [Act.put, List.setIfInBounds_toArray, List.set_cons_zero, List.set_cons_succ])
            refine wpCan_e rfl (fun K hK => ?_)
            go_simp
            refine (refBox_any _ k0.1 k0.2 _).mono ?_
            rintro e w9 ⟨rfl, b9⟩
            refine hK _ _ (Keep.of_below b9 (Nat.le_trans b6.size (Nat.le_trans b7.size b8w.size))) ?_
            clear hK K
            (try simp only [Act.put, List.setIfInBounds_toArray, List.set_cons_zero, List.set_cons_succ])
            refine wpCan_all rfl (fun _ _ _ _ h => h) (fun w' => run_op_build rfl (by simp [Act.eval, wordT]) (built_col (wordT k i))) ?_
            (try simp only [Act.put, List.setIfInBounds_toArray, List.set_cons_zero, List.set_cons_succ])
            refine wpCan_nil ?_
            have b10 := b6.trans (b7.mono b6.size)
            have b11 := b10.trans (b8w.mono b10.size)
            have b12 := b11.trans (b9.mono b11.size)
            have e3 := keep_below (w := w5.drew) b12 hlB q3
            have l0 := lt_of_block q0
            have l1 := lt_of_block q1
            have l2 := lt_of_block q2
            have e0 := row_keep (w := w9) (c' := arr .u8 4 (wordT k i)) (g := B) (keep_below (w := w5.drew) b12 l0 q0) (by omega)
            have e1 := row_keep (w := w9) (c' := arr .u8 4 (wordT k i)) (g := B) (keep_below (w := w5.drew) b12 l1 q1) (by omega)
            have e2 := row_keep (w := w9) (c' := arr .u8 4 (wordT k i)) (g := B) (keep_below (w := w5.drew) b12 l2 q2) (by omega)
            have e4 := row_self (w := w9) (c' := arr .u8 4 (wordT k i)) e3
            have hBe := row_below (hBq.drew.trans (b12.mono hBq.size)) (g := B) (by omega) (arr .u8 4 (wordT k i))
            clear c0 c1 c2 c3 k0 k1 k2 k3 b6 b7 b8w b9 b10 b11 b12 q0 q1 q2 q3 hBq hlB l0 l1 l2
            have ab := addK_byte ((i - 1) / 4)
            refine wpList_store_arr rfl rfl rfl rfl RTCol e3 ?_
            clear e3
            generalize w9.setRow B (arr .u8 4 (wordT k i)) = wr at *
            have q0 := e0
            have q1 := e1
            have q2 := e2
            have q3 := e4
            have hBq := hBe
            clear e0 e1 e2 e4 hBe
            go_wp2_with (go_at_call 76; (with_reducible refine (Mul_two _ (by omega) (by omega) _).mono ?_); rintro e w' ⟨rfl, rfl⟩)
            go_loopg [68] 4 (fun n x wr => ∃ m : Nat, m + n = 4 ∧ x = .int .i64 m ∧ wr.heap[w.heap.size]? = some (.cells (arr .u8 16 k) 41 (0, 0)) ∧
              wr.heap[w.heap.size + 1]? = some (.cells (arr .u8 176 fun _ => 0) 67 (0, 0)) ∧ wr.heap[w.heap.size + 1 + 1]? = some (.cells (arr .u8 176 fun q => if q < 4 * i + m then keyW k q else 0) 116 (0, 0)) ∧
              wr.heap[B]? = some (.cells (arr .u8 4 (wordT k i)) 93 (0, 0)) ∧ Below w.heap.size w wr)
            case atStart => exact ⟨0, rfl, rfl, q0, q1, q2, q3, hBq⟩
            case round =>
              clear q0 q1 q2 q3 hBq
              obtain ⟨m, hm, rfl, q0, q1, q2, q3, hBq⟩ := hrel
              have hm' := Lib.hid hm
              clear hm
              by_cases hlm : m < 4
              · have c1 := cell_arr q2 ((i - 4) * 4 + m) (by omega)
                have c2 := cell_arr q3 m hlm
                have c3 := cell_arr q2 (i * 4 + m) (by omega)
                have fz := free_arr q2 (i * 4 + m)
                simp only [if_pos (show (i - 4) * 4 + m < 4 * i + m from by omega)] at c1
                simp only [if_neg (show ¬ i * 4 + m < 4 * i + m from by omega)] at c3
                go_wp2
                refine wp_region_tail 14 (by kernel_rfl) (by kernel_rfl) ?_
                (simp only [List.take_succ_cons, List.take_zero, List.drop_succ_cons, List.drop_zero])
                repeat (refine wpStill_step (fun K hK => ?_); go_simp; (try (simp only [↓IntWalk.iteOmega]; go_simp)); (try go_bits); refine hK _ ?_; clear hK K)
                refine wpStill_nil ?_
                go_wp2
                go_roundg (gk - 1)
                case measure => have := hm'.out; omega
                case rel =>
                  have hm'' := hm'.out
                  refine ⟨m + 1, by omega, by go_num, keep_arr q0 _ _ (by omega), keep_arr q1 _ _ (by omega), blk_congr (set_arr q2 _ _) (fun q _ => ?_), keep_arr q3 _ _ (by omega), (hBq.setCell (by show w.heap.size ≤ w.heap.size + 1 + 1; omega) _).drew⟩
                  have e := fill_zero (keyW k) (4 * i + m) q
                  rw [← word_first k i m h4 hc hlm] at e
                  rw [show (i - 4) * 4 + m = 4 * (i - 4) + m from by omega, show i * 4 + m = 4 * i + m from by omega]
                  exact e
              · obtain rfl : m = 4 := by have := hm'.out; omega
                go_wp2
                go_roundg (go1 - 1)
                case measure => have := hi'.out; omega
                case rel =>
                  have hi'' := hi'.out
                  refine ⟨i + 1, by omega, by omega, ?_, by go_num, q0, q1, blk_congr q2 (fun q _ => by rw [show 4 * (i + 1) = 4 * i + 4 from by omega]), hBq⟩
                  rw [(word_add k i h4).1 hc]
          · go_upto_region 15 with (fail)
            (try simp only [Act.put, List.setIfInBounds_toArray, List.set_cons_zero, List.set_cons_succ])
            rw [show decide ((i : Int) < 44) = true from decide_eq_true (by omega), show ((i : Int) % 4 == 0) = false from by rw [beq_eq_false_iff_ne]; omega]
            generalize w5 = wr at *
            go_wp2
            go_loopg [68] 4 (fun n x wr => ∃ m : Nat, m + n = 4 ∧ x = .int .i64 m ∧ wr.heap[w.heap.size]? = some (.cells (arr .u8 16 k) 41 (0, 0)) ∧
              wr.heap[w.heap.size + 1]? = some (.cells (arr .u8 176 fun _ => 0) 67 (0, 0)) ∧ wr.heap[w.heap.size + 1 + 1]? = some (.cells (arr .u8 176 fun q => if q < 4 * i + m then keyW k q else 0) 116 (0, 0)) ∧
              wr.heap[B]? = some (.cells (arr .u8 4 (fun n => keyW k (4 * (i - 1) + n))) 93 (0, 0)) ∧ Below w.heap.size w wr)
            case atStart => exact ⟨0, rfl, rfl, q0, q1, q2, q3, hBq⟩
            case round =>
              clear q0 q1 q2 q3 hBq
              obtain ⟨m, hm, rfl, q0, q1, q2, q3, hBq⟩ := hrel
              have hm' := Lib.hid hm
              clear hm
              by_cases hlm : m < 4
              · have c1 := cell_arr q2 ((i - 4) * 4 + m) (by omega)
                have c2 := cell_arr q3 m hlm
                have c3 := cell_arr q2 (i * 4 + m) (by omega)
                have fz := free_arr q2 (i * 4 + m)
                simp only [if_pos (show (i - 4) * 4 + m < 4 * i + m from by omega)] at c1
                simp only [if_neg (show ¬ i * 4 + m < 4 * i + m from by omega)] at c3
                go_wp2
                refine wp_region_tail 14 (by kernel_rfl) (by kernel_rfl) ?_
                (simp only [List.take_succ_cons, List.take_zero, List.drop_succ_cons, List.drop_zero])
                repeat (refine wpStill_step (fun K hK => ?_); go_simp; (try (simp only [↓IntWalk.iteOmega]; go_simp)); (try go_bits); refine hK _ ?_; clear hK K)
                refine wpStill_nil ?_
                go_wp2
                go_roundg (gk - 1)
                case measure => have := hm'.out; omega
                case rel =>
                  have hm'' := hm'.out
                  refine ⟨m + 1, by omega, by go_num, keep_arr q0 _ _ (by omega), keep_arr q1 _ _ (by omega), blk_congr (set_arr q2 _ _) (fun q _ => ?_), keep_arr q3 _ _ (by omega), (hBq.setCell (by show w.heap.size ≤ w.heap.size + 1 + 1; omega) _).drew⟩
                  have e := fill_zero (keyW k) (4 * i + m) q
                  rw [← word_later k i m h4 hc hlm] at e
                  rw [show (i - 4) * 4 + m = 4 * (i - 4) + m from by omega, show i * 4 + m = 4 * i + m from by omega]
                  exact e
              · obtain rfl : m = 4 := by have := hm'.out; omega
                go_wp2
                go_roundg (go1 - 1)
                case measure => have := hi'.out; omega
                case rel =>
                  have hi'' := hi'.out
                  refine ⟨i + 1, by omega, by omega, ?_, by go_num, q0, q1, blk_congr q2 (fun q _ => by rw [show 4 * (i + 1) = 4 * i + 4 from by omega]), hBq⟩
                  rw [(word_add k i h4).2 hc]
        · obtain rfl : i = 44 := by have := hi'.out; omega
          clear hi' hlt h4
          have p2 := blk_congr (f' := keyW k) g2 (fun q hq => if_pos (by omega))
          clear g2
          go_upto_region 21 with (refine wpList_alloc_arr rfl rfl ZTKeys ?_)
          have bl := (alloc1 wr (.cells (arr .u8 176 fun _ => 0) 67)).2.2
          have q3 := heap_alloc_new wr (.cells (arr .u8 176 fun _ => 0) 67)
          have q1 := keep_below bl (lt_of_block g1) g1
          have q2 := keep_below bl (lt_of_block p2) p2
          have hBq := hB.trans (bl.mono hB.size)
          have hl1 := lt_of_block g1
          have hl2 := lt_of_block p2
          clear bl g0 g1 p2 hB
          generalize wr.alloc (.cells (arr .u8 176 fun _ => 0) 67) = w4 at *
          generalize wr.heap.size = B at *
          (try simp only [Act.put, List.setIfInBounds_toArray, List.set_cons_zero, List.set_cons_succ])
          try rw [show ((44 : Nat) : Int) = 44 from rfl]
          go_wp2_with (refine wpList_load_arr rfl rfl rfl RTWords q2 ?_)
          go_loopg [87] 44 (fun n x wr => ∃ i : Nat, i + n = 44 ∧ x = .int .i64 i ∧
            wr.heap[w.heap.size + 1]? = some (.cells (arr .u8 176 fun _ => 0) 67 (0, 0)) ∧ wr.heap[B]? = some (.cells (arr .u8 176 fun q => if q < 4 * i then keyW k q else 0) 67 (0, 0)) ∧ Below w.heap.size w wr)
          case atStart => exact ⟨0, rfl, rfl, q1, blk_congr q3 (fun q _ => (if_neg (by omega)).symm), hBq⟩
          case round =>
            clear q1 q2 q3 hBq
            obtain ⟨i, hi, rfl, g1, g3, hB⟩ := hrel
            obtain ⟨go2, rfl⟩ : ∃ x, x = gk := ⟨_, rfl⟩
            have hi' := Lib.hid hi
            clear hi
            by_cases hlt : i < 44
            · go_upto_region 24 with (first | (refine wpList_index_row rfl rfl Tryd.underlying116 RTCol rfl rfl (by omega) (by omega) (by omega) (fun n => keyW k (4 * i + n)) (fun n hn => by congr 1; omega) ?_) | (refine wpList_alloc_arr rfl rfl ZTCol ?_) | (refine wpList_store_arr rfl rfl rfl rfl RTCol (heap_alloc_new _ _) ?_))
              obtain ⟨q4, bl, hs4⟩ := new_arr_world wr 93 4 .u8 (fun n => keyW k (4 * i + n))
              have q1 := keep_below bl (lt_of_block g1) g1
              have q3 := keep_below bl (lt_of_block g3) g3
              have hBq := hB.trans (bl.mono hB.size)
              have hl3 := lt_of_block g3
              clear bl g1 g3 hB hs4
              generalize (wr.alloc (.cells (arr .u8 4 fun _ => 0) 93)).setRow wr.heap.size (arr .u8 4 (fun n => keyW k (4 * i + n))) = w5 at *
              generalize wr.heap.size = B4 at *
              (try simp only [Act.put, List.setIfInBounds_toArray, List.set_cons_zero, List.set_cons_succ])
              try rw [show decide ((i : Int) < 44) = true from decide_eq_true (by omega)]
              go_wp2_with (refine wpList_load_arr rfl rfl rfl RTCol q4 ?_)
              go_loopg [92] 4 (fun n x wr => ∃ m : Nat, m + n = 4 ∧ x = .int .i64 m ∧
                wr.heap[w.heap.size + 1]? = some (.cells (arr .u8 176 fun _ => 0) 67 (0, 0)) ∧ wr.heap[B]? = some (.cells (arr .u8 176 fun q => if q < 4 * i + m then keyW k q else 0) 67 (0, 0)) ∧ Below w.heap.size w wr)
              case atStart => exact ⟨0, rfl, rfl, q1, q3, hBq⟩
              case round =>
                clear q1 q3 q4 hBq
                obtain ⟨m, hm, rfl, q1, q3, hBq⟩ := hrel
                have hm' := Lib.hid hm
                clear hm
                by_cases hlm : m < 4
                · have c3 := cell_arr q3 (i / 4 * 16 + (4 * (i % 4) + m)) (by omega)
                  have fz := free_arr q3 (i / 4 * 16 + (4 * (i % 4) + m))
                  simp only [if_neg (show ¬ i / 4 * 16 + (4 * (i % 4) + m) < 4 * i + m from by omega)] at c3
                  go_wp2_with (refine wpList_index_cell rfl rfl Tryd.underlying93 Tryd.underlying5 rfl SZByte rfl rfl (by omega) (by omega) (by omega) ?_)
                  go_roundg (gk - 1)
                  case measure => have := hm'.out; omega
                  case rel =>
                    have hm'' := hm'.out
                    refine ⟨m + 1, by omega, by go_num, keep_arr q1 _ _ (by omega), blk_congr (set_arr q3 _ _) (fun q _ => ?_), hBq.setCell (by show w.heap.size ≤ B; omega) _⟩
                    have e := fill_zero (keyW k) (4 * i + m) q
                    rw [show i / 4 * 16 + (4 * (i % 4) + m) = 4 * i + m from by omega]
                    exact e
                · obtain rfl : m = 4 := by have := hm'.out; omega
                  go_wp2
                  go_roundg (go2 - 1)
                  case measure => have := hi'.out; omega
                  case rel =>
                    have hi'' := hi'.out
                    exact ⟨i + 1, by omega, by go_num, q1, blk_congr q3 (fun q _ => by rw [show 4 * (i + 1) = 4 * i + 4 from by omega]), hBq⟩
            · obtain rfl : i = 44 := by have := hi'.out; omega
              have p3 := blk_congr (f' := keyW k) g3 (fun q hq => if_pos (by omega))
              go_wp2_with (first | (refine wpList_load_arr rfl rfl rfl RTKeys p3 ?_) | (refine wpList_store_arr rfl rfl rfl rfl RTKeys g1 ?_))
              exact bodyPost_ret (results_arr rfl rfl RTKeys (row_self g1)) rfl ⟨rfl, row_below hB (by omega) _⟩
end Go.Proofs.YtlhhfngkfbbckaaDoor
