/- The walks of a number's bytes: wire.Num at one number, and the reference's. -/
import Derived.Test.YtfbfkfdkigpkgaaLen
import Derived.Test.YtfbfkfdkigpkgaaCln
import Derived.Test.YtfbfkfdkigpkgaaByt
namespace Go.Proofs.Ytfbfkfdkigpkgaa
set_option linter.unusedSimpArgs false
set_option linter.unusedVariables false
open Go.RowKit
attribute [local irreducible] beL beK

theorem fits_any (W n : Nat) (hW : W ≤ 8) (hn : n < 18446744073709551616) (w : World) :
    Calls Try.prog 98 #[.int .i64 W, .int .u64 n] w fun e w' => e = .returned (.bool (decide (n < 256 ^ W))) ∧ w = w' := by
  have hx : ((n : Int)) ≤ 18446744073709551615 := by omega
  have c := Len64_int (n : Int) (by omega) hx
  rw [Int.toNat_natCast] at c
  have C := Lib.hid c
  clear c hx hn
  go_enter Try.func98, Try.ntmps98
  go_wp2_with (go_at_call 102; fail)
  refine (C.out _).mono ?_
  rintro e w' ⟨⟨r, rfl, hr⟩, rfl⟩
  have HR := Lib.hid (hr W)
  clear hr
  go_wp2
  go_ret
  refine ⟨?_, rfl⟩
  have e1 : decide ((r : Int) ≤ 8 * (W : Int)) = decide (n < 256 ^ W) := decide_eq_decide.2 ⟨fun h => HR.out.1 (by omega), fun h => by have := HR.out.2 h; omega⟩
  rw [← e1]
  rfl

theorem Num1_any (W n : Nat) (hW : W ≤ 8) (hn : n < 18446744073709551616) (g : Nat) (w : World) (hc : w.cell? ⟨g, 0, none⟩ = some (.int .i64 W)) :
    Calls Try.prog 97 #[.int .u64 n, .pointer (some ⟨g, 0, none⟩)] w fun e w' => e = .returned (.bool (!decide (n < 256 ^ W))) ∧ w = w' := by
  have HN := Lib.hid hn
  clear hn
  go_enter Try.func97, Try.ntmps97
  go_wp2_with (go_at_call 98; fail)
  refine (fits_any W n hW HN.out _).mono ?_
  rintro e w' ⟨rfl, rfl⟩
  go_wp2
  go_ret
  exact ⟨rfl, rfl⟩

theorem IndexNum (W n : Nat) (hW : W ≤ 8) (hn : n < 18446744073709551616) (g h : Nat) (w : World) (hc : w.cell? ⟨g, 0, none⟩ = some (.int .i64 W)) (hx : w.cell? ⟨h, 0, none⟩ = some (.int .u64 n)) :
    Calls Try.prog 101 #[.slice (some ⟨h, 0, none⟩) 1 1, .func (.func 97) #[] #[.pointer (some ⟨g, 0, none⟩)]] w fun e w' => e = .returned (.int .i64 (if n < 256 ^ W then -1 else 0)) ∧ w = w' := by
  have HN := Lib.hid hn
  clear hn
  go_enter Try.func101, Try.ntmps101
  go_wp2
  go_loopg [8] 1 (fun k i wr => (k = 1 ∧ i = .int .i64 0 ∨ k = 0 ∧ i = .int .i64 1 ∧ n < 256 ^ W) ∧ w = wr)
  case atStart => exact ⟨.inl ⟨rfl, rfl⟩, rfl⟩
  case round =>
    obtain ⟨hr, rfl⟩ := hrel
    rcases hr with ⟨rfl, rfl⟩ | ⟨rfl, rfl, hlt⟩
    · go_wp2_with (go_at_call 97; fail)
      refine (Num1_any W n hW HN.out g _ hc).mono ?_
      rintro e w' ⟨rfl, rfl⟩
      by_cases hf : n < 256 ^ W
      · rw [decide_eq_true hf]
        have HF := Lib.hid hf
        clear hf
        go_wp2
        go_roundg 0
        case measure => omega
        case rel => exact ⟨.inr ⟨rfl, rfl, HF.out⟩, rfl⟩
      · rw [decide_eq_false hf]
        have HF := Lib.hid hf
        clear hf
        go_wp2
        go_ret
        refine ⟨?_, rfl⟩
        first | rfl | (rw [if_neg HF.out]; rfl)
    · have HF := Lib.hid hlt
      clear hlt
      go_wp2
      go_ret
      refine ⟨?_, rfl⟩
      first | rfl | (rw [if_pos HF.out]; rfl)
theorem ContainsNum (W n : Nat) (hW : W ≤ 8) (hn : n < 18446744073709551616) (g h : Nat) (w : World) (hc : w.cell? ⟨g, 0, none⟩ = some (.int .i64 W)) (hx : w.cell? ⟨h, 0, none⟩ = some (.int .u64 n)) :
    Calls Try.prog 96 #[.slice (some ⟨h, 0, none⟩) 1 1, .func (.func 97) #[] #[.pointer (some ⟨g, 0, none⟩)]] w fun e w' => e = .returned (.bool (!decide (n < 256 ^ W))) ∧ w = w' := by
  have c := Lib.hid (IndexNum W n hW hn g h w hc hx)
  by_cases hf : n < 256 ^ W
  · rw [decide_eq_true hf]
    rw [if_pos hf] at c
    clear hf hn
    go_enter Try.func96, Try.ntmps96
    go_wp2_with (go_at_call 101; fail)
    refine c.out.mono ?_
    rintro e w' ⟨rfl, rfl⟩
    go_wp2
    go_ret
    exact ⟨rfl, rfl⟩
  · rw [decide_eq_false hf]
    rw [if_neg hf] at c
    clear hf hn
    go_enter Try.func96, Try.ntmps96
    go_wp2_with (go_at_call 101; fail)
    refine c.out.mono ?_
    rintro e w' ⟨rfl, rfl⟩
    go_wp2
    go_ret
    exact ⟨rfl, rfl⟩

def NumPost (w : World) (W n : Nat) (e : Ending) (w' : World) : Prop := ∃ v, e = .returned (.tuple #[v, .int .i64 0]) ∧ Own w' w.heap.size 5 v (beL W n) ∧ Below w.heap.size w w'
set_option maxRecDepth 100000 in
set_option maxHeartbeats 2000000 in
theorem Num_one (W n : Nat) (h1 : 1 ≤ W) (h8 : W ≤ 8) (hn : n < 18446744073709551616) (hf : n < 256 ^ W) (h : Nat) (w : World) (hh : h < w.heap.size) (hx : w.cell? ⟨h, 0, none⟩ = some (.int .u64 n)) :
    Calls Try.prog 78 #[.slice none 0 0, .int .i64 W, .slice (some ⟨h, 0, none⟩) 1 1] w (NumPost w W n) := by
  have HN := Lib.hid hn
  have HF := Lib.hid hf
  clear hn hf
  go_enter Try.func78, Try.ntmps78
  have hb : Below w.heap.size w (w.alloc (.cells #[.int .i64 W] 3)) := (Below.refl _ _).alloc (Nat.le_refl _) _
  have c0 := cell_new1 w (.int .i64 (W : Int)) 3
  have cx := cell_below hb hh hx
  go_wp2_with (go_at_call 96; fail)
  refine (ContainsNum W n h8 HN.out w.heap.size h _ c0 cx).mono ?_
  rintro e w1 ⟨rfl, hw1⟩
  subst hw1
  rw [decide_eq_true HF.out]
  go_wp2_with (go_at_call 95; fail)
  refine (Clone_any none 0 0 [] _ Txt.nil_ (by omega)).mono ?_
  rintro e w2 ⟨v2, rfl, hown, b2⟩
  rw [World.size_alloc] at hown
  have hs := b2.size
  rw [World.size_alloc] at hs b2
  have hB := hb.trans (b2.mono (by omega))
  replace c0 := cell_below b2 (by omega) c0
  replace cx := cell_below b2 (by omega) cx
  clear b2 hb
  go_wp2
  go_loopg [8, 26] 1 (fun k v i wr => (k = 1 ∧ i = .int .i64 0 ∧ Own wr (w.heap.size + 1) 5 v [] ∨ k = 0 ∧ i = .int .i64 1 ∧ Own wr (w.heap.size + 1) 5 v (beL W n)) ∧ wr.cell? ⟨w.heap.size, 0, none⟩ = some (.int .i64 W) ∧ wr.cell? ⟨h, 0, none⟩ = some (.int .u64 n) ∧ w.heap.size + 1 ≤ wr.heap.size ∧ Below w.heap.size w wr)
  case atStart => exact ⟨.inl ⟨rfl, rfl, hown⟩, c0, cx, hs, hB⟩
  case round =>
    clear c0 cx hs hB hown
    obtain ⟨hr, c0, cx, hs, hB⟩ := hrel
    rcases hr with ⟨rfl, rfl, ho⟩ | ⟨rfl, rfl, ho⟩
    · have HO := Lib.hid ho
      clear ho
      go_wp2_with (go_at_call 99; fail)
      refine (put_any _ [] (w.heap.size + 1) W n h8 HN.out (by decide) _ HO.out hs).mono ?_
      rintro e w3 ⟨⟨v3, rfl, ho3⟩, b3⟩
      have HO3 := Lib.hid ho3
      replace c0 := cell_below b3 (by omega) c0
      replace cx := cell_below b3 (by omega) cx
      have hs3 := Nat.le_trans hs b3.size
      have hB3 := hB.trans (b3.mono (by omega))
      clear b3 hB hs HO ho3
      go_wp2
      go_roundg 0
      case measure => omega
      case rel => exact ⟨.inr ⟨rfl, rfl, HO3.out⟩, c0, cx, hs3, hB3⟩
    · have HO := Lib.hid ho
      clear ho
      go_wp2
      go_ret2
      exact ⟨_, rfl, HO.out.mono (by omega), hB⟩
end Go.Proofs.Ytfbfkfdkigpkgaa
