/- The walks of a number's bytes: wire.Num at one number, and the reference's. -/
import Derived.Test.YtfbfkfdkigpkgaaLen
namespace Go.Proofs.Ytfbfkfdkigpkgaa
set_option linter.unusedSimpArgs false
set_option linter.unusedVariables false
open Go.RowKit
attribute [local irreducible] beL beK

theorem fits_any (W n : Nat) (hW : W ≤ 8) (hn : n < 18446744073709551616) (w : World) :
    Calls Try.prog 98 #[.int .i64 W, .int .u64 n] w fun e w' => e = .returned (.bool (decide (n < 256 ^ W))) ∧ w = w' := by
  have hx : ((n : Int)) ≤ 18446744073709551615 := by omega
  have c := Len64_int (n : Int) (by omega) hx
  rw [Int.toNat_natCast] at c
  have C := Lib.hid c
  clear c hx hn
  go_enter Try.func98, Try.ntmps98
  go_wp2_with (go_at_call 102; fail)
  refine (C.out _).mono ?_
  rintro e w' ⟨⟨r, rfl, hr⟩, rfl⟩
  have HR := Lib.hid (hr W)
  clear hr
  go_wp2
  go_ret
  refine ⟨?_, rfl⟩
  have e1 : decide ((r : Int) ≤ 8 * (W : Int)) = decide (n < 256 ^ W) := decide_eq_decide.2 ⟨fun h => HR.out.1 (by omega), fun h => by have := HR.out.2 h; omega⟩
  rw [← e1]
  rfl

theorem Num1_any (W n : Nat) (hW : W ≤ 8) (hn : n < 18446744073709551616) (g : Nat) (w : World) (hc : w.cell? ⟨g, 0, none⟩ = some (.int .i64 W)) :
    Calls Try.prog 97 #[.int .u64 n, .pointer (some ⟨g, 0, none⟩)] w fun e w' => e = .returned (.bool (!decide (n < 256 ^ W))) ∧ w = w' := by
  have HN := Lib.hid hn
  clear hn
  go_enter Try.func97, Try.ntmps97
  go_wp2_with (go_at_call 98; fail)
  refine (fits_any W n hW HN.out _).mono ?_
  rintro e w' ⟨rfl, rfl⟩
  go_wp2
  go_ret
  exact ⟨rfl, rfl⟩

theorem IndexNum (W n : Nat) (hW : W ≤ 8) (hn : n < 18446744073709551616) (g h : Nat) (w : World) (hc : w.cell? ⟨g, 0, none⟩ = some (.int .i64 W)) (hx : w.cell? ⟨h, 0, none⟩ = some (.int .u64 n)) :
    Calls Try.prog 101 #[.slice (some ⟨h, 0, none⟩) 1 1, .func (.func 97) #[] #[.pointer (some ⟨g, 0, none⟩)]] w fun e w' => e = .returned (.int .i64 (if n < 256 ^ W then -1 else 0)) ∧ w = w' := by
  have HN := Lib.hid hn
  clear hn
  go_enter Try.func101, Try.ntmps101
  go_wp2
  go_loopg [8] 1 (fun k i wr => (k = 1 ∧ i = .int .i64 0 ∨ k = 0 ∧ i = .int .i64 1 ∧ n < 256 ^ W) ∧ w = wr)
  case atStart => exact ⟨.inl ⟨rfl, rfl⟩, rfl⟩
  case round =>
    obtain ⟨hr, rfl⟩ := hrel
    rcases hr with ⟨rfl, rfl⟩ | ⟨rfl, rfl, hlt⟩
    · go_wp2_with (go_at_call 97; fail)
      refine (Num1_any W n hW HN.out g _ hc).mono ?_
      rintro e w' ⟨rfl, rfl⟩
      by_cases hf : n < 256 ^ W
      · rw [decide_eq_true hf]
        have HF := Lib.hid hf
        clear hf
        go_wp2
        go_roundg 0
        case measure => omega
        case rel => exact ⟨.inr ⟨rfl, rfl, HF.out⟩, rfl⟩
      · rw [decide_eq_false hf]
        have HF := Lib.hid hf
        clear hf
        go_wp2
        go_ret
        refine ⟨?_, rfl⟩
        first | rfl | (rw [if_neg HF.out]; rfl)
    · have HF := Lib.hid hlt
      clear hlt
      go_wp2
      go_ret
      refine ⟨?_, rfl⟩
      first | rfl | (rw [if_pos HF.out]; rfl)
theorem ContainsNum (W n : Nat) (hW : W ≤ 8) (hn : n < 18446744073709551616) (g h : Nat) (w : World) (hc : w.cell? ⟨g, 0, none⟩ = some (.int .i64 W)) (hx : w.cell? ⟨h, 0, none⟩ = some (.int .u64 n)) :
    Calls Try.prog 96 #[.slice (some ⟨h, 0, none⟩) 1 1, .func (.func 97) #[] #[.pointer (some ⟨g, 0, none⟩)]] w fun e w' => e = .returned (.bool (!decide (n < 256 ^ W))) ∧ w = w' := by
  have c := Lib.hid (IndexNum W n hW hn g h w hc hx)
  by_cases hf : n < 256 ^ W
  · rw [decide_eq_true hf]
    rw [if_pos hf] at c
    clear hf hn
    go_enter Try.func96, Try.ntmps96
    go_wp2_with (go_at_call 101; fail)
    refine c.out.mono ?_
    rintro e w' ⟨rfl, rfl⟩
    go_wp2
    go_ret
    exact ⟨rfl, rfl⟩
  · rw [decide_eq_false hf]
    rw [if_neg hf] at c
    clear hf hn
    go_enter Try.func96, Try.ntmps96
    go_wp2_with (go_at_call 101; fail)
    refine c.out.mono ?_
    rintro e w' ⟨rfl, rfl⟩
    go_wp2
    go_ret
    exact ⟨rfl, rfl⟩

theorem cell_new1 (w : World) (v : Value) (t : TypeId) : (w.alloc (.cells #[v] t)).cell? ⟨w.heap.size, 0, none⟩ = some v := by
  rw [cell_of_row _ _ _ _ _ _ (heap_alloc_new w (.cells #[v] t))]; rfl
theorem cell_below {B : Nat} {w w' : World} {g o : Nat} {v : Value} (hb : Below B w w') (hg : g < B) (h : w.cell? ⟨g, o, none⟩ = some v) : w'.cell? ⟨g, o, none⟩ = some v := (hb.cell (p := ⟨g, o, none⟩) hg).trans h
def NumPost (w : World) (W n : Nat) (e : Ending) (w' : World) : Prop := ∃ v, e = .returned (.tuple #[v, .int .i64 0]) ∧ Own w' w.heap.size 5 v (beL W n) ∧ Below w.heap.size w w'
set_option maxRecDepth 100000 in
set_option maxHeartbeats 2000000 in
theorem Num_one (W n : Nat) (h1 : 1 ≤ W) (h8 : W ≤ 8) (hn : n < 18446744073709551616) (hf : n < 256 ^ W) (h : Nat) (w : World) (hh : h < w.heap.size) (hx : w.cell? ⟨h, 0, none⟩ = some (.int .u64 n)) :
    Calls Try.prog 78 #[.slice none 0 0, .int .i64 W, .slice (some ⟨h, 0, none⟩) 1 1] w (NumPost w W n) := by
  have HN := Lib.hid hn
  have HF := Lib.hid hf
  clear hn hf
  go_enter Try.func78, Try.ntmps78
  have hb : Below w.heap.size w (w.alloc (.cells #[.int .i64 W] 3)) := (Below.refl _ _).alloc (Nat.le_refl _) _
  have c0 := cell_new1 w (.int .i64 (W : Int)) 3
  have cx := cell_below hb hh hx
  go_wp2_with (go_at_call 96; fail)
  refine (ContainsNum W n h8 HN.out w.heap.size h _ c0 cx).mono ?_
  rintro e w1 ⟨rfl, hw1⟩
  subst hw1
  rw [decide_eq_true HF.out]
  go_wp2_with (go_at_call 95; fail)
  refine (Clone_any none 0 0 [] _ Txt.nil_ (by omega)).mono ?_
  rintro e w2 ⟨v2, rfl, hown, b2⟩
  rw [World.size_alloc] at hown
  have hs := b2.size
  rw [World.size_alloc] at hs b2
  have hB := hb.trans (b2.mono (by omega))
  replace c0 := cell_below b2 (by omega) c0
  replace cx := cell_below b2 (by omega) cx
  clear b2 hb
  go_wp2
  go_loopg [8, 26] 1 (fun k v i wr => (k = 1 ∧ i = .int .i64 0 ∧ Own wr (w.heap.size + 1) 5 v [] ∨ k = 0 ∧ i = .int .i64 1 ∧ Own wr (w.heap.size + 1) 5 v (beL W n)) ∧ wr.cell? ⟨w.heap.size, 0, none⟩ = some (.int .i64 W) ∧ wr.cell? ⟨h, 0, none⟩ = some (.int .u64 n) ∧ w.heap.size + 1 ≤ wr.heap.size ∧ Below w.heap.size w wr)
  case atStart => exact ⟨.inl ⟨rfl, rfl, hown⟩, c0, cx, hs, hB⟩
  case round =>
    clear c0 cx hs hB hown
    obtain ⟨hr, c0, cx, hs, hB⟩ := hrel
    rcases hr with ⟨rfl, rfl, ho⟩ | ⟨rfl, rfl, ho⟩
    · have HO := Lib.hid ho
      clear ho
      go_wp2_with (go_at_call 99; fail)
      refine (put_any _ [] (w.heap.size + 1) W n h8 HN.out (by decide) _ HO.out hs).mono ?_
      rintro e w3 ⟨⟨v3, rfl, ho3⟩, b3⟩
      have HO3 := Lib.hid ho3
      replace c0 := cell_below b3 (by omega) c0
      replace cx := cell_below b3 (by omega) cx
      have hs3 := Nat.le_trans hs b3.size
      have hB3 := hB.trans (b3.mono (by omega))
      clear b3 hB hs HO ho3
      go_wp2
      go_roundg 0
      case measure => omega
      case rel => exact ⟨.inr ⟨rfl, rfl, HO3.out⟩, c0, cx, hs3, hB3⟩
    · have HO := Lib.hid ho
      clear ho
      go_wp2
      go_ret2
      exact ⟨_, rfl, HO.out.mono (by omega), hB⟩

/-- The reference's: the lowest byte goes ahead. -/
theorem beL_cons (k n : Nat) : beL (k + 1) n = (n / 2 ^ (8 * k) % 256) :: beL k n := by
  unfold beL beK
  rw [List.range_succ_eq_map, List.map_cons, List.map_map]
  congr 1
  apply List.map_congr_left
  intro i hi
  have := List.mem_range.1 hi
  simp only [Function.comp]
  rw [show k + 1 - 1 - (i + 1) = k - 1 - i from by omega]
theorem beL_zero (n : Nat) : beL 0 n = [] := by unfold beL beK; rfl
theorem beL_len (k n : Nat) : (beL k n).length = k := by unfold beL; exact beK_len k n k
theorem own_one (w : World) (e : TypeId) (x : Nat) : Own (w.alloc (.cells #[bv x] e)) w.heap.size e (.slice (some ⟨w.heap.size, 0, none⟩) 1 1) [x] :=
  ⟨rfl, .inr ⟨w.heap.size, 1, #[bv x], rfl, Nat.le_refl _, heap_alloc_new w _, Nat.le_refl _, (by decide), rfl, rfl⟩⟩
set_option maxRecDepth 100000 in
set_option maxHeartbeats 2000000 in
theorem Bytes_any (W n : Nat) (hW : W ≤ 8) (hn : n < 18446744073709551616) (w : World) :
    Calls Try.prog 43 #[.int .i64 W, .int .u64 n] w (RetOwn w (beL W n)) := by
  have HN := Lib.hid hn
  clear hn
  go_enter Try.func43, Try.ntmps43
  go_wp2
  go_loopg [1, 5, 7] W (fun k x v i wr => ∃ (m : Nat) (A : Option Addr) (c : Nat), m + k = W ∧ i = .int .i64 m ∧ x = .int .u64 ((n / 2 ^ (8 * m) : Nat) : Int) ∧ v = .slice A m c ∧ Txt wr wr.heap.size A m c (beL m n) ∧ Own wr w.heap.size 5 v (beL m n) ∧ Below w.heap.size w wr)
  case atStart => exact ⟨0, none, 0, by omega, rfl, (by rw [Nat.mul_zero, Nat.pow_zero, Nat.div_one]), rfl, (by rw [beL_zero]; exact Txt.nil_), (by rw [beL_zero]; exact Own.nil_), Below.refl _ _⟩
  case round =>
    obtain ⟨m, A, c, hm, rfl, rfl, rfl, ht, ho, hB⟩ := hrel
    have hm' := Lib.hid hm
    have HT := Lib.hid ht
    have HO := Lib.hid ho
    clear hm ht ho
    by_cases hlt : m < W
    · obtain ⟨q, hq⟩ : ∃ q, q = n / 2 ^ (8 * m) := ⟨_, rfl⟩
      rw [← hq]
      have qb : q < 18446744073709551616 := by rw [hq]; exact Nat.lt_of_le_of_lt (Nat.div_le_self _ _) HN.out
      have e1 : n / 2 ^ (8 * (m + 1)) = q / 256 := by rw [hq, Nat.mul_add, Nat.pow_add, ← Nat.div_div_eq_div_mul]
      have e2 : beL (m + 1) n = (q % 256) :: beL m n := by rw [hq]; exact beL_cons m n
      have E1 := Lib.hid e1
      have E2 := Lib.hid e2
      clear hq e1 e2
      have qb' : (q : Int) ≤ 18446744073709551615 := by omega
      have QB := Lib.hid qb
      clear qb
      obtain ⟨x, hx⟩ : ∃ x, x = q % 256 := ⟨_, rfl⟩
      have ex : (q : Int) % 256 = (x : Int) := by omega
      have xb : x < 256 := by omega
      have HX := Lib.hid hx
      clear hx
      go_wp2_with (refine wpList_append_txt rfl rfl BT rfl rfl (own_one wr 5 x) (HT.out.below' ((Below.refl _ _).alloc (Nat.le_refl _) _) (Nat.le_refl _)) (by simp; omega) (by simp) ?_; intro v1 w1 hown hg hat)
      have hB1 : Below w.heap.size w w1 := own_below (hB.alloc hB.size _) (own_one wr 5 x) hg hB.size (by simp; have := hB.size; omega)
      have el : [x] ++ beL m n = beL (m + 1) n := by rw [E2.out, HX.out]; rfl
      rw [el] at hown
      obtain ⟨A1, c1, hv1, ht1⟩ := hown.txt
      rw [beL_len] at hv1 ht1
      subst hv1
      have HO1 := Lib.hid (hown.mono hB.size)
      have HT1 := Lib.hid ht1
      clear hown ht1 el
      go_roundg (gk - 1)
      case measure => have := hm'.out; omega
      case rel =>
        have hm'' := hm'.out
        exact ⟨m + 1, A1, c1, by omega, by go_num, (by rw [E1.out]; congr 1), rfl, HT1.out, HO1.out, hB1⟩
    · obtain rfl : m = W := by have := hm'.out; omega
      go_wp2
      go_ret
      exact ⟨_, rfl, HO.out, hB⟩
end Go.Proofs.Ytfbfkfdkigpkgaa
