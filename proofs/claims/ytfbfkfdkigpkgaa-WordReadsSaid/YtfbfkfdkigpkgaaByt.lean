/- The walk of the reference's Bytes. -/
import Derived.Test.YtfbfkfdkigpkgaaTxt
namespace Go.Proofs.Ytfbfkfdkigpkgaa
set_option linter.unusedSimpArgs false
set_option linter.unusedVariables false
open Go.RowKit
attribute [local irreducible] beL beK

theorem cell_new1 (w : World) (v : Value) (t : TypeId) : (w.alloc (.cells #[v] t)).cell? ⟨w.heap.size, 0, none⟩ = some v := by
  rw [cell_of_row _ _ _ _ _ _ (heap_alloc_new w (.cells #[v] t))]; rfl
theorem cell_below {B : Nat} {w w' : World} {g o : Nat} {v : Value} (hb : Below B w w') (hg : g < B) (h : w.cell? ⟨g, o, none⟩ = some v) : w'.cell? ⟨g, o, none⟩ = some v := (hb.cell (p := ⟨g, o, none⟩) hg).trans h
theorem beL_cons (k n : Nat) : beL (k + 1) n = (n / 2 ^ (8 * k) % 256) :: beL k n := by
  unfold beL beK
  rw [List.range_succ_eq_map, List.map_cons, List.map_map]
  congr 1
  apply List.map_congr_left
  intro i hi
  have := List.mem_range.1 hi
  simp only [Function.comp]
  rw [show k + 1 - 1 - (i + 1) = k - 1 - i from by omega]
theorem beL_zero (n : Nat) : beL 0 n = [] := by unfold beL beK; rfl
theorem beL_len (k n : Nat) : (beL k n).length = k := by unfold beL; exact beK_len k n k
theorem own_one (w : World) (e : TypeId) (x : Nat) : Own (w.alloc (.cells #[bv x] e)) w.heap.size e (.slice (some ⟨w.heap.size, 0, none⟩) 1 1) [x] :=
  ⟨rfl, .inr ⟨w.heap.size, 1, #[bv x], rfl, Nat.le_refl _, heap_alloc_new w _, Nat.le_refl _, (by decide), rfl, rfl⟩⟩
set_option maxRecDepth 100000 in
set_option maxHeartbeats 2000000 in
theorem Bytes_any (W n : Nat) (hW : W ≤ 8) (hn : n < 18446744073709551616) (w : World) :
    Calls Try.prog 43 #[.int .i64 W, .int .u64 n] w (RetOwn w (beL W n)) := by
  have HN := Lib.hid hn
  clear hn
  go_enter Try.func43, Try.ntmps43
  go_wp2
  go_loopg [1, 5, 7] W (fun k x v i wr => ∃ (m : Nat) (A : Option Addr) (c : Nat), m + k = W ∧ i = .int .i64 m ∧ x = .int .u64 ((n / 2 ^ (8 * m) : Nat) : Int) ∧ v = .slice A m c ∧ Txt wr wr.heap.size A m c (beL m n) ∧ Own wr w.heap.size 5 v (beL m n) ∧ Below w.heap.size w wr)
  case atStart => exact ⟨0, none, 0, by omega, rfl, (by rw [Nat.mul_zero, Nat.pow_zero, Nat.div_one]), rfl, (by rw [beL_zero]; exact Txt.nil_), (by rw [beL_zero]; exact Own.nil_), Below.refl _ _⟩
  case round =>
    obtain ⟨m, A, c, hm, rfl, rfl, rfl, ht, ho, hB⟩ := hrel
    have hm' := Lib.hid hm
    have HT := Lib.hid ht
    have HO := Lib.hid ho
    clear hm ht ho
    by_cases hlt : m < W
    · obtain ⟨q, hq⟩ : ∃ q, q = n / 2 ^ (8 * m) := ⟨_, rfl⟩
      rw [← hq]
      have qb : q < 18446744073709551616 := by rw [hq]; exact Nat.lt_of_le_of_lt (Nat.div_le_self _ _) HN.out
      have e1 : n / 2 ^ (8 * (m + 1)) = q / 256 := by rw [hq, Nat.mul_add, Nat.pow_add, ← Nat.div_div_eq_div_mul]
      have e2 : beL (m + 1) n = (q % 256) :: beL m n := by rw [hq]; exact beL_cons m n
      have E1 := Lib.hid e1
      have E2 := Lib.hid e2
      clear hq e1 e2
      have qb' : (q : Int) ≤ 18446744073709551615 := by omega
      have QB := Lib.hid qb
      clear qb
      obtain ⟨x, hx⟩ : ∃ x, x = q % 256 := ⟨_, rfl⟩
      have ex : (q : Int) % 256 = (x : Int) := by omega
      have xb : x < 256 := by omega
      have HX := Lib.hid hx
      clear hx
      go_wp2_with (refine wpList_append_txt rfl rfl BT rfl rfl (own_one wr 5 x) (HT.out.below' ((Below.refl _ _).alloc (Nat.le_refl _) _) (Nat.le_refl _)) (by simp; omega) (by simp) ?_; intro v1 w1 hown hg hat)
      have hB1 : Below w.heap.size w w1 := own_below (hB.alloc hB.size _) (own_one wr 5 x) hg hB.size (by simp; have := hB.size; omega)
      have el : [x] ++ beL m n = beL (m + 1) n := by rw [E2.out, HX.out]; rfl
      rw [el] at hown
      obtain ⟨A1, c1, hv1, ht1⟩ := hown.txt
      rw [beL_len] at hv1 ht1
      subst hv1
      have HO1 := Lib.hid (hown.mono hB.size)
      have HT1 := Lib.hid ht1
      clear hown ht1 el
      go_roundg (gk - 1)
      case measure => have := hm'.out; omega
      case rel =>
        have hm'' := hm'.out
        exact ⟨m + 1, A1, c1, by omega, by go_num, (by rw [E1.out]; congr 1), rfl, HT1.out, HO1.out, hB1⟩
    · obtain rfl : m = W := by have := hm'.out; omega
      go_wp2
      go_ret
      exact ⟨_, rfl, HO.out, hB⟩
end Go.Proofs.Ytfbfkfdkigpkgaa
