/- The walk of slices.Clone of a text. -/
import Derived.Test.YtfbfkfdkigpkgaaTxt
namespace Go.Proofs.Ytfbfkfdkigpkgaa
set_option linter.unusedSimpArgs false
set_option linter.unusedVariables false
open Go.RowKit

theorem Clone_any (A : Option Addr) (n c : Nat) (l : List Nat) (w : World) (h : Txt w w.heap.size A n c l) (hn : n ≤ 140737488355328) :
    Calls Try.prog 95 #[.slice A n c] w (RetOwn w l) := by
  cases A with
  | none =>
    obtain ⟨rfl, rfl⟩ := h.nil rfl
    obtain rfl : l = [] := List.eq_nil_of_length_eq_zero h.len
    have he := fun w => Lib.run_eql_slice_nil (P := Try.prog) w 22 5 none 0 0 0 0 Try.underlying22
    go_enter Try.func95, Try.ntmps95
    go_wp2
    go_ret
    exact ⟨_, rfl, Own.nil_, Below.refl _ _⟩
  | some ad =>
    have he := fun w => Lib.run_eql_slice_nil (P := Try.prog) w 22 5 (some ad) n c 0 0 Try.underlying22
    have ho := own_empty w 5
    have hb : Below w.heap.size w (w.alloc (.cells #[] 5)) := (Below.refl _ _).alloc (Nat.le_refl _) _
    go_enter Try.func95, Try.ntmps95
    go_wp2_with (refine wpList_append_txt rfl rfl BT (l := []) rfl rfl ho (h.below hb) (by simpa using hn) (by simp) ?_; intro v1 w1 hown hg hat)
    go_ret
    exact ⟨v1, rfl, by simpa using hown, own_below hb ho hg (Nat.le_refl _) (by simp)⟩
set_option maxRecDepth 100000 in
set_option maxHeartbeats 1000000 in
theorem put_any (v : Value) (l : List Nat) (base : Nat) (W n : Nat) (hW : W ≤ 8) (hn : n < 18446744073709551616) (hl : l.length + 8 ≤ 140737488355328) (w : World) (hown : Own w base 5 v l) (hbase : base ≤ w.heap.size) :
    Calls Try.prog 99 #[v, .int .i64 W, .int .u64 n] w fun e w' => (∃ v', e = .returned v' ∧ Own w' base 5 v' (l ++ beL W n)) ∧ Below base w w' := by
  go_enter Try.func99, Try.ntmps99
  go_wp2
  have hown' := Lib.hid hown
  clear hown
  go_loopg [0, 7] W (fun k v i wr => i = .int .i64 ((k : Int) - 1) ∧ k ≤ W ∧ Own wr base 5 v (l ++ beK W n (W - k)) ∧ Below base w wr ∧ base ≤ wr.heap.size)
  case atStart => exact ⟨rfl, Nat.le_refl _, (by rw [Nat.sub_self]; unfold beK; simpa using hown'.out), Below.refl _ _, hbase⟩
  case round =>
    obtain ⟨rfl, hk, ho, hB, hs⟩ := hrel
    have ho' := Lib.hid ho
    clear ho
    rcases Nat.eq_zero_or_pos gk with hz | hz
    · subst hz
      go_wp2
      go_ret
      refine ⟨⟨_, rfl, ?_⟩, hB⟩
      exact ho'.out
    · obtain ⟨k, rfl⟩ : ∃ k, gk = k + 1 := ⟨gk - 1, by omega⟩
      have ek : ((k + 1 : Nat) : Int) - 1 = (k : Int) := by omega
      rw [ek]
      obtain ⟨x, hx⟩ : ∃ x, x = n / 2 ^ (8 * k) % 256 := ⟨_, rfl⟩
      have ex : (n : Int) / 2 ^ (8 * k) % 256 = (x : Int) := by rw [hx, Int.natCast_emod, Int.natCast_ediv, Int.natCast_pow]; rfl
      have en : beK W n (W - (k + 1)) ++ [x] = beK W n (W - k) := by
        rw [show W - k = (W - (k + 1)) + 1 from by omega, beK_succ, hx, show W - 1 - (W - (k + 1)) = k from by omega]
      have EN := Lib.hid en
      have bl := beK_len W n (W - (k + 1))
      have BL := Lib.hid bl
      clear hz ek hx en bl
      go_wp2_with (refine wpList_append_txt rfl rfl BT rfl rfl (ho'.out.alloc (.cells #[bv x] 5)) (txt_one wr 5 x) (by have := BL.out; simp; omega) (by simp; omega) ?_; intro v1 w1 hown hg hat)
      have hb1 := own_below (hB.alloc hs (.cells #[bv x] 5)) (ho'.out.alloc (.cells #[bv x] 5)) hg (Nat.le_refl _) (by simp; omega)
      go_roundg k
      case measure => omega
      case rel => exact ⟨by go_num, by omega, (by rw [← EN.out, ← List.append_assoc]; exact hown), hb1, Nat.le_trans hs (Nat.le_trans (by simp) hg.size)⟩
end Go.Proofs.Ytfbfkfdkigpkgaa
