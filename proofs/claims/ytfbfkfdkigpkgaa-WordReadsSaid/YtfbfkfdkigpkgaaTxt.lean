/- The walks of texts: copies, sameness, a number's bytes. -/
import Derived.Test.YtfbfkfdkigpkgaaRow
import Derived.Test.YtfbfkfdkigpkgaaRows
import Derived.Test.YtfbfkfdkigpkgaaCan
import Derived.Lib.SliceRun
import Derived.Laws.IdiomStrings
namespace Go.Proofs.Ytfbfkfdkigpkgaa
set_option linter.unusedSimpArgs false
set_option linter.unusedVariables false
open Go.RowKit

theorem BT : ByteT Try.prog 22 5 := ⟨Try.underlying22, Try.underlying5, by kernel_rfl⟩
/-- A text that is handed back: a row of the call's own. -/
def RetOwn (w : World) (l : List Nat) (e : Ending) (w' : World) : Prop := ∃ v, e = .returned v ∧ Own w' w.heap.size 5 v l ∧ Below w.heap.size w w'

theorem Copy_any (A : Option Addr) (n c : Nat) (l : List Nat) (w : World) (h : Txt w w.heap.size A n c l) (hn : n ≤ 140737488355328) :
    Calls Try.prog 34 #[.slice A n c] w (RetOwn w l) := by
  go_enter Try.func34, Try.ntmps34
  go_wp2_with (refine wpList_append_txt rfl rfl BT (v := .slice none 0 0) (l := []) rfl rfl Own.nil_ h (by simpa using hn) (Nat.le_refl _) ?_; intro v1 w1 hown hg hat)
  go_ret
  exact ⟨v1, rfl, by simpa using hown, (Below.refl _ _).grown hg (Nat.le_refl _) (fun k hk => by cases hk)⟩

theorem own_empty (w : World) (e : TypeId) : Own (w.alloc (.cells #[] e)) w.heap.size e (.slice (some ⟨w.heap.size, 0, none⟩) 0 0) [] :=
  ⟨rfl, .inr ⟨w.heap.size, 0, #[], rfl, Nat.le_refl _, heap_alloc_new w _, Nat.le_refl _, Nat.zero_le _, rfl, rfl⟩⟩
theorem Same_txt (A : Option Addr) (n c : Nat) (l : List Nat) (A' : Option Addr) (n' c' : Nat) (l' : List Nat) (B : Nat) (w : World) (h : Txt w B A n c l) (h' : Txt w B A' n' c' l') (hl : ∀ x ∈ l, x < 256) (hl' : ∀ x ∈ l', x < 256) :
    Calls Try.prog 16 #[.slice A n c, .slice A' n' c'] w fun e w' => e = .returned (.bool (decide (l = l'))) ∧ w = w' := by
  have e1 := run_bytes_string (P := Try.prog) (dst := 9) BT Try.underlying9 h hl
  have e2 := run_bytes_string (P := Try.prog) (dst := 9) BT Try.underlying9 h' hl'
  go_enter Try.func16, Try.ntmps16
  go_wp2
  go_ret
  refine ⟨?_, rfl⟩
  show Ending.returned (Value.bool _) = Ending.returned (Value.bool _)
  rw [show (List.map UInt8.ofNat l == List.map UInt8.ofNat l') = decide (l = l') from by rw [Bool.eq_iff_iff, beq_iff_eq, decide_eq_true_eq, ofNat_inj hl hl']]

/-- The first k bytes of a number's, the highest first. -/
def beK (w n k : Nat) : List Nat := (List.range k).map fun i => n / 2 ^ (8 * (w - 1 - i)) % 256
/-- A number's bytes, the highest first. -/
def beL (w n : Nat) : List Nat := beK w n w
theorem beK_len (w n k : Nat) : (beK w n k).length = k := by unfold beK; simp
theorem beK_succ (w n k : Nat) : beK w n (k + 1) = beK w n k ++ [n / 2 ^ (8 * (w - 1 - k)) % 256] := by unfold beK; rw [List.range_succ, List.map_append]; rfl
theorem beL_lt (w n : Nat) : ∀ x ∈ beL w n, x < 256 := fun x hx => by
  unfold beL beK at hx
  obtain ⟨i, _, rfl⟩ := List.mem_map.1 hx
  exact Nat.mod_lt _ (by omega)
attribute [local irreducible] beK
theorem txt_one (w : World) (e : TypeId) (x : Nat) : Txt (w.alloc (.cells #[bv x] e)) (w.heap.size + 1) (some ⟨w.heap.size, 0, none⟩) 1 1 [x] :=
  ⟨rfl, (fun e => by cases e), fun _ => ⟨_, rfl, Nat.lt_succ_self _, fun i y hy => by
    cases i with
    | zero =>
      simp only [List.getElem?_cons_zero, Option.some.injEq] at hy
      subst hy
      rw [addr_add, cell_of_row _ _ _ _ _ _ (heap_alloc_new w (.cells #[bv x] e))]
      rfl
    | succ i => simp at hy⟩⟩
end Go.Proofs.Ytfbfkfdkigpkgaa
