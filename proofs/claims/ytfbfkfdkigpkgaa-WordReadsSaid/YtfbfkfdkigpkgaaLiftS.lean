/- Texts that come in, opened, with a bound that memory sets. No program is in sight. -/
import Derived.Test.YtfbfkfdkigpkgaaLiftT
import Derived.SizedLaws
namespace Go.Proofs.Ytfbfkfdkigpkgaa
set_option linter.unusedSimpArgs false
set_option linter.unusedVariables false
open Go.ChangeShapes Go.WideShapes Go.ChangeAt Go.RowKit

section
variable {H : Type} {enc : TypeId × Value → H} {P : Program} {w : World} {base : Nat} {spare : Nat → Bool} {held : Bool} {t e : TypeId} {v : Value} {fuel : Nat} {d : DataW H} {p : List MemPlace}
/-- A text that comes in, and what it weighs. -/
theorem open_txtS (hT : ByteT P t e) (hc : P.cellsOf e = 1) (hbt : P.bytesOf e = 1) {ts : List TypeId} {ds : List (DataW H)} (hz : (DataW.weightsEach P ts ds).all (· ≤ reachBytes) = true) (j : Nat) (ht : ts[j]? = some t) (hd : ds[j]? = some d) (h : DataW.trod enc P w base spare held fuel t [v] = some (d, p)) :
    ∃ (A : Option Addr) (n c : Nat) (m : List Nat), v = .slice A n c ∧ n ≤ 140737488355328 ∧ Txt w w.heap.size A n c m ∧ ∀ y ∈ m, y < 256 := by
  obtain ⟨A, n, c, m, rfl, _, htx, hm⟩ := open_txt hT hc h
  refine ⟨A, n, c, m, rfl, ?_, htx, hm⟩
  rcases Go.ChangeShapes.open_ints hT.sl hT.el hc h with ⟨h1, _⟩ | ⟨a, len, cap, zs, h1, hb, hl, hm2, hzs, hx, _, _⟩
  · injection h1 with h1
    injection h1 with _ h1
    omega
  · injection h1 with h1
    injection h1 with _ h1
    subst h1
    injection hx with hx _
    have hs := sized_slice hz ht (hx ▸ hd) hT.sl
    rw [hbt] at hs
    have hr : reachBytes < 140737488355328 := by decide
    have hle : n ≤ zs.length := by rw [hzs]; split <;> omega
    have hl2 : (lits (H := H) .u8 (zs.take n)).length = n := by unfold lits; simp; omega
    omega
/-- .. and its room. -/
theorem open_txtC (hT : ByteT P t e) (hc : P.cellsOf e = 1) (hbt : P.bytesOf e = 1) {ts : List TypeId} {ds : List (DataW H)} (hz : (DataW.weightsEach P ts ds).all (· ≤ reachBytes) = true) (j : Nat) (ht : ts[j]? = some t) (hd : ds[j]? = some d) (h : DataW.trod enc P w base spare held fuel t [v] = some (d, p)) :
    ∃ (A : Option Addr) (n c : Nat) (m : List Nat), v = .slice A n c ∧ (n ≤ 140737488355328 ∧ n ≤ c) ∧ Txt w w.heap.size A n c m ∧ ∀ y ∈ m, y < 256 := by
  obtain ⟨A, n, c, m, rfl, h1, htx, hm⟩ := open_txtS hT hc hbt hz j ht hd h
  refine ⟨A, n, c, m, rfl, ⟨h1, ?_⟩, htx, hm⟩
  rcases Go.ChangeShapes.open_ints hT.sl hT.el hc h with ⟨h1, _⟩ | ⟨a, len, cap, zs, h1, hb, hl, _⟩
  · injection h1 with h1
    injection h1 with _ h1 h2
    omega
  · injection h1 with h1
    injection h1 with _ h1 h2
    omega
end
end Go.Proofs.Ytfbfkfdkigpkgaa
