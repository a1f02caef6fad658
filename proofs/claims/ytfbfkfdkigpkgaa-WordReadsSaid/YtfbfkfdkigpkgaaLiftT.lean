/- Arguments that come in, opened: texts, and structs of four with texts. No program is in sight. -/
import Derived.Test.YtfbfkfdkigpkgaaLift
import Derived.Test.YtfbfkfdkigpkgaaRow
import Derived.ChangeSlices
import Derived.Lib.SmallJoins
namespace Go.Proofs.Ytfbfkfdkigpkgaa
set_option linter.unusedSimpArgs false
set_option linter.unusedVariables false
open Go.ChangeShapes Go.WideShapes Go.ChangeAt Go.RowKit

section
variable {H : Type} {enc : TypeId × Value → H} {P : Program} {w : World} {base : Nat} {spare : Nat → Bool} {held : Bool} {t e : TypeId} {v : Value} {fuel : Nat} {x : DataW H × List MemPlace}
theorem open_num {k : IntKind} (ht : P.underlying t = some (.int k)) (h : DataW.trod enc P w base spare held fuel t [v] = some x) : ∃ n : Int, v = .int k n ∧ (Lit.int k n).wf = true := by
  obtain ⟨n, h1, h2, hw⟩ := DataW.trod_int ht h
  exact ⟨n, by simpa using h1, hw⟩
/-- A text that comes in. -/
theorem open_txt (hT : ByteT P t e) (hc : P.cellsOf e = 1) (h : DataW.trod enc P w base spare held fuel t [v] = some x) :
    ∃ (A : Option Addr) (n c : Nat) (m : List Nat), v = .slice A n c ∧ n ≤ 9223372036854775807 ∧ Txt w w.heap.size A n c m ∧ ∀ y ∈ m, y < 256 := by
  rcases Go.ChangeShapes.open_ints hT.sl hT.el hc h with ⟨h1, _⟩ | ⟨a, len, cap, zs, h1, hb, hl, hm, hz, _, hcell, hwf⟩
  · exact ⟨none, 0, 0, [], by simpa using h1, by omega, Txt.nil_, by simp⟩
  · have hle : len ≤ zs.length := by rw [hz]; split <;> omega
    have hw : ∀ n ∈ zs, 0 ≤ n ∧ n < 256 := fun n hn => wfb_u8 (hwf n hn)
    have hm' : cap ≤ 9223372036854775807 := hm
    refine ⟨some a, len, cap, (zs.take len).map Int.toNat, by simpa using h1, by omega, ⟨by simp; omega, (fun he => by cases he), fun hn => ?_⟩, ?_⟩
    · refine ⟨a, rfl, ?_, fun i y hy => ?_⟩
      · have h0 := World.block_lt_of_cell? _ _ (hcell 0 (by omega))
        rwa [add_block] at h0
      · rw [List.getElem?_map, Option.map_eq_some_iff] at hy
        obtain ⟨z, hz1, rfl⟩ := hy
        have hi : i < len := by
          have := (List.getElem?_eq_some_iff.1 hz1).1
          simp at this
          omega
        rw [List.getElem?_take_of_lt hi] at hz1
        have hz2 := hw z (List.mem_of_getElem? hz1)
        rw [hcell i (by omega), List.getD_eq_getElem?_getD, hz1]
        unfold bv
        rw [Int.toNat_of_nonneg hz2.1]
        rfl
    · intro y hy
      obtain ⟨z, hz1, rfl⟩ := List.mem_map.1 hy
      have := hw z (List.mem_of_mem_take hz1)
      omega
end
end Go.Proofs.Ytfbfkfdkigpkgaa
