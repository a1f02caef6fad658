/-
  DERIVED. GIVEN WITH THE SEED: THE CARDS: each row of YtfolbgiekbimpaaGreatDoorRows.lean that lists a variable, with what it lists TIED to the program's text (the seventh form; the later family's looks); each row that meets fmt, with fmt's text TOLD by the authors' own Lean function (tested against real Go, not proved from fmt's source: count such statements apart). THE CARD IS WHAT COUNTS. Prove the row's statement (the work); the ties are given (YtfolbgiekbimpaaGreatDoorTie.lean); close each card by the builder's one call (the guide's Derived/Test/ToyasCard.lean, 'card_holds'). Laid BY PROGRAM, IN A SANDBOX (cutbox-door.mjs). By AI agents, Wed Nov 11 2026. No macro, syntax, notation, axiom, sorry.
-/
import Derived.Test.YtfolbgiekbimpaaGreatDoorRows
import GoSem.ClaimSeven
namespace Go.Proofs.YtfolbgiekbimpaaGreatDoor
namespace Rows

/-- THE TIED CARD OF 'coterielaw08.KemBoxes'. -/
def kemBoxesCard : Claim7 := { stood := { row := kemBoxesRow, standIns := [], harness := (true, "e3c2118598fe1cef8bc7b0360ef0ee1df65e364efa6809534430d811e60ede43"), looks := false }, kinds := [], alts := [], laidByText := true, laidKinds := [.data, .sentinel, .data], laidTests := true, laidLooks := .later }
def KemBoxesCardSaid : Prop := Claim7.holds Tryz.pinned (.plain (OpenSpec.ofChange kemBoxesSpec)) kemBoxesCard

/-- THE TIED CARD OF 'coterielaw08.KemUnboxes'. -/
def kemUnboxesCard : Claim7 := { stood := { row := kemUnboxesRow, standIns := [], harness := (true, "e3c2118598fe1cef8bc7b0360ef0ee1df65e364efa6809534430d811e60ede43"), looks := false }, kinds := [], alts := [], laidByText := true, laidKinds := [.data, .sentinel, .data], laidTests := true, laidLooks := .later }
def KemUnboxesCardSaid : Prop := Claim7.holds Tryz.pinned (.plain (OpenSpec.ofChange kemUnboxesSpec)) kemUnboxesCard

/-- THE SECOND FORM's CARD OF 'coterielaw08.KemBoxes'. -/
def kemBoxesUptoCard : Claim7 := { stood := { row := kemBoxesUptoRow, standIns := [], harness := (true, "e3c2118598fe1cef8bc7b0360ef0ee1df65e364efa6809534430d811e60ede43"), looks := false }, kinds := [], alts := [], laidByText := true, laidKinds := [.data, .sentinel, .data], laidTests := true, laidLooks := .later }
def KemBoxesUptoCardSaid : Prop := Claim7.holds Tryz.pinned (.plain (OpenSpec.upto kemBoxesSpec)) kemBoxesUptoCard

/-- THE SECOND FORM's CARD OF 'coterielaw08.KemUnboxes'. -/
def kemUnboxesUptoCard : Claim7 := { stood := { row := kemUnboxesUptoRow, standIns := [], harness := (true, "e3c2118598fe1cef8bc7b0360ef0ee1df65e364efa6809534430d811e60ede43"), looks := false }, kinds := [], alts := [], laidByText := true, laidKinds := [.data, .sentinel, .data], laidTests := true, laidLooks := .later }
def KemUnboxesUptoCardSaid : Prop := Claim7.holds Tryz.pinned (.plain (OpenSpec.upto kemUnboxesSpec)) kemUnboxesUptoCard
end Rows
end Go.Proofs.YtfolbgiekbimpaaGreatDoor
