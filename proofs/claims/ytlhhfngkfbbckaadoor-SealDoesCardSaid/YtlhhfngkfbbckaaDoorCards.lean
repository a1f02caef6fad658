/-
  DERIVED. GIVEN WITH THE SEED: THE CARDS: each row of YtlhhfngkfbbckaaDoorRows.lean that lists a variable, with what it lists TIED to the program's text (the seventh form; the later family's looks); each row that meets fmt, with fmt's text TOLD by the authors' own Lean function (tested against real Go, not proved from fmt's source: count such statements apart). THE CARD IS WHAT COUNTS. Prove the row's statement (the work); the ties are given (YtlhhfngkfbbckaaDoorTie.lean); close each card by the builder's one call (the guide's Derived/Test/ToyasCard.lean, 'card_holds'). Laid BY PROGRAM, IN A SANDBOX (cutbox-door.mjs). By AI agents, Wed Nov 11 2026. No macro, syntax, notation, axiom, sorry.
-/
import Derived.Test.YtlhhfngkfbbckaaDoorRows
import GoSem.ClaimSeven
namespace Go.Proofs.YtlhhfngkfbbckaaDoor
namespace Rows

/-- THE TIED CARD OF 'coterielaw07.SealStream'. -/
def sealStreamCard : Claim7 := { stood := { row := sealStreamRow, standIns := [], harness := (true, "b4588ff50ccb30ed89667c18e3f0486e615bb30b81640e1add8f69bd6d9c22a9"), looks := false }, kinds := [], alts := [], laidByText := true, laidKinds := [.sentinel, .data], laidTests := true, laidLooks := .later }
def SealStreamCardSaid : Prop := Claim7.holds Tryd.pinned (.plain (OpenSpec.ofChange sealStreamSpec)) sealStreamCard

/-- THE TIED CARD OF 'coterielaw07.SealPrefix'. -/
def sealPrefixCard : Claim7 := { stood := { row := sealPrefixRow, standIns := [], harness := (true, "b4588ff50ccb30ed89667c18e3f0486e615bb30b81640e1add8f69bd6d9c22a9"), looks := false }, kinds := [], alts := [], laidByText := true, laidKinds := [.sentinel, .data], laidTests := true, laidLooks := .later }
def SealPrefixCardSaid : Prop := Claim7.holds Tryd.pinned (.plain (OpenSpec.ofChange sealPrefixSpec)) sealPrefixCard

/-- THE TIED CARD OF 'coterielaw07.SealTail'. -/
def sealTailCard : Claim7 := { stood := { row := sealTailRow, standIns := [], harness := (true, "b4588ff50ccb30ed89667c18e3f0486e615bb30b81640e1add8f69bd6d9c22a9"), looks := false }, kinds := [], alts := [], laidByText := true, laidKinds := [.sentinel, .data], laidTests := true, laidLooks := .later }
def SealTailCardSaid : Prop := Claim7.holds Tryd.pinned (.plain (OpenSpec.ofChange sealTailSpec)) sealTailCard

/-- THE TIED CARD OF 'coterielaw07.SealDoes'. -/
def sealDoesCard : Claim7 := { stood := { row := sealDoesRow, standIns := [], harness := (true, "b4588ff50ccb30ed89667c18e3f0486e615bb30b81640e1add8f69bd6d9c22a9"), looks := false }, kinds := [], alts := [], laidByText := true, laidKinds := [.data, .sentinel, .data], laidTests := true, laidLooks := .later }
def SealDoesCardSaid : Prop := Claim7.holds Tryd.pinned (.plain (OpenSpec.ofChange sealDoesSpec)) sealDoesCard

/-- THE TIED CARD OF 'coterielaw07.SealBack'. -/
def sealBackCard : Claim7 := { stood := { row := sealBackRow, standIns := [], harness := (true, "b4588ff50ccb30ed89667c18e3f0486e615bb30b81640e1add8f69bd6d9c22a9"), looks := false }, kinds := [], alts := [], laidByText := true, laidKinds := [.sentinel, .data], laidTests := true, laidLooks := .later }
def SealBackCardSaid : Prop := Claim7.holds Tryd.pinned (.plain (OpenSpec.ofChange sealBackSpec)) sealBackCard

/-- THE SECOND FORM's CARD OF 'coterielaw07.SealStream'. -/
def sealStreamUptoCard : Claim7 := { stood := { row := sealStreamUptoRow, standIns := [], harness := (true, "b4588ff50ccb30ed89667c18e3f0486e615bb30b81640e1add8f69bd6d9c22a9"), looks := false }, kinds := [], alts := [], laidByText := true, laidKinds := [.sentinel, .data], laidTests := true, laidLooks := .later }
def SealStreamUptoCardSaid : Prop := Claim7.holds Tryd.pinned (.plain (OpenSpec.upto sealStreamSpec)) sealStreamUptoCard

/-- THE SECOND FORM's CARD OF 'coterielaw07.SealPrefix'. -/
def sealPrefixUptoCard : Claim7 := { stood := { row := sealPrefixUptoRow, standIns := [], harness := (true, "b4588ff50ccb30ed89667c18e3f0486e615bb30b81640e1add8f69bd6d9c22a9"), looks := false }, kinds := [], alts := [], laidByText := true, laidKinds := [.sentinel, .data], laidTests := true, laidLooks := .later }
def SealPrefixUptoCardSaid : Prop := Claim7.holds Tryd.pinned (.plain (OpenSpec.upto sealPrefixSpec)) sealPrefixUptoCard

/-- THE SECOND FORM's CARD OF 'coterielaw07.SealTail'. -/
def sealTailUptoCard : Claim7 := { stood := { row := sealTailUptoRow, standIns := [], harness := (true, "b4588ff50ccb30ed89667c18e3f0486e615bb30b81640e1add8f69bd6d9c22a9"), looks := false }, kinds := [], alts := [], laidByText := true, laidKinds := [.sentinel, .data], laidTests := true, laidLooks := .later }
def SealTailUptoCardSaid : Prop := Claim7.holds Tryd.pinned (.plain (OpenSpec.upto sealTailSpec)) sealTailUptoCard

/-- THE SECOND FORM's CARD OF 'coterielaw07.SealDoes'. -/
def sealDoesUptoCard : Claim7 := { stood := { row := sealDoesUptoRow, standIns := [], harness := (true, "b4588ff50ccb30ed89667c18e3f0486e615bb30b81640e1add8f69bd6d9c22a9"), looks := false }, kinds := [], alts := [], laidByText := true, laidKinds := [.data, .sentinel, .data], laidTests := true, laidLooks := .later }
def SealDoesUptoCardSaid : Prop := Claim7.holds Tryd.pinned (.plain (OpenSpec.upto sealDoesSpec)) sealDoesUptoCard

/-- THE SECOND FORM's CARD OF 'coterielaw07.SealBack'. -/
def sealBackUptoCard : Claim7 := { stood := { row := sealBackUptoRow, standIns := [], harness := (true, "b4588ff50ccb30ed89667c18e3f0486e615bb30b81640e1add8f69bd6d9c22a9"), looks := false }, kinds := [], alts := [], laidByText := true, laidKinds := [.sentinel, .data], laidTests := true, laidLooks := .later }
def SealBackUptoCardSaid : Prop := Claim7.holds Tryd.pinned (.plain (OpenSpec.upto sealBackSpec)) sealBackUptoCard
end Rows
end Go.Proofs.YtlhhfngkfbbckaaDoor
