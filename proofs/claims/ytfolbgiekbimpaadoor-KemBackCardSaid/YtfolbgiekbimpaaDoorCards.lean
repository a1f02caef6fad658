/-
  DERIVED. GIVEN WITH THE SEED: THE CARDS: each row of YtfolbgiekbimpaaDoorRows.lean that lists a variable, with what it lists TIED to the program's text (the seventh form; the later family's looks); each row that meets fmt, with fmt's text TOLD by the authors' own Lean function (tested against real Go, not proved from fmt's source: count such statements apart). THE CARD IS WHAT COUNTS. Prove the row's statement (the work); the ties are given (YtfolbgiekbimpaaDoorTie.lean); close each card by the builder's one call (the guide's Derived/Test/ToyasCard.lean, 'card_holds'). Laid BY PROGRAM, IN A SANDBOX (cutbox-door.mjs). By AI agents, Wed Nov 11 2026. No macro, syntax, notation, axiom, sorry.
-/
import Derived.Test.YtfolbgiekbimpaaDoorRows
import GoSem.ClaimSeven
namespace Go.Proofs.YtfolbgiekbimpaaDoor
namespace Rows

/-- THE TIED CARD OF 'coterielaw08.KemMeets'. -/
def kemMeetsCard : Claim7 := { stood := { row := kemMeetsRow, standIns := [], harness := (true, "c740f5c6b2c57300d3e1df2551837943a969e276f3098860ada1508b80e698ed"), looks := false }, kinds := [], alts := [], laidByText := true, laidKinds := [.sentinel, .data], laidTests := true, laidLooks := .later }
def KemMeetsCardSaid : Prop := Claim7.holds Tryd.pinned (.plain (OpenSpec.ofChange kemMeetsSpec)) kemMeetsCard

/-- THE TIED CARD OF 'coterielaw08.KemSeeds'. -/
def kemSeedsCard : Claim7 := { stood := { row := kemSeedsRow, standIns := [], harness := (true, "c740f5c6b2c57300d3e1df2551837943a969e276f3098860ada1508b80e698ed"), looks := false }, kinds := [], alts := [], laidByText := true, laidKinds := [.sentinel, .data], laidTests := true, laidLooks := .later }
def KemSeedsCardSaid : Prop := Claim7.holds Tryd.pinned (.plain (OpenSpec.ofChange kemSeedsSpec)) kemSeedsCard

/-- THE TIED CARD OF 'coterielaw08.KemBack'. -/
def kemBackCard : Claim7 := { stood := { row := kemBackRow, standIns := [], harness := (true, "c740f5c6b2c57300d3e1df2551837943a969e276f3098860ada1508b80e698ed"), looks := false }, kinds := [], alts := [], laidByText := true, laidKinds := [.sentinel, .data], laidTests := true, laidLooks := .later }
def KemBackCardSaid : Prop := Claim7.holds Tryd.pinned (.plain (OpenSpec.ofChange kemBackSpec)) kemBackCard

/-- THE SECOND FORM's CARD OF 'coterielaw08.KemMeets'. -/
def kemMeetsUptoCard : Claim7 := { stood := { row := kemMeetsUptoRow, standIns := [], harness := (true, "c740f5c6b2c57300d3e1df2551837943a969e276f3098860ada1508b80e698ed"), looks := false }, kinds := [], alts := [], laidByText := true, laidKinds := [.sentinel, .data], laidTests := true, laidLooks := .later }
def KemMeetsUptoCardSaid : Prop := Claim7.holds Tryd.pinned (.plain (OpenSpec.upto kemMeetsSpec)) kemMeetsUptoCard

/-- THE SECOND FORM's CARD OF 'coterielaw08.KemSeeds'. -/
def kemSeedsUptoCard : Claim7 := { stood := { row := kemSeedsUptoRow, standIns := [], harness := (true, "c740f5c6b2c57300d3e1df2551837943a969e276f3098860ada1508b80e698ed"), looks := false }, kinds := [], alts := [], laidByText := true, laidKinds := [.sentinel, .data], laidTests := true, laidLooks := .later }
def KemSeedsUptoCardSaid : Prop := Claim7.holds Tryd.pinned (.plain (OpenSpec.upto kemSeedsSpec)) kemSeedsUptoCard

/-- THE SECOND FORM's CARD OF 'coterielaw08.KemBack'. -/
def kemBackUptoCard : Claim7 := { stood := { row := kemBackUptoRow, standIns := [], harness := (true, "c740f5c6b2c57300d3e1df2551837943a969e276f3098860ada1508b80e698ed"), looks := false }, kinds := [], alts := [], laidByText := true, laidKinds := [.sentinel, .data], laidTests := true, laidLooks := .later }
def KemBackUptoCardSaid : Prop := Claim7.holds Tryd.pinned (.plain (OpenSpec.upto kemBackSpec)) kemBackUptoCard
end Rows
end Go.Proofs.YtfolbgiekbimpaaDoor
