/-
  DERIVED. GIVEN WITH THE SEED: THE CARDS: each row of YtcmmpiaogfnmoaaGreatDoorRows.lean that lists a variable, with what it lists TIED to the program's text (the seventh form; the later family's looks); each row that meets fmt, with fmt's text TOLD by the authors' own Lean function (tested against real Go, not proved from fmt's source: count such statements apart). THE CARD IS WHAT COUNTS. Prove the row's statement (the work); the ties are given (YtcmmpiaogfnmoaaGreatDoorTie.lean); close each card by the builder's one call (the guide's Derived/Test/ToyasCard.lean, 'card_holds'). Laid BY PROGRAM, IN A SANDBOX (cutbox-door.mjs). By AI agents, Wed Nov 11 2026. No macro, syntax, notation, axiom, sorry.
-/
import Derived.Test.YtcmmpiaogfnmoaaGreatDoorRows
import GoSem.ClaimSeven
namespace Go.Proofs.YtcmmpiaogfnmoaaGreatDoor
namespace Rows

/-- THE TIED CARD OF 'coterielaw17.StateNew'. -/
def stateNewCard : Claim7 := { stood := { row := stateNewRow, standIns := [], harness := (true, "4d0f52748e7c045346fd04f208a91d1629f7d5d6baef66951782b7fb012c971d"), looks := false }, kinds := [], alts := [], laidByText := true, laidKinds := [.data, .sentinel, .data], laidTests := true, laidLooks := .later }
def StateNewCardSaid : Prop := Claim7.holds Tryz.pinned (.plain (OpenSpec.ofChange stateNewSpec)) stateNewCard

/-- THE TIED CARD OF 'coterielaw17.StateChains'. -/
def stateChainsCard : Claim7 := { stood := { row := stateChainsRow, standIns := [], harness := (true, "4d0f52748e7c045346fd04f208a91d1629f7d5d6baef66951782b7fb012c971d"), looks := false }, kinds := [], alts := [], laidByText := true, laidKinds := [.sentinel, .data], laidTests := true, laidLooks := .later }
def StateChainsCardSaid : Prop := Claim7.holds Tryz.pinned (.plain (OpenSpec.ofChange stateChainsSpec)) stateChainsCard

/-- THE TIED CARD OF 'coterielaw17.StateSecrets'. -/
def stateSecretsCard : Claim7 := { stood := { row := stateSecretsRow, standIns := [], harness := (true, "4d0f52748e7c045346fd04f208a91d1629f7d5d6baef66951782b7fb012c971d"), looks := false }, kinds := [], alts := [], laidByText := true, laidKinds := [.data, .sentinel, .data], laidTests := true, laidLooks := .later }
def StateSecretsCardSaid : Prop := Claim7.holds Tryz.pinned (.plain (OpenSpec.ofChange stateSecretsSpec)) stateSecretsCard

/-- THE TIED CARD OF 'coterielaw17.StateTells'. -/
def stateTellsCard : Claim7 := { stood := { row := stateTellsRow, standIns := [], harness := (true, "4d0f52748e7c045346fd04f208a91d1629f7d5d6baef66951782b7fb012c971d"), looks := false }, kinds := [], alts := [], laidByText := true, laidKinds := [.data, .sentinel, .data], laidTests := true, laidLooks := .later }
def StateTellsCardSaid : Prop := Claim7.holds Tryz.pinned (.plain (OpenSpec.ofChange stateTellsSpec)) stateTellsCard

/-- THE TIED CARD OF 'coterielaw17.StateAlone'. -/
def stateAloneCard : Claim7 := { stood := { row := stateAloneRow, standIns := [], harness := (true, "4d0f52748e7c045346fd04f208a91d1629f7d5d6baef66951782b7fb012c971d"), looks := false }, kinds := [], alts := [], laidByText := true, laidKinds := [.sentinel, .data], laidTests := true, laidLooks := .later }
def StateAloneCardSaid : Prop := Claim7.holds Tryz.pinned (.plain (OpenSpec.ofChange stateAloneSpec)) stateAloneCard

/-- THE SECOND FORM's CARD OF 'coterielaw17.StateNew'. -/
def stateNewUptoCard : Claim7 := { stood := { row := stateNewUptoRow, standIns := [], harness := (true, "4d0f52748e7c045346fd04f208a91d1629f7d5d6baef66951782b7fb012c971d"), looks := false }, kinds := [], alts := [], laidByText := true, laidKinds := [.data, .sentinel, .data], laidTests := true, laidLooks := .later }
def StateNewUptoCardSaid : Prop := Claim7.holds Tryz.pinned (.plain (OpenSpec.upto stateNewSpec)) stateNewUptoCard

/-- THE SECOND FORM's CARD OF 'coterielaw17.StateChains'. -/
def stateChainsUptoCard : Claim7 := { stood := { row := stateChainsUptoRow, standIns := [], harness := (true, "4d0f52748e7c045346fd04f208a91d1629f7d5d6baef66951782b7fb012c971d"), looks := false }, kinds := [], alts := [], laidByText := true, laidKinds := [.sentinel, .data], laidTests := true, laidLooks := .later }
def StateChainsUptoCardSaid : Prop := Claim7.holds Tryz.pinned (.plain (OpenSpec.upto stateChainsSpec)) stateChainsUptoCard

/-- THE SECOND FORM's CARD OF 'coterielaw17.StateSecrets'. -/
def stateSecretsUptoCard : Claim7 := { stood := { row := stateSecretsUptoRow, standIns := [], harness := (true, "4d0f52748e7c045346fd04f208a91d1629f7d5d6baef66951782b7fb012c971d"), looks := false }, kinds := [], alts := [], laidByText := true, laidKinds := [.data, .sentinel, .data], laidTests := true, laidLooks := .later }
def StateSecretsUptoCardSaid : Prop := Claim7.holds Tryz.pinned (.plain (OpenSpec.upto stateSecretsSpec)) stateSecretsUptoCard

/-- THE SECOND FORM's CARD OF 'coterielaw17.StateTells'. -/
def stateTellsUptoCard : Claim7 := { stood := { row := stateTellsUptoRow, standIns := [], harness := (true, "4d0f52748e7c045346fd04f208a91d1629f7d5d6baef66951782b7fb012c971d"), looks := false }, kinds := [], alts := [], laidByText := true, laidKinds := [.data, .sentinel, .data], laidTests := true, laidLooks := .later }
def StateTellsUptoCardSaid : Prop := Claim7.holds Tryz.pinned (.plain (OpenSpec.upto stateTellsSpec)) stateTellsUptoCard

/-- THE SECOND FORM's CARD OF 'coterielaw17.StateAlone'. -/
def stateAloneUptoCard : Claim7 := { stood := { row := stateAloneUptoRow, standIns := [], harness := (true, "4d0f52748e7c045346fd04f208a91d1629f7d5d6baef66951782b7fb012c971d"), looks := false }, kinds := [], alts := [], laidByText := true, laidKinds := [.sentinel, .data], laidTests := true, laidLooks := .later }
def StateAloneUptoCardSaid : Prop := Claim7.holds Tryz.pinned (.plain (OpenSpec.upto stateAloneSpec)) stateAloneUptoCard
end Rows
end Go.Proofs.YtcmmpiaogfnmoaaGreatDoor
