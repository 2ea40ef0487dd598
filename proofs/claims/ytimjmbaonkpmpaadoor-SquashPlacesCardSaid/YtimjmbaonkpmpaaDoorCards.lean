/-
  DERIVED. GIVEN WITH THE SEED: THE CARDS: each row of YtimjmbaonkpmpaaDoorRows.lean that lists a variable, with what it lists TIED to the program's text (the seventh form; the later family's looks); each row that meets fmt, with fmt's text TOLD by the authors' own Lean function (tested against real Go, not proved from fmt's source: count such statements apart). THE CARD IS WHAT COUNTS. Prove the row's statement (the work); the ties are given (YtimjmbaonkpmpaaDoorTie.lean); close each card by the builder's one call (the guide's Derived/Test/ToyasCard.lean, 'card_holds'). Laid BY PROGRAM, IN A SANDBOX (cutbox-door.mjs). By AI agents, Wed Nov 11 2026. No macro, syntax, notation, axiom, sorry.
-/
import Derived.Test.YtimjmbaonkpmpaaDoorRows
import GoSem.ClaimSeven
namespace Go.Proofs.YtimjmbaonkpmpaaDoor
namespace Rows

/-- THE TIED CARD OF 'bitloftlaw04.SquashMakes'. -/
def squashMakesCard : Claim7 := { stood := { row := squashMakesRow, standIns := [], harness := (true, "ba1b8d926332dacf955a44a4ad5cebc2ea27b5cc5bcc01af714c5ad577c3fa72"), looks := false }, kinds := [], alts := [], laidByText := true, laidKinds := [.data], laidTests := true, laidLooks := .later }
def SquashMakesCardSaid : Prop := Claim7.holds Tryd.pinned (.plain (OpenSpec.ofChange squashMakesSpec)) squashMakesCard

/-- THE TIED CARD OF 'bitloftlaw04.SquashStretches'. -/
def squashStretchesCard : Claim7 := { stood := { row := squashStretchesRow, standIns := [], harness := (true, "ba1b8d926332dacf955a44a4ad5cebc2ea27b5cc5bcc01af714c5ad577c3fa72"), looks := false }, kinds := [], alts := [], laidByText := true, laidKinds := [.data], laidTests := true, laidLooks := .later }
def SquashStretchesCardSaid : Prop := Claim7.holds Tryd.pinned (.plain (OpenSpec.ofChange squashStretchesSpec)) squashStretchesCard

/-- THE TIED CARD OF 'bitloftlaw04.SquashRises'. -/
def squashRisesCard : Claim7 := { stood := { row := squashRisesRow, standIns := [], harness := (true, "ba1b8d926332dacf955a44a4ad5cebc2ea27b5cc5bcc01af714c5ad577c3fa72"), looks := false }, kinds := [], alts := [], laidByText := true, laidKinds := [.data], laidTests := true, laidLooks := .later }
def SquashRisesCardSaid : Prop := Claim7.holds Tryd.pinned (.plain (OpenSpec.ofChange squashRisesSpec)) squashRisesCard

/-- THE TIED CARD OF 'bitloftlaw04.SquashBack'. -/
def squashBackCard : Claim7 := { stood := { row := squashBackRow, standIns := [], harness := (true, "ba1b8d926332dacf955a44a4ad5cebc2ea27b5cc5bcc01af714c5ad577c3fa72"), looks := false }, kinds := [], alts := [], laidByText := true, laidKinds := [.data], laidTests := true, laidLooks := .later }
def SquashBackCardSaid : Prop := Claim7.holds Tryd.pinned (.plain (OpenSpec.ofChange squashBackSpec)) squashBackCard

/-- THE TIED CARD OF 'bitloftlaw04.SquashTurns'. -/
def squashTurnsCard : Claim7 := { stood := { row := squashTurnsRow, standIns := [], harness := (true, "ba1b8d926332dacf955a44a4ad5cebc2ea27b5cc5bcc01af714c5ad577c3fa72"), looks := false }, kinds := [], alts := [], laidByText := true, laidKinds := [.data], laidTests := true, laidLooks := .later }
def SquashTurnsCardSaid : Prop := Claim7.holds Tryd.pinned (.plain (OpenSpec.ofChange squashTurnsSpec)) squashTurnsCard

/-- THE TIED CARD OF 'bitloftlaw04.SquashNames'. -/
def squashNamesCard : Claim7 := { stood := { row := squashNamesRow, standIns := [], harness := (true, "ba1b8d926332dacf955a44a4ad5cebc2ea27b5cc5bcc01af714c5ad577c3fa72"), looks := false }, kinds := [], alts := [], laidByText := true, laidKinds := [.data], laidTests := true, laidLooks := .later }
def SquashNamesCardSaid : Prop := Claim7.holds Tryd.pinned (.plain (OpenSpec.ofChange squashNamesSpec)) squashNamesCard

/-- THE TIED CARD OF 'bitloftlaw04.SquashPlaces'. -/
def squashPlacesCard : Claim7 := { stood := { row := squashPlacesRow, standIns := [], harness := (true, "ba1b8d926332dacf955a44a4ad5cebc2ea27b5cc5bcc01af714c5ad577c3fa72"), looks := false }, kinds := [], alts := [], laidByText := true, laidKinds := [.data], laidTests := true, laidLooks := .later }
def SquashPlacesCardSaid : Prop := Claim7.holds Tryd.pinned (.plain (OpenSpec.ofChange squashPlacesSpec)) squashPlacesCard

/-- THE SECOND FORM's CARD OF 'bitloftlaw04.SquashMakes'. -/
def squashMakesUptoCard : Claim7 := { stood := { row := squashMakesUptoRow, standIns := [], harness := (true, "ba1b8d926332dacf955a44a4ad5cebc2ea27b5cc5bcc01af714c5ad577c3fa72"), looks := false }, kinds := [], alts := [], laidByText := true, laidKinds := [.data], laidTests := true, laidLooks := .later }
def SquashMakesUptoCardSaid : Prop := Claim7.holds Tryd.pinned (.plain (OpenSpec.upto squashMakesSpec)) squashMakesUptoCard

/-- THE SECOND FORM's CARD OF 'bitloftlaw04.SquashStretches'. -/
def squashStretchesUptoCard : Claim7 := { stood := { row := squashStretchesUptoRow, standIns := [], harness := (true, "ba1b8d926332dacf955a44a4ad5cebc2ea27b5cc5bcc01af714c5ad577c3fa72"), looks := false }, kinds := [], alts := [], laidByText := true, laidKinds := [.data], laidTests := true, laidLooks := .later }
def SquashStretchesUptoCardSaid : Prop := Claim7.holds Tryd.pinned (.plain (OpenSpec.upto squashStretchesSpec)) squashStretchesUptoCard

/-- THE SECOND FORM's CARD OF 'bitloftlaw04.SquashRises'. -/
def squashRisesUptoCard : Claim7 := { stood := { row := squashRisesUptoRow, standIns := [], harness := (true, "ba1b8d926332dacf955a44a4ad5cebc2ea27b5cc5bcc01af714c5ad577c3fa72"), looks := false }, kinds := [], alts := [], laidByText := true, laidKinds := [.data], laidTests := true, laidLooks := .later }
def SquashRisesUptoCardSaid : Prop := Claim7.holds Tryd.pinned (.plain (OpenSpec.upto squashRisesSpec)) squashRisesUptoCard

/-- THE SECOND FORM's CARD OF 'bitloftlaw04.SquashBack'. -/
def squashBackUptoCard : Claim7 := { stood := { row := squashBackUptoRow, standIns := [], harness := (true, "ba1b8d926332dacf955a44a4ad5cebc2ea27b5cc5bcc01af714c5ad577c3fa72"), looks := false }, kinds := [], alts := [], laidByText := true, laidKinds := [.data], laidTests := true, laidLooks := .later }
def SquashBackUptoCardSaid : Prop := Claim7.holds Tryd.pinned (.plain (OpenSpec.upto squashBackSpec)) squashBackUptoCard

/-- THE SECOND FORM's CARD OF 'bitloftlaw04.SquashTurns'. -/
def squashTurnsUptoCard : Claim7 := { stood := { row := squashTurnsUptoRow, standIns := [], harness := (true, "ba1b8d926332dacf955a44a4ad5cebc2ea27b5cc5bcc01af714c5ad577c3fa72"), looks := false }, kinds := [], alts := [], laidByText := true, laidKinds := [.data], laidTests := true, laidLooks := .later }
def SquashTurnsUptoCardSaid : Prop := Claim7.holds Tryd.pinned (.plain (OpenSpec.upto squashTurnsSpec)) squashTurnsUptoCard

/-- THE SECOND FORM's CARD OF 'bitloftlaw04.SquashNames'. -/
def squashNamesUptoCard : Claim7 := { stood := { row := squashNamesUptoRow, standIns := [], harness := (true, "ba1b8d926332dacf955a44a4ad5cebc2ea27b5cc5bcc01af714c5ad577c3fa72"), looks := false }, kinds := [], alts := [], laidByText := true, laidKinds := [.data], laidTests := true, laidLooks := .later }
def SquashNamesUptoCardSaid : Prop := Claim7.holds Tryd.pinned (.plain (OpenSpec.upto squashNamesSpec)) squashNamesUptoCard

/-- THE SECOND FORM's CARD OF 'bitloftlaw04.SquashPlaces'. -/
def squashPlacesUptoCard : Claim7 := { stood := { row := squashPlacesUptoRow, standIns := [], harness := (true, "ba1b8d926332dacf955a44a4ad5cebc2ea27b5cc5bcc01af714c5ad577c3fa72"), looks := false }, kinds := [], alts := [], laidByText := true, laidKinds := [.data], laidTests := true, laidLooks := .later }
def SquashPlacesUptoCardSaid : Prop := Claim7.holds Tryd.pinned (.plain (OpenSpec.upto squashPlacesSpec)) squashPlacesUptoCard
end Rows
end Go.Proofs.YtimjmbaonkpmpaaDoor
