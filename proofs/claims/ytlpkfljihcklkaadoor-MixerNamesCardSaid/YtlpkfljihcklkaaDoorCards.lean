/-
  DERIVED. GIVEN WITH THE SEED: THE CARDS: each row of YtlpkfljihcklkaaDoorRows.lean that lists a variable, with what it lists TIED to the program's text (the seventh form; the later family's looks); each row that meets fmt, with fmt's text TOLD by the authors' own Lean function (tested against real Go, not proved from fmt's source: count such statements apart). THE CARD IS WHAT COUNTS. Prove the row's statement (the work); the ties are given (YtlpkfljihcklkaaDoorTie.lean); close each card by the builder's one call (the guide's Derived/Test/ToyasCard.lean, 'card_holds'). Laid BY PROGRAM, IN A SANDBOX (cutbox-door.mjs). By AI agents, Wed Nov 11 2026. No macro, syntax, notation, axiom, sorry.
-/
import Derived.Test.YtlpkfljihcklkaaDoorRows
import GoSem.ClaimSeven
namespace Go.Proofs.YtlpkfljihcklkaaDoor
namespace Rows

/-- THE TIED CARD OF 'bitloftlaw16.MixerMixes'. -/
def mixerMixesCard : Claim7 := { stood := { row := mixerMixesRow, standIns := [], harness := (true, "82d0dbcda5ccf7a6276ff6d474a9df130c2a73b2b96434ebd0684f4a7a9d15a1"), looks := false }, kinds := [], alts := [], laidByText := true, laidKinds := [.data], laidTests := true, laidLooks := .later }
def MixerMixesCardSaid : Prop := Claim7.holds Tryd.pinned (.plain (OpenSpec.ofChange mixerMixesSpec)) mixerMixesCard

/-- THE TIED CARD OF 'bitloftlaw16.MixerNames'. -/
def mixerNamesCard : Claim7 := { stood := { row := mixerNamesRow, standIns := [], harness := (true, "82d0dbcda5ccf7a6276ff6d474a9df130c2a73b2b96434ebd0684f4a7a9d15a1"), looks := false }, kinds := [], alts := [], laidByText := true, laidKinds := [.data], laidTests := true, laidLooks := .later }
def MixerNamesCardSaid : Prop := Claim7.holds Tryd.pinned (.plain (OpenSpec.ofChange mixerNamesSpec)) mixerNamesCard

/-- THE TIED CARD OF 'bitloftlaw16.MixerLessens'. -/
def mixerLessensCard : Claim7 := { stood := { row := mixerLessensRow, standIns := [], harness := (true, "82d0dbcda5ccf7a6276ff6d474a9df130c2a73b2b96434ebd0684f4a7a9d15a1"), looks := false }, kinds := [], alts := [], laidByText := true, laidKinds := [.data], laidTests := true, laidLooks := .later }
def MixerLessensCardSaid : Prop := Claim7.holds Tryd.pinned (.plain (OpenSpec.ofChange mixerLessensSpec)) mixerLessensCard

/-- THE TIED CARD OF 'bitloftlaw16.MixerApart'. -/
def mixerApartCard : Claim7 := { stood := { row := mixerApartRow, standIns := [], harness := (true, "82d0dbcda5ccf7a6276ff6d474a9df130c2a73b2b96434ebd0684f4a7a9d15a1"), looks := false }, kinds := [], alts := [], laidByText := true, laidKinds := [.data], laidTests := true, laidLooks := .later }
def MixerApartCardSaid : Prop := Claim7.holds Tryd.pinned (.plain (OpenSpec.ofChange mixerApartSpec)) mixerApartCard

/-- THE TIED CARD OF 'bitloftlaw16.MixerSums'. -/
def mixerSumsCard : Claim7 := { stood := { row := mixerSumsRow, standIns := [], harness := (true, "82d0dbcda5ccf7a6276ff6d474a9df130c2a73b2b96434ebd0684f4a7a9d15a1"), looks := false }, kinds := [], alts := [], laidByText := true, laidKinds := [.data], laidTests := true, laidLooks := .later }
def MixerSumsCardSaid : Prop := Claim7.holds Tryd.pinned (.plain (OpenSpec.ofChange mixerSumsSpec)) mixerSumsCard

/-- THE SECOND FORM's CARD OF 'bitloftlaw16.MixerMixes'. -/
def mixerMixesUptoCard : Claim7 := { stood := { row := mixerMixesUptoRow, standIns := [], harness := (true, "82d0dbcda5ccf7a6276ff6d474a9df130c2a73b2b96434ebd0684f4a7a9d15a1"), looks := false }, kinds := [], alts := [], laidByText := true, laidKinds := [.data], laidTests := true, laidLooks := .later }
def MixerMixesUptoCardSaid : Prop := Claim7.holds Tryd.pinned (.plain (OpenSpec.upto mixerMixesSpec)) mixerMixesUptoCard

/-- THE SECOND FORM's CARD OF 'bitloftlaw16.MixerNames'. -/
def mixerNamesUptoCard : Claim7 := { stood := { row := mixerNamesUptoRow, standIns := [], harness := (true, "82d0dbcda5ccf7a6276ff6d474a9df130c2a73b2b96434ebd0684f4a7a9d15a1"), looks := false }, kinds := [], alts := [], laidByText := true, laidKinds := [.data], laidTests := true, laidLooks := .later }
def MixerNamesUptoCardSaid : Prop := Claim7.holds Tryd.pinned (.plain (OpenSpec.upto mixerNamesSpec)) mixerNamesUptoCard

/-- THE SECOND FORM's CARD OF 'bitloftlaw16.MixerLessens'. -/
def mixerLessensUptoCard : Claim7 := { stood := { row := mixerLessensUptoRow, standIns := [], harness := (true, "82d0dbcda5ccf7a6276ff6d474a9df130c2a73b2b96434ebd0684f4a7a9d15a1"), looks := false }, kinds := [], alts := [], laidByText := true, laidKinds := [.data], laidTests := true, laidLooks := .later }
def MixerLessensUptoCardSaid : Prop := Claim7.holds Tryd.pinned (.plain (OpenSpec.upto mixerLessensSpec)) mixerLessensUptoCard

/-- THE SECOND FORM's CARD OF 'bitloftlaw16.MixerApart'. -/
def mixerApartUptoCard : Claim7 := { stood := { row := mixerApartUptoRow, standIns := [], harness := (true, "82d0dbcda5ccf7a6276ff6d474a9df130c2a73b2b96434ebd0684f4a7a9d15a1"), looks := false }, kinds := [], alts := [], laidByText := true, laidKinds := [.data], laidTests := true, laidLooks := .later }
def MixerApartUptoCardSaid : Prop := Claim7.holds Tryd.pinned (.plain (OpenSpec.upto mixerApartSpec)) mixerApartUptoCard

/-- THE SECOND FORM's CARD OF 'bitloftlaw16.MixerSums'. -/
def mixerSumsUptoCard : Claim7 := { stood := { row := mixerSumsUptoRow, standIns := [], harness := (true, "82d0dbcda5ccf7a6276ff6d474a9df130c2a73b2b96434ebd0684f4a7a9d15a1"), looks := false }, kinds := [], alts := [], laidByText := true, laidKinds := [.data], laidTests := true, laidLooks := .later }
def MixerSumsUptoCardSaid : Prop := Claim7.holds Tryd.pinned (.plain (OpenSpec.upto mixerSumsSpec)) mixerSumsUptoCard
end Rows
end Go.Proofs.YtlpkfljihcklkaaDoor
