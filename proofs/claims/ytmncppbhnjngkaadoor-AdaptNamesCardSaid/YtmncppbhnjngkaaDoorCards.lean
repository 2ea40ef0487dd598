/-
  DERIVED. GIVEN WITH THE SEED: THE CARDS: each row of YtmncppbhnjngkaaDoorRows.lean that lists a variable, with what it lists TIED to the program's text (the seventh form; the later family's looks); each row that meets fmt, with fmt's text TOLD by the authors' own Lean function (tested against real Go, not proved from fmt's source: count such statements apart). THE CARD IS WHAT COUNTS. Prove the row's statement (the work); the ties are given (YtmncppbhnjngkaaDoorTie.lean); close each card by the builder's one call (the guide's Derived/Test/ToyasCard.lean, 'card_holds'). Laid BY PROGRAM, IN A SANDBOX (cutbox-door.mjs). By AI agents, Wed Nov 11 2026. No macro, syntax, notation, axiom, sorry.
-/
import Derived.Test.YtmncppbhnjngkaaDoorRows
import GoSem.ClaimSeven
namespace Go.Proofs.YtmncppbhnjngkaaDoor
namespace Rows

/-- THE TIED CARD OF 'bitloftlaw09.AdaptMakes'. -/
def adaptMakesCard : Claim7 := { stood := { row := adaptMakesRow, standIns := [], harness := (true, "35d041995ee3036b9e7fa5caf0845b79aae5a576e2f502f6ec3a49ff036b6dcd"), looks := false }, kinds := [], alts := [], laidByText := true, laidKinds := [.data], laidTests := true, laidLooks := .later }
def AdaptMakesCardSaid : Prop := Claim7.holds Tryd.pinned (.plain (OpenSpec.ofChange adaptMakesSpec)) adaptMakesCard

/-- THE TIED CARD OF 'bitloftlaw09.AdaptRange'. -/
def adaptRangeCard : Claim7 := { stood := { row := adaptRangeRow, standIns := [], harness := (true, "35d041995ee3036b9e7fa5caf0845b79aae5a576e2f502f6ec3a49ff036b6dcd"), looks := false }, kinds := [], alts := [], laidByText := true, laidKinds := [.data], laidTests := true, laidLooks := .later }
def AdaptRangeCardSaid : Prop := Claim7.holds Tryd.pinned (.plain (OpenSpec.ofChange adaptRangeSpec)) adaptRangeCard

/-- THE TIED CARD OF 'bitloftlaw09.AdaptMean'. -/
def adaptMeanCard : Claim7 := { stood := { row := adaptMeanRow, standIns := [], harness := (true, "35d041995ee3036b9e7fa5caf0845b79aae5a576e2f502f6ec3a49ff036b6dcd"), looks := false }, kinds := [], alts := [], laidByText := true, laidKinds := [.data], laidTests := true, laidLooks := .later }
def AdaptMeanCardSaid : Prop := Claim7.holds Tryd.pinned (.plain (OpenSpec.ofChange adaptMeanSpec)) adaptMeanCard

/-- THE TIED CARD OF 'bitloftlaw09.AdaptRuns'. -/
def adaptRunsCard : Claim7 := { stood := { row := adaptRunsRow, standIns := [], harness := (true, "35d041995ee3036b9e7fa5caf0845b79aae5a576e2f502f6ec3a49ff036b6dcd"), looks := false }, kinds := [], alts := [], laidByText := true, laidKinds := [.data], laidTests := true, laidLooks := .later }
def AdaptRunsCardSaid : Prop := Claim7.holds Tryd.pinned (.plain (OpenSpec.ofChange adaptRunsSpec)) adaptRunsCard

/-- THE TIED CARD OF 'bitloftlaw09.AdaptNames'. -/
def adaptNamesCard : Claim7 := { stood := { row := adaptNamesRow, standIns := [], harness := (true, "35d041995ee3036b9e7fa5caf0845b79aae5a576e2f502f6ec3a49ff036b6dcd"), looks := false }, kinds := [], alts := [], laidByText := true, laidKinds := [.data], laidTests := true, laidLooks := .later }
def AdaptNamesCardSaid : Prop := Claim7.holds Tryd.pinned (.plain (OpenSpec.ofChange adaptNamesSpec)) adaptNamesCard

/-- THE TIED CARD OF 'bitloftlaw09.AdaptParts'. -/
def adaptPartsCard : Claim7 := { stood := { row := adaptPartsRow, standIns := [], harness := (true, "35d041995ee3036b9e7fa5caf0845b79aae5a576e2f502f6ec3a49ff036b6dcd"), looks := false }, kinds := [], alts := [], laidByText := true, laidKinds := [.data], laidTests := true, laidLooks := .later }
def AdaptPartsCardSaid : Prop := Claim7.holds Tryd.pinned (.plain (OpenSpec.ofChange adaptPartsSpec)) adaptPartsCard

/-- THE SECOND FORM's CARD OF 'bitloftlaw09.AdaptMakes'. -/
def adaptMakesUptoCard : Claim7 := { stood := { row := adaptMakesUptoRow, standIns := [], harness := (true, "35d041995ee3036b9e7fa5caf0845b79aae5a576e2f502f6ec3a49ff036b6dcd"), looks := false }, kinds := [], alts := [], laidByText := true, laidKinds := [.data], laidTests := true, laidLooks := .later }
def AdaptMakesUptoCardSaid : Prop := Claim7.holds Tryd.pinned (.plain (OpenSpec.upto adaptMakesSpec)) adaptMakesUptoCard

/-- THE SECOND FORM's CARD OF 'bitloftlaw09.AdaptRange'. -/
def adaptRangeUptoCard : Claim7 := { stood := { row := adaptRangeUptoRow, standIns := [], harness := (true, "35d041995ee3036b9e7fa5caf0845b79aae5a576e2f502f6ec3a49ff036b6dcd"), looks := false }, kinds := [], alts := [], laidByText := true, laidKinds := [.data], laidTests := true, laidLooks := .later }
def AdaptRangeUptoCardSaid : Prop := Claim7.holds Tryd.pinned (.plain (OpenSpec.upto adaptRangeSpec)) adaptRangeUptoCard

/-- THE SECOND FORM's CARD OF 'bitloftlaw09.AdaptMean'. -/
def adaptMeanUptoCard : Claim7 := { stood := { row := adaptMeanUptoRow, standIns := [], harness := (true, "35d041995ee3036b9e7fa5caf0845b79aae5a576e2f502f6ec3a49ff036b6dcd"), looks := false }, kinds := [], alts := [], laidByText := true, laidKinds := [.data], laidTests := true, laidLooks := .later }
def AdaptMeanUptoCardSaid : Prop := Claim7.holds Tryd.pinned (.plain (OpenSpec.upto adaptMeanSpec)) adaptMeanUptoCard

/-- THE SECOND FORM's CARD OF 'bitloftlaw09.AdaptRuns'. -/
def adaptRunsUptoCard : Claim7 := { stood := { row := adaptRunsUptoRow, standIns := [], harness := (true, "35d041995ee3036b9e7fa5caf0845b79aae5a576e2f502f6ec3a49ff036b6dcd"), looks := false }, kinds := [], alts := [], laidByText := true, laidKinds := [.data], laidTests := true, laidLooks := .later }
def AdaptRunsUptoCardSaid : Prop := Claim7.holds Tryd.pinned (.plain (OpenSpec.upto adaptRunsSpec)) adaptRunsUptoCard

/-- THE SECOND FORM's CARD OF 'bitloftlaw09.AdaptNames'. -/
def adaptNamesUptoCard : Claim7 := { stood := { row := adaptNamesUptoRow, standIns := [], harness := (true, "35d041995ee3036b9e7fa5caf0845b79aae5a576e2f502f6ec3a49ff036b6dcd"), looks := false }, kinds := [], alts := [], laidByText := true, laidKinds := [.data], laidTests := true, laidLooks := .later }
def AdaptNamesUptoCardSaid : Prop := Claim7.holds Tryd.pinned (.plain (OpenSpec.upto adaptNamesSpec)) adaptNamesUptoCard

/-- THE SECOND FORM's CARD OF 'bitloftlaw09.AdaptParts'. -/
def adaptPartsUptoCard : Claim7 := { stood := { row := adaptPartsUptoRow, standIns := [], harness := (true, "35d041995ee3036b9e7fa5caf0845b79aae5a576e2f502f6ec3a49ff036b6dcd"), looks := false }, kinds := [], alts := [], laidByText := true, laidKinds := [.data], laidTests := true, laidLooks := .later }
def AdaptPartsUptoCardSaid : Prop := Claim7.holds Tryd.pinned (.plain (OpenSpec.upto adaptPartsSpec)) adaptPartsUptoCard
end Rows
end Go.Proofs.YtmncppbhnjngkaaDoor
