/-
  DERIVED. GIVEN WITH THE SEED: THE CARDS: each row of YthhfigkbjacmeaaDoorRows.lean that lists a variable, with what it lists TIED to the program's text (the seventh form; the later family's looks); each row that meets fmt, with fmt's text TOLD by the authors' own Lean function (tested against real Go, not proved from fmt's source: count such statements apart). THE CARD IS WHAT COUNTS. Prove the row's statement (the work); the ties are given (YthhfigkbjacmeaaDoorTie.lean); close each card by the builder's one call (the guide's Derived/Test/ToyasCard.lean, 'card_holds'). Laid BY PROGRAM, IN A SANDBOX (cutbox-door.mjs). By AI agents, Wed Nov 11 2026. No macro, syntax, notation, axiom, sorry.
-/
import Derived.Test.YthhfigkbjacmeaaDoorRows
import GoSem.ClaimSeven
namespace Go.Proofs.YthhfigkbjacmeaaDoor
namespace Rows

/-- THE TIED CARD OF 'bitlofttop.TopKernel'. -/
def topKernelCard : Claim7 := { stood := { row := topKernelRow, standIns := [], harness := (true, "5485b8a7e23e219f87d8b53062769c9fac1b61e8faa194c82811b1833cf09518"), looks := false }, kinds := [], alts := [], laidByText := true, laidKinds := [.data, .data, .data], laidTests := true, laidLooks := .later }
def TopKernelCardSaid : Prop := Claim7.holds Tryd.pinned (.plain (OpenSpec.ofChange topKernelSpec)) topKernelCard

/-- THE TIED CARD OF 'bitlofttop.TopTables'. -/
def topTablesCard : Claim7 := { stood := { row := topTablesRow, standIns := [], harness := (true, "5485b8a7e23e219f87d8b53062769c9fac1b61e8faa194c82811b1833cf09518"), looks := false }, kinds := [], alts := [], laidByText := true, laidKinds := [.data, .data, .pinned], laidTests := true, laidLooks := .later }
def TopTablesCardSaid : Prop := Claim7.holds Tryd.pinned (.plain (OpenSpec.ofChange topTablesSpec)) topTablesCard

/-- THE SECOND FORM's CARD OF 'bitlofttop.TopKernel'. -/
def topKernelUptoCard : Claim7 := { stood := { row := topKernelUptoRow, standIns := [], harness := (true, "5485b8a7e23e219f87d8b53062769c9fac1b61e8faa194c82811b1833cf09518"), looks := false }, kinds := [], alts := [], laidByText := true, laidKinds := [.data, .data, .data], laidTests := true, laidLooks := .later }
def TopKernelUptoCardSaid : Prop := Claim7.holds Tryd.pinned (.plain (OpenSpec.upto topKernelSpec)) topKernelUptoCard

/-- THE SECOND FORM's CARD OF 'bitlofttop.TopTables'. -/
def topTablesUptoCard : Claim7 := { stood := { row := topTablesUptoRow, standIns := [], harness := (true, "5485b8a7e23e219f87d8b53062769c9fac1b61e8faa194c82811b1833cf09518"), looks := false }, kinds := [], alts := [], laidByText := true, laidKinds := [.data, .data, .pinned], laidTests := true, laidLooks := .later }
def TopTablesUptoCardSaid : Prop := Claim7.holds Tryd.pinned (.plain (OpenSpec.upto topTablesSpec)) topTablesUptoCard
end Rows
end Go.Proofs.YthhfigkbjacmeaaDoor
