/-
  DERIVED. GIVEN WITH THE SEED: THE CARDS: each row of YtejamobohmljfaaDoorRows.lean that lists a variable, with what it lists TIED to the program's text (the seventh form; the later family's looks); each row that meets fmt, with fmt's text TOLD by the authors' own Lean function (tested against real Go, not proved from fmt's source: count such statements apart). THE CARD IS WHAT COUNTS. Prove the row's statement (the work); the ties are given (YtejamobohmljfaaDoorTie.lean); close each card by the builder's one call (the guide's Derived/Test/ToyasCard.lean, 'card_holds'). Laid BY PROGRAM, IN A SANDBOX (cutbox-door.mjs). By AI agents, Wed Nov 11 2026. No macro, syntax, notation, axiom, sorry.
-/
import Derived.Test.YtejamobohmljfaaDoorRows
import GoSem.ClaimSeven
namespace Go.Proofs.YtejamobohmljfaaDoor
namespace Rows

/-- THE TIED CARD OF 'bitloftlaw42.ParityRepairs'. -/
def parityRepairsCard : Claim7 := { stood := { row := parityRepairsRow, standIns := [], harness := (true, "212a47095e83ca5439cb527b0584dfd728658dce3e0f4901db5fa0a611320ff7"), looks := false }, kinds := [], alts := [], laidByText := true, laidKinds := [.data, .pinned], laidTests := true, laidLooks := .later }
def ParityRepairsCardSaid : Prop := Claim7.holds Tryd.pinned (.plain (OpenSpec.ofChange parityRepairsSpec)) parityRepairsCard

/-- THE TIED CARD OF 'bitloftlaw42.ParityTells'. -/
def parityTellsCard : Claim7 := { stood := { row := parityTellsRow, standIns := [], harness := (true, "212a47095e83ca5439cb527b0584dfd728658dce3e0f4901db5fa0a611320ff7"), looks := false }, kinds := [], alts := [], laidByText := true, laidKinds := [.data, .pinned], laidTests := true, laidLooks := .later }
def ParityTellsCardSaid : Prop := Claim7.holds Tryd.pinned (.plain (OpenSpec.ofChange parityTellsSpec)) parityTellsCard

/-- THE TIED CARD OF 'bitloftlaw42.ParityMends'. -/
def parityMendsCard : Claim7 := { stood := { row := parityMendsRow, standIns := [], harness := (true, "212a47095e83ca5439cb527b0584dfd728658dce3e0f4901db5fa0a611320ff7"), looks := false }, kinds := [], alts := [], laidByText := true, laidKinds := [.data, .pinned], laidTests := true, laidLooks := .later }
def ParityMendsCardSaid : Prop := Claim7.holds Tryd.pinned (.plain (OpenSpec.ofChange parityMendsSpec)) parityMendsCard

/-- THE TIED CARD OF 'bitloftlaw42.ParityNames'. -/
def parityNamesCard : Claim7 := { stood := { row := parityNamesRow, standIns := [], harness := (true, "212a47095e83ca5439cb527b0584dfd728658dce3e0f4901db5fa0a611320ff7"), looks := false }, kinds := [], alts := [], laidByText := true, laidKinds := [.data, .pinned], laidTests := true, laidLooks := .later }
def ParityNamesCardSaid : Prop := Claim7.holds Tryd.pinned (.plain (OpenSpec.ofChange parityNamesSpec)) parityNamesCard

/-- THE TIED CARD OF 'bitloftlaw42.ParityRecovers'. -/
def parityRecoversCard : Claim7 := { stood := { row := parityRecoversRow, standIns := [], harness := (true, "212a47095e83ca5439cb527b0584dfd728658dce3e0f4901db5fa0a611320ff7"), looks := false }, kinds := [], alts := [], laidByText := true, laidKinds := [.data, .pinned], laidTests := true, laidLooks := .later }
def ParityRecoversCardSaid : Prop := Claim7.holds Tryd.pinned (.plain (OpenSpec.ofChange parityRecoversSpec)) parityRecoversCard

/-- THE SECOND FORM's CARD OF 'bitloftlaw42.ParityRepairs'. -/
def parityRepairsUptoCard : Claim7 := { stood := { row := parityRepairsUptoRow, standIns := [], harness := (true, "212a47095e83ca5439cb527b0584dfd728658dce3e0f4901db5fa0a611320ff7"), looks := false }, kinds := [], alts := [], laidByText := true, laidKinds := [.data, .pinned], laidTests := true, laidLooks := .later }
def ParityRepairsUptoCardSaid : Prop := Claim7.holds Tryd.pinned (.plain (OpenSpec.upto parityRepairsSpec)) parityRepairsUptoCard

/-- THE SECOND FORM's CARD OF 'bitloftlaw42.ParityTells'. -/
def parityTellsUptoCard : Claim7 := { stood := { row := parityTellsUptoRow, standIns := [], harness := (true, "212a47095e83ca5439cb527b0584dfd728658dce3e0f4901db5fa0a611320ff7"), looks := false }, kinds := [], alts := [], laidByText := true, laidKinds := [.data, .pinned], laidTests := true, laidLooks := .later }
def ParityTellsUptoCardSaid : Prop := Claim7.holds Tryd.pinned (.plain (OpenSpec.upto parityTellsSpec)) parityTellsUptoCard

/-- THE SECOND FORM's CARD OF 'bitloftlaw42.ParityMends'. -/
def parityMendsUptoCard : Claim7 := { stood := { row := parityMendsUptoRow, standIns := [], harness := (true, "212a47095e83ca5439cb527b0584dfd728658dce3e0f4901db5fa0a611320ff7"), looks := false }, kinds := [], alts := [], laidByText := true, laidKinds := [.data, .pinned], laidTests := true, laidLooks := .later }
def ParityMendsUptoCardSaid : Prop := Claim7.holds Tryd.pinned (.plain (OpenSpec.upto parityMendsSpec)) parityMendsUptoCard

/-- THE SECOND FORM's CARD OF 'bitloftlaw42.ParityNames'. -/
def parityNamesUptoCard : Claim7 := { stood := { row := parityNamesUptoRow, standIns := [], harness := (true, "212a47095e83ca5439cb527b0584dfd728658dce3e0f4901db5fa0a611320ff7"), looks := false }, kinds := [], alts := [], laidByText := true, laidKinds := [.data, .pinned], laidTests := true, laidLooks := .later }
def ParityNamesUptoCardSaid : Prop := Claim7.holds Tryd.pinned (.plain (OpenSpec.upto parityNamesSpec)) parityNamesUptoCard

/-- THE SECOND FORM's CARD OF 'bitloftlaw42.ParityRecovers'. -/
def parityRecoversUptoCard : Claim7 := { stood := { row := parityRecoversUptoRow, standIns := [], harness := (true, "212a47095e83ca5439cb527b0584dfd728658dce3e0f4901db5fa0a611320ff7"), looks := false }, kinds := [], alts := [], laidByText := true, laidKinds := [.data, .pinned], laidTests := true, laidLooks := .later }
def ParityRecoversUptoCardSaid : Prop := Claim7.holds Tryd.pinned (.plain (OpenSpec.upto parityRecoversSpec)) parityRecoversUptoCard
end Rows
end Go.Proofs.YtejamobohmljfaaDoor
