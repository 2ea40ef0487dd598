/-
  NARROWER THAN 'FOR EVERY INPUT', by the rows' own cells (each row's printed sentence says how): AdaptMakes: laid · AdaptRange: laid · AdaptMean: laid · AdaptRuns: laid · AdaptNames: laid · AdaptParts: laid.
  DERIVED. THE GIVEN ROWS OF THIS SEAT. 6 by the template 'for every input the law returns true; each argument reads behind the call as it read before'; 0 by the template 'total and deterministic' (their statements: YtmncppbhnjngkaaDoorTotals.lean).
  GIVEN WITH THE SEED: the statements are not yours to turn. If you find one false, say at which input.
  Laid BY PROGRAM, IN A SANDBOX (cutbox-rows.mjs): the forced cells as the released guide's own fill.sh prints them over the translation ea32c6f0b2e22de5… (all of the seat's roots in one cut). By AI agents, Wed Nov 11 2026. No macro, syntax, notation, axiom, sorry.
-/
import Derived.Test.YtmncppbhnjngkaaDoorChecked
import GoSem.Claim
import GoSem.ClaimJoined
import GoSem.ClaimMapViews
import Derived.JoinedTies
import Derived.KernelRfl
namespace Go.Proofs.YtmncppbhnjngkaaDoor
/- THE CELL 'sum', in the pinned program and in every row, IS THE sha256 OF THE DUMP (.gsa) THAT YtmncppbhnjngkaaDoorProg.lean LOADS. Nothing in Lean hashes anything: it is a label: what it is worth is what the hold of that sum in a sandbox is worth. -/
noncomputable def Tryd.pinned : Pinned := { name := "ytmncppbhnjngkaadoor", sum := "ea32c6f0b2e22de5a4d4ce32de5cb4f22514506bdf9725789b8ca70379637db7", checked := Tryd.checked }
namespace Rows
def none {H : Type} : Left H := { results := [], args := [] }

/- WHAT THE LISTED PACKAGE-LEVEL VARIABLES READ AS WHEN THE CALL BEGINS. Each datum BY PROGRAM (the guide's laid-datum.mjs) off the statement by which the dump's own 'gosem.cut.vars' lays the variable. In a bare row this is a premise. The card (YtmncppbhnjngkaaDoorCards.lean) ties it to the program's text. -/
def laid_bitloft_adapt_targets {H : Type} : DataW H := .agg [.lit (.int .i32 0), .lit (.int .i32 65535)]

/-- 'bitloftlaw09.AdaptMakes': WHATEVER THE INPUT: true; the input reads as it did. -/
def adaptMakesSpec : ChangeSpec := { name := "adaptMakes", fn := fun _ => fun
  | [d1, d2, d3, d4] => { results := [.lit (.bool true)], args := [d1, d2, d3, d4] }
  | _ => none }
def adaptMakesRow : OpenClaim := { program := "ytmncppbhnjngkaadoor", sum := "ea32c6f0b2e22de5a4d4ce32de5cb4f22514506bdf9725789b8ca70379637db7", func := "bitloft/bitloftlaw09.AdaptMakes", spec := "adaptMakes", named := ["bitloft/adapt.targets"], apart := false, laid := [("bitloft/adapt.targets", laid_bitloft_adapt_targets)] }
def AdaptMakesSaid : Prop := adaptMakesRow.holds Tryd.pinned (OpenSpec.ofChange adaptMakesSpec)

/-- ITS FALSE NEIGHBOUR: 'it returns false'. Refute it at one input. -/
def adaptMakesWrong : ChangeSpec := { name := "adaptMakes", fn := fun _ => fun
  | [d1, d2, d3, d4] => { results := [.lit (.bool false)], args := [d1, d2, d3, d4] }
  | _ => none }
def AdaptMakesWrongFalsely : Prop := adaptMakesRow.holds Tryd.pinned (OpenSpec.ofChange adaptMakesWrong)

/-- 'bitloftlaw09.AdaptRange': WHATEVER THE INPUT: true; the input reads as it did. -/
def adaptRangeSpec : ChangeSpec := { name := "adaptRange", fn := fun _ => fun
  | [d1, d2, d3] => { results := [.lit (.bool true)], args := [d1, d2, d3] }
  | _ => none }
def adaptRangeRow : OpenClaim := { program := "ytmncppbhnjngkaadoor", sum := "ea32c6f0b2e22de5a4d4ce32de5cb4f22514506bdf9725789b8ca70379637db7", func := "bitloft/bitloftlaw09.AdaptRange", spec := "adaptRange", named := ["bitloft/adapt.targets"], apart := false, laid := [("bitloft/adapt.targets", laid_bitloft_adapt_targets)] }
def AdaptRangeSaid : Prop := adaptRangeRow.holds Tryd.pinned (OpenSpec.ofChange adaptRangeSpec)

/-- ITS FALSE NEIGHBOUR: 'it returns false'. Refute it at one input. -/
def adaptRangeWrong : ChangeSpec := { name := "adaptRange", fn := fun _ => fun
  | [d1, d2, d3] => { results := [.lit (.bool false)], args := [d1, d2, d3] }
  | _ => none }
def AdaptRangeWrongFalsely : Prop := adaptRangeRow.holds Tryd.pinned (OpenSpec.ofChange adaptRangeWrong)

/-- 'bitloftlaw09.AdaptMean': WHATEVER THE INPUT: true; the input reads as it did. -/
def adaptMeanSpec : ChangeSpec := { name := "adaptMean", fn := fun _ => fun
  | [d1, d2, d3] => { results := [.lit (.bool true)], args := [d1, d2, d3] }
  | _ => none }
def adaptMeanRow : OpenClaim := { program := "ytmncppbhnjngkaadoor", sum := "ea32c6f0b2e22de5a4d4ce32de5cb4f22514506bdf9725789b8ca70379637db7", func := "bitloft/bitloftlaw09.AdaptMean", spec := "adaptMean", named := ["bitloft/adapt.targets"], apart := false, laid := [("bitloft/adapt.targets", laid_bitloft_adapt_targets)] }
def AdaptMeanSaid : Prop := adaptMeanRow.holds Tryd.pinned (OpenSpec.ofChange adaptMeanSpec)

/-- ITS FALSE NEIGHBOUR: 'it returns false'. Refute it at one input. -/
def adaptMeanWrong : ChangeSpec := { name := "adaptMean", fn := fun _ => fun
  | [d1, d2, d3] => { results := [.lit (.bool false)], args := [d1, d2, d3] }
  | _ => none }
def AdaptMeanWrongFalsely : Prop := adaptMeanRow.holds Tryd.pinned (OpenSpec.ofChange adaptMeanWrong)

/-- 'bitloftlaw09.AdaptRuns': WHATEVER THE INPUT: true; the input reads as it did. -/
def adaptRunsSpec : ChangeSpec := { name := "adaptRuns", fn := fun _ => fun
  | [d1, d2, d3] => { results := [.lit (.bool true)], args := [d1, d2, d3] }
  | _ => none }
def adaptRunsRow : OpenClaim := { program := "ytmncppbhnjngkaadoor", sum := "ea32c6f0b2e22de5a4d4ce32de5cb4f22514506bdf9725789b8ca70379637db7", func := "bitloft/bitloftlaw09.AdaptRuns", spec := "adaptRuns", unfollowed := true, recurses := true, named := ["bitloft/adapt.targets"], apart := false, laid := [("bitloft/adapt.targets", laid_bitloft_adapt_targets)] }
def AdaptRunsSaid : Prop := adaptRunsRow.holds Tryd.pinned (OpenSpec.ofChange adaptRunsSpec)

/-- ITS FALSE NEIGHBOUR: 'it returns false'. Refute it at one input. -/
def adaptRunsWrong : ChangeSpec := { name := "adaptRuns", fn := fun _ => fun
  | [d1, d2, d3] => { results := [.lit (.bool false)], args := [d1, d2, d3] }
  | _ => none }
def AdaptRunsWrongFalsely : Prop := adaptRunsRow.holds Tryd.pinned (OpenSpec.ofChange adaptRunsWrong)

/-- 'bitloftlaw09.AdaptNames': WHATEVER THE INPUT: true; the input reads as it did. -/
def adaptNamesSpec : ChangeSpec := { name := "adaptNames", fn := fun _ => fun
  | [] => { results := [.lit (.bool true)], args := [] }
  | _ => none }
def adaptNamesRow : OpenClaim := { program := "ytmncppbhnjngkaadoor", sum := "ea32c6f0b2e22de5a4d4ce32de5cb4f22514506bdf9725789b8ca70379637db7", func := "bitloft/bitloftlaw09.AdaptNames", spec := "adaptNames", unfollowed := true, recurses := true, named := ["bitloft/adapt.targets"], apart := false, laid := [("bitloft/adapt.targets", laid_bitloft_adapt_targets)] }
def AdaptNamesSaid : Prop := adaptNamesRow.holds Tryd.pinned (OpenSpec.ofChange adaptNamesSpec)

/-- ITS FALSE NEIGHBOUR: 'it returns false'. Refute it at one input. -/
def adaptNamesWrong : ChangeSpec := { name := "adaptNames", fn := fun _ => fun
  | [] => { results := [.lit (.bool false)], args := [] }
  | _ => none }
def AdaptNamesWrongFalsely : Prop := adaptNamesRow.holds Tryd.pinned (OpenSpec.ofChange adaptNamesWrong)

/-- 'bitloftlaw09.AdaptParts': WHATEVER THE INPUT: true; the input reads as it did. -/
def adaptPartsSpec : ChangeSpec := { name := "adaptParts", fn := fun _ => fun
  | [d1, d2, d3, d4] => { results := [.lit (.bool true)], args := [d1, d2, d3, d4] }
  | _ => none }
def adaptPartsRow : OpenClaim := { program := "ytmncppbhnjngkaadoor", sum := "ea32c6f0b2e22de5a4d4ce32de5cb4f22514506bdf9725789b8ca70379637db7", func := "bitloft/bitloftlaw09.AdaptParts", spec := "adaptParts", unfollowed := true, recurses := true, named := ["bitloft/adapt.targets"], apart := false, laid := [("bitloft/adapt.targets", laid_bitloft_adapt_targets)] }
def AdaptPartsSaid : Prop := adaptPartsRow.holds Tryd.pinned (OpenSpec.ofChange adaptPartsSpec)

/-- ITS FALSE NEIGHBOUR: 'it returns false'. Refute it at one input. -/
def adaptPartsWrong : ChangeSpec := { name := "adaptParts", fn := fun _ => fun
  | [d1, d2, d3, d4] => { results := [.lit (.bool false)], args := [d1, d2, d3, d4] }
  | _ => none }
def AdaptPartsWrongFalsely : Prop := adaptPartsRow.holds Tryd.pinned (OpenSpec.ofChange adaptPartsWrong)

/- THE SECOND FORM. 'bulk': how many values and letters a reading holds, each counted each time it is reached (what is shared counts as often as it is met; a slice's spare places count too). A statement '..UptoSaid' is the law's where the arguments, and the package variables that the reading takes, are together of bulk at most 1048576: NARROWER than '..Said'. Prove '..Said' where nothing that the law and all that it calls make is longer than what came in: it says more and counts as full. Else prove '..UptoSaid'. A law counts once. -/
mutual
def uptoBulk {H : Type} : DataW H → Nat
  | .lit (.string bytes) => bytes.length + 1
  | .lit _ => 1
  | .nil => 1
  | .ptr d => uptoBulk d + 1
  | .slice elems spare => uptoBulkAll elems + uptoBulkAll spare + 1
  | .agg parts => uptoBulkAll parts + 1
  | .iface _ d => uptoBulk d + 1
  | .map entries => uptoBulkEntries entries + 1
  | .held _ => 1
def uptoBulkAll {H : Type} : List (DataW H) → Nat
  | [] => 0
  | d :: r => uptoBulk d + uptoBulkAll r
def uptoBulkEntries {H : Type} : List (Lit × DataW H) → Nat
  | [] => 0
  | x :: r => uptoBulkEntry x + uptoBulkEntries r
def uptoBulkEntry {H : Type} : Lit × DataW H → Nat
  | (.string bytes, d) => bytes.length + uptoBulk d + 1
  | (_, d) => uptoBulk d + 1
 end
def uptoSmall : (H : Type) → List (DataW H) → Bool := fun _ ds => decide (uptoBulkAll ds ≤ 1048576)
def OpenSpec.upto (s : _root_.Go.ChangeSpec) : _root_.Go.OpenSpec := { _root_.Go.OpenSpec.ofChange s with cond := some uptoSmall }

/-- 'bitloftlaw09.AdaptMakes', WHERE WHAT IT READS IS OF BULK AT MOST 1048576: true; the input reads as it did. -/
def adaptMakesUptoRow : OpenClaim := { program := "ytmncppbhnjngkaadoor", sum := "ea32c6f0b2e22de5a4d4ce32de5cb4f22514506bdf9725789b8ca70379637db7", func := "bitloft/bitloftlaw09.AdaptMakes", spec := "adaptMakes", named := ["bitloft/adapt.targets"], apart := false, laid := [("bitloft/adapt.targets", laid_bitloft_adapt_targets)], narrowed := true }
def AdaptMakesUptoSaid : Prop := adaptMakesUptoRow.holds Tryd.pinned (OpenSpec.upto adaptMakesSpec)

/-- 'bitloftlaw09.AdaptRange', WHERE WHAT IT READS IS OF BULK AT MOST 1048576: true; the input reads as it did. -/
def adaptRangeUptoRow : OpenClaim := { program := "ytmncppbhnjngkaadoor", sum := "ea32c6f0b2e22de5a4d4ce32de5cb4f22514506bdf9725789b8ca70379637db7", func := "bitloft/bitloftlaw09.AdaptRange", spec := "adaptRange", named := ["bitloft/adapt.targets"], apart := false, laid := [("bitloft/adapt.targets", laid_bitloft_adapt_targets)], narrowed := true }
def AdaptRangeUptoSaid : Prop := adaptRangeUptoRow.holds Tryd.pinned (OpenSpec.upto adaptRangeSpec)

/-- 'bitloftlaw09.AdaptMean', WHERE WHAT IT READS IS OF BULK AT MOST 1048576: true; the input reads as it did. -/
def adaptMeanUptoRow : OpenClaim := { program := "ytmncppbhnjngkaadoor", sum := "ea32c6f0b2e22de5a4d4ce32de5cb4f22514506bdf9725789b8ca70379637db7", func := "bitloft/bitloftlaw09.AdaptMean", spec := "adaptMean", named := ["bitloft/adapt.targets"], apart := false, laid := [("bitloft/adapt.targets", laid_bitloft_adapt_targets)], narrowed := true }
def AdaptMeanUptoSaid : Prop := adaptMeanUptoRow.holds Tryd.pinned (OpenSpec.upto adaptMeanSpec)

/-- 'bitloftlaw09.AdaptRuns', WHERE WHAT IT READS IS OF BULK AT MOST 1048576: true; the input reads as it did. -/
def adaptRunsUptoRow : OpenClaim := { program := "ytmncppbhnjngkaadoor", sum := "ea32c6f0b2e22de5a4d4ce32de5cb4f22514506bdf9725789b8ca70379637db7", func := "bitloft/bitloftlaw09.AdaptRuns", spec := "adaptRuns", unfollowed := true, recurses := true, named := ["bitloft/adapt.targets"], apart := false, laid := [("bitloft/adapt.targets", laid_bitloft_adapt_targets)], narrowed := true }
def AdaptRunsUptoSaid : Prop := adaptRunsUptoRow.holds Tryd.pinned (OpenSpec.upto adaptRunsSpec)

/-- 'bitloftlaw09.AdaptNames', WHERE WHAT IT READS IS OF BULK AT MOST 1048576: true; the input reads as it did. -/
def adaptNamesUptoRow : OpenClaim := { program := "ytmncppbhnjngkaadoor", sum := "ea32c6f0b2e22de5a4d4ce32de5cb4f22514506bdf9725789b8ca70379637db7", func := "bitloft/bitloftlaw09.AdaptNames", spec := "adaptNames", unfollowed := true, recurses := true, named := ["bitloft/adapt.targets"], apart := false, laid := [("bitloft/adapt.targets", laid_bitloft_adapt_targets)], narrowed := true }
def AdaptNamesUptoSaid : Prop := adaptNamesUptoRow.holds Tryd.pinned (OpenSpec.upto adaptNamesSpec)

/-- 'bitloftlaw09.AdaptParts', WHERE WHAT IT READS IS OF BULK AT MOST 1048576: true; the input reads as it did. -/
def adaptPartsUptoRow : OpenClaim := { program := "ytmncppbhnjngkaadoor", sum := "ea32c6f0b2e22de5a4d4ce32de5cb4f22514506bdf9725789b8ca70379637db7", func := "bitloft/bitloftlaw09.AdaptParts", spec := "adaptParts", unfollowed := true, recurses := true, named := ["bitloft/adapt.targets"], apart := false, laid := [("bitloft/adapt.targets", laid_bitloft_adapt_targets)], narrowed := true }
def AdaptPartsUptoSaid : Prop := adaptPartsUptoRow.holds Tryd.pinned (OpenSpec.upto adaptPartsSpec)

end Rows
end Go.Proofs.YtmncppbhnjngkaaDoor
