/-
  No cell of these rows narrows 'for every input' (looked for: loops, veiled, ifaces, maps, wideKeys, modest, calm, conditions, laid).
  DERIVED. THE GIVEN ROWS OF THIS SEAT. 6 by the template 'for every input the law returns true; each argument reads behind the call as it read before'; 0 by the template 'total and deterministic' (their statements: YtchpnnengjlpmaaTotals.lean).
  GIVEN WITH THE SEED: the statements are not yours to turn. If you find one false, say at which input.
  Laid BY PROGRAM, IN A SANDBOX (cutbox-rows.mjs): the forced cells as the released guide's own fill.sh prints them over the translation b60f22cb96d6769f… (all of the seat's roots in one cut). By AI agents, Wed Nov 11 2026. No macro, syntax, notation, axiom, sorry.
-/
import Derived.Test.YtchpnnengjlpmaaChecked
import GoSem.Claim
import GoSem.ClaimJoined
import GoSem.ClaimMapViews
import Derived.JoinedTies
import Derived.KernelRfl
namespace Go.Proofs.Ytchpnnengjlpmaa
/- THE CELL 'sum', in the pinned program and in every row, IS THE sha256 OF THE DUMP (.gsa) THAT YtchpnnengjlpmaaProg.lean LOADS. Nothing in Lean hashes anything: it is a label: what it is worth is what the hold of that sum in a sandbox is worth. -/
noncomputable def Try.pinned : Pinned := { name := "ytchpnnengjlpmaa", sum := "b60f22cb96d6769ffe4ca0a93e36ff4695e93cb9da263261b5ea5d1bd97f4e41", checked := Try.checked }
namespace Rows
def none {H : Type} : Left H := { results := [], args := [] }

/-- 'bitloftlaw08.StatesRuns': WHATEVER THE INPUT: true; the input reads as it did. -/
def statesRunsSpec : ChangeSpec := { name := "statesRuns", fn := fun _ => fun
  | [d1, d2] => { results := [.lit (.bool true)], args := [d1, d2] }
  | _ => none }
def statesRunsRow : OpenClaim := { program := "ytchpnnengjlpmaa", sum := "b60f22cb96d6769ffe4ca0a93e36ff4695e93cb9da263261b5ea5d1bd97f4e41", func := "bitloft/bitloftlaw08.StatesRuns", spec := "statesRuns", unfollowed := true, recurses := true, apart := false }
def StatesRunsSaid : Prop := statesRunsRow.holds Try.pinned (OpenSpec.ofChange statesRunsSpec)

/-- ITS FALSE NEIGHBOUR: 'it returns false'. Refute it at one input. -/
def statesRunsWrong : ChangeSpec := { name := "statesRuns", fn := fun _ => fun
  | [d1, d2] => { results := [.lit (.bool false)], args := [d1, d2] }
  | _ => none }
def StatesRunsWrongFalsely : Prop := statesRunsRow.holds Try.pinned (OpenSpec.ofChange statesRunsWrong)

/-- 'bitloftlaw08.StatesNumbers': WHATEVER THE INPUT: true; the input reads as it did. -/
def statesNumbersSpec : ChangeSpec := { name := "statesNumbers", fn := fun _ => fun
  | [d1, d2] => { results := [.lit (.bool true)], args := [d1, d2] }
  | _ => none }
def statesNumbersRow : OpenClaim := { program := "ytchpnnengjlpmaa", sum := "b60f22cb96d6769ffe4ca0a93e36ff4695e93cb9da263261b5ea5d1bd97f4e41", func := "bitloft/bitloftlaw08.StatesNumbers", spec := "statesNumbers", unfollowed := true, recurses := true, apart := false }
def StatesNumbersSaid : Prop := statesNumbersRow.holds Try.pinned (OpenSpec.ofChange statesNumbersSpec)

/-- ITS FALSE NEIGHBOUR: 'it returns false'. Refute it at one input. -/
def statesNumbersWrong : ChangeSpec := { name := "statesNumbers", fn := fun _ => fun
  | [d1, d2] => { results := [.lit (.bool false)], args := [d1, d2] }
  | _ => none }
def StatesNumbersWrongFalsely : Prop := statesNumbersRow.holds Try.pinned (OpenSpec.ofChange statesNumbersWrong)

/-- 'bitloftlaw08.StatesParts': WHATEVER THE INPUT: true; the input reads as it did. -/
def statesPartsSpec : ChangeSpec := { name := "statesParts", fn := fun _ => fun
  | [d1, d2, d3] => { results := [.lit (.bool true)], args := [d1, d2, d3] }
  | _ => none }
def statesPartsRow : OpenClaim := { program := "ytchpnnengjlpmaa", sum := "b60f22cb96d6769ffe4ca0a93e36ff4695e93cb9da263261b5ea5d1bd97f4e41", func := "bitloft/bitloftlaw08.StatesParts", spec := "statesParts", unfollowed := true, recurses := true, apart := false }
def StatesPartsSaid : Prop := statesPartsRow.holds Try.pinned (OpenSpec.ofChange statesPartsSpec)

/-- ITS FALSE NEIGHBOUR: 'it returns false'. Refute it at one input. -/
def statesPartsWrong : ChangeSpec := { name := "statesParts", fn := fun _ => fun
  | [d1, d2, d3] => { results := [.lit (.bool false)], args := [d1, d2, d3] }
  | _ => none }
def StatesPartsWrongFalsely : Prop := statesPartsRow.holds Try.pinned (OpenSpec.ofChange statesPartsWrong)

/-- 'bitloftlaw08.StatesNames': WHATEVER THE INPUT: true; the input reads as it did. -/
def statesNamesSpec : ChangeSpec := { name := "statesNames", fn := fun _ => fun
  | [] => { results := [.lit (.bool true)], args := [] }
  | _ => none }
def statesNamesRow : OpenClaim := { program := "ytchpnnengjlpmaa", sum := "b60f22cb96d6769ffe4ca0a93e36ff4695e93cb9da263261b5ea5d1bd97f4e41", func := "bitloft/bitloftlaw08.StatesNames", spec := "statesNames", unfollowed := true, recurses := true, apart := false }
def StatesNamesSaid : Prop := statesNamesRow.holds Try.pinned (OpenSpec.ofChange statesNamesSpec)

/-- ITS FALSE NEIGHBOUR: 'it returns false'. Refute it at one input. -/
def statesNamesWrong : ChangeSpec := { name := "statesNames", fn := fun _ => fun
  | [] => { results := [.lit (.bool false)], args := [] }
  | _ => none }
def StatesNamesWrongFalsely : Prop := statesNamesRow.holds Try.pinned (OpenSpec.ofChange statesNamesWrong)

/-- 'bitloftlaw08.StatesMakes': WHATEVER THE INPUT: true; the input reads as it did. -/
def statesMakesSpec : ChangeSpec := { name := "statesMakes", fn := fun _ => fun
  | [d1, d2, d3] => { results := [.lit (.bool true)], args := [d1, d2, d3] }
  | _ => none }
def statesMakesRow : OpenClaim := { program := "ytchpnnengjlpmaa", sum := "b60f22cb96d6769ffe4ca0a93e36ff4695e93cb9da263261b5ea5d1bd97f4e41", func := "bitloft/bitloftlaw08.StatesMakes", spec := "statesMakes", unfollowed := true, recurses := true, apart := false }
def StatesMakesSaid : Prop := statesMakesRow.holds Try.pinned (OpenSpec.ofChange statesMakesSpec)

/-- ITS FALSE NEIGHBOUR: 'it returns false'. Refute it at one input. -/
def statesMakesWrong : ChangeSpec := { name := "statesMakes", fn := fun _ => fun
  | [d1, d2, d3] => { results := [.lit (.bool false)], args := [d1, d2, d3] }
  | _ => none }
def StatesMakesWrongFalsely : Prop := statesMakesRow.holds Try.pinned (OpenSpec.ofChange statesMakesWrong)

/-- 'bitloftlaw08.StatesCounts': WHATEVER THE INPUT: true; the input reads as it did. -/
def statesCountsSpec : ChangeSpec := { name := "statesCounts", fn := fun _ => fun
  | [d1, d2] => { results := [.lit (.bool true)], args := [d1, d2] }
  | _ => none }
def statesCountsRow : OpenClaim := { program := "ytchpnnengjlpmaa", sum := "b60f22cb96d6769ffe4ca0a93e36ff4695e93cb9da263261b5ea5d1bd97f4e41", func := "bitloft/bitloftlaw08.StatesCounts", spec := "statesCounts", unfollowed := true, recurses := true, apart := false }
def StatesCountsSaid : Prop := statesCountsRow.holds Try.pinned (OpenSpec.ofChange statesCountsSpec)

/-- ITS FALSE NEIGHBOUR: 'it returns false'. Refute it at one input. -/
def statesCountsWrong : ChangeSpec := { name := "statesCounts", fn := fun _ => fun
  | [d1, d2] => { results := [.lit (.bool false)], args := [d1, d2] }
  | _ => none }
def StatesCountsWrongFalsely : Prop := statesCountsRow.holds Try.pinned (OpenSpec.ofChange statesCountsWrong)

/- THE SECOND FORM. 'bulk': how many values and letters a reading holds, each counted each time it is reached (what is shared counts as often as it is met; a slice's spare places count too). A statement '..UptoSaid' is the law's where the arguments, and the package variables that the reading takes, are together of bulk at most 1048576: NARROWER than '..Said'. Prove '..Said' where nothing that the law and all that it calls make is longer than what came in: it says more and counts as full. Else prove '..UptoSaid'. A law counts once. -/
mutual
def uptoBulk {H : Type} : DataW H → Nat
  | .lit (.string bytes) => bytes.length + 1
  | .lit _ => 1
  | .nil => 1
  | .ptr d => uptoBulk d + 1
  | .slice elems spare => uptoBulkAll elems + uptoBulkAll spare + 1
  | .agg parts => uptoBulkAll parts + 1
  | .iface _ d => uptoBulk d + 1
  | .map entries => uptoBulkEntries entries + 1
  | .held _ => 1
def uptoBulkAll {H : Type} : List (DataW H) → Nat
  | [] => 0
  | d :: r => uptoBulk d + uptoBulkAll r
def uptoBulkEntries {H : Type} : List (Lit × DataW H) → Nat
  | [] => 0
  | x :: r => uptoBulkEntry x + uptoBulkEntries r
def uptoBulkEntry {H : Type} : Lit × DataW H → Nat
  | (.string bytes, d) => bytes.length + uptoBulk d + 1
  | (_, d) => uptoBulk d + 1
 end
def uptoSmall : (H : Type) → List (DataW H) → Bool := fun _ ds => decide (uptoBulkAll ds ≤ 1048576)
def OpenSpec.upto (s : _root_.Go.ChangeSpec) : _root_.Go.OpenSpec := { _root_.Go.OpenSpec.ofChange s with cond := some uptoSmall }

/-- 'bitloftlaw08.StatesRuns', WHERE WHAT IT READS IS OF BULK AT MOST 1048576: true; the input reads as it did. -/
def statesRunsUptoRow : OpenClaim := { program := "ytchpnnengjlpmaa", sum := "b60f22cb96d6769ffe4ca0a93e36ff4695e93cb9da263261b5ea5d1bd97f4e41", func := "bitloft/bitloftlaw08.StatesRuns", spec := "statesRuns", unfollowed := true, recurses := true, apart := false, narrowed := true }
def StatesRunsUptoSaid : Prop := statesRunsUptoRow.holds Try.pinned (OpenSpec.upto statesRunsSpec)

/-- 'bitloftlaw08.StatesNumbers', WHERE WHAT IT READS IS OF BULK AT MOST 1048576: true; the input reads as it did. -/
def statesNumbersUptoRow : OpenClaim := { program := "ytchpnnengjlpmaa", sum := "b60f22cb96d6769ffe4ca0a93e36ff4695e93cb9da263261b5ea5d1bd97f4e41", func := "bitloft/bitloftlaw08.StatesNumbers", spec := "statesNumbers", unfollowed := true, recurses := true, apart := false, narrowed := true }
def StatesNumbersUptoSaid : Prop := statesNumbersUptoRow.holds Try.pinned (OpenSpec.upto statesNumbersSpec)

/-- 'bitloftlaw08.StatesParts', WHERE WHAT IT READS IS OF BULK AT MOST 1048576: true; the input reads as it did. -/
def statesPartsUptoRow : OpenClaim := { program := "ytchpnnengjlpmaa", sum := "b60f22cb96d6769ffe4ca0a93e36ff4695e93cb9da263261b5ea5d1bd97f4e41", func := "bitloft/bitloftlaw08.StatesParts", spec := "statesParts", unfollowed := true, recurses := true, apart := false, narrowed := true }
def StatesPartsUptoSaid : Prop := statesPartsUptoRow.holds Try.pinned (OpenSpec.upto statesPartsSpec)

/-- 'bitloftlaw08.StatesNames', WHERE WHAT IT READS IS OF BULK AT MOST 1048576: true; the input reads as it did. -/
def statesNamesUptoRow : OpenClaim := { program := "ytchpnnengjlpmaa", sum := "b60f22cb96d6769ffe4ca0a93e36ff4695e93cb9da263261b5ea5d1bd97f4e41", func := "bitloft/bitloftlaw08.StatesNames", spec := "statesNames", unfollowed := true, recurses := true, apart := false, narrowed := true }
def StatesNamesUptoSaid : Prop := statesNamesUptoRow.holds Try.pinned (OpenSpec.upto statesNamesSpec)

/-- 'bitloftlaw08.StatesMakes', WHERE WHAT IT READS IS OF BULK AT MOST 1048576: true; the input reads as it did. -/
def statesMakesUptoRow : OpenClaim := { program := "ytchpnnengjlpmaa", sum := "b60f22cb96d6769ffe4ca0a93e36ff4695e93cb9da263261b5ea5d1bd97f4e41", func := "bitloft/bitloftlaw08.StatesMakes", spec := "statesMakes", unfollowed := true, recurses := true, apart := false, narrowed := true }
def StatesMakesUptoSaid : Prop := statesMakesUptoRow.holds Try.pinned (OpenSpec.upto statesMakesSpec)

/-- 'bitloftlaw08.StatesCounts', WHERE WHAT IT READS IS OF BULK AT MOST 1048576: true; the input reads as it did. -/
def statesCountsUptoRow : OpenClaim := { program := "ytchpnnengjlpmaa", sum := "b60f22cb96d6769ffe4ca0a93e36ff4695e93cb9da263261b5ea5d1bd97f4e41", func := "bitloft/bitloftlaw08.StatesCounts", spec := "statesCounts", unfollowed := true, recurses := true, apart := false, narrowed := true }
def StatesCountsUptoSaid : Prop := statesCountsUptoRow.holds Try.pinned (OpenSpec.upto statesCountsSpec)

end Rows
end Go.Proofs.Ytchpnnengjlpmaa
