/-
  No cell of these rows narrows 'for every input' (looked for: loops, veiled, ifaces, maps, wideKeys, modest, calm, conditions, laid).
  DERIVED. THE GIVEN ROWS OF THIS SEAT. 7 by the template 'for every input the law returns true; each argument reads behind the call as it read before'; 0 by the template 'total and deterministic' (their statements: YtpcjjggeipkehaaTotals.lean).
  GIVEN WITH THE SEED: the statements are not yours to turn. If you find one false, say at which input.
  Laid BY PROGRAM, IN A SANDBOX (cutbox-rows.mjs): the forced cells as the released guide's own fill.sh prints them over the translation 1ad93b9b7c745d1b… (all of the seat's roots in one cut). By AI agents, Wed Nov 11 2026. No macro, syntax, notation, axiom, sorry.
-/
import Derived.Test.YtpcjjggeipkehaaChecked
import GoSem.Claim
import GoSem.ClaimJoined
import GoSem.ClaimMapViews
import Derived.JoinedTies
import Derived.KernelRfl
namespace Go.Proofs.Ytpcjjggeipkehaa
/- THE CELL 'sum', in the pinned program and in every row, IS THE sha256 OF THE DUMP (.gsa) THAT YtpcjjggeipkehaaProg.lean LOADS. Nothing in Lean hashes anything: it is a label: what it is worth is what the hold of that sum in a sandbox is worth. -/
noncomputable def Try.pinned : Pinned := { name := "ytpcjjggeipkehaa", sum := "1ad93b9b7c745d1b065593a18609dce88906d39c988a54edaa4e7c8a4a241d73", checked := Try.checked }
namespace Rows
def none {H : Type} : Left H := { results := [], args := [] }

/-- 'bitloftlaw07.CountsMakes': WHATEVER THE INPUT: true; the input reads as it did. -/
def countsMakesSpec : ChangeSpec := { name := "countsMakes", fn := fun _ => fun
  | [d1, d2] => { results := [.lit (.bool true)], args := [d1, d2] }
  | _ => none }
def countsMakesRow : OpenClaim := { program := "ytpcjjggeipkehaa", sum := "1ad93b9b7c745d1b065593a18609dce88906d39c988a54edaa4e7c8a4a241d73", func := "bitloft/bitloftlaw07.CountsMakes", spec := "countsMakes", apart := false }
def CountsMakesSaid : Prop := countsMakesRow.holds Try.pinned (OpenSpec.ofChange countsMakesSpec)

/-- ITS FALSE NEIGHBOUR: 'it returns false'. Refute it at one input. -/
def countsMakesWrong : ChangeSpec := { name := "countsMakes", fn := fun _ => fun
  | [d1, d2] => { results := [.lit (.bool false)], args := [d1, d2] }
  | _ => none }
def CountsMakesWrongFalsely : Prop := countsMakesRow.holds Try.pinned (OpenSpec.ofChange countsMakesWrong)

/-- 'bitloftlaw07.CountsRuns': WHATEVER THE INPUT: true; the input reads as it did. -/
def countsRunsSpec : ChangeSpec := { name := "countsRuns", fn := fun _ => fun
  | [d1, d2] => { results := [.lit (.bool true)], args := [d1, d2] }
  | _ => none }
def countsRunsRow : OpenClaim := { program := "ytpcjjggeipkehaa", sum := "1ad93b9b7c745d1b065593a18609dce88906d39c988a54edaa4e7c8a4a241d73", func := "bitloft/bitloftlaw07.CountsRuns", spec := "countsRuns", apart := false }
def CountsRunsSaid : Prop := countsRunsRow.holds Try.pinned (OpenSpec.ofChange countsRunsSpec)

/-- ITS FALSE NEIGHBOUR: 'it returns false'. Refute it at one input. -/
def countsRunsWrong : ChangeSpec := { name := "countsRuns", fn := fun _ => fun
  | [d1, d2] => { results := [.lit (.bool false)], args := [d1, d2] }
  | _ => none }
def CountsRunsWrongFalsely : Prop := countsRunsRow.holds Try.pinned (OpenSpec.ofChange countsRunsWrong)

/-- 'bitloftlaw07.CountsTurns': WHATEVER THE INPUT: true; the input reads as it did. -/
def countsTurnsSpec : ChangeSpec := { name := "countsTurns", fn := fun _ => fun
  | [d1, d2] => { results := [.lit (.bool true)], args := [d1, d2] }
  | _ => none }
def countsTurnsRow : OpenClaim := { program := "ytpcjjggeipkehaa", sum := "1ad93b9b7c745d1b065593a18609dce88906d39c988a54edaa4e7c8a4a241d73", func := "bitloft/bitloftlaw07.CountsTurns", spec := "countsTurns", apart := false }
def CountsTurnsSaid : Prop := countsTurnsRow.holds Try.pinned (OpenSpec.ofChange countsTurnsSpec)

/-- ITS FALSE NEIGHBOUR: 'it returns false'. Refute it at one input. -/
def countsTurnsWrong : ChangeSpec := { name := "countsTurns", fn := fun _ => fun
  | [d1, d2] => { results := [.lit (.bool false)], args := [d1, d2] }
  | _ => none }
def CountsTurnsWrongFalsely : Prop := countsTurnsRow.holds Try.pinned (OpenSpec.ofChange countsTurnsWrong)

/-- 'bitloftlaw07.CountsEqual': WHATEVER THE INPUT: true; the input reads as it did. -/
def countsEqualSpec : ChangeSpec := { name := "countsEqual", fn := fun _ => fun
  | [d1, d2, d3] => { results := [.lit (.bool true)], args := [d1, d2, d3] }
  | _ => none }
def countsEqualRow : OpenClaim := { program := "ytpcjjggeipkehaa", sum := "1ad93b9b7c745d1b065593a18609dce88906d39c988a54edaa4e7c8a4a241d73", func := "bitloft/bitloftlaw07.CountsEqual", spec := "countsEqual", apart := false }
def CountsEqualSaid : Prop := countsEqualRow.holds Try.pinned (OpenSpec.ofChange countsEqualSpec)

/-- ITS FALSE NEIGHBOUR: 'it returns false'. Refute it at one input. -/
def countsEqualWrong : ChangeSpec := { name := "countsEqual", fn := fun _ => fun
  | [d1, d2, d3] => { results := [.lit (.bool false)], args := [d1, d2, d3] }
  | _ => none }
def CountsEqualWrongFalsely : Prop := countsEqualRow.holds Try.pinned (OpenSpec.ofChange countsEqualWrong)

/-- 'bitloftlaw07.CountsParts': WHATEVER THE INPUT: true; the input reads as it did. -/
def countsPartsSpec : ChangeSpec := { name := "countsParts", fn := fun _ => fun
  | [d1, d2, d3] => { results := [.lit (.bool true)], args := [d1, d2, d3] }
  | _ => none }
def countsPartsRow : OpenClaim := { program := "ytpcjjggeipkehaa", sum := "1ad93b9b7c745d1b065593a18609dce88906d39c988a54edaa4e7c8a4a241d73", func := "bitloft/bitloftlaw07.CountsParts", spec := "countsParts", apart := false }
def CountsPartsSaid : Prop := countsPartsRow.holds Try.pinned (OpenSpec.ofChange countsPartsSpec)

/-- ITS FALSE NEIGHBOUR: 'it returns false'. Refute it at one input. -/
def countsPartsWrong : ChangeSpec := { name := "countsParts", fn := fun _ => fun
  | [d1, d2, d3] => { results := [.lit (.bool false)], args := [d1, d2, d3] }
  | _ => none }
def CountsPartsWrongFalsely : Prop := countsPartsRow.holds Try.pinned (OpenSpec.ofChange countsPartsWrong)

/-- 'bitloftlaw07.CountsNames': WHATEVER THE INPUT: true; the input reads as it did. -/
def countsNamesSpec : ChangeSpec := { name := "countsNames", fn := fun _ => fun
  | [] => { results := [.lit (.bool true)], args := [] }
  | _ => none }
def countsNamesRow : OpenClaim := { program := "ytpcjjggeipkehaa", sum := "1ad93b9b7c745d1b065593a18609dce88906d39c988a54edaa4e7c8a4a241d73", func := "bitloft/bitloftlaw07.CountsNames", spec := "countsNames", apart := false }
def CountsNamesSaid : Prop := countsNamesRow.holds Try.pinned (OpenSpec.ofChange countsNamesSpec)

/-- ITS FALSE NEIGHBOUR: 'it returns false'. Refute it at one input. -/
def countsNamesWrong : ChangeSpec := { name := "countsNames", fn := fun _ => fun
  | [] => { results := [.lit (.bool false)], args := [] }
  | _ => none }
def CountsNamesWrongFalsely : Prop := countsNamesRow.holds Try.pinned (OpenSpec.ofChange countsNamesWrong)

/-- 'bitloftlaw07.CountsBounds': WHATEVER THE INPUT: true; the input reads as it did. -/
def countsBoundsSpec : ChangeSpec := { name := "countsBounds", fn := fun _ => fun
  | [d1, d2] => { results := [.lit (.bool true)], args := [d1, d2] }
  | _ => none }
def countsBoundsRow : OpenClaim := { program := "ytpcjjggeipkehaa", sum := "1ad93b9b7c745d1b065593a18609dce88906d39c988a54edaa4e7c8a4a241d73", func := "bitloft/bitloftlaw07.CountsBounds", spec := "countsBounds", apart := false }
def CountsBoundsSaid : Prop := countsBoundsRow.holds Try.pinned (OpenSpec.ofChange countsBoundsSpec)

/-- ITS FALSE NEIGHBOUR: 'it returns false'. Refute it at one input. -/
def countsBoundsWrong : ChangeSpec := { name := "countsBounds", fn := fun _ => fun
  | [d1, d2] => { results := [.lit (.bool false)], args := [d1, d2] }
  | _ => none }
def CountsBoundsWrongFalsely : Prop := countsBoundsRow.holds Try.pinned (OpenSpec.ofChange countsBoundsWrong)

/- THE SECOND FORM. 'bulk': how many values and letters a reading holds, each counted each time it is reached (what is shared counts as often as it is met; a slice's spare places count too). A statement '..UptoSaid' is the law's where the arguments, and the package variables that the reading takes, are together of bulk at most 1048576: NARROWER than '..Said'. Prove '..Said' where nothing that the law and all that it calls make is longer than what came in: it says more and counts as full. Else prove '..UptoSaid'. A law counts once. -/
mutual
def uptoBulk {H : Type} : DataW H → Nat
  | .lit (.string bytes) => bytes.length + 1
  | .lit _ => 1
  | .nil => 1
  | .ptr d => uptoBulk d + 1
  | .slice elems spare => uptoBulkAll elems + uptoBulkAll spare + 1
  | .agg parts => uptoBulkAll parts + 1
  | .iface _ d => uptoBulk d + 1
  | .map entries => uptoBulkEntries entries + 1
  | .held _ => 1
def uptoBulkAll {H : Type} : List (DataW H) → Nat
  | [] => 0
  | d :: r => uptoBulk d + uptoBulkAll r
def uptoBulkEntries {H : Type} : List (Lit × DataW H) → Nat
  | [] => 0
  | x :: r => uptoBulkEntry x + uptoBulkEntries r
def uptoBulkEntry {H : Type} : Lit × DataW H → Nat
  | (.string bytes, d) => bytes.length + uptoBulk d + 1
  | (_, d) => uptoBulk d + 1
 end
def uptoSmall : (H : Type) → List (DataW H) → Bool := fun _ ds => decide (uptoBulkAll ds ≤ 1048576)
def OpenSpec.upto (s : _root_.Go.ChangeSpec) : _root_.Go.OpenSpec := { _root_.Go.OpenSpec.ofChange s with cond := some uptoSmall }

/-- 'bitloftlaw07.CountsMakes', WHERE WHAT IT READS IS OF BULK AT MOST 1048576: true; the input reads as it did. -/
def countsMakesUptoRow : OpenClaim := { program := "ytpcjjggeipkehaa", sum := "1ad93b9b7c745d1b065593a18609dce88906d39c988a54edaa4e7c8a4a241d73", func := "bitloft/bitloftlaw07.CountsMakes", spec := "countsMakes", apart := false, narrowed := true }
def CountsMakesUptoSaid : Prop := countsMakesUptoRow.holds Try.pinned (OpenSpec.upto countsMakesSpec)

/-- 'bitloftlaw07.CountsRuns', WHERE WHAT IT READS IS OF BULK AT MOST 1048576: true; the input reads as it did. -/
def countsRunsUptoRow : OpenClaim := { program := "ytpcjjggeipkehaa", sum := "1ad93b9b7c745d1b065593a18609dce88906d39c988a54edaa4e7c8a4a241d73", func := "bitloft/bitloftlaw07.CountsRuns", spec := "countsRuns", apart := false, narrowed := true }
def CountsRunsUptoSaid : Prop := countsRunsUptoRow.holds Try.pinned (OpenSpec.upto countsRunsSpec)

/-- 'bitloftlaw07.CountsTurns', WHERE WHAT IT READS IS OF BULK AT MOST 1048576: true; the input reads as it did. -/
def countsTurnsUptoRow : OpenClaim := { program := "ytpcjjggeipkehaa", sum := "1ad93b9b7c745d1b065593a18609dce88906d39c988a54edaa4e7c8a4a241d73", func := "bitloft/bitloftlaw07.CountsTurns", spec := "countsTurns", apart := false, narrowed := true }
def CountsTurnsUptoSaid : Prop := countsTurnsUptoRow.holds Try.pinned (OpenSpec.upto countsTurnsSpec)

/-- 'bitloftlaw07.CountsEqual', WHERE WHAT IT READS IS OF BULK AT MOST 1048576: true; the input reads as it did. -/
def countsEqualUptoRow : OpenClaim := { program := "ytpcjjggeipkehaa", sum := "1ad93b9b7c745d1b065593a18609dce88906d39c988a54edaa4e7c8a4a241d73", func := "bitloft/bitloftlaw07.CountsEqual", spec := "countsEqual", apart := false, narrowed := true }
def CountsEqualUptoSaid : Prop := countsEqualUptoRow.holds Try.pinned (OpenSpec.upto countsEqualSpec)

/-- 'bitloftlaw07.CountsParts', WHERE WHAT IT READS IS OF BULK AT MOST 1048576: true; the input reads as it did. -/
def countsPartsUptoRow : OpenClaim := { program := "ytpcjjggeipkehaa", sum := "1ad93b9b7c745d1b065593a18609dce88906d39c988a54edaa4e7c8a4a241d73", func := "bitloft/bitloftlaw07.CountsParts", spec := "countsParts", apart := false, narrowed := true }
def CountsPartsUptoSaid : Prop := countsPartsUptoRow.holds Try.pinned (OpenSpec.upto countsPartsSpec)

/-- 'bitloftlaw07.CountsNames', WHERE WHAT IT READS IS OF BULK AT MOST 1048576: true; the input reads as it did. -/
def countsNamesUptoRow : OpenClaim := { program := "ytpcjjggeipkehaa", sum := "1ad93b9b7c745d1b065593a18609dce88906d39c988a54edaa4e7c8a4a241d73", func := "bitloft/bitloftlaw07.CountsNames", spec := "countsNames", apart := false, narrowed := true }
def CountsNamesUptoSaid : Prop := countsNamesUptoRow.holds Try.pinned (OpenSpec.upto countsNamesSpec)

/-- 'bitloftlaw07.CountsBounds', WHERE WHAT IT READS IS OF BULK AT MOST 1048576: true; the input reads as it did. -/
def countsBoundsUptoRow : OpenClaim := { program := "ytpcjjggeipkehaa", sum := "1ad93b9b7c745d1b065593a18609dce88906d39c988a54edaa4e7c8a4a241d73", func := "bitloft/bitloftlaw07.CountsBounds", spec := "countsBounds", apart := false, narrowed := true }
def CountsBoundsUptoSaid : Prop := countsBoundsUptoRow.holds Try.pinned (OpenSpec.upto countsBoundsSpec)

end Rows
end Go.Proofs.Ytpcjjggeipkehaa
