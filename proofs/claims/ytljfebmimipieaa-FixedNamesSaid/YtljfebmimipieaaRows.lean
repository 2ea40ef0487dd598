/-
  No cell of these rows narrows 'for every input' (looked for: loops, veiled, ifaces, maps, wideKeys, modest, calm, conditions, laid).
  DERIVED. THE GIVEN ROWS OF THIS SEAT. 7 by the template 'for every input the law returns true; each argument reads behind the call as it read before'; 0 by the template 'total and deterministic' (their statements: YtljfebmimipieaaTotals.lean).
  GIVEN WITH THE SEED: the statements are not yours to turn. If you find one false, say at which input.
  Laid BY PROGRAM, IN A SANDBOX (cutbox-rows.mjs): the forced cells as the released guide's own fill.sh prints them over the translation 2560ce0aaced1ccf… (all of the seat's roots in one cut). By AI agents, Wed Nov 11 2026. No macro, syntax, notation, axiom, sorry.
-/
import Derived.Test.YtljfebmimipieaaChecked
import GoSem.Claim
import GoSem.ClaimJoined
import GoSem.ClaimMapViews
import Derived.JoinedTies
import Derived.KernelRfl
namespace Go.Proofs.Ytljfebmimipieaa
/- THE CELL 'sum', in the pinned program and in every row, IS THE sha256 OF THE DUMP (.gsa) THAT YtljfebmimipieaaProg.lean LOADS. Nothing in Lean hashes anything: it is a label: what it is worth is what the hold of that sum in a sandbox is worth. -/
noncomputable def Try.pinned : Pinned := { name := "ytljfebmimipieaa", sum := "2560ce0aaced1ccfbfb1e4dfab863083ed78299fcbd85d83415c3784a6360fb3", checked := Try.checked }
namespace Rows
def none {H : Type} : Left H := { results := [], args := [] }

/-- 'bitloftlaw03.FixedMakes': WHATEVER THE INPUT: true; the input reads as it did. -/
def fixedMakesSpec : ChangeSpec := { name := "fixedMakes", fn := fun _ => fun
  | [d1, d2, d3, d4] => { results := [.lit (.bool true)], args := [d1, d2, d3, d4] }
  | _ => none }
def fixedMakesRow : OpenClaim := { program := "ytljfebmimipieaa", sum := "2560ce0aaced1ccfbfb1e4dfab863083ed78299fcbd85d83415c3784a6360fb3", func := "bitloft/bitloftlaw03.FixedMakes", spec := "fixedMakes", apart := false }
def FixedMakesSaid : Prop := fixedMakesRow.holds Try.pinned (OpenSpec.ofChange fixedMakesSpec)

/-- ITS FALSE NEIGHBOUR: 'it returns false'. Refute it at one input. -/
def fixedMakesWrong : ChangeSpec := { name := "fixedMakes", fn := fun _ => fun
  | [d1, d2, d3, d4] => { results := [.lit (.bool false)], args := [d1, d2, d3, d4] }
  | _ => none }
def FixedMakesWrongFalsely : Prop := fixedMakesRow.holds Try.pinned (OpenSpec.ofChange fixedMakesWrong)

/-- 'bitloftlaw03.FixedDots': WHATEVER THE INPUT: true; the input reads as it did. -/
def fixedDotsSpec : ChangeSpec := { name := "fixedDots", fn := fun _ => fun
  | [d1, d2] => { results := [.lit (.bool true)], args := [d1, d2] }
  | _ => none }
def fixedDotsRow : OpenClaim := { program := "ytljfebmimipieaa", sum := "2560ce0aaced1ccfbfb1e4dfab863083ed78299fcbd85d83415c3784a6360fb3", func := "bitloft/bitloftlaw03.FixedDots", spec := "fixedDots", inPlace := ["math/bits.Add64"], apart := false }
def FixedDotsSaid : Prop := fixedDotsRow.holds Try.pinned (OpenSpec.ofChange fixedDotsSpec)

/-- ITS FALSE NEIGHBOUR: 'it returns false'. Refute it at one input. -/
def fixedDotsWrong : ChangeSpec := { name := "fixedDots", fn := fun _ => fun
  | [d1, d2] => { results := [.lit (.bool false)], args := [d1, d2] }
  | _ => none }
def FixedDotsWrongFalsely : Prop := fixedDotsRow.holds Try.pinned (OpenSpec.ofChange fixedDotsWrong)

/-- 'bitloftlaw03.FixedRounds': WHATEVER THE INPUT: true; the input reads as it did. -/
def fixedRoundsSpec : ChangeSpec := { name := "fixedRounds", fn := fun _ => fun
  | [d1, d2, d3] => { results := [.lit (.bool true)], args := [d1, d2, d3] }
  | _ => none }
def fixedRoundsRow : OpenClaim := { program := "ytljfebmimipieaa", sum := "2560ce0aaced1ccfbfb1e4dfab863083ed78299fcbd85d83415c3784a6360fb3", func := "bitloft/bitloftlaw03.FixedRounds", spec := "fixedRounds", inPlace := ["math/bits.Add64"], apart := false }
def FixedRoundsSaid : Prop := fixedRoundsRow.holds Try.pinned (OpenSpec.ofChange fixedRoundsSpec)

/-- ITS FALSE NEIGHBOUR: 'it returns false'. Refute it at one input. -/
def fixedRoundsWrong : ChangeSpec := { name := "fixedRounds", fn := fun _ => fun
  | [d1, d2, d3] => { results := [.lit (.bool false)], args := [d1, d2, d3] }
  | _ => none }
def FixedRoundsWrongFalsely : Prop := fixedRoundsRow.holds Try.pinned (OpenSpec.ofChange fixedRoundsWrong)

/-- 'bitloftlaw03.FixedTurns': WHATEVER THE INPUT: true; the input reads as it did. -/
def fixedTurnsSpec : ChangeSpec := { name := "fixedTurns", fn := fun _ => fun
  | [d1, d2, d3] => { results := [.lit (.bool true)], args := [d1, d2, d3] }
  | _ => none }
def fixedTurnsRow : OpenClaim := { program := "ytljfebmimipieaa", sum := "2560ce0aaced1ccfbfb1e4dfab863083ed78299fcbd85d83415c3784a6360fb3", func := "bitloft/bitloftlaw03.FixedTurns", spec := "fixedTurns", inPlace := ["math/bits.Add64"], apart := false }
def FixedTurnsSaid : Prop := fixedTurnsRow.holds Try.pinned (OpenSpec.ofChange fixedTurnsSpec)

/-- ITS FALSE NEIGHBOUR: 'it returns false'. Refute it at one input. -/
def fixedTurnsWrong : ChangeSpec := { name := "fixedTurns", fn := fun _ => fun
  | [d1, d2, d3] => { results := [.lit (.bool false)], args := [d1, d2, d3] }
  | _ => none }
def FixedTurnsWrongFalsely : Prop := fixedTurnsRow.holds Try.pinned (OpenSpec.ofChange fixedTurnsWrong)

/-- 'bitloftlaw03.FixedExact': WHATEVER THE INPUT: true; the input reads as it did. -/
def fixedExactSpec : ChangeSpec := { name := "fixedExact", fn := fun _ => fun
  | [d1, d2] => { results := [.lit (.bool true)], args := [d1, d2] }
  | _ => none }
def fixedExactRow : OpenClaim := { program := "ytljfebmimipieaa", sum := "2560ce0aaced1ccfbfb1e4dfab863083ed78299fcbd85d83415c3784a6360fb3", func := "bitloft/bitloftlaw03.FixedExact", spec := "fixedExact", inPlace := ["math/bits.Add64"], apart := false }
def FixedExactSaid : Prop := fixedExactRow.holds Try.pinned (OpenSpec.ofChange fixedExactSpec)

/-- ITS FALSE NEIGHBOUR: 'it returns false'. Refute it at one input. -/
def fixedExactWrong : ChangeSpec := { name := "fixedExact", fn := fun _ => fun
  | [d1, d2] => { results := [.lit (.bool false)], args := [d1, d2] }
  | _ => none }
def FixedExactWrongFalsely : Prop := fixedExactRow.holds Try.pinned (OpenSpec.ofChange fixedExactWrong)

/-- 'bitloftlaw03.FixedNames': WHATEVER THE INPUT: true; the input reads as it did. -/
def fixedNamesSpec : ChangeSpec := { name := "fixedNames", fn := fun _ => fun
  | [] => { results := [.lit (.bool true)], args := [] }
  | _ => none }
def fixedNamesRow : OpenClaim := { program := "ytljfebmimipieaa", sum := "2560ce0aaced1ccfbfb1e4dfab863083ed78299fcbd85d83415c3784a6360fb3", func := "bitloft/bitloftlaw03.FixedNames", spec := "fixedNames", inPlace := ["math/bits.Add64"], apart := false }
def FixedNamesSaid : Prop := fixedNamesRow.holds Try.pinned (OpenSpec.ofChange fixedNamesSpec)

/-- ITS FALSE NEIGHBOUR: 'it returns false'. Refute it at one input. -/
def fixedNamesWrong : ChangeSpec := { name := "fixedNames", fn := fun _ => fun
  | [] => { results := [.lit (.bool false)], args := [] }
  | _ => none }
def FixedNamesWrongFalsely : Prop := fixedNamesRow.holds Try.pinned (OpenSpec.ofChange fixedNamesWrong)

/-- 'bitloftlaw03.FixedRange': WHATEVER THE INPUT: true; the input reads as it did. -/
def fixedRangeSpec : ChangeSpec := { name := "fixedRange", fn := fun _ => fun
  | [d1, d2, d3] => { results := [.lit (.bool true)], args := [d1, d2, d3] }
  | _ => none }
def fixedRangeRow : OpenClaim := { program := "ytljfebmimipieaa", sum := "2560ce0aaced1ccfbfb1e4dfab863083ed78299fcbd85d83415c3784a6360fb3", func := "bitloft/bitloftlaw03.FixedRange", spec := "fixedRange", inPlace := ["math/bits.Add64"], apart := false }
def FixedRangeSaid : Prop := fixedRangeRow.holds Try.pinned (OpenSpec.ofChange fixedRangeSpec)

/-- ITS FALSE NEIGHBOUR: 'it returns false'. Refute it at one input. -/
def fixedRangeWrong : ChangeSpec := { name := "fixedRange", fn := fun _ => fun
  | [d1, d2, d3] => { results := [.lit (.bool false)], args := [d1, d2, d3] }
  | _ => none }
def FixedRangeWrongFalsely : Prop := fixedRangeRow.holds Try.pinned (OpenSpec.ofChange fixedRangeWrong)

/- THE SECOND FORM. 'bulk': how many values and letters a reading holds, each counted each time it is reached (what is shared counts as often as it is met; a slice's spare places count too). A statement '..UptoSaid' is the law's where the arguments, and the package variables that the reading takes, are together of bulk at most 1048576: NARROWER than '..Said'. Prove '..Said' where nothing that the law and all that it calls make is longer than what came in: it says more and counts as full. Else prove '..UptoSaid'. A law counts once. -/
mutual
def uptoBulk {H : Type} : DataW H → Nat
  | .lit (.string bytes) => bytes.length + 1
  | .lit _ => 1
  | .nil => 1
  | .ptr d => uptoBulk d + 1
  | .slice elems spare => uptoBulkAll elems + uptoBulkAll spare + 1
  | .agg parts => uptoBulkAll parts + 1
  | .iface _ d => uptoBulk d + 1
  | .map entries => uptoBulkEntries entries + 1
  | .held _ => 1
def uptoBulkAll {H : Type} : List (DataW H) → Nat
  | [] => 0
  | d :: r => uptoBulk d + uptoBulkAll r
def uptoBulkEntries {H : Type} : List (Lit × DataW H) → Nat
  | [] => 0
  | x :: r => uptoBulkEntry x + uptoBulkEntries r
def uptoBulkEntry {H : Type} : Lit × DataW H → Nat
  | (.string bytes, d) => bytes.length + uptoBulk d + 1
  | (_, d) => uptoBulk d + 1
 end
def uptoSmall : (H : Type) → List (DataW H) → Bool := fun _ ds => decide (uptoBulkAll ds ≤ 1048576)
def OpenSpec.upto (s : _root_.Go.ChangeSpec) : _root_.Go.OpenSpec := { _root_.Go.OpenSpec.ofChange s with cond := some uptoSmall }

/-- 'bitloftlaw03.FixedMakes', WHERE WHAT IT READS IS OF BULK AT MOST 1048576: true; the input reads as it did. -/
def fixedMakesUptoRow : OpenClaim := { program := "ytljfebmimipieaa", sum := "2560ce0aaced1ccfbfb1e4dfab863083ed78299fcbd85d83415c3784a6360fb3", func := "bitloft/bitloftlaw03.FixedMakes", spec := "fixedMakes", apart := false, narrowed := true }
def FixedMakesUptoSaid : Prop := fixedMakesUptoRow.holds Try.pinned (OpenSpec.upto fixedMakesSpec)

/-- 'bitloftlaw03.FixedDots', WHERE WHAT IT READS IS OF BULK AT MOST 1048576: true; the input reads as it did. -/
def fixedDotsUptoRow : OpenClaim := { program := "ytljfebmimipieaa", sum := "2560ce0aaced1ccfbfb1e4dfab863083ed78299fcbd85d83415c3784a6360fb3", func := "bitloft/bitloftlaw03.FixedDots", spec := "fixedDots", inPlace := ["math/bits.Add64"], apart := false, narrowed := true }
def FixedDotsUptoSaid : Prop := fixedDotsUptoRow.holds Try.pinned (OpenSpec.upto fixedDotsSpec)

/-- 'bitloftlaw03.FixedRounds', WHERE WHAT IT READS IS OF BULK AT MOST 1048576: true; the input reads as it did. -/
def fixedRoundsUptoRow : OpenClaim := { program := "ytljfebmimipieaa", sum := "2560ce0aaced1ccfbfb1e4dfab863083ed78299fcbd85d83415c3784a6360fb3", func := "bitloft/bitloftlaw03.FixedRounds", spec := "fixedRounds", inPlace := ["math/bits.Add64"], apart := false, narrowed := true }
def FixedRoundsUptoSaid : Prop := fixedRoundsUptoRow.holds Try.pinned (OpenSpec.upto fixedRoundsSpec)

/-- 'bitloftlaw03.FixedTurns', WHERE WHAT IT READS IS OF BULK AT MOST 1048576: true; the input reads as it did. -/
def fixedTurnsUptoRow : OpenClaim := { program := "ytljfebmimipieaa", sum := "2560ce0aaced1ccfbfb1e4dfab863083ed78299fcbd85d83415c3784a6360fb3", func := "bitloft/bitloftlaw03.FixedTurns", spec := "fixedTurns", inPlace := ["math/bits.Add64"], apart := false, narrowed := true }
def FixedTurnsUptoSaid : Prop := fixedTurnsUptoRow.holds Try.pinned (OpenSpec.upto fixedTurnsSpec)

/-- 'bitloftlaw03.FixedExact', WHERE WHAT IT READS IS OF BULK AT MOST 1048576: true; the input reads as it did. -/
def fixedExactUptoRow : OpenClaim := { program := "ytljfebmimipieaa", sum := "2560ce0aaced1ccfbfb1e4dfab863083ed78299fcbd85d83415c3784a6360fb3", func := "bitloft/bitloftlaw03.FixedExact", spec := "fixedExact", inPlace := ["math/bits.Add64"], apart := false, narrowed := true }
def FixedExactUptoSaid : Prop := fixedExactUptoRow.holds Try.pinned (OpenSpec.upto fixedExactSpec)

/-- 'bitloftlaw03.FixedNames', WHERE WHAT IT READS IS OF BULK AT MOST 1048576: true; the input reads as it did. -/
def fixedNamesUptoRow : OpenClaim := { program := "ytljfebmimipieaa", sum := "2560ce0aaced1ccfbfb1e4dfab863083ed78299fcbd85d83415c3784a6360fb3", func := "bitloft/bitloftlaw03.FixedNames", spec := "fixedNames", inPlace := ["math/bits.Add64"], apart := false, narrowed := true }
def FixedNamesUptoSaid : Prop := fixedNamesUptoRow.holds Try.pinned (OpenSpec.upto fixedNamesSpec)

/-- 'bitloftlaw03.FixedRange', WHERE WHAT IT READS IS OF BULK AT MOST 1048576: true; the input reads as it did. -/
def fixedRangeUptoRow : OpenClaim := { program := "ytljfebmimipieaa", sum := "2560ce0aaced1ccfbfb1e4dfab863083ed78299fcbd85d83415c3784a6360fb3", func := "bitloft/bitloftlaw03.FixedRange", spec := "fixedRange", inPlace := ["math/bits.Add64"], apart := false, narrowed := true }
def FixedRangeUptoSaid : Prop := fixedRangeUptoRow.holds Try.pinned (OpenSpec.upto fixedRangeSpec)

end Rows
end Go.Proofs.Ytljfebmimipieaa
