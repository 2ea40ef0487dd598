/-
  No cell of these rows narrows 'for every input' (looked for: loops, veiled, ifaces, maps, wideKeys, modest, calm, conditions, laid).
  DERIVED. THE GIVEN ROWS OF THIS SEAT. 6 by the template 'for every input the law returns true; each argument reads behind the call as it read before'; 0 by the template 'total and deterministic' (their statements: YtaomhenneenaaaaTotals.lean).
  GIVEN WITH THE SEED: the statements are not yours to turn. If you find one false, say at which input.
  Laid BY PROGRAM, IN A SANDBOX (cutbox-rows.mjs): the forced cells as the released guide's own fill.sh prints them over the translation f79d93ffae700b90… (all of the seat's roots in one cut). By AI agents, Wed Nov 11 2026. No macro, syntax, notation, axiom, sorry.
-/
import Derived.Test.YtaomhenneenaaaaChecked
import GoSem.Claim
import GoSem.ClaimJoined
import GoSem.ClaimMapViews
import Derived.JoinedTies
import Derived.KernelRfl
namespace Go.Proofs.Ytaomhenneenaaaa
/- THE CELL 'sum', in the pinned program and in every row, IS THE sha256 OF THE DUMP (.gsa) THAT YtaomhenneenaaaaProg.lean LOADS. Nothing in Lean hashes anything: it is a label: what it is worth is what the hold of that sum in a sandbox is worth. -/
noncomputable def Try.pinned : Pinned := { name := "ytaomhenneenaaaa", sum := "f79d93ffae700b907bc707805095c0f2f3b256b4a9f0e2d05c8f00603fa4d1d7", checked := Try.checked }
namespace Rows
def none {H : Type} : Left H := { results := [], args := [] }

/-- 'bitloftlaw11.SlotsFinds': WHATEVER THE INPUT: true; the input reads as it did. -/
def slotsFindsSpec : ChangeSpec := { name := "slotsFinds", fn := fun _ => fun
  | [d1, d2, d3] => { results := [.lit (.bool true)], args := [d1, d2, d3] }
  | _ => none }
def slotsFindsRow : OpenClaim := { program := "ytaomhenneenaaaa", sum := "f79d93ffae700b907bc707805095c0f2f3b256b4a9f0e2d05c8f00603fa4d1d7", func := "bitloft/bitloftlaw11.SlotsFinds", spec := "slotsFinds", apart := false }
def SlotsFindsSaid : Prop := slotsFindsRow.holds Try.pinned (OpenSpec.ofChange slotsFindsSpec)

/-- ITS FALSE NEIGHBOUR: 'it returns false'. Refute it at one input. -/
def slotsFindsWrong : ChangeSpec := { name := "slotsFinds", fn := fun _ => fun
  | [d1, d2, d3] => { results := [.lit (.bool false)], args := [d1, d2, d3] }
  | _ => none }
def SlotsFindsWrongFalsely : Prop := slotsFindsRow.holds Try.pinned (OpenSpec.ofChange slotsFindsWrong)

/-- 'bitloftlaw11.SlotsSets': WHATEVER THE INPUT: true; the input reads as it did. -/
def slotsSetsSpec : ChangeSpec := { name := "slotsSets", fn := fun _ => fun
  | [d1, d2, d3, d4, d5] => { results := [.lit (.bool true)], args := [d1, d2, d3, d4, d5] }
  | _ => none }
def slotsSetsRow : OpenClaim := { program := "ytaomhenneenaaaa", sum := "f79d93ffae700b907bc707805095c0f2f3b256b4a9f0e2d05c8f00603fa4d1d7", func := "bitloft/bitloftlaw11.SlotsSets", spec := "slotsSets", unfollowed := true, recurses := true, apart := false }
def SlotsSetsSaid : Prop := slotsSetsRow.holds Try.pinned (OpenSpec.ofChange slotsSetsSpec)

/-- ITS FALSE NEIGHBOUR: 'it returns false'. Refute it at one input. -/
def slotsSetsWrong : ChangeSpec := { name := "slotsSets", fn := fun _ => fun
  | [d1, d2, d3, d4, d5] => { results := [.lit (.bool false)], args := [d1, d2, d3, d4, d5] }
  | _ => none }
def SlotsSetsWrongFalsely : Prop := slotsSetsRow.holds Try.pinned (OpenSpec.ofChange slotsSetsWrong)

/-- 'bitloftlaw11.SlotsNames': WHATEVER THE INPUT: true; the input reads as it did. -/
def slotsNamesSpec : ChangeSpec := { name := "slotsNames", fn := fun _ => fun
  | [] => { results := [.lit (.bool true)], args := [] }
  | _ => none }
def slotsNamesRow : OpenClaim := { program := "ytaomhenneenaaaa", sum := "f79d93ffae700b907bc707805095c0f2f3b256b4a9f0e2d05c8f00603fa4d1d7", func := "bitloft/bitloftlaw11.SlotsNames", spec := "slotsNames", unfollowed := true, recurses := true, apart := false }
def SlotsNamesSaid : Prop := slotsNamesRow.holds Try.pinned (OpenSpec.ofChange slotsNamesSpec)

/-- ITS FALSE NEIGHBOUR: 'it returns false'. Refute it at one input. -/
def slotsNamesWrong : ChangeSpec := { name := "slotsNames", fn := fun _ => fun
  | [] => { results := [.lit (.bool false)], args := [] }
  | _ => none }
def SlotsNamesWrongFalsely : Prop := slotsNamesRow.holds Try.pinned (OpenSpec.ofChange slotsNamesWrong)

/-- 'bitloftlaw11.SlotsFound': WHATEVER THE INPUT: true; the input reads as it did. -/
def slotsFoundSpec : ChangeSpec := { name := "slotsFound", fn := fun _ => fun
  | [d1, d2] => { results := [.lit (.bool true)], args := [d1, d2] }
  | _ => none }
def slotsFoundRow : OpenClaim := { program := "ytaomhenneenaaaa", sum := "f79d93ffae700b907bc707805095c0f2f3b256b4a9f0e2d05c8f00603fa4d1d7", func := "bitloft/bitloftlaw11.SlotsFound", spec := "slotsFound", unfollowed := true, recurses := true, apart := false }
def SlotsFoundSaid : Prop := slotsFoundRow.holds Try.pinned (OpenSpec.ofChange slotsFoundSpec)

/-- ITS FALSE NEIGHBOUR: 'it returns false'. Refute it at one input. -/
def slotsFoundWrong : ChangeSpec := { name := "slotsFound", fn := fun _ => fun
  | [d1, d2] => { results := [.lit (.bool false)], args := [d1, d2] }
  | _ => none }
def SlotsFoundWrongFalsely : Prop := slotsFoundRow.holds Try.pinned (OpenSpec.ofChange slotsFoundWrong)

/-- 'bitloftlaw11.SlotsAgain': WHATEVER THE INPUT: true; the input reads as it did. -/
def slotsAgainSpec : ChangeSpec := { name := "slotsAgain", fn := fun _ => fun
  | [d1, d2, d3, d4, d5] => { results := [.lit (.bool true)], args := [d1, d2, d3, d4, d5] }
  | _ => none }
def slotsAgainRow : OpenClaim := { program := "ytaomhenneenaaaa", sum := "f79d93ffae700b907bc707805095c0f2f3b256b4a9f0e2d05c8f00603fa4d1d7", func := "bitloft/bitloftlaw11.SlotsAgain", spec := "slotsAgain", unfollowed := true, recurses := true, apart := false }
def SlotsAgainSaid : Prop := slotsAgainRow.holds Try.pinned (OpenSpec.ofChange slotsAgainSpec)

/-- ITS FALSE NEIGHBOUR: 'it returns false'. Refute it at one input. -/
def slotsAgainWrong : ChangeSpec := { name := "slotsAgain", fn := fun _ => fun
  | [d1, d2, d3, d4, d5] => { results := [.lit (.bool false)], args := [d1, d2, d3, d4, d5] }
  | _ => none }
def SlotsAgainWrongFalsely : Prop := slotsAgainRow.holds Try.pinned (OpenSpec.ofChange slotsAgainWrong)

/-- 'bitloftlaw11.SlotsOnly': WHATEVER THE INPUT: true; the input reads as it did. -/
def slotsOnlySpec : ChangeSpec := { name := "slotsOnly", fn := fun _ => fun
  | [d1, d2, d3, d4, d5] => { results := [.lit (.bool true)], args := [d1, d2, d3, d4, d5] }
  | _ => none }
def slotsOnlyRow : OpenClaim := { program := "ytaomhenneenaaaa", sum := "f79d93ffae700b907bc707805095c0f2f3b256b4a9f0e2d05c8f00603fa4d1d7", func := "bitloft/bitloftlaw11.SlotsOnly", spec := "slotsOnly", unfollowed := true, recurses := true, apart := false }
def SlotsOnlySaid : Prop := slotsOnlyRow.holds Try.pinned (OpenSpec.ofChange slotsOnlySpec)

/-- ITS FALSE NEIGHBOUR: 'it returns false'. Refute it at one input. -/
def slotsOnlyWrong : ChangeSpec := { name := "slotsOnly", fn := fun _ => fun
  | [d1, d2, d3, d4, d5] => { results := [.lit (.bool false)], args := [d1, d2, d3, d4, d5] }
  | _ => none }
def SlotsOnlyWrongFalsely : Prop := slotsOnlyRow.holds Try.pinned (OpenSpec.ofChange slotsOnlyWrong)

/- THE SECOND FORM. 'bulk': how many values and letters a reading holds, each counted each time it is reached (what is shared counts as often as it is met; a slice's spare places count too). A statement '..UptoSaid' is the law's where the arguments, and the package variables that the reading takes, are together of bulk at most 1048576: NARROWER than '..Said'. Prove '..Said' where nothing that the law and all that it calls make is longer than what came in: it says more and counts as full. Else prove '..UptoSaid'. A law counts once. -/
mutual
def uptoBulk {H : Type} : DataW H → Nat
  | .lit (.string bytes) => bytes.length + 1
  | .lit _ => 1
  | .nil => 1
  | .ptr d => uptoBulk d + 1
  | .slice elems spare => uptoBulkAll elems + uptoBulkAll spare + 1
  | .agg parts => uptoBulkAll parts + 1
  | .iface _ d => uptoBulk d + 1
  | .map entries => uptoBulkEntries entries + 1
  | .held _ => 1
def uptoBulkAll {H : Type} : List (DataW H) → Nat
  | [] => 0
  | d :: r => uptoBulk d + uptoBulkAll r
def uptoBulkEntries {H : Type} : List (Lit × DataW H) → Nat
  | [] => 0
  | x :: r => uptoBulkEntry x + uptoBulkEntries r
def uptoBulkEntry {H : Type} : Lit × DataW H → Nat
  | (.string bytes, d) => bytes.length + uptoBulk d + 1
  | (_, d) => uptoBulk d + 1
 end
def uptoSmall : (H : Type) → List (DataW H) → Bool := fun _ ds => decide (uptoBulkAll ds ≤ 1048576)
def OpenSpec.upto (s : _root_.Go.ChangeSpec) : _root_.Go.OpenSpec := { _root_.Go.OpenSpec.ofChange s with cond := some uptoSmall }

/-- 'bitloftlaw11.SlotsFinds', WHERE WHAT IT READS IS OF BULK AT MOST 1048576: true; the input reads as it did. -/
def slotsFindsUptoRow : OpenClaim := { program := "ytaomhenneenaaaa", sum := "f79d93ffae700b907bc707805095c0f2f3b256b4a9f0e2d05c8f00603fa4d1d7", func := "bitloft/bitloftlaw11.SlotsFinds", spec := "slotsFinds", apart := false, narrowed := true }
def SlotsFindsUptoSaid : Prop := slotsFindsUptoRow.holds Try.pinned (OpenSpec.upto slotsFindsSpec)

/-- 'bitloftlaw11.SlotsSets', WHERE WHAT IT READS IS OF BULK AT MOST 1048576: true; the input reads as it did. -/
def slotsSetsUptoRow : OpenClaim := { program := "ytaomhenneenaaaa", sum := "f79d93ffae700b907bc707805095c0f2f3b256b4a9f0e2d05c8f00603fa4d1d7", func := "bitloft/bitloftlaw11.SlotsSets", spec := "slotsSets", unfollowed := true, recurses := true, apart := false, narrowed := true }
def SlotsSetsUptoSaid : Prop := slotsSetsUptoRow.holds Try.pinned (OpenSpec.upto slotsSetsSpec)

/-- 'bitloftlaw11.SlotsNames', WHERE WHAT IT READS IS OF BULK AT MOST 1048576: true; the input reads as it did. -/
def slotsNamesUptoRow : OpenClaim := { program := "ytaomhenneenaaaa", sum := "f79d93ffae700b907bc707805095c0f2f3b256b4a9f0e2d05c8f00603fa4d1d7", func := "bitloft/bitloftlaw11.SlotsNames", spec := "slotsNames", unfollowed := true, recurses := true, apart := false, narrowed := true }
def SlotsNamesUptoSaid : Prop := slotsNamesUptoRow.holds Try.pinned (OpenSpec.upto slotsNamesSpec)

/-- 'bitloftlaw11.SlotsFound', WHERE WHAT IT READS IS OF BULK AT MOST 1048576: true; the input reads as it did. -/
def slotsFoundUptoRow : OpenClaim := { program := "ytaomhenneenaaaa", sum := "f79d93ffae700b907bc707805095c0f2f3b256b4a9f0e2d05c8f00603fa4d1d7", func := "bitloft/bitloftlaw11.SlotsFound", spec := "slotsFound", unfollowed := true, recurses := true, apart := false, narrowed := true }
def SlotsFoundUptoSaid : Prop := slotsFoundUptoRow.holds Try.pinned (OpenSpec.upto slotsFoundSpec)

/-- 'bitloftlaw11.SlotsAgain', WHERE WHAT IT READS IS OF BULK AT MOST 1048576: true; the input reads as it did. -/
def slotsAgainUptoRow : OpenClaim := { program := "ytaomhenneenaaaa", sum := "f79d93ffae700b907bc707805095c0f2f3b256b4a9f0e2d05c8f00603fa4d1d7", func := "bitloft/bitloftlaw11.SlotsAgain", spec := "slotsAgain", unfollowed := true, recurses := true, apart := false, narrowed := true }
def SlotsAgainUptoSaid : Prop := slotsAgainUptoRow.holds Try.pinned (OpenSpec.upto slotsAgainSpec)

/-- 'bitloftlaw11.SlotsOnly', WHERE WHAT IT READS IS OF BULK AT MOST 1048576: true; the input reads as it did. -/
def slotsOnlyUptoRow : OpenClaim := { program := "ytaomhenneenaaaa", sum := "f79d93ffae700b907bc707805095c0f2f3b256b4a9f0e2d05c8f00603fa4d1d7", func := "bitloft/bitloftlaw11.SlotsOnly", spec := "slotsOnly", unfollowed := true, recurses := true, apart := false, narrowed := true }
def SlotsOnlyUptoSaid : Prop := slotsOnlyUptoRow.holds Try.pinned (OpenSpec.upto slotsOnlySpec)

end Rows
end Go.Proofs.Ytaomhenneenaaaa
