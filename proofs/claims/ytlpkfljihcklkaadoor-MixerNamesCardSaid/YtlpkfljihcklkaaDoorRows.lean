/-
  NARROWER THAN 'FOR EVERY INPUT', by the rows' own cells (each row's printed sentence says how): MixerMixes: laid · MixerNames: laid · MixerLessens: laid · MixerApart: laid · MixerSums: laid.
  DERIVED. THE GIVEN ROWS OF THIS SEAT. 5 by the template 'for every input the law returns true; each argument reads behind the call as it read before'; 0 by the template 'total and deterministic' (their statements: YtlpkfljihcklkaaDoorTotals.lean).
  GIVEN WITH THE SEED: the statements are not yours to turn. If you find one false, say at which input.
  Laid BY PROGRAM, IN A SANDBOX (cutbox-rows.mjs): the forced cells as the released guide's own fill.sh prints them over the translation bb106795f9a56a34… (all of the seat's roots in one cut). By AI agents, Wed Nov 11 2026. No macro, syntax, notation, axiom, sorry.
-/
import Derived.Test.YtlpkfljihcklkaaDoorChecked
import GoSem.Claim
import GoSem.ClaimJoined
import GoSem.ClaimMapViews
import Derived.JoinedTies
import Derived.KernelRfl
namespace Go.Proofs.YtlpkfljihcklkaaDoor
/- THE CELL 'sum', in the pinned program and in every row, IS THE sha256 OF THE DUMP (.gsa) THAT YtlpkfljihcklkaaDoorProg.lean LOADS. Nothing in Lean hashes anything: it is a label: what it is worth is what the hold of that sum in a sandbox is worth. -/
noncomputable def Tryd.pinned : Pinned := { name := "ytlpkfljihcklkaadoor", sum := "bb106795f9a56a349354ccd4b935aedcc86754194aa0c2942385cd848381560d", checked := Tryd.checked }
namespace Rows
def none {H : Type} : Left H := { results := [], args := [] }

/- WHAT THE LISTED PACKAGE-LEVEL VARIABLES READ AS WHEN THE CALL BEGINS. Each datum BY PROGRAM (the guide's laid-datum.mjs) off the statement by which the dump's own 'gosem.cut.vars' lays the variable. In a bare row this is a premise. The card (YtlpkfljihcklkaaDoorCards.lean) ties it to the program's text. -/
def laid_bitloft_squash_row {H : Type} : DataW H := .agg [.lit (.int .i32 1), .lit (.int .i32 2), .lit (.int .i32 3), .lit (.int .i32 6), .lit (.int .i32 10), .lit (.int .i32 16), .lit (.int .i32 27), .lit (.int .i32 45), .lit (.int .i32 73), .lit (.int .i32 120), .lit (.int .i32 194), .lit (.int .i32 310), .lit (.int .i32 488), .lit (.int .i32 747), .lit (.int .i32 1101), .lit (.int .i32 1546), .lit (.int .i32 2047), .lit (.int .i32 2549), .lit (.int .i32 2994), .lit (.int .i32 3348), .lit (.int .i32 3607), .lit (.int .i32 3785), .lit (.int .i32 3901), .lit (.int .i32 3975), .lit (.int .i32 4022), .lit (.int .i32 4050), .lit (.int .i32 4068), .lit (.int .i32 4079), .lit (.int .i32 4085), .lit (.int .i32 4089), .lit (.int .i32 4092), .lit (.int .i32 4093), .lit (.int .i32 4094)]

/-- 'bitloftlaw16.MixerMixes': WHATEVER THE INPUT: true; the input reads as it did. -/
def mixerMixesSpec : ChangeSpec := { name := "mixerMixes", fn := fun _ => fun
  | [d1, d2, d3, d4, d5, d6, d7] => { results := [.lit (.bool true)], args := [d1, d2, d3, d4, d5, d6, d7] }
  | _ => none }
def mixerMixesRow : OpenClaim := { program := "ytlpkfljihcklkaadoor", sum := "bb106795f9a56a349354ccd4b935aedcc86754194aa0c2942385cd848381560d", func := "bitloft/bitloftlaw16.MixerMixes", spec := "mixerMixes", inPlace := ["math/bits.Add64"], unfollowed := true, recurses := true, named := ["bitloft/squash.row"], apart := false, laid := [("bitloft/squash.row", laid_bitloft_squash_row)] }
def MixerMixesSaid : Prop := mixerMixesRow.holds Tryd.pinned (OpenSpec.ofChange mixerMixesSpec)

/-- ITS FALSE NEIGHBOUR: 'it returns false'. Refute it at one input. -/
def mixerMixesWrong : ChangeSpec := { name := "mixerMixes", fn := fun _ => fun
  | [d1, d2, d3, d4, d5, d6, d7] => { results := [.lit (.bool false)], args := [d1, d2, d3, d4, d5, d6, d7] }
  | _ => none }
def MixerMixesWrongFalsely : Prop := mixerMixesRow.holds Tryd.pinned (OpenSpec.ofChange mixerMixesWrong)

/-- 'bitloftlaw16.MixerNames': WHATEVER THE INPUT: true; the input reads as it did. -/
def mixerNamesSpec : ChangeSpec := { name := "mixerNames", fn := fun _ => fun
  | [] => { results := [.lit (.bool true)], args := [] }
  | _ => none }
def mixerNamesRow : OpenClaim := { program := "ytlpkfljihcklkaadoor", sum := "bb106795f9a56a349354ccd4b935aedcc86754194aa0c2942385cd848381560d", func := "bitloft/bitloftlaw16.MixerNames", spec := "mixerNames", inPlace := ["math/bits.Add64"], unfollowed := true, recurses := true, named := ["bitloft/squash.row"], apart := false, laid := [("bitloft/squash.row", laid_bitloft_squash_row)] }
def MixerNamesSaid : Prop := mixerNamesRow.holds Tryd.pinned (OpenSpec.ofChange mixerNamesSpec)

/-- ITS FALSE NEIGHBOUR: 'it returns false'. Refute it at one input. -/
def mixerNamesWrong : ChangeSpec := { name := "mixerNames", fn := fun _ => fun
  | [] => { results := [.lit (.bool false)], args := [] }
  | _ => none }
def MixerNamesWrongFalsely : Prop := mixerNamesRow.holds Tryd.pinned (OpenSpec.ofChange mixerNamesWrong)

/-- 'bitloftlaw16.MixerLessens': WHATEVER THE INPUT: true; the input reads as it did. -/
def mixerLessensSpec : ChangeSpec := { name := "mixerLessens", fn := fun _ => fun
  | [d1, d2, d3, d4] => { results := [.lit (.bool true)], args := [d1, d2, d3, d4] }
  | _ => none }
def mixerLessensRow : OpenClaim := { program := "ytlpkfljihcklkaadoor", sum := "bb106795f9a56a349354ccd4b935aedcc86754194aa0c2942385cd848381560d", func := "bitloft/bitloftlaw16.MixerLessens", spec := "mixerLessens", inPlace := ["math/bits.Add64"], unfollowed := true, recurses := true, named := ["bitloft/squash.row"], apart := false, laid := [("bitloft/squash.row", laid_bitloft_squash_row)] }
def MixerLessensSaid : Prop := mixerLessensRow.holds Tryd.pinned (OpenSpec.ofChange mixerLessensSpec)

/-- ITS FALSE NEIGHBOUR: 'it returns false'. Refute it at one input. -/
def mixerLessensWrong : ChangeSpec := { name := "mixerLessens", fn := fun _ => fun
  | [d1, d2, d3, d4] => { results := [.lit (.bool false)], args := [d1, d2, d3, d4] }
  | _ => none }
def MixerLessensWrongFalsely : Prop := mixerLessensRow.holds Tryd.pinned (OpenSpec.ofChange mixerLessensWrong)

/-- 'bitloftlaw16.MixerApart': WHATEVER THE INPUT: true; the input reads as it did. -/
def mixerApartSpec : ChangeSpec := { name := "mixerApart", fn := fun _ => fun
  | [d1, d2, d3, d4, d5] => { results := [.lit (.bool true)], args := [d1, d2, d3, d4, d5] }
  | _ => none }
def mixerApartRow : OpenClaim := { program := "ytlpkfljihcklkaadoor", sum := "bb106795f9a56a349354ccd4b935aedcc86754194aa0c2942385cd848381560d", func := "bitloft/bitloftlaw16.MixerApart", spec := "mixerApart", inPlace := ["math/bits.Add64"], unfollowed := true, recurses := true, named := ["bitloft/squash.row"], apart := false, laid := [("bitloft/squash.row", laid_bitloft_squash_row)] }
def MixerApartSaid : Prop := mixerApartRow.holds Tryd.pinned (OpenSpec.ofChange mixerApartSpec)

/-- ITS FALSE NEIGHBOUR: 'it returns false'. Refute it at one input. -/
def mixerApartWrong : ChangeSpec := { name := "mixerApart", fn := fun _ => fun
  | [d1, d2, d3, d4, d5] => { results := [.lit (.bool false)], args := [d1, d2, d3, d4, d5] }
  | _ => none }
def MixerApartWrongFalsely : Prop := mixerApartRow.holds Tryd.pinned (OpenSpec.ofChange mixerApartWrong)

/-- 'bitloftlaw16.MixerSums': WHATEVER THE INPUT: true; the input reads as it did. -/
def mixerSumsSpec : ChangeSpec := { name := "mixerSums", fn := fun _ => fun
  | [d1, d2, d3, d4, d5] => { results := [.lit (.bool true)], args := [d1, d2, d3, d4, d5] }
  | _ => none }
def mixerSumsRow : OpenClaim := { program := "ytlpkfljihcklkaadoor", sum := "bb106795f9a56a349354ccd4b935aedcc86754194aa0c2942385cd848381560d", func := "bitloft/bitloftlaw16.MixerSums", spec := "mixerSums", inPlace := ["math/bits.Add64"], unfollowed := true, recurses := true, named := ["bitloft/squash.row"], apart := false, laid := [("bitloft/squash.row", laid_bitloft_squash_row)] }
def MixerSumsSaid : Prop := mixerSumsRow.holds Tryd.pinned (OpenSpec.ofChange mixerSumsSpec)

/-- ITS FALSE NEIGHBOUR: 'it returns false'. Refute it at one input. -/
def mixerSumsWrong : ChangeSpec := { name := "mixerSums", fn := fun _ => fun
  | [d1, d2, d3, d4, d5] => { results := [.lit (.bool false)], args := [d1, d2, d3, d4, d5] }
  | _ => none }
def MixerSumsWrongFalsely : Prop := mixerSumsRow.holds Tryd.pinned (OpenSpec.ofChange mixerSumsWrong)

/- THE SECOND FORM. 'bulk': how many values and letters a reading holds, each counted each time it is reached (what is shared counts as often as it is met; a slice's spare places count too). A statement '..UptoSaid' is the law's where the arguments, and the package variables that the reading takes, are together of bulk at most 1048576: NARROWER than '..Said'. Prove '..Said' where nothing that the law and all that it calls make is longer than what came in: it says more and counts as full. Else prove '..UptoSaid'. A law counts once. -/
mutual
def uptoBulk {H : Type} : DataW H → Nat
  | .lit (.string bytes) => bytes.length + 1
  | .lit _ => 1
  | .nil => 1
  | .ptr d => uptoBulk d + 1
  | .slice elems spare => uptoBulkAll elems + uptoBulkAll spare + 1
  | .agg parts => uptoBulkAll parts + 1
  | .iface _ d => uptoBulk d + 1
  | .map entries => uptoBulkEntries entries + 1
  | .held _ => 1
def uptoBulkAll {H : Type} : List (DataW H) → Nat
  | [] => 0
  | d :: r => uptoBulk d + uptoBulkAll r
def uptoBulkEntries {H : Type} : List (Lit × DataW H) → Nat
  | [] => 0
  | x :: r => uptoBulkEntry x + uptoBulkEntries r
def uptoBulkEntry {H : Type} : Lit × DataW H → Nat
  | (.string bytes, d) => bytes.length + uptoBulk d + 1
  | (_, d) => uptoBulk d + 1
 end
def uptoSmall : (H : Type) → List (DataW H) → Bool := fun _ ds => decide (uptoBulkAll ds ≤ 1048576)
def OpenSpec.upto (s : _root_.Go.ChangeSpec) : _root_.Go.OpenSpec := { _root_.Go.OpenSpec.ofChange s with cond := some uptoSmall }

/-- 'bitloftlaw16.MixerMixes', WHERE WHAT IT READS IS OF BULK AT MOST 1048576: true; the input reads as it did. -/
def mixerMixesUptoRow : OpenClaim := { program := "ytlpkfljihcklkaadoor", sum := "bb106795f9a56a349354ccd4b935aedcc86754194aa0c2942385cd848381560d", func := "bitloft/bitloftlaw16.MixerMixes", spec := "mixerMixes", inPlace := ["math/bits.Add64"], unfollowed := true, recurses := true, named := ["bitloft/squash.row"], apart := false, laid := [("bitloft/squash.row", laid_bitloft_squash_row)], narrowed := true }
def MixerMixesUptoSaid : Prop := mixerMixesUptoRow.holds Tryd.pinned (OpenSpec.upto mixerMixesSpec)

/-- 'bitloftlaw16.MixerNames', WHERE WHAT IT READS IS OF BULK AT MOST 1048576: true; the input reads as it did. -/
def mixerNamesUptoRow : OpenClaim := { program := "ytlpkfljihcklkaadoor", sum := "bb106795f9a56a349354ccd4b935aedcc86754194aa0c2942385cd848381560d", func := "bitloft/bitloftlaw16.MixerNames", spec := "mixerNames", inPlace := ["math/bits.Add64"], unfollowed := true, recurses := true, named := ["bitloft/squash.row"], apart := false, laid := [("bitloft/squash.row", laid_bitloft_squash_row)], narrowed := true }
def MixerNamesUptoSaid : Prop := mixerNamesUptoRow.holds Tryd.pinned (OpenSpec.upto mixerNamesSpec)

/-- 'bitloftlaw16.MixerLessens', WHERE WHAT IT READS IS OF BULK AT MOST 1048576: true; the input reads as it did. -/
def mixerLessensUptoRow : OpenClaim := { program := "ytlpkfljihcklkaadoor", sum := "bb106795f9a56a349354ccd4b935aedcc86754194aa0c2942385cd848381560d", func := "bitloft/bitloftlaw16.MixerLessens", spec := "mixerLessens", inPlace := ["math/bits.Add64"], unfollowed := true, recurses := true, named := ["bitloft/squash.row"], apart := false, laid := [("bitloft/squash.row", laid_bitloft_squash_row)], narrowed := true }
def MixerLessensUptoSaid : Prop := mixerLessensUptoRow.holds Tryd.pinned (OpenSpec.upto mixerLessensSpec)

/-- 'bitloftlaw16.MixerApart', WHERE WHAT IT READS IS OF BULK AT MOST 1048576: true; the input reads as it did. -/
def mixerApartUptoRow : OpenClaim := { program := "ytlpkfljihcklkaadoor", sum := "bb106795f9a56a349354ccd4b935aedcc86754194aa0c2942385cd848381560d", func := "bitloft/bitloftlaw16.MixerApart", spec := "mixerApart", inPlace := ["math/bits.Add64"], unfollowed := true, recurses := true, named := ["bitloft/squash.row"], apart := false, laid := [("bitloft/squash.row", laid_bitloft_squash_row)], narrowed := true }
def MixerApartUptoSaid : Prop := mixerApartUptoRow.holds Tryd.pinned (OpenSpec.upto mixerApartSpec)

/-- 'bitloftlaw16.MixerSums', WHERE WHAT IT READS IS OF BULK AT MOST 1048576: true; the input reads as it did. -/
def mixerSumsUptoRow : OpenClaim := { program := "ytlpkfljihcklkaadoor", sum := "bb106795f9a56a349354ccd4b935aedcc86754194aa0c2942385cd848381560d", func := "bitloft/bitloftlaw16.MixerSums", spec := "mixerSums", inPlace := ["math/bits.Add64"], unfollowed := true, recurses := true, named := ["bitloft/squash.row"], apart := false, laid := [("bitloft/squash.row", laid_bitloft_squash_row)], narrowed := true }
def MixerSumsUptoSaid : Prop := mixerSumsUptoRow.holds Tryd.pinned (OpenSpec.upto mixerSumsSpec)

end Rows
end Go.Proofs.YtlpkfljihcklkaaDoor
