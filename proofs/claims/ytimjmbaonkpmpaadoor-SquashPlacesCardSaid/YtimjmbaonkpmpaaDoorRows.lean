/-
  NARROWER THAN 'FOR EVERY INPUT', by the rows' own cells (each row's printed sentence says how): SquashMakes: laid · SquashStretches: laid · SquashRises: laid · SquashBack: laid · SquashTurns: laid · SquashNames: laid · SquashPlaces: laid.
  DERIVED. THE GIVEN ROWS OF THIS SEAT. 7 by the template 'for every input the law returns true; each argument reads behind the call as it read before'; 0 by the template 'total and deterministic' (their statements: YtimjmbaonkpmpaaDoorTotals.lean).
  GIVEN WITH THE SEED: the statements are not yours to turn. If you find one false, say at which input.
  Laid BY PROGRAM, IN A SANDBOX (cutbox-rows.mjs): the forced cells as the released guide's own fill.sh prints them over the translation 202f4280e7b53161… (all of the seat's roots in one cut). By AI agents, Wed Nov 11 2026. No macro, syntax, notation, axiom, sorry.
-/
import Derived.Test.YtimjmbaonkpmpaaDoorChecked
import GoSem.Claim
import GoSem.ClaimJoined
import GoSem.ClaimMapViews
import Derived.JoinedTies
import Derived.KernelRfl
namespace Go.Proofs.YtimjmbaonkpmpaaDoor
/- THE CELL 'sum', in the pinned program and in every row, IS THE sha256 OF THE DUMP (.gsa) THAT YtimjmbaonkpmpaaDoorProg.lean LOADS. Nothing in Lean hashes anything: it is a label: what it is worth is what the hold of that sum in a sandbox is worth. -/
noncomputable def Tryd.pinned : Pinned := { name := "ytimjmbaonkpmpaadoor", sum := "202f4280e7b531619f953c8c297a1bd07d9c9aae74df034c9d959604eff589ea", checked := Tryd.checked }
namespace Rows
def none {H : Type} : Left H := { results := [], args := [] }

/- WHAT THE LISTED PACKAGE-LEVEL VARIABLES READ AS WHEN THE CALL BEGINS. Each datum BY PROGRAM (the guide's laid-datum.mjs) off the statement by which the dump's own 'gosem.cut.vars' lays the variable. In a bare row this is a premise. The card (YtimjmbaonkpmpaaDoorCards.lean) ties it to the program's text. -/
def laid_bitloft_squash_row {H : Type} : DataW H := .agg [.lit (.int .i32 1), .lit (.int .i32 2), .lit (.int .i32 3), .lit (.int .i32 6), .lit (.int .i32 10), .lit (.int .i32 16), .lit (.int .i32 27), .lit (.int .i32 45), .lit (.int .i32 73), .lit (.int .i32 120), .lit (.int .i32 194), .lit (.int .i32 310), .lit (.int .i32 488), .lit (.int .i32 747), .lit (.int .i32 1101), .lit (.int .i32 1546), .lit (.int .i32 2047), .lit (.int .i32 2549), .lit (.int .i32 2994), .lit (.int .i32 3348), .lit (.int .i32 3607), .lit (.int .i32 3785), .lit (.int .i32 3901), .lit (.int .i32 3975), .lit (.int .i32 4022), .lit (.int .i32 4050), .lit (.int .i32 4068), .lit (.int .i32 4079), .lit (.int .i32 4085), .lit (.int .i32 4089), .lit (.int .i32 4092), .lit (.int .i32 4093), .lit (.int .i32 4094)]

/-- 'bitloftlaw04.SquashMakes': WHATEVER THE INPUT: true; the input reads as it did. -/
def squashMakesSpec : ChangeSpec := { name := "squashMakes", fn := fun _ => fun
  | [d] => { results := [.lit (.bool true)], args := [d] }
  | _ => none }
def squashMakesRow : OpenClaim := { program := "ytimjmbaonkpmpaadoor", sum := "202f4280e7b531619f953c8c297a1bd07d9c9aae74df034c9d959604eff589ea", func := "bitloft/bitloftlaw04.SquashMakes", spec := "squashMakes", named := ["bitloft/squash.row"], apart := false, laid := [("bitloft/squash.row", laid_bitloft_squash_row)] }
def SquashMakesSaid : Prop := squashMakesRow.holds Tryd.pinned (OpenSpec.ofChange squashMakesSpec)

/-- ITS FALSE NEIGHBOUR: 'it returns false'. Refute it at one input. -/
def squashMakesWrong : ChangeSpec := { name := "squashMakes", fn := fun _ => fun
  | [d] => { results := [.lit (.bool false)], args := [d] }
  | _ => none }
def SquashMakesWrongFalsely : Prop := squashMakesRow.holds Tryd.pinned (OpenSpec.ofChange squashMakesWrong)

/-- 'bitloftlaw04.SquashStretches': WHATEVER THE INPUT: true; the input reads as it did. -/
def squashStretchesSpec : ChangeSpec := { name := "squashStretches", fn := fun _ => fun
  | [d] => { results := [.lit (.bool true)], args := [d] }
  | _ => none }
def squashStretchesRow : OpenClaim := { program := "ytimjmbaonkpmpaadoor", sum := "202f4280e7b531619f953c8c297a1bd07d9c9aae74df034c9d959604eff589ea", func := "bitloft/bitloftlaw04.SquashStretches", spec := "squashStretches", unfollowed := true, recurses := true, named := ["bitloft/squash.row"], apart := false, laid := [("bitloft/squash.row", laid_bitloft_squash_row)] }
def SquashStretchesSaid : Prop := squashStretchesRow.holds Tryd.pinned (OpenSpec.ofChange squashStretchesSpec)

/-- ITS FALSE NEIGHBOUR: 'it returns false'. Refute it at one input. -/
def squashStretchesWrong : ChangeSpec := { name := "squashStretches", fn := fun _ => fun
  | [d] => { results := [.lit (.bool false)], args := [d] }
  | _ => none }
def SquashStretchesWrongFalsely : Prop := squashStretchesRow.holds Tryd.pinned (OpenSpec.ofChange squashStretchesWrong)

/-- 'bitloftlaw04.SquashRises': WHATEVER THE INPUT: true; the input reads as it did. -/
def squashRisesSpec : ChangeSpec := { name := "squashRises", fn := fun _ => fun
  | [d1, d2] => { results := [.lit (.bool true)], args := [d1, d2] }
  | _ => none }
def squashRisesRow : OpenClaim := { program := "ytimjmbaonkpmpaadoor", sum := "202f4280e7b531619f953c8c297a1bd07d9c9aae74df034c9d959604eff589ea", func := "bitloft/bitloftlaw04.SquashRises", spec := "squashRises", unfollowed := true, recurses := true, named := ["bitloft/squash.row"], apart := false, laid := [("bitloft/squash.row", laid_bitloft_squash_row)] }
def SquashRisesSaid : Prop := squashRisesRow.holds Tryd.pinned (OpenSpec.ofChange squashRisesSpec)

/-- ITS FALSE NEIGHBOUR: 'it returns false'. Refute it at one input. -/
def squashRisesWrong : ChangeSpec := { name := "squashRises", fn := fun _ => fun
  | [d1, d2] => { results := [.lit (.bool false)], args := [d1, d2] }
  | _ => none }
def SquashRisesWrongFalsely : Prop := squashRisesRow.holds Tryd.pinned (OpenSpec.ofChange squashRisesWrong)

/-- 'bitloftlaw04.SquashBack': WHATEVER THE INPUT: true; the input reads as it did. -/
def squashBackSpec : ChangeSpec := { name := "squashBack", fn := fun _ => fun
  | [d1, d2, d3] => { results := [.lit (.bool true)], args := [d1, d2, d3] }
  | _ => none }
def squashBackRow : OpenClaim := { program := "ytimjmbaonkpmpaadoor", sum := "202f4280e7b531619f953c8c297a1bd07d9c9aae74df034c9d959604eff589ea", func := "bitloft/bitloftlaw04.SquashBack", spec := "squashBack", unfollowed := true, recurses := true, named := ["bitloft/squash.row"], apart := false, laid := [("bitloft/squash.row", laid_bitloft_squash_row)] }
def SquashBackSaid : Prop := squashBackRow.holds Tryd.pinned (OpenSpec.ofChange squashBackSpec)

/-- ITS FALSE NEIGHBOUR: 'it returns false'. Refute it at one input. -/
def squashBackWrong : ChangeSpec := { name := "squashBack", fn := fun _ => fun
  | [d1, d2, d3] => { results := [.lit (.bool false)], args := [d1, d2, d3] }
  | _ => none }
def SquashBackWrongFalsely : Prop := squashBackRow.holds Tryd.pinned (OpenSpec.ofChange squashBackWrong)

/-- 'bitloftlaw04.SquashTurns': WHATEVER THE INPUT: true; the input reads as it did. -/
def squashTurnsSpec : ChangeSpec := { name := "squashTurns", fn := fun _ => fun
  | [d] => { results := [.lit (.bool true)], args := [d] }
  | _ => none }
def squashTurnsRow : OpenClaim := { program := "ytimjmbaonkpmpaadoor", sum := "202f4280e7b531619f953c8c297a1bd07d9c9aae74df034c9d959604eff589ea", func := "bitloft/bitloftlaw04.SquashTurns", spec := "squashTurns", unfollowed := true, recurses := true, named := ["bitloft/squash.row"], apart := false, laid := [("bitloft/squash.row", laid_bitloft_squash_row)] }
def SquashTurnsSaid : Prop := squashTurnsRow.holds Tryd.pinned (OpenSpec.ofChange squashTurnsSpec)

/-- ITS FALSE NEIGHBOUR: 'it returns false'. Refute it at one input. -/
def squashTurnsWrong : ChangeSpec := { name := "squashTurns", fn := fun _ => fun
  | [d] => { results := [.lit (.bool false)], args := [d] }
  | _ => none }
def SquashTurnsWrongFalsely : Prop := squashTurnsRow.holds Tryd.pinned (OpenSpec.ofChange squashTurnsWrong)

/-- 'bitloftlaw04.SquashNames': WHATEVER THE INPUT: true; the input reads as it did. -/
def squashNamesSpec : ChangeSpec := { name := "squashNames", fn := fun _ => fun
  | [] => { results := [.lit (.bool true)], args := [] }
  | _ => none }
def squashNamesRow : OpenClaim := { program := "ytimjmbaonkpmpaadoor", sum := "202f4280e7b531619f953c8c297a1bd07d9c9aae74df034c9d959604eff589ea", func := "bitloft/bitloftlaw04.SquashNames", spec := "squashNames", unfollowed := true, recurses := true, named := ["bitloft/squash.row"], apart := false, laid := [("bitloft/squash.row", laid_bitloft_squash_row)] }
def SquashNamesSaid : Prop := squashNamesRow.holds Tryd.pinned (OpenSpec.ofChange squashNamesSpec)

/-- ITS FALSE NEIGHBOUR: 'it returns false'. Refute it at one input. -/
def squashNamesWrong : ChangeSpec := { name := "squashNames", fn := fun _ => fun
  | [] => { results := [.lit (.bool false)], args := [] }
  | _ => none }
def SquashNamesWrongFalsely : Prop := squashNamesRow.holds Tryd.pinned (OpenSpec.ofChange squashNamesWrong)

/-- 'bitloftlaw04.SquashPlaces': WHATEVER THE INPUT: true; the input reads as it did. -/
def squashPlacesSpec : ChangeSpec := { name := "squashPlaces", fn := fun _ => fun
  | [d1, d2] => { results := [.lit (.bool true)], args := [d1, d2] }
  | _ => none }
def squashPlacesRow : OpenClaim := { program := "ytimjmbaonkpmpaadoor", sum := "202f4280e7b531619f953c8c297a1bd07d9c9aae74df034c9d959604eff589ea", func := "bitloft/bitloftlaw04.SquashPlaces", spec := "squashPlaces", unfollowed := true, recurses := true, named := ["bitloft/squash.row"], apart := false, laid := [("bitloft/squash.row", laid_bitloft_squash_row)] }
def SquashPlacesSaid : Prop := squashPlacesRow.holds Tryd.pinned (OpenSpec.ofChange squashPlacesSpec)

/-- ITS FALSE NEIGHBOUR: 'it returns false'. Refute it at one input. -/
def squashPlacesWrong : ChangeSpec := { name := "squashPlaces", fn := fun _ => fun
  | [d1, d2] => { results := [.lit (.bool false)], args := [d1, d2] }
  | _ => none }
def SquashPlacesWrongFalsely : Prop := squashPlacesRow.holds Tryd.pinned (OpenSpec.ofChange squashPlacesWrong)

/- THE SECOND FORM. 'bulk': how many values and letters a reading holds, each counted each time it is reached (what is shared counts as often as it is met; a slice's spare places count too). A statement '..UptoSaid' is the law's where the arguments, and the package variables that the reading takes, are together of bulk at most 1048576: NARROWER than '..Said'. Prove '..Said' where nothing that the law and all that it calls make is longer than what came in: it says more and counts as full. Else prove '..UptoSaid'. A law counts once. -/
mutual
def uptoBulk {H : Type} : DataW H → Nat
  | .lit (.string bytes) => bytes.length + 1
  | .lit _ => 1
  | .nil => 1
  | .ptr d => uptoBulk d + 1
  | .slice elems spare => uptoBulkAll elems + uptoBulkAll spare + 1
  | .agg parts => uptoBulkAll parts + 1
  | .iface _ d => uptoBulk d + 1
  | .map entries => uptoBulkEntries entries + 1
  | .held _ => 1
def uptoBulkAll {H : Type} : List (DataW H) → Nat
  | [] => 0
  | d :: r => uptoBulk d + uptoBulkAll r
def uptoBulkEntries {H : Type} : List (Lit × DataW H) → Nat
  | [] => 0
  | x :: r => uptoBulkEntry x + uptoBulkEntries r
def uptoBulkEntry {H : Type} : Lit × DataW H → Nat
  | (.string bytes, d) => bytes.length + uptoBulk d + 1
  | (_, d) => uptoBulk d + 1
 end
def uptoSmall : (H : Type) → List (DataW H) → Bool := fun _ ds => decide (uptoBulkAll ds ≤ 1048576)
def OpenSpec.upto (s : _root_.Go.ChangeSpec) : _root_.Go.OpenSpec := { _root_.Go.OpenSpec.ofChange s with cond := some uptoSmall }

/-- 'bitloftlaw04.SquashMakes', WHERE WHAT IT READS IS OF BULK AT MOST 1048576: true; the input reads as it did. -/
def squashMakesUptoRow : OpenClaim := { program := "ytimjmbaonkpmpaadoor", sum := "202f4280e7b531619f953c8c297a1bd07d9c9aae74df034c9d959604eff589ea", func := "bitloft/bitloftlaw04.SquashMakes", spec := "squashMakes", named := ["bitloft/squash.row"], apart := false, laid := [("bitloft/squash.row", laid_bitloft_squash_row)], narrowed := true }
def SquashMakesUptoSaid : Prop := squashMakesUptoRow.holds Tryd.pinned (OpenSpec.upto squashMakesSpec)

/-- 'bitloftlaw04.SquashStretches', WHERE WHAT IT READS IS OF BULK AT MOST 1048576: true; the input reads as it did. -/
def squashStretchesUptoRow : OpenClaim := { program := "ytimjmbaonkpmpaadoor", sum := "202f4280e7b531619f953c8c297a1bd07d9c9aae74df034c9d959604eff589ea", func := "bitloft/bitloftlaw04.SquashStretches", spec := "squashStretches", unfollowed := true, recurses := true, named := ["bitloft/squash.row"], apart := false, laid := [("bitloft/squash.row", laid_bitloft_squash_row)], narrowed := true }
def SquashStretchesUptoSaid : Prop := squashStretchesUptoRow.holds Tryd.pinned (OpenSpec.upto squashStretchesSpec)

/-- 'bitloftlaw04.SquashRises', WHERE WHAT IT READS IS OF BULK AT MOST 1048576: true; the input reads as it did. -/
def squashRisesUptoRow : OpenClaim := { program := "ytimjmbaonkpmpaadoor", sum := "202f4280e7b531619f953c8c297a1bd07d9c9aae74df034c9d959604eff589ea", func := "bitloft/bitloftlaw04.SquashRises", spec := "squashRises", unfollowed := true, recurses := true, named := ["bitloft/squash.row"], apart := false, laid := [("bitloft/squash.row", laid_bitloft_squash_row)], narrowed := true }
def SquashRisesUptoSaid : Prop := squashRisesUptoRow.holds Tryd.pinned (OpenSpec.upto squashRisesSpec)

/-- 'bitloftlaw04.SquashBack', WHERE WHAT IT READS IS OF BULK AT MOST 1048576: true; the input reads as it did. -/
def squashBackUptoRow : OpenClaim := { program := "ytimjmbaonkpmpaadoor", sum := "202f4280e7b531619f953c8c297a1bd07d9c9aae74df034c9d959604eff589ea", func := "bitloft/bitloftlaw04.SquashBack", spec := "squashBack", unfollowed := true, recurses := true, named := ["bitloft/squash.row"], apart := false, laid := [("bitloft/squash.row", laid_bitloft_squash_row)], narrowed := true }
def SquashBackUptoSaid : Prop := squashBackUptoRow.holds Tryd.pinned (OpenSpec.upto squashBackSpec)

/-- 'bitloftlaw04.SquashTurns', WHERE WHAT IT READS IS OF BULK AT MOST 1048576: true; the input reads as it did. -/
def squashTurnsUptoRow : OpenClaim := { program := "ytimjmbaonkpmpaadoor", sum := "202f4280e7b531619f953c8c297a1bd07d9c9aae74df034c9d959604eff589ea", func := "bitloft/bitloftlaw04.SquashTurns", spec := "squashTurns", unfollowed := true, recurses := true, named := ["bitloft/squash.row"], apart := false, laid := [("bitloft/squash.row", laid_bitloft_squash_row)], narrowed := true }
def SquashTurnsUptoSaid : Prop := squashTurnsUptoRow.holds Tryd.pinned (OpenSpec.upto squashTurnsSpec)

/-- 'bitloftlaw04.SquashNames', WHERE WHAT IT READS IS OF BULK AT MOST 1048576: true; the input reads as it did. -/
def squashNamesUptoRow : OpenClaim := { program := "ytimjmbaonkpmpaadoor", sum := "202f4280e7b531619f953c8c297a1bd07d9c9aae74df034c9d959604eff589ea", func := "bitloft/bitloftlaw04.SquashNames", spec := "squashNames", unfollowed := true, recurses := true, named := ["bitloft/squash.row"], apart := false, laid := [("bitloft/squash.row", laid_bitloft_squash_row)], narrowed := true }
def SquashNamesUptoSaid : Prop := squashNamesUptoRow.holds Tryd.pinned (OpenSpec.upto squashNamesSpec)

/-- 'bitloftlaw04.SquashPlaces', WHERE WHAT IT READS IS OF BULK AT MOST 1048576: true; the input reads as it did. -/
def squashPlacesUptoRow : OpenClaim := { program := "ytimjmbaonkpmpaadoor", sum := "202f4280e7b531619f953c8c297a1bd07d9c9aae74df034c9d959604eff589ea", func := "bitloft/bitloftlaw04.SquashPlaces", spec := "squashPlaces", unfollowed := true, recurses := true, named := ["bitloft/squash.row"], apart := false, laid := [("bitloft/squash.row", laid_bitloft_squash_row)], narrowed := true }
def SquashPlacesUptoSaid : Prop := squashPlacesUptoRow.holds Tryd.pinned (OpenSpec.upto squashPlacesSpec)

end Rows
end Go.Proofs.YtimjmbaonkpmpaaDoor
