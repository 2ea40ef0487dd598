/-
  No cell of these rows narrows 'for every input' (looked for: loops, veiled, ifaces, maps, wideKeys, modest, calm, conditions, laid).
  DERIVED. THE GIVEN ROWS OF THIS SEAT. 6 by the template 'for every input the law returns true; each argument reads behind the call as it read before'; 0 by the template 'total and deterministic' (their statements: YtapfgghgohajaaaTotals.lean).
  GIVEN WITH THE SEED: the statements are not yours to turn. If you find one false, say at which input.
  Laid BY PROGRAM, IN A SANDBOX (cutbox-rows.mjs): the forced cells as the released guide's own fill.sh prints them over the translation 78b2631f69d826ae… (all of the seat's roots in one cut). By AI agents, Wed Nov 11 2026. No macro, syntax, notation, axiom, sorry.
-/
import Derived.Test.YtapfgghgohajaaaChecked
import GoSem.Claim
import GoSem.ClaimJoined
import GoSem.ClaimMapViews
import Derived.JoinedTies
import Derived.KernelRfl
namespace Go.Proofs.Ytapfgghgohajaaa
/- THE CELL 'sum', in the pinned program and in every row, IS THE sha256 OF THE DUMP (.gsa) THAT YtapfgghgohajaaaProg.lean LOADS. Nothing in Lean hashes anything: it is a label: what it is worth is what the hold of that sum in a sandbox is worth. -/
noncomputable def Try.pinned : Pinned := { name := "ytapfgghgohajaaa", sum := "78b2631f69d826ae804f8bbdf98d0ab29468143979eacbcfd140aa8440c66f70", checked := Try.checked }
namespace Rows
def none {H : Type} : Left H := { results := [], args := [] }

/-- 'bitloftlaw05.RecipNames': WHATEVER THE INPUT: true; the input reads as it did. -/
def recipNamesSpec : ChangeSpec := { name := "recipNames", fn := fun _ => fun
  | [] => { results := [.lit (.bool true)], args := [] }
  | _ => none }
def recipNamesRow : OpenClaim := { program := "ytapfgghgohajaaa", sum := "78b2631f69d826ae804f8bbdf98d0ab29468143979eacbcfd140aa8440c66f70", func := "bitloft/bitloftlaw05.RecipNames", spec := "recipNames", apart := false }
def RecipNamesSaid : Prop := recipNamesRow.holds Try.pinned (OpenSpec.ofChange recipNamesSpec)

/-- ITS FALSE NEIGHBOUR: 'it returns false'. Refute it at one input. -/
def recipNamesWrong : ChangeSpec := { name := "recipNames", fn := fun _ => fun
  | [] => { results := [.lit (.bool false)], args := [] }
  | _ => none }
def RecipNamesWrongFalsely : Prop := recipNamesRow.holds Try.pinned (OpenSpec.ofChange recipNamesWrong)

/-- 'bitloftlaw05.RecipMakes': WHATEVER THE INPUT: true; the input reads as it did. -/
def recipMakesSpec : ChangeSpec := { name := "recipMakes", fn := fun _ => fun
  | [d1, d2, d3, d4] => { results := [.lit (.bool true)], args := [d1, d2, d3, d4] }
  | _ => none }
def recipMakesRow : OpenClaim := { program := "ytapfgghgohajaaa", sum := "78b2631f69d826ae804f8bbdf98d0ab29468143979eacbcfd140aa8440c66f70", func := "bitloft/bitloftlaw05.RecipMakes", spec := "recipMakes", apart := false }
def RecipMakesSaid : Prop := recipMakesRow.holds Try.pinned (OpenSpec.ofChange recipMakesSpec)

/-- ITS FALSE NEIGHBOUR: 'it returns false'. Refute it at one input. -/
def recipMakesWrong : ChangeSpec := { name := "recipMakes", fn := fun _ => fun
  | [d1, d2, d3, d4] => { results := [.lit (.bool false)], args := [d1, d2, d3, d4] }
  | _ => none }
def RecipMakesWrongFalsely : Prop := recipMakesRow.holds Try.pinned (OpenSpec.ofChange recipMakesWrong)

/-- 'bitloftlaw05.RecipNear': WHATEVER THE INPUT: true; the input reads as it did. -/
def recipNearSpec : ChangeSpec := { name := "recipNear", fn := fun _ => fun
  | [d1, d2] => { results := [.lit (.bool true)], args := [d1, d2] }
  | _ => none }
def recipNearRow : OpenClaim := { program := "ytapfgghgohajaaa", sum := "78b2631f69d826ae804f8bbdf98d0ab29468143979eacbcfd140aa8440c66f70", func := "bitloft/bitloftlaw05.RecipNear", spec := "recipNear", apart := false }
def RecipNearSaid : Prop := recipNearRow.holds Try.pinned (OpenSpec.ofChange recipNearSpec)

/-- ITS FALSE NEIGHBOUR: 'it returns false'. Refute it at one input. -/
def recipNearWrong : ChangeSpec := { name := "recipNear", fn := fun _ => fun
  | [d1, d2] => { results := [.lit (.bool false)], args := [d1, d2] }
  | _ => none }
def RecipNearWrongFalsely : Prop := recipNearRow.holds Try.pinned (OpenSpec.ofChange recipNearWrong)

/-- 'bitloftlaw05.RecipPowers': WHATEVER THE INPUT: true; the input reads as it did. -/
def recipPowersSpec : ChangeSpec := { name := "recipPowers", fn := fun _ => fun
  | [d1, d2, d3, d4] => { results := [.lit (.bool true)], args := [d1, d2, d3, d4] }
  | _ => none }
def recipPowersRow : OpenClaim := { program := "ytapfgghgohajaaa", sum := "78b2631f69d826ae804f8bbdf98d0ab29468143979eacbcfd140aa8440c66f70", func := "bitloft/bitloftlaw05.RecipPowers", spec := "recipPowers", apart := false }
def RecipPowersSaid : Prop := recipPowersRow.holds Try.pinned (OpenSpec.ofChange recipPowersSpec)

/-- ITS FALSE NEIGHBOUR: 'it returns false'. Refute it at one input. -/
def recipPowersWrong : ChangeSpec := { name := "recipPowers", fn := fun _ => fun
  | [d1, d2, d3, d4] => { results := [.lit (.bool false)], args := [d1, d2, d3, d4] }
  | _ => none }
def RecipPowersWrongFalsely : Prop := recipPowersRow.holds Try.pinned (OpenSpec.ofChange recipPowersWrong)

/-- 'bitloftlaw05.RecipRises': WHATEVER THE INPUT: true; the input reads as it did. -/
def recipRisesSpec : ChangeSpec := { name := "recipRises", fn := fun _ => fun
  | [d1, d2, d3] => { results := [.lit (.bool true)], args := [d1, d2, d3] }
  | _ => none }
def recipRisesRow : OpenClaim := { program := "ytapfgghgohajaaa", sum := "78b2631f69d826ae804f8bbdf98d0ab29468143979eacbcfd140aa8440c66f70", func := "bitloft/bitloftlaw05.RecipRises", spec := "recipRises", apart := false }
def RecipRisesSaid : Prop := recipRisesRow.holds Try.pinned (OpenSpec.ofChange recipRisesSpec)

/-- ITS FALSE NEIGHBOUR: 'it returns false'. Refute it at one input. -/
def recipRisesWrong : ChangeSpec := { name := "recipRises", fn := fun _ => fun
  | [d1, d2, d3] => { results := [.lit (.bool false)], args := [d1, d2, d3] }
  | _ => none }
def RecipRisesWrongFalsely : Prop := recipRisesRow.holds Try.pinned (OpenSpec.ofChange recipRisesWrong)

/-- 'bitloftlaw05.RecipSteps': WHATEVER THE INPUT: true; the input reads as it did. -/
def recipStepsSpec : ChangeSpec := { name := "recipSteps", fn := fun _ => fun
  | [d1, d2, d3, d4] => { results := [.lit (.bool true)], args := [d1, d2, d3, d4] }
  | _ => none }
def recipStepsRow : OpenClaim := { program := "ytapfgghgohajaaa", sum := "78b2631f69d826ae804f8bbdf98d0ab29468143979eacbcfd140aa8440c66f70", func := "bitloft/bitloftlaw05.RecipSteps", spec := "recipSteps", apart := false }
def RecipStepsSaid : Prop := recipStepsRow.holds Try.pinned (OpenSpec.ofChange recipStepsSpec)

/-- ITS FALSE NEIGHBOUR: 'it returns false'. Refute it at one input. -/
def recipStepsWrong : ChangeSpec := { name := "recipSteps", fn := fun _ => fun
  | [d1, d2, d3, d4] => { results := [.lit (.bool false)], args := [d1, d2, d3, d4] }
  | _ => none }
def RecipStepsWrongFalsely : Prop := recipStepsRow.holds Try.pinned (OpenSpec.ofChange recipStepsWrong)

/- THE SECOND FORM. 'bulk': how many values and letters a reading holds, each counted each time it is reached (what is shared counts as often as it is met; a slice's spare places count too). A statement '..UptoSaid' is the law's where the arguments, and the package variables that the reading takes, are together of bulk at most 1048576: NARROWER than '..Said'. Prove '..Said' where nothing that the law and all that it calls make is longer than what came in: it says more and counts as full. Else prove '..UptoSaid'. A law counts once. -/
mutual
def uptoBulk {H : Type} : DataW H → Nat
  | .lit (.string bytes) => bytes.length + 1
  | .lit _ => 1
  | .nil => 1
  | .ptr d => uptoBulk d + 1
  | .slice elems spare => uptoBulkAll elems + uptoBulkAll spare + 1
  | .agg parts => uptoBulkAll parts + 1
  | .iface _ d => uptoBulk d + 1
  | .map entries => uptoBulkEntries entries + 1
  | .held _ => 1
def uptoBulkAll {H : Type} : List (DataW H) → Nat
  | [] => 0
  | d :: r => uptoBulk d + uptoBulkAll r
def uptoBulkEntries {H : Type} : List (Lit × DataW H) → Nat
  | [] => 0
  | x :: r => uptoBulkEntry x + uptoBulkEntries r
def uptoBulkEntry {H : Type} : Lit × DataW H → Nat
  | (.string bytes, d) => bytes.length + uptoBulk d + 1
  | (_, d) => uptoBulk d + 1
 end
def uptoSmall : (H : Type) → List (DataW H) → Bool := fun _ ds => decide (uptoBulkAll ds ≤ 1048576)
def OpenSpec.upto (s : _root_.Go.ChangeSpec) : _root_.Go.OpenSpec := { _root_.Go.OpenSpec.ofChange s with cond := some uptoSmall }

/-- 'bitloftlaw05.RecipNames', WHERE WHAT IT READS IS OF BULK AT MOST 1048576: true; the input reads as it did. -/
def recipNamesUptoRow : OpenClaim := { program := "ytapfgghgohajaaa", sum := "78b2631f69d826ae804f8bbdf98d0ab29468143979eacbcfd140aa8440c66f70", func := "bitloft/bitloftlaw05.RecipNames", spec := "recipNames", apart := false, narrowed := true }
def RecipNamesUptoSaid : Prop := recipNamesUptoRow.holds Try.pinned (OpenSpec.upto recipNamesSpec)

/-- 'bitloftlaw05.RecipMakes', WHERE WHAT IT READS IS OF BULK AT MOST 1048576: true; the input reads as it did. -/
def recipMakesUptoRow : OpenClaim := { program := "ytapfgghgohajaaa", sum := "78b2631f69d826ae804f8bbdf98d0ab29468143979eacbcfd140aa8440c66f70", func := "bitloft/bitloftlaw05.RecipMakes", spec := "recipMakes", apart := false, narrowed := true }
def RecipMakesUptoSaid : Prop := recipMakesUptoRow.holds Try.pinned (OpenSpec.upto recipMakesSpec)

/-- 'bitloftlaw05.RecipNear', WHERE WHAT IT READS IS OF BULK AT MOST 1048576: true; the input reads as it did. -/
def recipNearUptoRow : OpenClaim := { program := "ytapfgghgohajaaa", sum := "78b2631f69d826ae804f8bbdf98d0ab29468143979eacbcfd140aa8440c66f70", func := "bitloft/bitloftlaw05.RecipNear", spec := "recipNear", apart := false, narrowed := true }
def RecipNearUptoSaid : Prop := recipNearUptoRow.holds Try.pinned (OpenSpec.upto recipNearSpec)

/-- 'bitloftlaw05.RecipPowers', WHERE WHAT IT READS IS OF BULK AT MOST 1048576: true; the input reads as it did. -/
def recipPowersUptoRow : OpenClaim := { program := "ytapfgghgohajaaa", sum := "78b2631f69d826ae804f8bbdf98d0ab29468143979eacbcfd140aa8440c66f70", func := "bitloft/bitloftlaw05.RecipPowers", spec := "recipPowers", apart := false, narrowed := true }
def RecipPowersUptoSaid : Prop := recipPowersUptoRow.holds Try.pinned (OpenSpec.upto recipPowersSpec)

/-- 'bitloftlaw05.RecipRises', WHERE WHAT IT READS IS OF BULK AT MOST 1048576: true; the input reads as it did. -/
def recipRisesUptoRow : OpenClaim := { program := "ytapfgghgohajaaa", sum := "78b2631f69d826ae804f8bbdf98d0ab29468143979eacbcfd140aa8440c66f70", func := "bitloft/bitloftlaw05.RecipRises", spec := "recipRises", apart := false, narrowed := true }
def RecipRisesUptoSaid : Prop := recipRisesUptoRow.holds Try.pinned (OpenSpec.upto recipRisesSpec)

/-- 'bitloftlaw05.RecipSteps', WHERE WHAT IT READS IS OF BULK AT MOST 1048576: true; the input reads as it did. -/
def recipStepsUptoRow : OpenClaim := { program := "ytapfgghgohajaaa", sum := "78b2631f69d826ae804f8bbdf98d0ab29468143979eacbcfd140aa8440c66f70", func := "bitloft/bitloftlaw05.RecipSteps", spec := "recipSteps", apart := false, narrowed := true }
def RecipStepsUptoSaid : Prop := recipStepsUptoRow.holds Try.pinned (OpenSpec.upto recipStepsSpec)

end Rows
end Go.Proofs.Ytapfgghgohajaaa
