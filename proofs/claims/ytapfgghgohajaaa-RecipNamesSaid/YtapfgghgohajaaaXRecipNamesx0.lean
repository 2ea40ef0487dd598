-- Laid by a program of this session (wip/mkxprint.py, over the kit's print): Lean checks it.
import Derived.Test.YtapfgghgohajaaaProg
import Derived.Below
import Derived.Deep.Draws
import Derived.Deep.AppendLies
import Derived.Maps.AppendAt
import Derived.OwnWalk
import Derived.Laws.BytesArg
import Derived.Laws.MakeOwn
import Derived.Laws.OwnMore
import Derived.Deep.OwnRows
import Derived.Tactics
import Derived.Lib.ConvBytes
import Derived.Laws.Slices
import Derived.WalkKit
import Derived.KernelRfl
import Derived.RowKit3
import Derived.Deep.LoopGhost
import Derived.Deep.QuietTactic
import Derived.BigQuiet
import Derived.WideLaws
import Derived.Deep.DeepCutAuto
import Derived.Deep.CutBlock
import Derived.Deep.RegionHeld3
import Derived.Laws.Rows
import Derived.Lib.AppendStr
import Derived.ArgAppend
import Derived.Laws.IdiomCopy
import Derived.OrdersHeld
import Derived.Laws.BitsLemmas
import Derived.RowKit
import Derived.Test.YtapfgghgohajaaaWWords
import Derived.Test.YtapfgghgohajaaaWLast
import Derived.Test.YtapfgghgohajaaaWTab
import Derived.Test.YtapfgghgohajaaaWFour
import Derived.Test.YtapfgghgohajaaaWQPut
import Derived.Test.YtapfgghgohajaaaWApart
import Derived.Test.YtapfgghgohajaaaWArr
import Derived.Test.YtapfgghgohajaaaWZeros
import Derived.Test.YtapfgghgohajaaaWFoot
import Derived.Test.YtapfgghgohajaaaWKept
import Derived.Test.YtapfgghgohajaaaWShare
import Derived.Test.YtapfgghgohajaaaWN
import Derived.Test.YtapfgghgohajaaaWFootNe
import Derived.Test.YtapfgghgohajaaaWAt
import Derived.Test.YtapfgghgohajaaaWEqStruct
import Derived.Test.YtapfgghgohajaaaWRepsOne
import Derived.Test.YtapfgghgohajaaaWInv
import Derived.Test.YtapfgghgohajaaaWInvWords
import Derived.Test.YtapfgghgohajaaaWGuard
import Derived.Test.YtapfgghgohajaaaWNEv
import Derived.Test.YtapfgghgohajaaaWMore
namespace Go.Proofs.Ytapfgghgohajaaa.XRecipNames
open Go.RowKit Go.Proofs.YtapfgghgohajaaaW.PrintWords Go.Proofs.YtapfgghgohajaaaW.PrintLast Go.Proofs.YtapfgghgohajaaaW.PrintMore
attribute [local go_sem] max2_int min2_int max_two min_two max_three min_three max_four min_four   -- for this text's walks alone
set_option linter.unusedVariables false
set_option linter.unusedSimpArgs false



def errW : Option Int → Value
  | none => .nilIface
  | some c => .iface 0 (.int .i64 c)
theorem errW_none : errW none = .nilIface := rfl
theorem errW_some (c : Int) : errW (some c) = .iface 0 (.int .i64 c) := rfl

-- the values' own types

end Go.Proofs.Ytapfgghgohajaaa.XRecipNames
