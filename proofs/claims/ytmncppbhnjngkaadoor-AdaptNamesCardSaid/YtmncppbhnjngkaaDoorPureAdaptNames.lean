/- The chapter's examples, limits and errors hold. -/
import Derived.Test.YtmncppbhnjngkaaDoorXAdaptNamesx6
import Derived.OpenShut
set_option linter.unusedVariables false
set_option linter.unusedSimpArgs false
namespace Go.Proofs.YtmncppbhnjngkaaDoor.Pure
open Go.RowKit Go.Proofs.YtmncppbhnjngkaaDoor.XAdaptNames Go.Proofs.YtmncppbhnjngkaaDoorW.PrintWords Go.Proofs.YtmncppbhnjngkaaDoorW.PrintLast
theorem AdaptNames : bitloftlaw09_AdaptNames.Pure := ⟨400, by decide +kernel⟩
end Go.Proofs.YtmncppbhnjngkaaDoor.Pure
