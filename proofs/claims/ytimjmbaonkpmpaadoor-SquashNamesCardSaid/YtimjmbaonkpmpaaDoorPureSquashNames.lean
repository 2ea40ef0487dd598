/- The plain statement of SquashNames holds: what the printed functions compute answers true at every input. -/
import Derived.Test.YtimjmbaonkpmpaaDoorXSquashNamesx1
import Derived.OpenShut
set_option linter.unusedVariables false
set_option linter.unusedSimpArgs false
namespace Go.Proofs.YtimjmbaonkpmpaaDoor.Pure
open Go.RowKit Go.Proofs.YtimjmbaonkpmpaaDoor.XSquashNames Go.Proofs.YtimjmbaonkpmpaaDoorW.PrintWords Go.Proofs.YtimjmbaonkpmpaaDoorW.PrintLast
theorem SquashNames : bitloftlaw04_SquashNames.Pure := rfl
end Go.Proofs.YtimjmbaonkpmpaaDoor.Pure
