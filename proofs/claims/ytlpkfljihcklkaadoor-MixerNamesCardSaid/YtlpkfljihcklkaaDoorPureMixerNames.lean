/- The limits, errors and ends of mixers: what the law reckons is true. -/
import Derived.Test.YtlpkfljihcklkaaDoorXMixerNamesx4
import Derived.OpenShut
set_option linter.unusedVariables false
set_option linter.unusedSimpArgs false
namespace Go.Proofs.YtlpkfljihcklkaaDoor.Pure
open Go.RowKit Go.Proofs.YtlpkfljihcklkaaDoor.XMixerNames Go.Proofs.YtlpkfljihcklkaaDoorW.PrintWords Go.Proofs.YtlpkfljihcklkaaDoorW.PrintLast
theorem MixerNames : bitloftlaw16_MixerNames.Pure := ⟨3000, by first | kernel_rfl | decide +kernel⟩
end Go.Proofs.YtlpkfljihcklkaaDoor.Pure
