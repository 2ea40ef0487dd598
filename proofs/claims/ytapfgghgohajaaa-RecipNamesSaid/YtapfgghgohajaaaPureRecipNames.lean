/- RecipNames: the law (it has no arguments) returns true; no condition. -/
import Derived.Test.YtapfgghgohajaaaXRecipNamesx1
import Derived.OpenShut
set_option linter.unusedVariables false
set_option linter.unusedSimpArgs false
namespace Go.Proofs.Ytapfgghgohajaaa.Pure
open Go.RowKit Go.Proofs.Ytapfgghgohajaaa.XRecipNames Go.Proofs.YtapfgghgohajaaaW.PrintWords Go.Proofs.YtapfgghgohajaaaW.PrintLast
theorem RecipNames : bitloftlaw05_RecipNames.Pure := ⟨0, rfl⟩
end Go.Proofs.Ytapfgghgohajaaa.Pure
