/- The closed examples of the fixed numbers. -/
import Derived.Test.YtljfebmimipieaaXFixedNamesx2
import Derived.OpenShut
set_option linter.unusedVariables false
set_option linter.unusedSimpArgs false
namespace Go.Proofs.Ytljfebmimipieaa.Pure
open Go.RowKit Go.Proofs.Ytljfebmimipieaa.XFixedNames Go.Proofs.YtljfebmimipieaaW.PrintWords Go.Proofs.YtljfebmimipieaaW.PrintLast
theorem FixedNames : bitloftlaw03_FixedNames.Pure := ⟨200, by decide +kernel⟩
end Go.Proofs.Ytljfebmimipieaa.Pure
