/- The examples, ties, limits and errors of slots: what the law reckons is true. -/
import Derived.Test.YtaomhenneenaaaaXSlotsNamesx7
import Derived.OpenShut
set_option linter.unusedVariables false
set_option linter.unusedSimpArgs false
namespace Go.Proofs.Ytaomhenneenaaaa.Pure
open Go.RowKit Go.Proofs.Ytaomhenneenaaaa.XSlotsNames Go.Proofs.YtaomhenneenaaaaW.PrintWords Go.Proofs.YtaomhenneenaaaaW.PrintLast
theorem SlotsNames : bitloftlaw11_SlotsNames.Pure := ⟨5000, by first | kernel_rfl | decide +kernel⟩
end Go.Proofs.Ytaomhenneenaaaa.Pure
