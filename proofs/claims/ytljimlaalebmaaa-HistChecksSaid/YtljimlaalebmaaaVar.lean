/- What bits.Var computes. -/
import Derived.Test.YtljimlaalebmaaaRows
import Derived.Test.YtljimlaalebmaaaBitsPlain
namespace Go.Proofs.Ytljimlaalebmaaa
open Go.RowKit
set_option linter.unusedVariables false
theorem Try.infoVar : Info Try.prog 5 (.int .u8 0) 1 1 := by unfold Info; kernel_rfl
end Go.Proofs.Ytljimlaalebmaaa
