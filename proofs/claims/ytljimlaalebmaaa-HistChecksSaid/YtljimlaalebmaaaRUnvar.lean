/- What the reference's Unvar computes. -/
import Derived.Test.YtljimlaalebmaaaRVar
import Derived.Test.YtljimlaalebmaaaUnvar
namespace Go.Proofs.Ytljimlaalebmaaa
open Go.RowKit
set_option linter.unusedVariables false
end Go.Proofs.Ytljimlaalebmaaa
