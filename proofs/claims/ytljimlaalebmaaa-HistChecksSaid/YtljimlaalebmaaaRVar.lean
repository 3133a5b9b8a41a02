/- What the reference's Var computes. -/
import Derived.Test.YtljimlaalebmaaaRows
import Derived.Test.YtljimlaalebmaaaBitsPlain
import Derived.Test.YtljimlaalebmaaaRely
namespace Go.Proofs.Ytljimlaalebmaaa
open Go.RowKit
set_option linter.unusedVariables false
end Go.Proofs.Ytljimlaalebmaaa
