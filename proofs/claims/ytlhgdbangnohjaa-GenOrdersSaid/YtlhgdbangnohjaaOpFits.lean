/- What op.Fits, value, args and result compute. -/
import Derived.Test.YtlhgdbangnohjaaRows
import Derived.Test.YtlhgdbangnohjaaOpPlain
namespace Go.Proofs.Ytlhgdbangnohjaa
open Go.RowKit
set_option linter.unusedVariables false
set_option linter.unusedSimpArgs false
end Go.Proofs.Ytlhgdbangnohjaa
