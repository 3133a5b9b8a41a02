/- What slices.Clone and model.list compute. -/
import Derived.Test.YtljimlaalebmaaaMInts
import Derived.Deep.DeepAppendWide
import Derived.Test.YtljimlaalebmaaaMState
import Derived.Test.YtljimlaalebmaaaOpLift
import Derived.Test.YtljimlaalebmaaaMDoPlain
namespace Go.Proofs.Ytljimlaalebmaaa
open Go.RowKit
set_option linter.unusedVariables false
set_option linter.unusedSimpArgs false
/-- The state behind, the answer, and whether it can be done; what was ahead of the call's own blocks is as it was. -/
def DoPost (base : Nat) (r : List Int × Int × Bool) (w : World) (e : Ending) (w' : World) : Prop := ∃ v, e = .returned (.tuple #[v, .int .i64 r.2.1, .bool r.2.2]) ∧ Ints w' v r.1 ∧ Below base w w'
end Go.Proofs.Ytljimlaalebmaaa
