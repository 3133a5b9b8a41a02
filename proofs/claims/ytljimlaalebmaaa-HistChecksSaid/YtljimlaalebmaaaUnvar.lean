/- What bits.Unvar computes. -/
import Derived.Test.YtljimlaalebmaaaRows
import Derived.Test.YtljimlaalebmaaaBitsPlain
namespace Go.Proofs.Ytljimlaalebmaaa
open Go.RowKit
set_option linter.unusedVariables false
attribute [local go_sem ↓ high] run_imin run_imax
theorem getD_byte (s : ByteArray) (j : Nat) (h : j < s.size) : s.data.toList.getD j 0 = s[j] := by
  have hl : j < s.data.toList.length := by simpa using h
  simp only [List.getD, List.getElem?_eq_getElem hl, Option.getD_some]
  rfl
end Go.Proofs.Ytljimlaalebmaaa
