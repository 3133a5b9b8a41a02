/- What model.Text and the reference's Text compute. -/
import Derived.Test.YtljimlaalebmaaaMPlain
import Derived.Test.YtljimlaalebmaaaInts
import Derived.Test.YtljimlaalebmaaaVar
import Derived.Test.YtljimlaalebmaaaRVar
namespace Go.Proofs.Ytljimlaalebmaaa
open Go.RowKit
set_option linter.unusedVariables false
set_option linter.unusedSimpArgs false
theorem bytes_addM (a b : List UInt8) : (⟨a.toArray⟩ : ByteArray) ++ ⟨b.toArray⟩ = ⟨(a ++ b).toArray⟩ := by
  apply ByteArray.ext
  simp [ByteArray.data_append]
theorem bytes_sizeM (a : List UInt8) : (⟨a.toArray⟩ : ByteArray).size = a.length := by simp [ByteArray.size]
end Go.Proofs.Ytljimlaalebmaaa
