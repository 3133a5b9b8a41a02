/- The examples of the layer 'bits', which each of its laws asks besides: they hold. -/
import Derived.Test.YtjcanclmmgfhiaaLawBase
import Derived.Test.YtjcanclmmgfhiaaRely
import Derived.Test.YtjcanclmmgfhiaaFixed
import Derived.Test.YtjcanclmmgfhiaaFold
import Derived.Test.YtjcanclmmgfhiaaSum
import Derived.Test.YtjcanclmmgfhiaaOrdered
import Derived.Test.YtjcanclmmgfhiaaVar
namespace Go.Proofs.Ytjcanclmmgfhiaa
open Go.RowKit
theorem awake_c (w : World) : Calls Try.prog 12 #[] w fun e w' => e = .returned (.bool true) ∧ Below w.heap.size w w' := by
  have e1 : leB (min (4 : Int).toNat 8) 258 = [2, 1, 0, 0] := by decide +kernel
  have e2 : varL 300 = [172, 2] := by decide +kernel
  have e3 : foldV (-1) = 1 := by decide +kernel
  have e4 : ordL 0 = [128, 0, 0, 0, 0, 0, 0, 0] := by decide +kernel
  have e5 : sumV (ByteArray.mk #[]).data.toList = 1 := by decide +kernel
  have c1 := fun w => Fixed_c 258 4 w (by omega) (by omega) (by omega)
  have c2 := fun w => Var_c 300 w (by omega)
  have c3 := fun w => Fold_c (-1) w (by omega) (by omega)
  have c4 := fun w => Ordered_c 0 w (by omega) (by omega)
  have c5 := fun w => Sum_c (ByteArray.mk #[]) w (by decide)
  rw [e1] at c1; rw [e2] at c2; rw [e3] at c3; rw [e4] at c4; rw [e5] at c5
  have c1 := hid c1; have c2 := hid c2; have c3 := hid c3; have c4 := hid c4; have c5 := hid c5
  clear e1 e2 e3 e4 e5
  go_enter Try.func12, Try.ntmps12
  go_wp2_with fail
  refine (c1.out _).mono ?_
  rintro e w1 ⟨rfl, b1⟩
  go_wp2_with fail
  refine (c2.out _).mono ?_
  rintro e w2 ⟨rfl, b2⟩
  go_wp2_with fail
  refine (c3.out _).mono ?_
  rintro e w3 ⟨rfl, rfl⟩
  go_wp2_with fail
  refine (c4.out _).mono ?_
  rintro e w4 ⟨rfl, b4⟩
  go_wp2_with fail
  refine (c5.out _).mono ?_
  rintro e w5 ⟨rfl, rfl⟩
  go_wp2_with fail
  go_ret
  exact ⟨rfl, (b1.trans (b2.mono b1.size)).trans (b4.mono (Nat.le_trans b1.size b2.size))⟩

end Go.Proofs.Ytjcanclmmgfhiaa
