/- A sign held against itself is the same. -/
import Derived.Test.YthijancigoedgaaRows
import Derived.Laws.StructEq
import Derived.WalkKit
namespace Go.Proofs.Ythijancigoedgaa
open Go.RowKit
set_option linter.unusedVariables false
set_option linter.unusedSimpArgs false
theorem tok_guard (x y : Operand) (xs ys : Array Value) (w : World) : (eqGuard .neq 35 x y (.agg xs) (.agg ys)).run Try.prog w = .ok () w :=
  run_eqGuard_agg w .neq 35 x y xs ys (by kernel_rfl)
theorem tok_neq (a c d : Int) (b : ByteArray) (w : World) : (binOp .neq 35 (.agg #[.int .i64 a, .string b, .int .i64 c, .int .i64 d]) (.agg #[.int .i64 a, .string b, .int .i64 c, .int .i64 d])).run Try.prog w = .ok (.bool false) w := by
  have u3 := Try.underlying3
  have u9 := Try.underlying9
  have hS : Try.prog.underlying 35 = some (.struct (Try.prog.fieldsOf 35)) := by kernel_rfl
  have hp : Try.prog.stoodInHeld 35 = false := by kernel_rfl
  rw [run_neq_struct, show (10000 : Nat) = 9999 + 1 from rfl, run_equalIn_agg w 9999 35 _ _ hS hp]
  simp only [Program.fieldsOf, Try.underlying35]
  go_simp
end Go.Proofs.Ythijancigoedgaa
