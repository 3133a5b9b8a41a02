/- Two heads held against each other. -/
import Derived.Test.YtcfkcdfjianeiaaRows
import Derived.Laws.StructEq
import Derived.WalkKit
namespace Go.Proofs.Ytcfkcdfjianeiaa
open Go.RowKit
set_option linter.unusedVariables false
set_option linter.unusedSimpArgs false
theorem head_guard (x y : Operand) (xs ys : Array Value) (w : World) : (eqGuard .eql 36 x y (.agg xs) (.agg ys)).run Try.prog w = .ok () w :=
  run_eqGuard_agg w .eql 36 x y xs ys (by kernel_rfl)
theorem head_eql (a b c d a' b' c' d' : Int) (w : World) : (binOp .eql 36 (.agg #[.int .u64 a, .int .i64 b, .int .i64 c, .int .i64 d]) (.agg #[.int .u64 a', .int .i64 b', .int .i64 c', .int .i64 d'])).run Try.prog w = .ok (.bool (a == a' && b == b' && c == c' && d == d')) w := by
  have u3 := Try.underlying3
  have u33 := Try.underlying33
  have hS : Try.prog.underlying 36 = some (.struct (Try.prog.fieldsOf 36)) := by kernel_rfl
  have hp : Try.prog.stoodInHeld 36 = false := by kernel_rfl
  rw [run_eql_struct, show (10000 : Nat) = 9999 + 1 from rfl, run_equalIn_agg w 9999 36 _ _ hS hp]
  simp only [Program.fieldsOf, Try.underlying36]
  go_simp
  by_cases h1 : a = a' <;> by_cases h2 : b = b' <;> by_cases h3 : c = c' <;> by_cases h4 : d = d' <;> simp [h1, h2, h3, h4]
theorem head_same (a b c d : Int) (w : World) : (binOp .eql 36 (.agg #[.int .u64 a, .int .i64 b, .int .i64 c, .int .i64 d]) (.agg #[.int .u64 a, .int .i64 b, .int .i64 c, .int .i64 d])).run Try.prog w = .ok (.bool true) w := by
  rw [head_eql]; simp
end Go.Proofs.Ytcfkcdfjianeiaa
