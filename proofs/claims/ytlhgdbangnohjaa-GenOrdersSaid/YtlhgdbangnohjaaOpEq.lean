/- Two operations held against each other: one and itself. -/
import Derived.Test.YtlhgdbangnohjaaRows
import Derived.Laws.StructEq
import Derived.WalkKit
namespace Go.Proofs.Ytlhgdbangnohjaa
open Go.RowKit
set_option linter.unusedVariables false
set_option linter.unusedSimpArgs false
theorem op_guard (b : BinOp) (x y : Operand) (xs ys : Array Value) (w : World) : (eqGuard b 52 x y (.agg xs) (.agg ys)).run Try.prog w = .ok () w :=
  run_eqGuard_agg w b 52 x y xs ys (by kernel_rfl)
theorem op_same (id proc obj kind meth arg sec : Int) (done : Bool) (res inv ret : Int) (w : World) : (Op.equalIn 10000 52 (.agg #[.int .i64 id, .int .i64 proc, .int .i64 obj, .int .i64 kind, .int .i64 meth, .int .i64 arg, .int .i64 sec, .bool done, .int .i64 res, .int .i64 inv, .int .i64 ret]) (.agg #[.int .i64 id, .int .i64 proc, .int .i64 obj, .int .i64 kind, .int .i64 meth, .int .i64 arg, .int .i64 sec, .bool done, .int .i64 res, .int .i64 inv, .int .i64 ret])).run Try.prog w = .ok true w := by
  have u3 := Try.underlying3
  have u4 := Try.underlying4
  have hS : Try.prog.underlying 52 = some (.struct (Try.prog.fieldsOf 52)) := by kernel_rfl
  have hp : Try.prog.stoodInHeld 52 = false := by kernel_rfl
  rw [show (10000 : Nat) = 9999 + 1 from rfl, run_equalIn_agg w 9999 52 _ _ hS hp]
  simp only [Program.fieldsOf, Try.underlying52]
  go_simp
theorem op_eql (id proc obj kind meth arg sec : Int) (done : Bool) (res inv ret : Int) (w : World) : (binOp .eql 52 (.agg #[.int .i64 id, .int .i64 proc, .int .i64 obj, .int .i64 kind, .int .i64 meth, .int .i64 arg, .int .i64 sec, .bool done, .int .i64 res, .int .i64 inv, .int .i64 ret]) (.agg #[.int .i64 id, .int .i64 proc, .int .i64 obj, .int .i64 kind, .int .i64 meth, .int .i64 arg, .int .i64 sec, .bool done, .int .i64 res, .int .i64 inv, .int .i64 ret])).run Try.prog w = .ok (.bool true) w := by
  rw [run_eql_struct, op_same]; rfl
theorem op_neq (id proc obj kind meth arg sec : Int) (done : Bool) (res inv ret : Int) (w : World) : (binOp .neq 52 (.agg #[.int .i64 id, .int .i64 proc, .int .i64 obj, .int .i64 kind, .int .i64 meth, .int .i64 arg, .int .i64 sec, .bool done, .int .i64 res, .int .i64 inv, .int .i64 ret]) (.agg #[.int .i64 id, .int .i64 proc, .int .i64 obj, .int .i64 kind, .int .i64 meth, .int .i64 arg, .int .i64 sec, .bool done, .int .i64 res, .int .i64 inv, .int .i64 ret])).run Try.prog w = .ok (.bool false) w := by
  rw [run_neq_struct, op_same]; rfl
end Go.Proofs.Ytlhgdbangnohjaa
