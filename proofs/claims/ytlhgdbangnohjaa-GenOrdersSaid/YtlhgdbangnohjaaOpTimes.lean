/- What op.Before and op.Overlap, and the reference's between, answer, Before compute. -/
import Derived.Test.YtlhgdbangnohjaaOpFits
namespace Go.Proofs.Ytlhgdbangnohjaa
open Go.RowKit
set_option linter.unusedVariables false
set_option linter.unusedSimpArgs false
theorem RBefore_c (a b : OpR) (w : World) : Calls Try.prog 35 #[.agg #[.int .i64 a.id, .int .i64 a.proc, .int .i64 a.obj, .int .i64 a.kind, .int .i64 a.meth, .int .i64 a.arg, .int .i64 a.sec, .bool a.done, .int .i64 a.res, .int .i64 a.inv, .int .i64 a.ret], .agg #[.int .i64 b.id, .int .i64 b.proc, .int .i64 b.obj, .int .i64 b.kind, .int .i64 b.meth, .int .i64 b.arg, .int .i64 b.sec, .bool b.done, .int .i64 b.res, .int .i64 b.inv, .int .i64 b.ret]] w fun e w' => e = .returned (.bool (befB a b)) ∧ Grow w w' := by
  obtain ⟨id, proc, obj, kind, meth, arg, sec, done, res, inv, ret⟩ := a
  obtain ⟨bid, bproc, bobj, bkind, bmeth, barg, bsec, bdone, bres, binv, bret⟩ := b
  dsimp only
  cases done
  all_goals
    go_enter Try.func35, Try.ntmps35
    go_wp2
    go_ret
    exact ⟨rfl, Grow.trans (Grow.alloc _ _) (Grow.alloc _ _)⟩
theorem Between_c (n a b : Int) (w : World) : Calls Try.prog 46 #[.int .i64 n, .int .i64 a, .int .i64 b] w fun e w' => e = .returned (.bool (decide (a ≤ n ∧ n ≤ b))) ∧ w = w' := by
  go_enter Try.func46, Try.ntmps46
  go_wp2
  all_goals
    go_ret
    refine ⟨ret_bool ?_, rfl⟩
    rw [Bool.eq_iff_iff]
    simp only [decide_eq_true_eq, Bool.false_eq_true, true_iff, false_iff, Bool.and_eq_true]
    omega
/-- May a number be an answer of a sort? -/
def answerB (n how : Int) : Bool := decide (how = 0 ∧ n = 0 ∨ how = 1 ∧ (n = 0 ∨ n = 1) ∨ how = 2 ∧ 0 ≤ n ∧ n ≤ 1073741824 ∨ how = 3 ∧ -1073741824 ≤ n ∧ n ≤ 1073741824 ∨ ¬ (how = 0 ∨ how = 1 ∨ how = 2 ∨ how = 3) ∧ -1 ≤ n ∧ n ≤ 1073741824)
set_option maxRecDepth 100000 in
theorem Answer_c (n how : Int) (w : World) : Calls Try.prog 48 #[.int .i64 n, .int .i64 how] w fun e w' => e = .returned (.bool (answerB n how)) ∧ w = w' := by
  have hv := hid (fun n a b (w : World) => Between_c n a b w)
  go_enter Try.func48, Try.ntmps48
  go_wp2_with (go_at_call 46; refine (hv.out _ _ _ _).mono ?_; rintro e w1 ⟨rfl, rfl⟩)
  all_goals
    go_ret
    refine ⟨ret_bool ?_, rfl⟩
    simp only [beq_iff_eq, beq_eq_false_iff_ne, ne_eq] at *
    unfold answerB
    rw [Bool.eq_iff_iff]
    simp only [decide_eq_true_eq, Bool.or_eq_true, Bool.and_eq_true, beq_iff_eq, Bool.false_eq_true, true_iff, false_iff]
    omega
end Go.Proofs.Ytlhgdbangnohjaa
