/- What op.Fits, value, args and result compute. -/
import Derived.Test.YtljimlaalebmaaaRows
import Derived.Test.YtljimlaalebmaaaOpPlain
namespace Go.Proofs.Ytljimlaalebmaaa
open Go.RowKit
set_option linter.unusedVariables false
set_option linter.unusedSimpArgs false
set_option maxRecDepth 100000 in
set_option maxHeartbeats 1000000 in
theorem Fits_c (k m : Int) (w : World) : Calls Try.prog 27 #[.int .i64 k, .int .i64 m] w fun e w' => e = .returned (.bool (fitsB k m)) ∧ w = w' := by
  go_enter Try.func27, Try.ntmps27
  go_wp2
  all_goals
    go_ret
    refine ⟨ret_bool ?_, rfl⟩
    simp only [beq_iff_eq, beq_eq_false_iff_ne, ne_eq] at *
    unfold fitsB
    rw [Bool.eq_iff_iff]
    simp only [decide_eq_true_eq, Bool.or_eq_true, beq_iff_eq, Bool.false_eq_true, true_iff, false_iff, Array.getD, Bool.true_eq_false]
    omega
theorem value_c (n : Int) (w : World) : Calls Try.prog 43 #[.int .i64 n] w fun e w' => e = .returned (.bool (valB n)) ∧ w = w' := by
  go_enter Try.func43, Try.ntmps43
  go_wp2
  all_goals
    go_ret
    refine ⟨ret_bool ?_, rfl⟩
    unfold valB
    rw [Bool.eq_iff_iff]
    simp only [decide_eq_true_eq, Bool.false_eq_true, true_iff, false_iff]
    omega
set_option maxRecDepth 100000 in
set_option maxHeartbeats 1000000 in
theorem args_c (o : OpR) (w : World) (h1 : -9223372036854775808 ≤ o.res) (h2 : o.res ≤ 9223372036854775807) : Calls Try.prog 28 #[.agg #[.int .i64 o.id, .int .i64 o.proc, .int .i64 o.obj, .int .i64 o.kind, .int .i64 o.meth, .int .i64 o.arg, .int .i64 o.sec, .bool o.done, .int .i64 o.res, .int .i64 o.inv, .int .i64 o.ret]] w fun e w' => e = .returned (.bool (argsB o.meth o.arg o.sec)) ∧ Grow w w' := by
  obtain ⟨id, proc, obj, kind, meth, arg, sec, done, res, inv, ret⟩ := o
  dsimp only at h1 h2 ⊢
  have hv := hid (fun n (w : World) => value_c n w)
  go_enter Try.func28, Try.ntmps28
  go_wp2_with (go_at_call 43; refine (hv.out _ _).mono ?_; rintro e w1 ⟨rfl, rfl⟩)
  all_goals
    clear hv
    go_ret
    refine ⟨ret_bool ?_, (Below.refl _ _).alloc (Nat.le_refl _) _⟩
    simp only [beq_iff_eq, beq_eq_false_iff_ne, ne_eq, valB, wrap64, decide_eq_true_eq, decide_eq_false_iff_not, Bool.not_eq_true] at *
    unfold argsB
    rw [Bool.eq_iff_iff]
    simp only [decide_eq_true_eq, Bool.or_eq_true, Bool.and_eq_true, beq_iff_eq, Bool.false_eq_true, true_iff, false_iff]
    omega
set_option maxRecDepth 100000 in
set_option maxHeartbeats 1000000 in
theorem result_c (o : OpR) (w : World) (h1 : -9223372036854775808 ≤ o.res) (h2 : o.res ≤ 9223372036854775807) : Calls Try.prog 29 #[.agg #[.int .i64 o.id, .int .i64 o.proc, .int .i64 o.obj, .int .i64 o.kind, .int .i64 o.meth, .int .i64 o.arg, .int .i64 o.sec, .bool o.done, .int .i64 o.res, .int .i64 o.inv, .int .i64 o.ret]] w fun e w' => e = .returned (.bool (resB o.kind o.meth o.res)) ∧ Grow w w' := by
  obtain ⟨id, proc, obj, kind, meth, arg, sec, done, res, inv, ret⟩ := o
  dsimp only at h1 h2 ⊢
  have hv := hid (fun n (w : World) => value_c n w)
  go_enter Try.func29, Try.ntmps29
  go_wp2_with (go_at_call 43; refine (hv.out _ _).mono ?_; rintro e w1 ⟨rfl, rfl⟩)
  all_goals
    clear hv
    go_ret
    refine ⟨ret_bool ?_, (Below.refl _ _).alloc (Nat.le_refl _) _⟩
    simp only [beq_iff_eq, beq_eq_false_iff_ne, ne_eq, valB, wrap64, decide_eq_true_eq, decide_eq_false_iff_not, Bool.not_eq_true] at *
    unfold resB
    rw [Bool.eq_iff_iff]
    simp only [decide_eq_true_eq, Bool.or_eq_true, Bool.and_eq_true, beq_iff_eq, Bool.false_eq_true, true_iff, false_iff]
    omega
end Go.Proofs.Ytljimlaalebmaaa
