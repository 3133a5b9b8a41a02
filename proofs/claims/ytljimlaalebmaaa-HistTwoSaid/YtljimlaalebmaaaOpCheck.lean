/- What op.Check, op.Before and op.Overlap compute. -/
import Derived.Test.YtljimlaalebmaaaOpFits
namespace Go.Proofs.Ytljimlaalebmaaa
open Go.RowKit
set_option linter.unusedVariables false
set_option linter.unusedSimpArgs false
/-- The ways through a check, one by one. -/
theorem check_ways (o : OpR) (C : Int → Prop)
    (w1 : bad1 o = true → C 30)
    (w2 : 1 ≤ o.id → o.id ≤ 1073741824 → 0 ≤ o.proc → o.proc ≤ 1023 → 0 ≤ o.obj → o.obj ≤ 1023 →
      (fitsB o.kind o.meth = false → C 33) ∧ (fitsB o.kind o.meth = true → (argsB o.meth o.arg o.sec = false → C 33) ∧ (argsB o.meth o.arg o.sec = true →
        (o.done = true → (resB o.kind o.meth o.res = false → C 33) ∧ (resB o.kind o.meth o.res = true → (o.inv < 0 → C 31) ∧ (1099511627776 < o.inv → C 31) ∧ (0 ≤ o.inv → o.inv ≤ 1099511627776 → (o.ret ≤ o.inv → C 31) ∧ (o.inv < o.ret → (1099511627776 < o.ret → C 31) ∧ (o.ret ≤ 1099511627776 → C 0))))) ∧
        (o.done = false → ((o.res != 0) = true → C 33) ∧ ((o.res != 0) = false → (o.inv < 0 → C 31) ∧ (1099511627776 < o.inv → C 31) ∧ (0 ≤ o.inv → o.inv ≤ 1099511627776 → ((o.ret != 0) = true → C 31) ∧ ((o.ret != 0) = false → C 0))))))) : C (checkE o) := by
  by_cases b1 : bad1 o = true
  · rw [checkE_1 o b1]; exact w1 b1
  · have n1 : bad1 o = false := by simpa using b1
    have p1 := n1
    simp only [bad1, decide_eq_false_iff_not] at p1
    obtain ⟨wf, wt⟩ := w2 (by omega) (by omega) (by omega) (by omega) (by omega) (by omega)
    cases F : fitsB o.kind o.meth
    · rw [checkE_2 o n1 (by simp [bad2, F])]; exact wf F
    · obtain ⟨wa, wb⟩ := wt F
      cases A : argsB o.meth o.arg o.sec
      · rw [checkE_2 o n1 (by simp [bad2, F, A])]; exact wa A
      · obtain ⟨wd, we⟩ := wb A
        cases D : o.done
        · obtain ⟨x1, x2⟩ := we D
          cases R : (o.res != 0)
          · have hr : o.res = 0 := by simpa using R
            have n2 : bad2 o = false := by simp [bad2, F, A, D, hr]
            obtain ⟨y1, y2, y3⟩ := x2 R
            by_cases i1 : o.inv < 0
            · rw [checkE_3 o n1 n2 (by simp [bad3, i1])]; exact y1 i1
            · by_cases i2 : 1099511627776 < o.inv
              · rw [checkE_3 o n1 n2 (by simp [bad3, i2])]; exact y2 i2
              · obtain ⟨z1, z2⟩ := y3 (by omega) (by omega)
                cases T : (o.ret != 0)
                · have ht : o.ret = 0 := by simpa using T
                  rw [checkE_0 o n1 n2 (by simp [bad3, D, ht]; omega)]; exact z2 T
                · have ht : o.ret ≠ 0 := by simpa using T
                  rw [checkE_3 o n1 n2 (by simp [bad3, D, ht])]; exact z1 T
          · have hr : o.res ≠ 0 := by simpa using R
            rw [checkE_2 o n1 (by simp [bad2, F, A, D, hr])]; exact x1 R
        · obtain ⟨x1, x2⟩ := wd D
          cases R : resB o.kind o.meth o.res
          · rw [checkE_2 o n1 (by simp [bad2, F, A, D, R])]; exact x1 R
          · have n2 : bad2 o = false := by simp [bad2, F, A, D, R]
            obtain ⟨y1, y2, y3⟩ := x2 R
            by_cases i1 : o.inv < 0
            · rw [checkE_3 o n1 n2 (by simp [bad3, i1])]; exact y1 i1
            · by_cases i2 : 1099511627776 < o.inv
              · rw [checkE_3 o n1 n2 (by simp [bad3, i2])]; exact y2 i2
              · obtain ⟨z1, z2⟩ := y3 (by omega) (by omega)
                by_cases t1 : o.ret ≤ o.inv
                · rw [checkE_3 o n1 n2 (by simp [bad3, D, t1])]; exact z1 t1
                · obtain ⟨u1, u2⟩ := z2 (by omega)
                  by_cases t2 : 1099511627776 < o.ret
                  · rw [checkE_3 o n1 n2 (by simp [bad3, D, t2])]; exact u1 t2
                  · rw [checkE_0 o n1 n2 (by simp [bad3, D]; omega)]; exact u2 (by omega)
set_option maxRecDepth 100000 in
set_option maxHeartbeats 4000000 in
theorem Check_c (o : OpR) (w : World) (h1 : -9223372036854775808 ≤ o.res) (h2 : o.res ≤ 9223372036854775807) : Calls Try.prog 19 #[.agg #[.int .i64 o.id, .int .i64 o.proc, .int .i64 o.obj, .int .i64 o.kind, .int .i64 o.meth, .int .i64 o.arg, .int .i64 o.sec, .bool o.done, .int .i64 o.res, .int .i64 o.inv, .int .i64 o.ret]] w fun e w' => e = .returned (.int .i64 (checkE o)) ∧ Grow w w' := by
  have hf := hid (fun w => Fits_c o.kind o.meth w)
  have ha := hid (fun w => args_c o w h1 h2)
  have hr := hid (fun w => result_c o w h1 h2)
  refine check_ways o (fun E => Calls Try.prog 19 #[.agg #[.int .i64 o.id, .int .i64 o.proc, .int .i64 o.obj, .int .i64 o.kind, .int .i64 o.meth, .int .i64 o.arg, .int .i64 o.sec, .bool o.done, .int .i64 o.res, .int .i64 o.inv, .int .i64 o.ret]] w fun e w' => e = .returned (.int .i64 E) ∧ Grow w w') ?_ ?_
  · intro hb
    simp only [bad1, decide_eq_true_eq] at hb
    clear hf ha hr
    obtain ⟨id, proc, obj, kind, meth, arg, sec, done, res, inv, ret⟩ := o
    dsimp only at *
    go_enter Try.func19, Try.ntmps19
    go_wp2_with fail
    all_goals first | (exfalso; omega) | (go_ret; exact ⟨rfl, Grow.alloc _ _⟩)
  · intro g1 g2 g3 g4 g5 g6
    generalize fitsB o.kind o.meth = F at *
    generalize argsB o.meth o.arg o.sec = A at *
    generalize resB o.kind o.meth o.res = R at *
    obtain ⟨id, proc, obj, kind, meth, arg, sec, done, res, inv, ret⟩ := o
    dsimp only at *
    refine ⟨?_, fun e1 => ⟨?_, fun e2 => ⟨fun e3 => ⟨?_, fun e4 => ⟨?_, ?_, fun i1 i2 => ⟨?_, fun t1 => ⟨?_, ?_⟩⟩⟩⟩, fun e3 => ⟨?_, fun e4 => ⟨?_, ?_, fun i1 i2 => ⟨?_, ?_⟩⟩⟩⟩⟩⟩
    all_goals intro q
    all_goals
      subst_vars
      go_enter Try.func19, Try.ntmps19
      go_wp2_with (first | (go_at_call 27; refine (hf.out _).mono ?_; rintro e w1 ⟨rfl, rfl⟩) | (go_at_call 28; refine (ha.out _).mono ?_; rintro e w1 ⟨rfl, b1⟩; have k1 := b1.cells; have z1 : w.heap.size < w1.heap.size := (by have := b1.size; simp at this; omega)) | (go_at_call 29; refine (hr.out _).mono ?_; rintro e w2 ⟨rfl, b2⟩; have k2 := b2.cells))
      go_ret
      first
        | exact ⟨rfl, Grow.alloc _ _⟩
        | exact ⟨rfl, Grow.trans (Grow.alloc _ _) (by assumption)⟩
        | exact ⟨rfl, Grow.trans (Grow.alloc _ _) (Grow.trans (by assumption) (by assumption))⟩
end Go.Proofs.Ytljimlaalebmaaa
