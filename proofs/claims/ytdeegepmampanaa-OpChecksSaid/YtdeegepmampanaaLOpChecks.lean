/- Which operations may be, and what is wrong with the others. -/
import Derived.Test.YtdeegepmampanaaOpAwake
import Derived.Test.YtdeegepmampanaaOpRCheck
import Derived.Test.YtdeegepmampanaaOpLift
namespace Go.Proofs.Ytdeegepmampanaa
open Go.RowKit
set_option linter.unusedVariables false
set_option linter.unusedSimpArgs false
set_option maxRecDepth 100000 in
set_option maxHeartbeats 1000000 in
theorem OpChecks_walk (o : OpR) (w : World) (l : o.Fit) :
    Calls Try.prog 4 #[.agg #[.int .i64 o.id, .int .i64 o.proc, .int .i64 o.obj, .int .i64 o.kind, .int .i64 o.meth, .int .i64 o.arg, .int .i64 o.sec, .bool o.done, .int .i64 o.res, .int .i64 o.inv, .int .i64 o.ret]] w fun e w' => e = .returned (.bool true) ∧ Below w.heap.size w w' := by
  have c1 := hid (fun w => Check_c o w l.res.1 l.res.2)
  have c2 := hid (fun w => RCheck_c o w)
  have hr : 0 ≤ checkE o ∧ checkE o ≤ 100 := by unfold checkE; (repeat' split) <;> decide
  generalize checkE o = E at *
  obtain ⟨id, proc, obj, kind, meth, arg, sec, done, res, inv, ret⟩ := o
  dsimp only at *
  clear l
  go_enter Try.func4, Try.ntmps4
  go_wp2_with fail
  refine wp_rely [.eq (.agg #[.int .i64 id, .int .i64 proc, .int .i64 obj, .int .i64 kind, .int .i64 meth, .int .i64 arg, .int .i64 sec, .bool done, .int .i64 res, .int .i64 inv, .int .i64 ret]), .eq (.int .i64 E), .eq (.agg #[.int .i64 id, .int .i64 proc, .int .i64 obj, .int .i64 kind, .int .i64 meth, .int .i64 arg, .int .i64 sec, .bool done, .int .i64 res, .int .i64 inv, .int .i64 ret]), .eq (.int .i64 E), .eq (.bool true), .eq (.bool true), .eq (.bool true), .eq (.bool true), .eq (.bool true)] (by kernel_rfl) (by kernel_rfl) (by kernel_rfl) ?_ ?_
  · simp only [relyGoals]
    refine ⟨?_, ?_, ?_, ?_, ?_, ?_, ?_, ?_, ?_, trivial⟩
    all_goals intro t w' hsz hg hdd hfr
    all_goals simp only [depsDid, Did, perAt, List.getElem?_cons_zero, List.getElem?_cons_succ, List.getD_cons_zero, List.getD_cons_succ, Per.eq, Per.row, Per.of, and_true, Array.getD_eq_getD_getElem?] at hdd
    · rw [if_pos (by rfl)]
      try simp only [perAt, List.getD_cons_zero, List.getD_cons_succ, Per.eq, Per.row, Per.of]
      have hs1 := hfr 1 rfl
      simp only [Array.getD_eq_getD_getElem?] at hs1
      have kc := hg.cells
      simp [execOp, Act.eval, hdd, hs1, relyUpon, go_sem, Grow.refl, kc]
    · rw [if_pos (by rfl)]
      try simp only [perAt, List.getD_cons_zero, List.getD_cons_succ, Per.eq, Per.row, Per.of]
      simp [execOp, Act.eval, hdd, relyUpon, go_sem]
      refine (c1.out w').mono fun e w'' h => ?_
      obtain ⟨h1, h2⟩ := h
      have h3 : Grow w' w'' := by first | exact h2 | (rw [← h2]; exact Grow.refl _)
      first | exact ⟨h3, h1⟩ | exact ⟨_, h1, h3, rfl⟩ | exact ⟨h1, h3⟩
    · rw [if_pos (by rfl)]
      try simp only [perAt, List.getD_cons_zero, List.getD_cons_succ, Per.eq, Per.row, Per.of]
      have hs1 := hfr 1 rfl
      simp only [Array.getD_eq_getD_getElem?] at hs1
      have kc := hg.cells
      simp [execOp, Act.eval, hdd, hs1, relyUpon, go_sem, Grow.refl, kc]
    · rw [if_pos (by rfl)]
      try simp only [perAt, List.getD_cons_zero, List.getD_cons_succ, Per.eq, Per.row, Per.of]
      simp [execOp, Act.eval, hdd, relyUpon, go_sem]
      refine (c2.out w').mono fun e w'' h => ?_
      obtain ⟨h1, h2⟩ := h
      have h3 : Grow w' w'' := by first | exact h2 | (rw [← h2]; exact Grow.refl _)
      first | exact ⟨h3, h1⟩ | exact ⟨_, h1, h3, rfl⟩ | exact ⟨h1, h3⟩
    · rw [if_pos (by rfl)]
      try simp only [perAt, List.getD_cons_zero, List.getD_cons_succ, Per.eq, Per.row, Per.of]
      simp [execOp, Act.eval, hdd, relyUpon, go_sem, Grow.refl]
    · rw [if_pos (by rfl)]
      try simp only [perAt, List.getD_cons_zero, List.getD_cons_succ, Per.eq, Per.row, Per.of]
      simp [execOp, Act.eval, hdd, relyUpon, go_sem, Grow.refl]
    · first | (rw [if_pos (by simp only [Region.wanted]; rw [yielded_of (d := 8) (b := true) rfl (by simp only [hdd])]; rfl)]) | (rw [if_neg (by simp only [Region.wanted]; rw [yielded_of (d := 8) (b := false) rfl (by simp only [hdd])]; decide)])
      try simp only [perAt, List.getD_cons_zero, List.getD_cons_succ, Per.eq, Per.row, Per.of]
      simp [execOp, Act.eval, hdd, relyUpon, go_sem]
      refine (awake_c w').mono fun e w'' h => ?_
      obtain ⟨h1, h2⟩ := h
      have h3 : Grow w' w'' := by first | exact h2 | (rw [← h2]; exact Grow.refl _)
      first | exact ⟨h3, h1⟩ | exact ⟨_, h1, h3, rfl⟩ | exact ⟨h1, h3⟩
    · rw [if_pos (by rfl)]
      try simp only [perAt, List.getD_cons_zero, List.getD_cons_succ, Per.eq, Per.row, Per.of]
      simp [execOp, Act.eval, hdd, relyUpon, go_sem, Grow.refl]
    · rw [if_pos (by rfl)]
      try simp only [perAt, List.getD_cons_zero, List.getD_cons_succ, Per.eq, Per.row, Per.of]
      simp [execOp, Act.eval, hdd, relyUpon, go_sem, Grow.refl]
  intro wz hgz
  simp only [relyEnd, List.headD_cons, List.tail_cons, Per.eq, Per.row, Per.of]
  rintro _ rfl _ rfl _ rfl _ rfl _ rfl _ rfl _ rfl _ rfl _ rfl
  go_simp
  go_wp2_with fail
  go_ret
  exact ⟨rfl, Grow.trans (Grow.alloc _ _) hgz⟩
namespace LawOpChecks
open Go.ChangeShapes Go.WideShapes Go.ChangeAt Go.RowKit
open Go.ChangeMaps (open_string shut_string)
theorem own : ownKnob Try.prog.godebug = none := by kernel_rfl
theorem laidOut : laidOutB Try.prog = true := by kernel_rfl
set_option maxRecDepth 100000 in
theorem lifted (os : Os) (started : os.Started) (H : Type) (enc : TypeId × Value → H) :
    ReturnsInHanded {} Try.checked os 4 .any (Rows.opChecksSpec.pre6 enc Try.prog Try.f4 Rows.opChecksRow.domain false) (Rows.opChecksSpec.post enc Try.prog Try.f4 false true false false) := by
  refine returnsInHanded_of_change_sized (C := Try.checked) own started (by kernel_rfl) Try.func4
    (ChangeSpec.witness6 (enc := enc) (C := Try.checked) false ⟨#[], #[.agg #[.int .i64 0, .int .i64 0, .int .i64 0, .int .i64 0, .int .i64 0, .int .i64 0, .int .i64 0, .bool false, .int .i64 0, .int .i64 0, .int .i64 0]], []⟩ 8 (by kernel_rfl) (by kernel_rfl) (by kernel_rfl) (by kernel_rfl)) ?_
  intro W base args ds gs before hval0 hW hcnd hsz _
  have hval : ∀ (j : Nat) t v, Try.f4.params[j]? = some t → args[j]? = some v → Value.okWide Try.prog W .any base t v := hval0
  have hW' := hW
  obtain ⟨p, q, hA0, hV, rfl, hfz, hnd⟩ := hW
  have hA : DataW.TrodAll enc Try.prog W 0 (fun _ => true) true Try.f4.params.toList args.toList ds p := hA0
  rw [Try.params4] at hA hval hsz
  obtain ⟨v0, vs0, d0, ds0, p0, q0, hargs, rfl, rfl, h0, r0⟩ := trodAll_cons hA
  obtain ⟨rfl, rfl, rfl⟩ := trodAll_nil r0
  obtain rfl : args = #[v0] := by cases args; simp_all
  obtain ⟨rfl, rfl⟩ := trodVars_none hV
  have k0 := h0
  have lt0 : ∀ x ∈ p0, x.block < W.heap.size := by obtain ⟨m, hm⟩ := k0; exact DataW.trod_lt m _ _ _ hm
  obtain ⟨a0, rfl, w0⟩ := open_op (hval 0 29 v0 rfl rfl) h0
  clear hA0 hval0
  refine (OpChecks_walk a0 W w0).mono fun e W' ⟨he, bel⟩ => ?_
  subst he
  exact ⟨_, rfl, _, _, _, [], _, [], hW', trodAll_mk1 (shut_bool Try.underlying4 _), (trodAll_cons_mk (Below.trod laidOut (by kernel_rfl) (of_decide_eq_true (by kernel_rfl)) k0 bel lt0) trodAll_mk0), rfl, bel.frame _, fun h => by cases h⟩
theorem over : Rows.opChecksRow.holds Try.pinned (OpenSpec.ofChange Rows.opChecksSpec) :=
  OpenClaim.holds_of_wide 4 Try.f4 rfl rfl rfl rfl rfl rfl rfl ⟨rfl, rfl, rfl, rfl, rfl⟩ rfl rfl rfl rfl rfl (by kernel_rfl) Try.func4 (by kernel_rfl)
    (of_decide_eq_true (by kernel_rfl)) (by unfold Func.isWrapper; first | (rw [if_pos (by decide +kernel)]; kernel_rfl) | (rw [if_neg (by decide +kernel)]; exact ⟨rfl, rfl⟩))
    (fun os started H enc _ => lifted os started H enc)
end LawOpChecks
/-- The given statement. -/
theorem opChecks_proved : Rows.OpChecksSaid := LawOpChecks.over
#print axioms opChecks_proved
end Go.Proofs.Ytdeegepmampanaa
