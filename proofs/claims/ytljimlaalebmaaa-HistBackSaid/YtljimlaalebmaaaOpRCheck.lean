/- What the reference's Check computes: the same as op.Check. -/
import Derived.Test.YtljimlaalebmaaaOpFind
import Derived.Test.YtljimlaalebmaaaOpCheck
namespace Go.Proofs.Ytljimlaalebmaaa
open Go.RowKit
set_option linter.unusedVariables false
set_option linter.unusedSimpArgs false
theorem find_fits (k m : Int) : (findR k m).isSome = fitsB k m := by
  rw [Bool.eq_iff_iff]
  constructor
  · intro h
    obtain ⟨r, hr⟩ := Option.isSome_iff_exists.1 h
    have h1 := List.mem_of_find?_eq_some hr
    have h2 := List.find?_some hr
    simp only [Bool.and_eq_true, beq_iff_eq] at h2
    obtain ⟨rfl, rfl⟩ := h2
    simp only [tabL, List.mem_cons, List.not_mem_nil, or_false] at h1
    rcases h1 with rfl | rfl | rfl | rfl | rfl | rfl | rfl | rfl | rfl | rfl | rfl | rfl | rfl | rfl | rfl <;> rfl
  · intro h
    unfold fitsB at h
    simp only [decide_eq_true_eq] at h
    rcases h with ⟨rfl, h1, h2⟩ | ⟨rfl, rfl | rfl | rfl⟩ | ⟨rfl, rfl | rfl⟩ | ⟨rfl, rfl | rfl⟩ | ⟨rfl, h1, h2⟩ | ⟨rfl, rfl | rfl⟩
    · have : m = 1 ∨ m = 2 ∨ m = 3 := by omega
      rcases this with rfl | rfl | rfl <;> rfl
    any_goals rfl
    · have : m = 10 ∨ m = 11 ∨ m = 12 := by omega
      rcases this with rfl | rfl | rfl <;> rfl
/-- What a row that is found tells of arguments and answers. -/
theorem find_tells {k m : Int} {r : Int × Int × Int × Int} (h : findR k m = some r) (n a s : Int) :
    resB k m n = answerB n r.2.2.2 ∧ (r.2.2.1 = 0 ∧ argsB m a s = decide (a = 0 ∧ s = 0) ∨ r.2.2.1 = 1 ∧ argsB m a s = decide (0 ≤ a ∧ a ≤ 1073741824 ∧ s = 0) ∨
      r.2.2.1 = 2 ∧ argsB m a s = decide (0 ≤ a ∧ a ≤ 1073741824 ∧ 0 ≤ s ∧ s ≤ 1073741824)) := by
  have h1 := List.mem_of_find?_eq_some h
  have h2 := List.find?_some h
  simp only [Bool.and_eq_true, beq_iff_eq] at h2
  obtain ⟨rfl, rfl⟩ := h2
  simp only [tabL, List.mem_cons, List.not_mem_nil, or_false] at h1
  rcases h1 with rfl | rfl | rfl | rfl | rfl | rfl | rfl | rfl | rfl | rfl | rfl | rfl | rfl | rfl | rfl
  all_goals
    refine ⟨?_, ?_⟩
    · unfold resB answerB
      rw [decide_eq_decide]
      dsimp only
      omega
    · first | refine .inl ⟨rfl, ?_⟩ | refine .inr (.inl ⟨rfl, ?_⟩) | refine .inr (.inr ⟨rfl, ?_⟩)
      unfold argsB
      rw [decide_eq_decide]
      dsimp only
      first | (simp; done) | (simp; omega)
/-- What Find hands back, written out. -/
theorem Find_none {k m : Int} (h : fitsB k m = false) (w : World) : Calls Try.prog 37 #[.int .i64 k, .int .i64 m] w fun e w' => e = .returned (.tuple #[.agg #[.int .i64 0, .int .i64 0, .int .i64 0, .int .i64 0], .bool false]) ∧ Grow w w' := by
  have e : findR k m = none := by
    rw [← find_fits] at h
    cases hf : findR k m
    · rfl
    · rw [hf] at h; cases h
  have := Find_c k m w
  rw [e] at this
  exact this
theorem Find_some {k m : Int} (h : fitsB k m = true) : ∃ r : Int × Int × Int × Int, findR k m = some r ∧ ∀ w : World, Calls Try.prog 37 #[.int .i64 k, .int .i64 m] w fun e w' => e = .returned (.tuple #[.agg #[.int .i64 r.1, .int .i64 r.2.1, .int .i64 r.2.2.1, .int .i64 r.2.2.2], .bool true]) ∧ Grow w w' := by
  rw [← find_fits] at h
  cases hf : findR k m with
  | none => rw [hf] at h; cases h
  | some r =>
    refine ⟨r, rfl, fun w => ?_⟩
    have := Find_c k m w
    rw [hf] at this
    exact this
/-- between, in and out. -/
theorem Between_in (n a b : Int) (h1 : a ≤ n) (h2 : n ≤ b) (w : World) : Calls Try.prog 36 #[.int .i64 n, .int .i64 a, .int .i64 b] w fun e w' => e = .returned (.bool true) ∧ w = w' := by
  have h := Between_c n a b w
  rw [decide_eq_true (And.intro h1 h2)] at h
  exact h
theorem Between_out (n a b : Int) (h1 : n < a ∨ b < n) (w : World) : Calls Try.prog 36 #[.int .i64 n, .int .i64 a, .int .i64 b] w fun e w' => e = .returned (.bool false) ∧ w = w' := by
  have h := Between_c n a b w
  rw [decide_eq_false (by omega)] at h
  exact h
set_option maxRecDepth 100000 in
set_option maxHeartbeats 4000000 in
theorem RCheck_c (o : OpR) (w : World) : Calls Try.prog 21 #[.agg #[.int .i64 o.id, .int .i64 o.proc, .int .i64 o.obj, .int .i64 o.kind, .int .i64 o.meth, .int .i64 o.arg, .int .i64 o.sec, .bool o.done, .int .i64 o.res, .int .i64 o.inv, .int .i64 o.ret]] w fun e w' => e = .returned (.int .i64 (checkE o)) ∧ Grow w w' := by
  have hi := hid (fun n a b h1 h2 (w : World) => Between_in n a b h1 h2 w)
  have ho := hid (fun n a b h (w : World) => Between_out n a b h w)
  have ha := hid (fun n h (w : World) => Answer_c n h w)
  refine check_ways o (fun E => Calls Try.prog 21 #[.agg #[.int .i64 o.id, .int .i64 o.proc, .int .i64 o.obj, .int .i64 o.kind, .int .i64 o.meth, .int .i64 o.arg, .int .i64 o.sec, .bool o.done, .int .i64 o.res, .int .i64 o.inv, .int .i64 o.ret]] w fun e w' => e = .returned (.int .i64 E) ∧ Grow w w') ?_ ?_
  · intro hbad
    simp only [bad1, decide_eq_true_eq] at hbad
    clear ha
    obtain ⟨id, proc, obj, kind, meth, arg, sec, done, res, inv, ret⟩ := o
    dsimp only at *
    have hcs : (id < 1 ∨ 1073741824 < id) ∨ (1 ≤ id ∧ id ≤ 1073741824 ∧ ((proc < 0 ∨ 1023 < proc) ∨ (0 ≤ proc ∧ proc ≤ 1023 ∧ (obj < 0 ∨ 1023 < obj)))) := by omega
    clear hbad
    rcases hcs with h1 | ⟨h1, h2, h3 | ⟨h3, h4, h5⟩⟩
    all_goals
      go_enter Try.func21, Try.ntmps21
      go_wp2_with (go_at_call 36; (first | refine (hi.out _ _ _ (by omega) (by omega) _).mono ?_ | refine (ho.out _ _ _ (by omega) _).mono ?_); rintro e w1 ⟨rfl, rfl⟩)
      go_ret; exact ⟨rfl, Grow.alloc _ _⟩
  · intro g1 g2 g3 g4 g5 g6
    obtain ⟨id, proc, obj, kind, meth, arg, sec, done, res, inv, ret⟩ := o
    dsimp only at *
    refine ⟨?_, ?_⟩
    · intro hf
      have hF := hid (fun w => Find_none hf w)
      clear hf ha
      go_enter Try.func21, Try.ntmps21
      go_wp2_with (first | (go_at_call 36; (first | refine (hi.out _ _ _ (by omega) (by omega) _).mono ?_ | refine (ho.out _ _ _ (by omega) _).mono ?_); rintro e w1 ⟨rfl, rfl⟩) | (go_at_call 37; refine (hF.out _).mono ?_; rintro e w1 ⟨rfl, b1⟩; have k1 := b1.cells; have z1 : w.heap.size < w1.heap.size := (by have := b1.size; simp at this; omega)))
      go_ret
      exact ⟨rfl, Grow.trans (Grow.trans (Grow.alloc _ _) b1) (Grow.alloc _ _)⟩
    · intro hf
      obtain ⟨r, hr, hF0⟩ := Find_some hf
      have hF := hid hF0
      obtain ⟨hres, harg⟩ := find_tells hr res arg sec
      obtain ⟨r1, r2, r3, r4⟩ := r
      dsimp only at *
      rw [hres]
      have ha2 := hid (ha.out res r4)
      clear hf hF0 hr hres ha
      generalize answerB res r4 = R at *
      rcases harg with ⟨rfl, e1⟩ | ⟨rfl, e1⟩ | ⟨rfl, e1⟩
      · rw [e1]
        clear e1
        refine ⟨?_, ?_⟩
        · intro h
          simp only [decide_eq_false_iff_not] at h
          have hcs : (arg < 0 ∨ 0 < arg) ∨ (0 ≤ arg ∧ arg ≤ 0 ∧ (sec < 0 ∨ 0 < sec)) := by omega
          clear h ha2
          rcases hcs with h1 | ⟨h1, h2, h3⟩
          all_goals
            go_enter Try.func21, Try.ntmps21
            go_wp2_with (first | (go_at_call 36; (first | refine (hi.out _ _ _ (by omega) (by omega) _).mono ?_ | refine (ho.out _ _ _ (by omega) _).mono ?_); rintro e w1 ⟨rfl, rfl⟩) | (go_at_call 38; refine (ha2.out _).mono ?_; rintro e w1 ⟨rfl, rfl⟩) | (go_at_call 37; refine (hF.out _).mono ?_; rintro e w1 ⟨rfl, b1⟩; have k1 := b1.cells; have z1 : w.heap.size < w1.heap.size := (by have := b1.size; simp at this; omega)))
            go_ret
            exact ⟨rfl, Grow.trans (Grow.trans (Grow.alloc _ _) b1) (Grow.alloc _ _)⟩
        · intro h
          simp only [decide_eq_true_eq] at h
          have h1 : 0 ≤ arg := by omega
          have h2 : arg ≤ 0 := by omega
          have h3 : 0 ≤ sec := by omega
          have h4 : sec ≤ 0 := by omega
          clear h
          refine ⟨fun e3 => ⟨?_, fun e4 => ⟨?_, ?_, fun i1 i2 => ⟨?_, fun t1 => ⟨?_, ?_⟩⟩⟩⟩, fun e3 => ⟨?_, fun e4 => ⟨?_, ?_, fun i1 i2 => ⟨?_, ?_⟩⟩⟩⟩
          all_goals intro q
          all_goals
            subst_vars
            go_enter Try.func21, Try.ntmps21
            go_wp2_with (first | (go_at_call 36; (first | refine (hi.out _ _ _ (by omega) (by omega) _).mono ?_ | refine (ho.out _ _ _ (by omega) _).mono ?_); rintro e w1 ⟨rfl, rfl⟩) | (go_at_call 38; refine (ha2.out _).mono ?_; rintro e w1 ⟨rfl, rfl⟩) | (go_at_call 37; refine (hF.out _).mono ?_; rintro e w1 ⟨rfl, b1⟩; have k1 := b1.cells; have z1 : w.heap.size < w1.heap.size := (by have := b1.size; simp at this; omega)))
            go_ret
            exact ⟨rfl, Grow.trans (Grow.trans (Grow.alloc _ _) b1) (Grow.alloc _ _)⟩
      · rw [e1]
        clear e1
        refine ⟨?_, ?_⟩
        · intro h
          simp only [decide_eq_false_iff_not] at h
          have hcs : (arg < 0 ∨ 1073741824 < arg) ∨ (0 ≤ arg ∧ arg ≤ 1073741824 ∧ (sec < 0 ∨ 0 < sec)) := by omega
          clear h ha2
          rcases hcs with h1 | ⟨h1, h2, h3⟩
          all_goals
            go_enter Try.func21, Try.ntmps21
            go_wp2_with (first | (go_at_call 36; (first | refine (hi.out _ _ _ (by omega) (by omega) _).mono ?_ | refine (ho.out _ _ _ (by omega) _).mono ?_); rintro e w1 ⟨rfl, rfl⟩) | (go_at_call 38; refine (ha2.out _).mono ?_; rintro e w1 ⟨rfl, rfl⟩) | (go_at_call 37; refine (hF.out _).mono ?_; rintro e w1 ⟨rfl, b1⟩; have k1 := b1.cells; have z1 : w.heap.size < w1.heap.size := (by have := b1.size; simp at this; omega)))
            go_ret
            exact ⟨rfl, Grow.trans (Grow.trans (Grow.alloc _ _) b1) (Grow.alloc _ _)⟩
        · intro h
          simp only [decide_eq_true_eq] at h
          have h1 : 0 ≤ arg := by omega
          have h2 : arg ≤ 1073741824 := by omega
          have h3 : 0 ≤ sec := by omega
          have h4 : sec ≤ 0 := by omega
          clear h
          refine ⟨fun e3 => ⟨?_, fun e4 => ⟨?_, ?_, fun i1 i2 => ⟨?_, fun t1 => ⟨?_, ?_⟩⟩⟩⟩, fun e3 => ⟨?_, fun e4 => ⟨?_, ?_, fun i1 i2 => ⟨?_, ?_⟩⟩⟩⟩
          all_goals intro q
          all_goals
            subst_vars
            go_enter Try.func21, Try.ntmps21
            go_wp2_with (first | (go_at_call 36; (first | refine (hi.out _ _ _ (by omega) (by omega) _).mono ?_ | refine (ho.out _ _ _ (by omega) _).mono ?_); rintro e w1 ⟨rfl, rfl⟩) | (go_at_call 38; refine (ha2.out _).mono ?_; rintro e w1 ⟨rfl, rfl⟩) | (go_at_call 37; refine (hF.out _).mono ?_; rintro e w1 ⟨rfl, b1⟩; have k1 := b1.cells; have z1 : w.heap.size < w1.heap.size := (by have := b1.size; simp at this; omega)))
            go_ret
            exact ⟨rfl, Grow.trans (Grow.trans (Grow.alloc _ _) b1) (Grow.alloc _ _)⟩
      · rw [e1]
        clear e1
        refine ⟨?_, ?_⟩
        · intro h
          simp only [decide_eq_false_iff_not] at h
          have hcs : (arg < 0 ∨ 1073741824 < arg) ∨ (0 ≤ arg ∧ arg ≤ 1073741824 ∧ (sec < 0 ∨ 1073741824 < sec)) := by omega
          clear h ha2
          rcases hcs with h1 | ⟨h1, h2, h3⟩
          all_goals
            go_enter Try.func21, Try.ntmps21
            go_wp2_with (first | (go_at_call 36; (first | refine (hi.out _ _ _ (by omega) (by omega) _).mono ?_ | refine (ho.out _ _ _ (by omega) _).mono ?_); rintro e w1 ⟨rfl, rfl⟩) | (go_at_call 38; refine (ha2.out _).mono ?_; rintro e w1 ⟨rfl, rfl⟩) | (go_at_call 37; refine (hF.out _).mono ?_; rintro e w1 ⟨rfl, b1⟩; have k1 := b1.cells; have z1 : w.heap.size < w1.heap.size := (by have := b1.size; simp at this; omega)))
            go_ret
            exact ⟨rfl, Grow.trans (Grow.trans (Grow.alloc _ _) b1) (Grow.alloc _ _)⟩
        · intro h
          simp only [decide_eq_true_eq] at h
          have h1 : 0 ≤ arg := by omega
          have h2 : arg ≤ 1073741824 := by omega
          have h3 : 0 ≤ sec := by omega
          have h4 : sec ≤ 1073741824 := by omega
          clear h
          refine ⟨fun e3 => ⟨?_, fun e4 => ⟨?_, ?_, fun i1 i2 => ⟨?_, fun t1 => ⟨?_, ?_⟩⟩⟩⟩, fun e3 => ⟨?_, fun e4 => ⟨?_, ?_, fun i1 i2 => ⟨?_, ?_⟩⟩⟩⟩
          all_goals intro q
          all_goals
            subst_vars
            go_enter Try.func21, Try.ntmps21
            go_wp2_with (first | (go_at_call 36; (first | refine (hi.out _ _ _ (by omega) (by omega) _).mono ?_ | refine (ho.out _ _ _ (by omega) _).mono ?_); rintro e w1 ⟨rfl, rfl⟩) | (go_at_call 38; refine (ha2.out _).mono ?_; rintro e w1 ⟨rfl, rfl⟩) | (go_at_call 37; refine (hF.out _).mono ?_; rintro e w1 ⟨rfl, b1⟩; have k1 := b1.cells; have z1 : w.heap.size < w1.heap.size := (by have := b1.size; simp at this; omega)))
            go_ret
            exact ⟨rfl, Grow.trans (Grow.trans (Grow.alloc _ _) b1) (Grow.alloc _ _)⟩
end Go.Proofs.Ytljimlaalebmaaa
