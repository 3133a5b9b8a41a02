/- What model.Do computes: the rest of the kinds. -/
import Derived.Test.YtlhgdbangnohjaaMDo
namespace Go.Proofs.Ytlhgdbangnohjaa
open Go.RowKit
set_option linter.unusedVariables false
set_option linter.unusedSimpArgs false
set_option maxRecDepth 100000 in
set_option maxHeartbeats 4000000 in
theorem DoMutex_c (xs : List Int) (o : OpR) (v : Value) (w : World) (hv : Ints w v xs) (hk : o.kind = 6) : Calls Try.prog 41 #[v, .agg #[.int .i64 o.id, .int .i64 o.proc, .int .i64 o.obj, .int .i64 o.kind, .int .i64 o.meth, .int .i64 o.arg, .int .i64 o.sec, .bool o.done, .int .i64 o.res, .int .i64 o.inv, .int .i64 o.ret]] w (DoPost w.heap.size (mutexL xs o) w) := by
  have hm : ∀ (x : Int) , xs = [x] → mutexL xs o = if o.meth = 14 ∧ x = o.proc then ([], 0, true) else ([], 0, false) := by
    rintro x rfl
    simp [mutexL]
  generalize hR : mutexL xs o = R at *
  have HR := hid hR
  have HM := hid hm
  clear hR hm
  obtain ⟨id, proc, obj, kind, meth, arg, sec, done, res, inv, ret⟩ := o
  dsimp only at *
  subst hk
  have HV := hid hv
  have HC := hid (fun (w : World) (h : Ints w v xs) => Clone_c xs v w h)
  clear hv
  have hM : meth = 13 ∨ meth = 14 ∨ ((meth == 13) = false ∧ (meth == 14) = false) := by
    simp only [beq_eq_false_iff_ne, ne_eq]
    omega
  by_cases h1 : xs.length = 1
  · obtain ⟨x, rfl⟩ : ∃ x, xs = [x] := List.length_eq_one_iff.1 h1
    have HR := hid (HM.out x rfl)
    clear HM h1
    rcases hM with rfl | rfl | ⟨m13, m14⟩
    all_goals
      go_enter Try.func41, Try.ntmps41
      go_wp2_with fail
      refine (HC.out _ (HV.out.grow (Grow.alloc _ _))).mono ?_
      rintro e w1 ⟨v', rfl, ho, b1⟩
      have k1 := b1.cells
      have z1 : w.heap.size + 1 ≤ w1.heap.size := (by have := b1.size; simp at this; omega)
      have hz : ∀ o : Obj, (w.alloc o).heap.size = w.heap.size + 1 := fun o => by simp
      rw [hz] at ho
      have g1 : Grow w w1 := Grow.trans (Grow.alloc _ _) b1
      clear b1 hz
      have hi1 := Ints.of_own ho (by simp)
      obtain ⟨p, c, rfl, hc⟩ := hi1.at
      obtain ⟨b, off, rfl, hc0⟩ := hc 0 (by simp)
      replace hc0 : w1.cell? ⟨b, off, none⟩ = some (.int .i64 x) := hc0
      clear ho hc hi1
      go_wp2_with fail
      all_goals try (go_quiet (fail); go_wp2_with fail)
      all_goals go_ret3
      all_goals
        simp only [beq_iff_eq, beq_eq_false_iff_ne, ne_eq] at *
        have e := HR.out
        try simp only [true_and] at e
        repeat (first | rw [if_pos (by omega)] at e | rw [if_neg (by omega)] at e)
        subst e
        refine DoPost.intro rfl rfl ?_ ?_
        · exact IntsF.nil
        · first
            | exact g1
            | exact Grow.drewNM g1 _
  · have h1' : ((xs.length : Int) == 1) = false := by simp; omega
    have HR1 := HR.out
    unfold mutexL at HR1
    dsimp only at HR1
    generalize hX : xs.getD 0 0 = x0 at HR1
    generalize hN : xs.length = n at *
    have HR := hid HR1
    clear HR1 HM hX hN
    rcases hM with rfl | rfl | ⟨m13, m14⟩
    all_goals
      go_enter Try.func41, Try.ntmps41
      go_wp2_with fail
      refine (HC.out _ (HV.out.grow (Grow.alloc _ _))).mono ?_
      rintro e w1 ⟨v', rfl, ho, b1⟩
      have k1 := b1.cells
      have z1 : w.heap.size + 1 ≤ w1.heap.size := (by have := b1.size; simp at this; omega)
      have hz : ∀ o : Obj, (w.alloc o).heap.size = w.heap.size + 1 := fun o => by simp
      rw [hz] at ho
      have g1 : Grow w w1 := Grow.trans (Grow.alloc _ _) b1
      clear b1 hz
      obtain ⟨p, c, rfl⟩ := own_formM ho
      clear ho
      go_wp2_with fail
      all_goals try (go_quiet (fail); go_wp2_with fail)
      all_goals go_ret3
      all_goals
        simp only [beq_iff_eq, beq_eq_false_iff_ne, ne_eq] at *
        have e := HR.out
        try simp only [true_and] at e
        repeat (first | rw [if_pos (by omega)] at e | rw [if_neg (by omega)] at e)
        subst e
        refine DoPost.intro rfl rfl ?_ ?_
        · first
            | exact IntsF.nil
            | exact ⟨Ints.new (by simp), Lies.at (by have := g1.size; simp at this ⊢; omega)⟩
        · first
            | exact g1
            | exact Grow.drewNM g1 _
            | exact Grow.trans g1 (Grow.alloc _ _)
set_option maxRecDepth 100000 in
set_option maxHeartbeats 4000000 in
theorem DoSet_c (xs : List Int) (o : OpR) (v : Value) (w : World) (hv : Ints w v xs) (hk : o.kind = 5) (HL : Hid (∀ (v : Value) (w : World) (base : Nat), base ≤ w.heap.size → w.ownsRow base 3 1 v xs.length (i64s xs) → Calls Try.prog 55 #[v, .agg #[.int .i64 o.id, .int .i64 o.proc, .int .i64 o.obj, .int .i64 o.kind, .int .i64 o.meth, .int .i64 o.arg, .int .i64 o.sec, .bool o.done, .int .i64 o.res, .int .i64 o.inv, .int .i64 o.ret]] w (DoPost base (setL xs o) w))) : Calls Try.prog 41 #[v, .agg #[.int .i64 o.id, .int .i64 o.proc, .int .i64 o.obj, .int .i64 o.kind, .int .i64 o.meth, .int .i64 o.arg, .int .i64 o.sec, .bool o.done, .int .i64 o.res, .int .i64 o.inv, .int .i64 o.ret]] w (DoPost w.heap.size (setL xs o) w) := by
  generalize setL xs o = R at *
  obtain ⟨id, proc, obj, kind, meth, arg, sec, done, res, inv, ret⟩ := o
  dsimp only at *
  subst hk
  have HV := hid hv
  have HC := hid (fun (w : World) (h : Ints w v xs) => Clone_c xs v w h)
  clear hv
  go_enter Try.func41, Try.ntmps41
  go_wp2_with fail
  refine (HC.out _ (HV.out.grow (Grow.alloc _ _))).mono ?_
  rintro e w1 ⟨v', rfl, ho, b1⟩
  have k1 := b1.cells
  have z1 : w.heap.size + 1 ≤ w1.heap.size := (by have := b1.size; simp at this; omega)
  have hz : ∀ o : Obj, (w.alloc o).heap.size = w.heap.size + 1 := fun o => by simp
  rw [hz] at ho
  have g1 : Grow w w1 := Grow.trans (Grow.alloc _ _) b1
  clear b1 hz
  go_wp2_with fail
  refine (HL.out _ _ _ z1 ho).mono ?_
  rintro e w2 ⟨vr, rfl, hi, b2⟩
  go_wp2_with fail
  go_ret3
  exact ⟨_, rfl, hi.mono (by omega), Below.afterM g1 b2 (by omega)⟩
set_option maxRecDepth 100000 in
set_option maxHeartbeats 4000000 in
theorem DoNone_c (xs : List Int) (o : OpR) (v : Value) (w : World) (hv : Ints w v xs) (hk : o.kind < 1 ∨ 6 < o.kind) : Calls Try.prog 41 #[v, .agg #[.int .i64 o.id, .int .i64 o.proc, .int .i64 o.obj, .int .i64 o.kind, .int .i64 o.meth, .int .i64 o.arg, .int .i64 o.sec, .bool o.done, .int .i64 o.res, .int .i64 o.inv, .int .i64 o.ret]] w (DoPost w.heap.size (([], 0, false)) w) := by
  obtain ⟨id, proc, obj, kind, meth, arg, sec, done, res, inv, ret⟩ := o
  dsimp only at *
  have e1 : (kind == 1) = false := by simp; omega
  have e2 : (kind == 2) = false := by simp; omega
  have e3 : (kind == 3) = false := by simp; omega
  have e4 : (kind == 4) = false := by simp; omega
  have e5 : (kind == 5) = false := by simp; omega
  have e6 : (kind == 6) = false := by simp; omega
  clear hk
  have HV := hid hv
  have HC := hid (fun (w : World) (h : Ints w v xs) => Clone_c xs v w h)
  clear hv
  go_enter Try.func41, Try.ntmps41
  go_wp2_with fail
  refine (HC.out _ (HV.out.grow (Grow.alloc _ _))).mono ?_
  rintro e w1 ⟨v', rfl, ho, b1⟩
  have k1 := b1.cells
  have z1 : w.heap.size + 1 ≤ w1.heap.size := (by have := b1.size; simp at this; omega)
  have hz : ∀ o : Obj, (w.alloc o).heap.size = w.heap.size + 1 := fun o => by simp
  rw [hz] at ho
  have g1 : Grow w w1 := Grow.trans (Grow.alloc _ _) b1
  clear b1 hz
  obtain ⟨p, c, rfl⟩ := own_formM ho
  clear ho
  go_wp2_with fail
  go_ret3
  exact ⟨_, rfl, IntsF.nil, g1⟩
end Go.Proofs.Ytlhgdbangnohjaa
