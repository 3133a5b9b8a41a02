/- What the reference's Do computes, at every operation. -/
import Derived.Test.YtookcollmijjkaaMRDo3
namespace Go.Proofs.Ytookcollmijjkaa
open Go.RowKit
set_option linter.unusedVariables false
set_option linter.unusedSimpArgs false
theorem beq_no {a b : Int} (h : ¬ a = b) : (a == b) = false := by simpa using h
theorem bne_yes {a b : Int} (h : ¬ a = b) : (a != b) = true := by simpa using h
theorem beq_yes {a b : Int} (h : a = b) : (a == b) = true := by simpa using h
theorem filter_lt (xs : List Int) (x : Int) : (xs.filter (fun y => decide (y ≠ x))).length < xs.length ↔ x ∈ xs := by
  induction xs with
  | nil => simp
  | cons y l ih =>
    by_cases h : y = x
    · subst h
      have := List.length_filter_le (fun z => decide (z ≠ y)) l
      have e : (y :: l).filter (fun z => decide (z ≠ y)) = l.filter (fun z => decide (z ≠ y)) := by simp
      rw [e, List.length_cons]
      constructor
      · intro _; exact List.mem_cons_self ..
      · intro _; omega
    · have e : (y :: l).filter (fun z => decide (z ≠ x)) = y :: l.filter (fun z => decide (z ≠ x)) := by simp [h]
      rw [e, List.length_cons, List.length_cons, List.mem_cons]
      constructor
      · intro h'; exact .inr (ih.1 (by omega))
      · rintro (h' | h')
        · exact absurd h'.symm h
        · have := ih.2 h'; omega
theorem RDo_c (xs : List Int) (o : OpR) (v : Value) (w : World) (hv : Ints w v xs) (hn : xs.length + 1 ≤ 17592186044416) :
    Calls Try.prog 12 #[v, .agg #[.int .i64 o.id, .int .i64 o.proc, .int .i64 o.obj, .int .i64 o.kind, .int .i64 o.meth, .int .i64 o.arg, .int .i64 o.sec, .bool o.done, .int .i64 o.res, .int .i64 o.inv, .int .i64 o.ret]] w (DonePost (doL xs o) w) := by
  by_cases k1 : o.kind = 1 ∨ o.kind = 2
  · have hN : ∀ w, Ints w v xs → Calls Try.prog 27 #[v, .agg #[.int .i64 o.id, .int .i64 o.proc, .int .i64 o.obj, .int .i64 o.kind, .int .i64 o.meth, .int .i64 o.arg, .int .i64 o.sec, .bool o.done, .int .i64 o.res, .int .i64 o.inv, .int .i64 o.ret]] w (NumPost (doL xs o) v w) := fun w hw => by
      by_cases hx : xs.length = 1
      · obtain ⟨x, rfl⟩ : ∃ x, xs = [x] := List.length_eq_one_iff.1 hx
        have e : doL [x] o = numberL x o := by unfold doL; rw [if_pos k1]; simp
        rw [e]
        exact RNumber_c x o v w hw k1
      · have e : doL xs o = ([], 0, false) := by unfold doL; rw [if_pos k1, if_pos hx]
        rw [e]
        exact RNumberBad_c xs o v w hw hx
    obtain ⟨id, proc, obj, kind, meth, arg, sec, done, res, inv, ret⟩ := o
    dsimp only at *
    rcases k1 with rfl | rfl
    · exact RDo_num1 id proc obj meth arg sec done res inv ret xs _ v w hv hN
    · exact RDo_num2 id proc obj meth arg sec done res inv ret xs _ v w hv hN
  · obtain ⟨p, cap, rfl, hc⟩ := hv.at
    have hW := fun w hw => without_c xs o.arg (.slice p xs.length cap) w hw hn
    have hT := fun w hw => with_c xs o.arg (.slice p xs.length cap) w hw hn
    have hW1 : ∀ w, Ints w (.slice p xs.length cap) xs → Calls Try.prog 28 #[.slice p xs.length cap, .int .i64 o.arg] w fun e w' => ∃ px cx, e = .returned (.slice px (xs.filter (fun y => decide (y ≠ o.arg))).length cx) ∧ Grow w w' := fun w hw => by
      refine (hW w hw).mono ?_
      rintro e w' ⟨v', rfl, hi, hg, -⟩
      obtain ⟨px, cx, rfl, -⟩ := hi.at
      exact ⟨px, cx, rfl, hg⟩
    have hmem := filter_lt xs o.arg
    obtain ⟨id, proc, obj, kind, meth, arg, sec, done, res, inv, ret⟩ := o
    dsimp only at *
    have n1 : ¬ kind = 1 := fun h => k1 (.inl h)
    have n2 : ¬ kind = 2 := fun h => k1 (.inr h)
    by_cases k3 : kind = 3
    · subst k3
      have ed : doL xs ⟨id, proc, obj, 3, meth, arg, sec, done, res, inv, ret⟩ = listL xs ⟨id, proc, obj, 3, meth, arg, sec, done, res, inv, ret⟩ := rfl
      rw [ed]
      by_cases m6 : meth = 6
      · subst m6
        exact RDo_enq id proc obj arg sec done res inv ret xs p _ cap w hv hn
      · by_cases m7 : meth = 7
        · subst m7
          by_cases h0 : xs.length = 0
          · obtain rfl := List.eq_nil_of_length_eq_zero h0
            exact RDo_qe id proc obj arg sec done res inv ret cap p w
          · have e : listL xs ⟨id, proc, obj, 3, 7, arg, sec, done, res, inv, ret⟩ = (xs.drop 1, xs.getD 0 0, true) := by unfold listL; simp [h0]
            rw [e]
            obtain ⟨b, off, rfl, c0⟩ := hc 0 (by omega)
            exact RDo_deq id proc obj arg sec done res inv ret xs b off _ cap _ w hv (by omega) c0 _ rfl
        · have e : listL xs ⟨id, proc, obj, 3, meth, arg, sec, done, res, inv, ret⟩ = ([], 0, false) := by unfold listL; simp [m6, m7]
          rw [e]
          exact RDo_q id proc obj meth arg sec done res inv ret _ w (beq_no m6) (beq_no m7)
    · by_cases k4 : kind = 4
      · subst k4
        have ed : doL xs ⟨id, proc, obj, 4, meth, arg, sec, done, res, inv, ret⟩ = listL xs ⟨id, proc, obj, 4, meth, arg, sec, done, res, inv, ret⟩ := rfl
        rw [ed]
        by_cases m6 : meth = 8
        · subst m6
          exact RDo_push id proc obj arg sec done res inv ret xs p _ cap w hv hn
        · by_cases m7 : meth = 9
          · subst m7
            by_cases h0 : xs.length = 0
            · obtain rfl := List.eq_nil_of_length_eq_zero h0
              exact RDo_se id proc obj arg sec done res inv ret cap p w
            · have e : listL xs ⟨id, proc, obj, 4, 9, arg, sec, done, res, inv, ret⟩ = (xs.take (xs.length - 1), xs.getD (xs.length - 1) 0, true) := by unfold listL; simp [h0]
              rw [e]
              obtain ⟨b, off, rfl, c0⟩ := hc (xs.length - 1) (by omega)
              exact RDo_pop id proc obj arg sec done res inv ret xs b off _ cap _ w hv (by omega) c0 _ rfl
          · have e : listL xs ⟨id, proc, obj, 4, meth, arg, sec, done, res, inv, ret⟩ = ([], 0, false) := by unfold listL; simp [m6, m7]
            rw [e]
            exact RDo_s id proc obj meth arg sec done res inv ret _ w (beq_no m6) (beq_no m7)
      · by_cases k5 : kind = 5
        · subst k5
          have ed : doL xs ⟨id, proc, obj, 5, meth, arg, sec, done, res, inv, ret⟩ = setL xs ⟨id, proc, obj, 5, meth, arg, sec, done, res, inv, ret⟩ := rfl
          rw [ed]
          by_cases hin : arg ∈ xs
          · have hd := decide_eq_true (hmem.2 hin)
            by_cases m1 : meth = 12
            · subst m1
              have e : setL xs ⟨id, proc, obj, 5, 12, arg, sec, done, res, inv, ret⟩ = (xs, 1, true) := by unfold setL; simp [hin]
              rw [e]
              exact RDo_h1 id proc obj arg sec done res inv ret xs p _ cap _ w hv hd hW1
            · by_cases m2 : meth = 10
              · subst m2
                have e : setL xs ⟨id, proc, obj, 5, 10, arg, sec, done, res, inv, ret⟩ = (xs, 0, true) := by unfold setL; simp [hin]
                rw [e]
                exact RDo_a1 id proc obj arg sec done res inv ret xs p _ cap _ w hv hd hW1
              · by_cases m3 : meth = 11
                · subst m3
                  have e : setL xs ⟨id, proc, obj, 5, 11, arg, sec, done, res, inv, ret⟩ = (xs.filter (fun y => decide (y ≠ arg)), 1, true) := by unfold setL; simp [hin]
                  rw [e]
                  exact RDo_m1 id proc obj arg sec done res inv ret xs p _ cap _ w hv hd hW1 _ hW
                · have e : setL xs ⟨id, proc, obj, 5, meth, arg, sec, done, res, inv, ret⟩ = ([], 0, false) := by unfold setL; simp [m1, m2, m3]
                  rw [e]
                  exact RDo_z id proc obj meth arg sec done res inv ret xs p _ cap _ w hv hd hW1 (beq_no m1) (beq_no m2) (beq_no m3)
          · have hd := decide_eq_false (fun h => hin (hmem.1 h))
            by_cases m1 : meth = 12
            · subst m1
              have e : setL xs ⟨id, proc, obj, 5, 12, arg, sec, done, res, inv, ret⟩ = (xs, 0, true) := by unfold setL; simp [hin]
              rw [e]
              exact RDo_h0 id proc obj arg sec done res inv ret xs p _ cap _ w hv hd hW1
            · by_cases m2 : meth = 10
              · subst m2
                have e : setL xs ⟨id, proc, obj, 5, 10, arg, sec, done, res, inv, ret⟩ = (insL arg xs, 1, true) := by unfold setL; simp [hin]
                rw [e]
                exact RDo_a0 id proc obj arg sec done res inv ret xs p _ cap _ w hv hd hW1 _ hT
              · by_cases m3 : meth = 11
                · subst m3
                  have e : setL xs ⟨id, proc, obj, 5, 11, arg, sec, done, res, inv, ret⟩ = (xs, 0, true) := by unfold setL; simp [hin]
                  rw [e]
                  exact RDo_m0 id proc obj arg sec done res inv ret xs p _ cap _ w hv hd hW1
                · have e : setL xs ⟨id, proc, obj, 5, meth, arg, sec, done, res, inv, ret⟩ = ([], 0, false) := by unfold setL; simp [m1, m2, m3]
                  rw [e]
                  exact RDo_z0 id proc obj meth arg sec done res inv ret xs p _ cap _ w hv hd hW1 (beq_no m1) (beq_no m2) (beq_no m3)
        · by_cases k6 : kind = 6
          · subst k6
            have ed : doL xs ⟨id, proc, obj, 6, meth, arg, sec, done, res, inv, ret⟩ = mutexL xs ⟨id, proc, obj, 6, meth, arg, sec, done, res, inv, ret⟩ := rfl
            rw [ed]
            by_cases m1 : meth = 13
            · subst m1
              by_cases h0 : xs.length = 0
              · obtain rfl := List.eq_nil_of_length_eq_zero h0
                exact RDo_l0 id proc obj arg sec done res inv ret cap p w
              · have e : mutexL xs ⟨id, proc, obj, 6, 13, arg, sec, done, res, inv, ret⟩ = ([], 0, false) := by unfold mutexL; simp [h0]
                rw [e]
                exact RDo_l1 id proc obj arg sec done res inv ret p _ cap w (beq_no (by omega))
            · by_cases m2 : meth = 14
              · subst m2
                by_cases h1 : xs.length = 1
                · obtain ⟨x, rfl⟩ : ∃ x, xs = [x] := List.length_eq_one_iff.1 h1
                  obtain ⟨b, off, rfl, c0⟩ := hc 0 (by simp)
                  by_cases hx : x = proc
                  · have e : mutexL [x] ⟨id, proc, obj, 6, 14, arg, sec, done, res, inv, ret⟩ = ([], 0, true) := by unfold mutexL; simp [hx]
                    rw [e]
                    exact RDo_u1 id proc obj arg sec done res inv ret x b off cap w c0 (beq_yes hx)
                  · have e : mutexL [x] ⟨id, proc, obj, 6, 14, arg, sec, done, res, inv, ret⟩ = ([], 0, false) := by unfold mutexL; simp [hx]
                    rw [e]
                    exact RDo_u2 id proc obj arg sec done res inv ret x b off cap w c0 (beq_no hx)
                · have e : mutexL xs ⟨id, proc, obj, 6, 14, arg, sec, done, res, inv, ret⟩ = ([], 0, false) := by unfold mutexL; simp [h1]
                  rw [e]
                  exact RDo_u0 id proc obj arg sec done res inv ret p _ cap w (beq_no (by omega))
              · have e : mutexL xs ⟨id, proc, obj, 6, meth, arg, sec, done, res, inv, ret⟩ = ([], 0, false) := by unfold mutexL; simp [m1, m2]
                rw [e]
                exact RDo_m id proc obj meth arg sec done res inv ret _ w (beq_no m1) (beq_no m2)
          · have e : doL xs ⟨id, proc, obj, kind, meth, arg, sec, done, res, inv, ret⟩ = ([], 0, false) := by unfold doL; simp [n1, n2, k3, k4, k5, k6]
            rw [e]
            exact RDo_x id proc obj kind meth arg sec done res inv ret _ w (beq_no n1) (beq_no n2) (beq_no k3) (beq_no k4) (beq_no k5) (beq_no k6) (bne_yes k5)
end Go.Proofs.Ytookcollmijjkaa
