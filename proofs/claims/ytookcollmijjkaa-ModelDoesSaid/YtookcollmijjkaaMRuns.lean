/- What model.Runs computes. -/
import Derived.Test.YtookcollmijjkaaMSet
import Derived.Test.YtookcollmijjkaaMRunsPlain
import Derived.Test.YtookcollmijjkaaMOps
namespace Go.Proofs.Ytookcollmijjkaa
open Go.RowKit
set_option linter.unusedVariables false
set_option linter.unusedSimpArgs false
theorem runs_take (xs : List Int) (l : List OpR) (k : Nat) (hk : k < l.length) (h : (runsL xs (l.take k)).2 = true) :
    ((stepL (runsL xs (l.take k)).1 l[k]).2 = true → runsL xs (l.take (k + 1)) = ((stepL (runsL xs (l.take k)).1 l[k]).1, true)) ∧ ((stepL (runsL xs (l.take k)).1 l[k]).2 = false → runsL xs l = ([], false)) := by
  constructor
  · intro h2
    rw [List.take_succ_eq_append_getElem hk, runsL_append, if_neg (by rw [h]; simp)]
    simp [runsL, h2]
  · intro h2
    have e : l = l.take k ++ (l[k] :: l.drop (k + 1)) := by rw [List.getElem_cons_drop]; exact (List.take_append_drop k l).symm
    rw [e, runsL_append, if_neg (by rw [h]; simp)]
    simp [runsL, h2]
theorem DoAll_c (xs : List Int) (o : OpR) (v : Value) (w : World) (hv : Ints w v xs) (hn : xs.length < 20000000000000) (hs : o.kind = 5 → xs.Pairwise (· < ·)) : Calls Try.prog 10 #[v, .agg #[.int .i64 o.id, .int .i64 o.proc, .int .i64 o.obj, .int .i64 o.kind, .int .i64 o.meth, .int .i64 o.arg, .int .i64 o.sec, .bool o.done, .int .i64 o.res, .int .i64 o.inv, .int .i64 o.ret]] w (DoPost w.heap.size (doL xs o) w) :=
  Do_c xs o v w hv hn (fun hk v w base hb h => set_c xs o v w base hb hn (hs hk) h)
theorem StepAll_c (xs : List Int) (o : OpR) (v : Value) (w : World) (hv : Ints w v xs) (hn : xs.length < 20000000000000) (hs : o.kind = 5 → xs.Pairwise (· < ·)) : Calls Try.prog 22 #[v, .agg #[.int .i64 o.id, .int .i64 o.proc, .int .i64 o.obj, .int .i64 o.kind, .int .i64 o.meth, .int .i64 o.arg, .int .i64 o.sec, .bool o.done, .int .i64 o.res, .int .i64 o.inv, .int .i64 o.ret]] w (StepPost (stepL xs o) w) :=
  Step_c xs o v w hv hn (fun hk v w base hb h => set_c xs o v w base hb hn (hs hk) h)
set_option maxRecDepth 100000 in
set_option maxHeartbeats 4000000 in
theorem Runs_c (xs : List Int) (l : List OpR) (v ov : Value) (w : World) (hv : Ints w v xs) (ho : Ops w ov l) (hn : xs.length + l.length < 20000000000000) (hall : (∀ o ∈ l, o.kind = 5) ∨ ∀ o ∈ l, o.kind ≠ 5) (hs : (∃ o ∈ l, o.kind = 5) → xs.Pairwise (· < ·)) :
    Calls Try.prog 16 #[v, ov] w (StepPost (runsL xs l) w) := by
  have HC := hid (fun w h => Clone_c xs v w h)
  have HS := hid (show ∀ k (hk : k < l.length) (v : Value) (w : World), Ints w v (runsL xs (l.take k)).1 → (runsL xs (l.take k)).2 = true → Calls Try.prog 22 #[v, .agg #[.int .i64 l[k].id, .int .i64 l[k].proc, .int .i64 l[k].obj, .int .i64 l[k].kind, .int .i64 l[k].meth, .int .i64 l[k].arg, .int .i64 l[k].sec, .bool l[k].done, .int .i64 l[k].res, .int .i64 l[k].inv, .int .i64 l[k].ret]] w (StepPost (stepL (runsL xs (l.take k)).1 l[k]) w) from by
    intro k hk v w h1 h2
    have hl := runsL_length (l.take k) xs
    rw [List.length_take] at hl
    refine StepAll_c _ l[k] v w h1 (by omega) (fun h5 => ?_)
    have h5' : ∀ o ∈ l, o.kind = 5 := by
      rcases hall with h | h
      · exact h
      · exact absurd h5 (h _ (List.getElem_mem hk))
    exact runsL_rise _ _ (fun o ho => h5' o (List.mem_of_mem_take ho)) (hs ⟨_, List.getElem_mem hk, h5⟩))
  have HT := hid (fun k hk h => runs_take xs l k hk h)
  have hI := hid hv
  clear hv hall hs
  have hlen : l.length ≤ 1600000000000 := by obtain ⟨_, _, _, h, _⟩ := ho; exact h
  have HO := hid ho
  obtain ⟨p, cap, rfl, hc⟩ := ho.at
  have HA := hid hc
  have HX := hid (show xs.length ≤ 20000000000000 from hI.out.length)
  clear hc ho
  obtain ⟨n, hN⟩ : ∃ n, n = l.length := ⟨_, rfl⟩
  rw [← hN]
  go_enter Try.func16, Try.ntmps16
  go_wp2_with fail
  refine (HC.out _ hI.out).mono ?_
  rintro e w1 ⟨v1, rfl, ho1, b1⟩
  have hv1 := hid (Ints.of_own ho1 HX.out)
  clear ho1
  go_wp2_with fail
  go_loopw [14, 6, 7] (fun i s t wr => ∃ k : Nat, k ≤ n ∧ i = .int .i64 (k : Int) ∧ t = .bool true ∧ Hid (Ints wr s (runsL xs (l.take k)).1) ∧ Hid ((runsL xs (l.take k)).2 = true) ∧ Grow w wr) (fun i _ _ _ => n - (intOf i).toNat)
  case atStart => exact ⟨0, by omega, rfl, rfl, hv1, hid rfl, b1⟩
  case round =>
    obtain ⟨k, hk, rfl, rfl, HI, HK, hg⟩ := hrel
    by_cases hlt : k < n
    · obtain ⟨b, off, rfl, ha⟩ := HA.out k (by omega)
      have hst := HS.out k (by omega)
      have htk := HT.out k (by omega) HK.out
      generalize l[k]'(by omega) = o at *
      obtain ⟨id, proc, obj, kind, meth, arg, sec, done, res, inv, ret⟩ := o
      unfold OpAt at ha
      dsimp only at ha hst
      obtain ⟨c0, c1, c2, c3, c4, c5, c6, c7, c8, c9, c10⟩ := ha
      replace c0 := hg.cell c0
      replace c1 := hg.cell c1
      replace c2 := hg.cell c2
      replace c3 := hg.cell c3
      replace c4 := hg.cell c4
      replace c5 := hg.cell c5
      replace c6 := hg.cell c6
      replace c7 := hg.cell c7
      replace c8 := hg.cell c8
      replace c9 := hg.cell c9
      replace c10 := hg.cell c10
      have hk0 : (0 : Int) ≤ (k : Int) := by omega
      have hk1 : (k : Int) < (n : Int) := by omega
      have HST := hid hst
      have HTK := hid htk
      clear hst htk
      cases hS : (stepL (runsL xs (l.take k)).1 ⟨id, proc, obj, kind, meth, arg, sec, done, res, inv, ret⟩).2 with
      | true =>
        have HQ := hid hS
        clear hS
        go_wp2_with fail
        refine (HST.out _ _ (HI.out.grow (Grow.alloc _ _)) HK.out).mono ?_
        rintro e w2 ⟨v2, rfl, hi2, b2⟩
        rw [HQ.out]
        go_wp2_with fail
        go_roundw
        case rel =>
          have e2 := HTK.out.1 HQ.out
          refine ⟨k + 1, by omega, by go_num, rfl, hid ?_, hid (by rw [e2]), Grow.trans (Grow.trans hg (Grow.alloc _ _)) b2⟩
          rw [e2]; exact hi2
        case measure => simp [intOf]; omega
      | false =>
        have HQ := hid hS
        clear hS
        have e3 := HTK.out.2 HQ.out
        go_wp2_with fail
        refine (HST.out _ _ (HI.out.grow (Grow.alloc _ _)) HK.out).mono ?_
        rintro e w2 ⟨v2, rfl, hi2, b2⟩
        rw [HQ.out]
        go_wp2_with fail
        go_ret2
        rw [e3]
        exact ⟨_, rfl, Ints.nil _, Grow.trans (Grow.trans hg (Grow.alloc _ _)) b2⟩
    · obtain rfl : k = n := by omega
      have e4 : l.take k = l := List.take_of_length_le (by omega)
      have e5 : runsL xs l = ((runsL xs (l.take k)).1, true) := by
        rw [e4] at HK ⊢
        exact Prod.ext rfl HK.out
      go_wp2_with fail
      go_ret2
      rw [e5]
      exact ⟨_, rfl, HI.out, hg⟩
end Go.Proofs.Ytookcollmijjkaa
