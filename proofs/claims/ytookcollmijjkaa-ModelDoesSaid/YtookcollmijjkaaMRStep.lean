/- What the reference's Step and Runs compute. -/
import Derived.Test.YtookcollmijjkaaMRDoAll
import Derived.Test.YtookcollmijjkaaMStep
import Derived.Test.YtookcollmijjkaaMRuns
namespace Go.Proofs.Ytookcollmijjkaa
open Go.RowKit
set_option linter.unusedVariables false
set_option linter.unusedSimpArgs false
set_option maxRecDepth 100000 in
set_option maxHeartbeats 4000000 in
theorem RStep_c (xs : List Int) (o : OpR) (v : Value) (w : World) (hv : Ints w v xs) (hn : xs.length + 1 ≤ 17592186044416) : Calls Try.prog 30 #[v, .agg #[.int .i64 o.id, .int .i64 o.proc, .int .i64 o.obj, .int .i64 o.kind, .int .i64 o.meth, .int .i64 o.arg, .int .i64 o.sec, .bool o.done, .int .i64 o.res, .int .i64 o.inv, .int .i64 o.ret]] w (StepPost (stepL xs o) w) := by
  have HD := hid (fun (w : World) (h : Ints w v xs) => RDo_c xs o v w h hn)
  have HV := hid hv
  clear hv
  unfold stepL
  generalize doL xs o = R at *
  obtain ⟨L, N, B⟩ := R
  dsimp only at *
  obtain ⟨id, proc, obj, kind, meth, arg, sec, done, res, inv, ret⟩ := o
  dsimp only at *
  cases B
  · rw [if_pos (.inl rfl)]
    go_enter Try.func30, Try.ntmps30
    go_wp2_with fail
    refine (HD.out _ (HV.out.grow (Grow.alloc _ _))).mono ?_
    rintro e w1 ⟨v', rfl, hi, b1⟩
    dsimp only at hi
    have g1 := hid (Grow.trans (Grow.alloc w (.cells #[.int .i64 id, .int .i64 proc, .int .i64 obj, .int .i64 kind, .int .i64 meth, .int .i64 arg, .int .i64 sec, .bool done, .int .i64 res, .int .i64 inv, .int .i64 ret] 27)) b1)
    have hb := b1.heap (heap_new w (.cells #[.int .i64 id, .int .i64 proc, .int .i64 obj, .int .i64 kind, .int .i64 meth, .int .i64 arg, .int .i64 sec, .bool done, .int .i64 res, .int .i64 inv, .int .i64 ret] 27))
    have c7 : w1.cell? ⟨w.heap.size, 7, none⟩ = some (.bool done) := by rw [heap_cell hb]; rfl
    have c8 : w1.cell? ⟨w.heap.size, 8, none⟩ = some (.int .i64 res) := by rw [heap_cell hb]; rfl
    have hlt := heap_lt hb
    clear hb b1
    have HI := hid hi
    clear hi
    obtain ⟨p, cap, rfl, -⟩ := HI.out.at
    go_wp2_with fail
    go_ret2
    exact ⟨_, rfl, Ints.nil _, Grow.trans g1.out (Grow.alloc _ _)⟩
  · cases done
    · rw [if_neg (by simp)]
      go_enter Try.func30, Try.ntmps30
      go_wp2_with fail
      refine (HD.out _ (HV.out.grow (Grow.alloc _ _))).mono ?_
      rintro e w1 ⟨v', rfl, hi, b1⟩
      dsimp only at hi
      have g1 := hid (Grow.trans (Grow.alloc w (.cells #[.int .i64 id, .int .i64 proc, .int .i64 obj, .int .i64 kind, .int .i64 meth, .int .i64 arg, .int .i64 sec, .bool false, .int .i64 res, .int .i64 inv, .int .i64 ret] 27)) b1)
      have hb := b1.heap (heap_new w (.cells #[.int .i64 id, .int .i64 proc, .int .i64 obj, .int .i64 kind, .int .i64 meth, .int .i64 arg, .int .i64 sec, .bool false, .int .i64 res, .int .i64 inv, .int .i64 ret] 27))
      have c7 : w1.cell? ⟨w.heap.size, 7, none⟩ = some (.bool false) := by rw [heap_cell hb]; rfl
      have c8 : w1.cell? ⟨w.heap.size, 8, none⟩ = some (.int .i64 res) := by rw [heap_cell hb]; rfl
      have hlt := heap_lt hb
      clear hb b1
      have HI := hid hi
      clear hi
      obtain ⟨p, cap, rfl, -⟩ := HI.out.at
      go_wp2_with fail
      go_ret2
      exact ⟨_, rfl, HI.out.grow (Grow.alloc _ _), Grow.trans g1.out (Grow.alloc _ _)⟩
    · by_cases hN : N = res
      · subst hN
        rw [if_neg (by simp)]
        have hN1 : (N != N) = false := by simp
        go_enter Try.func30, Try.ntmps30
        go_wp2_with fail
        refine (HD.out _ (HV.out.grow (Grow.alloc _ _))).mono ?_
        rintro e w1 ⟨v', rfl, hi, b1⟩
        dsimp only at hi
        have g1 := hid (Grow.trans (Grow.alloc w (.cells #[.int .i64 id, .int .i64 proc, .int .i64 obj, .int .i64 kind, .int .i64 meth, .int .i64 arg, .int .i64 sec, .bool true, .int .i64 N, .int .i64 inv, .int .i64 ret] 27)) b1)
        have hb := b1.heap (heap_new w (.cells #[.int .i64 id, .int .i64 proc, .int .i64 obj, .int .i64 kind, .int .i64 meth, .int .i64 arg, .int .i64 sec, .bool true, .int .i64 N, .int .i64 inv, .int .i64 ret] 27))
        have c7 : w1.cell? ⟨w.heap.size, 7, none⟩ = some (.bool true) := by rw [heap_cell hb]; rfl
        have c8 : w1.cell? ⟨w.heap.size, 8, none⟩ = some (.int .i64 N) := by rw [heap_cell hb]; rfl
        have hlt := heap_lt hb
        clear hb b1
        have HI := hid hi
        clear hi
        obtain ⟨p, cap, rfl, -⟩ := HI.out.at
        go_wp2_with fail
        go_ret2
        exact ⟨_, rfl, HI.out.grow (Grow.alloc _ _), Grow.trans g1.out (Grow.alloc _ _)⟩
      · have hN1 : (N != res) = true := by simp [hN]
        rw [if_pos (.inr ⟨rfl, hN⟩)]
        go_enter Try.func30, Try.ntmps30
        go_wp2_with fail
        refine (HD.out _ (HV.out.grow (Grow.alloc _ _))).mono ?_
        rintro e w1 ⟨v', rfl, hi, b1⟩
        dsimp only at hi
        have g1 := hid (Grow.trans (Grow.alloc w (.cells #[.int .i64 id, .int .i64 proc, .int .i64 obj, .int .i64 kind, .int .i64 meth, .int .i64 arg, .int .i64 sec, .bool true, .int .i64 res, .int .i64 inv, .int .i64 ret] 27)) b1)
        have hb := b1.heap (heap_new w (.cells #[.int .i64 id, .int .i64 proc, .int .i64 obj, .int .i64 kind, .int .i64 meth, .int .i64 arg, .int .i64 sec, .bool true, .int .i64 res, .int .i64 inv, .int .i64 ret] 27))
        have c7 : w1.cell? ⟨w.heap.size, 7, none⟩ = some (.bool true) := by rw [heap_cell hb]; rfl
        have c8 : w1.cell? ⟨w.heap.size, 8, none⟩ = some (.int .i64 res) := by rw [heap_cell hb]; rfl
        have hlt := heap_lt hb
        clear hb b1
        have HI := hid hi
        clear hi
        obtain ⟨p, cap, rfl, -⟩ := HI.out.at
        go_wp2_with fail
        go_ret2
        exact ⟨_, rfl, Ints.nil _, Grow.trans g1.out (Grow.alloc _ _)⟩
set_option maxRecDepth 100000 in
set_option maxHeartbeats 4000000 in
theorem RRuns_c (xs : List Int) (l : List OpR) (v ov : Value) (w : World) (hv : Ints w v xs) (ho : Ops w ov l) (hn : xs.length + l.length + 1 ≤ 17592186044416) :
    Calls Try.prog 17 #[v, ov] w (StepPost (runsL xs l) w) := by
  have HS := hid (show ∀ k (hk : k < l.length) (v : Value) (w : World), Ints w v (runsL xs (l.take k)).1 → (runsL xs (l.take k)).2 = true → Calls Try.prog 30 #[v, .agg #[.int .i64 l[k].id, .int .i64 l[k].proc, .int .i64 l[k].obj, .int .i64 l[k].kind, .int .i64 l[k].meth, .int .i64 l[k].arg, .int .i64 l[k].sec, .bool l[k].done, .int .i64 l[k].res, .int .i64 l[k].inv, .int .i64 l[k].ret]] w (StepPost (stepL (runsL xs (l.take k)).1 l[k]) w) from by
    intro k hk v w h1 h2
    have hl := runsL_length (l.take k) xs
    rw [List.length_take] at hl
    exact RStep_c _ l[k] v w h1 (by omega))
  have HT := hid (fun k hk h => runs_take xs l k hk h)
  have hI := hid hv
  clear hv
  have hlen : l.length ≤ 1600000000000 := by obtain ⟨_, _, _, h, _⟩ := ho; exact h
  have HO := hid ho
  obtain ⟨p, cap, rfl, hc⟩ := ho.at
  have HA := hid hc
  have HX := hid (show xs.length ≤ 20000000000000 from hI.out.length)
  clear hc ho
  obtain ⟨n, hN⟩ : ∃ n, n = l.length := ⟨_, rfl⟩
  rw [← hN]
  have hnn : n ≤ 1600000000000 := by omega
  have HN := hid hN
  clear hN
  go_enter Try.func17, Try.ntmps17
  go_wp2_with fail
  go_loopw [6, 0] (fun i s wr => ∃ k : Nat, k ≤ n ∧ i = .int .i64 (k : Int) ∧ Hid (Ints wr s (runsL xs (l.take k)).1) ∧ Hid ((runsL xs (l.take k)).2 = true) ∧ Grow w wr) (fun i _ _ => n - (intOf i).toNat)
  case atStart => exact ⟨0, by omega, rfl, hI, hid rfl, Grow.refl _⟩
  case round =>
    obtain ⟨k, hk, rfl, HI, HK, hg⟩ := hrel
    by_cases hlt : k < n
    · obtain ⟨b, off, rfl, ha⟩ := HA.out k (by have := HN.out; omega)
      have hst := HS.out k (by have := HN.out; omega)
      have htk := HT.out k (by have := HN.out; omega) HK.out
      generalize l[k]'(by have := HN.out; omega) = o at *
      obtain ⟨id, proc, obj, kind, meth, arg, sec, done, res, inv, ret⟩ := o
      unfold OpAt at ha
      dsimp only at ha hst
      obtain ⟨c0, c1, c2, c3, c4, c5, c6, c7, c8, c9, c10⟩ := ha
      replace c0 := hg.cell c0
      replace c1 := hg.cell c1
      replace c2 := hg.cell c2
      replace c3 := hg.cell c3
      replace c4 := hg.cell c4
      replace c5 := hg.cell c5
      replace c6 := hg.cell c6
      replace c7 := hg.cell c7
      replace c8 := hg.cell c8
      replace c9 := hg.cell c9
      replace c10 := hg.cell c10
      have hk0 : (0 : Int) ≤ (k : Int) := by omega
      have hk1 : (k : Int) < (n : Int) := by omega
      have HST := hid hst
      have HTK := hid htk
      clear hst htk
      cases hS : (stepL (runsL xs (l.take k)).1 ⟨id, proc, obj, kind, meth, arg, sec, done, res, inv, ret⟩).2 with
      | true =>
        have HQ := hid hS
        clear hS
        go_wp2_with fail
        refine (HST.out _ _ HI.out HK.out).mono ?_
        rintro e w2 ⟨v2, rfl, hi2, b2⟩
        rw [HQ.out]
        go_wp2_with fail
        go_roundw
        case rel =>
          have e2 := HTK.out.1 HQ.out
          refine ⟨k + 1, by omega, by go_num, hid ?_, hid (by rw [e2]), Grow.trans hg b2⟩
          rw [e2]; exact hi2
        case measure => simp [intOf]; omega
      | false =>
        have HQ := hid hS
        clear hS
        have e3 := HTK.out.2 HQ.out
        go_wp2_with fail
        refine (HST.out _ _ HI.out HK.out).mono ?_
        rintro e w2 ⟨v2, rfl, hi2, b2⟩
        rw [HQ.out]
        go_wp2_with fail
        go_ret2
        rw [e3]
        exact ⟨_, rfl, Ints.nil _, Grow.trans hg b2⟩
    · obtain rfl : k = n := by omega
      have e4 : l.take k = l := List.take_of_length_le (by have := HN.out; omega)
      have e5 : runsL xs l = ((runsL xs (l.take k)).1, true) := by
        rw [e4] at HK ⊢
        exact Prod.ext rfl HK.out
      go_wp2_with fail
      go_ret2
      rw [e5]
      exact ⟨_, rfl, HI.out, hg⟩
end Go.Proofs.Ytookcollmijjkaa
