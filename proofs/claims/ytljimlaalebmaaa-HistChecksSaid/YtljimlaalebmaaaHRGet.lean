/- What the reference's Get tells. -/
import Derived.Test.YtljimlaalebmaaaHGet
import Derived.Test.YtljimlaalebmaaaHCheckPlain
namespace Go.Proofs.Ytljimlaalebmaaa
open Go.RowKit
set_option linter.unusedVariables false
set_option linter.unusedSimpArgs false
theorem getO_at {l : List OpR} {x : Int} {j : Nat} (hs : Rises l) (hj : j < l.length) (h : (opAt l j).id = x) : thereB l x = true ∧ getO l x = opAt l j := by
  have ht : thereB l x = true := any_true hj (by simpa using h)
  refine ⟨ht, ?_⟩
  unfold getO
  rw [if_pos ht, placeL_spec l x j (by omega) (fun k hk => by have := hs k j hk hj; omega) (fun _ => by omega)]
theorem getO_none {l : List OpR} {x : Int} (h : ∀ k, k < l.length → (opAt l k).id ≠ x) : thereB l x = false ∧ getO l x = opZ := by
  have ht : thereB l x = false := any_false (fun k hk => by simpa using h k hk)
  refine ⟨ht, ?_⟩
  unfold getO
  rw [if_neg (by rw [ht]; decide)]
set_option maxRecDepth 100000 in
set_option maxHeartbeats 600000 in
theorem RGet_c (l : List OpR) (x : Int) (y : OpR) (v : Value) (w : World) (hv : Ops w v l) (hs : Rises l) (hy : y = getO l x) :
    Calls Try.prog 13 #[v, .int .i64 x] w fun e w' => e = .returned (.tuple #[.agg #[.int .i64 y.id, .int .i64 y.proc, .int .i64 y.obj, .int .i64 y.kind, .int .i64 y.meth, .int .i64 y.arg, .int .i64 y.sec, .bool y.done, .int .i64 y.res, .int .i64 y.inv, .int .i64 y.ret], .bool (thereB l x)]) ∧ Grow w w' := by
  have HA := hid (fun j hj h => getO_at (l := l) (x := x) (j := j) hs hj h)
  have HN := hid (getO_none (l := l) (x := x))
  rw [← hy] at HA HN
  obtain ⟨p, cap, rfl, hl, hc⟩ := hv.read
  have HC := hid hc
  clear hc hs hv hy
  generalize thereB l x = X at *
  generalize hN : l.length = n at *
  clear hN
  have hbx : OpBox (w.alloc (.cells #[.int .i64 0, .int .i64 0, .int .i64 0, .int .i64 0, .int .i64 0, .int .i64 0, .int .i64 0, .bool false, .int .i64 0, .int .i64 0, .int .i64 0] 25)) w.heap.size opZ := heap_new w (.cells #[.int .i64 0, .int .i64 0, .int .i64 0, .int .i64 0, .int .i64 0, .int .i64 0, .int .i64 0, .bool false, .int .i64 0, .int .i64 0, .int .i64 0] 25)
  have HBX := hid hbx
  clear hbx
  go_enter Try.func13, Try.ntmps13
  go_wp2_with fail
  go_loopw [6] (fun i wr => ∃ j : Nat, j ≤ n ∧ i = .int .i64 (j : Int) ∧ Hid (∀ k, k < j → (opAt l k).id ≠ x) ∧ wr = w.alloc (.cells #[.int .i64 0, .int .i64 0, .int .i64 0, .int .i64 0, .int .i64 0, .int .i64 0, .int .i64 0, .bool false, .int .i64 0, .int .i64 0, .int .i64 0] 25)) (fun i _ => n - (intOf i).toNat)
  case atStart => exact ⟨0, by omega, rfl, hid (fun q hq => by omega), rfl⟩
  case round =>
    obtain ⟨j, hj, rfl, HZ, rfl⟩ := hrel
    by_cases hlt : j < n
    · obtain ⟨b, off, rfl, ha⟩ := HC.out j hlt
      have hk0 : (0 : Int) ≤ (j : Int) := by omega
      have hk1 : (j : Int) < (n : Int) := by omega
      have hg : Grow w (w.alloc (.cells #[.int .i64 0, .int .i64 0, .int .i64 0, .int .i64 0, .int .i64 0, .int .i64 0, .int .i64 0, .bool false, .int .i64 0, .int .i64 0, .int .i64 0] 25)) := Grow.alloc _ _
      by_cases hE : (opAt l j).id = x
      · obtain ⟨ht, hyy⟩ := HA.out j hlt hE
        subst ht
        rw [← hyy] at ha hE
        clear HA HN hyy HZ
        obtain ⟨id, proc, obj, kind, meth, arg, sec, done, res, inv, ret⟩ := y
        dsimp only at hE
        subst hE
        unfold OpAt at ha
        dsimp only at ha
        obtain ⟨c0, c1, c2, c3, c4, c5, c6, c7, c8, c9, c10⟩ := ha
        replace c0 := hg.cell c0
        replace c1 := hg.cell c1
        replace c2 := hg.cell c2
        replace c3 := hg.cell c3
        replace c4 := hg.cell c4
        replace c5 := hg.cell c5
        replace c6 := hg.cell c6
        replace c7 := hg.cell c7
        replace c8 := hg.cell c8
        replace c9 := hg.cell c9
        replace c10 := hg.cell c10
        clear hg
        go_wp2_with fail
        (try simp only [Exit.inBlock, Exit.then])
        refine bodyPost_ret (v := .tuple #[.agg #[.int .i64 id, .int .i64 proc, .int .i64 obj, .int .i64 kind, .int .i64 meth, .int .i64 arg, .int .i64 sec, .bool done, .int .i64 res, .int .i64 inv, .int .i64 ret], .bool true]) ?_ rfl ⟨rfl, ?_⟩
        · refine results_row2 (fn := Try.f13) (p := 4) (u := 5) rfl _ _ w.heap.size 25 _ (0, 0) _ rfl (heap_new w _) Try.underlying25 rfl ?_
          kernel_rfl
        · exact Grow.alloc _ _
      · have HZ2 := hid (upto_succ HZ.out hE)
        have hne : ((opAt l j).id == x) = false := by simpa using hE
        unfold OpAt at ha
        obtain ⟨c0, -⟩ := ha
        generalize (opAt l j).id = z at *
        replace c0 := hg.cell c0
        clear hE hg
        go_wp2_with fail
        go_roundw
        case rel => exact ⟨j + 1, by omega, by go_num, HZ2, by first | rfl | trivial⟩
        case measure => simp [intOf]; omega
    · obtain rfl : j = n := by omega
      obtain ⟨ht, rfl⟩ := HN.out HZ.out
      subst ht
      clear HA HN
      go_wp2_with fail
      (try simp only [Exit.inBlock, Exit.then])
      refine bodyPost_ret (v := .tuple #[.agg #[.int .i64 0, .int .i64 0, .int .i64 0, .int .i64 0, .int .i64 0, .int .i64 0, .int .i64 0, .bool false, .int .i64 0, .int .i64 0, .int .i64 0], .bool false]) ?_ rfl ⟨rfl, ?_⟩
      · refine results_row2 (fn := Try.f13) (p := 4) (u := 5) rfl _ _ w.heap.size 25 _ (0, 0) _ rfl (heap_new w _) Try.underlying25 rfl ?_
        kernel_rfl
      · exact Grow.alloc _ _
end Go.Proofs.Ytljimlaalebmaaa
