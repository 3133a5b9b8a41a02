/- The history that every config makes, or that there is none: gen's and the reference's are the same. -/
import Derived.Test.YtlhgdbangnohjaaGTail
import Derived.Test.YtlhgdbangnohjaaRTail
namespace Go.Proofs.Ytlhgdbangnohjaa
open Go.RowKit
set_option linter.unusedVariables false
set_option linter.unusedSimpArgs false
set_option maxRecDepth 100000 in
set_option maxHeartbeats 4000000 in
theorem GenHistories_walk (c : GenC) (w : World) (hf : c.Fit) :
    Calls Try.prog 4 #[.agg #[.int .u64 c.seed, .int .i64 c.procs, .int .i64 c.objects, .int .i64 c.ops, .int .i64 c.wrong, .int .i64 c.pending]] w fun e w' => e = .returned (.bool true) ∧ Below w.heap.size w w' := by
  have haw := hid (fun w => awake_c w)
  have hh1 := hid (fun w => (History_c c hf.seed w).mono (fun e w' h => HistPost.open h (by have := hist_len c; omega)))
  have hh2 := hid (fun w => (RHistory_c c hf.seed w).mono (fun e w' h => HistPost.open h (by have := hist_len c; omega)))
  have hof1 := hid (fun w => of_c c w)
  generalize histG c = H at *
  obtain ⟨l, z⟩ := H
  dsimp only at hh1 hh2
  have HC := hid (fun (va vb : Value) (w : World) (ha : Ops w va l) (hb : Ops w vb l) => ROps_c l va vb w ha hb)
  generalize l.length = n at *
  obtain ⟨seed, procs, objects, ops, wrong, pending⟩ := c
  dsimp only at *
  clear hf
  go_enter Try.func4, Try.ntmps4
  go_wp2_with fail
  refine (hof1.out _).mono ?_
  rintro e w1 ⟨rfl, b1⟩
  have g1 : Grow w w1 := Grow.trans (Grow.alloc _ _) b1
  have hb1 : w1.heap[w.heap.size]? = some (.cells #[.int .u64 seed, .int .i64 procs, .int .i64 objects, .int .i64 ops, .int .i64 wrong, .int .i64 pending] 37 (0, 0)) := b1.heap (heap_new w _)
  have HB1 := hid hb1
  clear b1 hb1
  go_wp2_with fail
  refine (hh1.out _).mono ?_
  rintro e w2 ⟨A, ka, rfl, oa, la1, ka1, b2⟩
  have hb2 := Grow.heap b2 HB1.out
  have c0 : w2.cell? ⟨w.heap.size, 0, none⟩ = some (.int .u64 seed) := by rw [heap_cell hb2]; rfl
  have c1 : w2.cell? ⟨w.heap.size, 1, none⟩ = some (.int .i64 procs) := by rw [heap_cell hb2]; rfl
  have c2 : w2.cell? ⟨w.heap.size, 2, none⟩ = some (.int .i64 objects) := by rw [heap_cell hb2]; rfl
  have c3 : w2.cell? ⟨w.heap.size, 3, none⟩ = some (.int .i64 ops) := by rw [heap_cell hb2]; rfl
  have c4 : w2.cell? ⟨w.heap.size, 4, none⟩ = some (.int .i64 wrong) := by rw [heap_cell hb2]; rfl
  have c5 : w2.cell? ⟨w.heap.size, 5, none⟩ = some (.int .i64 pending) := by rw [heap_cell hb2]; rfl
  have G2 := hid (Grow.trans g1 b2)
  have OA := hid oa
  clear b2 g1 la1 oa hb2
  go_wp2_with fail
  refine (hh2.out _).mono ?_
  rintro e w3 ⟨B, kb, rfl, ob, lb1, kb1, b3⟩
  have OA3 := hid (OA.out.grow b3)
  have OB := hid ob
  have G3 := hid (Grow.trans G2.out b3)
  clear b3 lb1 ob
  go_wp2_with fail
  refine (HC.out _ _ _ OA3.out OB.out).mono ?_
  rintro e w4 ⟨rfl, b4⟩
  have G4 := hid (Grow.trans G3.out b4)
  clear b4
  go_wp2_with fail
  refine (haw.out _).mono ?_
  rintro e w5 ⟨rfl, b5⟩
  have G5 := hid (Grow.trans G4.out b5)
  clear b5
  go_wp2_with fail
  go_ret
  exact ⟨rfl, G5.out⟩
namespace LawGenHistories
open Go.ChangeShapes Go.WideShapes Go.ChangeAt Go.RowKit
open Go.ChangeMaps (open_string shut_string)
theorem own : ownKnob Try.prog.godebug = none := by kernel_rfl
theorem laidOut : laidOutB Try.prog = true := by kernel_rfl
set_option maxRecDepth 100000 in
theorem lifted (os : Os) (started : os.Started) (H : Type) (enc : TypeId × Value → H) :
    ReturnsInHanded {} Try.checked os 4 .any (Rows.genHistoriesSpec.pre6 enc Try.prog Try.f4 Rows.genHistoriesRow.domain false) (Rows.genHistoriesSpec.post enc Try.prog Try.f4 false true false false) := by
  refine returnsInHanded_of_change_sized (C := Try.checked) own started (by kernel_rfl) Try.func4
    (ChangeSpec.witness6 (enc := enc) (C := Try.checked) false ⟨#[], #[.agg #[.int .u64 0, .int .i64 0, .int .i64 0, .int .i64 0, .int .i64 0, .int .i64 0]], []⟩ 8 (by kernel_rfl) (by kernel_rfl) (by kernel_rfl) (by kernel_rfl)) ?_
  intro W base args ds gs before hval0 hW hcnd hsz _
  have hval : ∀ (j : Nat) t v, Try.f4.params[j]? = some t → args[j]? = some v → Value.okWide Try.prog W .any base t v := hval0
  have hW' := hW
  obtain ⟨p, q, hA0, hV, rfl, hfz, hnd⟩ := hW
  have hA : DataW.TrodAll enc Try.prog W 0 (fun _ => true) true Try.f4.params.toList args.toList ds p := hA0
  rw [Try.params4] at hA hval hsz
  obtain ⟨v0, vs0, d0, ds0, p0, q0, hargs, rfl, rfl, h0, r0⟩ := trodAll_cons hA
  obtain ⟨rfl, rfl, rfl⟩ := trodAll_nil r0
  obtain rfl : args = #[v0] := by cases args; simp_all
  obtain ⟨rfl, rfl⟩ := trodVars_none hV
  have k0 := h0
  have lt0 : ∀ x ∈ p0, x.block < W.heap.size := by obtain ⟨m, hm⟩ := k0; exact DataW.trod_lt m _ _ _ hm
  obtain ⟨a0, rfl, w0⟩ := open_cfg (hval 0 37 v0 rfl rfl) h0
  clear hA0 hval0
  refine (GenHistories_walk a0 W w0).mono fun e W' ⟨he, bel⟩ => ?_
  subst he
  exact ⟨_, rfl, _, _, _, [], _, [], hW', trodAll_mk1 (shut_bool Try.underlying4 _), (trodAll_cons_mk (Below.trod laidOut (by kernel_rfl) (of_decide_eq_true (by kernel_rfl)) k0 bel lt0) trodAll_mk0), rfl, bel.frame _, fun h => by cases h⟩
theorem over : Rows.genHistoriesRow.holds Try.pinned (OpenSpec.ofChange Rows.genHistoriesSpec) :=
  OpenClaim.holds_of_wide 4 Try.f4 rfl rfl rfl rfl rfl rfl rfl ⟨rfl, rfl, rfl, rfl, rfl⟩ rfl rfl rfl rfl rfl (by kernel_rfl) Try.func4 (by kernel_rfl)
    (of_decide_eq_true (by kernel_rfl)) (by unfold Func.isWrapper; first | (rw [if_pos (by decide +kernel)]; kernel_rfl) | (rw [if_neg (by decide +kernel)]; exact ⟨rfl, rfl⟩))
    (fun os started H enc _ => lifted os started H enc)
end LawGenHistories
/-- The given statement. -/
theorem genHistories_proved : Rows.GenHistoriesSaid := LawGenHistories.over
#print axioms genHistories_proved
end Go.Proofs.Ytlhgdbangnohjaa
