/- What awake tells (layer 12's laws). -/
import Derived.Test.YtljimlaalebmaaaHApply
import Derived.Deep.Cut
namespace Go.Proofs.Ytljimlaalebmaaa
open Go.RowKit
set_option linter.unusedVariables false
set_option linter.unusedSimpArgs false
def awA : OpR := ⟨1, 0, 0, 6, 13, 0, 0, true, 0, 1, 5⟩
def awB : OpR := ⟨2, 0, 0, 6, 14, 0, 0, true, 0, 5, 9⟩
def awC : OpR := ⟨2, 0, 0, 6, 14, 0, 0, true, 0, 6, 9⟩
theorem aw1 : applyL [awA] 1 awB = ([], opZ, opZ, 32) := by kernel_rfl
theorem aw2 : applyL [awA] 1 awC = ([awA, awC], opZ, awC, 0) := by kernel_rfl
theorem rises_one (o : OpR) : Rises [o] := by
  intro i j h1 h2
  simp at h2
  omega
theorem ops_one {w : World} {g : Nat} {o : OpR} (h : OpBox w g o) : Ops w (.slice (some ⟨g, 0, none⟩) 1 1) [o] :=
  ⟨_, 1, rfl, by simp, fun _ => ⟨g, 0, rfl, fun i hi => by
    obtain rfl : i = 0 := by simpa using hi
    simpa using h.at⟩⟩
theorem fit_one {o : OpR} (h : I64 o.res) : FitL [o] := by
  intro k hk
  obtain rfl : k = 0 := by simpa using hk
  exact h
set_option maxRecDepth 100000 in
set_option maxHeartbeats 4000000 in
theorem awake_c (w : World) : Calls Try.prog 9 #[] w fun e w' => e = .returned (.bool true) ∧ Grow w w' := by
  have H1 := hid (fun (g : Nat) (w : World) (h : OpBox w g awA) => Apply_c 1 awB [awA] _ w (ops_one h) (rises_one _) (fit_one (by unfold I64 awA; decide)) (by unfold I64; decide) (by decide))
  have H2 := hid (fun (g : Nat) (w : World) (h : OpBox w g awA) => Apply_c 1 awC [awA] _ w (ops_one h) (rises_one _) (fit_one (by unfold I64 awA; decide)) (by unfold I64; decide) (by decide))
  rw [aw1] at H1
  rw [aw2] at H2
  unfold EdPost opV awB opZ at H1
  unfold EdPost opV awC opZ at H2
  dsimp only at H1 H2
  go_enter Try.func9, Try.ntmps9
  go_wp2_with fail
  refine (H1.out _ _ (heap_newZ _ _ (by simp))).mono ?_
  rintro e w1 ⟨v1, rfl, -, b1⟩
  have A1 : OpBox w1 w.heap.size awA := b1.heap (heap_alloc_keep (heap_alloc_keep (heap_newZ _ _ rfl) _) _)
  have C1 : OpBox w1 (w.heap.size + 1) awB := b1.heap (heap_alloc_keep (heap_newZ _ _ (by simp)) _)
  have G1 := hid (Grow.trans (Grow.trans (Grow.trans (Grow.alloc _ _) (Grow.alloc _ _)) (Grow.alloc _ _)) b1)
  have z1 : w.heap.size + 1 < w1.heap.size := C1.lt
  clear b1
  have gW := Grow.trans (Grow.alloc w1 (.cells #[.int .i64 0, .int .i64 0, .int .i64 0, .int .i64 0, .int .i64 0, .int .i64 0, .int .i64 0, .bool false, .int .i64 0, .int .i64 0, .int .i64 0] 25)) (Grow.alloc _ (.cells #[.int .i64 0, .int .i64 0, .int .i64 0, .int .i64 0, .int .i64 0, .int .i64 0, .int .i64 0, .bool false, .int .i64 0, .int .i64 0, .int .i64 0] 25))
  have A2 := A1.grow gW
  have C2 := C1.grow gW
  have GW := hid (Grow.trans G1.out gW)
  clear gW A1 C1
  go_upto_region 4 with fail
  generalize (w1.alloc (.cells #[.int .i64 0, .int .i64 0, .int .i64 0, .int .i64 0, .int .i64 0, .int .i64 0, .int .i64 0, .bool false, .int .i64 0, .int .i64 0, .int .i64 0] 25)).alloc (.cells #[.int .i64 0, .int .i64 0, .int .i64 0, .int .i64 0, .int .i64 0, .int .i64 0, .int .i64 0, .bool false, .int .i64 0, .int .i64 0, .int .i64 0] 25) = W at *
  have hg1 := GW.out.size
  obtain ⟨f0, f1, f2, f3, f4, f5, f6, f7, f8, f9, f10⟩ := C2.open
  have HC2 := hid C2
  have HA2 := hid A2
  have q2 := C2.at
  unfold OpAt awB at q2
  dsimp only at q2
  simp only [Nat.zero_add] at q2
  obtain ⟨e0, e1, e2, e3, e4, e5, e6, e7, e8, e9, e10⟩ := q2
  clear A2 C2
  go_upto_region 5 with fail
  have G3 := hid (Grow.setD GW.out (w.heap.size + 1) 9 (by omega) (.int .i64 6))
  have A3 : OpBox (W.setCell ⟨w.heap.size + 1, 9, none⟩ (.int .i64 6)) w.heap.size awA := heap_keep HA2.out ⟨w.heap.size + 1, 9, none⟩ _ (by show w.heap.size ≠ w.heap.size + 1; omega)
  have C3 : OpBox (W.setCell ⟨w.heap.size + 1, 9, none⟩ (.int .i64 6)) (w.heap.size + 1) awC := heap_setV HC2.out 9 _ _ rfl
  clear e0 e1 e2 e3 e4 e5 e6 e7 e8 e9 e10 f0 f1 f2 f3 f4 f5 f6 f7 f8 f9 f10 HC2 HA2 GW
  generalize W.setCell ⟨w.heap.size + 1, 9, none⟩ (.int .i64 6) = W3 at *
  have HA3 := hid A3
  have HC3 := hid C3
  have q1 := A3.at
  have q2 := C3.at
  unfold OpAt awA at q1
  unfold OpAt awC at q2
  dsimp only at q1 q2
  simp only [Nat.zero_add] at q1 q2
  obtain ⟨d0, d1, d2, d3, d4, d5, d6, d7, d8, d9, d10⟩ := q1
  obtain ⟨e0, e1, e2, e3, e4, e5, e6, e7, e8, e9, e10⟩ := q2
  have k3 := C3.lt
  clear A3 C3
  go_wp2_with fail
  refine (H2.out _ _ (heap_newZ _ _ (by simp))).mono ?_
  rintro e w4 ⟨v4, rfl, o4, b4⟩
  obtain ⟨G4, cp, rfl⟩ := own_some o4 (by decide)
  have HE := hid (Grow.trans (Grow.trans G3.out (Grow.alloc _ _)) b4)
  clear b4 o4 d0 d1 d2 d3 d4 d5 d6 d7 d8 d9 d10 e0 e1 e2 e3 e4 e5 e6 e7 e8 e9 e10
  go_wp2_with fail
  go_ret
  exact ⟨rfl, Grow.trans HE.out (Grow.trans (Grow.alloc _ _) (Grow.alloc _ _))⟩
end Go.Proofs.Ytljimlaalebmaaa
