/- The examples of the layer 'model'. -/
import Derived.Test.YtookcollmijjkaaMStep
namespace Go.Proofs.Ytookcollmijjkaa
open Go.RowKit
set_option linter.unusedVariables false
set_option linter.unusedSimpArgs false
def opE1 : OpR := ⟨0, 0, 0, 3, 7, 0, 0, false, 0, 0, 0⟩
def opE2 : OpR := ⟨0, 3, 0, 6, 13, 0, 0, false, 0, 0, 0⟩
def opE3 : OpR := ⟨0, 4, 0, 6, 14, 0, 0, false, 0, 0, 0⟩
theorem ex1 : doL [1, 2] opE1 = ([2], 1, true) := by decide
theorem ex2 : stepL [3] opE2 = ([], false) := by decide
theorem ex3 : stepL [3] opE3 = ([], false) := by decide
set_option maxRecDepth 100000 in
set_option maxHeartbeats 4000000 in
theorem awake_c (w : World) : Calls Try.prog 9 #[] w fun e w' => e = .returned (.bool true) ∧ Grow w w' := by
  have h1 := fun (v : Value) (w : World) (h : Ints w v [1, 2]) => Do_c [1, 2] opE1 v w h (by simp) (by simp [opE1])
  rw [ex1] at h1
  have h2 := fun (v : Value) (w : World) (h : Ints w v [3]) => Step_c [3] opE2 v w h (by simp) (by simp [opE2])
  rw [ex2] at h2
  have h3 := fun (v : Value) (w : World) (h : Ints w v [3]) => Step_c [3] opE3 v w h (by simp) (by simp [opE3])
  rw [ex3] at h3
  have H1 := hid h1
  have H2 := hid h2
  have H3 := hid h3
  have HI := hid (fun (a b : Value) (w : World) h1 h2 => RInts_c [2] a b w h1 h2)
  clear h1 h2 h3
  go_enter Try.func9, Try.ntmps9
  go_wp2_with fail
  refine (H1.out _ _ (Ints.of_block (xs := [1, 2]) (heap_new w _) (by simp))).mono ?_
  rintro e w1 ⟨v1, rfl, i1, b1⟩
  dsimp only at i1
  have g1 : Grow w w1 := Grow.trans (Grow.alloc _ _) b1
  have J1 := hid i1
  clear b1 i1
  go_wp2_with fail
  refine (H2.out _ _ (Ints.new rfl)).mono ?_
  rintro e w2 ⟨v2, rfl, i2, b2⟩
  have g2 : Grow w1 w2 := Grow.trans (Grow.alloc _ _) b2
  clear b2 i2
  go_wp2_with fail
  refine (H3.out _ _ (Ints.new rfl)).mono ?_
  rintro e w3 ⟨v3, rfl, i3, b3⟩
  have g3 : Grow w2 w3 := Grow.trans (Grow.alloc _ _) b3
  clear b3 i3
  go_wp2_with fail
  refine (HI.out _ _ _ (J1.out.grow (Grow.trans g2 (Grow.trans g3 (Grow.alloc _ _)))) (Ints.new rfl)).mono ?_
  rintro e w4 ⟨rfl, b4⟩
  have g4 : Grow w3 w4 := Grow.trans (Grow.alloc _ _) b4
  clear b4
  go_wp2_with fail
  go_ret
  exact ⟨rfl, Grow.trans g1 (Grow.trans g2 (Grow.trans g3 g4))⟩
end Go.Proofs.Ytookcollmijjkaa
