/- The chapter's examples stand. -/
import Derived.Test.YtdeegepmampanaaOpCheck
import Derived.Test.YtdeegepmampanaaOpTimes
namespace Go.Proofs.Ytdeegepmampanaa
open Go.RowKit
set_option linter.unusedVariables false
set_option linter.unusedSimpArgs false
set_option maxRecDepth 100000 in
set_option maxHeartbeats 1000000 in
theorem awake_c (w : World) : Calls Try.prog 11 #[] w fun e w' => e = .returned (.bool true) ∧ Grow w w' := by
  have c1 : Hid (∀ w, Calls Try.prog 12 #[.agg #[.int .i64 1, .int .i64 0, .int .i64 0, .int .i64 3, .int .i64 7, .int .i64 0, .int .i64 0, .bool true, .int .i64 (-1), .int .i64 0, .int .i64 5]] w fun e w' => e = .returned (.int .i64 0) ∧ Grow w w') :=
    fun w => Check_c ⟨1, 0, 0, 3, 7, 0, 0, true, -1, 0, 5⟩ w (by decide) (by decide)
  have c2 : Hid (∀ w, Calls Try.prog 12 #[.agg #[.int .i64 1, .int .i64 0, .int .i64 0, .int .i64 4, .int .i64 7, .int .i64 0, .int .i64 0, .bool true, .int .i64 (-1), .int .i64 0, .int .i64 5]] w fun e w' => e = .returned (.int .i64 33) ∧ Grow w w') :=
    fun w => Check_c ⟨1, 0, 0, 4, 7, 0, 0, true, -1, 0, 5⟩ w (by decide) (by decide)
  have c3 : Hid (∀ w, Calls Try.prog 16 #[.agg #[.int .i64 1, .int .i64 0, .int .i64 0, .int .i64 3, .int .i64 7, .int .i64 0, .int .i64 0, .bool true, .int .i64 (-1), .int .i64 0, .int .i64 5], .agg #[.int .i64 2, .int .i64 0, .int .i64 0, .int .i64 3, .int .i64 7, .int .i64 0, .int .i64 0, .bool true, .int .i64 (-1), .int .i64 5, .int .i64 9]] w fun e w' => e = .returned (.bool true) ∧ Grow w w') :=
    fun w => Overlap_c ⟨1, 0, 0, 3, 7, 0, 0, true, -1, 0, 5⟩ ⟨2, 0, 0, 3, 7, 0, 0, true, -1, 5, 9⟩ w
  have c4 : Hid (∀ w, Calls Try.prog 14 #[.agg #[.int .i64 1, .int .i64 0, .int .i64 0, .int .i64 3, .int .i64 7, .int .i64 0, .int .i64 0, .bool true, .int .i64 (-1), .int .i64 0, .int .i64 5], .agg #[.int .i64 2, .int .i64 0, .int .i64 0, .int .i64 3, .int .i64 7, .int .i64 0, .int .i64 0, .bool true, .int .i64 (-1), .int .i64 5, .int .i64 9]] w fun e w' => e = .returned (.bool false) ∧ Grow w w') :=
    fun w => Before_c ⟨1, 0, 0, 3, 7, 0, 0, true, -1, 0, 5⟩ ⟨2, 0, 0, 3, 7, 0, 0, true, -1, 5, 9⟩ w
  go_enter Try.func11, Try.ntmps11
  go_wp2_with fail
  refine (c1.out _).mono ?_
  rintro e w1 ⟨rfl, b1⟩
  have k1 := b1.cells
  have z1_0 : w.heap.size < w1.heap.size := (by have := b1.size; simp at this; omega)
  have z1_1 : w.heap.size + 1 < w1.heap.size := (by have := b1.size; simp at this; omega)
  have z1_2 : w.heap.size + 1 + 1 < w1.heap.size := (by have := b1.size; simp at this; omega)
  go_wp2_with fail
  refine (c2.out _).mono ?_
  rintro e w2 ⟨rfl, b2⟩
  have k2 := b2.cells
  have z2_0 : w.heap.size < w2.heap.size := (by have := b2.size; omega)
  have z2_1 : w.heap.size + 1 < w2.heap.size := (by have := b2.size; omega)
  have z2_2 : w.heap.size + 1 + 1 < w2.heap.size := (by have := b2.size; omega)
  go_wp2_with fail
  refine (c3.out _).mono ?_
  rintro e w3 ⟨rfl, b3⟩
  have k3 := b3.cells
  have z3_0 : w.heap.size < w3.heap.size := (by have := b3.size; omega)
  have z3_1 : w.heap.size + 1 < w3.heap.size := (by have := b3.size; omega)
  have z3_2 : w.heap.size + 1 + 1 < w3.heap.size := (by have := b3.size; omega)
  go_wp2_with fail
  refine (c4.out _).mono ?_
  rintro e w4 ⟨rfl, b4⟩
  go_wp2_with fail
  go_ret
  trace_state
  exact ⟨rfl, Grow.trans (Grow.trans (Grow.trans (Grow.alloc _ _) (Grow.alloc _ _)) (Grow.alloc _ _)) (Grow.trans b1 (Grow.trans b2 (Grow.trans b3 b4)))⟩
end Go.Proofs.Ytdeegepmampanaa
