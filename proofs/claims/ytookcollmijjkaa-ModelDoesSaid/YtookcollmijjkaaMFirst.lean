/- What an object's first state is: the model's and the reference's. -/
import Derived.Test.YtookcollmijjkaaMNumber
namespace Go.Proofs.Ytookcollmijjkaa
open Go.RowKit
set_option linter.unusedVariables false
set_option linter.unusedSimpArgs false
set_option maxRecDepth 100000 in
theorem FirstRow1 (w : World) : Calls Try.prog 14 #[.int .i64 1] w fun e w' => ∃ g, e = .returned (.slice (some ⟨g, 0, none⟩) 1 1) ∧ w'.heap[g]? = some (.cells #[.int .i64 0] 3 (0, 0)) ∧ Grow w w' := by
  go_enter Try.func14, Try.ntmps14
  go_wp2_with fail
  go_ret
  exact ⟨_, rfl, heap_new w _, Grow.alloc _ _⟩
set_option maxRecDepth 100000 in
theorem FirstRow2 (w : World) : Calls Try.prog 14 #[.int .i64 2] w fun e w' => ∃ g, e = .returned (.slice (some ⟨g, 0, none⟩) 1 1) ∧ w'.heap[g]? = some (.cells #[.int .i64 0] 3 (0, 0)) ∧ Grow w w' := by
  go_enter Try.func14, Try.ntmps14
  go_wp2_with fail
  go_ret
  exact ⟨_, rfl, heap_new w _, Grow.alloc _ _⟩
set_option maxRecDepth 100000 in
theorem FirstNil (k : Int) (w : World) (h1 : ¬ k = 1) (h2 : ¬ k = 2) : Calls Try.prog 14 #[.int .i64 k] w fun e w' => e = .returned (.slice none 0 0) ∧ Grow w w' := by
  have q1 : (k == 1) = false := by simpa using h1
  have q2 : (k == 2) = false := by simpa using h2
  clear h1 h2
  go_enter Try.func14, Try.ntmps14
  go_wp2_with fail
  go_ret
  exact ⟨rfl, Grow.refl _⟩
set_option maxRecDepth 100000 in
theorem RFirstRow1 (w : World) : Calls Try.prog 15 #[.int .i64 1] w fun e w' => ∃ g, e = .returned (.slice (some ⟨g, 0, none⟩) 1 1) ∧ w'.heap[g]? = some (.cells #[.int .i64 0] 3 (0, 0)) ∧ Grow w w' := by
  go_enter Try.func15, Try.ntmps15
  go_wp2_with fail
  go_ret
  exact ⟨_, rfl, heap_new w _, Grow.alloc _ _⟩
set_option maxRecDepth 100000 in
theorem RFirstRow2 (w : World) : Calls Try.prog 15 #[.int .i64 2] w fun e w' => ∃ g, e = .returned (.slice (some ⟨g, 0, none⟩) 1 1) ∧ w'.heap[g]? = some (.cells #[.int .i64 0] 3 (0, 0)) ∧ Grow w w' := by
  go_enter Try.func15, Try.ntmps15
  go_wp2_with fail
  go_ret
  exact ⟨_, rfl, heap_new w _, Grow.alloc _ _⟩
set_option maxRecDepth 100000 in
theorem RFirstNil (k : Int) (w : World) (h1 : ¬ k = 1) (h2 : ¬ k = 2) : Calls Try.prog 15 #[.int .i64 k] w fun e w' => e = .returned (.slice none 0 0) ∧ Grow w w' := by
  have q1 : (k == 1) = false := by simpa using h1
  have q2 : (k == 2) = false := by simpa using h2
  clear h1 h2
  go_enter Try.func15, Try.ntmps15
  go_wp2_with fail
  go_ret
  exact ⟨rfl, Grow.refl _⟩
end Go.Proofs.Ytookcollmijjkaa
