/- What gen's small functions compute: kind, methods, wrong. -/
import Derived.Test.YtlhgdbangnohjaaGAt2
import Derived.Test.YtlhgdbangnohjaaMAll
import Derived.Deep.QuietTactic
namespace Go.Proofs.Ytlhgdbangnohjaa
open Go.RowKit
set_option linter.unusedVariables false
set_option linter.unusedSimpArgs false
theorem kind_c (o : Int) (h0 : 0 ≤ o) (h1 : o ≤ 15) (w : World) : Calls Try.prog 27 #[.int .i64 o] w fun e w' => e = .returned (.int .i64 (o % 6 + 1)) ∧ w = w' := by
  have ht : o.tmod 6 = o % 6 := Int.tmod_eq_emod_of_nonneg h0
  have h2 : 0 ≤ o % 6 := Int.emod_nonneg _ (by omega)
  have h3 : o % 6 < 6 := Int.emod_lt_of_pos _ (by omega)
  have hw : IntKind.i64.wrap (o.tmod 6) = o % 6 := by rw [ht, IntKind.wrap_i64]; omega
  generalize o % 6 = r at *
  have hw2 : IntKind.i64.wrap (r + 1) = r + 1 := by rw [IntKind.wrap_i64]; omega
  go_enter Try.func27, Try.ntmps27
  go_wp2_with fail
  go_ret
  exact ⟨by first | rfl | simp [hw, ht, hw2], rfl⟩
/-- A row just made of some numbers. -/
theorem ints_row (w : World) (xs : List Int) (hl : xs.length ≤ 20000000000000) : Ints (w.alloc (.cells (i64s xs).toArray 3)) (.slice (some ⟨w.heap.size, 0, none⟩) xs.length xs.length) xs := Ints.of_block (heap_new w _) hl
set_option maxRecDepth 100000 in
theorem methods_c (k : Int) (h0 : 1 ≤ k) (h1 : k ≤ 6) (w : World) : Calls Try.prog 51 #[.int .i64 k] w fun e w' => e = .returned (.slice (some ⟨w.heap.size, 0, none⟩) (methodsL k).length (methodsL k).length) ∧ w' = w.alloc (.cells (i64s (methodsL k)).toArray 3) := by
  have : k = 1 ∨ k = 2 ∨ k = 3 ∨ k = 4 ∨ k = 5 ∨ k = 6 := by omega
  rcases this with rfl | rfl | rfl | rfl | rfl | rfl
  all_goals
    go_enter Try.func51, Try.ntmps51
    go_wp2_with fail
    go_ret
    exact ⟨rfl, rfl⟩
set_option maxRecDepth 100000 in
set_option maxHeartbeats 2000000 in
theorem wrong_c (o : OpR) (h0 : -1000000000000 ≤ o.res) (h1 : o.res ≤ 1000000000000) (w : World) : Calls Try.prog 42 #[.agg #[.int .i64 o.id, .int .i64 o.proc, .int .i64 o.obj, .int .i64 o.kind, .int .i64 o.meth, .int .i64 o.arg, .int .i64 o.sec, .bool o.done, .int .i64 o.res, .int .i64 o.inv, .int .i64 o.ret]] w fun e w' => e = .returned (.int .i64 (wrongL o)) ∧ Grow w w' := by
  obtain ⟨id, proc, obj, kind, meth, arg, sec, done, res, inv, ret⟩ := o
  dsimp only at h0 h1
  unfold wrongL
  dsimp only
  have hw1 : IntKind.i64.wrap (1 - res) = 1 - res := by rw [IntKind.wrap_i64]; omega
  have hw2 : IntKind.i64.wrap (res + 1) = res + 1 := by rw [IntKind.wrap_i64]; omega
  by_cases hA : meth = 3 ∨ meth = 10 ∨ meth = 11 ∨ meth = 12
  · rw [if_pos hA]
    rcases hA with rfl | rfl | rfl | rfl
    all_goals
      go_enter Try.func42, Try.ntmps42
      go_wp2_with fail
      go_ret
      exact ⟨rfl, Grow.alloc _ _⟩
  · rw [if_neg hA]
    by_cases hB : meth = 1 ∨ meth = 7 ∨ meth = 9
    · rw [if_pos hB]
      rcases hB with rfl | rfl | rfl
      all_goals
        go_enter Try.func42, Try.ntmps42
        go_wp2_with fail
        go_ret
        exact ⟨rfl, Grow.alloc _ _⟩
    · rw [if_neg hB]
      have e1 : (meth == 3) = false := by simp; omega
      have e2 : (meth == 10) = false := by simp; omega
      have e3 : (meth == 11) = false := by simp; omega
      have e4 : (meth == 12) = false := by simp; omega
      have e5 : (meth == 1) = false := by simp; omega
      have e6 : (meth == 7) = false := by simp; omega
      have e7 : (meth == 9) = false := by simp; omega
      clear hA hB
      go_enter Try.func42, Try.ntmps42
      go_wp2_with fail
      go_ret
      exact ⟨rfl, Grow.alloc _ _⟩
end Go.Proofs.Ytlhgdbangnohjaa
