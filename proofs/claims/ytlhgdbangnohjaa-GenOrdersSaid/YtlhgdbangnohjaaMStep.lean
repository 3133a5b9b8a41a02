/- What model.Do and model.Step compute, put together. -/
import Derived.Test.YtlhgdbangnohjaaMDo2
namespace Go.Proofs.Ytlhgdbangnohjaa
open Go.RowKit
set_option linter.unusedVariables false
set_option linter.unusedSimpArgs false
/-- What model.set is asked for. -/
def SetAsks (xs : List Int) (o : OpR) : Prop := ∀ (v : Value) (w : World) (base : Nat), base ≤ w.heap.size → w.ownsRow base 3 1 v xs.length (i64s xs) → Calls Try.prog 55 #[v, .agg #[.int .i64 o.id, .int .i64 o.proc, .int .i64 o.obj, .int .i64 o.kind, .int .i64 o.meth, .int .i64 o.arg, .int .i64 o.sec, .bool o.done, .int .i64 o.res, .int .i64 o.inv, .int .i64 o.ret]] w (DoPost base (setL xs o) w)
theorem Do_c (xs : List Int) (o : OpR) (v : Value) (w : World) (hv : Ints w v xs) (hn : xs.length < 20000000000000) (hs : o.kind = 5 → SetAsks xs o) : Calls Try.prog 41 #[v, .agg #[.int .i64 o.id, .int .i64 o.proc, .int .i64 o.obj, .int .i64 o.kind, .int .i64 o.meth, .int .i64 o.arg, .int .i64 o.sec, .bool o.done, .int .i64 o.res, .int .i64 o.inv, .int .i64 o.ret]] w (DoPost w.heap.size (doL xs o) w) := by
  unfold doL
  by_cases h1 : o.kind = 1 ∨ o.kind = 2
  · rw [if_pos h1]
    by_cases hx : xs.length = 1
    · rw [if_neg (by omega)]
      obtain ⟨x, rfl⟩ : ∃ x, xs = [x] := List.length_eq_one_iff.1 hx
      exact DoNumber_c _ o v w hv x rfl h1
    · rw [if_pos hx]
      exact DoNumberBad_c xs o v w hv hx h1
  · rw [if_neg h1]
    by_cases h2 : o.kind = 3 ∨ o.kind = 4
    · rw [if_pos h2]
      exact DoList_c xs o v w hv h2 hn
    · rw [if_neg h2]
      by_cases h3 : o.kind = 5
      · rw [if_pos h3]
        exact DoSet_c xs o v w hv h3 (hid (hs h3))
      · rw [if_neg h3]
        by_cases h4 : o.kind = 6
        · rw [if_pos h4]
          exact DoMutex_c xs o v w hv h4
        · rw [if_neg h4]
          exact DoNone_c xs o v w hv (by omega)
/-- The state behind, and whether it could be done. -/
def StepPost (r : List Int × Bool) (w : World) (e : Ending) (w' : World) : Prop := ∃ v, e = .returned (.tuple #[v, .bool r.2]) ∧ Ints w' v r.1 ∧ Grow w w'
end Go.Proofs.Ytlhgdbangnohjaa
