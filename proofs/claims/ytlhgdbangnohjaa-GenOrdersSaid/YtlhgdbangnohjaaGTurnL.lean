/- The plain turn is what gen's turn tells. -/
import Derived.Test.YtlhgdbangnohjaaGTurn
import Derived.Test.YtlhgdbangnohjaaGStepOk
namespace Go.Proofs.Ytlhgdbangnohjaa
open Go.RowKit
set_option linter.unusedVariables false
set_option linter.unusedSimpArgs false
theorem turnL_V {G : GenW} {o : OpR} {n : Nat} (hn : o.obj = (n : Int)) (hkd : o.kind = (n : Int) % 6 + 1) : turnL G o = if (turnV G o n).2 = true then some (turnV G o n).1 else none := by
  unfold turnL turnV heldV
  rw [hn, Int.toNat_natCast, ← hkd]
  generalize G.states.getD n [] = xs
  by_cases h6 : o.kind = 6
  · rw [if_pos h6]
    cases xs with
    | nil => simp [h6]
    | cons p l =>
      have e : (p :: l).getD 0 0 = p := rfl
      have e2 : 0 < (p :: l).length := by simp
      simp only [h6, e, e2, and_self, if_true]
      generalize G.gone.getD p.toNat false = b
      cases b <;> simp
  · rw [if_neg h6]
    simp [h6]
/-- Who has a mutex is one of the processes. -/
theorem held_lt {c : GenC} {G : GenW} {k : Nat} (h : GOk c G k) {n : Nat} (hn : n < c.objects.toNat) (hh : (heldV G n).2 = true) : ∃ p : Nat, (heldV G n).1 = (p : Int) ∧ p < c.procs.toNat := by
  unfold heldV at hh ⊢
  by_cases h6 : (n : Int) % 6 + 1 = 6 ∧ 0 < (G.states.getD n []).length
  · rw [if_pos h6]
    dsimp only
    rcases (h.st n hn).lock h6.1 with e | ⟨p, e, p1, p2⟩
    · have := h6.2
      rw [e] at this
      simp at this
    · rw [e]
      exact ⟨p.toNat, by simp; omega, by omega⟩
  · rw [if_neg h6] at hh
    cases hh
end Go.Proofs.Ytlhgdbangnohjaa
