/- Behind an edit that is let a history may be; one that is not tells nothing. -/
import Derived.Test.YtljimlaalebmaaaHSetCut
import Derived.Test.YtljimlaalebmaaaHPlace
namespace Go.Proofs.Ytljimlaalebmaaa
open Go.RowKit
set_option linter.unusedVariables false
theorem applyL_bad {l : List OpR} {k : Int} {e : OpR} (h : (applyL l k e).2.2.2 ≠ 0) : (applyL l k e).1 = [] ∧ (applyL l k e).2.1 = opZ ∧ (applyL l k e).2.2.1 = opZ := by
  unfold applyL addL at h ⊢
  repeat' split
  all_goals first
    | exact ⟨rfl, rfl, rfl⟩
    | (exfalso; simp_all)
theorem addE_zero {l : List OpR} {o : OpR} {there : Bool} (h : addE l o there = 0) : checkE o = 0 ∧ there = false ∧ besideE l o = 0 ∧ l.length < 64 := by
  unfold addE at h
  by_cases h1 : checkE o = 0
  · rw [if_neg (by simpa using h1)] at h
    cases there
    · rw [if_neg (by decide)] at h
      by_cases h2 : besideE l o = 0
      · rw [if_neg (by simpa using h2)] at h
        by_cases h3 : 64 ≤ l.length
        · rw [if_pos h3] at h; omega
        · exact ⟨h1, rfl, h2, by omega⟩
      · rw [if_pos h2] at h; exact absurd h h2
    · rw [if_pos rfl] at h; omega
  · rw [if_pos h1] at h; exact absurd h h1
theorem setE_zero {l : List OpR} {c : OpR × Int} (h : setE l c = 0) : c.2 = 0 ∧ checkE c.1 = 0 ∧ besideE l c.1 = 0 := by
  unfold setE at h
  by_cases h1 : c.2 = 0
  · rw [if_neg (by simpa using h1)] at h
    by_cases h2 : checkE c.1 = 0
    · rw [if_neg (by simpa using h2)] at h
      exact ⟨h1, h2, h⟩
    · rw [if_pos h2] at h; exact absurd h h2
  · rw [if_pos h1] at h; exact absurd h h1
theorem applyL_hist {l : List OpR} (hl : HistM l) {k : Int} {e : OpR} (h : (applyL l k e).2.2.2 = 0) : HistM (applyL l k e).1 := by
  unfold applyL at h ⊢
  by_cases h1 : k < 1 ∨ 6 < k
  · rw [if_pos h1] at h; cases h
  rw [if_neg h1] at h ⊢
  by_cases h2 : k = 1
  · rw [if_pos h2] at h ⊢
    unfold addL at h ⊢
    by_cases h3 : addE l e (thereB l e.id) = 0
    · rw [if_neg (by simpa using h3)]
      obtain ⟨a, b, c, d⟩ := addE_zero h3
      exact hist_ins hl a b c d
    · rw [if_pos h3] at h; exact absurd h h3
  rw [if_neg h2] at h ⊢
  by_cases h3 : thereB l e.id = false
  · rw [if_pos h3] at h; cases h
  rw [if_neg h3] at h ⊢
  have ht : thereB l e.id = true := by simpa using h3
  have hp := placeL_there ht (pairwise_rises hl.rise)
  by_cases h4 : k = 2
  · rw [if_pos h4]
    exact hist_cut hl hp.1
  rw [if_neg h4] at h ⊢
  by_cases h5 : setE l (changedL (opAt l (placeL l e.id)) k e) = 0
  · rw [if_neg (by simpa using h5)]
    obtain ⟨-, a, b⟩ := setE_zero h5
    exact hist_set hl hp.1 ((changedL_id _ _ _).trans (congrArg OpR.id (opAt_eq hp.1))) a b
  · rw [if_pos h5] at h; exact absurd h h5
end Go.Proofs.Ytljimlaalebmaaa
