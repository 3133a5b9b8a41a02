/- What is wrong with a history: where a scan ends. -/
import Derived.Test.YtljimlaalebmaaaHPlain
namespace Go.Proofs.Ytljimlaalebmaaa
open Go.RowKit
set_option linter.unusedVariables false
theorem histE_many {l : List OpR} (h : 64 < l.length) : histE l = 34 := by unfold histE; rw [if_pos h]
theorem histE_round {l : List OpR} (h : l.length ≤ 64) {j : Nat} (hj : j < l.length) (hz : ∀ k, k < j → roundE l k = 0) (hne : roundE l j ≠ 0) : histE l = roundE l j := by
  unfold histE
  rw [if_neg (by omega)]
  have := firstE_hit (roundE l) j hne hz l.length hj
  rw [this, if_pos hne]
theorem histE_beside {l : List OpR} (h : l.length ≤ 64) (hr : ∀ k, k < l.length → roundE l k = 0) {j : Nat} (hj : j < l.length) (hz : ∀ k, k < j → besideE l (opAt l k) = 0) (hne : besideE l (opAt l j) ≠ 0) : histE l = besideE l (opAt l j) := by
  unfold histE
  rw [if_neg (by omega), firstE_zero _ _ hr, if_neg (by simp)]
  exact firstE_hit (fun k => besideE l (opAt l k)) j hne hz l.length hj
theorem histE_ok {l : List OpR} (h : l.length ≤ 64) (hr : ∀ k, k < l.length → roundE l k = 0) (hz : ∀ k, k < l.length → besideE l (opAt l k) = 0) : histE l = 0 := by
  unfold histE
  rw [if_neg (by omega), firstE_zero _ _ hr, if_neg (by simp)]
  exact firstE_zero _ _ hz
theorem roundE_bad {l : List OpR} {j : Nat} (h : checkE (opAt l j) ≠ 0) : roundE l j = checkE (opAt l j) := by unfold roundE; rw [if_pos h]
theorem roundE_first {l : List OpR} (h : checkE (opAt l 0) = 0) : roundE l 0 = 0 := by unfold roundE; rw [if_neg (by simpa using h), if_neg (by omega)]
theorem roundE_twice {l : List OpR} {j : Nat} (h : checkE (opAt l (j + 1)) = 0) (h2 : (opAt l (j + 1)).id ≤ (opAt l j).id) : roundE l (j + 1) = 7 := by unfold roundE; rw [if_neg (by simpa using h), if_pos ⟨by omega, by simpa using h2⟩]
theorem roundE_next {l : List OpR} {j : Nat} (h : checkE (opAt l (j + 1)) = 0) (h2 : ¬ (opAt l (j + 1)).id ≤ (opAt l j).id) : roundE l (j + 1) = 0 := by unfold roundE; rw [if_neg (by simpa using h), if_neg (fun e => h2 (by simpa using e.2))]
theorem upto_succ {P : Nat → Prop} {j : Nat} (h : ∀ k, k < j → P k) (h2 : P j) : ∀ k, k < j + 1 → P k := fun k hk => by
  by_cases e : k = j
  · subst e; exact h2
  · exact h k (by omega)
end Go.Proofs.Ytljimlaalebmaaa
