/- Two operations that may stand beside one another: what a history asks, pair by pair. -/
import Derived.Test.YtljimlaalebmaaaHMembers
namespace Go.Proofs.Ytljimlaalebmaaa
open Go.RowKit
set_option linter.unusedVariables false
/-- Nothing is wrong with two operations beside one another. -/
def Apart (o p : OpR) : Prop := kindB o p = false ∧ busyB o p = false
theorem kindB_symm (o p : OpR) : kindB o p = kindB p o := by
  unfold kindB
  rw [Bool.eq_iff_iff]
  simp only [Bool.and_eq_true, bne_iff_ne, beq_iff_eq, ne_eq]
  constructor
  · rintro ⟨a, b, c⟩; exact ⟨fun e => a e.symm, b.symm, fun e => c e.symm⟩
  · rintro ⟨a, b, c⟩; exact ⟨fun e => a e.symm, b.symm, fun e => c e.symm⟩
theorem busyB_symm (o p : OpR) : busyB o p = busyB p o := by
  unfold busyB
  rw [Bool.eq_iff_iff]
  simp only [Bool.and_eq_true, bne_iff_ne, beq_iff_eq, ne_eq]
  constructor
  · rintro ⟨a, b, c, d⟩; exact ⟨fun e => a e.symm, b.symm, d, c⟩
  · rintro ⟨a, b, c, d⟩; exact ⟨fun e => a e.symm, b.symm, d, c⟩
theorem Apart.symm {o p : OpR} (h : Apart o p) : Apart p o := ⟨(kindB_symm p o).trans h.1, (busyB_symm p o).trans h.2⟩
theorem Apart.same {o p : OpR} (h : p.id = o.id) : Apart o p := ⟨(befB_irrefl_busy o p h).2, (befB_irrefl_busy o p h).1⟩
theorem besideE_zero {l : List OpR} {o : OpR} : besideE l o = 0 ↔ ∀ p ∈ l, Apart o p := by
  unfold besideE
  constructor
  · intro h p hp
    by_cases h1 : l.any (kindB o) = true
    · rw [if_pos h1] at h; omega
    · rw [if_neg h1] at h
      by_cases h2 : l.any (busyB o) = true
      · rw [if_pos h2] at h; omega
      · rw [Bool.not_eq_true, List.any_eq_false] at h1 h2
        exact ⟨by simpa using h1 p hp, by simpa using h2 p hp⟩
  · intro h
    have h1 : l.any (kindB o) = false := by rw [List.any_eq_false]; intro p hp; rw [(h p hp).1]; decide
    have h2 : l.any (busyB o) = false := by rw [List.any_eq_false]; intro p hp; rw [(h p hp).2]; decide
    rw [if_neg (by rw [h1]; decide), if_neg (by rw [h2]; decide)]
theorem besideE_cases (l : List OpR) (o : OpR) : besideE l o = 0 ∨ besideE l o = 32 ∨ besideE l o = 33 := by
  unfold besideE
  split
  · exact .inr (.inr rfl)
  · split
    · exact .inr (.inl rfl)
    · exact .inl rfl
end Go.Proofs.Ytljimlaalebmaaa
