/- What is in a history once one is taken out, set, put in. -/
import Derived.Test.YtljimlaalebmaaaHSorted
namespace Go.Proofs.Ytljimlaalebmaaa
open Go.RowKit
set_option linter.unusedVariables false
theorem split_here {l : List OpR} {i : Nat} (hi : i < l.length) : l = l.take i ++ l[i] :: l.drop (i + 1) := by
  rw [List.getElem_cons_drop]; exact (List.take_append_drop i l).symm
theorem mem_cut {l : List OpR} (hs : l.Pairwise (fun a b => a.id < b.id)) {i : Nat} (hi : i < l.length) {p : OpR} : p ∈ l.take i ++ l.drop (i + 1) ↔ p ∈ l ∧ p.id ≠ (l[i]).id := by
  have hsp := split_here hi
  have hp := hs
  rw [hsp, List.pairwise_append, List.pairwise_cons] at hp
  obtain ⟨-, ⟨h1, -⟩, h2⟩ := hp
  have hm : p ∈ l ↔ p ∈ l.take i ∨ p = l[i] ∨ p ∈ l.drop (i + 1) := by
    conv => lhs; rw [hsp]
    simp only [List.mem_append, List.mem_cons]
  rw [hm, List.mem_append]
  constructor
  · rintro (h | h)
    · refine ⟨.inl h, ?_⟩
      have := h2 p h (l[i]) List.mem_cons_self
      omega
    · refine ⟨.inr (.inr h), ?_⟩
      have := h1 p h
      omega
  · rintro ⟨h | h | h, hne⟩
    · exact .inl h
    · subst h; exact absurd rfl hne
    · exact .inr h
theorem mem_set {l : List OpR} (hs : l.Pairwise (fun a b => a.id < b.id)) {i : Nat} (hi : i < l.length) {o p : OpR} : p ∈ l.set i o ↔ p = o ∨ (p ∈ l ∧ p.id ≠ (l[i]).id) := by
  rw [← mem_cut hs hi, List.set_eq_take_append_cons_drop, if_pos hi]
  simp only [List.mem_append, List.mem_cons]
  constructor
  · rintro (h | h | h)
    · exact .inr (.inl h)
    · exact .inl h
    · exact .inr (.inr h)
  · rintro (h | h | h)
    · exact .inr (.inl h)
    · exact .inl h
    · exact .inr (.inr h)
theorem rise_cut {l : List OpR} (hs : l.Pairwise (fun a b => a.id < b.id)) (i : Nat) : (l.take i ++ l.drop (i + 1)).Pairwise (fun a b => a.id < b.id) := by
  refine List.Pairwise.sublist ?_ hs
  have h1 : l.take i ++ l.drop (i + 1) = l.eraseIdx i := (List.eraseIdx_eq_take_drop_succ l i).symm
  rw [h1]
  exact List.eraseIdx_sublist l i
end Go.Proofs.Ytljimlaalebmaaa
