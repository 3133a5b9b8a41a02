/- Two histories of the same operations are equal; what is in one behind an edit. -/
import Derived.Test.YtljimlaalebmaaaHApplyPlain
namespace Go.Proofs.Ytljimlaalebmaaa
open Go.RowKit
set_option linter.unusedVariables false
theorem rise_ext : ∀ {l m : List OpR}, l.Pairwise (fun a b => a.id < b.id) → m.Pairwise (fun a b => a.id < b.id) → (∀ o, o ∈ l ↔ o ∈ m) → l = m
  | [], [], _, _, _ => rfl
  | [], b :: m, _, _, h => by have := (h b).2 (by simp); simp at this
  | a :: l, [], _, _, h => by have := (h a).1 (by simp); simp at this
  | a :: l, b :: m, hl, hm, h => by
    rw [List.pairwise_cons] at hl hm
    have hab : a = b := by
      rcases List.mem_cons.1 ((h a).1 (by simp)) with e | e
      · exact e
      · rcases List.mem_cons.1 ((h b).2 (by simp)) with e2 | e2
        · exact e2.symm
        · have := hm.1 a e
          have := hl.1 b e2
          omega
    subst hab
    refine congrArg (a :: ·) (rise_ext hl.2 hm.2 fun o => ⟨fun ho => ?_, fun ho => ?_⟩)
    · rcases List.mem_cons.1 ((h o).1 (by simp [ho])) with e | e
      · subst e; have := hl.1 o ho; omega
      · exact e
    · rcases List.mem_cons.1 ((h o).2 (by simp [ho])) with e | e
      · subst e; have := hm.1 o ho; omega
      · exact e
theorem rises_pairwise {l : List OpR} (h : Rises l) : l.Pairwise (fun a b => a.id < b.id) := by
  rw [List.pairwise_iff_getElem]
  intro i j hi hj hij
  have := h i j hij hj
  rwa [opAt_eq hi, opAt_eq hj] at this
theorem pairwise_rises {l : List OpR} (h : l.Pairwise (fun a b => a.id < b.id)) : Rises l := by
  rw [List.pairwise_iff_getElem] at h
  intro i j hij hj
  rw [opAt_eq (by omega), opAt_eq hj]
  exact h i j (by omega) hj hij
/-- A history, by its operations. -/
structure HistM (l : List OpR) : Prop where
  short : l.length ≤ 64
  rise : l.Pairwise (fun a b => a.id < b.id)
  each : ∀ o ∈ l, checkE o = 0
  beside : ∀ o ∈ l, besideE l o = 0
theorem histM_of {l : List OpR} (h : Hist l) : HistM l := by
  refine ⟨h.short, rises_pairwise h.rise, fun o ho => ?_, fun o ho => ?_⟩
  · obtain ⟨k, hk, rfl⟩ := List.getElem_of_mem ho
    rw [← opAt_eq hk]; exact h.each k hk
  · obtain ⟨k, hk, rfl⟩ := List.getElem_of_mem ho
    rw [← opAt_eq hk]; exact h.beside k hk
theorem of_histM {l : List OpR} (h : HistM l) : Hist l := by
  refine ⟨h.short, fun k hk => ?_, pairwise_rises h.rise, fun k hk => ?_⟩
  · rw [opAt_eq hk]; exact h.each _ (List.getElem_mem hk)
  · rw [opAt_eq hk]; exact h.beside _ (List.getElem_mem hk)
theorem mem_ins {l : List OpR} {o p : OpR} {i : Nat} : p ∈ l.take i ++ o :: l.drop i ↔ p = o ∨ p ∈ l := by
  conv => rhs; rw [← List.take_append_drop i l]
  simp only [List.mem_append, List.mem_cons]
  constructor
  · rintro (h | h | h)
    · exact .inr (.inl h)
    · exact .inl h
    · exact .inr (.inr h)
  · rintro (h | h | h)
    · exact .inr (.inl h)
    · exact .inl h
    · exact .inr (.inr h)
end Go.Proofs.Ytljimlaalebmaaa
