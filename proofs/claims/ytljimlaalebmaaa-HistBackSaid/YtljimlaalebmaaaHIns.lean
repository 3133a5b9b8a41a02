/- An operation that is put in its place: the numbers rise still. -/
import Derived.Test.YtljimlaalebmaaaHApart
namespace Go.Proofs.Ytljimlaalebmaaa
open Go.RowKit
set_option linter.unusedVariables false
theorem place_take (x : Int) : ∀ (l : List OpR), ∀ p ∈ l.take (placeL l x), p.id < x
  | [], p, h => by simp [placeL] at h
  | o :: l, p, h => by
    unfold placeL at h
    by_cases e : o.id < x
    · rw [if_pos e, List.take_succ_cons, List.mem_cons] at h
      rcases h with h | h
      · subst h; exact e
      · exact place_take x l p h
    · rw [if_neg e] at h
      simp at h
theorem place_drop (x : Int) : ∀ (l : List OpR), l.Pairwise (fun a b => a.id < b.id) → ∀ p ∈ l.drop (placeL l x), x ≤ p.id
  | [], _, p, h => by simp [placeL] at h
  | o :: l, hs, p, h => by
    rw [List.pairwise_cons] at hs
    unfold placeL at h
    by_cases e : o.id < x
    · rw [if_pos e, List.drop_succ_cons] at h
      exact place_drop x l hs.2 p h
    · rw [if_neg e, List.drop_zero, List.mem_cons] at h
      rcases h with h | h
      · subst h; omega
      · have := hs.1 p h
        omega
theorem rise_ins {l : List OpR} (hs : l.Pairwise (fun a b => a.id < b.id)) {o : OpR} (ht : thereB l o.id = false) : (l.take (placeL l o.id) ++ o :: l.drop (placeL l o.id)).Pairwise (fun a b => a.id < b.id) := by
  have hne : ∀ p ∈ l, p.id ≠ o.id := by
    intro p hp e
    have : thereB l o.id = true := thereB_mem.2 ⟨p, hp, e⟩
    rw [ht] at this; cases this
  have hd : ∀ p ∈ l.drop (placeL l o.id), o.id < p.id := fun p hp => by
    have h1 := place_drop o.id l hs p hp
    have h2 := hne p (List.mem_of_mem_drop hp)
    omega
  rw [List.pairwise_append, List.pairwise_cons]
  refine ⟨hs.sublist (List.take_sublist _ _), ⟨hd, hs.sublist (List.drop_sublist _ _)⟩, fun a ha b hb => ?_⟩
  have h1 := place_take o.id l a ha
  rcases List.mem_cons.1 hb with e | e
  · subst e; exact h1
  · have := hd b e
    omega
theorem hist_ins {l : List OpR} (h : HistM l) {o : OpR} (hc : checkE o = 0) (ht : thereB l o.id = false) (hb : besideE l o = 0) (hn : l.length < 64) : HistM (l.take (placeL l o.id) ++ o :: l.drop (placeL l o.id)) := by
  rw [besideE_zero] at hb
  refine ⟨?_, rise_ins h.rise ht, fun p hp => ?_, fun p hp => ?_⟩
  · rw [List.length_append, List.length_cons, List.length_take, List.length_drop]
    omega
  · rcases mem_ins.1 hp with e | e
    · subst e; exact hc
    · exact h.each p e
  · rw [besideE_zero]
    intro q hq
    rcases mem_ins.1 hp with e | e
    · subst e
      rcases mem_ins.1 hq with e2 | e2
      · subst e2; exact Apart.same rfl
      · exact hb q e2
    · rcases mem_ins.1 hq with e2 | e2
      · subst e2; exact (hb p e).symm
      · exact besideE_zero.1 (h.beside p e) q e2
end Go.Proofs.Ytljimlaalebmaaa
