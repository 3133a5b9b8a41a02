/- A history once one is taken out, or set. -/
import Derived.Test.YtljimlaalebmaaaHIns
namespace Go.Proofs.Ytljimlaalebmaaa
open Go.RowKit
set_option linter.unusedVariables false
theorem hist_cut {l : List OpR} (h : HistM l) {i : Nat} (hi : i < l.length) : HistM (l.take i ++ l.drop (i + 1)) := by
  have hs := h.short
  refine ⟨?_, rise_cut h.rise i, fun p hp => h.each p ((mem_cut h.rise hi).1 hp).1, fun p hp => ?_⟩
  · rw [List.length_append, List.length_take, List.length_drop]
    omega
  · rw [besideE_zero]
    intro q hq
    exact besideE_zero.1 (h.beside p ((mem_cut h.rise hi).1 hp).1) q ((mem_cut h.rise hi).1 hq).1
theorem rise_set {l : List OpR} (hs : l.Pairwise (fun a b => a.id < b.id)) {i : Nat} (hi : i < l.length) {o : OpR} (ho : o.id = (l[i]).id) : (l.set i o).Pairwise (fun a b => a.id < b.id) := by
  rw [List.set_eq_take_append_cons_drop, if_pos hi]
  have hp := hs
  rw [split_here hi, List.pairwise_append, List.pairwise_cons] at hp
  obtain ⟨h0, ⟨h1, h3⟩, h2⟩ := hp
  rw [List.pairwise_append, List.pairwise_cons]
  refine ⟨h0, ⟨fun a ha => ?_, h3⟩, fun a ha b hb => ?_⟩
  · have := h1 a ha
    omega
  · rcases List.mem_cons.1 hb with e | e
    · subst e
      have := h2 a ha (l[i]) List.mem_cons_self
      omega
    · exact h2 a ha b (List.mem_cons_of_mem _ e)
theorem hist_set {l : List OpR} (h : HistM l) {i : Nat} (hi : i < l.length) {o : OpR} (ho : o.id = (l[i]).id) (hc : checkE o = 0) (hb : besideE l o = 0) : HistM (l.set i o) := by
  rw [besideE_zero] at hb
  refine ⟨by rw [List.length_set]; exact h.short, rise_set h.rise hi ho, fun p hp => ?_, fun p hp => ?_⟩
  · rcases (mem_set h.rise hi).1 hp with e | e
    · subst e; exact hc
    · exact h.each p e.1
  · rw [besideE_zero]
    intro q hq
    rcases (mem_set h.rise hi).1 hp with e | e
    · subst e
      rcases (mem_set h.rise hi).1 hq with e2 | e2
      · subst e2; exact Apart.same rfl
      · exact hb q e2.1
    · rcases (mem_set h.rise hi).1 hq with e2 | e2
      · subst e2; exact (hb p e.1).symm
      · exact besideE_zero.1 (h.beside p e.1) q e2.1
end Go.Proofs.Ytljimlaalebmaaa
