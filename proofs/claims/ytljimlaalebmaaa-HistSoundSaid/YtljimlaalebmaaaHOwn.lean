/- An edit by what it does with the operation of its number, and what the others let. -/
import Derived.Test.YtljimlaalebmaaaHSound
namespace Go.Proofs.Ytljimlaalebmaaa
open Go.RowKit
set_option linter.unusedVariables false
set_option linter.unusedSimpArgs false
/-- The operation of a number, if it is there. -/
def findL (l : List OpR) (x : Int) : Option OpR := if thereB l x then some (opAt l (placeL l x)) else none
theorem uniq {l : List OpR} (hs : l.Pairwise (fun a b => a.id < b.id)) {a b : OpR} (ha : a ∈ l) (hb : b ∈ l) (e : a.id = b.id) : a = b := by
  obtain ⟨i, hi, rfl⟩ := List.getElem_of_mem ha
  obtain ⟨j, hj, rfl⟩ := List.getElem_of_mem hb
  have h := pairwise_rises hs
  by_cases h1 : i < j
  · have := h i j h1 hj
    rw [opAt_eq hi, opAt_eq hj] at this
    omega
  · by_cases h2 : j < i
    · have := h j i h2 hi
      rw [opAt_eq hi, opAt_eq hj] at this
      omega
    · obtain rfl : i = j := by omega
      rfl
theorem findL_some {l : List OpR} (hs : l.Pairwise (fun a b => a.id < b.id)) {x : Int} {y : OpR} : findL l x = some y ↔ y ∈ l ∧ y.id = x := by
  unfold findL
  constructor
  · intro h
    by_cases ht : thereB l x = true
    · rw [if_pos ht] at h
      obtain ⟨h1, h2⟩ := placeL_there ht (pairwise_rises hs)
      have e : opAt l (placeL l x) = y := Option.some.inj h
      rw [← e]
      exact ⟨by rw [opAt_eq h1]; exact List.getElem_mem h1, h2⟩
    · rw [if_neg ht] at h; cases h
  · rintro ⟨h1, h2⟩
    have ht : thereB l x = true := thereB_mem.2 ⟨y, h1, h2⟩
    rw [if_pos ht]
    obtain ⟨h3, h4⟩ := placeL_there ht (pairwise_rises hs)
    exact congrArg some (uniq hs (by rw [opAt_eq h3]; exact List.getElem_mem h3) h1 (h4.trans h2.symm))
theorem findL_none {l : List OpR} {x : Int} : findL l x = none ↔ ∀ p ∈ l, p.id ≠ x := by
  unfold findL
  constructor
  · intro h p hp e
    have ht : thereB l x = true := thereB_mem.2 ⟨p, hp, e⟩
    rw [if_pos ht] at h; cases h
  · intro h
    rw [if_neg]
    intro ht
    obtain ⟨p, hp, e⟩ := thereB_mem.1 ht
    exact h p hp e
/-- What an edit does with the operation of its number; none: it can't be. -/
def ownE (y : Option OpR) (k : Int) (e : OpR) : Option (Option OpR) :=
  if k < 1 ∨ 6 < k then none
  else if k = 1 then (if y = none ∧ checkE e = 0 then some (some e) else none)
  else match y with
    | none => none
    | some o => if k = 2 then some none else if (changedL o k e).2 = 0 ∧ checkE (changedL o k e).1 = 0 then some (some (changedL o k e).1) else none
theorem ownE_id {y : Option OpR} {k : Int} {e r : OpR} (hy : ∀ o, y = some o → o.id = e.id) (h : ownE y k e = some (some r)) : r.id = e.id := by
  unfold ownE at h
  by_cases h1 : k < 1 ∨ 6 < k
  · rw [if_pos h1] at h; cases h
  rw [if_neg h1] at h
  by_cases h2 : k = 1
  · rw [if_pos h2] at h
    split at h
    · cases h; rfl
    · cases h
  rw [if_neg h2] at h
  cases y with
  | none => cases h
  | some o =>
    dsimp only at h
    by_cases h3 : k = 2
    · rw [if_pos h3] at h; cases h
    rw [if_neg h3] at h
    split at h
    · cases h
      exact (changedL_id _ _ _).trans (hy o rfl)
    · cases h
/-- What is behind an edit that the others let. -/
theorem apply_own {l : List OpR} (hl : HistM l) {k : Int} {e : OpR} {s : Option OpR} (ho : ownE (findL l e.id) k e = some s) (hb : ∀ r, s = some r → besideE l r = 0) (hn : k = 1 → l.length < 64) :
    ∃ a, applyL l k e = (a, (findL l e.id).getD opZ, s.getD opZ, 0) ∧ (∀ p, p ∈ a ↔ s = some p ∨ (p ∈ l ∧ p.id ≠ e.id)) ∧ HistM a ∧ (a.length + (if k = 2 then 1 else 0) = l.length + (if k = 1 then 1 else 0)) := by
  have hH : ∀ a, applyL l k e = (a, (findL l e.id).getD opZ, s.getD opZ, 0) → HistM a := fun a ha => by
    have := applyL_hist hl (k := k) (e := e) (by rw [ha])
    rwa [ha] at this
  suffices h : ∃ a, applyL l k e = (a, (findL l e.id).getD opZ, s.getD opZ, 0) ∧ (∀ p, p ∈ a ↔ s = some p ∨ (p ∈ l ∧ p.id ≠ e.id)) ∧ (a.length + (if k = 2 then 1 else 0) = l.length + (if k = 1 then 1 else 0)) by
    obtain ⟨a, h1, h2, h3⟩ := h
    exact ⟨a, h1, h2, hH a h1, h3⟩
  clear hH
  unfold ownE at ho
  unfold applyL
  by_cases h1 : k < 1 ∨ 6 < k
  · rw [if_pos h1] at ho; cases ho
  rw [if_neg h1] at ho ⊢
  by_cases h2 : k = 1
  · rw [if_pos h2] at ho ⊢
    by_cases h3 : findL l e.id = none ∧ checkE e = 0
    · rw [if_pos h3] at ho
      cases ho
      have hx := findL_none.1 h3.1
      have ht : thereB l e.id = false := by
        rw [Bool.eq_false_iff]
        intro ht
        obtain ⟨p, hp, e'⟩ := thereB_mem.1 ht
        exact hx p hp e'
      have hA : addE l e (thereB l e.id) = 0 := by
        have := hn h2
        simp [addE, h3.2, ht, hb e rfl]
        omega
      unfold addL
      rw [hA, if_neg (by decide), h3.1]
      have hle := placeL_le l e.id
      refine ⟨_, rfl, fun p => ?_, ?_⟩
      · rw [mem_ins]
        constructor
        · rintro (h | h)
          · exact .inl (by rw [h])
          · exact .inr ⟨h, hx p h⟩
        · rintro (h | h)
          · exact .inl (Option.some.inj h).symm
          · exact .inr h.1
      · rw [if_neg (by omega), if_pos h2, List.length_append, List.length_cons, List.length_take, List.length_drop]
        omega
    · rw [if_neg h3] at ho; cases ho
  rw [if_neg h2] at ho ⊢
  by_cases ht : thereB l e.id = true
  · have hf : findL l e.id = some (opAt l (placeL l e.id)) := by unfold findL; rw [if_pos ht]
    obtain ⟨hp1, hp2⟩ := placeL_there ht (pairwise_rises hl.rise)
    rw [hf] at ho
    rw [if_neg (by rw [ht]; decide), hf]
    (try dsimp only at ho)
    by_cases h3 : k = 2
    · rw [if_pos h3] at ho ⊢
      cases ho
      refine ⟨_, rfl, fun p => ?_, ?_⟩
      · rw [mem_cut hl.rise hp1, ← opAt_eq hp1, hp2]
        simp
      · rw [if_pos h3, if_neg h2, List.length_append, List.length_take, List.length_drop]
        omega
    · rw [if_neg h3] at ho ⊢
      by_cases h4 : (changedL (opAt l (placeL l e.id)) k e).2 = 0 ∧ checkE (changedL (opAt l (placeL l e.id)) k e).1 = 0
      · rw [if_pos h4] at ho
        cases ho
        have hS : setE l (changedL (opAt l (placeL l e.id)) k e) = 0 := by simp [setE, h4.1, h4.2, hb _ rfl]
        rw [hS, if_neg (by decide)]
        refine ⟨_, rfl, fun p => ?_, ?_⟩
        · rw [mem_set hl.rise hp1, ← opAt_eq hp1, hp2]
          constructor
          · rintro (h | h)
            · exact .inl (by rw [h])
            · exact .inr h
          · rintro (h | h)
            · exact .inl (Option.some.inj h).symm
            · exact .inr h
        · rw [if_neg h3, if_neg h2, List.length_set]
      · rw [if_neg h4] at ho; cases ho
  · have hf : findL l e.id = none := by unfold findL; rw [if_neg ht]
    rw [hf] at ho
    cases ho
/-- What stands behind an edit that is let. -/
theorem own_apply {l : List OpR} (hl : HistM l) {k : Int} {e : OpR} (h : (applyL l k e).2.2.2 = 0) : ∃ s, ownE (findL l e.id) k e = some s ∧ (∀ r, s = some r → besideE l r = 0) ∧ (k = 1 → l.length < 64) := by
  unfold applyL at h
  unfold ownE
  by_cases h1 : k < 1 ∨ 6 < k
  · rw [if_pos h1] at h; cases h
  rw [if_neg h1] at h ⊢
  by_cases h2 : k = 1
  · rw [if_pos h2] at h ⊢
    unfold addL at h
    by_cases h3 : addE l e (thereB l e.id) = 0
    · obtain ⟨a, b, c, d⟩ := addE_zero h3
      have hf : findL l e.id = none := by unfold findL; rw [b]; rfl
      rw [if_pos ⟨hf, a⟩]
      exact ⟨_, rfl, fun r hr => by cases hr; exact c, fun _ => d⟩
    · rw [if_pos h3] at h; exact absurd h h3
  rw [if_neg h2] at h ⊢
  by_cases ht : thereB l e.id = true
  · have hf : findL l e.id = some (opAt l (placeL l e.id)) := by unfold findL; rw [if_pos ht]
    rw [if_neg (by rw [ht]; decide)] at h
    rw [hf]
    dsimp only
    by_cases h3 : k = 2
    · rw [if_pos h3]
      exact ⟨_, rfl, (fun r hr => by cases hr), fun h => absurd h h2⟩
    · rw [if_neg h3] at h ⊢
      by_cases h5 : setE l (changedL (opAt l (placeL l e.id)) k e) = 0
      · obtain ⟨a, b, c⟩ := setE_zero h5
        rw [if_pos ⟨a, b⟩]
        exact ⟨_, rfl, fun r hr => by cases hr; exact c, fun h => absurd h h2⟩
      · rw [if_pos h5] at h; exact absurd h h5
  · rw [if_pos (by simpa using ht)] at h
    cases h
/-- The same members, the same history. -/
theorem hist_ext {l m : List OpR} (h1 : HistM l) (h2 : HistM m) (h : ∀ p, p ∈ l ↔ p ∈ m) : l = m := rise_ext h1.rise h2.rise h
/-- Who is of a number behind an edit. -/
theorem find_behind {l a : List OpR} (hl : HistM l) (ha : HistM a) {s : Option OpR} {x : Int} (hs : ∀ r, s = some r → r.id = x) (hm : ∀ p, p ∈ a ↔ s = some p ∨ (p ∈ l ∧ p.id ≠ x)) : findL a x = s ∧ ∀ z, z ≠ x → findL a z = findL l z := by
  constructor
  · cases s with
    | none =>
      rw [findL_none]
      intro p hp e
      rcases (hm p).1 hp with h | h
      · cases h
      · exact h.2 e
    | some r => exact (findL_some ha.rise).2 ⟨(hm r).2 (.inl rfl), hs r rfl⟩
  · intro z hz
    cases hf : findL l z with
    | none =>
      rw [findL_none] at hf ⊢
      intro p hp e
      rcases (hm p).1 hp with h | h
      · exact hz (e.symm.trans (hs p h))
      · exact hf p h.1 e
    | some y =>
      obtain ⟨h1, h2⟩ := (findL_some hl.rise).1 hf
      exact (findL_some ha.rise).2 ⟨(hm y).2 (.inr ⟨h1, by rw [h2]; exact hz⟩), h2⟩
/-- Two edits of different numbers, one behind the other. -/
theorem two_let {l a : List OpR} (hl : HistM l) (ha : HistM a) {x : Int} {s s2 : Option OpR} (hs : ∀ r, s = some r → r.id = x) (hm : ∀ p, p ∈ a ↔ s = some p ∨ (p ∈ l ∧ p.id ≠ x)) (hb2 : ∀ r, s2 = some r → besideE l r = 0) :
    (∀ r, s2 = some r → besideE a r = 0) ↔ (∀ r, s2 = some r → ∀ q, s = some q → Apart r q) := by
  constructor
  · intro h r hr q hq
    exact besideE_zero.1 (h r hr) q ((hm q).2 (.inl hq))
  · intro h r hr
    rw [besideE_zero]
    intro p hp
    rcases (hm p).1 hp with e | e
    · exact h r hr p e
    · exact besideE_zero.1 (hb2 r hr) p e.1
end Go.Proofs.Ytljimlaalebmaaa
