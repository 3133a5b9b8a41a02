/- The gaps, plain: number by number, and what all of them are. No Go text is spoken of. -/
import Derived.Test.YthmbnffddpnehaaIRGaps
import Derived.Test.YthmbnffddpnehaaIAwake
namespace Go.Proofs.Ythmbnffddpnehaa
open Go.RowKit
set_option linter.unusedVariables false
set_option linter.unusedSimpArgs false
def gapsP (t : Int) : Int → List It → List (Int × Int)
  | a, [] => [(a, t)]
  | a, i :: M => (if a < i.f then [(a, i.f - 1)] else []) ++ (if t ≤ i.t then [] else gapsP t (imax a (i.t + 1)) M)
theorem wrap64_in {x : Int} (h : -9223372036854775808 ≤ x ∧ x ≤ 9223372036854775807) : wrap64 x = x := IntWalk.wrap64_in x h
theorem gapsW_P (f t : Int) (hf : -9223372036854775808 ≤ f) (ht : t ≤ 9223372036854775807) : ∀ (M : List It) (a : Int), f ≤ a → (∀ i ∈ M, i.f ≤ t ∧ f ≤ i.t) → gapsW t a M = gapsP t a M
  | [], a, _, _ => rfl
  | i :: M, a, ha, h => by
    obtain ⟨h1, h2⟩ := h i (by simp)
    have hM : ∀ i ∈ M, i.f ≤ t ∧ f ≤ i.t := fun j hj => h j (by simp [hj])
    simp only [gapsW, gapsP]
    congr 1
    · by_cases h3 : a < i.f
      · rw [if_pos h3, if_pos h3, wrap64_in (by omega)]
      · rw [if_neg h3, if_neg h3]
    · by_cases h3 : t ≤ i.t
      · rw [if_pos h3, if_pos h3]
      · rw [if_neg h3, if_neg h3, wrap64_in (by omega)]
        refine gapsW_P f t hf ht M _ ?_ hM
        unfold imax
        split <;> omega
theorem gapsP_len (t : Int) : ∀ (M : List It) (a : Int), (gapsP t a M).length ≤ M.length + 1
  | [], a => by simp [gapsP]
  | i :: M, a => by
    have := gapsP_len t M (imax a (i.t + 1))
    simp only [gapsP, List.length_append, List.length_cons]
    split <;> split <;> simp <;> omega
/-- No interval meets a number. -/
abbrev Free (L : List It) (u : Int) : Prop := metL L u u = []
theorem free_iff {L : List It} {u : Int} : Free L u ↔ ∀ x ∈ L, ¬ (x.f ≤ u ∧ u ≤ x.t) := by
  show metL L u u = [] ↔ _
  unfold metL
  rw [if_pos (Int.le_refl u), List.filter_eq_nil_iff]
  constructor
  · intro h x hx hh
    have := h x hx
    simp [Tr.meets, hh.1, hh.2] at this
  · intro h x hx hh
    simp only [Tr.meets, Bool.and_eq_true, decide_eq_true_eq] at hh
    exact h x hx hh
/-- From a number on, just these intervals count. -/
def Counts (L : List It) (t a : Int) (M : List It) : Prop := ∀ u, a ≤ u → u ≤ t → (Free L u ↔ ∀ x ∈ M, ¬ (x.f ≤ u ∧ u ≤ x.t))
theorem counts_start (L : List It) (f t : Int) (hft : f ≤ t) : Counts L t f (metL L f t) := by
  intro u h1 h2
  rw [free_iff]
  unfold metL
  rw [if_pos hft]
  constructor
  · intro h x hx
    exact h x (List.mem_filter.1 hx).1
  · intro h x hx hh
    refine h x (List.mem_filter.2 ⟨hx, ?_⟩) hh
    simp only [Tr.meets, Bool.and_eq_true, decide_eq_true_eq]
    omega
theorem counts_next {L : List It} {t a : Int} {i : It} {M : List It} (h : Counts L t a (i :: M)) : Counts L t (imax a (i.t + 1)) M := by
  intro u h1 h2
  have ha : a ≤ u ∧ i.t < u := by unfold imax at h1; split at h1 <;> omega
  rw [h u ha.1 h2]
  constructor
  · intro hh x hx
    exact hh x (by simp [hx])
  · intro hh x hx
    rcases List.mem_cons.1 hx with rfl | hx
    · omega
    · exact hh x hx
theorem imax_ge (a b : Int) : a ≤ imax a b ∧ b ≤ imax a b := by unfold imax; split <;> omega
theorem imax_or (a b : Int) : imax a b = a ∨ imax a b = b := by unfold imax; split <;> simp
/-- The reference's list, up to a number. -/
def refTo (L : List It) (f a : Int) : List (Int × Int) := refG L f (a - f).toNat
theorem refTo_succ (L : List It) (f a : Int) (h : f ≤ a) : refTo L f (a + 1) = if Free L a then gstep (refTo L f a) a else refTo L f a := by
  unfold refTo
  have e : (a + 1 - f).toNat = (a - f).toNat + 1 := by omega
  rw [e]
  simp only [refG]
  have e2 : f + ((a - f).toNat : Int) = a := by omega
  rw [e2]
theorem refTo_none (L : List It) (f a : Int) (h : f ≤ a) : ∀ (k : Nat), (∀ u, a ≤ u → u < a + k → ¬ Free L u) → refTo L f (a + k) = refTo L f a
  | 0, _ => by simp
  | k + 1, hu => by
    have e : a + ((k + 1 : Nat) : Int) = (a + k) + 1 := by push_cast; omega
    rw [e, refTo_succ L f _ (by omega), if_neg (hu _ (by omega) (by push_cast; omega))]
    exact refTo_none L f a h k (fun u h1 h2 => hu u h1 (by push_cast; omega))
theorem refTo_none' (L : List It) (f a b : Int) (h : f ≤ a) (hab : a ≤ b) (hu : ∀ u, a ≤ u → u < b → ¬ Free L u) : refTo L f b = refTo L f a := by
  have := refTo_none L f a h (b - a).toNat (fun u h1 h2 => hu u h1 (by omega))
  rwa [show a + (((b - a).toNat : Nat) : Int) = b by omega] at this
theorem gstep_new (l : List (Int × Int)) (u : Int) (h : ∀ s, l.getLast? = some s → s.2 < u - 1) : gstep l u = l ++ [(u, u)] := by
  unfold gstep
  split
  · rename_i s hs
    rw [if_neg (by have := h s hs; omega)]
  · rfl
theorem gstep_more (l : List (Int × Int)) (a u : Int) : gstep (l ++ [(a, u - 1)]) u = l ++ [(a, u)] := by
  unfold gstep
  simp
theorem refTo_free (L : List It) (f a : Int) (h : f ≤ a) (hl : ∀ s, (refTo L f a).getLast? = some s → s.2 < a - 1) : ∀ (k : Nat), (∀ u, a ≤ u → u ≤ a + k → Free L u) → refTo L f (a + k + 1) = refTo L f a ++ [(a, a + k)]
  | 0, hu => by
    rw [show a + ((0 : Nat) : Int) + 1 = a + 1 by simp, refTo_succ L f a h, if_pos (hu a (by omega) (by omega)), gstep_new _ _ hl]
    simp
  | k + 1, hu => by
    have ih := refTo_free L f a h hl k (fun u h1 h2 => hu u h1 (by push_cast; omega))
    have e : a + ((k + 1 : Nat) : Int) = a + k + 1 := by push_cast; omega
    rw [e, refTo_succ L f _ (by omega), if_pos (hu _ (by omega) (by push_cast; omega)), ih]
    have e2 : (a, a + (k : Int)) = (a, (a + (k : Int) + 1) - 1) := by simp
    rw [e2, gstep_more]
theorem refTo_free' (L : List It) (f a b : Int) (h : f ≤ a) (hab : a ≤ b) (hl : ∀ s, (refTo L f a).getLast? = some s → s.2 < a - 1) (hu : ∀ u, a ≤ u → u ≤ b → Free L u) : refTo L f (b + 1) = refTo L f a ++ [(a, b)] := by
  have := refTo_free L f a h hl (b - a).toNat (fun u h1 h2 => hu u h1 (by omega))
  rwa [show a + (((b - a).toNat : Nat) : Int) = b by omega] at this
/-- Number by number: the same as the program's gaps. -/
theorem ref_gaps (L : List It) (f t : Int) : ∀ (M : List It) (a : Int), f ≤ a → a ≤ t → Counts L t a M → Rises M → (∀ i ∈ M, i.f ≤ i.t ∧ i.f ≤ t) → (∀ s, (refTo L f a).getLast? = some s → s.2 < a - 1) → refTo L f (t + 1) = refTo L f a ++ gapsP t a M
  | [], a, hfa, hat, hc, hr, hi, hl => by
    simp only [gapsP]
    exact refTo_free' L f a t hfa hat hl (fun u h1 h2 => (hc u h1 h2).2 (by simp))
  | i :: M, a, hfa, hat, hc, hr, hi, hl => by
    obtain ⟨hi1, hi2⟩ := hi i (by simp)
    have hM : ∀ j ∈ M, j.f ≤ j.t ∧ j.f ≤ t := fun j hj => hi j (by simp [hj])
    have hr' : Rises M := (List.pairwise_cons.1 hr).2
    have hge : ∀ j ∈ M, i.f ≤ j.f := fun j hj => by
      have := (List.pairwise_cons.1 hr).1 j hj
      omega
    have hcov : ∀ u, a ≤ u → i.f ≤ u → u ≤ i.t → u ≤ t → ¬ Free L u := fun u h1 h2 h3 h4 hfr => (hc u h1 h4).1 hfr i (by simp) ⟨h2, h3⟩
    obtain ⟨b, hb⟩ : ∃ b, b = imax a i.f := ⟨_, rfl⟩
    have hb1 : a ≤ b ∧ i.f ≤ b := by rw [hb]; exact imax_ge a i.f
    have hb2 : b ≤ t := by rcases imax_or a i.f with h | h <;> omega
    have hmid : refTo L f b = refTo L f a ++ (if a < i.f then [(a, i.f - 1)] else []) := by
      by_cases h : a < i.f
      · rw [if_pos h]
        have e : b = (i.f - 1) + 1 := by rw [hb]; unfold imax; rw [if_pos h]; omega
        rw [e]
        refine refTo_free' L f a (i.f - 1) hfa (by omega) hl (fun u h1 h2 => (hc u h1 (by omega)).2 (fun x hx => ?_))
        rcases List.mem_cons.1 hx with rfl | hx
        · omega
        · have := hge x hx; omega
      · rw [if_neg h, List.append_nil, hb]
        unfold imax
        rw [if_neg h]
    have hlast : ∀ s, (refTo L f b).getLast? = some s → s.2 < imax a (i.t + 1) - 1 := fun s hs => by
      rw [hmid] at hs
      have hm := imax_ge a (i.t + 1)
      by_cases h : a < i.f
      · rw [if_pos h] at hs
        simp at hs
        subst hs
        dsimp only
        omega
      · rw [if_neg h, List.append_nil] at hs
        have := hl s hs
        omega
    simp only [gapsP]
    rw [← List.append_assoc, ← hmid]
    by_cases h3 : t ≤ i.t
    · rw [if_pos h3, List.append_nil]
      exact refTo_none' L f b (t + 1) (by omega) (by omega) (fun u h1 h2 => hcov u (by omega) (by omega) (by omega) (by omega))
    · rw [if_neg h3]
      have ha' : b ≤ imax a (i.t + 1) ∧ imax a (i.t + 1) ≤ t := by
        have hm := imax_ge a (i.t + 1)
        rcases imax_or a (i.t + 1) with h | h <;> rcases imax_or a i.f with h' | h' <;> omega
      have hsame : refTo L f (imax a (i.t + 1)) = refTo L f b :=
        refTo_none' L f b _ (by omega) ha'.1 (fun u h1 h2 => by
          rcases imax_or a (i.t + 1) with h | h
          · omega
          · exact hcov u (by omega) (by omega) (by omega) (by omega))
      rw [← hsame] at hlast ⊢
      exact ref_gaps L f t M _ (by omega) ha'.2 (counts_next hc) hr' hM hlast
/-- What all the gaps are. -/
theorem gaps_all (L : List It) (t : Int) : ∀ (M : List It) (a : Int), a ≤ t → Counts L t a M → Rises M → (∀ i ∈ M, i.f ≤ i.t ∧ i.f ≤ t) →
    (∀ s ∈ gapsP t a M, a ≤ s.1 ∧ s.1 ≤ s.2 ∧ s.2 ≤ t ∧ ∀ u, s.1 ≤ u → u ≤ s.2 → Free L u) ∧ (gapsP t a M).Pairwise (fun s r => s.2 < r.1 - 1) ∧ (∀ u, a ≤ u → u ≤ t → Free L u → ∃ s ∈ gapsP t a M, s.1 ≤ u ∧ u ≤ s.2)
  | [], a, hat, hc, hr, hi => by
    simp only [gapsP]
    refine ⟨fun s hs => ?_, by simp, fun u h1 h2 h3 => ⟨(a, t), by simp, h1, h2⟩⟩
    obtain rfl : s = (a, t) := by simpa using hs
    exact ⟨by simp, hat, by simp, fun u h1 h2 => (hc u h1 h2).2 (by simp)⟩
  | i :: M, a, hat, hc, hr, hi => by
    obtain ⟨hi1, hi2⟩ := hi i (by simp)
    have hM : ∀ j ∈ M, j.f ≤ j.t ∧ j.f ≤ t := fun j hj => hi j (by simp [hj])
    have hr' : Rises M := (List.pairwise_cons.1 hr).2
    have hge : ∀ j ∈ M, i.f ≤ j.f := fun j hj => by
      have := (List.pairwise_cons.1 hr).1 j hj
      omega
    have hfree : ∀ u, a ≤ u → u ≤ i.f - 1 → Free L u := fun u h1 h2 => (hc u h1 (by omega)).2 (fun x hx => by
      rcases List.mem_cons.1 hx with rfl | hx
      · omega
      · have := hge x hx; omega)
    have hcov : ∀ u, a ≤ u → i.f ≤ u → u ≤ i.t → u ≤ t → ¬ Free L u := fun u h1 h2 h3 h4 hfr => (hc u h1 h4).1 hfr i (by simp) ⟨h2, h3⟩
    have hm := imax_ge a (i.t + 1)
    simp only [gapsP]
    have hfirst : ∀ s ∈ (if a < i.f then [(a, i.f - 1)] else []), a ≤ s.1 ∧ s.1 ≤ s.2 ∧ s.2 ≤ t ∧ (∀ u, s.1 ≤ u → u ≤ s.2 → Free L u) ∧ s.2 = i.f - 1 := fun s hs => by
      by_cases h : a < i.f
      · rw [if_pos h] at hs
        obtain rfl : s = (a, i.f - 1) := by simpa using hs
        exact ⟨by simp, by dsimp only; omega, by dsimp only; omega, hfree, rfl⟩
      · rw [if_neg h] at hs
        simp at hs
    have hpf : (if a < i.f then [(a, i.f - 1)] else []).Pairwise (fun (s r : Int × Int) => s.2 < r.1 - 1) := by split <;> simp
    have hcf : ∀ u, a ≤ u → u < i.f → ∃ s ∈ (if a < i.f then [(a, i.f - 1)] else []), s.1 ≤ u ∧ u ≤ s.2 := fun u h1 h2 => by
      rw [if_pos (by omega)]
      exact ⟨_, List.mem_singleton.2 rfl, h1, by dsimp only; omega⟩
    by_cases h3 : t ≤ i.t
    · rw [if_pos h3, List.append_nil]
      refine ⟨fun s hs => ?_, hpf, fun u h1 h2 h4 => ?_⟩
      · obtain ⟨k1, k2, k3, k4, -⟩ := hfirst s hs
        exact ⟨k1, k2, k3, k4⟩
      · by_cases h5 : u < i.f
        · exact hcf u h1 h5
        · exact absurd h4 (hcov u h1 (by omega) (by omega) h2)
    · rw [if_neg h3]
      have ha' : imax a (i.t + 1) ≤ t := by rcases imax_or a (i.t + 1) with h | h <;> omega
      obtain ⟨i1, i2, i3⟩ := gaps_all L t M (imax a (i.t + 1)) ha' (counts_next hc) hr' hM
      refine ⟨fun s hs => ?_, List.pairwise_append.2 ⟨hpf, i2, fun s hs r hr2 => ?_⟩, fun u h1 h2 h4 => ?_⟩
      · rcases List.mem_append.1 hs with hs | hs
        · obtain ⟨k1, k2, k3, k4, -⟩ := hfirst s hs
          exact ⟨k1, k2, k3, k4⟩
        · obtain ⟨k1, k2, k3, k4⟩ := i1 s hs
          exact ⟨by omega, k2, k3, k4⟩
      · obtain ⟨-, -, -, -, k5⟩ := hfirst s hs
        have := (i1 r hr2).1
        omega
      · by_cases h5 : u < i.f
        · obtain ⟨s, hs, hh⟩ := hcf u h1 h5
          exact ⟨s, List.mem_append_left _ hs, hh⟩
        · by_cases h6 : u ≤ i.t
          · exact absurd h4 (hcov u h1 (by omega) h6 h2)
          · obtain ⟨s, hs, hh⟩ := i3 u (by rcases imax_or a (i.t + 1) with h | h <;> omega) h2 h4
            exact ⟨s, List.mem_append_right _ hs, hh⟩
theorem rises_met {L : List It} (h : Rises L) (f t : Int) : Rises (metL L f t) := by
  unfold metL
  split
  · exact h.filter _
  · simp [Rises]
theorem met_mem {L : List It} {f t : Int} {x : It} (h : x ∈ metL L f t) : x ∈ L ∧ x.f ≤ t ∧ f ≤ x.t := by
  unfold metL at h
  split at h
  · obtain ⟨h1, h2⟩ := List.mem_filter.1 h
    simp only [Tr.meets, Bool.and_eq_true, decide_eq_true_eq] at h2
    exact ⟨h1, h2.1, h2.2⟩
  · simp at h
/-- The program's gaps of a short span are the reference's. -/
theorem gapsL_ref {T : Tr} {L : List It} (hi : T.items = L) (hr : Rises L) (hfit : ∀ x ∈ L, -9223372036854775808 ≤ x.f ∧ x.f ≤ x.t ∧ x.t ≤ 9223372036854775807) (f most : Int) (N : Nat) (hf : -9223372036854775808 ≤ f) (ht : f + (N : Int) - 1 ≤ 9223372036854775807) :
    gapsL T f (f + (N : Int) - 1) most = (refG L f N).take most.toNat := by
  unfold gapsL
  by_cases hft : f ≤ f + (N : Int) - 1
  · rw [if_pos hft, metT_eq (by rw [hi]; exact hr), hi, gapsW_P f _ hf ht _ f (Int.le_refl f) (fun i h => (met_mem h).2)]
    have := ref_gaps L f (f + (N : Int) - 1) (metL L f (f + (N : Int) - 1)) f (Int.le_refl f) hft (counts_start L f _ hft) (rises_met hr f _) (fun i h => ⟨(hfit i (met_mem h).1).2.1, (met_mem h).2.1⟩) (fun s hs => by simp [refTo, refG] at hs)
    have e1 : refTo L f (f + (N : Int) - 1 + 1) = refG L f N := by unfold refTo; congr 1; omega
    have e2 : refTo L f f = [] := by simp [refTo, refG]
    rw [e1, e2, List.nil_append] at this
    rw [this]
  · rw [if_neg hft]
    obtain rfl : N = 0 := by omega
    simp [refG]
/-- The gaps of all numbers. -/
theorem gapsL_all {T : Tr} {L : List It} (hi : T.items = L) (hr : Rises L) (hfit : ∀ x ∈ L, -9223372036854775808 ≤ x.f ∧ x.f ≤ x.t ∧ x.t ≤ 9223372036854775807) (hl : L.length ≤ 500) : ∃ G, gapsL T (-9223372036854775808) 9223372036854775807 1000 = G ∧ G.length ≤ 501 ∧
    (∀ s ∈ G, -9223372036854775808 ≤ s.1 ∧ s.1 ≤ s.2 ∧ s.2 ≤ 9223372036854775807 ∧ metL L s.1 s.2 = []) ∧ G.Pairwise (fun s r => s.2 < r.1 - 1) ∧ (∀ u, -9223372036854775808 ≤ u → u ≤ 9223372036854775807 → (Free L u ↔ ∃ s ∈ G, s.1 ≤ u ∧ u ≤ s.2)) := by
  have hml : (metL L (-9223372036854775808) 9223372036854775807).length ≤ 500 := by
    unfold metL
    split
    · exact Nat.le_trans (List.length_filter_le _ _) hl
    · simp
  obtain ⟨M, hM⟩ : ∃ M, M = metL L (-9223372036854775808) 9223372036854775807 := ⟨_, rfl⟩
  rw [← hM] at hml
  have hlen := gapsP_len 9223372036854775807 M (-9223372036854775808)
  obtain ⟨k1, k2, k3⟩ := gaps_all L 9223372036854775807 M (-9223372036854775808) (by omega) (by rw [hM]; exact counts_start L _ _ (by omega)) (by rw [hM]; exact rises_met hr _ _) (fun i h => by rw [hM] at h; exact ⟨(hfit i (met_mem h).1).2.1, (met_mem h).2.1⟩)
  refine ⟨gapsP 9223372036854775807 (-9223372036854775808) M, ?_, by omega, fun s hs => ?_, k2, fun u h1 h2 => ⟨k3 u h1 h2, fun ⟨s, hs, h4, h5⟩ => (k1 s hs).2.2.2 u h4 h5⟩⟩
  · unfold gapsL
    rw [if_pos (by omega), metT_eq (by rw [hi]; exact hr), hi, ← hM, gapsW_P (-9223372036854775808) _ (by omega) (by omega) _ _ (by omega) (fun i h => by rw [hM] at h; exact (met_mem h).2)]
    exact List.take_of_length_le (by simp; omega)
  · obtain ⟨h1, h2, h3, h4⟩ := k1 s hs
    refine ⟨h1, h2, h3, ?_⟩
    unfold metL
    rw [if_pos h2, List.filter_eq_nil_iff]
    intro z hz hh
    simp only [Tr.meets, Bool.and_eq_true, decide_eq_true_eq] at hh
    have hzz := (hfit z hz).2.1
    have hfr := h4 (imax s.1 z.f) (imax_ge _ _).1 (by rcases imax_or s.1 z.f with h | h <;> omega)
    exact free_iff.1 hfr z hz ⟨(imax_ge _ _).2, by rcases imax_or s.1 z.f with h | h <;> omega⟩
end Go.Proofs.Ythmbnffddpnehaa
