/- Operations one after the other. No Go text is spoken of. -/
import Derived.Test.YtookcollmijjkaaMDoPlain
namespace Go.Proofs.Ytookcollmijjkaa
open Go.RowKit
set_option linter.unusedVariables false
/-- The state behind operations, one after the other. -/
def runsL (xs : List Int) : List OpR → List Int × Bool
  | [] => (xs, true)
  | o :: l => if (stepL xs o).2 = false then ([], false) else runsL (stepL xs o).1 l
theorem runsL_append (a b : List OpR) : ∀ xs, runsL xs (a ++ b) = if (runsL xs a).2 = false then ([], false) else runsL (runsL xs a).1 b := by
  induction a with
  | nil => intro xs; simp [runsL]
  | cons o a ih =>
    intro xs
    rw [List.cons_append]
    by_cases h : (stepL xs o).2 = false
    · have e1 : runsL xs (o :: (a ++ b)) = ([], false) := by simp [runsL, h]
      have e2 : runsL xs (o :: a) = ([], false) := by simp [runsL, h]
      rw [e1, e2]
      rfl
    · have e1 : runsL xs (o :: (a ++ b)) = runsL (stepL xs o).1 (a ++ b) := by simp [runsL, h]
      have e2 : runsL xs (o :: a) = runsL (stepL xs o).1 a := by simp [runsL, h]
      rw [e1, e2]
      exact ih _
theorem insL_mem {x y : Int} : ∀ {l : List Int}, y ∈ insL x l → y = x ∨ y ∈ l
  | [], h => by simp [insL] at h; exact .inl h
  | z :: l, h => by
    unfold insL at h
    split at h
    · rcases List.mem_cons.1 h with h | h
      · exact .inl h
      · exact .inr h
    · rcases List.mem_cons.1 h with h | h
      · exact .inr (h ▸ List.mem_cons_self ..)
      · rcases insL_mem h with h | h
        · exact .inl h
        · exact .inr (List.mem_cons_of_mem _ h)
theorem insL_rise {x : Int} : ∀ {l : List Int}, l.Pairwise (· < ·) → x ∉ l → (insL x l).Pairwise (· < ·)
  | [], _, _ => by simp [insL]
  | z :: l, h, hx => by
    have hp := List.pairwise_cons.1 h
    unfold insL
    split
    · refine List.pairwise_cons.2 ⟨fun y hy => ?_, h⟩
      rcases List.mem_cons.1 hy with rfl | hy
      · assumption
      · have := hp.1 y hy; omega
    · refine List.pairwise_cons.2 ⟨fun y hy => ?_, insL_rise hp.2 (fun h => hx (List.mem_cons_of_mem _ h))⟩
      rcases insL_mem hy with rfl | hy
      · have : y ≠ z := fun e => hx (e ▸ List.mem_cons_self ..)
        omega
      · exact hp.1 y hy
theorem insL_length (x : Int) : ∀ l : List Int, (insL x l).length = l.length + 1
  | [] => rfl
  | z :: l => by
    unfold insL
    split
    · simp
    · simp [insL_length x l]
theorem setL_rise {xs : List Int} {o : OpR} (h : xs.Pairwise (· < ·)) : (setL xs o).1.Pairwise (· < ·) := by
  unfold setL
  repeat' split
  all_goals first | exact h | exact insL_rise h (by assumption) | exact h.filter _ | exact List.Pairwise.nil
theorem stepL_rise {xs : List Int} {o : OpR} (hk : o.kind = 5) (h : xs.Pairwise (· < ·)) : (stepL xs o).1.Pairwise (· < ·) := by
  have e : doL xs o = setL xs o := by simp [doL, hk]
  unfold stepL
  split
  · exact List.Pairwise.nil
  · rw [e]; exact setL_rise h
theorem doL_length (xs : List Int) (o : OpR) : (doL xs o).1.length ≤ xs.length + 1 := by
  unfold doL
  split
  · split
    · simp
    · unfold numberL
      repeat' split
      all_goals simp
  · split
    · unfold listL
      repeat' split
      all_goals (simp; try omega)
    · split
      · unfold setL
        repeat' split
        all_goals first | (simp; done) | (rw [insL_length]; omega) | (have := List.length_filter_le (fun y => decide (y ≠ o.arg)) xs; simp only at this ⊢; omega) | (simp; omega)
      · split
        · unfold mutexL
          repeat' split
          all_goals simp
        · simp
theorem stepL_length (xs : List Int) (o : OpR) : (stepL xs o).1.length ≤ xs.length + 1 := by
  unfold stepL
  split
  · simp
  · exact doL_length xs o
theorem runsL_length : ∀ (l : List OpR) (xs : List Int), (runsL xs l).1.length ≤ xs.length + l.length
  | [], xs => by simp [runsL]
  | o :: l, xs => by
    have h1 := stepL_length xs o
    have h2 := runsL_length l (stepL xs o).1
    simp only [runsL, List.length_cons]
    split
    · simp
    · omega
theorem runsL_rise : ∀ (l : List OpR) (xs : List Int), (∀ o ∈ l, o.kind = 5) → xs.Pairwise (· < ·) → (runsL xs l).1.Pairwise (· < ·)
  | [], xs, _, h => h
  | o :: l, xs, hk, h => by
    simp only [runsL]
    split
    · exact List.Pairwise.nil
    · exact runsL_rise l _ (fun p hp => hk p (List.mem_cons_of_mem _ hp)) (stepL_rise (hk o (List.mem_cons_self ..)) h)
/-- Numbers that rise. -/
theorem rise_iff (xs : List Int) : xs.Pairwise (· < ·) ↔ ∀ i, i + 1 < xs.length → xs.getD i 0 < xs.getD (i + 1) 0 := by
  have hg : ∀ i (h : i < xs.length), xs.getD i 0 = xs[i] := fun i h => by simp [List.getD, List.getElem?_eq_getElem h]
  constructor
  · intro h i hi
    rw [hg i (by omega), hg (i + 1) hi]
    exact List.pairwise_iff_getElem.1 h i (i + 1) (by omega) hi (by omega)
  · intro h
    refine List.pairwise_iff_getElem.2 fun i j hi hj hij => ?_
    have key : ∀ d, (hd : i + d + 1 < xs.length) → xs.getD i 0 < xs.getD (i + d + 1) 0 := by
      intro d
      induction d with
      | zero => intro hd; exact h i hd
      | succ d ih =>
        intro hd
        have a := ih (by omega)
        have b := h (i + d + 1) (by omega)
        rw [show i + (d + 1) + 1 = i + d + 1 + 1 by omega]
        omega
    have := key (j - i - 1) (by omega)
    rw [show i + (j - i - 1) + 1 = j by omega, hg i hi, hg j hj] at this
    exact this
end Go.Proofs.Ytookcollmijjkaa
