/- What holds of the states as a history is made. -/
import Derived.Test.YtlhgdbangnohjaaGPlain
namespace Go.Proofs.Ytlhgdbangnohjaa
open Go.RowKit
set_option linter.unusedVariables false
set_option linter.unusedSimpArgs false
/-- A state that an object of a kind may have after so many steps. -/
structure StOk (kd procs : Int) (k : Nat) (xs : List Int) : Prop where
  reg : kd = 1 → ∃ x, xs = [x] ∧ 0 ≤ x ∧ x ≤ 3
  cnt : kd = 2 → ∃ x, xs = [x] ∧ -(k : Int) ≤ x ∧ x ≤ (k : Int)
  row : kd = 3 ∨ kd = 4 → xs.length ≤ k ∧ ∀ x ∈ xs, 0 ≤ x ∧ x ≤ 3
  mem : kd = 5 → xs.Pairwise (· < ·) ∧ (∀ x ∈ xs, 0 ≤ x ∧ x ≤ 3) ∧ xs.length ≤ k
  lock : kd = 6 → xs = [] ∨ ∃ p, xs = [p] ∧ 0 ≤ p ∧ p < procs
theorem StOk.mono {kd procs : Int} {k m : Nat} {xs : List Int} (h : StOk kd procs k xs) (hm : k ≤ m) : StOk kd procs m xs where
  reg := h.reg
  cnt := fun e => by obtain ⟨x, h1, h2, h3⟩ := h.cnt e; exact ⟨x, h1, by omega, by omega⟩
  row := fun e => ⟨Nat.le_trans (h.row e).1 hm, (h.row e).2⟩
  mem := fun e => ⟨(h.mem e).1, (h.mem e).2.1, Nat.le_trans (h.mem e).2.2 hm⟩
  lock := h.lock
theorem insL_mem {x y : Int} : ∀ {l : List Int}, y ∈ insL x l → y = x ∨ y ∈ l
  | [], h => by simp [insL] at h; exact .inl h
  | z :: l, h => by
    unfold insL at h
    split at h
    · simp only [List.mem_cons] at h ⊢
      rcases h with h | h | h
      · exact .inl h
      · exact .inr (.inl h)
      · exact .inr (.inr h)
    · simp only [List.mem_cons] at h ⊢
      rcases h with h | h
      · exact .inr (.inl h)
      · rcases insL_mem h with h | h
        · exact .inl h
        · exact .inr (.inr h)
theorem insL_len (x : Int) : ∀ l : List Int, (insL x l).length = l.length + 1
  | [] => rfl
  | z :: l => by
    unfold insL
    split
    · rfl
    · simp [insL_len x l]
theorem insL_rise {x : Int} : ∀ {l : List Int}, l.Pairwise (· < ·) → x ∉ l → (insL x l).Pairwise (· < ·)
  | [], _, _ => by simp [insL]
  | z :: l, h, hx => by
    rw [List.pairwise_cons] at h
    simp only [List.mem_cons, not_or] at hx
    unfold insL
    split
    · rename_i hlt
      rw [List.pairwise_cons, List.pairwise_cons]
      refine ⟨fun y hy => ?_, h.1, h.2⟩
      simp only [List.mem_cons] at hy
      rcases hy with rfl | hy
      · exact hlt
      · have := h.1 y hy; omega
    · rename_i hlt
      rw [List.pairwise_cons]
      refine ⟨fun y hy => ?_, insL_rise h.2 hx.2⟩
      rcases insL_mem hy with rfl | hy
      · omega
      · exact h.1 y hy
/-- An operation that is asked for. -/
structure AskOk (procs : Int) (o : OpR) : Prop where
  arg : 0 ≤ o.arg ∧ o.arg ≤ 3
  sec : 0 ≤ o.sec ∧ o.sec ≤ 3
  proc : 0 ≤ o.proc ∧ o.proc < procs
/-- What may be is left behind, and the answer is small. -/
theorem doL_ok {procs : Int} {k : Nat} {xs : List Int} {o : OpR} (hk : k ≤ 1000) (h : StOk o.kind procs k xs) (ha : AskOk procs o) (hd : (doL xs o).2.2 = true) :
    StOk o.kind procs (k + 1) (doL xs o).1 ∧ -((k : Int) + 1) ≤ (doL xs o).2.1 ∧ (doL xs o).2.1 ≤ (k : Int) + 4 := by
  obtain ⟨a1, a2⟩ := ha.arg
  obtain ⟨s1, s2⟩ := ha.sec
  unfold doL at hd ⊢
  by_cases h12 : o.kind = 1 ∨ o.kind = 2
  · rw [if_pos h12] at hd ⊢
    by_cases hx : xs.length ≠ 1
    · rw [if_pos hx] at hd; cases hd
    rw [if_neg hx] at hd ⊢
    obtain ⟨x, rfl⟩ : ∃ x, xs = [x] := List.length_eq_one_iff.1 (by omega)
    simp only [List.getD_cons_zero] at hd ⊢
    have hb : -(k : Int) ≤ x ∧ x ≤ (k : Int) + 3 ∧ (o.kind = 1 → 0 ≤ x ∧ x ≤ 3) ∧ (o.kind = 2 → x ≤ (k : Int)) := by
      rcases h12 with e | e
      · obtain ⟨y, h1, h2, h3⟩ := h.reg e
        cases h1
        exact ⟨by omega, by omega, fun _ => ⟨h2, h3⟩, fun e2 => by omega⟩
      · obtain ⟨y, h1, h2, h3⟩ := h.cnt e
        cases h1
        exact ⟨h2, by omega, (fun e2 => by omega), fun _ => h3⟩
    obtain ⟨b1, b2, b3, b4⟩ := hb
    have hw1 : wrap64 (x + 1) = x + 1 := by unfold wrap64; omega
    have hw2 : wrap64 (x - 1) = x - 1 := by unfold wrap64; omega
    unfold numberL at hd ⊢
    rw [hw1, hw2] at hd ⊢
    revert hd
    have one : ∀ (z : Int), (o.kind = 1 → 0 ≤ z ∧ z ≤ 3) → (o.kind = 2 → -((k : Int) + 1) ≤ z ∧ z ≤ (k : Int) + 1) → StOk o.kind procs (k + 1) [z] := fun z h1 h2 =>
      ⟨fun e => ⟨z, rfl, (h1 e).1, (h1 e).2⟩, (fun e => ⟨z, rfl, by have := (h2 e).1; omega, by have := (h2 e).2; omega⟩), (fun e => by omega), (fun e => by omega), (fun e => by omega)⟩
    repeat' split
    all_goals intro hd
    all_goals first
      | (cases hd; done)
      | (refine ⟨one _ (fun e => ?_) (fun e => ?_), ?_, ?_⟩ <;> first | omega | (dsimp only; omega))
  rw [if_neg h12] at hd ⊢
  by_cases h34 : o.kind = 3 ∨ o.kind = 4
  · rw [if_pos h34] at hd ⊢
    obtain ⟨hl, hm⟩ := h.row h34
    have mk : ∀ (ys : List Int), ys.length ≤ k + 1 → (∀ y ∈ ys, 0 ≤ y ∧ y ≤ 3) → StOk o.kind procs (k + 1) ys := fun ys h1 h2 =>
      ⟨(fun e => by omega), (fun e => by omega), fun _ => ⟨h1, h2⟩, (fun e => by omega), (fun e => by omega)⟩
    have hat : ∀ i, i < xs.length → 0 ≤ xs.getD i 0 ∧ xs.getD i 0 ≤ 3 := fun i hi => by
      rw [List.getD_eq_getElem?_getD, List.getElem?_eq_getElem hi]
      exact hm _ (List.getElem_mem hi)
    unfold listL at hd ⊢
    revert hd
    split
    · intro hd
      refine ⟨mk _ (by simp; omega) (fun y hy => ?_), by dsimp only; omega, by dsimp only; omega⟩
      simp only [List.mem_append, List.mem_singleton] at hy
      rcases hy with hy | rfl
      · exact hm y hy
      · exact ⟨a1, a2⟩
    · split
      · intro hd
        refine ⟨mk _ (by simp; omega) (fun y hy => hm y (List.mem_of_mem_drop hy)), ?_, ?_⟩
        all_goals
          dsimp only
          split
          · omega
          · have := hat 0 (by omega)
            omega
      · split
        · intro hd
          refine ⟨mk _ (by simp; omega) (fun y hy => hm y (List.mem_of_mem_take hy)), ?_, ?_⟩
          all_goals
            dsimp only
            split
            · omega
            · have := hat (xs.length - 1) (by omega)
              omega
        · intro hd; cases hd
  rw [if_neg h34] at hd ⊢
  by_cases h5 : o.kind = 5
  · rw [if_pos h5] at hd ⊢
    obtain ⟨hp, hm, hl⟩ := h.mem h5
    have mk : ∀ (ys : List Int), ys.Pairwise (· < ·) → (∀ y ∈ ys, 0 ≤ y ∧ y ≤ 3) → ys.length ≤ k + 1 → StOk o.kind procs (k + 1) ys := fun ys h1 h2 h3 =>
      ⟨(fun e => by omega), (fun e => by omega), (fun e => by omega), fun _ => ⟨h1, h2, h3⟩, (fun e => by omega)⟩
    unfold setL at hd ⊢
    revert hd
    split
    · intro hd
      refine ⟨mk _ hp hm (by first | omega | (dsimp only; omega)), ?_, ?_⟩ <;> (dsimp only; split <;> omega)
    · split
      · split
        · intro hd
          exact ⟨mk _ hp hm (by first | omega | (dsimp only; omega)), by dsimp only; omega, by dsimp only; omega⟩
        · rename_i hnot
          intro hd
          refine ⟨mk _ (insL_rise hp hnot) (fun y hy => ?_) (by rw [insL_len]; omega), by dsimp only; omega, by dsimp only; omega⟩
          rcases insL_mem hy with rfl | hy
          · exact ⟨a1, a2⟩
          · exact hm y hy
      · split
        · split
          · intro hd
            exact ⟨mk _ (hp.filter _) (fun y hy => hm y (List.mem_filter.1 hy).1) (Nat.le_trans (List.length_filter_le _ _) (by omega)), by dsimp only; omega, by dsimp only; omega⟩
          · intro hd
            exact ⟨mk _ hp hm (by first | omega | (dsimp only; omega)), by dsimp only; omega, by dsimp only; omega⟩
        · intro hd; cases hd
  rw [if_neg h5] at hd ⊢
  by_cases h6 : o.kind = 6
  · rw [if_pos h6] at hd ⊢
    have mk : ∀ (ys : List Int), (ys = [] ∨ ∃ p, ys = [p] ∧ 0 ≤ p ∧ p < procs) → StOk o.kind procs (k + 1) ys := fun ys h1 =>
      ⟨(fun e => by omega), (fun e => by omega), (fun e => by omega), (fun e => by omega), fun _ => h1⟩
    unfold mutexL at hd ⊢
    revert hd
    split
    · intro hd
      exact ⟨mk _ (.inr ⟨_, rfl, ha.proc.1, ha.proc.2⟩), by dsimp only; omega, by dsimp only; omega⟩
    · split
      · intro hd
        exact ⟨mk _ (.inl rfl), by dsimp only; omega, by dsimp only; omega⟩
      · intro hd; cases hd
  · rw [if_neg h6] at hd; cases hd
end Go.Proofs.Ytlhgdbangnohjaa
