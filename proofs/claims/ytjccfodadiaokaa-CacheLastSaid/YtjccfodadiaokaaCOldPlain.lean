/- Things that were put in order, and never used again. No Go text is spoken of. -/
import Derived.Test.YtjccfodadiaokaaCPure
namespace Go.Proofs.Ytjccfodadiaokaa
open Go.RowKit
set_option linter.unusedVariables false
set_option linter.unusedSimpArgs false
def oldItem (s : ByteArray) (k : Int) : CItem := ⟨k, s, 0⟩
/-- The last ones, the last ahead. -/
def oldL (s : ByteArray) (m i : Nat) : List CItem := (List.range (min i m)).map fun (q : Nat) => oldItem s ((i : Int) - 1 - (q : Int))
theorem oldL_length (s : ByteArray) (m i : Nat) : (oldL s m i).length = min i m := by simp [oldL]
theorem oldL_at (s : ByteArray) (m i q : Nat) (h : q < (oldL s m i).length) : (oldL s m i)[q] = oldItem s ((i : Int) - 1 - q) := by simp [oldL]
theorem oldL_pins (s : ByteArray) (m i : Nat) : ∀ x ∈ oldL s m i, x.pins = 0 := by
  intro x hx
  unfold oldL at hx
  obtain ⟨q, -, rfl⟩ := List.mem_map.1 hx
  rfl
theorem oldL_keys (s : ByteArray) (m i : Nat) : ∀ x ∈ oldL s m i, x.key ≠ (i : Int) := by
  intro x hx
  unfold oldL at hx
  obtain ⟨q, -, rfl⟩ := List.mem_map.1 hx
  show (i : Int) - 1 - q ≠ i
  omega
theorem findL_eq_none {k : Int} : ∀ {l : List CItem}, (∀ x ∈ l, x.key ≠ k) → findL k l = none
  | [], _ => rfl
  | y :: l, h => by
    unfold findL
    rw [if_neg (h y (List.mem_cons_self ..)), findL_eq_none (fun x hx => h x (List.mem_cons_of_mem _ hx))]
    rfl
theorem lastFree_zero : ∀ {l : List CItem}, (∀ x ∈ l, x.pins = 0) → l ≠ [] → lastFree l = some (l.length - 1)
  | [], _, h => absurd rfl h
  | [x], h, _ => by
    have := h x (List.mem_cons_self ..)
    simp [lastFree, this]
  | x :: y :: l, h, _ => by
    have ih := lastFree_zero (l := y :: l) (fun z hz => h z (List.mem_cons_of_mem _ hz)) (by simp)
    rw [lastFree, ih]
    simp
theorem oldL_step_room (s : ByteArray) (m i : Nat) (h : i < m) : oldItem s i :: oldL s m i = oldL s m (i + 1) := by
  apply List.ext_getElem
  · rw [List.length_cons, oldL_length, oldL_length]; omega
  · intro q h1 h2
    rw [oldL_at]
    cases q with
    | zero =>
      show oldItem s i = _
      congr 1
      omega
    | succ q =>
      rw [List.getElem_cons_succ, oldL_at]
      congr 1
      omega
theorem oldL_step_full (s : ByteArray) (m i : Nat) (h : m ≤ i) (hm : 1 ≤ m) : oldItem s i :: cutL (m - 1) (oldL s m i) = oldL s m (i + 1) := by
  have hl := oldL_length s m i
  have e : cutL (m - 1) (oldL s m i) = (oldL s m i).take (m - 1) := by
    unfold cutL
    rw [List.drop_eq_nil_of_le (by rw [hl]; omega), List.append_nil]
  rw [e]
  apply List.ext_getElem
  · rw [List.length_cons, List.length_take, oldL_length, oldL_length]; omega
  · intro q h1 h2
    rw [oldL_at]
    cases q with
    | zero =>
      show oldItem s i = _
      congr 1
      omega
    | succ q =>
      rw [List.getElem_cons_succ, List.getElem_take, oldL_at]
      congr 1
      omega
theorem old_put (s : ByteArray) (m i : Nat) (hm : 1 ≤ m) : putP (m : Int) (oldL s m i) (i : Int) s = (oldL s m (i + 1), if i < m then 0 else (i : Int) - m, decide (m ≤ i), 0) := by
  unfold putP
  rw [findL_eq_none (oldL_keys s m i)]
  dsimp only
  have hl := oldL_length s m i
  by_cases h : i < m
  · rw [if_pos (by rw [hl]; omega), if_pos h, decide_eq_false (by omega)]
    show (oldItem s i :: oldL s m i, _) = _
    rw [oldL_step_room s m i h]
  · rw [if_neg (by rw [hl]; omega), if_neg h, decide_eq_true (by omega), lastFree_zero (oldL_pins s m i) (by intro e; rw [e] at hl; simp at hl; omega)]
    dsimp only
    have hlen : (oldL s m i).length - 1 = m - 1 := by rw [hl]; omega
    rw [hlen]
    have hk : ((oldL s m i).getD (m - 1) noItem).key = (i : Int) - m := by
      have hlt : m - 1 < (oldL s m i).length := by rw [hl]; omega
      rw [List.getD_eq_getElem?_getD, List.getElem?_eq_getElem hlt, Option.getD_some, oldL_at]
      show (i : Int) - 1 - ((m - 1 : Nat) : Int) = _
      omega
    rw [hk]
    show (oldItem s i :: cutL (m - 1) (oldL s m i), _) = _
    rw [oldL_step_full s m i (by omega) hm]
end Go.Proofs.Ytjccfodadiaokaa
