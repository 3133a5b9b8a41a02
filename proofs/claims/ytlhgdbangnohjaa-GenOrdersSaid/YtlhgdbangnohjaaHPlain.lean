/- Histories, plainly: what is wrong with one, and beside others. -/
import Derived.Test.YtlhgdbangnohjaaMOps
import Derived.Test.YtlhgdbangnohjaaOpTimes
namespace Go.Proofs.Ytlhgdbangnohjaa
open Go.RowKit
set_option linter.unusedVariables false
/-- The operation that is none. -/
def opZ : OpR := ⟨0, 0, 0, 0, 0, 0, 0, false, 0, 0, 0⟩
/-- The operation at a place. -/
def opAt (l : List OpR) (k : Nat) : OpR := l.getD k opZ
theorem opAt_eq {l : List OpR} {k : Nat} (h : k < l.length) : opAt l k = l[k] := by simp [opAt, List.getD, List.getElem?_eq_getElem h]
theorem Ops.read {w : World} {v : Value} {l : List OpR} (h : Ops w v l) : ∃ p cap, v = .slice p l.length cap ∧ l.length ≤ 1600000000000 ∧ ∀ k, k < l.length → ∃ (b off : Nat), p = some ⟨b, off, none⟩ ∧ OpAt w b (off + k * 11) (opAt l k) := by
  obtain ⟨p, cap, rfl, hl, hc⟩ := h
  refine ⟨p, cap, rfl, hl, fun k hk => ?_⟩
  obtain ⟨b, off, e, H⟩ := hc (by omega)
  refine ⟨b, off, e, ?_⟩
  rw [opAt_eq hk]
  exact H k hk
/-- Has another one an object's number with another kind? -/
def kindB (o p : OpR) : Bool := p.id != o.id && (p.obj == o.obj && p.kind != o.kind)
/-- Has another one the same process, at the same time? -/
def busyB (o p : OpR) : Bool := p.id != o.id && (p.proc == o.proc && (!befB p o && !befB o p))
/-- What is wrong with an operation beside others. -/
def besideE (l : List OpR) (o : OpR) : Int := if l.any (kindB o) then 33 else if l.any (busyB o) then 32 else 0
/-- The first number that isn't 0. -/
def firstE (f : Nat → Int) : Nat → Int
  | 0 => 0
  | n + 1 => if firstE f n = 0 then f n else firstE f n
theorem firstE_zero (f : Nat → Int) : ∀ n, (∀ k, k < n → f k = 0) → firstE f n = 0
  | 0, _ => rfl
  | n + 1, h => by
    unfold firstE
    rw [if_pos (firstE_zero f n (fun k hk => h k (by omega)))]
    exact h n (by omega)
theorem firstE_hit (f : Nat → Int) (i : Nat) (hf : f i ≠ 0) (hz : ∀ k, k < i → f k = 0) : ∀ n, i < n → firstE f n = f i
  | 0, h => by omega
  | n + 1, h => by
    unfold firstE
    by_cases e : i = n
    · subst e
      rw [if_pos (firstE_zero f i hz)]
    · have ih := firstE_hit f i hf hz n (by omega)
      rw [if_neg (by rw [ih]; exact hf), ih]
theorem firstE_all {f : Nat → Int} : ∀ {n : Nat}, firstE f n = 0 → ∀ k, k < n → f k = 0
  | 0, _, k, hk => by omega
  | n + 1, h, k, hk => by
    unfold firstE at h
    by_cases e : firstE f n = 0
    · rw [if_pos e] at h
      by_cases e2 : k = n
      · subst e2; exact h
      · exact firstE_all e k (by omega)
    · rw [if_neg e] at h
      exact absurd h e
/-- What is wrong with an operation in its place. -/
def roundE (l : List OpR) (k : Nat) : Int := if checkE (opAt l k) ≠ 0 then checkE (opAt l k) else if 0 < k ∧ (opAt l k).id ≤ (opAt l (k - 1)).id then 7 else 0
/-- What is wrong with a history. -/
def histE (l : List OpR) : Int := if 64 < l.length then 34 else if firstE (roundE l) l.length ≠ 0 then firstE (roundE l) l.length else firstE (fun k => besideE l (opAt l k)) l.length
theorem any_false {l : List OpR} {q : OpR → Bool} (h : ∀ k, k < l.length → q (opAt l k) = false) : l.any q = false := by
  rw [List.any_eq_false]
  intro x hx
  obtain ⟨k, hk, rfl⟩ := List.getElem_of_mem hx
  rw [← opAt_eq hk, h k hk]
  simp
theorem any_true {l : List OpR} {q : OpR → Bool} {k : Nat} (hk : k < l.length) (h : q (opAt l k) = true) : l.any q = true := by
  rw [List.any_eq_true]
  exact ⟨l[k], List.getElem_mem hk, by rw [← opAt_eq hk]; exact h⟩
/-- The numbers rise. -/
def Rises (l : List OpR) : Prop := ∀ i j, i < j → j < l.length → (opAt l i).id < (opAt l j).id
/-- What a history that may be is. -/
structure Hist (l : List OpR) : Prop where
  short : l.length ≤ 64
  each : ∀ k, k < l.length → checkE (opAt l k) = 0
  rise : Rises l
  beside : ∀ k, k < l.length → besideE l (opAt l k) = 0
theorem rises_of {l : List OpR} (h : ∀ k, k < l.length → 0 < k → (opAt l (k - 1)).id < (opAt l k).id) : Rises l := by
  intro i j
  induction j with
  | zero => omega
  | succ j ih =>
    intro hij hj
    have h1 := h (j + 1) hj (by omega)
    rw [Nat.add_sub_cancel] at h1
    by_cases e : i = j
    · subst e; exact h1
    · have := ih (by omega) (by omega)
      omega
theorem hist_of {l : List OpR} (h : histE l = 0) : Hist l := by
  unfold histE at h
  by_cases h1 : 64 < l.length
  · rw [if_pos h1] at h; omega
  · rw [if_neg h1] at h
    by_cases h2 : firstE (roundE l) l.length = 0
    · rw [if_neg (by simpa using h2)] at h
      have hr := firstE_all h2
      refine ⟨by omega, fun k hk => ?_, rises_of fun k hk h0 => ?_, fun k hk => firstE_all h k hk⟩
      · have := hr k hk
        unfold roundE at this
        by_cases e : checkE (opAt l k) = 0
        · exact e
        · rw [if_pos e] at this; exact this
      · have := hr k hk
        unfold roundE at this
        by_cases e : checkE (opAt l k) = 0
        · rw [if_neg (by simpa using e)] at this
          by_cases e2 : 0 < k ∧ (opAt l k).id ≤ (opAt l (k - 1)).id
          · rw [if_pos e2] at this; omega
          · omega
        · rw [if_pos e] at this; exact absurd this e
    · rw [if_pos h2] at h
      exact absurd h h2
theorem of_hist {l : List OpR} (h : Hist l) : histE l = 0 := by
  unfold histE
  have hs := h.short
  have h2 : firstE (roundE l) l.length = 0 := firstE_zero _ _ fun k hk => by
    unfold roundE
    have he := h.each k hk
    rw [if_neg (by simpa using he)]
    rw [if_neg]
    rintro ⟨h0, hle⟩
    have := h.rise (k - 1) k (by omega) hk
    omega
  rw [if_neg (by omega), if_neg (by simpa using h2)]
  exact firstE_zero _ _ h.beside
/-- Where an operation is, or would be: the numbers ahead of it are less. -/
def placeL : List OpR → Int → Nat
  | [], _ => 0
  | o :: l, x => if o.id < x then placeL l x + 1 else 0
/-- Is an operation of that number there? -/
def thereB (l : List OpR) (x : Int) : Bool := l.any fun o => o.id == x
theorem placeL_spec (l : List OpR) (x : Int) (i : Nat) (hi : i ≤ l.length) (h1 : ∀ k, k < i → (opAt l k).id < x) (h2 : i < l.length → x ≤ (opAt l i).id) : placeL l x = i := by
  induction l generalizing i with
  | nil => simp at hi; subst hi; rfl
  | cons o l ih =>
    unfold placeL
    cases i with
    | zero =>
      have : x ≤ o.id := by simpa [opAt] using h2 (by simp)
      rw [if_neg (by omega)]
    | succ i =>
      have : o.id < x := by simpa [opAt] using h1 0 (by omega)
      rw [if_pos this, ih i (by simpa using hi) (fun k hk => by simpa [opAt] using h1 (k + 1) (by omega)) (fun h => by simpa [opAt] using h2 (by simpa using h))]
end Go.Proofs.Ytlhgdbangnohjaa
