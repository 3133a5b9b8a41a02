/- Plain laws: which operation a text is. -/
import Derived.Test.YtdeegepmampanaaOpEncPlain
namespace Go.Proofs.Ytdeegepmampanaa
set_option linter.unusedVariables false
/-- The next number of a text, and what is behind it. -/
def one (t : List UInt8) : Option (Nat × List UInt8) := if 0 < (unvarP t).2 ∧ (unvarP t).1 ≤ 1099511627776 then some ((unvarP t).1, t.drop (unvarP t).2) else none
/-- So many numbers, and what is behind them. -/
def takeN : Nat → List UInt8 → Option (List Nat × List UInt8)
  | 0, t => some ([], t)
  | k + 1, t => match one t with
    | none => none
    | some (n, r) => (takeN k r).map fun p => (n :: p.1, p.2)
/-- All numbers of a text, at most so many. -/
def runR : Nat → List UInt8 → Option (List Nat)
  | 0, _ => some []
  | f + 1, t => if t = [] then some [] else match one t with
    | none => none
    | some (n, r) => (runR f r).map (n :: ·)
/-- The operation of eight numbers, and of ten. -/
def mk8 (l : List Nat) : OpR := ⟨l.getD 0 0, l.getD 1 0, l.getD 2 0, l.getD 3 0, l.getD 4 0, l.getD 5 0, l.getD 6 0, false, 0, l.getD 7 0, 0⟩
def mk10 (l : List Nat) : OpR := ⟨l.getD 0 0, l.getD 1 0, l.getD 2 0, l.getD 3 0, l.getD 4 0, l.getD 5 0, l.getD 6 0, true, unfoldV (l.getD 9 0), l.getD 7 0, l.getD 7 0 + l.getD 8 0⟩
def okOp (o : OpR) : Option OpR := if checkE o = 0 then some o else none
/-- Which operation a text is. -/
def decL (t : List UInt8) : Option OpR := match runR 11 t with
  | none => none
  | some l => if l.length = 8 then okOp (mk8 l) else if l.length = 10 then okOp (mk10 l) else none
theorem takeN_len : ∀ (k : Nat) (t : List UInt8) (p : List Nat × List UInt8), takeN k t = some p → p.1.length = k
  | 0, t, p, h => by
    simp only [takeN, Option.some.injEq] at h
    rw [← h]; rfl
  | k + 1, t, p, h => by
    unfold takeN at h
    cases ho : one t with
    | none => rw [ho] at h; cases h
    | some q =>
      rw [ho] at h
      obtain ⟨p', hp, rfl⟩ := Option.map_eq_some_iff.1 h
      have := takeN_len k _ _ hp
      simpa using this
theorem run_take : ∀ (k f : Nat) (t : List UInt8), k ≤ f → match takeN k t with
    | none => runR f t = none ∨ ∃ l, runR f t = some l ∧ l.length < k
    | some (ns, r) => runR f t = (runR (f - k) r).map (ns ++ ·)
  | 0, f, t, h => by simp [takeN]
  | k + 1, 0, t, h => by omega
  | k + 1, f + 1, t, h => by
    have ih := run_take k f
    unfold takeN
    cases ho : one t with
    | none =>
      simp only []
      by_cases ht : t = []
      · exact .inr ⟨[], by simp [runR, ht], by simp⟩
      · left
        simp [runR, ht, ho]
    | some q =>
      obtain ⟨n, r⟩ := q
      have ht : t ≠ [] := by
        intro h0
        subst h0
        rw [one, unvarP_none [] (by intro i h1 h2; simp at h2)] at ho
        simp at ho
      have hr := ih r (by omega)
      simp only []
      have e : runR (f + 1) t = (runR f r).map (n :: ·) := by simp [runR, ht, ho]
      rw [e]
      cases htk : takeN k r with
      | none =>
        rw [htk] at hr
        simp only [Option.map_none]
        rcases hr with hr | ⟨l, hl, hk⟩
        · left; rw [hr]; rfl
        · right; exact ⟨n :: l, by rw [hl]; rfl, by simp; omega⟩
      | some p =>
        rw [htk] at hr
        simp only [Option.map_some]
        simp only [] at hr
        rw [hr, show f + 1 - (k + 1) = f - k by omega]
        cases runR (f - k) p.2 <;> simp
/-- .. number by number, as the program reads. -/
theorem decL_take (t : List UInt8) : decL t = match takeN 8 t with
    | none => none
    | some (ns, r) => if r = [] then okOp (mk8 ns) else match takeN 2 r with
      | none => none
      | some (ms, q) => if q = [] then okOp (mk10 (ns ++ ms)) else none := by
  have h8 := run_take 8 11 t (by omega)
  unfold decL
  cases ht : takeN 8 t with
  | none =>
    rw [ht] at h8
    rcases h8 with h | ⟨l, h, hl⟩
    · rw [h]
    · rw [h]
      simp only []
      rw [if_neg (by omega), if_neg (by omega)]
  | some p =>
    obtain ⟨ns, r⟩ := p
    rw [ht] at h8
    simp only [] at h8 ⊢
    have hn := takeN_len 8 t _ ht
    simp only [] at hn
    rw [h8]
    by_cases hr : r = []
    · subst hr
      simp [runR, hn]
    · rw [if_neg hr]
      have h2 := run_take 2 3 r (by omega)
      cases ht2 : takeN 2 r with
      | none =>
        rw [ht2] at h2
        rcases h2 with h | ⟨l, h, hl⟩
        · simp [h]
        · have hl1 : l.length ≠ 0 := by
            intro h0
            have : l = [] := List.eq_nil_of_length_eq_zero h0
            subst this
            simp only [runR, hr, if_false] at h
            cases ho : one r with
            | none => rw [ho] at h; cases h
            | some q => rw [ho] at h; simp at h
          simp only [h, Option.map_some, List.length_append, hn]
          rw [if_neg (by omega), if_neg (by omega)]
      | some p2 =>
        obtain ⟨ms, q⟩ := p2
        rw [ht2] at h2
        simp only [] at h2 ⊢
        have hm := takeN_len 2 r _ ht2
        simp only [] at hm
        rw [h2]
        by_cases hq : q = []
        · subst hq
          simp [runR, hn, hm]
        · rw [if_neg hq]
          cases ho : one q with
          | none => simp [runR, hq, ho]
          | some z => simp [runR, hq, ho, hn, hm]
/-- The reader's state behind a number: the text that is left, and whether all was well. -/
def nx (p : List UInt8 × Bool) : List UInt8 × Bool := (p.1.drop (unvarP p.1).2, p.2 && (decide (0 < (unvarP p.1).2) && decide ((unvarP p.1).1 ≤ 1099511627776)))
/-- The number. -/
def nv (p : List UInt8 × Bool) : Nat := (unvarP p.1).1
theorem nx_bad (p : List UInt8 × Bool) (h : p.2 = false) : (nx p).2 = false := by simp [nx, h]
theorem nx_one (t : List UInt8) : match one t with
    | none => (nx (t, true)).2 = false
    | some (n, r) => nx (t, true) = (r, true) ∧ nv (t, true) = n := by
  unfold one
  by_cases h : 0 < (unvarP t).2 ∧ (unvarP t).1 ≤ 1099511627776
  · rw [if_pos h]
    simp only []
    exact ⟨by simp [nx, h.1, h.2], rfl⟩
  · rw [if_neg h]
    simp only [nx, Bool.true_and, Bool.and_eq_false_iff, decide_eq_false_iff_not]
    omega
/-- So many steps of the reader. -/
def nxs : Nat → List UInt8 × Bool → List UInt8 × Bool
  | 0, p => p
  | k + 1, p => nxs k (nx p)
/-- .. and the numbers. -/
def nvs : Nat → List UInt8 × Bool → List Nat
  | 0, _ => []
  | k + 1, p => nv p :: nvs k (nx p)
theorem nxs_bad : ∀ (k : Nat) (p : List UInt8 × Bool), p.2 = false → (nxs k p).2 = false
  | 0, p, h => h
  | k + 1, p, h => nxs_bad k _ (nx_bad p h)
theorem nxs_take : ∀ (k : Nat) (t : List UInt8), match takeN k t with
    | none => (nxs k (t, true)).2 = false
    | some (ns, r) => nxs k (t, true) = (r, true) ∧ nvs k (t, true) = ns
  | 0, t => ⟨rfl, rfl⟩
  | k + 1, t => by
    have h1 := nx_one t
    unfold takeN
    cases ho : one t with
    | none =>
      rw [ho] at h1
      exact nxs_bad k _ h1
    | some q =>
      obtain ⟨n, r⟩ := q
      rw [ho] at h1
      obtain ⟨e1, e2⟩ := h1
      have ih := nxs_take k r
      simp only []
      cases htk : takeN k r with
      | none =>
        rw [htk] at ih
        simp only [Option.map_none, nxs, e1]
        exact ih
      | some p =>
        rw [htk] at ih
        simp only [Option.map_some, nxs, nvs, e1, e2]
        exact ⟨ih.1, by rw [ih.2]⟩
/-- Which operation a text is, as the program reads it. -/
theorem decL_nx (t : List UInt8) : decL t = if (nxs 8 (t, true)).2 = true then (if (nxs 8 (t, true)).1 = [] then okOp (mk8 (nvs 8 (t, true)))
      else if (nxs 10 (t, true)).2 = true ∧ (nxs 10 (t, true)).1 = [] then okOp (mk10 (nvs 10 (t, true))) else none) else none := by
  rw [decL_take]
  have h8 := nxs_take 8 t
  cases ht : takeN 8 t with
  | none =>
    rw [ht] at h8
    simp only []
    rw [if_neg (by rw [h8]; decide)]
  | some p =>
    obtain ⟨ns, r⟩ := p
    rw [ht] at h8
    obtain ⟨e1, e2⟩ := h8
    simp only []
    rw [e1, e2]
    simp only [if_true]
    by_cases hr : r = []
    · rw [if_pos hr, if_pos hr]
    · rw [if_neg hr, if_neg hr]
      have h2 := nxs_take 2 r
      have e10 : nxs 10 (t, true) = nxs 2 (nxs 8 (t, true)) := rfl
      have v10 : nvs 10 (t, true) = nvs 8 (t, true) ++ nvs 2 (nxs 8 (t, true)) := rfl
      rw [e10, v10, e1, e2]
      cases ht2 : takeN 2 r with
      | none =>
        rw [ht2] at h2
        simp only []
        rw [if_neg (by rw [h2]; simp)]
      | some q =>
        obtain ⟨ms, z⟩ := q
        rw [ht2] at h2
        obtain ⟨f1, f2⟩ := h2
        simp only []
        rw [f1, f2]
        simp
end Go.Proofs.Ytdeegepmampanaa
