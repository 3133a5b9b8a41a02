/- The plain reading of a query, with other signs behind it, at other places, and one less deep. No Go text is spoken of. -/
import Derived.Test.YteilkcdbdpkbfaaDoorQPlain
import Derived.Test.YteilkcdbdpkbfaaDoorLexLaws
namespace Go.Proofs.YteilkcdbdpkbfaaDoor
open Go.RowKit
set_option linter.unusedVariables false
set_option linter.unusedSimpArgs false

theorem str_shift (k : Nat) (t : Tok) : (t.shift k).str = t.str := rfl
/-- What is read of some signs is read of them shifted, with others behind; or it is too deep. -/
def Ext (k : Nat) (D : Prop) (M : List Tok) (part part' : List Tok → PR NodeR) : Prop :=
  ∀ L n R, part L = .ok n R → part' (L.map (Tok.shift k) ++ M) = .ok n (R.map (Tok.shift k) ++ M) ∨ (D ∧ ∃ p, part' (L.map (Tok.shift k) ++ M) = .bad 44 p)
theorem isT_ext {M : List Tok} {b : ByteArray} (k : Nat) (h : isT M b = false) (L : List Tok) : isT (L.map (Tok.shift k) ++ M) b = isT L b := by
  cases L with
  | nil => simpa [isT] using h
  | cons t l => rfl
theorem isT_ne {L M : List Tok} {b : ByteArray} (k : Nat) (h : L ≠ []) : isT (L.map (Tok.shift k) ++ M) b = isT L b := by
  cases L with
  | nil => exact absurd rfl h
  | cons t l => rfl
theorem isT_some {L : List Tok} {b : ByteArray} (h : isT L b = true) : ∃ t l, L = t :: l := by
  cases L with
  | nil => simp [isT] at h
  | cons t l => exact ⟨t, l, rfl⟩
theorem moreP_ext {k : Nat} {D : Prop} {M : List Tok} {part part' : List Tok → PR NodeR} {b : ByteArray} (hp : Ext k D M part part') (hl : ∀ L n R, part L = .ok n R → R.length ≤ L.length) (hb : isT M b = false) :
    ∀ (f f' : Nat) (L : List Tok) (acc l : List NodeR) (S : List Tok), L.length ≤ f → L.length + M.length ≤ f' → moreP b part f L acc = .ok l S →
    moreP b part' f' (L.map (Tok.shift k) ++ M) acc = .ok l (S.map (Tok.shift k) ++ M) ∨ (D ∧ ∃ p, moreP b part' f' (L.map (Tok.shift k) ++ M) acc = .bad 44 p)
  | 0, f', L, acc, l, S, h, h', e => by
    obtain rfl : L = [] := List.eq_nil_of_length_eq_zero (by omega)
    simp only [moreP, PR.ok.injEq] at e
    obtain ⟨rfl, rfl⟩ := e
    left
    cases f' with
    | zero => rfl
    | succ f' => simp [moreP, hb]
  | f + 1, f', L, acc, l, S, h, h', e => by
    by_cases ht : isT L b = true
    · obtain ⟨t, l1, rfl⟩ := isT_some ht
      simp only [moreP, ht, if_true, List.tail_cons] at e
      obtain ⟨g, rfl⟩ : ∃ g, f' = g + 1 := ⟨f' - 1, by simp at h'; omega⟩
      have hx : isT (Tok.shift k t :: (l1.map (Tok.shift k) ++ M)) b = true := ht
      simp only [moreP, List.map_cons, List.cons_append, List.tail_cons]
      rw [if_pos hx]
      cases hr : part l1 with
      | bad e1 p1 => rw [hr] at e; cases e
      | ok n R =>
        rw [hr] at e
        have hlen := hl _ _ _ hr
        rcases hp _ _ _ hr with h1 | ⟨hD, p, h1⟩
        · rw [h1]
          exact moreP_ext hp hl hb f g R _ l S (by simp at h; omega) (by simp at h'; omega) e
        · right
          rw [h1]
          exact ⟨hD, p, rfl⟩
    · simp only [moreP, ht, if_false, PR.ok.injEq, Bool.false_eq_true] at e
      obtain ⟨rfl, rfl⟩ := e
      left
      cases f' with
      | zero => rfl
      | succ f' => rw [moreP, isT_ext k hb, if_neg ht]
theorem listP_ext {k : Nat} {D : Prop} {M : List Tok} {part part' : List Tok → PR NodeR} {b : ByteArray} {kd : Int} (hp : Ext k D M part part') (hl : ∀ L n R, part L = .ok n R → R.length ≤ L.length) (hb : isT M b = false) : Ext k D M (listP kd b part) (listP kd b part') := by
  intro L n R e
  unfold listP at e ⊢
  cases h0 : part L with
  | bad e1 p1 => rw [h0] at e; cases e
  | ok n0 R0 =>
    rw [h0] at e
    simp only at e
    rcases hp _ _ _ h0 with h1 | ⟨hD, p, h1⟩
    · rw [h1]
      simp only [isT_ext k hb]
      by_cases ht : isT R0 b = true
      · rw [if_pos ht] at e ⊢
        cases hm : moreP b part R0.length R0 [n0] with
        | bad e1 p1 => rw [hm] at e; cases e
        | ok l S =>
          rw [hm] at e
          cases e
          rcases moreP_ext hp hl hb R0.length (R0.map (Tok.shift k) ++ M).length R0 [n0] l R (Nat.le_refl _) (by simp) hm with h2 | ⟨hD, p, h2⟩
          · left; rw [h2]
          · right; rw [h2]; exact ⟨hD, p, rfl⟩
      · rw [if_neg ht] at e ⊢
        cases e
        left; rfl
    · right; rw [h1]; exact ⟨hD, p, rfl⟩
/-- A comparison that is read. -/
theorem compareP_iff (fin : Nat) (L : List Tok) (n : NodeR) (R : List Tok) : compareP fin L = .ok n R ↔ ∃ t m v, L = t :: m :: v :: R ∧ fieldB t.str = true ∧ (isT [m] bOpen || isT [m] bShut) = false ∧ m.kind = 3 ∧ v.kind ≠ 3 ∧
    ¬ (namesB t.str ≠ (valueQ t.str v.str).2 ∨ ((valueQ t.str v.str).2 = false ∧ v.kind ≠ 2) ∨ ((valueQ t.str v.str).2 = true ∧ m.str ≠ bEq ∧ m.str ≠ bNe)) ∧
    n = .mk 4 [] t.str m.str (if (valueQ t.str v.str).2 = true then (valueQ t.str v.str).1 else v.num) := by
  constructor
  · intro h
    unfold compareP at h
    split at h
    · simp [failP] at h
    · rename_i t L1
      split at h
      · rename_i hf
        split at h
        · simp [failP] at h
        · rename_i hb
          split at h
          · simp [failP] at h
          · rename_i m L2
            split at h
            · rename_i hk
              split at h
              · simp [failP] at h
              · rename_i v L3
                split at h
                · simp [failP] at h
                · rename_i hv
                  split at h
                  · simp [failP] at h
                  · rename_i hx
                    simp only [PR.ok.injEq] at h
                    obtain ⟨rfl, rfl⟩ := h
                    exact ⟨t, m, v, rfl, hf, by simpa [isT] using hb, hk, hv, hx, rfl⟩
            · simp [failP] at h
      · simp [failP] at h
  · rintro ⟨t, m, v, rfl, hf, hb, hk, hv, hx, rfl⟩
    have hb' : (isT (m :: v :: R) bOpen || isT (m :: v :: R) bShut) = false := hb
    unfold compareP
    simp only [hf, if_true, hb', Bool.false_eq_true, if_false, hk, hv, if_neg hx]
theorem nearP_iff (fin : Nat) (L : List Tok) (n : NodeR) (R : List Tok) : nearP fin L = .ok n R ↔ ∃ t v, L = t :: v :: R ∧ v.kind = 2 ∧ n = .mk 5 [] t.str ⟨#[]⟩ v.num := by
  constructor
  · intro h
    unfold nearP at h
    split at h
    · simp [failP] at h
    · rename_i t L1
      split at h
      · simp [failP] at h
      · rename_i v L2
        split at h
        · rename_i hk
          simp only [PR.ok.injEq] at h
          obtain ⟨rfl, rfl⟩ := h
          exact ⟨t, v, rfl, hk, rfl⟩
        · simp [failP] at h
  · rintro ⟨t, v, rfl, hk, rfl⟩
    unfold nearP
    simp only [hk, if_true]
theorem failP44 {α : Type} (fin : Nat) (L : List Tok) : ∃ p, failP (α := α) fin 44 L = .bad 44 p := by
  cases L with
  | nil => exact ⟨_, rfl⟩
  | cons t l => exact ⟨_, rfl⟩
/-- A part, with other signs behind, and as deep, or one less. -/
theorem partP_ext {k : Nat} {D : Prop} {M : List Tok} (fin fin' : Nat) (ha : isT M bAnd = false) (ho : isT M bOr = false) : ∀ (d d' : Nat), (d = d' ∨ (d = d' + 1 ∧ D)) → Ext k D M (partP fin d) (partP fin' d')
  | 0, d', hd, L, n, R, h => by simp [partP, failP] at h
  | d + 1, 0, hd, L, n, R, h => by
    rcases hd with hd | ⟨-, hD⟩
    · cases hd
    · right
      exact ⟨hD, failP44 _ _⟩
  | d + 1, d' + 1, hd, L, n, R, h => by
    have ih := partP_ext (k := k) (M := M) fin fin' ha ho d d' (by rcases hd with hd | ⟨hd, hD⟩; exact .inl (by omega); exact .inr ⟨by omega, hD⟩)
    have hne : L ≠ [] := by
      rintro rfl
      simp [partP, isT, compareP, failP] at h
    unfold partP at h ⊢
    simp only [isT_ne k hne]
    by_cases h1 : isT L bNot = true
    · rw [if_pos h1] at h ⊢
      obtain ⟨t, l, rfl⟩ := isT_some h1
      simp only [List.tail_cons, List.map_cons, List.cons_append] at h ⊢
      cases hr : partP fin d l with
      | bad e1 p1 => rw [hr] at h; cases h
      | ok n1 R1 =>
        rw [hr] at h
        cases h
        rcases ih _ _ _ hr with h2 | ⟨hD, p, h2⟩
        · left; rw [h2]
        · right; rw [h2]; exact ⟨hD, p, rfl⟩
    · rw [if_neg h1] at h ⊢
      by_cases h2 : isT L bAll = true
      · rw [if_pos h2] at h ⊢
        obtain ⟨t, l, rfl⟩ := isT_some h2
        cases h
        left; rfl
      · rw [if_neg h2] at h ⊢
        by_cases h3 : isT L bOpen = true
        · rw [if_pos h3] at h ⊢
          obtain ⟨t, l, rfl⟩ := isT_some h3
          simp only [List.tail_cons, List.map_cons, List.cons_append] at h ⊢
          cases hr : listP 1 bOr (listP 2 bAnd (partP fin d)) l with
          | bad e1 p1 => rw [hr] at h; cases h
          | ok n1 R1 =>
            rw [hr] at h
            simp only at h
            by_cases h4 : isT R1 bShut = true
            · rw [if_pos h4] at h
              cases h
              obtain ⟨t2, l2, rfl⟩ := isT_some h4
              rcases listP_ext (kd := 1) (listP_ext (kd := 2) ih (partP_len fin d) ha) (listP_len _ _ _ (partP_len fin d)) ho _ _ _ hr with h5 | ⟨hD, p, h5⟩
              · left
                rw [h5]
                have hx : isT (Tok.shift k t2 :: (l2.map (Tok.shift k) ++ M)) bShut = true := h4
                simp only [List.map_cons, List.cons_append, List.tail_cons]
                rw [if_pos hx]
              · right; rw [h5]; exact ⟨hD, p, rfl⟩
            · rw [if_neg h4] at h
              simp [failP] at h
        · rw [if_neg h3] at h ⊢
          by_cases h4 : (isT L bOverlaps || isT L bBefore || isT L bAfter) = true
          · rw [if_pos h4] at h ⊢
            obtain ⟨t, v, rfl, hk, rfl⟩ := (nearP_iff _ _ _ _).1 h
            left
            exact (nearP_iff _ _ _ _).2 ⟨t.shift k, v.shift k, rfl, hk, rfl⟩
          · rw [if_neg h4] at h ⊢
            obtain ⟨t, m, v, rfl, a1, a2, a3, a4, a5, rfl⟩ := (compareP_iff _ _ _ _).1 h
            left
            exact (compareP_iff _ _ _ _).2 ⟨t.shift k, m.shift k, v.shift k, rfl, a1, a2, a3, a4, a5, rfl⟩
theorem orP_ext {k : Nat} {D : Prop} {M : List Tok} (fin fin' : Nat) (ha : isT M bAnd = false) (ho : isT M bOr = false) (d d' : Nat) (hd : d = d' ∨ (d = d' + 1 ∧ D)) : Ext k D M (orP fin d) (orP fin' d') :=
  listP_ext (listP_ext (partP_ext fin fin' ha ho d d' hd) (partP_len fin d) ha) (listP_len _ _ _ (partP_len fin d)) ho
end Go.Proofs.YteilkcdbdpkbfaaDoor
