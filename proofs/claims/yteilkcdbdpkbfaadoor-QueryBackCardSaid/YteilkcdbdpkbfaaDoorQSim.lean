/- The plain reading of a query does not look at the places of the signs, where it reads. No Go text is spoken of. -/
import Derived.Test.YteilkcdbdpkbfaaDoorQTail
namespace Go.Proofs.YteilkcdbdpkbfaaDoor
open Go.RowKit
set_option linter.unusedVariables false
set_option linter.unusedSimpArgs false
/-- The same signs, at whatever places. -/
def Sim : List Tok → List Tok → Prop
  | [], [] => True
  | a :: l, b :: m => (a.kind = b.kind ∧ a.text = b.text ∧ a.num = b.num) ∧ Sim l m
  | _, _ => False
theorem Sim.refl : ∀ L : List Tok, Sim L L
  | [] => trivial
  | a :: l => ⟨⟨rfl, rfl, rfl⟩, Sim.refl l⟩
theorem Sim.symm : ∀ {L M : List Tok}, Sim L M → Sim M L
  | [], [], _ => trivial
  | a :: l, b :: m, h => ⟨⟨h.1.1.symm, h.1.2.1.symm, h.1.2.2.symm⟩, Sim.symm h.2⟩
  | [], b :: m, h => h.elim
  | a :: l, [], h => h.elim
theorem Sim.length : ∀ {L M : List Tok}, Sim L M → L.length = M.length
  | [], [], _ => rfl
  | a :: l, b :: m, h => by simp [Sim.length h.2]
  | [], b :: m, h => h.elim
  | a :: l, [], h => h.elim
theorem Sim.append : ∀ {L M L' M' : List Tok}, Sim L M → Sim L' M' → Sim (L ++ L') (M ++ M')
  | [], [], _, _, _, h => h
  | a :: l, b :: m, _, _, h, h' => ⟨h.1, Sim.append h.2 h'⟩
  | [], b :: m, _, _, h, _ => h.elim
  | a :: l, [], _, _, h, _ => h.elim
theorem Sim.cons {a : Tok} {l M : List Tok} (h : Sim (a :: l) M) : ∃ b m, M = b :: m ∧ a.kind = b.kind ∧ a.text = b.text ∧ a.num = b.num ∧ Sim l m := by
  cases M with
  | nil => exact h.elim
  | cons b m => exact ⟨b, m, rfl, h.1.1, h.1.2.1, h.1.2.2, h.2⟩
theorem Sim.nil {M : List Tok} (h : Sim [] M) : M = [] := by
  cases M with
  | nil => rfl
  | cons b m => exact h.elim
theorem Sim.str {a b : Tok} (h : a.text = b.text) : a.str = b.str := by unfold Tok.str; rw [h]
theorem Sim.isT {L M : List Tok} (h : Sim L M) (b : ByteArray) : isT L b = isT M b := by
  cases L with
  | nil => rw [h.nil]
  | cons a l =>
    obtain ⟨c, m, rfl, -, h2, -, -⟩ := h.cons
    show (a.str.toList == b.toList) = (c.str.toList == b.toList)
    rw [Sim.str h2]
theorem Sim.tail {L M : List Tok} (h : Sim L M) : Sim L.tail M.tail := by
  cases L with
  | nil => rw [h.nil]; trivial
  | cons a l =>
    obtain ⟨c, m, rfl, -, -, -, h2⟩ := h.cons
    exact h2
theorem joinP_sim : ∀ (l : List Tok) (i : Nat), Sim l (joinP i l)
  | [], _ => trivial
  | t :: ts, i => ⟨⟨rfl, rfl, rfl⟩, joinP_sim ts _⟩
/-- Read alike. -/
def Alike {α : Type} (part part' : List Tok → PR α) : Prop := ∀ L n R L', Sim L L' → part L = .ok n R → ∃ R', Sim R R' ∧ part' L' = .ok n R'
theorem moreP_sim {b : ByteArray} {part part' : List Tok → PR NodeR} (hp : Alike part part') : ∀ (f : Nat) (L : List Tok) (acc l : List NodeR) (S L' : List Tok), Sim L L' → moreP b part f L acc = .ok l S → ∃ S', Sim S S' ∧ moreP b part' f L' acc = .ok l S'
  | 0, L, acc, l, S, L', h, e => by
    simp only [moreP, PR.ok.injEq] at e ⊢
    obtain ⟨rfl, rfl⟩ := e
    exact ⟨L', h, rfl, rfl⟩
  | f + 1, L, acc, l, S, L', h, e => by
    unfold moreP at e ⊢
    rw [← h.isT b]
    by_cases ht : isT L b = true
    · rw [if_pos ht] at e ⊢
      cases hr : part L.tail with
      | bad e1 p1 => rw [hr] at e; cases e
      | ok n R =>
        rw [hr] at e
        obtain ⟨R', hR, h1⟩ := hp _ _ _ _ h.tail hr
        rw [h1]
        exact moreP_sim hp f R _ l S R' hR e
    · rw [if_neg ht] at e ⊢
      simp only [PR.ok.injEq] at e
      obtain ⟨rfl, rfl⟩ := e
      exact ⟨L', h, rfl⟩
theorem listP_sim {k : Int} {b : ByteArray} {part part' : List Tok → PR NodeR} (hp : Alike part part') : Alike (listP k b part) (listP k b part') := by
  intro L n R L' h e
  unfold listP at e ⊢
  cases h0 : part L with
  | bad e1 p1 => rw [h0] at e; cases e
  | ok n0 R0 =>
    rw [h0] at e
    simp only at e
    obtain ⟨R0', hR0, h1⟩ := hp _ _ _ _ h h0
    rw [h1]
    simp only
    rw [← hR0.isT b]
    by_cases ht : isT R0 b = true
    · rw [if_pos ht] at e ⊢
      cases hm : moreP b part R0.length R0 [n0] with
      | bad e1 p1 => rw [hm] at e; cases e
      | ok l S =>
        rw [hm] at e
        obtain ⟨S', hS, h2⟩ := moreP_sim hp _ _ _ _ _ _ hR0 hm
        rw [hR0.length] at h2
        rw [h2]
        cases e
        exact ⟨S', hS, rfl⟩
    · rw [if_neg ht] at e ⊢
      cases e
      exact ⟨R0', hR0, rfl⟩
theorem compareP_sim (fin fin' : Nat) : Alike (compareP fin) (compareP fin') := by
  intro L n R L' h e
  obtain ⟨t, m, v, rfl, a1, a2, a3, a4, a5, rfl⟩ := (compareP_iff _ _ _ _).1 e
  obtain ⟨t', l1, rfl, -, b2, -, h1⟩ := h.cons
  obtain ⟨m', l2, rfl, c1, c2, c3, h2⟩ := h1.cons
  obtain ⟨v', R', rfl, d1, d2, d3, h3⟩ := h2.cons
  refine ⟨R', h3, (compareP_iff _ _ _ _).2 ⟨t', m', v', rfl, ?_⟩⟩
  have e1 : isT [m] bOpen = isT [m'] bOpen := Sim.isT (L := [m]) (M := [m']) ⟨⟨c1, c2, c3⟩, trivial⟩ bOpen
  have e2 : isT [m] bShut = isT [m'] bShut := Sim.isT (L := [m]) (M := [m']) ⟨⟨c1, c2, c3⟩, trivial⟩ bShut
  rw [← e1, ← e2, ← Sim.str b2, ← Sim.str c2, ← Sim.str d2, ← c1, ← d1, ← d3]
  exact ⟨a1, a2, a3, a4, a5, rfl⟩
theorem partP_sim (fin fin' : Nat) : ∀ d, Alike (partP fin d) (partP fin' d)
  | 0, L, n, R, L', _, h => by simp [partP, failP] at h
  | d + 1, L, n, R, L', h, e => by
    unfold partP at e ⊢
    have hi := fun b => (h.isT b).symm
    simp only [hi]
    by_cases h1 : isT L bNot = true
    · rw [if_pos h1] at e ⊢
      cases hr : partP fin d L.tail with
      | bad e1 p1 => rw [hr] at e; cases e
      | ok n1 R1 =>
        rw [hr] at e
        cases e
        obtain ⟨R', hR, h2⟩ := partP_sim fin fin' d _ _ _ _ h.tail hr
        rw [h2]
        exact ⟨R', hR, rfl⟩
    · rw [if_neg h1] at e ⊢
      by_cases h2 : isT L bAll = true
      · rw [if_pos h2] at e ⊢
        cases e
        exact ⟨L'.tail, h.tail, rfl⟩
      · rw [if_neg h2] at e ⊢
        by_cases h3 : isT L bOpen = true
        · rw [if_pos h3] at e ⊢
          cases hr : listP 1 bOr (listP 2 bAnd (partP fin d)) L.tail with
          | bad e1 p1 => rw [hr] at e; cases e
          | ok n1 R1 =>
            rw [hr] at e
            simp only at e
            by_cases h4 : isT R1 bShut = true
            · rw [if_pos h4] at e
              cases e
              obtain ⟨R', hR, h5⟩ := listP_sim (k := 1) (b := bOr) (listP_sim (k := 2) (b := bAnd) (partP_sim fin fin' d)) _ _ _ _ h.tail hr
              rw [h5]
              simp only
              rw [← hR.isT bShut, if_pos h4]
              exact ⟨R'.tail, hR.tail, rfl⟩
            · rw [if_neg h4] at e
              simp [failP] at e
        · rw [if_neg h3] at e ⊢
          by_cases h4 : (isT L bOverlaps || isT L bBefore || isT L bAfter) = true
          · rw [if_pos h4] at e ⊢
            obtain ⟨t, v, rfl, hk, rfl⟩ := (nearP_iff _ _ _ _).1 e
            obtain ⟨t', l1, rfl, -, b2, -, h5⟩ := h.cons
            obtain ⟨v', R', rfl, d1, -, d3, h6⟩ := h5.cons
            refine ⟨R', h6, (nearP_iff _ _ _ _).2 ⟨t', v', rfl, by rw [← d1]; exact hk, ?_⟩⟩
            rw [Sim.str b2, d3]
          · rw [if_neg h4] at e ⊢
            exact compareP_sim fin fin' _ _ _ _ h e
theorem orP_sim (fin fin' d : Nat) : Alike (orP fin d) (orP fin' d) := listP_sim (listP_sim (partP_sim fin fin' d))
end Go.Proofs.YteilkcdbdpkbfaaDoor
