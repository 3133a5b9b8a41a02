/- Two edits of different operations, in both orders; an edit that is taken back: plainly. -/
import Derived.Test.YtljimlaalebmaaaHOwn
namespace Go.Proofs.Ytljimlaalebmaaa
open Go.RowKit
set_option linter.unusedVariables false
set_option linter.unusedSimpArgs false
theorem s_id {l : List OpR} (hl : HistM l) {k : Int} {e : OpR} {s : Option OpR} (h : ownE (findL l e.id) k e = some s) : ∀ r, s = some r → r.id = e.id := by
  rintro r rfl
  exact ownE_id (fun o ho => ((findL_some hl.rise).1 ho).2) h
theorem two_half {l : List OpR} (hl : HistM l) {k1 k2 : Int} {e1 e2 : OpR} (hne : e1.id ≠ e2.id) (h1 : (applyL l k1 e1).2.2.2 = 0) (h2 : (applyL l k2 e2).2.2.2 = 0)
    (hg : (applyL (applyL l k1 e1).1 k2 e2).2.2.2 = 0) : (applyL (applyL l k2 e2).1 k1 e1).2.2.2 = 0 ∧ (applyL (applyL l k1 e1).1 k2 e2).1 = (applyL (applyL l k2 e2).1 k1 e1).1 := by
  obtain ⟨s1, o1, b1, n1⟩ := own_apply hl h1
  obtain ⟨s2, o2, b2, n2⟩ := own_apply hl h2
  have i1 := s_id hl o1
  have i2 := s_id hl o2
  obtain ⟨a, ea, ma, ha, la⟩ := apply_own hl o1 b1 n1
  obtain ⟨b, eb, mb, hb, lb⟩ := apply_own hl o2 b2 n2
  rw [ea] at hg ⊢
  rw [eb]
  dsimp only at hg ⊢
  have fa := (find_behind hl ha i1 ma).2 e2.id (fun e => hne e.symm)
  have fb := (find_behind hl hb i2 mb).2 e1.id hne
  obtain ⟨t, ot, bt, nt⟩ := own_apply ha hg
  rw [fa, o2] at ot
  cases ot
  have hp := (two_let hl ha i1 ma b2).1 bt
  have bb : ∀ r, s1 = some r → besideE b r = 0 := (two_let hl hb i2 mb b1).2 (fun r hr q hq => (hp q hq r hr).symm)
  have nb : k1 = 1 → b.length < 64 := by
    intro hk
    have hl1 := n1 hk
    have hla := la
    rw [if_neg (by omega), if_pos hk] at hla
    by_cases h3 : k2 = 1
    · have := nt h3
      rw [if_neg (by omega), if_pos h3] at lb
      omega
    · rw [if_neg h3] at lb
      split at lb <;> omega
  obtain ⟨d, ed, md, hd, -⟩ := apply_own hb (by rw [fb]; exact o1) bb nb
  obtain ⟨c, ec, mc, hc, -⟩ := apply_own ha (by rw [fa]; exact o2) bt nt
  rw [ed, ec]
  refine ⟨rfl, hist_ext hc hd fun p => ?_⟩
  rw [mc, md, ma, mb]
  constructor
  · rintro (h | ⟨h | h, h'⟩)
    · exact .inr ⟨.inl h, by rw [i2 p h]; exact fun e => hne e.symm⟩
    · exact .inl h
    · exact .inr ⟨.inr ⟨h.1, h'⟩, h.2⟩
  · rintro (h | ⟨h | h, h'⟩)
    · exact .inr ⟨.inl h, by rw [i1 p h]; exact hne⟩
    · exact .inl h
    · exact .inr ⟨.inr ⟨h.1, h'⟩, h.2⟩
/-- In both orders. -/
theorem two_law {l : List OpR} (hl : HistM l) {k1 k2 : Int} {e1 e2 : OpR} (hne : e1.id ≠ e2.id) (h1 : (applyL l k1 e1).2.2.2 = 0) (h2 : (applyL l k2 e2).2.2.2 = 0) :
    ((applyL (applyL l k1 e1).1 k2 e2).2.2.2 = 0 ↔ (applyL (applyL l k2 e2).1 k1 e1).2.2.2 = 0) ∧
    ((applyL (applyL l k1 e1).1 k2 e2).2.2.2 = 0 → (applyL (applyL l k1 e1).1 k2 e2).1 = (applyL (applyL l k2 e2).1 k1 e1).1) :=
  ⟨⟨fun h => (two_half hl hne h1 h2 h).1, fun h => (two_half hl (fun e => hne e.symm) h2 h1 h).1⟩, fun h => (two_half hl hne h1 h2 h).2⟩
/-- The edit that takes one back. -/
def backK (k : Int) : Int := if k = 1 then 2 else if k = 2 then 1 else if k = 5 then 6 else if k = 6 then 5 else k
def backO (k : Int) (was now : OpR) : OpR := if k = 1 then now else was
theorem pend_zero {y : OpR} (h : checkE y = 0) (hd : y.done = false) : y.res = 0 ∧ y.ret = 0 := by
  obtain ⟨-, h2, h3⟩ := checkE_ok h
  simp [bad2, bad3, hd] at h2 h3
  exact ⟨h2.2.2, h3.2⟩
theorem changed_back {y e : OpR} {k : Int} (hy : checkE y = 0) (hk : ¬ (k < 1 ∨ 6 < k)) (h1 : ¬ k = 1) (h2 : ¬ k = 2) (hc : (changedL y k e).2 = 0) : changedL (changedL y k e).1 (backK k) y = (y, 0) := by
  obtain ⟨id, proc, obj, kind, meth, arg, sec, done, res, inv, ret⟩ := y
  have hz := pend_zero hy
  dsimp only at hz
  have : k = 3 ∨ k = 4 ∨ k = 5 ∨ k = 6 := by omega
  rcases this with rfl | rfl | rfl | rfl
  · simp [changedL, backK]
  · simp [changedL, backK]
  · cases done
    · obtain ⟨rfl, rfl⟩ := hz rfl
      simp [changedL, backK]
    · simp [changedL] at hc
  · cases done
    · simp [changedL] at hc
    · simp [changedL, backK]
theorem back_law {l : List OpR} (hl : HistM l) {k : Int} {e : OpR} (h : (applyL l k e).2.2.2 = 0) :
    applyL (applyL l k e).1 (backK k) (backO k (applyL l k e).2.1 (applyL l k e).2.2.1) = (l, (applyL l k e).2.2.1, (applyL l k e).2.1, 0) := by
  obtain ⟨s, ho, hb, hn⟩ := own_apply hl h
  have hi := s_id hl ho
  obtain ⟨a, ea, ma, ha, la⟩ := apply_own hl ho hb hn
  obtain ⟨fa, -⟩ := find_behind hl ha hi ma
  rw [ea]
  dsimp only
  have hy : ∀ y, findL l e.id = some y → y ∈ l ∧ y.id = e.id := fun y hy => (findL_some hl.rise).1 hy
  have key : (backO k ((findL l e.id).getD opZ) (s.getD opZ)).id = e.id ∧ ownE s (backK k) (backO k ((findL l e.id).getD opZ) (s.getD opZ)) = some (findL l e.id) ∧ (backK k = 1 → a.length < 64) := by
    have hs := hl.short
    unfold ownE at ho
    by_cases h1 : k < 1 ∨ 6 < k
    · rw [if_pos h1] at ho; cases ho
    rw [if_neg h1] at ho
    by_cases h2 : k = 1
    · rw [if_pos h2] at ho
      subst h2
      by_cases h3 : findL l e.id = none ∧ checkE e = 0
      · rw [if_pos h3] at ho
        cases ho
        rw [h3.1]
        exact ⟨rfl, rfl, fun h => by simp [backK] at h⟩
      · rw [if_neg h3] at ho; cases ho
    rw [if_neg h2] at ho
    cases hf : findL l e.id with
    | none => rw [hf] at ho; cases ho
    | some y =>
      rw [hf] at ho
      dsimp only at ho
      obtain ⟨hyl, hyi⟩ := hy y hf
      have hyc := hl.each y hyl
      have hbo : backO k ((some y).getD opZ) (s.getD opZ) = y := by unfold backO; rw [if_neg h2]; rfl
      rw [hbo]
      refine ⟨hyi, ?_⟩
      by_cases h3 : k = 2
      · rw [if_pos h3] at ho
        cases ho
        subst h3
        refine ⟨?_, fun _ => ?_⟩
        · unfold ownE
          rw [show backK 2 = 1 from rfl, if_neg (by omega), if_pos rfl, if_pos ⟨rfl, hyc⟩]
        · rw [if_pos rfl, if_neg (by omega)] at la
          omega
      · rw [if_neg h3] at ho
        have hk1 : ¬ backK k = 1 := by
          unfold backK
          rw [if_neg h2, if_neg h3]
          repeat' split
          all_goals omega
        have hk2 : ¬ backK k = 2 := by
          unfold backK
          rw [if_neg h2, if_neg h3]
          repeat' split
          all_goals omega
        have hk3 : ¬ (backK k < 1 ∨ 6 < backK k) := by
          unfold backK
          rw [if_neg h2, if_neg h3]
          repeat' split
          all_goals omega
        by_cases h4 : (changedL y k e).2 = 0 ∧ checkE (changedL y k e).1 = 0
        · rw [if_pos h4] at ho
          cases ho
          refine ⟨?_, fun h => absurd h hk1⟩
          have hcb := changed_back hyc h1 h2 h3 h4.1
          unfold ownE
          rw [if_neg hk3, if_neg hk1]
          dsimp only
          rw [if_neg hk2, hcb, if_pos ⟨rfl, hyc⟩]
        · rw [if_neg h4] at ho; cases ho
  obtain ⟨k1, k2, k3⟩ := key
  generalize backO k ((findL l e.id).getD opZ) (s.getD opZ) = o' at *
  have hbb : ∀ r, findL l e.id = some r → besideE a r = 0 := by
    intro r hr
    obtain ⟨h1, h2⟩ := hy r hr
    rw [besideE_of (m := l) (fun p hp => ?_)]
    · exact hl.beside r h1
    · rw [ma]
      constructor
      · rintro (h | h)
        · exact absurd ((hi p h).trans h2.symm) hp
        · exact h.1
      · exact fun h => .inr ⟨h, by rw [← h2]; exact hp⟩
  obtain ⟨l', el, ml, hl', -⟩ := apply_own ha (by rw [k1, fa]; exact k2) hbb k3
  rw [el, k1, fa]
  have : l' = l := hist_ext hl' hl fun p => by
    rw [ml, k1, ma]
    constructor
    · rintro (h | ⟨h | h, h'⟩)
      · exact (hy p h).1
      · exact absurd (hi p h) h'
      · exact h.1
    · intro h
      by_cases hp : p.id = e.id
      · exact .inl ((findL_some hl.rise).2 ⟨h, hp⟩)
      · exact .inr ⟨.inr ⟨h, hp⟩, hp⟩
  rw [this]
/-- What may be has an int64 answer. -/
theorem fit_checked {o : OpR} (h : checkE o = 0) : I64 o.res := by
  obtain ⟨-, h2, -⟩ := checkE_ok h
  unfold I64
  obtain ⟨id, proc, obj, kind, meth, arg, sec, done, res, inv, ret⟩ := o
  cases done
  · simp [bad2] at h2
    have := h2.2.2
    dsimp only
    omega
  · simp [bad2, resB] at h2
    have := h2.2.2
    dsimp only
    omega
theorem fit_hist {l : List OpR} (h : HistM l) : ∀ k, k < l.length → I64 (opAt l k).res := fun k hk => by
  rw [opAt_eq hk]
  exact fit_checked (h.each _ (List.getElem_mem hk))
theorem apply_len {l : List OpR} (hl : HistM l) (k : Int) (e : OpR) : (applyL l k e).1.length ≤ 1000000 := by
  by_cases h : (applyL l k e).2.2.2 = 0
  · have := (applyL_hist hl h).short
    omega
  · rw [(applyL_bad h).1]
    simp
theorem fit_apply {l : List OpR} (hl : HistM l) {k : Int} {e : OpR} (h : (applyL l k e).2.2.2 = 0) : I64 (applyL l k e).2.1.res ∧ I64 (applyL l k e).2.2.1.res := by
  obtain ⟨s, ho, hb, hn⟩ := own_apply hl h
  obtain ⟨a, ea, ma, ha, la⟩ := apply_own hl ho hb hn
  rw [ea]
  dsimp only
  have hz : I64 opZ.res := by unfold I64 opZ; dsimp only; omega
  constructor
  · cases hf : findL l e.id with
    | none => exact hz
    | some y => exact fit_checked (hl.each y ((findL_some hl.rise).1 hf).1)
  · cases s with
    | none => exact hz
    | some r => exact fit_checked (ha.each r ((ma r).2 (.inl rfl)))
end Go.Proofs.Ytljimlaalebmaaa
