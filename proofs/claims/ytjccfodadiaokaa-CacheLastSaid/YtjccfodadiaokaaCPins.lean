/- What stays in a cache that has pins. No Go text is spoken of. -/
import Derived.Test.YtjccfodadiaokaaCPure
namespace Go.Proofs.Ytjccfodadiaokaa
open Go.RowKit
set_option linter.unusedVariables false
set_option linter.unusedSimpArgs false
theorem front_parts (i : Nat) (l : List CItem) (hi : i < l.length) : frontL i l = l[i] :: (l.take i ++ l.drop (i + 1)) ∧ l = l.take i ++ l[i] :: l.drop (i + 1) := by
  constructor
  · have e : (l.drop i).take 1 = [l[i]] := by rw [List.drop_eq_getElem_cons hi]; rfl
    unfold frontL
    rw [e, List.append_assoc]
    rfl
  · rw [List.getElem_cons_drop]
    exact (List.take_append_drop i l).symm
theorem findL_head (k : Int) (x : CItem) (l : List CItem) (h : x.key = k) : findL k (x :: l) = some 0 := by unfold findL; rw [if_pos h]
theorem findL_isSome {k : Int} {l : List CItem} (h : ∃ x ∈ l, x.key = k) : ∃ i, findL k l = some i := by
  cases hf : findL k l with
  | some i => exact ⟨i, rfl⟩
  | none =>
    obtain ⟨x, hx, hk⟩ := h
    exact absurd hk (findL_none hf x hx)
/-- A Put where there is room, or the key is kept. -/
theorem put_easy (most : Int) (l : List CItem) (k : Int) (s : ByteArray) (hr : findL k l = none → (l.length : Int) < most) :
    ∃ c rest, putP most l k s = (⟨k, s, c⟩ :: rest, 0, false, 0) ∧ (c = 0 ∨ ∃ x ∈ l, x.pins = c) ∧ (∀ x ∈ rest, x ∈ l) ∧ (∀ x ∈ l, x ∈ rest ∨ x.key = k) ∧ rest.length ≤ l.length := by
  unfold putP
  cases hf : findL k l with
  | none =>
    dsimp only
    rw [if_pos (hr hf)]
    exact ⟨0, l, rfl, .inl rfl, fun x hx => hx, fun x hx => .inl hx, Nat.le_refl _⟩
  | some i =>
    obtain ⟨hi, hk, -⟩ := findL_some hf
    obtain ⟨e1, e2⟩ := front_parts i l hi
    dsimp only
    rw [e1]
    refine ⟨(l[i]).pins, l.take i ++ l.drop (i + 1), ?_, .inr ⟨_, List.getElem_mem hi, rfl⟩, ?_, ?_, ?_⟩
    · show ({ l[i] with val := s } :: _, _) = _
      rw [← hk]
    · intro x hx
      rcases List.mem_append.1 hx with h | h
      · exact List.mem_of_mem_take h
      · exact List.mem_of_mem_drop h
    · intro x hx
      rw [e2] at hx
      rcases List.mem_append.1 hx with h | h
      · exact .inl (List.mem_append_left _ h)
      · rcases List.mem_cons.1 h with h | h
        · exact .inr (by rw [h]; exact hk)
        · exact .inl (List.mem_append_right _ h)
    · rw [List.length_append, List.length_take, List.length_drop]
      omega
theorem pin_head (k : Int) (s : ByteArray) (c : Int) (rest : List CItem) : pinP (⟨k, s, c⟩ :: rest) k = (⟨k, s, c + 1⟩ :: rest, true) := by
  unfold pinP
  rw [findL_head k _ rest rfl]
  rfl
/-- Behind so many keys that were put, and pinned. -/
def Pinned (K : List Int) (s : ByteArray) (i : Nat) (l : List CItem) : Prop :=
  l.length ≤ i ∧ (∀ x ∈ l, x.val = s ∧ 0 < x.pins ∧ x.pins ≤ (i : Int)) ∧ ∀ q (h : q < K.length), q < i → ∃ x ∈ l, x.key = K[q]
theorem Pinned.step {K : List Int} {s : ByteArray} {i : Nat} {l : List CItem} (h : Pinned K s i l) (hi : i < K.length) (most : Int) (hm : (K.length : Int) < most) :
    (putP most l K[i] s).2.2.2 = 0 ∧ (putP most l K[i] s).2.2.1 = false ∧ (∀ x ∈ (putP most l K[i] s).1, 0 ≤ x.pins ∧ x.pins ≤ (i : Int)) ∧ (putP most l K[i] s).1.length ≤ i + 1 ∧ (pinP (putP most l K[i] s).1 K[i]).2 = true ∧ Pinned K s (i + 1) (pinP (putP most l K[i] s).1 K[i]).1 := by
  obtain ⟨h1, h2, h3⟩ := h
  obtain ⟨c, rest, e, hc, ha, hb, hl⟩ := put_easy most l K[i] s (fun _ => by omega)
  rw [e]
  dsimp only
  rw [pin_head]
  have hc2 : 0 ≤ c ∧ c ≤ (i : Int) := by
    rcases hc with rfl | ⟨x, hx, rfl⟩
    · omega
    · obtain ⟨-, h4, h5⟩ := h2 x hx
      omega
  refine ⟨rfl, rfl, ?_, by rw [List.length_cons]; omega, rfl, by show _ ≤ _; rw [List.length_cons]; omega, ?_, ?_⟩
  · intro x hx
    rcases List.mem_cons.1 hx with rfl | hx
    · exact hc2
    · obtain ⟨-, h4, h5⟩ := h2 x (ha x hx)
      omega
  · intro x hx
    rcases List.mem_cons.1 hx with rfl | hx
    · exact ⟨rfl, by show 0 < c + 1; omega, by show c + 1 ≤ ((i + 1 : Nat) : Int); omega⟩
    · obtain ⟨h6, h4, h5⟩ := h2 x (ha x hx)
      exact ⟨h6, h4, by omega⟩
  · intro q hq hqi
    by_cases he : q = i
    · subst he
      exact ⟨_, List.mem_cons_self .., rfl⟩
    · obtain ⟨x, hx, hk⟩ := h3 q hq (by omega)
      rcases hb x hx with h | h
      · exact ⟨x, List.mem_cons_of_mem _ h, hk⟩
      · exact ⟨_, List.mem_cons_self .., by show K[i] = _; rw [← h, hk]⟩
def pinnedN (l : List CItem) : Nat := (l.filter fun x => decide (0 < x.pins)).length
theorem pinnedN_append (a b : List CItem) : pinnedN (a ++ b) = pinnedN a + pinnedN b := by simp [pinnedN]
theorem pinnedN_cons (x : CItem) (l : List CItem) : pinnedN (x :: l) = (if 0 < x.pins then 1 else 0) + pinnedN l := by
  unfold pinnedN
  by_cases h : 0 < x.pins
  · rw [List.filter_cons, if_pos (by simpa using h), if_pos h, List.length_cons]; omega
  · rw [List.filter_cons, if_neg (by simpa using h), if_neg h]; omega
/-- What holds as others come and go. -/
def Kept (K : List Int) (s : ByteArray) (l : List CItem) : Prop :=
  l.length ≤ K.length + 1 ∧ pinnedN l ≤ K.length ∧ (∀ x ∈ l, x.key ∈ K → x.val = s) ∧ ∀ k ∈ K, ∃ x ∈ l, x.key = k ∧ 0 < x.pins
theorem Pinned.kept {K : List Int} {s : ByteArray} {l : List CItem} (h : Pinned K s K.length l) : Kept K s l := by
  obtain ⟨h1, h2, h3⟩ := h
  refine ⟨by omega, ?_, fun x hx _ => (h2 x hx).1, fun k hk => ?_⟩
  · unfold pinnedN
    have := List.length_filter_le (fun x : CItem => decide (0 < x.pins)) l
    omega
  · obtain ⟨q, hq, rfl⟩ := List.mem_iff_getElem.1 hk
    obtain ⟨x, hx, hk2⟩ := h3 q hq hq
    exact ⟨x, hx, hk2, (h2 x hx).2.1⟩
theorem Kept.front {K : List Int} {s : ByteArray} {l : List CItem} (h : Kept K s l) (i : Nat) (hi : i < l.length) : Kept K s (frontL i l) := by
  obtain ⟨e1, e2⟩ := front_parts i l hi
  have hm : ∀ x, x ∈ frontL i l ↔ x ∈ l := by
    intro x
    rw [e1]
    conv => rhs; rw [e2]
    simp only [List.mem_cons, List.mem_append]
    constructor
    · rintro (h | h | h)
      · exact .inr (.inl h)
      · exact .inl h
      · exact .inr (.inr h)
    · rintro (h | h | h)
      · exact .inr (.inl h)
      · exact .inl h
      · exact .inr (.inr h)
  obtain ⟨h1, h2, h3, h4⟩ := h
  have hp : pinnedN (frontL i l) = pinnedN l := by
    rw [e1]
    conv => rhs; rw [e2]
    rw [pinnedN_cons, pinnedN_append, pinnedN_append, pinnedN_cons]
    omega
  have hl : (frontL i l).length = l.length := by
    rw [e1]
    conv => rhs; rw [e2]
    simp only [List.length_cons, List.length_append]
    omega
  exact ⟨by omega, by omega, fun x hx => h3 x ((hm x).1 hx), fun k hk => by
    obtain ⟨x, hx, h⟩ := h4 k hk
    exact ⟨x, (hm x).2 hx, h⟩⟩
theorem Kept.get {K : List Int} {s : ByteArray} {l : List CItem} (h : Kept K s l) (k : Int) : Kept K s (getP l k).1 := by
  unfold getP
  cases hf : findL k l with
  | none => exact h
  | some i => exact h.front i (findL_some hf).1
theorem Kept.got {K : List Int} {s : ByteArray} {l : List CItem} (h : Kept K s l) (k : Int) (hk : k ∈ K) : (getP l k).2 = (s, true) := by
  obtain ⟨x, hx, hxk, -⟩ := h.2.2.2 k hk
  obtain ⟨i, hf⟩ := findL_isSome ⟨x, hx, hxk⟩
  unfold getP
  rw [hf]
  obtain ⟨hi, h2, -⟩ := findL_some hf
  have e : l.getD i noItem = l[i] := by simp [List.getD, List.getElem?_eq_getElem hi]
  dsimp only
  rw [e, h.2.2.1 _ (List.getElem_mem hi) (by rw [h2]; exact hk)]
theorem Kept.put {K : List Int} {s t : ByteArray} {l : List CItem} (h : Kept K s l) (k : Int) (hmiss : (getP l k).2.2 = false) :
    (putP ((K.length : Int) + 1) (getP l k).1 k t).2.2.2 = 0 ∧ Kept K s (putP ((K.length : Int) + 1) (getP l k).1 k t).1 := by
  unfold getP at hmiss ⊢
  cases hf : findL k l with
  | some i => rw [hf] at hmiss; cases hmiss
  | none =>
    dsimp only
    have hkK : k ∉ K := fun hk => by
      obtain ⟨x, hx, hxk, -⟩ := h.2.2.2 k hk
      exact findL_none hf x hx hxk
    obtain ⟨h1, h2, h3, h4⟩ := h
    unfold putP
    rw [hf]
    dsimp only
    by_cases hr : (l.length : Int) < (K.length : Int) + 1
    · rw [if_pos hr]
      refine ⟨rfl, by rw [List.length_cons]; omega, by rw [pinnedN_cons]; simpa using h2, fun x hx hxk => ?_, fun q hq => ?_⟩
      · rcases List.mem_cons.1 hx with rfl | hx
        · exact absurd hxk hkK
        · exact h3 x hx hxk
      · obtain ⟨x, hx, hh⟩ := h4 q hq
        exact ⟨x, List.mem_cons_of_mem _ hx, hh⟩
    · rw [if_neg hr]
      cases hx : lastFree l with
      | none =>
        exfalso
        have hall := lastFree_none hx
        have e : l.filter (fun x => decide (0 < x.pins)) = l := by
          rw [List.filter_eq_self]
          intro x hx
          simpa using hall x hx
        unfold pinnedN at h2
        rw [e] at h2
        omega
      | some i =>
        obtain ⟨hi, hfree, -⟩ := lastFree_some hx
        obtain ⟨-, e2⟩ := front_parts i l hi
        dsimp only
        have hcl : (cutL i l).length + 1 = l.length := by
          unfold cutL
          rw [List.length_append, List.length_take, List.length_drop]
          omega
        have hcp : pinnedN (cutL i l) = pinnedN l := by
          unfold cutL
          conv => rhs; rw [e2]
          rw [pinnedN_append, pinnedN_append, pinnedN_cons, if_neg hfree]
          omega
        have hcm : ∀ x ∈ cutL i l, x ∈ l := by
          intro x hx
          unfold cutL at hx
          rcases List.mem_append.1 hx with h | h
          · exact List.mem_of_mem_take h
          · exact List.mem_of_mem_drop h
        refine ⟨rfl, by rw [List.length_cons]; omega, by rw [pinnedN_cons, hcp]; simpa using h2, fun x hx hxk => ?_, fun q hq => ?_⟩
        · rcases List.mem_cons.1 hx with rfl | hx
          · exact absurd hxk hkK
          · exact h3 x (hcm x hx) hxk
        · obtain ⟨x, hx, hxq, hxp⟩ := h4 q hq
          refine ⟨x, List.mem_cons_of_mem _ ?_, hxq, hxp⟩
          rw [e2] at hx
          unfold cutL
          rcases List.mem_append.1 hx with h | h
          · exact List.mem_append_left _ h
          · rcases List.mem_cons.1 h with h | h
            · rw [h] at hxp; exact absurd hxp hfree
            · exact List.mem_append_right _ h
end Go.Proofs.Ytjccfodadiaokaa
