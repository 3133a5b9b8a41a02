/- What was put last under a key is got. No Go text is spoken of. -/
import Derived.Test.YtjccfodadiaokaaCOldPlain
import Derived.Test.YtjccfodadiaokaaCPins
import Derived.Test.YtjccfodadiaokaaCActLift
namespace Go.Proofs.Ytjccfodadiaokaa
open Go.RowKit
set_option linter.unusedVariables false
set_option linter.unusedSimpArgs false
/-- What was put last under a key. -/
def lastV (l : List ActR) (k : Int) : ByteArray := l.foldl (fun s a => if a.key = k then a.val else s) ByteArray.empty
theorem lastV_snoc (l : List ActR) (a : ActR) (k : Int) : lastV (l ++ [a]) k = if a.key = k then a.val else lastV l k := by simp [lastV]
/-- The cache of things that were never pinned, each under a key of its own. -/
def Lasts (A : List ActR) (n : Nat) (l : List CItem) : Prop :=
  l.length ≤ n ∧ (∀ x ∈ l, x.pins = 0) ∧ l.Pairwise (fun a b => a.key ≠ b.key) ∧ ∀ x ∈ l, x.val = lastV A x.key
theorem Lasts.put {A : List ActR} {n : Nat} {l : List CItem} (h : Lasts A n l) (hn : 1 ≤ n) (a : ActR) :
    ∃ rest gone out, putP (n : Int) l a.key a.val = (⟨a.key, a.val, 0⟩ :: rest, gone, out, 0) ∧ Lasts (A ++ [a]) n (⟨a.key, a.val, 0⟩ :: rest) := by
  obtain ⟨h1, h2, h3, h4⟩ := h
  have mk : ∀ rest : List CItem, rest.Sublist l → (∀ x ∈ rest, x.key ≠ a.key) → rest.length + 1 ≤ n → Lasts (A ++ [a]) n (⟨a.key, a.val, 0⟩ :: rest) := by
    intro rest hs hk hl
    refine ⟨by simpa using hl, ?_, ?_, ?_⟩
    · intro x hx
      rcases List.mem_cons.1 hx with rfl | hx
      · rfl
      · exact h2 x (hs.subset hx)
    · refine List.pairwise_cons.2 ⟨fun x hx => (hk x hx).symm, h3.sublist hs⟩
    · intro x hx
      rw [lastV_snoc]
      rcases List.mem_cons.1 hx with rfl | hx
      · rw [if_pos rfl]
      · rw [if_neg (fun e => hk x hx e.symm)]
        exact h4 x (hs.subset hx)
  unfold putP
  cases hf : findL a.key l with
  | some i =>
    obtain ⟨hi, hk, -⟩ := findL_some hf
    obtain ⟨e1, e2⟩ := front_parts i l hi
    have hp0 : (l[i]).pins = 0 := h2 _ (List.getElem_mem hi)
    dsimp only
    rw [e1]
    refine ⟨l.take i ++ l.drop (i + 1), 0, false, ?_, mk _ ?_ ?_ ?_⟩
    · show ({ l[i] with val := a.val } :: _, _) = _
      rw [← hk, ← hp0]
    · conv => rhs; rw [e2]
      exact List.Sublist.append (List.Sublist.refl _) (List.sublist_cons_self _ _)
    · have h3' := h3
      rw [e2] at h3'
      obtain ⟨q1, q2, q3⟩ := List.pairwise_append.1 h3'
      intro x hx
      rcases List.mem_append.1 hx with h | h
      · have := q3 x h l[i] (List.mem_cons_self ..)
        rw [hk] at this
        exact this
      · have := (List.pairwise_cons.1 q2).1 x h
        rw [hk] at this
        exact this.symm
    · rw [List.length_append, List.length_take, List.length_drop]
      omega
  | none =>
    have hk := findL_none hf
    dsimp only
    by_cases hr : (l.length : Int) < (n : Int)
    · rw [if_pos hr]
      exact ⟨l, 0, false, rfl, mk l (List.Sublist.refl _) hk (by omega)⟩
    · rw [if_neg hr, lastFree_zero h2 (by intro e; rw [e] at hr; simp at hr; omega)]
      dsimp only
      have hs : (cutL (l.length - 1) l).Sublist l := by
        unfold cutL
        rw [List.drop_eq_nil_of_le (by omega), List.append_nil]
        exact List.take_sublist _ _
      refine ⟨cutL (l.length - 1) l, _, true, rfl, mk _ hs (fun x hx => hk x (hs.subset hx)) ?_⟩
      unfold cutL
      rw [List.drop_eq_nil_of_le (by omega), List.append_nil, List.length_take]
      omega
theorem get_head (k : Int) (s : ByteArray) (c : Int) (rest : List CItem) : getP (⟨k, s, c⟩ :: rest) k = (⟨k, s, c⟩ :: rest, s, true) := by
  unfold getP
  rw [findL_head k _ rest rfl]
  dsimp only
  congr 1
theorem get_mem (l : List CItem) (k : Int) : (getP l k).1.length = l.length ∧ (∀ x ∈ (getP l k).1, x ∈ l) ∧ ((getP l k).2.2 = true → ∃ x ∈ l, x.key = k ∧ x.val = (getP l k).2.1) := by
  unfold getP
  cases hf : findL k l with
  | none => exact ⟨rfl, fun x hx => hx, fun h => by cases h⟩
  | some i =>
    obtain ⟨hi, hk, -⟩ := findL_some hf
    obtain ⟨e1, e2⟩ := front_parts i l hi
    have e : l.getD i noItem = l[i] := by simp [List.getD, List.getElem?_eq_getElem hi]
    dsimp only
    rw [e, e1]
    refine ⟨?_, ?_, fun _ => ⟨l[i], List.getElem_mem hi, hk, rfl⟩⟩
    · rw [List.length_cons, List.length_append, List.length_take, List.length_drop]; omega
    · intro x hx
      rcases List.mem_cons.1 hx with rfl | hx
      · exact List.getElem_mem hi
      · rcases List.mem_append.1 hx with h | h
        · exact List.mem_of_mem_take h
        · exact List.mem_of_mem_drop h
end Go.Proofs.Ytjccfodadiaokaa
