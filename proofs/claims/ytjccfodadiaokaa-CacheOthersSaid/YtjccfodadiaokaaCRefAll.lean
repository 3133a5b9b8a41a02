/- What the reference's calls compute, in the plain terms of the cache's own calls. -/
import Derived.Test.YtjccfodadiaokaaCRef4
namespace Go.Proofs.Ytjccfodadiaokaa
open Go.RowKit
set_option linter.unusedVariables false
set_option linter.unusedSimpArgs false
/-- What holds of a cache's list behind j calls. -/
structure Keeps (j : Nat) (most : Int) (l : List CItem) : Prop where
  apart : l.Pairwise fun a b => a.key ≠ b.key
  pins : ∀ x ∈ l, 0 ≤ x.pins ∧ x.pins ≤ (j : Int)
  len : (l.length : Int) ≤ most
theorem without_none {k : Int} {l : List CItem} (h : ∀ x ∈ l, x.key ≠ k) : without k l = l := by
  unfold without
  rw [List.filter_eq_self]
  intro x hx
  simpa using h x hx
theorem splitAt_eq (l : List CItem) (i : Nat) (hi : i < l.length) : l = l.take i ++ l[i] :: l.drop (i + 1) := by
  rw [← List.drop_eq_getElem_cons hi, List.take_append_drop]
theorem without_at {k : Int} {l : List CItem} (hn : l.Pairwise fun a b => a.key ≠ b.key) {i : Nat} (hi : i < l.length) (hk : (l[i]).key = k) : without k l = cutL i l := by
  have hs := splitAt_eq l i hi
  rw [hs] at hn
  obtain ⟨h1, h2, h3⟩ := List.pairwise_append.1 hn
  have h4 := List.pairwise_cons.1 h2
  unfold without cutL
  conv => lhs; rw [hs]
  rw [List.filter_append, List.filter_cons]
  have ha : (l.take i).filter (fun x => x.key != k) = l.take i := by
    rw [List.filter_eq_self]
    intro x hx
    have := h3 x hx l[i] List.mem_cons_self
    rw [hk] at this
    simpa using this
  have hb : (l.drop (i + 1)).filter (fun x => x.key != k) = l.drop (i + 1) := by
    rw [List.filter_eq_self]
    intro x hx
    have := h4.1 x hx
    rw [hk] at this
    simpa using Ne.symm this
  rw [ha, hb]
  simp [hk]
theorem pinR_at {k d : Int} {l : List CItem} (hn : l.Pairwise fun a b => a.key ≠ b.key) {i : Nat} (hi : i < l.length) (hk : (l[i]).key = k) : pinR k d l = pinBy l i d := by
  unfold pinR pinBy
  rw [List.getElem?_eq_getElem hi]
  dsimp only
  apply List.ext_getElem (by simp)
  intro j h1 h2
  have hj : j < l.length := by simpa using h1
  rw [List.getElem_map, List.getElem_set]
  by_cases e : i = j
  · subst e
    rw [if_pos rfl]
    unfold pinOne
    rw [if_pos hk]
  · rw [if_neg e]
    unfold pinOne
    rw [if_neg]
    intro hjk
    rw [List.pairwise_iff_getElem] at hn
    rcases Nat.lt_or_gt_of_ne e with h | h
    · exact hn i j hi hj h (hk.trans hjk.symm)
    · exact hn j i hj hi h (hjk.trans hk.symm)
theorem frontL_cut (l : List CItem) (i : Nat) (hi : i < l.length) : frontL i l = l[i] :: cutL i l := by
  unfold frontL cutL
  rw [List.drop_eq_getElem_cons hi, List.take_succ_cons, List.take_zero]
  simp
theorem getD_at (l : List CItem) (i : Nat) (hi : i < l.length) : l.getD i noItem = l[i] := by simp [List.getD, List.getElem?_eq_getElem hi]
theorem frontL_perm (l : List CItem) (i : Nat) (hi : i < l.length) : (frontL i l).Perm l := by
  rw [frontL_cut l i hi]
  unfold cutL
  conv => rhs; rw [splitAt_eq l i hi]
  exact List.perm_middle.symm
theorem cutL_sub (l : List CItem) (i : Nat) (hi : i < l.length) : (cutL i l).Sublist l := by
  unfold cutL
  conv => rhs; rw [splitAt_eq l i hi]
  exact List.Sublist.append_left (List.sublist_cons_self _ _) _
theorem cutL_len (l : List CItem) (i : Nat) (hi : i < l.length) : (cutL i l).length + 1 = l.length := by
  unfold cutL
  rw [List.length_append, List.length_take, List.length_drop]
  omega
theorem Keeps.perm {j : Nat} {most : Int} {l l' : List CItem} (h : Keeps j most l) (p : l'.Perm l) : Keeps j most l' :=
  ⟨(p.pairwise_iff (fun {a b} h => Ne.symm h)).2 h.apart, fun x hx => h.pins x (p.subset hx), by rw [p.length_eq]; exact h.len⟩
theorem Keeps.sub {j : Nat} {most : Int} {l l' : List CItem} (h : Keeps j most l) (p : l'.Sublist l) : Keeps j most l' :=
  ⟨h.apart.sublist p, fun x hx => h.pins x (p.subset hx), by have := p.length_le; have := h.len; omega⟩
theorem Keeps.more {j j' : Nat} {most : Int} {l : List CItem} (h : Keeps j most l) (hj : j ≤ j') : Keeps j' most l :=
  ⟨h.apart, fun x hx => ⟨(h.pins x hx).1, by have := (h.pins x hx).2; omega⟩, h.len⟩
theorem Keeps.cons {j : Nat} {most : Int} {l : List CItem} (h : Keeps j most l) (k : Int) (s : ByteArray) (hk : ∀ x ∈ l, x.key ≠ k) (hl : (l.length : Int) < most) : Keeps j most (⟨k, s, 0⟩ :: l) :=
  ⟨List.pairwise_cons.2 ⟨fun x hx => Ne.symm (hk x hx), h.apart⟩, fun x hx => by
    rcases List.mem_cons.1 hx with rfl | hx
    · exact ⟨by simp, by simp⟩
    · exact h.pins x hx, by rw [List.length_cons]; omega⟩
theorem Keeps.pinBy {j : Nat} {most : Int} {l : List CItem} (h : Keeps j most l) (i : Nat) (hi : i < l.length) (d : Int) (h0 : 0 ≤ (l[i]).pins + d) (h1 : d ≤ 1) : Keeps (j + 1) most (pinBy l i d) := by
  unfold Go.Proofs.Ytjccfodadiaokaa.pinBy
  rw [List.getElem?_eq_getElem hi]
  dsimp only
  refine ⟨?_, ?_, by rw [List.length_set]; exact h.len⟩
  · rw [List.pairwise_iff_getElem]
    intro a b ha hb hab
    have hp := h.apart
    rw [List.pairwise_iff_getElem] at hp
    have := hp a b (by simpa using ha) (by simpa using hb) hab
    rw [List.getElem_set, List.getElem_set]
    by_cases e1 : i = a
    · subst e1
      rw [if_pos rfl, if_neg (by omega)]
      exact this
    · rw [if_neg e1]
      by_cases e2 : i = b
      · subst e2
        rw [if_pos rfl]
        exact this
      · rw [if_neg e2]; exact this
  · intro x hx
    rcases List.mem_or_eq_of_mem_set hx with hx | rfl
    · have := h.pins x hx; omega
    · have := h.pins _ (List.getElem_mem hi)
      dsimp only
      omega
theorem Keeps.get {j : Nat} {most : Int} {l : List CItem} (h : Keeps j most l) (k : Int) : Keeps j most (getP l k).1 := by
  unfold getP
  cases hf : findL k l with
  | none => exact h
  | some i => obtain ⟨hi, -, -⟩ := findL_some hf; exact h.perm (frontL_perm l i hi)
theorem Keeps.put {j : Nat} {most : Int} {l : List CItem} (h : Keeps j most l) (k : Int) (s : ByteArray) : Keeps j most (putP most l k s).1 := by
  unfold putP
  cases hf : findL k l with
  | some i =>
    obtain ⟨hi, -, -⟩ := findL_some hf
    have h2 := h.perm (frontL_perm l i hi)
    dsimp only
    rw [frontL_cut l i hi] at h2 ⊢
    unfold setHead
    dsimp only
    exact ⟨by have := h2.apart; rw [List.pairwise_cons] at this ⊢; exact this, fun x hx => by
      rcases List.mem_cons.1 hx with rfl | hx
      · exact h2.pins l[i] (by simp)
      · exact h2.pins x (by simp [hx]), h2.len⟩
  | none =>
    have hk := findL_none hf
    dsimp only
    by_cases hr : (l.length : Int) < most
    · rw [if_pos hr]
      exact h.cons k s hk hr
    · rw [if_neg hr]
      cases hx : lastFree l with
      | none => exact h
      | some i =>
        obtain ⟨hi, -, -⟩ := lastFree_some hx
        exact (h.sub (cutL_sub l i hi)).cons k s (fun x hx => hk x ((cutL_sub l i hi).subset hx)) (by have := cutL_len l i hi; have := h.len; omega)
theorem Keeps.pin {j : Nat} {most : Int} {l : List CItem} (h : Keeps j most l) (k : Int) : Keeps (j + 1) most (pinP l k).1 := by
  unfold pinP
  cases hf : findL k l with
  | none => exact h.more (by omega)
  | some i => obtain ⟨hi, -, -⟩ := findL_some hf; exact h.pinBy i hi 1 (by have := h.pins _ (List.getElem_mem hi); omega) (by omega)
theorem Keeps.unpin {j : Nat} {most : Int} {l : List CItem} (h : Keeps j most l) (k : Int) : Keeps (j + 1) most (unpinP l k).1 := by
  unfold unpinP
  cases hf : findL k l with
  | none => exact h.more (by omega)
  | some i =>
    obtain ⟨hi, -, -⟩ := findL_some hf
    dsimp only
    rw [getD_at l i hi]
    by_cases hz : (l[i]).pins = 0
    · rw [if_pos hz]; exact h.more (by omega)
    · rw [if_neg hz]; exact h.pinBy i hi (-1) (by have := h.pins _ (List.getElem_mem hi); omega) (by omega)
theorem Keeps.drop {j : Nat} {most : Int} {l : List CItem} (h : Keeps j most l) (k : Int) : Keeps j most (dropP l k).1 := by
  unfold dropP
  cases hf : findL k l with
  | none => exact h
  | some i => obtain ⟨hi, -, -⟩ := findL_some hf; exact h.sub (cutL_sub l i hi)
theorem RGet_c (j : Nat) (most : Int) (v : Value) (l : List CItem) (k : Int) (w : World) (hv : ROwn w v l) (h : Keeps j most l) (hm : most ≤ 1024) :
    Calls Try.prog 35 #[.agg #[.int .i64 most, v], .int .i64 k] w fun e w' => (∃ v', e = .returned (.tuple #[.agg #[.int .i64 most, v'], .string (getP l k).2.1, .bool (getP l k).2.2]) ∧ ROwn w' v' (getP l k).1) ∧ Grow w w' := by
  unfold getP
  cases hf : findL k l with
  | none => exact RGetNo_c most v l k w hv (findL_none hf)
  | some i =>
    obtain ⟨hi, hk, hb⟩ := findL_some hf
    dsimp only
    rw [getD_at l i hi, frontL_cut l i hi, ← without_at h.apart hi hk]
    exact RGetIn_c most v l k i w hv (by have := h.len; omega) hi hk hb
theorem RPut_c (j : Nat) (most : Int) (v : Value) (l : List CItem) (k : Int) (s : ByteArray) (w : World) (hv : ROwn w v l) (h : Keeps j most l) (hm : most ≤ 1024) :
    Calls Try.prog 36 #[.agg #[.int .i64 most, v], .int .i64 k, .string s] w fun e w' => (∃ v', e = .returned (.tuple #[.agg #[.int .i64 most, v'], .int .i64 (putP most l k s).2.1, .bool (putP most l k s).2.2.1, .int .i64 (putP most l k s).2.2.2]) ∧ ROwn w' v' (putP most l k s).1) ∧ Grow w w' := by
  have hlen := h.len
  unfold putP
  cases hf : findL k l with
  | some i =>
    obtain ⟨hi, hk, hb⟩ := findL_some hf
    dsimp only
    rw [frontL_cut l i hi, ← without_at h.apart hi hk]
    exact RPutIn_c most v l k s i w hv (by omega) hi hk hb
  | none =>
    have hk := findL_none hf
    dsimp only
    by_cases hr : (l.length : Int) < most
    · rw [if_pos hr]
      have := RPutRoom_c most v l k s w hv (by omega) hk hr
      rw [without_none hk] at this
      exact this
    · rw [if_neg hr]
      cases hx : lastFree l with
      | none => exact RPutFull_c most v l k s w hv (by omega) hk hr (fun x hx => (h.pins x hx).1) (by unfold freeK; rw [hx])
      | some i =>
        obtain ⟨hi, -, -⟩ := lastFree_some hx
        dsimp only
        have := RPutOut_c most v l k s w hv (by omega) hk hr (fun x hx => (h.pins x hx).1) (l.getD i noItem).key (by unfold freeK; rw [hx])
        rw [getD_at l i hi] at this ⊢
        rw [without_at h.apart hi rfl, without_none (fun x hx => hk x ((cutL_sub l i hi).subset hx))] at this
        exact this
theorem RPin_c (j : Nat) (most : Int) (v : Value) (l : List CItem) (k : Int) (w : World) (hv : ROwn w v l) (h : Keeps j most l) (hm : most ≤ 1024) (hj : j ≤ 1000) :
    Calls Try.prog 37 #[.agg #[.int .i64 most, v], .int .i64 k, .int .i64 1] w fun e w' => (∃ v', e = .returned (.tuple #[.agg #[.int .i64 most, v'], .bool (pinP l k).2]) ∧ ROwn w' v' (pinP l k).1) ∧ Grow w w' := by
  unfold pinP
  cases hf : findL k l with
  | none => exact RPinNo_c most v l k 1 w hv (findL_none hf)
  | some i =>
    obtain ⟨hi, hk, hb⟩ := findL_some hf
    dsimp only
    rw [← pinR_at h.apart hi hk]
    exact RPinYes_c most v l k 1 i w hv hi hk hb (.inl (by omega)) (by omega) (fun x hx => by have := h.pins x hx; omega)
theorem RUnpin_c (j : Nat) (most : Int) (v : Value) (l : List CItem) (k : Int) (w : World) (hv : ROwn w v l) (h : Keeps j most l) (hm : most ≤ 1024) (hj : j ≤ 1000) :
    Calls Try.prog 37 #[.agg #[.int .i64 most, v], .int .i64 k, .int .i64 (-1)] w fun e w' => (∃ v', e = .returned (.tuple #[.agg #[.int .i64 most, v'], .bool (unpinP l k).2]) ∧ ROwn w' v' (unpinP l k).1) ∧ Grow w w' := by
  unfold unpinP
  cases hf : findL k l with
  | none => exact RPinNo_c most v l k (-1) w hv (findL_none hf)
  | some i =>
    obtain ⟨hi, hk, hb⟩ := findL_some hf
    dsimp only
    rw [getD_at l i hi]
    by_cases hz : (l[i]).pins = 0
    · rw [if_pos hz]
      exact RPinZero_c most v l k (-1) i w hv hi hk hb (by omega) hz
    · rw [if_neg hz, ← pinR_at h.apart hi hk]
      exact RPinYes_c most v l k (-1) i w hv hi hk hb (.inr hz) (by omega) (fun x hx => by have := h.pins x hx; omega)
theorem RDropP_c (j : Nat) (most : Int) (v : Value) (l : List CItem) (k : Int) (w : World) (hv : ROwn w v l) (h : Keeps j most l) :
    Calls Try.prog 39 #[.agg #[.int .i64 most, v], .int .i64 k] w fun e w' => (∃ v', e = .returned (.agg #[.int .i64 most, v']) ∧ ROwn w' v' (dropP l k).1) ∧ Grow w w' := by
  have e : without k l = (dropP l k).1 := by
    unfold dropP
    cases hf : findL k l with
    | none => exact without_none (findL_none hf)
    | some i => obtain ⟨hi, hk, -⟩ := findL_some hf; exact without_at h.apart hi hk
  rw [← e]
  exact (RDrop_c most v l k w hv).mono fun _ _ ⟨v', h1, h2, h3⟩ => ⟨⟨v', h1, h2⟩, h3⟩
theorem RFindP_c (most : Int) (v : Value) (l : List CItem) (k : Int) (w : World) (hv : ROwn w v l) :
    Calls Try.prog 38 #[.agg #[.int .i64 most, v], .int .i64 k] w fun e w' => (∃ a b c, e = .returned (.tuple #[.agg #[.int .i64 a, .string b, .int .i64 c], .bool (dropP l k).2])) ∧ Grow w w' := by
  unfold dropP
  cases hf : findL k l with
  | none => exact (RFindNo_c most v l k w hv.items (findL_none hf)).mono fun _ _ ⟨h1, h2⟩ => ⟨⟨_, _, _, h1⟩, h2⟩
  | some i =>
    obtain ⟨hi, hk, hb⟩ := findL_some hf
    exact (RFindIn_c most v l k i w hv.items hi hk hb).mono fun _ _ ⟨h1, h2⟩ => ⟨⟨_, _, _, h1⟩, h2⟩
end Go.Proofs.Ytjccfodadiaokaa
