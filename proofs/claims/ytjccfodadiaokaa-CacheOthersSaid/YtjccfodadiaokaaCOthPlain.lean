/- Caches of texts and lengths beside caches of numbers and texts, as plain lists. No Go text is spoken of. -/
import Derived.Test.YtjccfodadiaokaaCPure
import Derived.Test.YtjccfodadiaokaaCSPure
import Derived.Test.YtjccfodadiaokaaCRefAll
namespace Go.Proofs.Ytjccfodadiaokaa
open Go.RowKit
set_option linter.unusedVariables false
set_option linter.unusedSimpArgs false
/-- The number of a text: the place behind its first one. -/
def numOf : List ByteArray → ByteArray → Option Int
  | [], _ => none
  | x :: l, k => if x = k then some 1 else (numOf l k).map (· + 1)
theorem numOf_mem {k : ByteArray} : ∀ {l : List ByteArray}, k ∈ l → ∃ v, numOf l k = some v ∧ 1 ≤ v ∧ v ≤ l.length ∧ l[v.toNat - 1]? = some k
  | [], h => by cases h
  | x :: l, h => by
    unfold numOf
    by_cases e : x = k
    · exact ⟨1, by rw [if_pos e], by omega, by rw [List.length_cons]; omega, by simp [e]⟩
    · rw [if_neg e]
      rcases List.mem_cons.1 h with h | h
      · exact absurd h.symm e
      · obtain ⟨v, h1, h2, h3, h4⟩ := numOf_mem h
        refine ⟨v + 1, by rw [h1]; rfl, by omega, by rw [List.length_cons]; omega, ?_⟩
        have : (v + 1).toNat - 1 = (v.toNat - 1) + 1 := by omega
        rw [this, List.getElem?_cons_succ, h4]
theorem numOf_not {k : ByteArray} : ∀ {l : List ByteArray}, k ∉ l → numOf l k = none
  | [], _ => rfl
  | x :: l, h => by
    unfold numOf
    rw [if_neg (fun e => h (by simp [e])), numOf_not (fun h' => h (by simp [h']))]
    rfl
theorem numOf_snoc (k x : ByteArray) : ∀ l : List ByteArray, numOf (l ++ [x]) k = (numOf l k).or (if x = k then some ((l.length : Int) + 1) else none)
  | [] => by
    unfold numOf
    simp only [List.nil_append]
    unfold numOf
    by_cases e : x = k
    · rw [if_pos e, if_pos e]; rfl
    · rw [if_neg e, if_neg e]; rfl
  | y :: l => by
    rw [List.cons_append]
    unfold numOf
    rw [numOf_snoc k x l]
    by_cases e : y = k
    · rw [if_pos e, if_pos e]; rfl
    · rw [if_neg e, if_neg e]
      by_cases ex : x = k
      · rw [if_pos ex, if_pos ex]
        cases numOf l k with
        | none => simp
        | some v => rfl
      · rw [if_neg ex, if_neg ex]
        cases numOf l k with
        | none => rfl
        | some v => rfl
theorem numOf_inj {l : List ByteArray} {a b : ByteArray} (ha : a ∈ l) (hb : b ∈ l) (h : (numOf l a).getD 0 = (numOf l b).getD 0) : a = b := by
  obtain ⟨v, h1, -, -, h4⟩ := numOf_mem ha
  obtain ⟨u, g1, -, -, g4⟩ := numOf_mem hb
  rw [h1, g1] at h
  simp only [Option.getD_some] at h
  subst h
  rw [h4] at g4
  exact Option.some.inj g4
/-- The same thing in the other cache. -/
def tw (f : ByteArray → Option Int) (x : Str.CItem) : CItem := ⟨(f x.key).getD 0, x.key, x.pins⟩
section
variable {T : List ByteArray}
theorem find_tw {k : ByteArray} (hk : k ∈ T) : ∀ {l : List Str.CItem}, (∀ x ∈ l, x.key ∈ T) → findL ((numOf T k).getD 0) (l.map (tw (numOf T))) = Str.findL k l
  | [], _ => rfl
  | x :: l, h => by
    have ih := find_tw hk (l := l) (fun y hy => h y (by simp [hy]))
    rw [List.map_cons]
    unfold findL Str.findL
    rw [ih]
    have hx := h x (by simp)
    by_cases e : x.key = k
    · rw [if_pos e, if_pos (by show (numOf T x.key).getD 0 = _; rw [e])]
    · rw [if_neg e, if_neg (show ¬ (tw (numOf T) x).key = _ from fun e' => e (numOf_inj hx hk e'))]
theorem free_tw (f : ByteArray → Option Int) : ∀ (l : List Str.CItem), lastFree (l.map (tw f)) = Str.lastFree l
  | [] => rfl
  | x :: l => by
    have ih := free_tw f l
    rw [List.map_cons]
    unfold lastFree Str.lastFree
    rw [ih]
    rfl
theorem front_tw (f : ByteArray → Option Int) (i : Nat) (l : List Str.CItem) : frontL i (l.map (tw f)) = (Str.frontL i l).map (tw f) := by
  unfold frontL Str.frontL
  simp only [List.map_append, List.map_take, List.map_drop]
theorem cut_tw (f : ByteArray → Option Int) (i : Nat) (l : List Str.CItem) : cutL i (l.map (tw f)) = (Str.cutL i l).map (tw f) := by
  unfold cutL Str.cutL
  simp only [List.map_append, List.map_take, List.map_drop]
/-- What holds of the first cache's list, behind the texts T. -/
structure Held (T : List ByteArray) (most : Int) (l : List Str.CItem) : Prop where
  known : ∀ x ∈ l, x.key ∈ T
  vals : ∀ x ∈ l, x.val = (x.key.size : Int) ∧ x.pins = 0
  len : (l.length : Int) ≤ most
theorem Held.more {most : Int} {l : List Str.CItem} (h : Held T most l) (k : ByteArray) : Held (T ++ [k]) most l := ⟨fun x hx => by simp [h.known x hx], h.vals, h.len⟩
theorem map_more {k : ByteArray} {l : List Str.CItem} (h : ∀ x ∈ l, x.key ∈ T) : l.map (tw (numOf (T ++ [k]))) = l.map (tw (numOf T)) := by
  apply List.map_congr_left
  intro x hx
  unfold tw
  obtain ⟨v, e, -⟩ := numOf_mem (h x hx)
  rw [numOf_snoc, e]
  rfl
theorem front_cut_s (i : Nat) (l : List Str.CItem) (hi : i < l.length) : Str.frontL i l = l[i] :: Str.cutL i l := by
  unfold Str.frontL Str.cutL
  rw [List.drop_eq_getElem_cons hi, List.take_succ_cons, List.take_zero]
  simp
theorem cut_mem {i : Nat} {l : List Str.CItem} {x : Str.CItem} (h : x ∈ Str.cutL i l) : x ∈ l := by
  unfold Str.cutL at h
  rcases List.mem_append.1 h with h | h
  · exact List.mem_of_mem_take h
  · exact List.mem_of_mem_drop h
theorem cut_len_s (i : Nat) (l : List Str.CItem) (hi : i < l.length) : (Str.cutL i l).length + 1 = l.length := by
  unfold Str.cutL
  rw [List.length_append, List.length_take, List.length_drop]
  omega
theorem getD_tw (f : ByteArray → Option Int) (l : List Str.CItem) (i : Nat) (hi : i < l.length) : ((l.map (tw f)).getD i noItem).key = (f (l[i]).key).getD 0 := by
  simp [List.getD, hi, tw]
/-- Put in both: the same answers, and the lists go on together; what was put is ahead. -/
theorem put_tw {k : ByteArray} (hk : k ∈ T) {most : Int} (hm : 1 ≤ most) {l : List Str.CItem} (h : Held T most l) :
    ∃ rest : List Str.CItem, (Str.putP most l k (k.size : Int)).1 = ⟨k, k.size, 0⟩ :: rest ∧ Held T most (⟨k, k.size, 0⟩ :: rest) ∧
      (putP most (l.map (tw (numOf T))) ((numOf T k).getD 0) k).1 = (⟨k, k.size, 0⟩ :: rest).map (tw (numOf T)) ∧
      (putP most (l.map (tw (numOf T))) ((numOf T k).getD 0) k).2.2 = (Str.putP most l k (k.size : Int)).2.2 ∧ (Str.putP most l k (k.size : Int)).2.2.2 = 0 ∧
      ((Str.putP most l k (k.size : Int)).2.2.1 = true → (numOf T (Str.putP most l k (k.size : Int)).2.1).getD 0 = (putP most (l.map (tw (numOf T))) ((numOf T k).getD 0) k).2.1 ∧ (Str.putP most l k (k.size : Int)).2.1 ∈ T) := by
  unfold putP Str.putP
  rw [find_tw hk h.known]
  cases hf : Str.findL k l with
  | some i =>
    obtain ⟨hi, hik, -⟩ := Str.findL_some hf
    dsimp only
    rw [front_tw, front_cut_s i l hi]
    have hx := h.vals l[i] (List.getElem_mem hi)
    refine ⟨Str.cutL i l, ?_, ⟨?_, ?_, ?_⟩, ?_, rfl, rfl, by simp⟩
    · unfold Str.setHead
      dsimp only
      rw [hik, hx.2]
    · intro x hx
      rcases List.mem_cons.1 hx with rfl | hx
      · exact hk
      · exact h.known x (cut_mem hx)
    · intro x hx
      rcases List.mem_cons.1 hx with rfl | hx
      · exact ⟨rfl, rfl⟩
      · exact h.vals x (cut_mem hx)
    · have := cut_len_s i l hi; have := h.len; rw [List.length_cons]; omega
    · rw [List.map_cons, List.map_cons]
      unfold setHead
      dsimp only
      unfold tw
      dsimp only
      rw [hik, hx.2]
  | none =>
    dsimp only
    rw [List.length_map]
    by_cases hr : (l.length : Int) < most
    · rw [if_pos hr, if_pos hr]
      refine ⟨l, rfl, ⟨?_, ?_, ?_⟩, rfl, rfl, rfl, by simp⟩
      · intro x hx
        rcases List.mem_cons.1 hx with rfl | hx
        · exact hk
        · exact h.known x hx
      · intro x hx
        rcases List.mem_cons.1 hx with rfl | hx
        · exact ⟨rfl, rfl⟩
        · exact h.vals x hx
      · rw [List.length_cons]; omega
    · rw [if_neg hr, if_neg hr, free_tw]
      cases hx : Str.lastFree l with
      | none =>
        exfalso
        have hall := Str.lastFree_none hx
        cases l with
        | nil => simp at hr; omega
        | cons y l =>
          have := hall y (by simp)
          have := (h.vals y (by simp)).2
          omega
      | some i =>
        obtain ⟨hi, -, -⟩ := Str.lastFree_some hx
        dsimp only
        rw [cut_tw]
        have e : l.getD i Str.noItem = l[i] := by simp [List.getD, List.getElem?_eq_getElem hi]
        refine ⟨Str.cutL i l, rfl, ⟨?_, ?_, ?_⟩, rfl, rfl, rfl, ?_⟩
        · intro x hx
          rcases List.mem_cons.1 hx with rfl | hx
          · exact hk
          · exact h.known x (cut_mem hx)
        · intro x hx
          rcases List.mem_cons.1 hx with rfl | hx
          · exact ⟨rfl, rfl⟩
          · exact h.vals x (cut_mem hx)
        · have := cut_len_s i l hi; have := h.len; rw [List.length_cons]; omega
        · intro _
          rw [e, getD_tw _ l i hi]
          exact ⟨rfl, h.known _ (List.getElem_mem hi)⟩
theorem get_head_s (k : ByteArray) (v : Int) (l : List Str.CItem) : Str.getP (⟨k, v, 0⟩ :: l) k = (⟨k, v, 0⟩ :: l, v, true) := by
  unfold Str.getP Str.findL
  simp [Str.frontL, List.getD]
end
theorem numOf_new {T : List ByteArray} {k : ByteArray} (h : numOf T k = none) : (fun x => if k = x then some ((T.length : Int) + 1) else numOf T x) = numOf (T ++ [k]) := by
  funext x
  rw [numOf_snoc]
  by_cases e : k = x
  · rw [if_pos e, if_pos e, ← e, h]; rfl
  · rw [if_neg e, if_neg e]
    cases numOf T x <;> rfl
theorem numOf_old {T : List ByteArray} {k : ByteArray} {v : Int} (h : numOf T k = some v) : numOf T = numOf (T ++ [k]) := by
  funext x
  rw [numOf_snoc]
  by_cases e : k = x
  · rw [← e, h]; rfl
  · rw [if_neg e]
    cases numOf T x <;> rfl
end Go.Proofs.Ytjccfodadiaokaa
