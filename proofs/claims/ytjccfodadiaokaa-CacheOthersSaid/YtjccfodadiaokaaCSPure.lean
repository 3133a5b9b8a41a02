/- What a cache's calls do, as plain lists. No Go text is spoken of. -/
import Derived.Test.YtjccfodadiaokaaCSMem
namespace Go.Proofs.Ytjccfodadiaokaa.Str
open Go.RowKit
set_option linter.unusedVariables false
set_option linter.unusedSimpArgs false
/-- Where a key is. -/
def findL (k : ByteArray) : List CItem → Option Nat
  | [] => none
  | x :: l => if x.key = k then some 0 else (findL k l).map (· + 1)
theorem findL_some {k : ByteArray} : ∀ {l : List CItem} {i : Nat}, findL k l = some i → ∃ h : i < l.length, (l[i]).key = k ∧ ∀ j (h : j < l.length), j < i → (l[j]).key ≠ k
  | [], i, h => by simp [findL] at h
  | x :: l, i, h => by
    unfold findL at h
    by_cases hk : x.key = k
    · rw [if_pos hk] at h
      cases h
      exact ⟨by simp, hk, fun j hj h => by omega⟩
    · rw [if_neg hk] at h
      cases hf : findL k l with
      | none => rw [hf] at h; cases h
      | some i0 =>
        rw [hf] at h
        obtain rfl : i0 + 1 = i := by simpa using h
        obtain ⟨h1, h2, h3⟩ := findL_some hf
        refine ⟨by simpa using h1, by simpa using h2, fun j hj hji => ?_⟩
        cases j with
        | zero => simpa using hk
        | succ j => simpa using h3 j (by simpa using hj) (by omega)
theorem findL_none {k : ByteArray} : ∀ {l : List CItem}, findL k l = none → ∀ x ∈ l, x.key ≠ k
  | [], _, x, hx => by cases hx
  | y :: l, h, x, hx => by
    unfold findL at h
    by_cases hk : y.key = k
    · rw [if_pos hk] at h; cases h
    · rw [if_neg hk] at h
      have hn : findL k l = none := by
        cases hf : findL k l with
        | none => rfl
        | some i0 => rw [hf] at h; cases h
      rcases List.mem_cons.1 hx with rfl | hx
      · exact hk
      · exact findL_none hn x hx
/-- The last one that isn't pinned. -/
def lastFree : List CItem → Option Nat
  | [] => none
  | x :: l => match lastFree l with
    | some i => some (i + 1)
    | none => if 0 < x.pins then none else some 0
theorem lastFree_some : ∀ {l : List CItem} {i : Nat}, lastFree l = some i → ∃ h : i < l.length, ¬ 0 < (l[i]).pins ∧ ∀ q (h : q < l.length), i < q → 0 < (l[q]).pins
  | [], i, h => by simp [lastFree] at h
  | x :: l, i, h => by
    unfold lastFree at h
    cases hf : lastFree l with
    | some i0 =>
      rw [hf] at h
      obtain rfl : i0 + 1 = i := by simpa using h
      obtain ⟨h1, h2, h3⟩ := lastFree_some hf
      refine ⟨by simpa using h1, by simpa using h2, fun q hq hiq => ?_⟩
      cases q with
      | zero => omega
      | succ q => simpa using h3 q (by simpa using hq) (by omega)
    | none =>
      rw [hf] at h
      have hall := lastFree_none' hf
      by_cases hp : 0 < x.pins
      · simp [hp] at h
      · simp only [if_neg hp] at h
        cases h
        refine ⟨by simp, by simpa using hp, fun q hq hiq => ?_⟩
        cases q with
        | zero => omega
        | succ q => simpa using hall _ (List.getElem_mem (by simpa using hq))
where
  lastFree_none' : ∀ {l : List CItem}, lastFree l = none → ∀ x ∈ l, 0 < x.pins
  | [], _, x, hx => by cases hx
  | y :: l, h, x, hx => by
    unfold lastFree at h
    cases hf : lastFree l with
    | some i0 => rw [hf] at h; cases h
    | none =>
      rw [hf] at h
      by_cases hp : 0 < y.pins
      · rcases List.mem_cons.1 hx with rfl | hx
        · exact hp
        · exact lastFree_none' hf x hx
      · simp only [if_neg hp] at h; cases h
theorem lastFree_none {l : List CItem} (h : lastFree l = none) : ∀ x ∈ l, 0 < x.pins := lastFree_some.lastFree_none' h
def frontL (i : Nat) (l : List CItem) : List CItem := (l.drop i).take 1 ++ l.take i ++ l.drop (i + 1)
def cutL (i : Nat) (l : List CItem) : List CItem := l.take i ++ l.drop (i + 1)
def pinBy (l : List CItem) (i : Nat) (d : Int) : List CItem := match l[i]? with
  | some x => l.set i { x with pins := x.pins + d }
  | none => l
def setHead (s : Int) (l : List CItem) : List CItem := match l with
  | [] => []
  | x :: l => { x with val := s } :: l
def noItem : CItem := ⟨ByteArray.empty, 0, 0⟩
/-- Put: what is kept, what went, whether, and what is wrong. -/
def putP (most : Int) (l : List CItem) (k : ByteArray) (s : Int) : List CItem × ByteArray × Bool × Int := match findL k l with
  | some i => (setHead s (frontL i l), ByteArray.empty, false, 0)
  | none => if (l.length : Int) < most then (⟨k, s, 0⟩ :: l, ByteArray.empty, false, 0) else match lastFree l with
    | none => (l, ByteArray.empty, false, 12)
    | some i => (⟨k, s, 0⟩ :: cutL i l, (l.getD i noItem).key, true, 0)
def getP (l : List CItem) (k : ByteArray) : List CItem × Int × Bool := match findL k l with
  | some i => (frontL i l, (l.getD i noItem).val, true)
  | none => (l, 0, false)
def pinP (l : List CItem) (k : ByteArray) : List CItem × Bool := match findL k l with
  | some i => (pinBy l i 1, true)
  | none => (l, false)
def unpinP (l : List CItem) (k : ByteArray) : List CItem × Bool := match findL k l with
  | some i => if (l.getD i noItem).pins = 0 then (l, false) else (pinBy l i (-1), true)
  | none => (l, false)
def dropP (l : List CItem) (k : ByteArray) : List CItem × Bool := match findL k l with
  | some i => (cutL i l, true)
  | none => (l, false)
end Go.Proofs.Ytjccfodadiaokaa.Str
