/- A cache's calls, each by one contract. -/
import Derived.Test.YtjccfodadiaokaaCPutFull
namespace Go.Proofs.Ytjccfodadiaokaa
open Go.RowKit
set_option linter.unusedVariables false
set_option linter.unusedSimpArgs false
/-- The cache behind a call, and what has moved. -/
def Behind (p : Nat) (most : Int) (v : Value) (l' : List CItem) (w w' : World) : Prop :=
  ∃ v', CacheAt w' p most v' l' ∧ Moved p v.ownBlock w w' ∧ ∀ k, v'.ownBlock = some k → v.ownBlock = some k ∨ w.heap.size ≤ k
theorem Behind.same {p : Nat} {most : Int} {v : Value} {l : List CItem} {w w' : World} (h : CacheAt w p most v l) (g : Grow w w') : Behind p most v l w w' :=
  ⟨v, h.grow g, Moved.of_grow g, fun k hk => .inl hk⟩
theorem Behind.keep {p : Nat} {most : Int} {v : Value} {l' : List CItem} {w w' : World} (h : CacheAt w' p most v l') (m : Moved p v.ownBlock w w') : Behind p most v l' w w' :=
  ⟨v, h, m, fun k hk => .inl hk⟩
theorem Put_c (p : Nat) (most : Int) (v : Value) (l : List CItem) (k : Int) (s : ByteArray) (w : World) (hc : CacheAt w p most v l) (hl : l.length ≤ 1000000) (hm : 1 ≤ most) :
    Calls Try.prog 11 #[.pointer (some ⟨p, 0, none⟩), .int .i64 k, .string s] w fun e w' => e = .returned (.tuple #[.int .i64 (putP most l k s).2.1, .bool (putP most l k s).2.2.1, .int .i64 (putP most l k s).2.2.2]) ∧ Behind p most v (putP most l k s).1 w w' := by
  have hmz : (most == 0) = false := by simp; omega
  unfold putP
  cases hf : findL k l with
  | some i =>
    obtain ⟨h1, h2, h3⟩ := findL_some hf
    refine (PutIn_c p most v l k s i w hc hl hmz h1 h2 h3).mono ?_
    rintro e w' ⟨rfl, h4, h5⟩
    exact ⟨rfl, Behind.keep h4 h5⟩
  | none =>
    have hk := findL_none hf
    dsimp only
    by_cases hr : (l.length : Int) < most
    · rw [if_pos hr]
      exact PutRoom_c p most v l k s w hc hl hmz hk hr
    · rw [if_neg hr]
      cases hx : lastFree l with
      | none =>
        refine (PutFull_c p most v l k s w hc hl hm hk (by omega) (fun q h => lastFree_none hx _ (List.getElem_mem h))).mono ?_
        rintro e w' ⟨rfl, g⟩
        exact ⟨rfl, Behind.same hc g⟩
      | some i =>
        obtain ⟨h1, h2, h3⟩ := lastFree_some hx
        refine (PutEvict_c p most v l k s i w hc hl hm hk (by omega) h1 h2 h3).mono ?_
        rintro e w' ⟨rfl, h⟩
        have e : l.getD i noItem = l[i] := by simp [List.getD, List.getElem?_eq_getElem h1]
        dsimp only
        rw [e]
        exact ⟨rfl, h⟩
theorem Get_c (p : Nat) (most : Int) (v : Value) (l : List CItem) (k : Int) (w : World) (hc : CacheAt w p most v l) (hl : l.length ≤ 1000000) :
    Calls Try.prog 13 #[.pointer (some ⟨p, 0, none⟩), .int .i64 k] w fun e w' => e = .returned (.tuple #[.string (getP l k).2.1, .bool (getP l k).2.2]) ∧ Behind p most v (getP l k).1 w w' := by
  unfold getP
  cases hf : findL k l with
  | some i =>
    obtain ⟨h1, h2, h3⟩ := findL_some hf
    refine (GetIn_c p most v l k i w hc hl h1 h2 h3).mono ?_
    rintro e w' ⟨rfl, h4, h5⟩
    have e : l.getD i noItem = l[i] := by simp [List.getD, List.getElem?_eq_getElem h1]
    dsimp only
    rw [e]
    exact ⟨rfl, Behind.keep h4 h5⟩
  | none =>
    refine (GetOut_c p most v l k w hc hl (findL_none hf)).mono ?_
    rintro e w' ⟨rfl, g⟩
    exact ⟨rfl, Behind.same hc g⟩
theorem Pin_c (p : Nat) (most : Int) (v : Value) (l : List CItem) (k : Int) (w : World) (hc : CacheAt w p most v l) (hl : l.length ≤ 1000000) (hp : ∀ x ∈ l, -1000000000 ≤ x.pins ∧ x.pins ≤ 1000000000) :
    Calls Try.prog 12 #[.pointer (some ⟨p, 0, none⟩), .int .i64 k] w fun e w' => e = .returned (.bool (pinP l k).2) ∧ Behind p most v (pinP l k).1 w w' := by
  unfold pinP
  cases hf : findL k l with
  | some i =>
    obtain ⟨h1, h2, h3⟩ := findL_some hf
    have hb := hp _ (List.getElem_mem h1)
    refine (PinIn_c p most v l k i w hc hl h1 h2 h3 hb.1 hb.2).mono ?_
    rintro e w' ⟨rfl, h4, h5⟩
    exact ⟨rfl, Behind.keep h4 h5⟩
  | none =>
    refine (PinOut_c p most v l k w hc hl (findL_none hf)).mono ?_
    rintro e w' ⟨rfl, g⟩
    exact ⟨rfl, Behind.same hc g⟩
theorem Unpin_c (p : Nat) (most : Int) (v : Value) (l : List CItem) (k : Int) (w : World) (hc : CacheAt w p most v l) (hl : l.length ≤ 1000000) (hp : ∀ x ∈ l, 0 ≤ x.pins ∧ x.pins ≤ 1000000000) :
    Calls Try.prog 23 #[.pointer (some ⟨p, 0, none⟩), .int .i64 k] w fun e w' => e = .returned (.bool (unpinP l k).2) ∧ Behind p most v (unpinP l k).1 w w' := by
  unfold unpinP
  cases hf : findL k l with
  | some i =>
    obtain ⟨h1, h2, h3⟩ := findL_some hf
    have hb := hp _ (List.getElem_mem h1)
    have e : l.getD i noItem = l[i] := by simp [List.getD, List.getElem?_eq_getElem h1]
    dsimp only
    rw [e]
    by_cases hz : (l[i]).pins = 0
    · rw [if_pos hz]
      refine (UnpinZero_c p most v l k i w hc hl h1 h2 h3 hz).mono ?_
      rintro e w' ⟨rfl, g⟩
      exact ⟨rfl, Behind.same hc g⟩
    · rw [if_neg hz]
      refine (UnpinIn_c p most v l k i w hc hl h1 h2 h3 (by omega) hb.2).mono ?_
      rintro e w' ⟨rfl, h4, h5⟩
      exact ⟨rfl, Behind.keep h4 h5⟩
  | none =>
    refine (UnpinOut_c p most v l k w hc hl (findL_none hf)).mono ?_
    rintro e w' ⟨rfl, g⟩
    exact ⟨rfl, Behind.same hc g⟩
theorem Drop_c (p : Nat) (most : Int) (v : Value) (l : List CItem) (k : Int) (w : World) (hc : CacheAt w p most v l) (hl : l.length ≤ 1000000) :
    Calls Try.prog 24 #[.pointer (some ⟨p, 0, none⟩), .int .i64 k] w fun e w' => e = .returned (.bool (dropP l k).2) ∧ Behind p most v (dropP l k).1 w w' := by
  unfold dropP
  cases hf : findL k l with
  | some i =>
    obtain ⟨h1, h2, h3⟩ := findL_some hf
    exact DropIn_c p most v l k i w hc hl h1 h2 h3
  | none =>
    refine (DropOut_c p most v l k w hc hl (findL_none hf)).mono ?_
    rintro e w' ⟨rfl, g⟩
    exact ⟨rfl, Behind.same hc g⟩
end Go.Proofs.Ytjccfodadiaokaa
