/- The cache that a law has made, behind some calls. -/
import Derived.Test.YtjccfodadiaokaaCAwake
namespace Go.Proofs.Ytjccfodadiaokaa
open Go.RowKit
set_option linter.unusedVariables false
set_option linter.unusedSimpArgs false
/-- The cache that a law has made, behind some calls. -/
def InCache (w wr : World) (p : Nat) (most : Int) (l : List CItem) : Prop := ∃ v, CacheAt wr p most v l ∧ (∀ k, v.ownBlock = some k → w.heap.size ≤ k) ∧ Below w.heap.size w wr ∧ w.heap.size ≤ p
theorem InCache.step {w wr w' : World} {p : Nat} {most : Int} {v : Value} {l' : List CItem} (ho : ∀ k, v.ownBlock = some k → w.heap.size ≤ k) (hb : Below w.heap.size w wr) (hp : w.heap.size ≤ p) (h : Behind p most v l' wr w') : InCache w w' p most l' := by
  obtain ⟨v', h1, h2, h3⟩ := h
  exact ⟨v', h1, fun k hk => (h3 k hk).elim (ho k) (Nat.le_trans hb.size), Below.trans hb (h2.below hb.size hp ho), hp⟩
theorem InCache.below {w wr : World} {p : Nat} {most : Int} {l : List CItem} (h : InCache w wr p most l) : Below w.heap.size w wr := by
  obtain ⟨v, -, -, hb, -⟩ := h
  exact hb
theorem InCache.put {w wr : World} {p : Nat} {most : Int} {l : List CItem} (h : InCache w wr p most l) (hl : l.length ≤ 1000000) (hm : 1 ≤ most) (k : Int) (s : ByteArray) :
    Calls Try.prog 11 #[.pointer (some ⟨p, 0, none⟩), .int .i64 k, .string s] wr fun e w' => e = .returned (.tuple #[.int .i64 (putP most l k s).2.1, .bool (putP most l k s).2.2.1, .int .i64 (putP most l k s).2.2.2]) ∧ InCache w w' p most (putP most l k s).1 := by
  obtain ⟨v, h1, h2, h3, h4⟩ := h
  refine (Put_c p most v l k s wr h1 hl hm).mono ?_
  rintro e w' ⟨rfl, h⟩
  exact ⟨rfl, InCache.step h2 h3 h4 h⟩
theorem InCache.get {w wr : World} {p : Nat} {most : Int} {l : List CItem} (h : InCache w wr p most l) (hl : l.length ≤ 1000000) (k : Int) :
    Calls Try.prog 13 #[.pointer (some ⟨p, 0, none⟩), .int .i64 k] wr fun e w' => e = .returned (.tuple #[.string (getP l k).2.1, .bool (getP l k).2.2]) ∧ InCache w w' p most (getP l k).1 := by
  obtain ⟨v, h1, h2, h3, h4⟩ := h
  refine (Get_c p most v l k wr h1 hl).mono ?_
  rintro e w' ⟨rfl, h⟩
  exact ⟨rfl, InCache.step h2 h3 h4 h⟩
theorem InCache.pin {w wr : World} {p : Nat} {most : Int} {l : List CItem} (h : InCache w wr p most l) (hl : l.length ≤ 1000000) (k : Int) (hp : ∀ x ∈ l, -1000000000 ≤ x.pins ∧ x.pins ≤ 1000000000) :
    Calls Try.prog 12 #[.pointer (some ⟨p, 0, none⟩), .int .i64 k] wr fun e w' => e = .returned (.bool (pinP l k).2) ∧ InCache w w' p most (pinP l k).1 := by
  obtain ⟨v, h1, h2, h3, h4⟩ := h
  refine (Pin_c p most v l k wr h1 hl hp).mono ?_
  rintro e w' ⟨rfl, h⟩
  exact ⟨rfl, InCache.step h2 h3 h4 h⟩
end Go.Proofs.Ytjccfodadiaokaa
