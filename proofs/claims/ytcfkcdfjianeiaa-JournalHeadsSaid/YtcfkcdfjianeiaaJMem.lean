/- Pages and texts in memory. -/
import Derived.Test.YtcfkcdfjianeiaaJFull
namespace Go.Proofs.Ytcfkcdfjianeiaa
open Go.RowKit
set_option linter.unusedVariables false
set_option linter.unusedSimpArgs false
theorem Grow.cellJ {a b : World} (h : Grow a b) {p : Addr} {v : Value} (hc : a.cell? p = some v) : b.cell? p = some v :=
  (Below.cell h (World.block_lt_of_cell? a p hc)).trans hc
theorem own_growJ {w w' : World} {base : Nat} {e : TypeId} {size : Nat} {v : Value} {n : Nat} {xs : List Value} (h : w.ownsRow base e size v n xs) (hg : Grow w w') : w'.ownsRow base e size v n xs :=
  h.kept (row := none) ⟨hg.os, hg.tape, hg.output, hg.size, fun k hk _ => hg.block k hk⟩ (by cases v.ownBlock <;> simp)
/-- The value is a slice of just these pages. -/
def Pages (w : World) (v : Value) (l : List PageR) : Prop := ∃ p cap, v = .slice p l.length cap ∧ l.length ≤ 8796093022208 ∧
  (0 < l.length → ∃ b off, p = some ⟨b, off, none⟩ ∧ ∀ i (h : i < l.length), w.cell? ⟨b, off + i * 2, none⟩ = some (.int .i64 l[i].pos) ∧ w.cell? ⟨b, off + i * 2 + 1, none⟩ = some (.string l[i].data))
theorem Pages.grow {w w' : World} {v : Value} {l : List PageR} (h : Pages w v l) (hg : Grow w w') : Pages w' v l := by
  obtain ⟨p, cap, hv, hl, hc⟩ := h
  refine ⟨p, cap, hv, hl, fun h0 => ?_⟩
  obtain ⟨b, off, hp, hcell⟩ := hc h0
  exact ⟨b, off, hp, fun i hi => ⟨hg.cellJ (hcell i hi).1, hg.cellJ (hcell i hi).2⟩⟩
/-- The value is a slice of just these texts. -/
def Texts (w : World) (v : Value) (l : List (List UInt8)) : Prop := ∃ p cap, v = .slice p l.length cap ∧ l.length ≤ 8796093022208 ∧
  (0 < l.length → ∃ b, p = some ⟨b, 0, none⟩ ∧ ∀ i (h : i < l.length), w.cell? ⟨b, i, none⟩ = some (.string ⟨l[i].toArray⟩))
theorem Texts.grow {w w' : World} {v : Value} {l : List (List UInt8)} (h : Texts w v l) (hg : Grow w w') : Texts w' v l := by
  obtain ⟨p, cap, hv, hl, hc⟩ := h
  refine ⟨p, cap, hv, hl, fun h0 => ?_⟩
  obtain ⟨b, hp, hcell⟩ := hc h0
  exact ⟨b, hp, fun i hi => hg.cellJ (hcell i hi)⟩
theorem Texts.nil (w : World) : Texts w (.slice none 0 0) [] := ⟨none, 0, rfl, by simp, fun h => by simp at h⟩
def strs (l : List (List UInt8)) : List Value := l.map fun t => .string ⟨t.toArray⟩
theorem strs_snoc (l : List (List UInt8)) (t : List UInt8) : strs l ++ [.string ⟨t.toArray⟩] = strs (l ++ [t]) := by simp [strs]
theorem Texts.of_own {w : World} {base : Nat} {e : TypeId} {v : Value} {n : Nat} {l : List (List UInt8)} (h : w.ownsRow base e 1 v n (strs l)) (hn : l.length = n) (hl : n ≤ 8796093022208) : Texts w v l := by
  rcases h.2 with ⟨rfl, h0⟩ | ⟨g, cap, cur, rfl, hb, hg, hnc, hcm, hcs, htake⟩
  · have : l = [] := List.eq_nil_of_length_eq_zero (by omega)
    subst this
    exact Texts.nil w
  · refine ⟨_, cap, by rw [hn], by omega, fun _ => ⟨g, rfl, fun i hi => ?_⟩⟩
    rw [h.cellAt i (by omega)]
    simp [strs, List.getD, hi]
theorem infoStr : Info Try.prog 9 (.string ⟨#[]⟩) 1 16 := by unfold Info; kernel_rfl
def PackPost (l : List PageR) (w : World) (e : Ending) (w' : World) : Prop := ∃ v, e = .returned (.tuple #[v, .int .i64 (packE l : Int)]) ∧ Texts w' v (packL l) ∧ Grow w w'
theorem bytes_szJ (a : List UInt8) : (⟨a.toArray⟩ : ByteArray).size = a.length := by simp [ByteArray.size]
theorem pack_bad {l : List PageR} {e : Nat} (hn : ¬ 1024 < l.length) (h : firstBad l = e) (h0 : e ≠ 0) : packE l = e ∧ packL l = [] := by
  have : packE l = e := by unfold packE; rw [if_neg hn, h]
  exact ⟨this, by unfold packL; rw [this, if_neg h0]⟩
theorem pack_ok {l : List PageR} (hn : ¬ 1024 < l.length) (h : firstBad l = 0) : packE l = 0 ∧ packL l = blocksL l := by
  have : packE l = 0 := by unfold packE; rw [if_neg hn, h]
  exact ⟨this, by unfold packL; rw [this, if_pos rfl]⟩
theorem pack_many {l : List PageR} (hn : 1024 < l.length) : packE l = 2 ∧ packL l = [] := by
  have : packE l = 2 := by unfold packE; rw [if_pos hn]
  exact ⟨this, by unfold packL; rw [this, if_neg (by omega)]⟩
end Go.Proofs.Ytcfkcdfjianeiaa
