/- A slice of integers that is read: what it holds, in a world and in every later one. -/
import Derived.Test.YtlhgdbangnohjaaRely
import Derived.Test.YtlhgdbangnohjaaLawBase
namespace Go.Proofs.Ytlhgdbangnohjaa
open Go.RowKit
set_option linter.unusedVariables false

theorem Grow.cell {a b : World} (h : Grow a b) {p : Addr} {v : Value} (hc : a.cell? p = some v) : b.cell? p = some v :=
  (Below.cell h (World.block_lt_of_cell? a p hc)).trans hc

/-- The value is a slice of just these integers. -/
def Ints (w : World) (v : Value) (xs : List Int) : Prop := ∃ p cap, v = .slice p xs.length cap ∧ xs.length ≤ 20000000000000 ∧
  (0 < xs.length → ∃ b off, p = some ⟨b, off, none⟩ ∧ ∀ i, i < xs.length → w.cell? ⟨b, off + i, none⟩ = some (.int .i64 (xs.getD i 0))) ∧ xs.length ≤ cap

theorem Ints.grow {w w' : World} {v : Value} {xs : List Int} (h : Ints w v xs) (hg : Grow w w') : Ints w' v xs := by
  obtain ⟨p, cap, hv, hl, hc, hcap⟩ := h
  refine ⟨p, cap, hv, hl, fun h0 => ?_, hcap⟩
  obtain ⟨b, off, hp, hcell⟩ := hc h0
  exact ⟨b, off, hp, fun i hi => hg.cell (hcell i hi)⟩
theorem Ints.nil (w : World) : Ints w (.slice none 0 0) [] := ⟨none, 0, rfl, by simp, (fun h => by simp at h), by simp⟩

/-- Integers as cells. -/
def i64s (xs : List Int) : List Value := xs.map (Value.int .i64)
theorem i64s_append (xs ys : List Int) : i64s (xs ++ ys) = i64s xs ++ i64s ys := by simp [i64s]
theorem i64s_length (xs : List Int) : (i64s xs).length = xs.length := by simp [i64s]
theorem Ints.of_own {w : World} {base : Nat} {e : TypeId} {v : Value} {n : Nat} {xs : List Int} (h : w.ownsRow base e 1 v n (i64s xs)) (hl : n ≤ 20000000000000) : Ints w v xs := by
  have hn : xs.length = n := by have := h.1; simpa [i64s] using this
  rcases h.2 with ⟨rfl, rfl⟩ | ⟨g, cap, cur, rfl, hb, hg, hnc, hcm, hcs, htake⟩
  · have : xs = [] := List.eq_nil_of_length_eq_zero hn
    subst this
    exact Ints.nil w
  · refine ⟨_, cap, by rw [hn], by omega, fun _ => ⟨g, 0, rfl, fun i hi => ?_⟩, by omega⟩
    rw [Nat.zero_add, h.cellAt i (by omega)]
    simp [i64s, List.getD, hi]
theorem Ints.of_row {w : World} {a : Option Addr} {len cap : Nat} {zs : List Int} (h : IntRow .i64 8 w a len cap zs) :
    Ints w (.slice a len cap) (zs.take len) ∧ (∀ n ∈ zs.take len, -9223372036854775808 ≤ n ∧ n ≤ 9223372036854775807) := by
  rcases h with ⟨rfl, rfl, rfl, rfl⟩ | ⟨x, rfl, hl, hm, hz, hcell, hwf, hre⟩
  · exact ⟨Ints.nil w, by simp⟩
  · have hlen : (zs.take len).length = len := by rw [List.length_take]; omega
    refine ⟨⟨some x, cap, by rw [hlen], by omega, fun h0 => ?_, by rw [hlen]; exact hl⟩, fun n hn => wf_i64 (hwf n (List.mem_of_mem_take hn))⟩
    rw [hlen] at h0 ⊢
    obtain ⟨b, off, rfl, hc⟩ := ints_at hcell (by omega)
    refine ⟨b, off, rfl, fun i hi => ?_⟩
    rw [hc i (by omega)]
    simp [List.getD, hi]
theorem Ints.length {w : World} {v : Value} {xs : List Int} (h : Ints w v xs) : xs.length ≤ 20000000000000 := by obtain ⟨_, _, _, hl, _, _⟩ := h; exact hl
theorem Ints.of_block {w : World} {g : Nat} {e : TypeId} {fr : Nat × Nat} {xs : List Int} (h : w.heap[g]? = some (.cells (i64s xs).toArray e fr)) (hl : xs.length ≤ 20000000000000) : Ints w (.slice (some ⟨g, 0, none⟩) xs.length xs.length) xs := by
  refine ⟨_, _, rfl, hl, fun _ => ⟨g, 0, rfl, fun i hi => ?_⟩, Nat.le_refl _⟩
  rw [heap_cell h, Nat.zero_add]
  simp [i64s, List.getD, hi]
end Go.Proofs.Ytlhgdbangnohjaa
