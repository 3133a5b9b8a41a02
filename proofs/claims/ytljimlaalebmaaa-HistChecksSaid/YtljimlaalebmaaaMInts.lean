/- The law's comparing of lists of numbers: the same ones. -/
import Derived.Test.YtljimlaalebmaaaMText
import Derived.Deep.QuietTactic
import Derived.BigQuiet
namespace Go.Proofs.Ytljimlaalebmaaa
open Go.RowKit
set_option linter.unusedVariables false
set_option linter.unusedSimpArgs false
theorem Grow.drewNM {a b : World} (h : Grow a b) (n : Nat) : Grow a (b.drewN n) := ⟨h.os, h.tape, h.output, h.size, h.block⟩
theorem Ints.cap {w : World} {p : Option Addr} {n c : Nat} {xs : List Int} (h : Ints w (.slice p n c) xs) : n ≤ c := by
  obtain ⟨p, cap, e, hl, hc, hcap⟩ := h
  cases e
  exact hcap
theorem Ints.at {w : World} {v : Value} {xs : List Int} (h : Ints w v xs) : ∃ p cap, v = .slice p xs.length cap ∧ ∀ k, k < xs.length → ∃ (b off : Nat), p = some ⟨b, off, none⟩ ∧ w.cell? ⟨b, off + k, none⟩ = some (.int .i64 (xs.getD k 0)) := by
  obtain ⟨p, cap, rfl, hl, hc, hcap⟩ := h
  refine ⟨p, cap, rfl, fun k hk => ?_⟩
  obtain ⟨b, off, e, H⟩ := hc (by omega)
  exact ⟨b, off, e, H k hk⟩
end Go.Proofs.Ytljimlaalebmaaa
