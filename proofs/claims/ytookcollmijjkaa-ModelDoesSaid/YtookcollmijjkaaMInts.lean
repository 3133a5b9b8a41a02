/- The law's comparing of lists of numbers: the same ones. -/
import Derived.Test.YtookcollmijjkaaMText
import Derived.Deep.QuietTactic
import Derived.BigQuiet
namespace Go.Proofs.Ytookcollmijjkaa
open Go.RowKit
set_option linter.unusedVariables false
set_option linter.unusedSimpArgs false
theorem Grow.drewNM {a b : World} (h : Grow a b) (n : Nat) : Grow a (b.drewN n) := ⟨h.os, h.tape, h.output, h.size, h.block⟩
theorem Ints.cap {w : World} {p : Option Addr} {n c : Nat} {xs : List Int} (h : Ints w (.slice p n c) xs) : n ≤ c := by
  obtain ⟨p, cap, e, hl, hc, hcap⟩ := h
  cases e
  exact hcap
theorem Ints.at {w : World} {v : Value} {xs : List Int} (h : Ints w v xs) : ∃ p cap, v = .slice p xs.length cap ∧ ∀ k, k < xs.length → ∃ (b off : Nat), p = some ⟨b, off, none⟩ ∧ w.cell? ⟨b, off + k, none⟩ = some (.int .i64 (xs.getD k 0)) := by
  obtain ⟨p, cap, rfl, hl, hc, hcap⟩ := h
  refine ⟨p, cap, rfl, fun k hk => ?_⟩
  obtain ⟨b, off, e, H⟩ := hc (by omega)
  exact ⟨b, off, e, H k hk⟩
set_option maxRecDepth 100000 in
set_option maxHeartbeats 1000000 in
theorem RInts_c (xs : List Int) (va vb : Value) (w : World) (ha : Ints w va xs) (hb : Ints w vb xs) : Calls Try.prog 13 #[va, vb] w fun e w' => e = .returned (.bool true) ∧ Grow w w' := by
  have hn := ha.length
  obtain ⟨pa, ca, rfl, hca⟩ := ha.at
  obtain ⟨pb, cb, rfl, hcb⟩ := hb.at
  have HX := hid (show ∀ k, k < xs.length → ∃ (ba oa bb ob : Nat) (n : Int), pa = some ⟨ba, oa, none⟩ ∧ pb = some ⟨bb, ob, none⟩ ∧ w.cell? ⟨ba, oa + k, none⟩ = some (.int .i64 n) ∧ w.cell? ⟨bb, ob + k, none⟩ = some (.int .i64 n) from by
    intro k hk
    obtain ⟨ba, oa, e1, A⟩ := hca k hk
    obtain ⟨bb, ob, e2, B⟩ := hcb k hk
    exact ⟨ba, oa, bb, ob, _, e1, e2, A, B⟩)
  clear hca hcb ha hb
  generalize xs.length = n at *
  go_enter Try.func13, Try.ntmps13
  go_wp2_with fail
  go_loopw [5] (fun i wr => ∃ k : Nat, k ≤ n ∧ i = .int .i64 k ∧ Grow w wr) (fun i _ => n - (intOf i).toNat)
  case atStart => exact ⟨0, by omega, rfl, Grow.refl _⟩
  case round =>
    obtain ⟨k, hk, rfl, hg⟩ := hrel
    by_cases hlt : k < n
    · obtain ⟨ba, oa, bb, ob, x, rfl, rfl, a0, b0⟩ := HX.out k hlt
      replace a0 := hg.cell a0
      replace b0 := hg.cell b0
      have hk0 : (0 : Int) ≤ (k : Int) := by omega
      have hk1 : (k : Int) < (n : Int) := by omega
      go_wp2_with fail
      go_quiet (fail)
      go_wp2_with fail
      go_roundw
      case rel => exact ⟨k + 1, by omega, by go_num, Grow.drewNM hg _⟩
      case measure => simp [intOf]; omega
    · obtain rfl : k = n := by omega
      go_wp2_with fail
      go_ret
      exact ⟨rfl, hg⟩
end Go.Proofs.Ytookcollmijjkaa
