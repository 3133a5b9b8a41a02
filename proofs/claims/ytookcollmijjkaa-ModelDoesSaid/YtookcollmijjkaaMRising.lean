/- Whether numbers rise, as the reference asks. -/
import Derived.Test.YtookcollmijjkaaMRunsPlain
import Derived.Test.YtookcollmijjkaaMInts
namespace Go.Proofs.Ytookcollmijjkaa
open Go.RowKit
set_option linter.unusedVariables false
set_option linter.unusedSimpArgs false
set_option maxRecDepth 100000 in
set_option maxHeartbeats 2000000 in
theorem Rising_c (xs : List Int) (v : Value) (w : World) (hv : Ints w v xs) (b : Bool) (hb : b = true ↔ xs.Pairwise (· < ·)) : Calls Try.prog 11 #[v] w fun e w' => e = .returned (.bool b) ∧ Grow w w' := by
  rw [rise_iff] at hb
  have hn := hv.length
  obtain ⟨p, cap, rfl, hc⟩ := hv.at
  have HC := hid hc
  have HB := hid hb
  clear hc hv hb
  generalize xs.length = n at *
  go_enter Try.func11, Try.ntmps11
  go_wp2_with fail
  go_loopw [3] (fun i wr => ∃ k : Nat, 1 ≤ k ∧ (k ≤ n ∨ k = 1) ∧ i = .int .i64 (k : Int) ∧ Hid (∀ i, i + 1 < k → xs.getD i 0 < xs.getD (i + 1) 0) ∧ Grow w wr) (fun i _ => n - (intOf i).toNat)
  case atStart => exact ⟨1, by omega, .inr rfl, rfl, hid (fun i hi => by omega), Grow.refl _⟩
  case round =>
    obtain ⟨k, hk1, hk, rfl, HK, hg⟩ := hrel
    by_cases hlt : k < n
    · obtain ⟨b0, o0, rfl, a0⟩ := HC.out (k - 1) (by omega)
      obtain ⟨b1, o1, e1, a1⟩ := HC.out k hlt
      cases e1
      replace a0 := hg.cell a0
      replace a1 := hg.cell a1
      have hw1 : IntKind.i64.wrap ((k : Int) - 1) = ((k - 1 : Nat) : Int) := by rw [IntKind.wrap_i64]; omega
      have hk0 : (0 : Int) ≤ (k : Int) := by omega
      have hk2 : (k : Int) < (n : Int) := by omega
      have hk3 : (0 : Int) ≤ ((k - 1 : Nat) : Int) := by omega
      have hk4 : ((k - 1 : Nat) : Int) < (n : Int) := by omega
      by_cases hge : xs.getD k 0 ≤ xs.getD (k - 1) 0
      · have hbf : b = false := by
          cases b with
          | false => rfl
          | true =>
            have := (HB.out.1 rfl) (k - 1) (by omega)
            rw [show k - 1 + 1 = k by omega] at this
            omega
        subst hbf
        have HG := hid hge
        have hd : decide (xs.getD k 0 ≤ xs.getD (k - 1) 0) = true := decide_eq_true hge
        clear hge HB HK
        generalize xs.getD k 0 = y1 at *
        generalize xs.getD (k - 1) 0 = y0 at *
        go_wp2_with fail
        go_quiet (fail)
        go_wp2_with fail
        go_ret
        exact ⟨rfl, Grow.drewNM hg _⟩
      · have H3 : Hid (∀ i, i + 1 < k + 1 → xs.getD i 0 < xs.getD (i + 1) 0) := fun i hi => by
          by_cases he : i + 1 = k
          · rw [he, show i = k - 1 by omega]; omega
          · exact HK.out i (by omega)
        have HG := hid hge
        have hd : decide (xs.getD k 0 ≤ xs.getD (k - 1) 0) = false := decide_eq_false hge
        clear hge HB HK
        generalize xs.getD k 0 = y1 at *
        generalize xs.getD (k - 1) 0 = y0 at *
        go_wp2_with fail
        go_quiet (fail)
        go_wp2_with fail
        go_roundw
        case rel => exact ⟨k + 1, by omega, .inl (by omega), by go_num, H3, Grow.drewNM hg _⟩
        case measure => simp [intOf]; omega
    · have hbt : b = true := HB.out.2 (fun i hi => HK.out i (by omega))
      subst hbt
      clear HB HK
      go_wp2_with fail
      go_ret
      exact ⟨rfl, hg⟩
end Go.Proofs.Ytookcollmijjkaa
