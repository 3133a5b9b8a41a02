/- The examples of the layer 'cache'. -/
import Derived.Test.YtjccfodadiaokaaCCalls
namespace Go.Proofs.Ytjccfodadiaokaa
open Go.RowKit
set_option linter.unusedVariables false
set_option linter.unusedSimpArgs false
def tA : ByteArray := ⟨#[97]⟩
def tB : ByteArray := ⟨#[98]⟩
def tC : ByteArray := ⟨#[99]⟩
def tD : ByteArray := ⟨#[100]⟩
theorem aw1 : putP 2 [] 1 tA = ([⟨1, tA, 0⟩], 0, false, 0) := rfl
theorem aw2 : putP 2 [⟨1, tA, 0⟩] 2 tB = ([⟨2, tB, 0⟩, ⟨1, tA, 0⟩], 0, false, 0) := rfl
theorem aw3 : getP [⟨2, tB, 0⟩, ⟨1, tA, 0⟩] 1 = ([⟨1, tA, 0⟩, ⟨2, tB, 0⟩], tA, true) := rfl
theorem aw4 : putP 2 [⟨1, tA, 0⟩, ⟨2, tB, 0⟩] 3 tC = ([⟨3, tC, 0⟩, ⟨1, tA, 0⟩], 2, true, 0) := rfl
theorem aw5 : pinP [⟨3, tC, 0⟩, ⟨1, tA, 0⟩] 1 = ([⟨3, tC, 0⟩, ⟨1, tA, 1⟩], true) := rfl
theorem aw6 : pinP [⟨3, tC, 0⟩, ⟨1, tA, 1⟩] 3 = ([⟨3, tC, 1⟩, ⟨1, tA, 1⟩], true) := rfl
theorem aw7 : putP 2 [⟨3, tC, 1⟩, ⟨1, tA, 1⟩] 4 tD = ([⟨3, tC, 1⟩, ⟨1, tA, 1⟩], 0, false, 12) := rfl
set_option maxRecDepth 100000 in
set_option maxHeartbeats 4000000 in
theorem awake_c (w : World) : Calls Try.prog 9 #[] w fun e w' => e = .returned (.bool true) ∧ Below w.heap.size w w' := by
  have H0 := hid (New_c 2 w (by omega) (by omega))
  have H1 := hid (fun p v w hc => Put_c p 2 v [] 1 tA w hc (by simp) (by omega))
  rw [aw1] at H1
  have H2 := hid (fun p v w hc => Put_c p 2 v [⟨1, tA, 0⟩] 2 tB w hc (by simp) (by omega))
  rw [aw2] at H2
  have H3 := hid (fun p v w hc => Get_c p 2 v [⟨2, tB, 0⟩, ⟨1, tA, 0⟩] 1 w hc (by simp))
  rw [aw3] at H3
  have H4 := hid (fun p v w hc => Put_c p 2 v [⟨1, tA, 0⟩, ⟨2, tB, 0⟩] 3 tC w hc (by simp) (by omega))
  rw [aw4] at H4
  have H5 := hid (fun p v w hc => Pin_c p 2 v [⟨3, tC, 0⟩, ⟨1, tA, 0⟩] 1 w hc (by simp) (by simp))
  rw [aw5] at H5
  have H6 := hid (fun p v w hc => Pin_c p 2 v [⟨3, tC, 0⟩, ⟨1, tA, 1⟩] 3 w hc (by simp) (by simp))
  rw [aw6] at H6
  have H7 := hid (fun p v w hc => Put_c p 2 v [⟨3, tC, 1⟩, ⟨1, tA, 1⟩] 4 tD w hc (by simp) (by omega))
  rw [aw7] at H7
  have HT := hid (show tA = ⟨#[97]⟩ ∧ tB = ⟨#[98]⟩ ∧ tC = ⟨#[99]⟩ ∧ tD = ⟨#[100]⟩ from ⟨rfl, rfl, rfl, rfl⟩)
  generalize tA = a at *
  generalize tB = b at *
  generalize tC = c at *
  generalize tD = d at *
  obtain ⟨rfl, rfl, rfl, rfl⟩ := HT.out
  clear HT
  go_enter Try.func9, Try.ntmps9
  go_wp2_with fail
  refine H0.out.mono ?_
  rintro e w0 ⟨rfl, hc0, g0⟩
  have HC0 := hid hc0
  have M0 := hid (show Below w.heap.size w w0 from g0)
  clear hc0 g0
  go_wp2_with fail
  refine (H1.out _ _ _ HC0.out).mono ?_
  rintro e w1 ⟨rfl, v1, hc1, m1, o1⟩
  have HC1 := hid hc1
  have M1 := hid (Below.trans M0.out (m1.below (by exact M0.out.size) (Nat.le_refl _) (by intro j hj; simp [Value.ownBlock] at hj)))
  have O1 := hid (show ∀ k, v1.ownBlock = some k → w.heap.size ≤ k from fun k hk => (o1 k hk).elim (fun h => absurd h (by simp [Value.ownBlock])) (Nat.le_trans M0.out.size))
  clear hc1 m1 o1 HC0
  go_wp2_with fail
  refine (H2.out _ _ _ HC1.out).mono ?_
  rintro e w2 ⟨rfl, v2, hc2, m2, o2⟩
  have HC2 := hid hc2
  have M2 := hid (Below.trans M1.out (m2.below M1.out.size (Nat.le_refl _) O1.out))
  have O2 := hid (show ∀ k, v2.ownBlock = some k → w.heap.size ≤ k from fun k hk => (o2 k hk).elim (O1.out k) (Nat.le_trans M1.out.size))
  clear hc2 m2 o2 HC1
  go_wp2_with fail
  refine (H3.out _ _ _ HC2.out).mono ?_
  rintro e w3 ⟨rfl, v3, hc3, m3, o3⟩
  have HC3 := hid hc3
  have M3 := hid (Below.trans M2.out (m3.below M2.out.size (Nat.le_refl _) O2.out))
  have O3 := hid (show ∀ k, v3.ownBlock = some k → w.heap.size ≤ k from fun k hk => (o3 k hk).elim (O2.out k) (Nat.le_trans M2.out.size))
  clear hc3 m3 o3 HC2
  go_wp2_with fail
  refine (H4.out _ _ _ HC3.out).mono ?_
  rintro e w4 ⟨rfl, v4, hc4, m4, o4⟩
  have HC4 := hid hc4
  have M4 := hid (Below.trans M3.out (m4.below M3.out.size (Nat.le_refl _) O3.out))
  have O4 := hid (show ∀ k, v4.ownBlock = some k → w.heap.size ≤ k from fun k hk => (o4 k hk).elim (O3.out k) (Nat.le_trans M3.out.size))
  clear hc4 m4 o4 HC3
  go_wp2_with fail
  refine (H5.out _ _ _ HC4.out).mono ?_
  rintro e w5 ⟨rfl, v5, hc5, m5, o5⟩
  have HC5 := hid hc5
  have M5 := hid (Below.trans M4.out (m5.below M4.out.size (Nat.le_refl _) O4.out))
  have O5 := hid (show ∀ k, v5.ownBlock = some k → w.heap.size ≤ k from fun k hk => (o5 k hk).elim (O4.out k) (Nat.le_trans M4.out.size))
  clear hc5 m5 o5 HC4
  go_wp2_with fail
  refine (H6.out _ _ _ HC5.out).mono ?_
  rintro e w6 ⟨rfl, v6, hc6, m6, o6⟩
  have HC6 := hid hc6
  have M6 := hid (Below.trans M5.out (m6.below M5.out.size (Nat.le_refl _) O5.out))
  have O6 := hid (show ∀ k, v6.ownBlock = some k → w.heap.size ≤ k from fun k hk => (o6 k hk).elim (O5.out k) (Nat.le_trans M5.out.size))
  clear hc6 m6 o6 HC5
  go_wp2_with fail
  refine (H7.out _ _ _ HC6.out).mono ?_
  rintro e w7 ⟨rfl, v7, hc7, m7, o7⟩
  have M7 := hid (Below.trans M6.out (m7.below M6.out.size (Nat.le_refl _) O6.out))
  clear hc7 m7 o7 HC6
  go_wp2_with fail
  go_ret
  exact ⟨rfl, M7.out⟩
end Go.Proofs.Ytjccfodadiaokaa
