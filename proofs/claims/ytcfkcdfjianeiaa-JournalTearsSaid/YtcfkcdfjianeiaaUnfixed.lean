/- What bits.Unfixed and the reference's Unfixed compute. -/
import Derived.Test.YtcfkcdfjianeiaaRows
import Derived.Test.YtcfkcdfjianeiaaBitsPlain
namespace Go.Proofs.Ytcfkcdfjianeiaa
open Go.RowKit
set_option linter.unusedVariables false
attribute [local go_sem ↓ high] run_imin run_imax
theorem sz_toList (s : ByteArray) : s.data.toList.length = s.size := by rw [Array.length_toList]; rfl
theorem at_toList (s : ByteArray) (j : Nat) (h : j < s.size) : s.data.toList[j]'(by rw [sz_toList]; exact h) = s[j] := rfl
theorem unf_or (s : ByteArray) (j V : Nat) (h : j < s.size) (h8 : j < 8) (hV : V = leV (s.data.toList.take j)) :
    bits .or .u64 (V : Int) (IntKind.u64.wrap (IntKind.u64.wrap (s[j].toNat : Int) * 2 ^ (8 * j))) = ((leV (s.data.toList.take (j + 1)) : Nat) : Int) :=
  leV_or s.data.toList j V (by rw [sz_toList]; exact h) h8 hV
set_option maxHeartbeats 400000 in
theorem Unfixed_c (s : ByteArray) (w : World) (hs : s.size ≤ maxLen) : Calls Try.prog 27 #[.string s] w fun e w' => e = .returned (.int .u64 (leV (s.data.toList.take 8))) ∧ w = w' := by
  unfold maxLen at hs
  obtain ⟨K, hK, hK8⟩ : ∃ K : Nat, imin (s.size : Int) 8 = (K : Int) ∧ K ≤ 8 ∧ K ≤ s.size := ⟨(imin (s.size : Int) 8).toNat, by unfold imin; split <;> omega, by unfold imin; split <;> omega⟩
  have hKK : K = 8 ∨ K = s.size := by unfold imin at hK; split at hK <;> omega
  have hT : leV (s.data.toList.take 8) = leV (s.data.toList.take K) := by
    rcases hKK with h | h
    · rw [h]
    · rw [List.take_of_length_le (by rw [sz_toList]; omega), List.take_of_length_le (by rw [sz_toList]; omega)]
  have hlt8 : leV (s.data.toList.take 8) < 18446744073709551616 := by have := leV_take_lt s.data.toList 8; omega
  rw [hT]
  clear hKK hT hlt8
  have HK := hid hK
  clear hK
  go_enter Try.func27, Try.ntmps27
  go_wp2_with fail
  rw [HK.out]
  go_loop [3, 8] (fun n i => ∃ (j V : Nat), j ≤ K ∧ i = .int .i64 j ∧ n = .int .u64 (V : Int) ∧ Hid (V = leV (s.data.toList.take j))) (fun _ i => 8 - (intOf i).toNat)
  case atStart => exact ⟨0, 0, by omega, rfl, rfl, hid (by simp [leV])⟩
  case round =>
    obtain ⟨j, V, hj, rfl, rfl, HV⟩ := hrel
    by_cases hlt : j < K
    · go_wp2_with fail
      go_round
      case rel => exact ⟨j + 1, _, by omega, by go_num, by rw [unf_or s j V (by omega) (by omega) HV.out], hid rfl⟩
      case measure => simp [intOf]; omega
    · obtain rfl : j = K := by omega
      go_wp2_with fail
      go_ret
      exact ⟨by rw [← HV.out]; rfl, rfl⟩
theorem unf_add (s : ByteArray) (j V U : Nat) (h : j < s.size) (h8 : j < 8) (hV : V = leV (s.data.toList.take j)) (hU : U = 256 ^ j % 18446744073709551616) :
    IntKind.u64.wrap ((V : Int) + IntKind.u64.wrap (IntKind.u64.wrap (s[j].toNat : Int) * (U : Int))) = ((leV (s.data.toList.take (j + 1)) : Nat) : Int) :=
  leV_add s.data.toList j V U (by rw [sz_toList]; exact h) h8 hV hU
set_option maxHeartbeats 400000 in
theorem RUnfixed_c (s : ByteArray) (w : World) (hs : s.size ≤ maxLen) : Calls Try.prog 28 #[.string s] w fun e w' => e = .returned (.int .u64 (leV (s.data.toList.take 8))) ∧ w = w' := by
  unfold maxLen at hs
  obtain ⟨K, hK, hK8⟩ : ∃ K : Nat, min s.size 8 = K ∧ K ≤ 8 ∧ K ≤ s.size := ⟨min s.size 8, rfl, by omega, by omega⟩
  have hT : leV (s.data.toList.take 8) = leV (s.data.toList.take K) := by
    rcases (show K = 8 ∨ K = s.size by omega) with h | h
    · rw [h]
    · rw [List.take_of_length_le (by rw [sz_toList]; omega), List.take_of_length_le (by rw [sz_toList]; omega)]
  rw [hT]
  clear hT
  have HK := hid hK
  clear hK
  go_enter Try.func28, Try.ntmps28
  go_wp2_with fail
  go_loop [3, 4, 5] (fun n u i => ∃ (j V U : Nat), j ≤ K ∧ i = .int .i64 j ∧ n = .int .u64 (V : Int) ∧ u = .int .u64 U ∧ Hid (U = 256 ^ j % 18446744073709551616) ∧ Hid (V = leV (s.data.toList.take j))) (fun _ _ i => 8 - (intOf i).toNat)
  case atStart => exact ⟨0, 0, 1, by omega, rfl, rfl, rfl, hid (by decide), hid (by simp [leV])⟩
  case round =>
    obtain ⟨j, V, U, hj, rfl, rfl, rfl, HU, HV⟩ := hrel
    by_cases hlt : j < K
    · have c1 : j < s.size := by omega
      have c2 : (j : Int) < 8 := by omega
      go_wp2_with fail
      go_round
      case rel => exact ⟨j + 1, _, _, by omega, by go_num, by rw [unf_add s j V U (by omega) (by omega) HV.out HU.out], by rw [unit_step j U HU.out], hid rfl, hid rfl⟩
      case measure => simp [intOf]; omega
    · obtain rfl : j = K := by omega
      by_cases c1 : j < s.size
      · have c2 : ¬ (j : Int) < 8 := by have := HK.out; omega
        go_wp2_with fail
        go_ret
        exact ⟨by rw [← HV.out]; rfl, rfl⟩
      · go_wp2_with fail
        go_ret
        exact ⟨by rw [← HV.out]; rfl, rfl⟩
end Go.Proofs.Ytcfkcdfjianeiaa
