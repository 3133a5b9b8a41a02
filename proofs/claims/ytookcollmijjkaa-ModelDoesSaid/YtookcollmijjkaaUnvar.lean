/- What bits.Unvar computes. -/
import Derived.Test.YtookcollmijjkaaRows
import Derived.Test.YtookcollmijjkaaBitsPlain
namespace Go.Proofs.Ytookcollmijjkaa
open Go.RowKit
set_option linter.unusedVariables false
attribute [local go_sem ↓ high] run_imin run_imax
theorem getD_byte (s : ByteArray) (j : Nat) (h : j < s.size) : s.data.toList.getD j 0 = s[j] := by
  have hl : j < s.data.toList.length := by simpa using h
  simp only [List.getD, List.getElem?_eq_getElem hl, Option.getD_some]
  rfl
theorem unv_or (s : ByteArray) (j V : Nat) (h : j < s.size) (h9 : j < 9 ∨ j = 9 ∧ (s[j]).toNat ≤ 1) (hV : V = valV (s.data.toList.take j)) :
    bits .or .u64 (V : Int) (IntKind.u64.wrap (IntKind.u64.wrap (bits .and .u8 (s[j].toNat : Int) 127) * 2 ^ (7 * j))) = ((valV (s.data.toList.take (j + 1)) : Nat) : Int) :=
  valV_or s.data.toList j V (by simpa using h) h9 hV
/-- The bytes before j are from 128 on. -/
def Conts (s : ByteArray) (j : Nat) : Prop := ∀ i, i < j → 128 ≤ (s.data.toList.getD i 0).toNat
theorem Conts.step {s : ByteArray} {j : Nat} (h : Conts s j) (hj : j < s.size) (h128 : ¬ (s[j]).toNat < 128) : Conts s (j + 1) := by
  intro i hi
  by_cases e : i = j
  · subst e
    rw [getD_byte s i hj]
    omega
  · exact h i (by omega)
theorem unv_end {s : ByteArray} {j : Nat} (hc : Conts s j) (hj : j < s.size) (h9 : j ≤ 9) (h : (s[j]).toNat < 128) :
    unvarP s.data.toList = if okLast j s[j] then (valV (s.data.toList.take (j + 1)), j + 1) else (0, 0) := by
  rw [unvarP_at _ j (by simpa using hj) h9 hc (by rw [getD_byte s j hj]; exact h), getD_byte s j hj]
theorem unv_none {s : ByteArray} {j : Nat} (hc : Conts s j) (hj : j = 10 ∨ j = s.size) : unvarP s.data.toList = (0, 0) :=
  unvarP_none _ fun i h1 h2 => hc i (by have h3 : i < s.size := (by simpa using h2); omega)
set_option maxRecDepth 100000 in
set_option maxHeartbeats 1000000 in
theorem Unvar_c (s : ByteArray) (w : World) (hs : s.size ≤ maxLen) : Calls Try.prog 31 #[.string s] w fun e w' => e = .returned (.tuple #[.int .u64 ((unvarP s.data.toList).1 : Nat), .int .i64 ((unvarP s.data.toList).2 : Nat)]) ∧ w = w' := by
  unfold maxLen at hs
  obtain ⟨K, hK, hK8⟩ : ∃ K : Nat, imin (s.size : Int) 10 = (K : Int) ∧ K ≤ 10 ∧ K ≤ s.size := ⟨(imin (s.size : Int) 10).toNat, by unfold imin; split <;> omega, by unfold imin; split <;> omega⟩
  have hKK := hid (show K = 10 ∨ K = s.size by unfold imin at hK; split at hK <;> omega)
  have HK := hid hK
  clear hK
  generalize hP : unvarP s.data.toList = p
  have HP := hid hP
  clear hP
  go_enter Try.func31, Try.ntmps31
  go_wp2_with fail
  rw [HK.out]
  go_loop [4, 10] (fun n i => ∃ (j V : Nat), j ≤ K ∧ i = .int .i64 j ∧ n = .int .u64 (V : Int) ∧ Hid (V = valV (s.data.toList.take j)) ∧ Hid (Conts s j)) (fun _ i => 10 - (intOf i).toNat)
  case atStart => exact ⟨0, 0, by omega, rfl, rfl, hid (by simp [valV]), hid (fun i h => by omega)⟩
  case round =>
    obtain ⟨j, V, hj, rfl, rfl, HV, HC⟩ := hrel
    by_cases hlt : j < K
    · have hb := (s[j]).toNat_lt
      have hjs : j < s.size := by omega
      by_cases h9 : j = 9 ∧ 1 < (s[j]).toNat
      · obtain ⟨h9, h1⟩ := h9
        have b9 : ((j : Int) == 9) = true := by rw [h9]; rfl
        have e : p = (0, 0) := by
          rw [← HP.out]
          by_cases h128 : (s[j]).toNat < 128
          · rw [unv_end HC.out hjs (by omega) h128, if_neg]
            simp [okLast, h9]
            subst h9
            omega
          · exact unv_none (HC.out.step hjs h128) (by omega)
        subst e
        clear h9
        go_wp2_with fail
        go_ret2
        exact ⟨rfl, rfl⟩
      · have h9' : j < 9 ∨ j = 9 ∧ (s[j]).toNat ≤ 1 := by omega
        have HS := hid (unv_or s j V hjs h9' HV.out)
        by_cases h128 : (s[j]).toNat < 128
        · have he := unv_end HC.out hjs (by omega) h128
          rw [HP.out] at he
          by_cases h0 : (s[j]).toNat = 0 ∧ 0 < j
          · obtain ⟨h0, hjp⟩ := h0
            have e : p = (0, 0) := by
              rw [he, if_neg]
              simp [okLast, h0]
              omega
            subst e
            have b0 : ((s[j].toNat : Int) == 0) = true := by rw [h0]; rfl
            clear he h0
            by_cases hj9 : j = 9
            · have b9 : ((j : Int) == 9) = true := by rw [hj9]; rfl
              have h1 : (s[j]).toNat ≤ 1 := by omega
              clear hj9 h9 h9'
              go_wp2_with fail
              go_ret2
              exact ⟨rfl, rfl⟩
            · have b9 : ((j : Int) == 9) = false := by simp; omega
              clear hj9 h9 h9'
              go_wp2_with fail
              go_ret2
              exact ⟨rfl, rfl⟩
          · have e : p = (valV (s.data.toList.take (j + 1)), j + 1) := by
              rw [he, if_pos]
              simp [okLast]
              omega
            subst e
            clear he
            have hd0 : ((s[j].toNat : Int) == 0) = false ∨ (((s[j].toNat : Int) == 0) = true ∧ j = 0) := by
              by_cases hz : (s[j]).toNat = 0
              · exact Or.inr ⟨by rw [hz]; rfl, by omega⟩
              · exact Or.inl (by simp; omega)
            have hd9 : ((j : Int) == 9) = false ∨ (((j : Int) == 9) = true ∧ (s[j]).toNat ≤ 1 ∧ 0 < j) := by
              by_cases hz : j = 9
              · exact Or.inr ⟨by rw [hz]; rfl, by omega, by omega⟩
              · exact Or.inl (by simp; omega)
            clear h0 h9 h9'
            rcases hd0 with hd0 | ⟨hd0, hd0'⟩
            · rcases hd9 with hd9 | ⟨hd9, hd9', hd9''⟩
              · go_wp2_with fail
                go_ret2
                refine ⟨?_, rfl⟩
                rw [HS.out]
                rfl
              · go_wp2_with fail
                go_ret2
                refine ⟨?_, rfl⟩
                rw [HS.out]
                rfl
            · have hd0'' : j ≤ 0 := by omega
              have hd9' : ((j : Int) == 9) = false := by simp; omega
              clear hd9 hd0'
              go_wp2_with fail
              go_ret2
              refine ⟨?_, rfl⟩
              rw [HS.out]
              rfl
        · have hge : 128 ≤ (s[j]).toNat := by omega
          have b9 : ((j : Int) == 9) = false := by simp; omega
          have HC2 := hid (HC.out.step hjs h128)
          clear h9 h9' h128
          go_wp2_with fail
          go_round
          case rel => exact ⟨j + 1, _, by omega, by go_num, by rw [HS.out], hid rfl, HC2⟩
          case measure => simp [intOf]; omega
    · obtain rfl : j = K := by omega
      have e : p = (0, 0) := by rw [← HP.out]; exact unv_none HC.out hKK.out
      subst e
      go_wp2_with fail
      go_ret2
      exact ⟨rfl, rfl⟩
end Go.Proofs.Ytookcollmijjkaa
