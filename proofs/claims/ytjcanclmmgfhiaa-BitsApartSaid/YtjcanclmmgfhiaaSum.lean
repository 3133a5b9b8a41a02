/- What bits.Sum and the reference's Sum compute. -/
import Derived.Test.YtjcanclmmgfhiaaRows
import Derived.Test.YtjcanclmmgfhiaaBitsPlain
namespace Go.Proofs.Ytjcanclmmgfhiaa
open Go.RowKit
set_option linter.unusedVariables false
/-- The two sums behind a text's bytes. -/
def sumStep (p : Nat × Nat) (b : UInt8) : Nat × Nat := ((p.1 + b.toNat) % 65521, (p.2 + (p.1 + b.toNat) % 65521) % 65521)
def sumP (l : List UInt8) : Nat × Nat := l.foldl sumStep (1, 0)
def sumV (l : List UInt8) : Int := (sumP l).2 * 65536 + (sumP l).1
theorem sumP_snoc (l : List UInt8) (b : UInt8) : sumP (l ++ [b]) = sumStep (sumP l) b := by simp [sumP]
theorem sumP_lt (l : List UInt8) : (sumP l).1 < 65521 ∧ (sumP l).2 < 65521 := by
  unfold sumP
  suffices h : ∀ p : Nat × Nat, p.1 < 65521 ∧ p.2 < 65521 → (l.foldl sumStep p).1 < 65521 ∧ (l.foldl sumStep p).2 < 65521 from h (1, 0) (by decide)
  induction l with
  | nil => intro p h; exact h
  | cons b l ih => intro p h; exact ih _ ⟨Nat.mod_lt _ (by decide), Nat.mod_lt _ (by decide)⟩
theorem sumV_bd (l : List UInt8) : 0 ≤ sumV l ∧ sumV l < 4294967296 := by
  have := sumP_lt l
  unfold sumV
  omega
theorem sumP_fst (l : List UInt8) : (sumP l).1 = (1 + (l.map UInt8.toNat).sum) % 65521 := by
  unfold sumP
  suffices h : ∀ p : Nat × Nat, p.1 < 65521 → (l.foldl sumStep p).1 = (p.1 + (l.map UInt8.toNat).sum) % 65521 from h (1, 0) (by decide)
  induction l with
  | nil => intro p h; simp; omega
  | cons b l ih =>
    intro p h
    rw [List.foldl_cons, ih _ (Nat.mod_lt _ (by decide))]
    simp only [sumStep, List.map_cons, List.sum_cons]
    omega
/-- A text with one byte otherwise has another sum. -/
theorem sumV_apart (x y : List UInt8) (b c : UInt8) (h : sumV (x ++ b :: y) = sumV (x ++ c :: y)) : b = c := by
  have h1 := sumP_lt (x ++ b :: y)
  have h2 := sumP_lt (x ++ c :: y)
  have e1 := sumP_fst (x ++ b :: y)
  have e2 := sumP_fst (x ++ c :: y)
  simp only [List.map_append, List.map_cons, List.sum_append, List.sum_cons] at e1 e2
  have hb := b.toNat_lt
  have hc := c.toNat_lt
  unfold sumV at h
  apply UInt8.toNat_inj.1
  omega
theorem sum_step (s : ByteArray) (k A B : Nat) (h : k < s.size) (hA : A = (sumP (s.data.toList.take k)).1) (hB : B = (sumP (s.data.toList.take k)).2) :
    (sumP (s.data.toList.take (k + 1))).1 = (A + s[k].toNat) % 65521 ∧ (sumP (s.data.toList.take (k + 1))).2 = (B + (A + s[k].toNat) % 65521) % 65521 := by
  have hl : k < s.data.toList.length := by simpa using h
  rw [take_snoc _ k hl, sumP_snoc, sumStep, ← hA, ← hB]
  exact ⟨rfl, rfl⟩
theorem sum_or (A B : Nat) (hA : A < 65521) (hB : B < 65521) : bits .or .u32 ((B : Int) * 65536) (A : Int) = (B : Int) * 65536 + A := by
  have h := u32_or_nat (B * 65536) A (by omega) (by omega)
  rw [show ((B * 65536 : Nat) : Int) = (B : Int) * 65536 by omega] at h
  rw [h, nat_join 16 (B * 65536) A (by omega) (by omega)]
  omega
set_option maxHeartbeats 400000 in
theorem Sum_c (s : ByteArray) (w : World) (hs : s.size ≤ maxLen) : Calls Try.prog 13 #[.string s] w fun e w' => e = .returned (.int .u32 (sumV s.data.toList)) ∧ w = w' := by
  unfold maxLen at hs
  go_enter Try.func13, Try.ntmps13
  go_wp2_with fail
  go_loop [3, 4, 8] (fun a b i => ∃ (k A B : Nat), k ≤ s.size ∧ i = .int .i64 k ∧ a = .int .u32 A ∧ b = .int .u32 B ∧ A < 65521 ∧ B < 65521 ∧ Hid (A = (sumP (s.data.toList.take k)).1) ∧ Hid (B = (sumP (s.data.toList.take k)).2)) (fun _ _ i => s.size - (intOf i).toNat)
  case atStart => exact ⟨0, 1, 0, Nat.zero_le _, rfl, rfl, rfl, by omega, by omega, hid (by simp [sumP]), hid (by simp [sumP])⟩
  case round =>
    obtain ⟨k, A, B, hk, rfl, rfl, rfl, hA, hB, HA, HB⟩ := hrel
    by_cases hlt : k < s.size
    · have hb8 := (s[k]).toNat_lt
      have st := hid (sum_step s k A B hlt HA.out HB.out)
      go_wp2_with fail
      go_round
      case rel => exact ⟨k + 1, (A + s[k].toNat) % 65521, (B + (A + s[k].toNat) % 65521) % 65521, by omega, by go_num, by congr 1, by congr 1, Nat.mod_lt _ (by decide), Nat.mod_lt _ (by decide), hid st.out.1.symm, hid st.out.2.symm⟩
      case measure => simp [intOf]; omega
    · obtain rfl : k = s.size := by omega
      have HS := hid (sum_or A B hA hB)
      go_wp2_with fail
      go_ret
      have ht : s.data.toList.take s.size = s.data.toList := List.take_of_length_le (by simp)
      exact ⟨by rw [show sumV s.data.toList = (B : Int) * 65536 + A by unfold sumV; rw [← ht, ← HA.out, ← HB.out], ← HS.out]; rfl, rfl⟩
set_option maxHeartbeats 400000 in
theorem RSum_c (s : ByteArray) (w : World) (hs : s.size ≤ maxLen) : Calls Try.prog 22 #[.string s] w fun e w' => e = .returned (.int .u32 (sumV s.data.toList)) ∧ w = w' := by
  unfold maxLen at hs
  go_enter Try.func22, Try.ntmps22
  go_wp2_with fail
  go_loop [3, 4, 5] (fun a b i => ∃ (k A B : Nat), k ≤ s.size ∧ i = .int .i64 k ∧ a = .int .u64 A ∧ b = .int .u64 B ∧ A < 65521 ∧ B < 65521 ∧ Hid (A = (sumP (s.data.toList.take k)).1) ∧ Hid (B = (sumP (s.data.toList.take k)).2)) (fun _ _ i => s.size - (intOf i).toNat)
  case atStart => exact ⟨0, 1, 0, Nat.zero_le _, rfl, rfl, rfl, by omega, by omega, hid (by simp [sumP]), hid (by simp [sumP])⟩
  case round =>
    obtain ⟨k, A, B, hk, rfl, rfl, rfl, hA, hB, HA, HB⟩ := hrel
    by_cases hlt : k < s.size
    · have hb8 := (s[k]).toNat_lt
      have st := hid (sum_step s k A B hlt HA.out HB.out)
      go_wp2_with fail
      go_round
      case rel => exact ⟨k + 1, (A + s[k].toNat) % 65521, (B + (A + s[k].toNat) % 65521) % 65521, by omega, by go_num, by congr 1, by congr 1, Nat.mod_lt _ (by decide), Nat.mod_lt _ (by decide), hid st.out.1.symm, hid st.out.2.symm⟩
      case measure => simp [intOf]; omega
    · obtain rfl : k = s.size := by omega
      go_wp2_with fail
      go_ret
      have ht : s.data.toList.take s.size = s.data.toList := List.take_of_length_le (by simp)
      exact ⟨by rw [show sumV s.data.toList = 65536 * (B : Int) + A by unfold sumV; rw [← ht, ← HA.out, ← HB.out]; omega]; rfl, rfl⟩
end Go.Proofs.Ytjcanclmmgfhiaa
