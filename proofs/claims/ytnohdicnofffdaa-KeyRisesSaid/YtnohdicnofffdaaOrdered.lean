/- What bits.Ordered, bits.Unordered and the reference's compute. -/
import Derived.Test.YtnohdicnofffdaaRows
import Derived.Test.YtnohdicnofffdaaBitsPlain
namespace Go.Proofs.Ytnohdicnofffdaa
open Go.RowKit
set_option linter.unusedVariables false
/-- Ordered's row behind j rounds. -/
def OrdRow (U j : Nat) (C : Array Value) : Prop := C.size = 8 ∧ ∀ i, i < j → i < 8 → C[i]? = some (.int .u8 ((U : Int) / 2 ^ (56 - 8 * i) % 256))
theorem OrdRow.step {U j : Nat} {C : Array Value} (h : OrdRow U j C) (hj : j < 8) : OrdRow U (j + 1) (C.setIfInBounds j (.int .u8 ((U : Int) / 2 ^ (56 - 8 * j) % 256))) := by
  refine ⟨by simpa using h.1, fun i hi h8 => ?_⟩
  rw [Array.getElem?_setIfInBounds]
  by_cases e : j = i
  · subst e
    rw [if_pos rfl, if_pos (by rw [h.1]; exact hj)]
  · rw [if_neg e]
    exact h.2 i (by omega) h8
set_option maxHeartbeats 400000 in
theorem Ordered_c (n : Int) (w : World) (h1 : -9223372036854775808 ≤ n) (h2 : n ≤ 9223372036854775807) : Calls Try.prog 18 #[.int .i64 n] w fun e w' => e = .returned (.string ⟨(ordL n).toArray⟩) ∧ Below w.heap.size w w' := by
  have HU := hid (ord_bits n h1 h2)
  unfold ordL
  generalize hU : ordU n = U at HU
  clear hU
  go_enter Try.func18, Try.ntmps18
  go_wp2_with fail
  rw [HU.out]
  go_loopw [9] (fun i wr => ∃ (j : Nat) (C : Array Value), j ≤ 8 ∧ i = .int .i64 j ∧ wr.heap[w.heap.size]? = some (.cells C 46 (0, 0)) ∧ Hid (OrdRow U j C) ∧ Below w.heap.size w wr) (fun i _ => 8 - (intOf i).toNat)
  case atStart => exact ⟨0, _, by omega, rfl, heap_new w _, hid ⟨rfl, fun i h => by omega⟩, (Below.refl _ _).alloc (Nat.le_refl _) _⟩
  case round =>
    obtain ⟨j, C, hj, rfl, hh, HC, hb⟩ := hrel
    have hsz := hb.size
    by_cases hlt : j < 8
    · have hc : wr.cell? ⟨w.heap.size, j, none⟩ = some (C[j]'(by rw [HC.out.1]; exact hlt)) := by
        rw [heap_cell hh]; exact Array.getElem?_eq_getElem _
      have hf : wr.frozen? ⟨w.heap.size, j, none⟩ = false := heap_frozen hh j (by omega)
      go_wp2_with fail
      go_roundw
      case rel => exact ⟨j + 1, _, by omega, by go_num, heap_set hh _ _, hid (HC.out.step hlt), hb.setCell (Nat.le_refl _) _⟩
      case measure => simp [intOf]; omega
    · obtain rfl : j = 8 := by omega
      have hc := conv_bytes (P := Try.prog) (w := wr) Try.underlying40 Try.underlying5 Try.underlying9 w.heap.size 0 8 (beB U) 8 (beB_length U) (fun i hi => by
        rw [beB_length] at hi
        rw [Nat.zero_add, heap_cell hh, HC.out.2 i hi hi, beB_get]
        congr 2
        have e : (UInt8.ofNat (U / 2 ^ (56 - 8 * i) % 256)).toNat = U / 2 ^ (56 - 8 * i) % 256 := by simp
        rw [e]
        simp)
      clear hh HC
      go_wp2_with fail
      go_ret
      exact ⟨rfl, hb⟩
theorem be_join (j n m : Nat) (hm : m = n / 2 ^ (8 * j)) : (ByteArray.mk #[UInt8.ofNat (m % 256)] ++ ByteArray.mk (leB j n).reverse.toArray) = ByteArray.mk (leB (j + 1) n).reverse.toArray := by
  rw [show #[UInt8.ofNat (m % 256)] = [UInt8.ofNat (m % 256)].toArray from rfl, ByteArray.mk_append_mk, leB_snoc, ← hm]
  simp
set_option maxHeartbeats 400000 in
theorem ROrdered_c (n : Int) (w : World) (h1 : -9223372036854775808 ≤ n) (h2 : n ≤ 9223372036854775807) : Calls Try.prog 19 #[.int .i64 n] w fun e w' => e = .returned (.string ⟨(ordL n).toArray⟩) ∧ Below w.heap.size w w' := by
  have hc1 := conv_one (P := Try.prog) Try.underlying40 Try.underlying5 Try.underlying9
  have HU := hid (ord_add n h1 h2)
  have hUl := ordU_lt n h1 h2
  unfold ordL beB
  generalize hU : ordU n = U at HU hUl
  clear hU
  go_enter Try.func19, Try.ntmps19
  go_wp2_with fail
  rw [HU.out]
  go_loopw [3, 4, 5] (fun m v i wr => ∃ (j M : Nat), j ≤ 8 ∧ i = .int .i64 j ∧ m = .int .u64 (M : Int) ∧ v = .string ⟨(leB j U).reverse.toArray⟩ ∧ Below w.heap.size w wr ∧ Hid (M = U / 2 ^ (8 * j)) ∧ M < 18446744073709551616) (fun _ _ i _ => 8 - (intOf i).toNat)
  case atStart => exact ⟨0, U, by omega, rfl, rfl, rfl, Below.refl _ _, hid (by simp), hUl⟩
  case round =>
    obtain ⟨j, M, hj, rfl, rfl, rfl, hb1, HM, hM⟩ := hrel
    have hsz := hb1.size
    by_cases hlt : j < 8
    · have hlen : (leB j U).reverse.length ≤ 8 := by rw [List.length_reverse, leB_length]; omega
      generalize hl : (leB j U).reverse = l at hlen
      have Hl := hid hl
      clear hl
      go_wp2_with fail
      go_roundw
      case rel => exact ⟨j + 1, M / 256, by omega, by go_num, by go_num, by rw [← Hl.out, be_join j U M HM.out], hb1.alloc hsz _, hid (by rw [HM.out, leB_div]), by omega⟩
      case measure => simp [intOf]; omega
    · obtain rfl : j = 8 := by omega
      go_wp2_with fail
      go_ret
      exact ⟨by first | rfl | simp, hb1⟩
theorem bev_or (s : ByteArray) (j U : Nat) (h : j < s.size) (h8 : j < 8) (hU : U = beV (s.data.toList.take j)) :
    bits .or .u64 (IntKind.u64.wrap ((U : Int) * 256)) (IntKind.u64.wrap (s[j].toNat : Int)) = ((beV (s.data.toList.take (j + 1)) : Nat) : Int) :=
  beV_or s.data.toList j U (by simpa using h) h8 hU
theorem Unordered_no (s : ByteArray) (w : World) (hs : s.size ≤ maxLen) (h8 : s.size ≠ 8) : Calls Try.prog 20 #[.string s] w fun e w' => e = .returned (.tuple #[.int .i64 0, .int .i64 14]) ∧ w = w' := by
  unfold maxLen at hs
  have hb1 : ((s.size : Int) != 8) = true := by rw [bne_iff_ne]; omega
  clear h8
  go_enter Try.func20, Try.ntmps20
  go_wp2_with fail
  go_ret2
  exact ⟨rfl, rfl⟩
set_option maxHeartbeats 400000 in
theorem Unordered_c (s : ByteArray) (w : World) (h8 : s.size = 8) : Calls Try.prog 20 #[.string s] w fun e w' => e = .returned (.tuple #[.int .i64 (unordV s.data.toList), .int .i64 0]) ∧ w = w' := by
  have H8 := hid h8
  have hb1 : ((s.size : Int) != 8) = false := by rw [h8]; rfl
  have hl1 : 8 ≤ s.size := by omega
  have hl2 : s.size ≤ 8 := by omega
  clear h8
  go_enter Try.func20, Try.ntmps20
  go_wp2_with fail
  go_loop [4, 11] (fun u i => ∃ (k U : Nat), k ≤ s.size ∧ i = .int .i64 k ∧ u = .int .u64 U ∧ Hid (U = beV (s.data.toList.take k))) (fun _ i => 8 - (intOf i).toNat)
  case atStart => exact ⟨0, 0, Nat.zero_le _, rfl, rfl, hid (by simp [beV, leV])⟩
  case round =>
    obtain ⟨k, U, hk, rfl, rfl, HU⟩ := hrel
    by_cases hlt : k < s.size
    · go_wp2_with fail
      go_round
      case rel => exact ⟨k + 1, _, by omega, by go_num, by rw [bev_or s k U hlt (by omega) HU.out], hid rfl⟩
      case measure => simp [intOf]; omega
    · obtain rfl : k = s.size := by omega
      have ht : s.data.toList.take s.size = s.data.toList := List.take_of_length_le (by simp)
      have hUl : U < 18446744073709551616 := by
        have h := beV_lt s.data.toList
        have hL := HU.out
        rw [ht] at hL
        rw [← hL] at h
        have e : s.data.toList.length = 8 := by have := H8.out; simpa using this
        rw [e] at h
        exact h
      have HW := hid (unord_bits U hUl)
      go_wp2_with fail
      go_ret2
      exact ⟨by rw [show unordV s.data.toList = (U : Int) - 9223372036854775808 by unfold unordV; rw [HU.out, ht], ← HW.out]; rfl, rfl⟩
theorem bev_add (s : ByteArray) (j U : Nat) (h : j < s.size) (h8 : j < 8) (hU : U = beV (s.data.toList.take j)) :
    IntKind.u64.wrap (IntKind.u64.wrap ((U : Int) * 256) + IntKind.u64.wrap (s[j].toNat : Int)) = ((beV (s.data.toList.take (j + 1)) : Nat) : Int) :=
  beV_add s.data.toList j U (by simpa using h) h8 hU
theorem RUnordered_no (s : ByteArray) (w : World) (hs : s.size ≤ maxLen) (h8 : s.size ≠ 8) : Calls Try.prog 21 #[.string s] w fun e w' => e = .returned (.tuple #[.int .i64 0, .int .i64 14]) ∧ w = w' := by
  unfold maxLen at hs
  have hb1 : ((s.size : Int) != 8) = true := by rw [bne_iff_ne]; omega
  clear h8
  go_enter Try.func21, Try.ntmps21
  go_wp2_with fail
  go_ret2
  exact ⟨rfl, rfl⟩
set_option maxHeartbeats 400000 in
theorem RUnordered_c (s : ByteArray) (w : World) (h8 : s.size = 8) : Calls Try.prog 21 #[.string s] w fun e w' => e = .returned (.tuple #[.int .i64 (unordV s.data.toList), .int .i64 0]) ∧ w = w' := by
  have H8 := hid h8
  have hb1 : ((s.size : Int) != 8) = false := by rw [h8]; rfl
  have hl1 : 8 ≤ s.size := by omega
  have hl2 : s.size ≤ 8 := by omega
  clear h8
  go_enter Try.func21, Try.ntmps21
  go_wp2_with fail
  go_loop [4, 5] (fun u i => ∃ (k U : Nat), k ≤ 8 ∧ i = .int .i64 k ∧ u = .int .u64 U ∧ Hid (U = beV (s.data.toList.take k))) (fun _ i => 8 - (intOf i).toNat)
  case atStart => exact ⟨0, 0, Nat.zero_le _, rfl, rfl, hid (by simp [beV, leV])⟩
  case round =>
    obtain ⟨k, U, hk, rfl, rfl, HU⟩ := hrel
    by_cases hlt : k < 8
    · have hlt2 : k < s.size := by omega
      go_wp2_with fail
      go_round
      case rel => exact ⟨k + 1, _, by omega, by go_num, by rw [bev_add s k U hlt2 (by omega) HU.out], hid rfl⟩
      case measure => simp [intOf]; omega
    · obtain rfl : k = 8 := by omega
      have e : s.data.toList.length = 8 := by have := H8.out; simpa using this
      have ht : s.data.toList.take 8 = s.data.toList := List.take_of_length_le (by omega)
      have hUl : U < 18446744073709551616 := by
        have h := beV_lt s.data.toList
        have hL := HU.out
        rw [ht] at hL
        rw [← hL, e] at h
        exact h
      have HE := hid e
      have HT := hid ht
      clear e ht
      have HW := hid (unord_sub U hUl)
      go_wp2_with fail
      go_ret2
      refine ⟨?_, rfl⟩
      rw [HW.out, show unordV s.data.toList = (U : Int) - 9223372036854775808 by unfold unordV; rw [HU.out, HT.out]]
      rfl
end Go.Proofs.Ytnohdicnofffdaa
