/- What bits.Not and the reference's Not compute. -/
import Derived.Test.YtcfkcdfjianeiaaRows
import Derived.Test.YtcfkcdfjianeiaaBitsPlain
namespace Go.Proofs.Ytcfkcdfjianeiaa
open Go.RowKit
set_option linter.unusedVariables false
/-- Not's row behind j rounds: the first j bytes turned, the others as they were. -/
def NotRow (s : ByteArray) (j : Nat) (C : Array Value) : Prop := ∀ i (h : i < s.size), C[i]? = some (.int .u8 ((if i < j then UInt8.ofNat (255 - s[i].toNat) else s[i]).toNat : Int))
theorem NotRow.start (s : ByteArray) (cap : Nat) : NotRow s 0 (bytesRow s cap) := by
  intro i h
  rw [bytesRow_at s cap i h]
  simp
  rfl
theorem NotRow.step {s : ByteArray} {j : Nat} {C : Array Value} (h : NotRow s j C) (hj : j < s.size) :
    NotRow s (j + 1) (C.setIfInBounds j (.int .u8 (bits .xor .u8 (s[j].toNat : Int) 255))) := by
  intro i hi
  have hC : j < C.size := by
    have := h j hj
    exact (Array.getElem?_eq_some_iff.1 this).1
  rw [Array.getElem?_setIfInBounds]
  by_cases e : j = i
  · subst e
    rw [if_pos rfl, if_pos hC, if_pos (by omega), xor_u8]
  · rw [if_neg e, h i hi]
    by_cases h2 : i < j
    · rw [if_pos h2, if_pos (by omega)]
    · rw [if_neg h2, if_neg (by omega)]
set_option maxHeartbeats 400000 in
theorem Not_c (s : ByteArray) (w : World) (hs : s.size ≤ maxLen) : Calls Try.prog 25 #[.string s] w fun e w' => e = .returned (.string ⟨(notL s.data.toList).toArray⟩) ∧ Below w.heap.size w w' := by
  unfold maxLen at hs
  have hcv := run_bytes_of_string (P := Try.prog) w 9 53 5 s Try.underlying9 Try.underlying53 Try.underlying5
  go_enter Try.func25, Try.ntmps25
  go_wp2_with fail
  clear hcv
  go_loopw [9] (fun i wr => ∃ (j : Nat) (C : Array Value) (n : Nat), j ≤ s.size ∧ i = .int .i64 j ∧ wr.heap[w.heap.size]? = some (.cells C 5 (n, n + 1)) ∧ s.size ≤ n ∧ Hid (NotRow s j C) ∧ Below w.heap.size w wr) (fun i _ => s.size - (intOf i).toNat)
  case atStart => exact ⟨0, _, _, by omega, rfl, heap_new w.drew _, by simp [bytesRow], hid (NotRow.start s _), (Below.refl _ _).drew.alloc (Nat.le_refl _) _⟩
  case round =>
    obtain ⟨j, C, n, hj, rfl, hh, hn, HC, hb⟩ := hrel
    have hsz := hb.size
    by_cases hlt : j < s.size
    · have hc : wr.cell? ⟨w.heap.size, j, none⟩ = some (.int .u8 (s[j].toNat : Int)) := by
        rw [heap_cell hh, HC.out j hlt, if_neg (by omega)]
      have hf : wr.frozen? ⟨w.heap.size, j, none⟩ = false := heap_frozen hh j (by omega)
      go_wp2_with fail
      go_roundw
      case rel => exact ⟨j + 1, _, n, by omega, by go_num, heap_set hh _ _, hn, hid (HC.out.step hlt), hb.setCell (Nat.le_refl _) _⟩
      case measure => simp [intOf]; omega
    · obtain rfl : j = s.size := by omega
      have hc := conv_bytes (P := Try.prog) (w := wr) Try.underlying53 Try.underlying5 Try.underlying9 w.heap.size 0 (grownCap w s.size 0 5) (notL s.data.toList) s.size (by simp [notL]) (fun i hi => by
        rw [Nat.zero_add, heap_cell hh, HC.out i (by simpa [notL] using hi), if_pos (by simpa [notL] using hi), notL_get]
        rfl)
      clear hh hn HC
      go_wp2_with fail
      go_ret
      exact ⟨rfl, hb⟩
/-- The reference's row behind j rounds. -/
def RNotRow (s : ByteArray) (j : Nat) (xs : List Value) : Prop := xs.length = s.size ∧ ∀ i (h : i < s.size), i < j → xs[i]? = some (.int .u8 ((UInt8.ofNat (255 - s[i].toNat)).toNat : Int))
theorem RNotRow.step {s : ByteArray} {j : Nat} {xs : List Value} (h : RNotRow s j xs) (hj : j < s.size) :
    RNotRow s (j + 1) (xs.set j (.int .u8 (255 - (s[j].toNat : Int)))) := by
  refine ⟨by simpa using h.1, fun i hi hlt => ?_⟩
  rw [List.getElem?_set]
  by_cases e : j = i
  · subst e
    rw [if_pos rfl, if_pos (by rw [h.1]; exact hj), sub_u8]
  · rw [if_neg e]
    exact h.2 i hi (by omega)
theorem RNotRow.done {s : ByteArray} {xs : List Value} (h : RNotRow s s.size xs) : xs = u8s (notL s.data.toList) := by
  apply List.ext_getElem?
  intro i
  by_cases hi : i < s.size
  · rw [h.2 i hi hi]
    rw [List.getElem?_eq_getElem (by simpa [u8s, notL] using hi)]
    simp only [u8s, List.getElem_map, notL]
    rfl
  · rw [List.getElem?_eq_none (by rw [h.1]; omega), List.getElem?_eq_none (by simp [u8s, notL] at hi ⊢; omega)]
set_option maxHeartbeats 400000 in
theorem RNot_c (s : ByteArray) (w : World) (hs : s.size ≤ 140737488351232) : Calls Try.prog 29 #[.string s] w fun e w' => e = .returned (.string ⟨(notL s.data.toList).toArray⟩) ∧ Below w.heap.size w w' := by
  obtain ⟨i0, hi, hz0, hz1, hz2⟩ := info_parts (show (Try.prog.info? 5).map (fun i => (i.zero, i.size, i.bytes)) = some (some (.int .u8 0), 1, 1) by kernel_rfl)
  go_enter Try.func29, Try.ntmps29
  go_wp2_with (at_make; refine wpList_make_full _ rfl _ _ 53 rfl w.heap.size 5 i0 (.int .u8 0) 1 Try.underlying53 hi hz0 hz1 _ _ _ _ s.size rfl rfl rfl rfl (by rw [hz2]; omega) (by unfold maxLen; omega) (Nat.le_refl _) ?_)
  intro w1 hown hgr
  have hb := (Below.refl w.heap.size w).grown hgr (Nat.le_refl _) (by simp)
  clear hgr
  go_wp2_with fail
  go_loopw [4] (fun i wr => ∃ (j : Nat) (xs : List Value), j ≤ s.size ∧ i = .int .i64 j ∧ wr.ownsRow w.heap.size 5 1 (.slice (some ⟨w.heap.size, 0, none⟩) s.size s.size) s.size xs ∧ Hid (RNotRow s j xs) ∧ Below w.heap.size w wr) (fun i _ => s.size - (intOf i).toNat)
  case atStart => exact ⟨0, _, by omega, rfl, hown, hid ⟨by rw [hown.1]; omega, fun i _ h => by omega⟩, hb⟩
  case round =>
    obtain ⟨j, xs, hj, rfl, hown1, HC, hb1⟩ := hrel
    clear hown hb
    have hsz := hb1.size
    by_cases hlt : j < s.size
    · have hxl : j < xs.length := by rw [HC.out.1]; exact hlt
      have hc : wr.cell? ⟨w.heap.size, j, none⟩ = some xs[j] := by
        rw [hown1.cellAt j (by omega)]
        exact List.getElem?_eq_getElem hxl
      have hf : wr.frozen? ⟨w.heap.size, j, none⟩ = false := hown1.frozenAt j
      have hb8 := (s[j]).toNat_lt
      go_wp2_with fail
      go_roundw
      case rel => exact ⟨j + 1, _, by omega, by go_num, (hown1.stored j _).1, hid (HC.out.step hlt), hb1.setCell (Nat.le_refl _) _⟩
      case measure => simp [intOf]; omega
    · obtain rfl : j = s.size := by omega
      rw [HC.out.done] at hown1
      have hc := own_string (P := Try.prog) Try.underlying53 Try.underlying5 hown1 9 Try.underlying9
      clear hown1
      go_wp2_with fail
      go_ret
      exact ⟨rfl, hb1⟩
end Go.Proofs.Ytcfkcdfjianeiaa
