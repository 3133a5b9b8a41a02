/- What key.Split and the reference's Split compute. -/
import Derived.Test.YtnohdicnofffdaaInts
import Derived.Test.YtnohdicnofffdaaOrdered
import Derived.Test.YtnohdicnofffdaaKeyPlain
namespace Go.Proofs.Ytnohdicnofffdaa
open Go.RowKit
set_option linter.unusedVariables false
set_option linter.unusedSimpArgs false
theorem Try.infoInt : Info Try.prog 3 (.int .i64 0) 1 8 := by unfold Info; kernel_rfl

/-- A key's numbers in new memory, and no error. -/
def SplitPost (xs : List Int) (w : World) (e : Ending) (w' : World) : Prop := ∃ v, e = .returned (.tuple #[v, .int .i64 0]) ∧ Ints w' v xs ∧ Grow w w'
theorem push_int (xs : List Int) (x : Int) : i64s xs ++ [.int .i64 x] = i64s (xs ++ [x]) := by simp [i64s]
theorem own_grow {w w' : World} {base : Nat} {e : TypeId} {size : Nat} {v : Value} {n : Nat} {xs : List Value} (h : w.ownsRow base e size v n xs) (hg : Grow w w') : w'.ownsRow base e size v n xs :=
  h.kept (row := none) ⟨hg.os, hg.tape, hg.output, hg.size, fun k hk _ => hg.block k hk⟩ (by cases v.ownBlock <;> simp)

theorem Split_no (s : ByteArray) (w : World) (hs : s.size ≤ 140737488351232) (h : ¬ (s.size % 8 = 0 ∧ s.size ≤ 32)) : Calls Try.prog 16 #[.string s] w fun e w' => e = .returned (.tuple #[.slice none 0 0, .int .i64 22]) ∧ w = w' := by
  by_cases h8 : s.size % 8 = 0
  · have h32 : 32 < s.size := by omega
    have hb : ((s.size : Int) % 8 != 0) = false := by simp; omega
    clear h h8
    go_enter Try.func16, Try.ntmps16
    go_wp2_with fail
    go_ret2
    exact ⟨rfl, rfl⟩
  · have hb : ((s.size : Int) % 8 != 0) = true := by rw [bne_iff_ne]; omega
    clear h h8
    go_enter Try.func16, Try.ntmps16
    go_wp2_with fail
    go_ret2
    exact ⟨rfl, rfl⟩
/-- What is left of a key behind j numbers. -/
def Rest (s t : ByteArray) (j : Nat) : Prop := t.data.toList = s.data.toList.drop (8 * j)
theorem Rest.size {s t : ByteArray} {j : Nat} (h : Rest s t j) : t.size = s.size - 8 * j := by
  have := congrArg List.length h
  rw [List.length_drop] at this
  simpa using this
theorem Rest.head {s t : ByteArray} {j : Nat} (h : Rest s t j) : (t.extract 0 8).data.toList = (s.data.toList.drop (8 * j)).take 8 := by
  rw [← h]
  simp [ByteArray.data_extract]
theorem Rest.step {s t : ByteArray} {j : Nat} (h : Rest s t j) : Rest s (t.extract 8 t.size) (j + 1) := by
  unfold Rest at *
  have hd : (t.data.toList.drop 8).take (t.size - 8) = t.data.toList.drop 8 := List.take_of_length_le (by simp)
  rw [show 8 * (j + 1) = 8 * j + 8 by omega, ← List.drop_drop, ← h]
  simp [ByteArray.data_extract, hd]
theorem isEmpty_false {t : ByteArray} (h : 0 < t.size) : t.toList.isEmpty = false := by
  rw [ByteArray.toList_eq]
  cases hl : t.data.toList with
  | nil => have := congrArg List.length hl; rw [Array.length_toList, ByteArray.size_data] at this; simp only [List.length_nil] at this; omega
  | cons b l => rfl
theorem isEmpty_true {t : ByteArray} (h : t.size = 0) : t.toList.isEmpty = true := by
  rw [ByteArray.toList_eq]
  cases hl : t.data.toList with
  | nil => rfl
  | cons b l => have := congrArg List.length hl; rw [Array.length_toList, ByteArray.size_data] at this; simp only [List.length_cons] at this; omega
set_option maxRecDepth 100000 in
set_option maxHeartbeats 1000000 in
theorem Split_c (s : ByteArray) (w : World) (h8 : s.size % 8 = 0) (h32 : s.size ≤ 32) : Calls Try.prog 16 #[.string s] w (SplitPost (splitL s.data.toList) w) := by
  have hb : ((s.size : Int) % 8 != 0) = false := by simp; omega
  have hL : splitL s.data.toList = splitN (s.size / 8) s.data.toList := by unfold splitL; congr 1
  rw [hL]
  generalize hn : s.size / 8 = n
  have hsn : s.size ≤ 8 * n := by omega
  have hsn2 : 8 * n ≤ s.size := by omega
  clear hL hn h8
  go_enter Try.func16, Try.ntmps16
  go_wp2_with fail
  go_loopw [0, 4] (fun t v wr => ∃ (j : Nat) (T : ByteArray), j ≤ n ∧ t = .string T ∧ wr.ownsRow w.heap.size 3 1 v j (i64s (splitN j s.data.toList)) ∧ Hid (Rest s T j) ∧ Grow w wr) (fun t _ _ => match t with | .string T => T.size | _ => 0)
  case atStart => exact ⟨0, s, by omega, rfl, World.ownsRow_nil _ _ _ _, hid (by simp only [Rest, Nat.mul_zero, List.drop_zero]), Grow.refl _⟩
  case round =>
    obtain ⟨j, T, hj, rfl, hown, HR, hg⟩ := hrel
    have hsz := hg.size
    have hTs := HR.out.size
    by_cases hlt : j < n
    · have hT8 : 8 ≤ T.size := by omega
      have he := isEmpty_false (t := T) (by omega)
      have HTs := hid hTs
      clear hTs
      have hx8 : (T.extract 0 8).size = 8 := by rw [ByteArray.size_extract]; omega
      have HU := hid (fun w => Unordered_c (T.extract 0 8) w hx8)
      rw [HR.out.head] at HU
      have HR2 := hid HR.out.step
      have HS := hid (splitN_snoc j s.data.toList)
      clear hx8
      generalize unordV ((s.data.toList.drop (8 * j)).take 8) = X at HU HS
      have hj4 : n ≤ 4 := by omega
      go_wp2_with fail
      refine (HU.out _).mono ?_
      rintro e w1 ⟨rfl, rfl⟩
      go_wp2_with (at_builtin; refine wpList_push rfl _ _ 22 rfl 3 (.int .i64 0) 1 8 Try.underlying22 Try.infoInt rfl (by omega) w.heap.size _ j _ rfl hown [_] rfl rfl (by simp [Value.oneCell']) (by unfold maxLen; omega) (by omega) hsz ?_)
      intro v' w' ho hgr hs'
      rw [push_int, ← HS.out] at ho
      have hg2 : Grow w w' := Row.below hg hgr hsz (fun k hk => (hown.lt k hk).1)
      clear hown hgr hg
      go_wp2_with fail
      go_roundw
      case rel => exact ⟨j + 1, _, by omega, rfl, ho, HR2, hg2⟩
      case measure => simp; omega
    · obtain rfl : j = n := by omega
      have he := isEmpty_true (t := T) (by omega)
      have hI := Ints.of_own hown (by omega)
      have HTs := hid hTs
      clear hTs hown
      go_wp2_with fail
      go_ret2
      exact ⟨_, rfl, hI, hg⟩
theorem RSplit_no (s : ByteArray) (w : World) (hs : s.size ≤ 140737488351232) (h : ¬ (s.size % 8 = 0 ∧ s.size ≤ 32)) : Calls Try.prog 17 #[.string s] w fun e w' => e = .returned (.tuple #[.slice none 0 0, .int .i64 22]) ∧ w = w' := by
  by_cases h32 : 32 < s.size
  · clear h
    go_enter Try.func17, Try.ntmps17
    go_wp2_with fail
    go_ret2
    exact ⟨rfl, rfl⟩
  · have hb : 0 < (s.size : Int) % 8 := by omega
    have h32' : s.size ≤ 32 := by omega
    clear h h32
    go_enter Try.func17, Try.ntmps17
    go_wp2_with fail
    go_ret2
    exact ⟨rfl, rfl⟩
theorem rest_mid (s : ByteArray) (j : Nat) : (s.extract (8 * j) (8 * j + 8)).data.toList = (s.data.toList.drop (8 * j)).take 8 := by
  simp [ByteArray.data_extract]
set_option maxRecDepth 100000 in
set_option maxHeartbeats 1000000 in
theorem RSplit_c (s : ByteArray) (w : World) (h8 : s.size % 8 = 0) (h32 : s.size ≤ 32) : Calls Try.prog 17 #[.string s] w (SplitPost (splitL s.data.toList) w) := by
  have hb : ¬ 0 < (s.size : Int) % 8 := by omega
  have hL : splitL s.data.toList = splitN (s.size / 8) s.data.toList := by unfold splitL; congr 1
  rw [hL]
  generalize hn : s.size / 8 = n
  have hsn : s.size ≤ 8 * n := by omega
  have hsn2 : 8 * n ≤ s.size := by omega
  clear hL hn h8
  go_enter Try.func17, Try.ntmps17
  go_wp2_with fail
  go_loopw [4, 5] (fun v i wr => ∃ (j : Nat), j ≤ n ∧ i = .int .i64 ((8 * j : Nat) : Int) ∧ wr.ownsRow w.heap.size 3 1 v j (i64s (splitN j s.data.toList)) ∧ Grow w wr) (fun _ i _ => s.size - (intOf i).toNat)
  case atStart => exact ⟨0, by omega, rfl, World.ownsRow_nil _ _ _ _, Grow.refl _⟩
  case round =>
    obtain ⟨j, hj, rfl, hown, hg⟩ := hrel
    have hsz := hg.size
    by_cases hlt : j < n
    · have hj4 : n ≤ 4 := by omega
      have hx8 : (s.extract (8 * j) (8 * j + 8)).size = 8 := by rw [ByteArray.size_extract]; omega
      have HU := hid (fun w => RUnordered_c (s.extract (8 * j) (8 * j + 8)) w hx8)
      rw [rest_mid] at HU
      have HS := hid (splitN_snoc j s.data.toList)
      clear hx8
      generalize unordV ((s.data.toList.drop (8 * j)).take 8) = X at HU HS
      go_wp2_with fail
      refine (HU.out _).mono ?_
      rintro e w1 ⟨rfl, rfl⟩
      go_wp2_with (at_builtin; refine wpList_push rfl _ _ 22 rfl 3 (.int .i64 0) 1 8 Try.underlying22 Try.infoInt rfl (by omega) w.heap.size _ j _ rfl hown [_] rfl rfl (by simp [Value.oneCell']) (by unfold maxLen; omega) (by omega) hsz ?_)
      intro v' w' ho hgr hs'
      rw [push_int, ← HS.out] at ho
      have hg2 : Grow w w' := Row.below hg hgr hsz (fun k hk => (hown.lt k hk).1)
      clear hown hgr hg
      go_wp2_with fail
      go_roundw
      case rel => exact ⟨j + 1, by omega, by go_num, ho, hg2⟩
      case measure => simp [intOf]; omega
    · obtain rfl : j = n := by omega
      have hI := Ints.of_own hown (by omega)
      clear hown
      go_wp2_with fail
      go_ret2
      exact ⟨_, rfl, hI, hg⟩
end Go.Proofs.Ytnohdicnofffdaa
