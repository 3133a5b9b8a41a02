/- What query's small functions tell. -/
import Derived.Test.YteilkcdbdpkbfaaDoorBase
import Derived.Test.YteilkcdbdpkbfaaDoorLexToks
import Derived.Test.YteilkcdbdpkbfaaDoorShelf
import Derived.Deep.QuietTactic
namespace Go.Proofs.YteilkcdbdpkbfaaDoor
open Go.RowKit
set_option linter.unusedVariables false
set_option linter.unusedSimpArgs false
/-- The fields. -/
def fieldNames : List ByteArray := [⟨#[105, 100]⟩, ⟨#[112, 114, 111, 99]⟩, ⟨#[111, 98, 106, 101, 99, 116]⟩, ⟨#[107, 105, 110, 100]⟩, ⟨#[109, 101, 116, 104, 111, 100]⟩, ⟨#[97, 114, 103]⟩, ⟨#[115, 101, 99, 111, 110, 100]⟩, ⟨#[100, 111, 110, 101]⟩, ⟨#[114, 101, 115, 117, 108, 116]⟩, ⟨#[105, 110, 118, 111, 107, 101]⟩, ⟨#[114, 101, 116, 117, 114, 110]⟩]
/-- The kinds. -/
def kindNames : List ByteArray := [⟨#[114, 101, 103, 105, 115, 116, 101, 114]⟩, ⟨#[99, 111, 117, 110, 116, 101, 114]⟩, ⟨#[113, 117, 101, 117, 101]⟩, ⟨#[115, 116, 97, 99, 107]⟩, ⟨#[115, 101, 116]⟩, ⟨#[109, 117, 116, 101, 120]⟩]
/-- The methods. -/
def methNames : List ByteArray := [⟨#[114, 101, 97, 100]⟩, ⟨#[119, 114, 105, 116, 101]⟩, ⟨#[99, 97, 115]⟩, ⟨#[105, 110, 99]⟩, ⟨#[100, 101, 99]⟩, ⟨#[101, 110, 113]⟩, ⟨#[100, 101, 113]⟩, ⟨#[112, 117, 115, 104]⟩, ⟨#[112, 111, 112]⟩, ⟨#[97, 100, 100]⟩, ⟨#[114, 101, 109, 111, 118, 101]⟩, ⟨#[104, 97, 115]⟩, ⟨#[108, 111, 99, 107]⟩, ⟨#[117, 110, 108, 111, 99, 107]⟩]
def sKind : ByteArray := ⟨#[107, 105, 110, 100]⟩
def sMeth : ByteArray := ⟨#[109, 101, 116, 104, 111, 100]⟩
def sDone : ByteArray := ⟨#[100, 111, 110, 101]⟩
def sTrue : ByteArray := ⟨#[116, 114, 117, 101]⟩
def sFalse : ByteArray := ⟨#[102, 97, 108, 115, 101]⟩
def namesB (f : ByteArray) : Bool := f.toList == [107, 105, 110, 100] || f.toList == [109, 101, 116, 104, 111, 100] || f.toList == [100, 111, 110, 101]
def fieldB (s : ByteArray) : Bool := Lib.containsS fieldNames s
def flagI (b : Bool) : Int := if b = true then 1 else 0
/-- What a word is of a field. -/
def valueQ (f s : ByteArray) : Int × Bool :=
  if f.toList = [107, 105, 110, 100] then (Lib.idxOfS kindNames s + 1, decide (0 ≤ Lib.idxOfS kindNames s))
  else if f.toList = [109, 101, 116, 104, 111, 100] then (Lib.idxOfS methNames s + 1, decide (0 ≤ Lib.idxOfS methNames s))
  else if f.toList = [100, 111, 110, 101] then (flagI (s.toList == [116, 114, 117, 101]), s.toList == [116, 114, 117, 101] || s.toList == [102, 97, 108, 115, 101])
  else (0, false)
theorem idxOfS_lo (zs : List ByteArray) (s : ByteArray) : -1 ≤ Lib.idxOfS zs s ∧ Lib.idxOfS zs s < zs.length := by
  have key : ∀ (zs : List ByteArray) (i : Nat), Lib.idxFromS zs s i = -1 ∨ ((i : Int) ≤ Lib.idxFromS zs s i ∧ Lib.idxFromS zs s i < (i : Int) + zs.length) := by
    intro zs
    induction zs with
    | nil => intro i; left; rfl
    | cons z zs ih =>
      intro i
      unfold Lib.idxFromS
      split
      · right; simp; omega
      · rcases ih (i + 1) with h | h
        · left; exact h
        · right; simp only [List.length_cons]; push_cast at h ⊢; omega
  rcases key zs 0 with h | h
  · have : Lib.idxOfS zs s = -1 := h
    omega
  · have h1 : ((0 : Nat) : Int) ≤ Lib.idxOfS zs s := h.1
    have h2 : Lib.idxOfS zs s < ((0 : Nat) : Int) + zs.length := h.2
    omega
set_option maxRecDepth 100000 in
theorem field_c (s : ByteArray) (w : World) : Calls Tryd.prog 46 #[.string s] w fun e w' => e = .returned (.bool (fieldB s)) ∧ Grow w w' := by
  have H := hid (Tryd.slices_Contains_string w.heap.size 0 11 11 fieldNames s (w.alloc (.cells #[.string ⟨#[105, 100]⟩, .string ⟨#[112, 114, 111, 99]⟩, .string ⟨#[111, 98, 106, 101, 99, 116]⟩, .string ⟨#[107, 105, 110, 100]⟩, .string ⟨#[109, 101, 116, 104, 111, 100]⟩, .string ⟨#[97, 114, 103]⟩, .string ⟨#[115, 101, 99, 111, 110, 100]⟩, .string ⟨#[100, 111, 110, 101]⟩, .string ⟨#[114, 101, 115, 117, 108, 116]⟩, .string ⟨#[105, 110, 118, 111, 107, 101]⟩, .string ⟨#[114, 101, 116, 117, 114, 110]⟩] 9)) (by decide) (by decide) (by
    intro j hj
    have hj : j < 11 := hj
    rw [heap_cell (heap_new w _), Nat.zero_add]
    have : j = 0 ∨ j = 1 ∨ j = 2 ∨ j = 3 ∨ j = 4 ∨ j = 5 ∨ j = 6 ∨ j = 7 ∨ j = 8 ∨ j = 9 ∨ j = 10 := by omega
    rcases this with rfl | rfl | rfl | rfl | rfl | rfl | rfl | rfl | rfl | rfl | rfl <;> rfl))
  rw [show fieldNames.take 11 = fieldNames from rfl] at H
  go_enter Tryd.func46, Tryd.ntmps46
  go_wp2_with fail
  refine (H.out).mono ?_
  rintro e w1 ⟨rfl, rfl⟩
  go_wp2_with fail
  go_ret
  exact ⟨rfl, Grow.alloc _ _⟩
theorem flag_c (b : Bool) (w : World) : Calls Tryd.prog 65 #[.bool b] w fun e w' => e = .returned (.int .i64 (flagI b)) ∧ w = w' := by
  cases b
  all_goals
    go_enter Tryd.func65, Tryd.ntmps65
    go_wp2_with fail
    go_ret
    exact ⟨rfl, rfl⟩
set_option maxRecDepth 100000 in
theorem names_c (f : ByteArray) (w : World) : Calls Tryd.prog 30 #[.string f] w fun e w' => e = .returned (.bool (namesB f)) ∧ w = w' := by
  unfold namesB
  by_cases h1 : f.toList = [107, 105, 110, 100]
  · go_enter Tryd.func30, Tryd.ntmps30
    go_wp2_with fail
    go_ret
    exact ⟨by simp [h1], rfl⟩
  · by_cases h2 : f.toList = [109, 101, 116, 104, 111, 100]
    · go_enter Tryd.func30, Tryd.ntmps30
      go_wp2_with fail
      go_ret
      exact ⟨by simp [h2], rfl⟩
    · go_enter Tryd.func30, Tryd.ntmps30
      go_wp2_with fail
      go_ret
      exact ⟨by simp [h1, h2], rfl⟩
set_option maxRecDepth 100000 in
theorem valueK_c (f s : ByteArray) (w : World) (h1 : f.toList = [107, 105, 110, 100]) : Calls Tryd.prog 53 #[.string f, .string s] w fun e w' => e = .returned (.tuple #[.int .i64 ((Lib.idxOfS kindNames s + 1, decide (0 ≤ Lib.idxOfS kindNames s))).1, .bool ((Lib.idxOfS kindNames s + 1, decide (0 ≤ Lib.idxOfS kindNames s))).2]) ∧ Grow w w' := by
  have HK := hid (Tryd.slices_Index_string w.heap.size 0 6 6 kindNames s (w.alloc (.cells #[.string ⟨#[114, 101, 103, 105, 115, 116, 101, 114]⟩, .string ⟨#[99, 111, 117, 110, 116, 101, 114]⟩, .string ⟨#[113, 117, 101, 117, 101]⟩, .string ⟨#[115, 116, 97, 99, 107]⟩, .string ⟨#[115, 101, 116]⟩, .string ⟨#[109, 117, 116, 101, 120]⟩] 9)) (by decide) (by decide) (by
    intro j hj
    have hj : j < 6 := hj
    rw [heap_cell (heap_new w _), Nat.zero_add]
    have : j = 0 ∨ j = 1 ∨ j = 2 ∨ j = 3 ∨ j = 4 ∨ j = 5 := by omega
    rcases this with rfl | rfl | rfl | rfl | rfl | rfl <;> rfl))
  rw [show kindNames.take 6 = kindNames from rfl] at HK
  obtain ⟨bK, bK2⟩ := idxOfS_lo kindNames s
  rw [show kindNames.length = 6 from rfl] at bK2
  generalize Lib.idxOfS kindNames s = x at *
  go_enter Tryd.func53, Tryd.ntmps53
  go_wp2_with (go_at_call 66; refine (HK.out).mono ?_; rintro e w1 ⟨rfl, rfl⟩)
  go_ret2
  exact ⟨rfl, Grow.alloc _ _⟩
set_option maxRecDepth 100000 in
theorem valueM_c (f s : ByteArray) (w : World) (h1 : ¬f.toList = [107, 105, 110, 100]) (h2 : f.toList = [109, 101, 116, 104, 111, 100]) : Calls Tryd.prog 53 #[.string f, .string s] w fun e w' => e = .returned (.tuple #[.int .i64 ((Lib.idxOfS methNames s + 1, decide (0 ≤ Lib.idxOfS methNames s))).1, .bool ((Lib.idxOfS methNames s + 1, decide (0 ≤ Lib.idxOfS methNames s))).2]) ∧ Grow w w' := by
  have HM := hid (Tryd.slices_Index_string w.heap.size 0 14 14 methNames s (w.alloc (.cells #[.string ⟨#[114, 101, 97, 100]⟩, .string ⟨#[119, 114, 105, 116, 101]⟩, .string ⟨#[99, 97, 115]⟩, .string ⟨#[105, 110, 99]⟩, .string ⟨#[100, 101, 99]⟩, .string ⟨#[101, 110, 113]⟩, .string ⟨#[100, 101, 113]⟩, .string ⟨#[112, 117, 115, 104]⟩, .string ⟨#[112, 111, 112]⟩, .string ⟨#[97, 100, 100]⟩, .string ⟨#[114, 101, 109, 111, 118, 101]⟩, .string ⟨#[104, 97, 115]⟩, .string ⟨#[108, 111, 99, 107]⟩, .string ⟨#[117, 110, 108, 111, 99, 107]⟩] 9)) (by decide) (by decide) (by
    intro j hj
    have hj : j < 14 := hj
    rw [heap_cell (heap_new w _), Nat.zero_add]
    have : j = 0 ∨ j = 1 ∨ j = 2 ∨ j = 3 ∨ j = 4 ∨ j = 5 ∨ j = 6 ∨ j = 7 ∨ j = 8 ∨ j = 9 ∨ j = 10 ∨ j = 11 ∨ j = 12 ∨ j = 13 := by omega
    rcases this with rfl | rfl | rfl | rfl | rfl | rfl | rfl | rfl | rfl | rfl | rfl | rfl | rfl | rfl <;> rfl))
  rw [show methNames.take 14 = methNames from rfl] at HM
  obtain ⟨bK, bK2⟩ := idxOfS_lo methNames s
  rw [show methNames.length = 14 from rfl] at bK2
  generalize Lib.idxOfS methNames s = x at *
  go_enter Tryd.func53, Tryd.ntmps53
  go_wp2_with (go_at_call 66; refine (HM.out).mono ?_; rintro e w1 ⟨rfl, rfl⟩)
  go_ret2
  exact ⟨rfl, Grow.alloc _ _⟩
set_option maxRecDepth 100000 in
theorem valueD_c (f s : ByteArray) (w : World) (h1 : ¬f.toList = [107, 105, 110, 100]) (h2 : ¬f.toList = [109, 101, 116, 104, 111, 100]) (h3 : f.toList = [100, 111, 110, 101]) : Calls Tryd.prog 53 #[.string f, .string s] w fun e w' => e = .returned (.tuple #[.int .i64 ((flagI (s.toList == [116, 114, 117, 101]), s.toList == [116, 114, 117, 101] || s.toList == [102, 97, 108, 115, 101])).1, .bool ((flagI (s.toList == [116, 114, 117, 101]), s.toList == [116, 114, 117, 101] || s.toList == [102, 97, 108, 115, 101])).2]) ∧ Grow w w' := by
  by_cases s1 : s.toList = [116, 114, 117, 101]
  · go_enter Tryd.func53, Tryd.ntmps53
    go_wp2_with (go_at_call 65; refine (flag_c _ _).mono ?_; rintro e w1 ⟨rfl, rfl⟩)
    go_ret2
    exact ⟨by simp [s1], Grow.refl _⟩
  · go_enter Tryd.func53, Tryd.ntmps53
    go_wp2_with (go_at_call 65; refine (flag_c _ _).mono ?_; rintro e w1 ⟨rfl, rfl⟩)
    go_ret2
    exact ⟨by simp [s1], Grow.refl _⟩
set_option maxRecDepth 100000 in
theorem valueN_c (f s : ByteArray) (w : World) (h1 : ¬f.toList = [107, 105, 110, 100]) (h2 : ¬f.toList = [109, 101, 116, 104, 111, 100]) (h3 : ¬f.toList = [100, 111, 110, 101]) : Calls Tryd.prog 53 #[.string f, .string s] w fun e w' => e = .returned (.tuple #[.int .i64 (((0 : Int), false)).1, .bool (((0 : Int), false)).2]) ∧ Grow w w' := by
  have q1 : (f.toList == [107, 105, 110, 100]) = false := by simpa using h1
  have q2 : (f.toList == [109, 101, 116, 104, 111, 100]) = false := by simpa using h2
  have q3 : (f.toList == [100, 111, 110, 101]) = false := by simpa using h3
  have HN := hid (Tryd.slices_Index_string_empty none 0 s w)
  rw [show Lib.idxOfS [] s = -1 from rfl] at HN
  go_enter Tryd.func53, Tryd.ntmps53
  go_wp2_with (go_at_call 66; refine (HN.out).mono ?_; rintro e w1 ⟨rfl, rfl⟩)
  go_ret2
  exact ⟨rfl, Grow.refl _⟩
theorem valueOf_c (f s : ByteArray) (w : World) : Calls Tryd.prog 53 #[.string f, .string s] w fun e w' => e = .returned (.tuple #[.int .i64 (valueQ f s).1, .bool (valueQ f s).2]) ∧ Grow w w' := by
  unfold valueQ
  by_cases h1 : f.toList = [107, 105, 110, 100]
  · rw [if_pos h1]; exact valueK_c f s w h1
  rw [if_neg h1]
  by_cases h2 : f.toList = [109, 101, 116, 104, 111, 100]
  · rw [if_pos h2]; exact valueM_c f s w h1 h2
  rw [if_neg h2]
  by_cases h3 : f.toList = [100, 111, 110, 101]
  · rw [if_pos h3]; exact valueD_c f s w h1 h2 h3
  rw [if_neg h3]; exact valueN_c f s w h1 h2 h3
end Go.Proofs.YteilkcdbdpkbfaaDoor
