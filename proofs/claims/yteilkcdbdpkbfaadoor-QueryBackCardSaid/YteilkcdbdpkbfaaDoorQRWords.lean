/- The reference's lists of words. -/
import Derived.Test.YteilkcdbdpkbfaaDoorQRSmall
namespace Go.Proofs.YteilkcdbdpkbfaaDoor
open Go.RowKit
set_option linter.unusedVariables false
set_option linter.unusedSimpArgs false
theorem toList_injR {a b : ByteArray} (h : a.toList = b.toList) : a = b := by
  apply ByteArray.ext
  apply Array.ext'
  simpa [ByteArray.toList_eq] using h
theorem str_neR {a b : ByteArray} (h : a ≠ b) : (a.toList == b.toList) = false := by
  simpa using fun e => h (toList_injR e)
set_option maxRecDepth 100000 in
set_option maxHeartbeats 4000000 in
theorem Rplace_c (xs : List ByteArray) (bk cap : Nat) (s : ByteArray) (w : World) (hn : xs.length ≤ 100) (hc : ∀ j (h : j < xs.length), w.cell? ⟨bk, j, none⟩ = some (.string xs[j])) :
    Calls Tryd.prog 38 #[.slice (some ⟨bk, 0, none⟩) xs.length cap, .string s] w fun e w' => e = .returned (.int .i64 (Lib.idxOfS xs s)) ∧ w = w' := by
  have HC := hid hc
  have H0 := hid (show Lib.idxOfS xs s = Lib.idxFromS (xs.drop 0) s 0 from rfl)
  have HD := hid (fun j (h : j < xs.length) => show Lib.idxFromS (xs.drop j) s j = if xs[j] = s then (j : Int) else Lib.idxFromS (xs.drop (j + 1)) s (j + 1) from by
    rw [List.drop_eq_getElem_cons h]
    rfl)
  have HE := hid (show Lib.idxFromS (xs.drop xs.length) s xs.length = -1 from by rw [List.drop_length]; rfl)
  have hn1 : (xs.length : Int) ≤ 100 := by omega
  clear hc hn
  generalize hI : Lib.idxOfS xs s = I at *
  replace hI := hid hI
  go_enter Tryd.func38, Tryd.ntmps38
  go_wp2_with fail
  go_loop [5] (fun i => ∃ j : Nat, j ≤ xs.length ∧ i = .int .i64 (j : Int) ∧ Hid (I = Lib.idxFromS (xs.drop j) s j)) (fun i => xs.length - (intOf i).toNat)
  case atStart => exact ⟨0, by omega, rfl, H0⟩
  case round =>
    obtain ⟨j, hj, rfl, HJ⟩ := hrel
    by_cases hlt : j < xs.length
    · have c0 := HC.out j hlt
      have hst := hid (HJ.out.trans (HD.out j hlt))
      have i1 : (j : Int) < (xs.length : Int) := by omega
      have i0 : (0 : Int) ≤ (j : Int) := by omega
      generalize xs[j] = x at *
      by_cases hx : x = s
      · have hr := hid (hst.out.trans (if_pos hx))
        subst hx
        go_wp2_with fail
        go_ret
        exact ⟨by rw [hr.out]; rfl, rfl⟩
      · have hr := hid (hst.out.trans (if_neg hx))
        have hd1 := str_neR hx
        have hd2 : ¬x.toList = s.toList := fun e => hx (toList_injR e)
        clear hx
        go_wp2_with fail
        go_round
        case rel => exact ⟨j + 1, by omega, by go_num, hr⟩
        case measure => simp [intOf]; omega
    · obtain rfl : j = xs.length := by omega
      have hr := hid (HJ.out.trans HE.out)
      go_wp2_with fail
      go_ret
      exact ⟨by rw [hr.out]; rfl, rfl⟩
set_option maxRecDepth 100000 in
theorem RField_c (s : ByteArray) (w : World) : Calls Tryd.prog 23 #[.string s] w fun e w' => e = .returned (.bool (fieldB s)) ∧ Grow w w' := by
  have H := hid (Rplace_c fieldNames w.heap.size 11 s (w.alloc (.cells #[.string ⟨#[105, 100]⟩, .string ⟨#[112, 114, 111, 99]⟩, .string ⟨#[111, 98, 106, 101, 99, 116]⟩, .string ⟨#[107, 105, 110, 100]⟩, .string ⟨#[109, 101, 116, 104, 111, 100]⟩, .string ⟨#[97, 114, 103]⟩, .string ⟨#[115, 101, 99, 111, 110, 100]⟩, .string ⟨#[100, 111, 110, 101]⟩, .string ⟨#[114, 101, 115, 117, 108, 116]⟩, .string ⟨#[105, 110, 118, 111, 107, 101]⟩, .string ⟨#[114, 101, 116, 117, 114, 110]⟩] 9)) (by decide) (by
    intro j hj
    rw [heap_cell (heap_new w _)]
    revert j
    exact (by
      intro j hj
      have hj : j < 11 := hj
      have : j = 0 ∨ j = 1 ∨ j = 2 ∨ j = 3 ∨ j = 4 ∨ j = 5 ∨ j = 6 ∨ j = 7 ∨ j = 8 ∨ j = 9 ∨ j = 10 := by omega
      rcases this with rfl | rfl | rfl | rfl | rfl | rfl | rfl | rfl | rfl | rfl | rfl <;> rfl)))
  rw [show fieldNames.length = 11 from rfl] at H
  go_enter Tryd.func23, Tryd.ntmps23
  go_wp2_with fail
  refine (H.out).mono ?_
  rintro e w1 ⟨rfl, rfl⟩
  go_wp2_with fail
  go_ret
  exact ⟨rfl, Grow.alloc _ _⟩
def wordsW (f : ByteArray) : List ByteArray × Int :=
  if f.toList = [107, 105, 110, 100] then (kindNames, 1)
  else if f.toList = [109, 101, 116, 104, 111, 100] then (methNames, 1)
  else if f.toList = [100, 111, 110, 101] then ([sFalse, sTrue], 0)
  else ([], 0)
/-- The words lie there. -/
def WordsAt (w : World) (v : Value) (xs : List ByteArray) : Prop := (xs = [] ∧ v = .slice none 0 0) ∨ ∃ b, v = .slice (some ⟨b, 0, none⟩) xs.length xs.length ∧ 0 < xs.length ∧ xs.length ≤ 100 ∧ ∀ j (h : j < xs.length), w.cell? ⟨b, j, none⟩ = some (.string xs[j])
theorem WordsAt.grow {w w' : World} {v : Value} {xs : List ByteArray} (h : WordsAt w v xs) (g : Grow w w') : WordsAt w' v xs := by
  rcases h with h | ⟨b, h1, h2, h3, h4⟩
  · exact .inl h
  · exact .inr ⟨b, h1, h2, h3, fun j hj => g.cell (h4 j hj)⟩
set_option maxRecDepth 100000 in
set_option maxHeartbeats 4000000 in
theorem Rwords_c (f : ByteArray) (w : World) : Calls Tryd.prog 71 #[.string f] w fun e w' => ∃ v, e = .returned (.tuple #[v, .int .i64 (wordsW f).2]) ∧ WordsAt w' v (wordsW f).1 ∧ Grow w w' := by
  unfold wordsW
  by_cases h1 : f.toList = [107, 105, 110, 100]
  · rw [if_pos h1]
    go_enter Tryd.func71, Tryd.ntmps71
    go_wp2_with fail
    go_ret2
    exact ⟨_, rfl, .inr ⟨w.heap.size, rfl, by decide, by decide, (by
      intro j hj
      rw [heap_cell (heap_new w _)]
      have hj : j < 6 := hj
      have : j = 0 ∨ j = 1 ∨ j = 2 ∨ j = 3 ∨ j = 4 ∨ j = 5 := by omega
      rcases this with rfl | rfl | rfl | rfl | rfl | rfl <;> rfl)⟩, Grow.alloc _ _⟩
  rw [if_neg h1]
  have q1 : (f.toList == [107, 105, 110, 100]) = false := by simpa using h1
  by_cases h2 : f.toList = [109, 101, 116, 104, 111, 100]
  · rw [if_pos h2]
    go_enter Tryd.func71, Tryd.ntmps71
    go_wp2_with fail
    go_ret2
    exact ⟨_, rfl, .inr ⟨w.heap.size, rfl, by decide, by decide, (by
      intro j hj
      rw [heap_cell (heap_new w _)]
      have hj : j < 14 := hj
      have : j = 0 ∨ j = 1 ∨ j = 2 ∨ j = 3 ∨ j = 4 ∨ j = 5 ∨ j = 6 ∨ j = 7 ∨ j = 8 ∨ j = 9 ∨ j = 10 ∨ j = 11 ∨ j = 12 ∨ j = 13 := by omega
      rcases this with rfl | rfl | rfl | rfl | rfl | rfl | rfl | rfl | rfl | rfl | rfl | rfl | rfl | rfl <;> rfl)⟩, Grow.alloc _ _⟩
  rw [if_neg h2]
  have q2 : (f.toList == [109, 101, 116, 104, 111, 100]) = false := by simpa using h2
  by_cases h3 : f.toList = [100, 111, 110, 101]
  · rw [if_pos h3]
    go_enter Tryd.func71, Tryd.ntmps71
    go_wp2_with fail
    go_ret2
    exact ⟨_, rfl, .inr ⟨w.heap.size, rfl, by decide, by decide, (by
      intro j hj
      rw [heap_cell (heap_new w _)]
      have hj : j < 2 := hj
      have : j = 0 ∨ j = 1 := by omega
      rcases this with rfl | rfl <;> rfl)⟩, Grow.alloc _ _⟩
  rw [if_neg h3]
  have q3 : (f.toList == [100, 111, 110, 101]) = false := by simpa using h3
  go_enter Tryd.func71, Tryd.ntmps71
  go_wp2_with fail
  go_ret2
  exact ⟨_, rfl, .inl ⟨rfl, rfl⟩, Grow.refl _⟩
end Go.Proofs.YteilkcdbdpkbfaaDoor
