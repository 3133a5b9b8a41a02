/- The reference's table of methods, and how it looks into it. -/
import Derived.Test.YtljimlaalebmaaaOpTimes
namespace Go.Proofs.Ytljimlaalebmaaa
open Go.RowKit
set_option linter.unusedVariables false
set_option linter.unusedSimpArgs false
/-- The table: kind, method, arguments, answers. -/
def tabL : List (Int × Int × Int × Int) := [(1, 1, 0, 2), (1, 2, 1, 0), (1, 3, 2, 1), (2, 1, 0, 3), (2, 4, 0, 0), (2, 5, 0, 0), (3, 6, 1, 0), (3, 7, 0, 4), (4, 8, 1, 0), (4, 9, 0, 4), (5, 10, 1, 1), (5, 11, 1, 1), (5, 12, 1, 1), (6, 13, 0, 0), (6, 14, 0, 0)]
/-- Its cells. -/
def tabC : Array Value := (tabL.flatMap fun r => [.int .i64 r.1, .int .i64 r.2.1, .int .i64 r.2.2.1, .int .i64 r.2.2.2]).toArray
set_option maxRecDepth 100000 in
set_option maxHeartbeats 1000000 in
theorem Rows_c (w : World) : Calls Try.prog 46 #[] w fun e w' => ∃ g, e = .returned (.slice (some ⟨g, 0, none⟩) 15 15) ∧ Grow w w' ∧ w.heap.size ≤ g ∧ w'.heap[g]? = some (.cells tabC 63) := by
  go_enter Try.func46, Try.ntmps46
  go_wp2
  go_ret
  exact ⟨_, rfl, Grow.alloc _ _, Nat.le_refl _, heap_new w (.cells tabC 63)⟩
theorem getD_at {α : Type} {l : List α} {i : Nat} {d : α} (h : i < l.length) : l.getD i d = l[i] := by simp [List.getD, h]
/-- A row of the table by its place. -/
def rowAt (i : Nat) : Int × Int × Int × Int := tabL.getD i (0, 0, 0, 0)
/-- No row ahead of that place is the one that is sought. -/
def NotTo (k m : Int) (i : Nat) : Prop := ∀ j, j < i → ¬ ((rowAt j).1 = k ∧ (rowAt j).2.1 = m)
/-- What is found: the row (zeros: none), and whether it is there. -/
def findR (k m : Int) : Option (Int × Int × Int × Int) := tabL.find? fun r => r.1 == k && r.2.1 == m
theorem NotTo.step {k m : Int} {i : Nat} (h : NotTo k m i) (hn : ¬ ((rowAt i).1 = k ∧ (rowAt i).2.1 = m)) : NotTo k m (i + 1) := by
  intro j hj
  by_cases e : j = i
  · subst e; exact hn
  · exact h j (by omega)
theorem NotTo.none {k m : Int} (h : NotTo k m 15) : findR k m = none := by
  unfold findR
  rw [List.find?_eq_none]
  intro x hx
  obtain ⟨j, hj, rfl⟩ := List.getElem_of_mem hx
  have := h j hj
  simp only [rowAt, getD_at hj] at this
  simpa using this
theorem NotTo.found {k m : Int} {i : Nat} (hi : i < 15) (h : NotTo k m i) (h1 : (rowAt i).1 = k) (h2 : (rowAt i).2.1 = m) : findR k m = some (rowAt i) := by
  have hl : i < tabL.length := hi
  unfold findR
  rw [List.find?_eq_some_iff_append]
  refine ⟨by simp [h1, h2], tabL.take i, tabL.drop (i + 1), ?_, ?_⟩
  · simp only [rowAt, getD_at hl]
    simp
  · intro x hx
    obtain ⟨j, hj, rfl⟩ := List.getElem_of_mem hx
    simp only [List.length_take] at hj
    have := h j (by omega)
    have hj2 : j < tabL.length := by omega
    simp only [rowAt, getD_at hj2] at this
    simp only [Bool.not_eq_true', Bool.and_eq_false_iff, beq_eq_false_iff_ne, Bool.not_eq_eq_eq_not, Bool.not_true]
    rw [← Decidable.not_and_iff_not_or_not]
    simpa using this
theorem tab_cell {w : World} {g : Nat} {t : TypeId} (h : w.heap[g]? = some (.cells tabC t)) (i : Nat) (hi : i < 15) :
    w.cell? ⟨g, i * 4, none⟩ = some (.int .i64 (rowAt i).1) ∧ w.cell? ⟨g, i * 4 + 1, none⟩ = some (.int .i64 (rowAt i).2.1) ∧ w.cell? ⟨g, i * 4 + 2, none⟩ = some (.int .i64 (rowAt i).2.2.1) ∧ w.cell? ⟨g, i * 4 + 3, none⟩ = some (.int .i64 (rowAt i).2.2.2) := by
  rw [heap_cell h, heap_cell h, heap_cell h, heap_cell h]
  have : ∀ i : Nat, i < 15 → tabC[i * 4]? = some (.int .i64 (rowAt i).1) ∧ tabC[i * 4 + 1]? = some (.int .i64 (rowAt i).2.1) ∧ tabC[i * 4 + 2]? = some (.int .i64 (rowAt i).2.2.1) ∧ tabC[i * 4 + 3]? = some (.int .i64 (rowAt i).2.2.2) := by
    intro i hi
    match i, hi with
    | 0, _ | 1, _ | 2, _ | 3, _ | 4, _ | 5, _ | 6, _ | 7, _ | 8, _ | 9, _ | 10, _ | 11, _ | 12, _ | 13, _ | 14, _ => exact ⟨rfl, rfl, rfl, rfl⟩
    | n + 15, h => omega
  exact this i hi
/-- What Find hands back. -/
def foundV (F : Option (Int × Int × Int × Int)) : Value := match F with
  | none => .agg #[.int .i64 0, .int .i64 0, .int .i64 0, .int .i64 0]
  | some r => .agg #[.int .i64 r.1, .int .i64 r.2.1, .int .i64 r.2.2.1, .int .i64 r.2.2.2]
set_option maxRecDepth 100000 in
set_option maxHeartbeats 1000000 in
theorem Find_c (k m : Int) (w : World) : Calls Try.prog 37 #[.int .i64 k, .int .i64 m] w fun e w' => e = .returned (.tuple #[foundV (findR k m), .bool (findR k m).isSome]) ∧ Grow w w' := by
  have HR := hid (fun w => Rows_c w)
  go_enter Try.func37, Try.ntmps37
  go_wp2_with fail
  refine (HR.out _).mono ?_
  rintro e w1 ⟨g, rfl, b1, hg, hh⟩
  have k1 := b1.cells
  have m1 := b1.marks
  have z1 : w.heap.size < w1.heap.size := (by have := b1.size; simp at this; omega)
  have hcell := hid (tab_cell hh)
  clear hh HR
  go_wp2_with fail
  go_loop [7] (fun i => ∃ (j : Nat), j ≤ 15 ∧ i = .int .i64 j ∧ Hid (NotTo k m j)) (fun i => 15 - (intOf i).toNat)
  case atStart => exact ⟨0, by omega, rfl, hid (fun j h => by omega)⟩
  case round =>
    obtain ⟨j, hj, rfl, HN⟩ := hrel
    by_cases hlt : j < 15
    · obtain ⟨c1, c2, c3, c4⟩ := hcell.out j hlt
      have hs := hid (fun h => HN.out.step h)
      have hf := hid (fun h1 h2 => NotTo.found hlt HN.out h1 h2)
      generalize rowAt j = R at *
      obtain ⟨r1, r2, r3, r4⟩ := R
      dsimp only at c1 c2 c3 c4
      by_cases e1 : r1 = k
      · by_cases e2 : r2 = m
        · have hfx := hid (hf.out e1 e2)
          have q1 : (r1 == k) = true := by simpa using e1
          have q2 : (r2 == m) = true := by simpa using e2
          clear hf hs e1 e2
          go_wp2_with fail
          (try simp only [Exit.inBlock, Exit.then])
          refine bodyPost_ret (v := .tuple #[.agg #[.int .i64 r1, .int .i64 r2, .int .i64 r3, .int .i64 r4], .bool true]) ?_ rfl ⟨?_, ?_⟩
          · rw [results_cell_tmp rfl]
            go_simp
          · rw [hfx.out]; rfl
          · exact Below.setCell (Below.setCell (Below.setCell (Below.setCell (Grow.trans (Grow.alloc _ _) b1) (Nat.le_refl _) _) (Nat.le_refl _) _) (Nat.le_refl _) _) (Nat.le_refl _) _
        · have hst := hid (hs.out (fun h => e2 h.2))
          have q1 : (r1 == k) = true := by simpa using e1
          have q2 : (r2 == m) = false := by simpa using e2
          clear hf hs e1 e2
          go_wp2_with fail
          go_round
          case rel => exact ⟨j + 1, by omega, by go_num, hst⟩
          case measure => simp [intOf]; omega
      · have hst := hid (hs.out (fun h => e1 h.1))
        have q1 : (r1 == k) = false := by simpa using e1
        clear hf hs e1
        go_wp2_with fail
        go_round
        case rel => exact ⟨j + 1, by omega, by go_num, hst⟩
        case measure => simp [intOf]; omega
    · obtain rfl : j = 15 := by omega
      have hn := hid HN.out.none
      go_wp2_with fail
      (try simp only [Exit.inBlock, Exit.then])
      refine bodyPost_ret (v := .tuple #[.agg #[.int .i64 0, .int .i64 0, .int .i64 0, .int .i64 0], .bool false]) ?_ rfl ⟨?_, ?_⟩
      · rw [results_cell_tmp rfl]
        go_simp
      · rw [hn.out]; rfl
      · exact Below.setCell (Below.setCell (Below.setCell (Below.setCell (Grow.trans (Grow.alloc _ _) b1) (Nat.le_refl _) _) (Nat.le_refl _) _) (Nat.le_refl _) _) (Nat.le_refl _) _
end Go.Proofs.Ytljimlaalebmaaa
