/- The law's comparing of texts, and the examples of the layer 'journal'. -/
import Derived.Test.YtcfkcdfjianeiaaJPack
import Derived.Test.YtcfkcdfjianeiaaJRPack
import Derived.Deep.QuietTactic
import Derived.BigQuiet
namespace Go.Proofs.Ytcfkcdfjianeiaa
open Go.RowKit
set_option linter.unusedVariables false
set_option linter.unusedSimpArgs false
theorem Grow.drewNRa {a b : World} (h : Grow a b) (n : Nat) : Grow a (b.drewN n) := ⟨h.os, h.tape, h.output, h.size, h.block⟩
set_option maxRecDepth 100000 in
set_option maxHeartbeats 1000000 in
theorem RTexts_c (l : List (List UInt8)) (va vb : Value) (w : World) (ha : Texts w va l) (hb : Texts w vb l) : Calls Try.prog 10 #[va, vb] w fun e w' => e = .returned (.bool true) ∧ Grow w w' := by
  obtain ⟨pa, ca, rfl, hna, hca⟩ := ha
  obtain ⟨pb, cb, rfl, hnb, hcb⟩ := hb
  have HX := hid (show ∀ k, k < l.length → ∃ (ba bb : Nat) (tx : ByteArray), pa = some ⟨ba, 0, none⟩ ∧ pb = some ⟨bb, 0, none⟩ ∧ w.cell? ⟨ba, k, none⟩ = some (.string tx) ∧ w.cell? ⟨bb, k, none⟩ = some (.string tx) from by
    intro k hk
    obtain ⟨ba, e1, A⟩ := hca (by omega)
    obtain ⟨bb, e2, B⟩ := hcb (by omega)
    exact ⟨ba, bb, _, e1, e2, A k hk, B k hk⟩)
  clear hca hcb hnb
  generalize l.length = n at *
  go_enter Try.func10, Try.ntmps10
  go_wp2_with fail
  go_loopw [5] (fun i wr => ∃ k : Nat, k ≤ n ∧ i = .int .i64 k ∧ Grow w wr) (fun i _ => n - (intOf i).toNat)
  case atStart => exact ⟨0, by omega, rfl, Grow.refl _⟩
  case round =>
    obtain ⟨k, hk, rfl, hg⟩ := hrel
    by_cases hlt : k < n
    · obtain ⟨ba, bb, tx, rfl, rfl, a0, b0⟩ := HX.out k hlt
      replace a0 := hg.cellJ a0
      replace b0 := hg.cellJ b0
      have hk0 : (0 : Int) ≤ (k : Int) := by omega
      have hk1 : (k : Int) < (n : Int) := by omega
      go_wp2_with fail
      go_quiet (fail)
      go_wp2_with fail
      go_roundw
      case rel => exact ⟨k + 1, by omega, by go_num, Grow.drewNRa hg _⟩
      case measure => simp [intOf]; omega
    · obtain rfl : k = n := by omega
      go_wp2_with fail
      go_ret
      exact ⟨rfl, hg⟩
def onePage : List PageR := [⟨7, ⟨#[97, 98]⟩⟩]
theorem one_E : packE onePage = 0 := by kernel_rfl
theorem one_L : packL onePage = [fillL [1, 0, 0, 0, 7], fillL [97, 98]] := by kernel_rfl
set_option maxRecDepth 100000 in
set_option maxHeartbeats 2000000 in
theorem awake_c (w : World) : Calls Try.prog 7 #[] w fun e w' => e = .returned (.bool true) ∧ Grow w w' := by
  have c1 := fun v w h => Pack_c onePage v w h (fun p hp => by
    simp only [onePage, List.mem_singleton] at hp
    subst hp
    exact ⟨by decide, by decide, by show 2 ≤ _; omega⟩)
  unfold PackPost at c1
  rw [one_E, one_L] at c1
  have hp : Pages (w.alloc (.cells #[.int .i64 7, .string ⟨#[97, 98]⟩] 50)) (.slice (some ⟨w.heap.size, 0, none⟩) 1 1) onePage :=
    ⟨_, _, rfl, by decide, fun _ => ⟨_, _, rfl, fun i hi => by
      obtain rfl : i = 0 := by simp [onePage] at hi; exact hi
      exact ⟨by rw [heap_cell (heap_new w _)]; rfl, by rw [heap_cell (heap_new w _)]; rfl⟩⟩⟩
  have C1 := hid c1
  have HP := hid hp
  have fA := hid (fun w => Filled_c ⟨#[1, 0, 0, 0, 7]⟩ w (by decide))
  have fB := hid (fun w => Filled_c ⟨#[97, 98]⟩ w (by decide))
  have B1 := hid (fun w => Blocks_c 63 w (by decide))
  have B2 := hid (fun w => Blocks_c 64 w (by decide))
  clear c1 hp
  go_enter Try.func7, Try.ntmps7
  go_wp2_with fail
  refine (C1.out _ _ HP.out).mono ?_
  rintro e w1 ⟨v1, rfl, ⟨p1, k1, rfl, hn1, ht1⟩, g1⟩
  obtain ⟨b, rfl, HB⟩ := ht1 (by simp)
  have a0 := HB 0 (by simp)
  have a1 := HB 1 (by simp)
  simp only [List.getElem_cons_succ, List.getElem_cons_zero] at a0 a1
  clear ht1 HB hn1 HP C1
  have e1 : ([1, 0, 0, 0, 7] : List UInt8) = (⟨#[1, 0, 0, 0, 7]⟩ : ByteArray).data.toList := rfl
  have e2 : ([97, 98] : List UInt8) = (⟨#[97, 98]⟩ : ByteArray).data.toList := rfl
  rw [e1] at a0
  rw [e2] at a1
  clear e1 e2
  generalize (⟨(fillL (⟨#[1, 0, 0, 0, 7]⟩ : ByteArray).data.toList).toArray⟩ : ByteArray) = A at *
  generalize (⟨(fillL (⟨#[97, 98]⟩ : ByteArray).data.toList).toArray⟩ : ByteArray) = B at *
  have hblt := World.block_lt_of_cell? w1 _ a0
  simp only at hblt
  go_wp2_with fail
  refine wp_rely [.eq (.int .i64 0), .eq (.bool true), .eq (.bool true), .eq (.slice (some ⟨b, 0, none⟩) 2 k1), .eq (.int .i64 2), .eq (.bool true), .eq (.bool true), .eq (.bool true), .eq (.slice (some ⟨b, 0, none⟩) 2 k1), .eq (.pointer (some ⟨b, 0, none⟩)), .eq (.string A), .eq (.string A), .eq (.bool true), .eq (.bool true), .eq (.bool true), .eq (.slice (some ⟨b, 0, none⟩) 2 k1), .eq (.pointer (some ⟨b, 1, none⟩)), .eq (.string B), .eq (.string B), .eq (.bool true), .eq (.bool true), .eq (.bool true), .eq (.int .i64 64), .eq (.bool true), .eq (.bool true), .eq (.bool true), .eq (.int .i64 66), .eq (.bool true), .eq (.bool true), .eq (.bool true)] (by kernel_rfl) (by kernel_rfl) (by kernel_rfl) ?_ ?_
  · simp only [relyGoals]
    refine ⟨?_, ?_, ?_, ?_, ?_, ?_, ?_, ?_, ?_, ?_, ?_, ?_, ?_, ?_, ?_, ?_, ?_, ?_, ?_, ?_, ?_, ?_, ?_, ?_, ?_, ?_, ?_, ?_, ?_, ?_, trivial⟩
    all_goals intro t w' hsz hg hdd hfr
    all_goals simp only [depsDid, Did, perAt, List.getElem?_cons_zero, List.getElem?_cons_succ, List.getD_cons_zero, List.getD_cons_succ, Per.eq, Per.row, Per.of, and_true, Array.getD_eq_getD_getElem?] at hdd
    · rw [if_pos (by rfl)]
      try simp only [perAt, List.getD_cons_zero, List.getD_cons_succ, Per.eq, Per.row, Per.of]
      have hs2 := hfr 2 (by kernel_rfl)
      simp only [Array.getD_eq_getD_getElem?] at hs2
      simp [execOp, Act.eval, hdd, hs2, relyUpon, go_sem, Grow.refl]
    · rw [if_pos (by rfl)]
      try simp only [perAt, List.getD_cons_zero, List.getD_cons_succ, Per.eq, Per.row, Per.of]
      simp [execOp, Act.eval, hdd, relyUpon, go_sem, Grow.refl]
    · rw [if_pos (by rfl)]
      try simp only [perAt, List.getD_cons_zero, List.getD_cons_succ, Per.eq, Per.row, Per.of]
      simp [execOp, Act.eval, hdd, relyUpon, go_sem, Grow.refl]
    · rw [if_pos (by simp only [Region.wanted]; rw [yielded_of (d := 11) (b := true) rfl (by simp only [hdd])]; rfl)]
      try simp only [perAt, List.getD_cons_zero, List.getD_cons_succ, Per.eq, Per.row, Per.of]
      have hs1 := hfr 1 (by kernel_rfl)
      simp only [Array.getD_eq_getD_getElem?] at hs1
      simp [execOp, Act.eval, hdd, hs1, relyUpon, go_sem, Grow.refl]
    · rw [if_pos (by simp only [Region.wanted]; rw [yielded_of (d := 11) (b := true) rfl (by simp only [hdd])]; rfl)]
      try simp only [perAt, List.getD_cons_zero, List.getD_cons_succ, Per.eq, Per.row, Per.of]
      simp [execOp, Act.eval, hdd, relyUpon, go_sem, Grow.refl]
    · rw [if_pos (by simp only [Region.wanted]; rw [yielded_of (d := 11) (b := true) rfl (by simp only [hdd])]; rfl)]
      try simp only [perAt, List.getD_cons_zero, List.getD_cons_succ, Per.eq, Per.row, Per.of]
      simp [execOp, Act.eval, hdd, relyUpon, go_sem, Grow.refl]
    · rw [if_pos (by rfl)]
      try simp only [perAt, List.getD_cons_zero, List.getD_cons_succ, Per.eq, Per.row, Per.of]
      simp [execOp, Act.eval, hdd, relyUpon, go_sem, Grow.refl]
    · rw [if_pos (by rfl)]
      try simp only [perAt, List.getD_cons_zero, List.getD_cons_succ, Per.eq, Per.row, Per.of]
      simp [execOp, Act.eval, hdd, relyUpon, go_sem, Grow.refl]
    · rw [if_pos (by simp only [Region.wanted]; rw [yielded_of (d := 16) (b := true) rfl (by simp only [hdd])]; rfl)]
      try simp only [perAt, List.getD_cons_zero, List.getD_cons_succ, Per.eq, Per.row, Per.of]
      have hs1 := hfr 1 (by kernel_rfl)
      simp only [Array.getD_eq_getD_getElem?] at hs1
      simp [execOp, Act.eval, hdd, hs1, relyUpon, go_sem, Grow.refl]
    · rw [if_pos (by simp only [Region.wanted]; rw [yielded_of (d := 16) (b := true) rfl (by simp only [hdd])]; rfl)]
      try simp only [perAt, List.getD_cons_zero, List.getD_cons_succ, Per.eq, Per.row, Per.of]
      simp [execOp, Act.eval, hdd, relyUpon, go_sem, Grow.refl]
    · rw [if_pos (by simp only [Region.wanted]; rw [yielded_of (d := 16) (b := true) rfl (by simp only [hdd])]; rfl)]
      try simp only [perAt, List.getD_cons_zero, List.getD_cons_succ, Per.eq, Per.row, Per.of]
      have kc := hg.cells
      simp [execOp, Act.eval, hdd, relyUpon, go_sem, Grow.refl, kc, a0, a1, hblt]
    · rw [if_pos (by simp only [Region.wanted]; rw [yielded_of (d := 16) (b := true) rfl (by simp only [hdd])]; rfl)]
      try simp only [perAt, List.getD_cons_zero, List.getD_cons_succ, Per.eq, Per.row, Per.of]
      simp [execOp, Act.eval, hdd, relyUpon, go_sem]
      refine (fA.out w').mono fun e w'' h => ?_
      obtain ⟨h1, h2⟩ := h
      have h3 : Grow w' w'' := by first | exact h2 | (rw [← h2]; exact Grow.refl _)
      first | exact ⟨h3, h1⟩ | exact ⟨_, h1, h3, rfl⟩ | exact ⟨h1, h3⟩
    · rw [if_pos (by simp only [Region.wanted]; rw [yielded_of (d := 16) (b := true) rfl (by simp only [hdd])]; rfl)]
      try simp only [perAt, List.getD_cons_zero, List.getD_cons_succ, Per.eq, Per.row, Per.of]
      simp [execOp, Act.eval, hdd, relyUpon, go_sem, Grow.refl]
    · rw [if_pos (by rfl)]
      try simp only [perAt, List.getD_cons_zero, List.getD_cons_succ, Per.eq, Per.row, Per.of]
      simp [execOp, Act.eval, hdd, relyUpon, go_sem, Grow.refl]
    · rw [if_pos (by rfl)]
      try simp only [perAt, List.getD_cons_zero, List.getD_cons_succ, Per.eq, Per.row, Per.of]
      simp [execOp, Act.eval, hdd, relyUpon, go_sem, Grow.refl]
    · rw [if_pos (by simp only [Region.wanted]; rw [yielded_of (d := 23) (b := true) rfl (by simp only [hdd])]; rfl)]
      try simp only [perAt, List.getD_cons_zero, List.getD_cons_succ, Per.eq, Per.row, Per.of]
      have hs1 := hfr 1 (by kernel_rfl)
      simp only [Array.getD_eq_getD_getElem?] at hs1
      simp [execOp, Act.eval, hdd, hs1, relyUpon, go_sem, Grow.refl]
    · rw [if_pos (by simp only [Region.wanted]; rw [yielded_of (d := 23) (b := true) rfl (by simp only [hdd])]; rfl)]
      try simp only [perAt, List.getD_cons_zero, List.getD_cons_succ, Per.eq, Per.row, Per.of]
      simp [execOp, Act.eval, hdd, relyUpon, go_sem, Grow.refl]
    · rw [if_pos (by simp only [Region.wanted]; rw [yielded_of (d := 23) (b := true) rfl (by simp only [hdd])]; rfl)]
      try simp only [perAt, List.getD_cons_zero, List.getD_cons_succ, Per.eq, Per.row, Per.of]
      have kc := hg.cells
      simp [execOp, Act.eval, hdd, relyUpon, go_sem, Grow.refl, kc, a0, a1, hblt]
    · rw [if_pos (by simp only [Region.wanted]; rw [yielded_of (d := 23) (b := true) rfl (by simp only [hdd])]; rfl)]
      try simp only [perAt, List.getD_cons_zero, List.getD_cons_succ, Per.eq, Per.row, Per.of]
      simp [execOp, Act.eval, hdd, relyUpon, go_sem]
      refine (fB.out w').mono fun e w'' h => ?_
      obtain ⟨h1, h2⟩ := h
      have h3 : Grow w' w'' := by first | exact h2 | (rw [← h2]; exact Grow.refl _)
      first | exact ⟨h3, h1⟩ | exact ⟨_, h1, h3, rfl⟩ | exact ⟨h1, h3⟩
    · rw [if_pos (by simp only [Region.wanted]; rw [yielded_of (d := 23) (b := true) rfl (by simp only [hdd])]; rfl)]
      try simp only [perAt, List.getD_cons_zero, List.getD_cons_succ, Per.eq, Per.row, Per.of]
      simp [execOp, Act.eval, hdd, relyUpon, go_sem, Grow.refl]
    · rw [if_pos (by rfl)]
      try simp only [perAt, List.getD_cons_zero, List.getD_cons_succ, Per.eq, Per.row, Per.of]
      simp [execOp, Act.eval, hdd, relyUpon, go_sem, Grow.refl]
    · rw [if_pos (by rfl)]
      try simp only [perAt, List.getD_cons_zero, List.getD_cons_succ, Per.eq, Per.row, Per.of]
      simp [execOp, Act.eval, hdd, relyUpon, go_sem, Grow.refl]
    · rw [if_pos (by simp only [Region.wanted]; rw [yielded_of (d := 30) (b := true) rfl (by simp only [hdd])]; rfl)]
      try simp only [perAt, List.getD_cons_zero, List.getD_cons_succ, Per.eq, Per.row, Per.of]
      simp [execOp, Act.eval, hdd, relyUpon, go_sem]
      refine (B1.out w').mono fun e w'' h => ?_
      obtain ⟨h1, h2⟩ := h
      have h3 : Grow w' w'' := by first | exact h2 | (rw [← h2]; exact Grow.refl _)
      first | exact ⟨h3, h1⟩ | exact ⟨_, h1, h3, rfl⟩ | exact ⟨h1, h3⟩
    · rw [if_pos (by simp only [Region.wanted]; rw [yielded_of (d := 30) (b := true) rfl (by simp only [hdd])]; rfl)]
      try simp only [perAt, List.getD_cons_zero, List.getD_cons_succ, Per.eq, Per.row, Per.of]
      simp [execOp, Act.eval, hdd, relyUpon, go_sem, Grow.refl]
    · rw [if_pos (by rfl)]
      try simp only [perAt, List.getD_cons_zero, List.getD_cons_succ, Per.eq, Per.row, Per.of]
      simp [execOp, Act.eval, hdd, relyUpon, go_sem, Grow.refl]
    · rw [if_pos (by rfl)]
      try simp only [perAt, List.getD_cons_zero, List.getD_cons_succ, Per.eq, Per.row, Per.of]
      simp [execOp, Act.eval, hdd, relyUpon, go_sem, Grow.refl]
    · rw [if_pos (by simp only [Region.wanted]; rw [yielded_of (d := 34) (b := true) rfl (by simp only [hdd])]; rfl)]
      try simp only [perAt, List.getD_cons_zero, List.getD_cons_succ, Per.eq, Per.row, Per.of]
      simp [execOp, Act.eval, hdd, relyUpon, go_sem]
      refine (B2.out w').mono fun e w'' h => ?_
      obtain ⟨h1, h2⟩ := h
      have h3 : Grow w' w'' := by first | exact h2 | (rw [← h2]; exact Grow.refl _)
      first | exact ⟨h3, h1⟩ | exact ⟨_, h1, h3, rfl⟩ | exact ⟨h1, h3⟩
    · rw [if_pos (by simp only [Region.wanted]; rw [yielded_of (d := 34) (b := true) rfl (by simp only [hdd])]; rfl)]
      try simp only [perAt, List.getD_cons_zero, List.getD_cons_succ, Per.eq, Per.row, Per.of]
      simp [execOp, Act.eval, hdd, relyUpon, go_sem, Grow.refl]
    · rw [if_pos (by rfl)]
      try simp only [perAt, List.getD_cons_zero, List.getD_cons_succ, Per.eq, Per.row, Per.of]
      simp [execOp, Act.eval, hdd, relyUpon, go_sem, Grow.refl]
    · rw [if_pos (by rfl)]
      try simp only [perAt, List.getD_cons_zero, List.getD_cons_succ, Per.eq, Per.row, Per.of]
      simp [execOp, Act.eval, hdd, relyUpon, go_sem, Grow.refl]
  intro wz hgz
  simp only [relyEnd, List.headD_cons, List.tail_cons, Per.eq, Per.row, Per.of]
  rintro _ rfl _ rfl _ rfl _ rfl _ rfl _ rfl _ rfl _ rfl _ rfl _ rfl _ rfl _ rfl _ rfl _ rfl _ rfl _ rfl _ rfl _ rfl _ rfl _ rfl _ rfl _ rfl _ rfl _ rfl _ rfl _ rfl _ rfl _ rfl _ rfl _ rfl
  go_simp
  go_wp2_with fail
  go_ret
  exact ⟨rfl, Grow.trans (Grow.alloc _ _) (Grow.trans g1 hgz)⟩
end Go.Proofs.Ytcfkcdfjianeiaa
