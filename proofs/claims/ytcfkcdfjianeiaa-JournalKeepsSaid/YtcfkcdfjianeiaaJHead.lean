/- What journal.WriteHead and the reference's WriteHead compute. -/
import Derived.Test.YtcfkcdfjianeiaaJPlain
import Derived.Test.YtcfkcdfjianeiaaRely
import Derived.Test.YtcfkcdfjianeiaaFixed
import Derived.Test.YtcfkcdfjianeiaaNot
import Derived.Test.YtcfkcdfjianeiaaUnfixed
import Derived.Outline
namespace Go.Proofs.Ytcfkcdfjianeiaa
open Go.RowKit
set_option linter.unusedVariables false
set_option linter.unusedSimpArgs false
def headV (h : HeadR) : Value := .agg #[.int .u64 (h.seq : Int), .int .i64 h.used, .int .i64 h.room, .int .i64 h.pages]
theorem bytes_addJ (a b : List UInt8) : (⟨a.toArray⟩ : ByteArray) ++ ⟨b.toArray⟩ = ⟨(a ++ b).toArray⟩ := by
  apply ByteArray.ext
  simp [ByteArray.data_append]
theorem bytes_sizeJ (a : List UInt8) : (⟨a.toArray⟩ : ByteArray).size = a.length := by simp [ByteArray.size]
theorem wrap_uN (x : Int) : IntKind.u64.wrap x = (uN x : Int) := by rw [IntKind.wrap_u64, uN_wrap]
set_option maxRecDepth 100000 in
set_option maxHeartbeats 2000000 in
theorem WriteHead_c (h : HeadR) (w : World) (hs : h.seq < 18446744073709551616) : Calls Try.prog 15 #[headV h] w fun e w' => e = .returned (.string ⟨(writeL h).toArray⟩) ∧ Grow w w' := by
  unfold headV
  have hA := hid (fun w => Fixed_c h.seq 8 w hs (by decide) (by decide))
  have hB := hid (fun w => Fixed_c (uN h.used) 4 w (uN_lt _) (by decide) (by decide))
  have hC := hid (fun w => Fixed_c (uN h.room) 4 w (uN_lt _) (by decide) (by decide))
  have hD := hid (fun w => Fixed_c (uN h.pages) 4 w (uN_lt _) (by decide) (by decide))
  have hw1 := hid (wrap_uN h.used)
  have hw2 := hid (wrap_uN h.room)
  have hw3 := hid (wrap_uN h.pages)
  have hX := hid (show (⟨(leB (min (8 : Int).toNat 8) h.seq).toArray⟩ : ByteArray) ++ ⟨(leB (min (4 : Int).toNat 8) (uN h.used)).toArray⟩ ++ ⟨(leB (min (4 : Int).toNat 8) (uN h.room)).toArray⟩ ++ ⟨(leB (min (4 : Int).toNat 8) (uN h.pages)).toArray⟩ = ⟨(headL h).toArray⟩ by
    rw [bytes_addJ, bytes_addJ, bytes_addJ]; rfl)
  have zA : (⟨(leB (min (8 : Int).toNat 8) h.seq).toArray⟩ : ByteArray).size = 8 := by rw [bytes_sizeJ, leB_length]; rfl
  have zB : (⟨(leB (min (4 : Int).toNat 8) (uN h.used)).toArray⟩ : ByteArray).size = 4 := by rw [bytes_sizeJ, leB_length]; rfl
  have zC : (⟨(leB (min (4 : Int).toNat 8) (uN h.room)).toArray⟩ : ByteArray).size = 4 := by rw [bytes_sizeJ, leB_length]; rfl
  have zD : (⟨(leB (min (4 : Int).toNat 8) (uN h.pages)).toArray⟩ : ByteArray).size = 4 := by rw [bytes_sizeJ, leB_length]; rfl
  have hN := fun w => Not_c ⟨(headL h).toArray⟩ w (by rw [bytes_sizeJ, headL_length]; unfold maxLen; omega)
  have hY := hid (show (⟨(headL h).toArray⟩ : ByteArray) ++ ⟨(notL (headL h)).toArray⟩ = ⟨(writeL h).toArray⟩ by rw [bytes_addJ]; rfl)
  have zN : (⟨(notL (headL h)).toArray⟩ : ByteArray).size = 20 := by rw [bytes_sizeJ, notL_length, headL_length]
  simp only at hN
  replace hN := hid hN
  generalize (⟨(leB (min (8 : Int).toNat 8) h.seq).toArray⟩ : ByteArray) = A at *
  generalize (⟨(leB (min (4 : Int).toNat 8) (uN h.used)).toArray⟩ : ByteArray) = B at *
  generalize (⟨(leB (min (4 : Int).toNat 8) (uN h.room)).toArray⟩ : ByteArray) = C at *
  generalize (⟨(leB (min (4 : Int).toNat 8) (uN h.pages)).toArray⟩ : ByteArray) = D at *
  rw [← hX.out] at hN hY
  generalize (⟨(notL (headL h)).toArray⟩ : ByteArray) = N at *
  generalize (⟨(writeL h).toArray⟩ : ByteArray) = Z at *
  have z1 : (A ++ B).size = 12 := by rw [ByteArray.size_append', zA, zB]
  have z2 : (A ++ B ++ C).size = 16 := by rw [ByteArray.size_append', z1, zC]
  have z3 : (A ++ B ++ C ++ D).size = 20 := by rw [ByteArray.size_append', z2, zD]
  obtain ⟨seq, used, room, pages⟩ := h
  dsimp only at *
  generalize uN used = U at *
  generalize uN room = V at *
  generalize uN pages = W at *
  go_enter Try.func15, Try.ntmps15
  go_wp2_with fail
  refine wp_rely [.eq (.pointer (some ⟨w.heap.size, 0, none⟩)), .eq (.int .u64 (seq : Int)), .eq (.string A), .eq (.pointer (some ⟨w.heap.size, 1, none⟩)), .eq (.int .i64 used), .eq (.int .u64 (U : Int)), .eq (.string B), .eq (.string (A ++ B)), .eq (.pointer (some ⟨w.heap.size, 2, none⟩)), .eq (.int .i64 room), .eq (.int .u64 (V : Int)), .eq (.string C), .eq (.string (A ++ B ++ C)), .eq (.pointer (some ⟨w.heap.size, 3, none⟩)), .eq (.int .i64 pages), .eq (.int .u64 (W : Int)), .eq (.string D), .eq (.string (A ++ B ++ C ++ D)), .eq (.string (A ++ B ++ C ++ D))] (by kernel_rfl) (by kernel_rfl) (by kernel_rfl) ?_ ?_
  · simp only [relyGoals]
    refine ⟨?_, ?_, ?_, ?_, ?_, ?_, ?_, ?_, ?_, ?_, ?_, ?_, ?_, ?_, ?_, ?_, ?_, ?_, ?_, trivial⟩
    all_goals intro t w' hsz hg hdd hfr
    all_goals simp only [depsDid, Did, perAt, List.getElem?_cons_zero, List.getElem?_cons_succ, List.getD_cons_zero, List.getD_cons_succ, Per.eq, Per.row, Per.of, and_true, Array.getD_eq_getD_getElem?] at hdd
    · rw [if_pos (by rfl)]
      try simp only [perAt, List.getD_cons_zero, List.getD_cons_succ, Per.eq, Per.row, Per.of]
      have hs1 := hfr 1 (by kernel_rfl)
      simp only [Array.getD_eq_getD_getElem?] at hs1
      simp [execOp, Act.eval, hdd, hs1, relyUpon, go_sem, Grow.refl]
    · rw [if_pos (by rfl)]
      try simp only [perAt, List.getD_cons_zero, List.getD_cons_succ, Per.eq, Per.row, Per.of]
      have kc := hg.cells
      simp [execOp, Act.eval, hdd, relyUpon, go_sem, Grow.refl, kc]
    · rw [if_pos (by rfl)]
      try simp only [perAt, List.getD_cons_zero, List.getD_cons_succ, Per.eq, Per.row, Per.of]
      simp [execOp, Act.eval, hdd, relyUpon, go_sem]
      refine (hA.out w').mono fun e w'' h => ?_
      obtain ⟨h1, h2⟩ := h
      have h3 : Grow w' w'' := by first | exact h2 | (rw [← h2]; exact Grow.refl _)
      first | exact ⟨h3, h1⟩ | exact ⟨_, h1, h3, rfl⟩ | exact ⟨h1, h3⟩
    · rw [if_pos (by rfl)]
      try simp only [perAt, List.getD_cons_zero, List.getD_cons_succ, Per.eq, Per.row, Per.of]
      have hs1 := hfr 1 (by kernel_rfl)
      simp only [Array.getD_eq_getD_getElem?] at hs1
      simp [execOp, Act.eval, hdd, hs1, relyUpon, go_sem, Grow.refl]
    · rw [if_pos (by rfl)]
      try simp only [perAt, List.getD_cons_zero, List.getD_cons_succ, Per.eq, Per.row, Per.of]
      have kc := hg.cells
      simp [execOp, Act.eval, hdd, relyUpon, go_sem, Grow.refl, kc]
    · rw [if_pos (by rfl)]
      try simp only [perAt, List.getD_cons_zero, List.getD_cons_succ, Per.eq, Per.row, Per.of]
      simp [execOp, Act.eval, hdd, relyUpon, go_sem, Grow.refl, hw1.out]
    · rw [if_pos (by rfl)]
      try simp only [perAt, List.getD_cons_zero, List.getD_cons_succ, Per.eq, Per.row, Per.of]
      simp [execOp, Act.eval, hdd, relyUpon, go_sem]
      refine (hB.out w').mono fun e w'' h => ?_
      obtain ⟨h1, h2⟩ := h
      have h3 : Grow w' w'' := by first | exact h2 | (rw [← h2]; exact Grow.refl _)
      first | exact ⟨h3, h1⟩ | exact ⟨_, h1, h3, rfl⟩ | exact ⟨h1, h3⟩
    · rw [if_pos (by rfl)]
      try simp only [perAt, List.getD_cons_zero, List.getD_cons_succ, Per.eq, Per.row, Per.of]
      simp [execOp, Act.eval, hdd, relyUpon, go_sem, Grow.refl, zA, zB]
    · rw [if_pos (by rfl)]
      try simp only [perAt, List.getD_cons_zero, List.getD_cons_succ, Per.eq, Per.row, Per.of]
      have hs1 := hfr 1 (by kernel_rfl)
      simp only [Array.getD_eq_getD_getElem?] at hs1
      simp [execOp, Act.eval, hdd, hs1, relyUpon, go_sem, Grow.refl]
    · rw [if_pos (by rfl)]
      try simp only [perAt, List.getD_cons_zero, List.getD_cons_succ, Per.eq, Per.row, Per.of]
      have kc := hg.cells
      simp [execOp, Act.eval, hdd, relyUpon, go_sem, Grow.refl, kc]
    · rw [if_pos (by rfl)]
      try simp only [perAt, List.getD_cons_zero, List.getD_cons_succ, Per.eq, Per.row, Per.of]
      simp [execOp, Act.eval, hdd, relyUpon, go_sem, Grow.refl, hw2.out]
    · rw [if_pos (by rfl)]
      try simp only [perAt, List.getD_cons_zero, List.getD_cons_succ, Per.eq, Per.row, Per.of]
      simp [execOp, Act.eval, hdd, relyUpon, go_sem]
      refine (hC.out w').mono fun e w'' h => ?_
      obtain ⟨h1, h2⟩ := h
      have h3 : Grow w' w'' := by first | exact h2 | (rw [← h2]; exact Grow.refl _)
      first | exact ⟨h3, h1⟩ | exact ⟨_, h1, h3, rfl⟩ | exact ⟨h1, h3⟩
    · rw [if_pos (by rfl)]
      try simp only [perAt, List.getD_cons_zero, List.getD_cons_succ, Per.eq, Per.row, Per.of]
      simp [execOp, Act.eval, hdd, relyUpon, go_sem, Grow.refl, z1, zC]
    · rw [if_pos (by rfl)]
      try simp only [perAt, List.getD_cons_zero, List.getD_cons_succ, Per.eq, Per.row, Per.of]
      have hs1 := hfr 1 (by kernel_rfl)
      simp only [Array.getD_eq_getD_getElem?] at hs1
      simp [execOp, Act.eval, hdd, hs1, relyUpon, go_sem, Grow.refl]
    · rw [if_pos (by rfl)]
      try simp only [perAt, List.getD_cons_zero, List.getD_cons_succ, Per.eq, Per.row, Per.of]
      have kc := hg.cells
      simp [execOp, Act.eval, hdd, relyUpon, go_sem, Grow.refl, kc]
    · rw [if_pos (by rfl)]
      try simp only [perAt, List.getD_cons_zero, List.getD_cons_succ, Per.eq, Per.row, Per.of]
      simp [execOp, Act.eval, hdd, relyUpon, go_sem, Grow.refl, hw3.out]
    · rw [if_pos (by rfl)]
      try simp only [perAt, List.getD_cons_zero, List.getD_cons_succ, Per.eq, Per.row, Per.of]
      simp [execOp, Act.eval, hdd, relyUpon, go_sem]
      refine (hD.out w').mono fun e w'' h => ?_
      obtain ⟨h1, h2⟩ := h
      have h3 : Grow w' w'' := by first | exact h2 | (rw [← h2]; exact Grow.refl _)
      first | exact ⟨h3, h1⟩ | exact ⟨_, h1, h3, rfl⟩ | exact ⟨h1, h3⟩
    · rw [if_pos (by rfl)]
      try simp only [perAt, List.getD_cons_zero, List.getD_cons_succ, Per.eq, Per.row, Per.of]
      simp [execOp, Act.eval, hdd, relyUpon, go_sem, Grow.refl, z2, zD]
    · rw [if_pos (by rfl)]
      try simp only [perAt, List.getD_cons_zero, List.getD_cons_succ, Per.eq, Per.row, Per.of]
      simp [execOp, Act.eval, hdd, relyUpon, go_sem, Grow.refl]
  intro wz hgz
  simp only [relyEnd, List.headD_cons, List.tail_cons, Per.eq, Per.row, Per.of]
  rintro _ rfl _ rfl _ rfl _ rfl _ rfl _ rfl _ rfl _ rfl _ rfl _ rfl _ rfl _ rfl _ rfl _ rfl _ rfl _ rfl _ rfl _ rfl _ rfl
  go_simp
  go_wp2_with fail
  refine (hN.out _).mono ?_
  rintro e w2 ⟨rfl, b2⟩
  go_wp2_with fail
  go_ret
  exact ⟨by rw [← hY.out]; rfl, Grow.trans (Grow.alloc _ _) (Grow.trans hgz b2)⟩
set_option maxRecDepth 100000 in
set_option maxHeartbeats 2000000 in
theorem RWriteHead_c (h : HeadR) (w : World) (hs : h.seq < 18446744073709551616) : Calls Try.prog 17 #[headV h] w fun e w' => e = .returned (.string ⟨(writeL h).toArray⟩) ∧ Grow w w' := by
  unfold headV
  have hA := hid (fun w => RFixed_c h.seq 8 w hs (by decide) (by decide))
  have hB := hid (fun w => RFixed_c (uN h.used) 4 w (uN_lt _) (by decide) (by decide))
  have hC := hid (fun w => RFixed_c (uN h.room) 4 w (uN_lt _) (by decide) (by decide))
  have hD := hid (fun w => RFixed_c (uN h.pages) 4 w (uN_lt _) (by decide) (by decide))
  have hw1 := hid (wrap_uN h.used)
  have hw2 := hid (wrap_uN h.room)
  have hw3 := hid (wrap_uN h.pages)
  have hX := hid (show (⟨(leB (min (8 : Int).toNat 8) h.seq).toArray⟩ : ByteArray) ++ ⟨(leB (min (4 : Int).toNat 8) (uN h.used)).toArray⟩ ++ ⟨(leB (min (4 : Int).toNat 8) (uN h.room)).toArray⟩ ++ ⟨(leB (min (4 : Int).toNat 8) (uN h.pages)).toArray⟩ = ⟨(headL h).toArray⟩ by
    rw [bytes_addJ, bytes_addJ, bytes_addJ]; rfl)
  have zA : (⟨(leB (min (8 : Int).toNat 8) h.seq).toArray⟩ : ByteArray).size = 8 := by rw [bytes_sizeJ, leB_length]; rfl
  have zB : (⟨(leB (min (4 : Int).toNat 8) (uN h.used)).toArray⟩ : ByteArray).size = 4 := by rw [bytes_sizeJ, leB_length]; rfl
  have zC : (⟨(leB (min (4 : Int).toNat 8) (uN h.room)).toArray⟩ : ByteArray).size = 4 := by rw [bytes_sizeJ, leB_length]; rfl
  have zD : (⟨(leB (min (4 : Int).toNat 8) (uN h.pages)).toArray⟩ : ByteArray).size = 4 := by rw [bytes_sizeJ, leB_length]; rfl
  have hN := fun w => RNot_c ⟨(headL h).toArray⟩ w (by rw [bytes_sizeJ, headL_length]; omega)
  have hY := hid (show (⟨(headL h).toArray⟩ : ByteArray) ++ ⟨(notL (headL h)).toArray⟩ = ⟨(writeL h).toArray⟩ by rw [bytes_addJ]; rfl)
  have zN : (⟨(notL (headL h)).toArray⟩ : ByteArray).size = 20 := by rw [bytes_sizeJ, notL_length, headL_length]
  simp only at hN
  replace hN := hid hN
  generalize (⟨(leB (min (8 : Int).toNat 8) h.seq).toArray⟩ : ByteArray) = A at *
  generalize (⟨(leB (min (4 : Int).toNat 8) (uN h.used)).toArray⟩ : ByteArray) = B at *
  generalize (⟨(leB (min (4 : Int).toNat 8) (uN h.room)).toArray⟩ : ByteArray) = C at *
  generalize (⟨(leB (min (4 : Int).toNat 8) (uN h.pages)).toArray⟩ : ByteArray) = D at *
  rw [← hX.out] at hN hY
  generalize (⟨(notL (headL h)).toArray⟩ : ByteArray) = N at *
  generalize (⟨(writeL h).toArray⟩ : ByteArray) = Z at *
  have z1 : (A ++ B).size = 12 := by rw [ByteArray.size_append', zA, zB]
  have z2 : (A ++ B ++ C).size = 16 := by rw [ByteArray.size_append', z1, zC]
  have z3 : (A ++ B ++ C ++ D).size = 20 := by rw [ByteArray.size_append', z2, zD]
  obtain ⟨seq, used, room, pages⟩ := h
  dsimp only at *
  generalize uN used = U at *
  generalize uN room = V at *
  generalize uN pages = W at *
  go_enter Try.func17, Try.ntmps17
  go_wp2_with fail
  refine wp_rely [.eq (.pointer (some ⟨w.heap.size, 0, none⟩)), .eq (.int .u64 (seq : Int)), .eq (.string A), .eq (.pointer (some ⟨w.heap.size, 1, none⟩)), .eq (.int .i64 used), .eq (.int .u64 (U : Int)), .eq (.string B), .eq (.string (A ++ B)), .eq (.pointer (some ⟨w.heap.size, 2, none⟩)), .eq (.int .i64 room), .eq (.int .u64 (V : Int)), .eq (.string C), .eq (.string (A ++ B ++ C)), .eq (.pointer (some ⟨w.heap.size, 3, none⟩)), .eq (.int .i64 pages), .eq (.int .u64 (W : Int)), .eq (.string D), .eq (.string (A ++ B ++ C ++ D)), .eq (.string (A ++ B ++ C ++ D))] (by kernel_rfl) (by kernel_rfl) (by kernel_rfl) ?_ ?_
  · simp only [relyGoals]
    refine ⟨?_, ?_, ?_, ?_, ?_, ?_, ?_, ?_, ?_, ?_, ?_, ?_, ?_, ?_, ?_, ?_, ?_, ?_, ?_, trivial⟩
    all_goals intro t w' hsz hg hdd hfr
    all_goals simp only [depsDid, Did, perAt, List.getElem?_cons_zero, List.getElem?_cons_succ, List.getD_cons_zero, List.getD_cons_succ, Per.eq, Per.row, Per.of, and_true, Array.getD_eq_getD_getElem?] at hdd
    · rw [if_pos (by rfl)]
      try simp only [perAt, List.getD_cons_zero, List.getD_cons_succ, Per.eq, Per.row, Per.of]
      have hs1 := hfr 1 (by kernel_rfl)
      simp only [Array.getD_eq_getD_getElem?] at hs1
      simp [execOp, Act.eval, hdd, hs1, relyUpon, go_sem, Grow.refl]
    · rw [if_pos (by rfl)]
      try simp only [perAt, List.getD_cons_zero, List.getD_cons_succ, Per.eq, Per.row, Per.of]
      have kc := hg.cells
      simp [execOp, Act.eval, hdd, relyUpon, go_sem, Grow.refl, kc]
    · rw [if_pos (by rfl)]
      try simp only [perAt, List.getD_cons_zero, List.getD_cons_succ, Per.eq, Per.row, Per.of]
      simp [execOp, Act.eval, hdd, relyUpon, go_sem]
      refine (hA.out w').mono fun e w'' h => ?_
      obtain ⟨h1, h2⟩ := h
      have h3 : Grow w' w'' := by first | exact h2 | (rw [← h2]; exact Grow.refl _)
      first | exact ⟨h3, h1⟩ | exact ⟨_, h1, h3, rfl⟩ | exact ⟨h1, h3⟩
    · rw [if_pos (by rfl)]
      try simp only [perAt, List.getD_cons_zero, List.getD_cons_succ, Per.eq, Per.row, Per.of]
      have hs1 := hfr 1 (by kernel_rfl)
      simp only [Array.getD_eq_getD_getElem?] at hs1
      simp [execOp, Act.eval, hdd, hs1, relyUpon, go_sem, Grow.refl]
    · rw [if_pos (by rfl)]
      try simp only [perAt, List.getD_cons_zero, List.getD_cons_succ, Per.eq, Per.row, Per.of]
      have kc := hg.cells
      simp [execOp, Act.eval, hdd, relyUpon, go_sem, Grow.refl, kc]
    · rw [if_pos (by rfl)]
      try simp only [perAt, List.getD_cons_zero, List.getD_cons_succ, Per.eq, Per.row, Per.of]
      simp [execOp, Act.eval, hdd, relyUpon, go_sem, Grow.refl, hw1.out]
    · rw [if_pos (by rfl)]
      try simp only [perAt, List.getD_cons_zero, List.getD_cons_succ, Per.eq, Per.row, Per.of]
      simp [execOp, Act.eval, hdd, relyUpon, go_sem]
      refine (hB.out w').mono fun e w'' h => ?_
      obtain ⟨h1, h2⟩ := h
      have h3 : Grow w' w'' := by first | exact h2 | (rw [← h2]; exact Grow.refl _)
      first | exact ⟨h3, h1⟩ | exact ⟨_, h1, h3, rfl⟩ | exact ⟨h1, h3⟩
    · rw [if_pos (by rfl)]
      try simp only [perAt, List.getD_cons_zero, List.getD_cons_succ, Per.eq, Per.row, Per.of]
      simp [execOp, Act.eval, hdd, relyUpon, go_sem, Grow.refl, zA, zB]
    · rw [if_pos (by rfl)]
      try simp only [perAt, List.getD_cons_zero, List.getD_cons_succ, Per.eq, Per.row, Per.of]
      have hs1 := hfr 1 (by kernel_rfl)
      simp only [Array.getD_eq_getD_getElem?] at hs1
      simp [execOp, Act.eval, hdd, hs1, relyUpon, go_sem, Grow.refl]
    · rw [if_pos (by rfl)]
      try simp only [perAt, List.getD_cons_zero, List.getD_cons_succ, Per.eq, Per.row, Per.of]
      have kc := hg.cells
      simp [execOp, Act.eval, hdd, relyUpon, go_sem, Grow.refl, kc]
    · rw [if_pos (by rfl)]
      try simp only [perAt, List.getD_cons_zero, List.getD_cons_succ, Per.eq, Per.row, Per.of]
      simp [execOp, Act.eval, hdd, relyUpon, go_sem, Grow.refl, hw2.out]
    · rw [if_pos (by rfl)]
      try simp only [perAt, List.getD_cons_zero, List.getD_cons_succ, Per.eq, Per.row, Per.of]
      simp [execOp, Act.eval, hdd, relyUpon, go_sem]
      refine (hC.out w').mono fun e w'' h => ?_
      obtain ⟨h1, h2⟩ := h
      have h3 : Grow w' w'' := by first | exact h2 | (rw [← h2]; exact Grow.refl _)
      first | exact ⟨h3, h1⟩ | exact ⟨_, h1, h3, rfl⟩ | exact ⟨h1, h3⟩
    · rw [if_pos (by rfl)]
      try simp only [perAt, List.getD_cons_zero, List.getD_cons_succ, Per.eq, Per.row, Per.of]
      simp [execOp, Act.eval, hdd, relyUpon, go_sem, Grow.refl, z1, zC]
    · rw [if_pos (by rfl)]
      try simp only [perAt, List.getD_cons_zero, List.getD_cons_succ, Per.eq, Per.row, Per.of]
      have hs1 := hfr 1 (by kernel_rfl)
      simp only [Array.getD_eq_getD_getElem?] at hs1
      simp [execOp, Act.eval, hdd, hs1, relyUpon, go_sem, Grow.refl]
    · rw [if_pos (by rfl)]
      try simp only [perAt, List.getD_cons_zero, List.getD_cons_succ, Per.eq, Per.row, Per.of]
      have kc := hg.cells
      simp [execOp, Act.eval, hdd, relyUpon, go_sem, Grow.refl, kc]
    · rw [if_pos (by rfl)]
      try simp only [perAt, List.getD_cons_zero, List.getD_cons_succ, Per.eq, Per.row, Per.of]
      simp [execOp, Act.eval, hdd, relyUpon, go_sem, Grow.refl, hw3.out]
    · rw [if_pos (by rfl)]
      try simp only [perAt, List.getD_cons_zero, List.getD_cons_succ, Per.eq, Per.row, Per.of]
      simp [execOp, Act.eval, hdd, relyUpon, go_sem]
      refine (hD.out w').mono fun e w'' h => ?_
      obtain ⟨h1, h2⟩ := h
      have h3 : Grow w' w'' := by first | exact h2 | (rw [← h2]; exact Grow.refl _)
      first | exact ⟨h3, h1⟩ | exact ⟨_, h1, h3, rfl⟩ | exact ⟨h1, h3⟩
    · rw [if_pos (by rfl)]
      try simp only [perAt, List.getD_cons_zero, List.getD_cons_succ, Per.eq, Per.row, Per.of]
      simp [execOp, Act.eval, hdd, relyUpon, go_sem, Grow.refl, z2, zD]
    · rw [if_pos (by rfl)]
      try simp only [perAt, List.getD_cons_zero, List.getD_cons_succ, Per.eq, Per.row, Per.of]
      simp [execOp, Act.eval, hdd, relyUpon, go_sem, Grow.refl]
  intro wz hgz
  simp only [relyEnd, List.headD_cons, List.tail_cons, Per.eq, Per.row, Per.of]
  rintro _ rfl _ rfl _ rfl _ rfl _ rfl _ rfl _ rfl _ rfl _ rfl _ rfl _ rfl _ rfl _ rfl _ rfl _ rfl _ rfl _ rfl _ rfl _ rfl
  go_simp
  go_wp2_with fail
  refine (hN.out _).mono ?_
  rintro e w2 ⟨rfl, b2⟩
  go_wp2_with fail
  go_ret
  exact ⟨by rw [← hY.out]; rfl, Grow.trans (Grow.alloc _ _) (Grow.trans hgz b2)⟩
end Go.Proofs.Ytcfkcdfjianeiaa
