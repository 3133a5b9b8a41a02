/- What every operation does with every state, and its answer: the model's is the reference's. -/
import Derived.Test.YtookcollmijjkaaMAwake
import Derived.Test.YtookcollmijjkaaMRStep
import Derived.Test.YtookcollmijjkaaMRising
import Derived.Test.YtookcollmijjkaaMFirst
namespace Go.Proofs.Ytookcollmijjkaa
open Go.RowKit
set_option linter.unusedVariables false
set_option linter.unusedSimpArgs false
theorem Grow.of {a b : World} (h : Below a.heap.size a b) : Grow a b := h
set_option maxRecDepth 100000 in
set_option maxHeartbeats 4000000 in
theorem Does_5 (id proc obj meth arg sec : Int) (done : Bool) (res inv ret : Int) (xs : List Int) (v : Value) (w : World) (hv : Ints w v xs) (hr : xs.Pairwise (· < ·)) (L : List Int) (N : Int) (B : Bool)
    (hA : ∀ w, Ints w v xs → Calls Try.prog 10 #[v, .agg #[.int .i64 id, .int .i64 proc, .int .i64 obj, .int .i64 5, .int .i64 meth, .int .i64 arg, .int .i64 sec, .bool done, .int .i64 res, .int .i64 inv, .int .i64 ret]] w (DoPost w.heap.size (L, N, B) w))
    (hB : ∀ w, Ints w v xs → Calls Try.prog 12 #[v, .agg #[.int .i64 id, .int .i64 proc, .int .i64 obj, .int .i64 5, .int .i64 meth, .int .i64 arg, .int .i64 sec, .bool done, .int .i64 res, .int .i64 inv, .int .i64 ret]] w (DonePost (L, N, B) w)) :
    Calls Try.prog 4 #[v, .agg #[.int .i64 id, .int .i64 proc, .int .i64 obj, .int .i64 5, .int .i64 meth, .int .i64 arg, .int .i64 sec, .bool done, .int .i64 res, .int .i64 inv, .int .i64 ret]] w fun e w' => e = .returned (.bool true) ∧ Grow w w' := by
  have HRI := hid (fun w h => Rising_c xs v w h true (by simpa using hr))
  have K1 : ¬ (5 : Int) = 1 := by omega
  have K2 : ¬ (5 : Int) = 2 := by omega
  clear hr
  have HI := hid hv
  have HA := hid hA
  have HB := hid hB
  have HW := hid (fun w => awake_c w)
  have HBOX0 := hid (heap_new w (.cells #[.int .i64 id, .int .i64 proc, .int .i64 obj, .int .i64 5, .int .i64 meth, .int .i64 arg, .int .i64 sec, .bool done, .int .i64 res, .int .i64 inv, .int .i64 ret] 27))
  have G1 := hid (Grow.alloc w (.cells #[.int .i64 id, .int .i64 proc, .int .i64 obj, .int .i64 5, .int .i64 meth, .int .i64 arg, .int .i64 sec, .bool done, .int .i64 res, .int .i64 inv, .int .i64 ret] 27))
  clear hv hA hB
  go_enter Try.func4, Try.ntmps4
  go_wp2_with fail
  refine (HRI.out _ (HI.out.grow G1.out)).mono ?_
  rintro e w2 ⟨rfl, g2⟩
  have G2 := Grow.trans G1.out g2
  have hb2 := g2.heap HBOX0.out
  have c0 := (heap_cell hb2 0).trans (show _ = some (.int .i64 id) from rfl)
  have c1 := (heap_cell hb2 1).trans (show _ = some (.int .i64 proc) from rfl)
  have c2 := (heap_cell hb2 2).trans (show _ = some (.int .i64 obj) from rfl)
  have c3 := (heap_cell hb2 3).trans (show _ = some (.int .i64 5) from rfl)
  have c4 := (heap_cell hb2 4).trans (show _ = some (.int .i64 meth) from rfl)
  have c5 := (heap_cell hb2 5).trans (show _ = some (.int .i64 arg) from rfl)
  have c6 := (heap_cell hb2 6).trans (show _ = some (.int .i64 sec) from rfl)
  have c7 := (heap_cell hb2 7).trans (show _ = some (.bool done) from rfl)
  have c8 := (heap_cell hb2 8).trans (show _ = some (.int .i64 res) from rfl)
  have c9 := (heap_cell hb2 9).trans (show _ = some (.int .i64 inv) from rfl)
  have c10 := (heap_cell hb2 10).trans (show _ = some (.int .i64 ret) from rfl)
  have HBOX := hid hb2
  clear hb2 g2 HBOX0
  go_wp2_with fail
  clear c0 c1 c2 c3 c4 c5 c6 c7 c8 c9 c10
  refine (HA.out _ (HI.out.grow G2)).mono ?_
  rintro e w4 ⟨x, rfl, ix, b4⟩
  replace b4 := Grow.of b4
  obtain ⟨px, cx, rfl, -⟩ := ix.at
  have Ix := hid ix
  have hb4 := b4.heap (HBOX.out)
  have c0 := (heap_cell hb4 0).trans (show _ = some (.int .i64 id) from rfl)
  have c1 := (heap_cell hb4 1).trans (show _ = some (.int .i64 proc) from rfl)
  have c2 := (heap_cell hb4 2).trans (show _ = some (.int .i64 obj) from rfl)
  have c3 := (heap_cell hb4 3).trans (show _ = some (.int .i64 5) from rfl)
  have c4 := (heap_cell hb4 4).trans (show _ = some (.int .i64 meth) from rfl)
  have c5 := (heap_cell hb4 5).trans (show _ = some (.int .i64 arg) from rfl)
  have c6 := (heap_cell hb4 6).trans (show _ = some (.int .i64 sec) from rfl)
  have c7 := (heap_cell hb4 7).trans (show _ = some (.bool done) from rfl)
  have c8 := (heap_cell hb4 8).trans (show _ = some (.int .i64 res) from rfl)
  have c9 := (heap_cell hb4 9).trans (show _ = some (.int .i64 inv) from rfl)
  have c10 := (heap_cell hb4 10).trans (show _ = some (.int .i64 ret) from rfl)
  have HB4 := hid hb4
  have G4 := hid (Grow.trans G2 b4)
  clear ix hb4 b4 G2
  go_wp2_with fail
  refine (HB.out _ (HI.out.grow G4.out)).mono ?_
  rintro e w5 ⟨y, rfl, iy, b5⟩
  obtain ⟨py, cy, rfl, -⟩ := iy.at
  have Iy := hid iy
  have hb5 := b5.heap HB4.out
  have Ix5 := hid (Ix.out.grow b5)
  have G5 := hid (Grow.trans G4.out b5)
  clear c0 c1 c2 c3 c4 c5 c6 c7 c8 c9 c10 iy b5 Ix HB4 G4
  have HB5 := hid hb5
  clear hb5
  go_wp2_with fail
  have HW0 := hid (heap_new w5 (.cells #[.slice py L.length cy, .int .i64 N, .bool B] 30))
  have GW := hid (Grow.alloc w5 (.cells #[.slice py L.length cy, .int .i64 N, .bool B] 30))
  have hsz5 := hid (show (w5.alloc (.cells #[.slice py L.length cy, .int .i64 N, .bool B] 30)).heap.size = w5.heap.size + 1 from by simp)
  generalize w5.alloc (.cells #[.slice py L.length cy, .int .i64 N, .bool B] 30) = W at *
  generalize w5.heap.size = D at *
  have p0 : W.cell? ⟨D, 0, none⟩ = some (.slice py L.length cy) := by rw [heap_cell HW0.out]; rfl
  have p1 : W.cell? ⟨D, 1, none⟩ = some (.int .i64 N) := by rw [heap_cell HW0.out]; rfl
  have p2 : W.cell? ⟨D, 2, none⟩ = some (.bool B) := by rw [heap_cell HW0.out]; rfl
  have hbW := GW.out.heap HB5.out
  have c3 : W.cell? ⟨w.heap.size, 3, none⟩ = some (.int .i64 5) := by rw [heap_cell hbW]; rfl
  have l1 := heap_lt HW0.out
  have l2 := heap_lt hbW
  have HJ := hid (fun (w' : World) (hg : Grow W w') => RInts_c L (.slice px L.length cx) (.slice py L.length cy) w' (Ix5.out.grow (Grow.trans GW.out hg)) (Iy.out.grow (Grow.trans GW.out hg)))
  have GF := hid (Grow.trans G5.out GW.out)
  clear HW0 GW hsz5 hbW HB5 Ix5 Iy G5
  have HF1 := hid (fun (w : World) => FirstNil 5 w K1 K2)
  have HF2 := hid (fun (w : World) => RFirstNil 5 w K1 K2)
  have HJN := hid (fun (w : World) => RInts_c [] (.slice none 0 0) (.slice none 0 0) w (Ints.nil w) (Ints.nil w))
  clear HA HB HI HBOX
  refine wp_rely [.eq (.slice px L.length cx), .eq (.pointer (some ⟨D, 0, none⟩)), .eq (.slice py L.length cy), .eq (.bool true), .eq (.bool true), .eq (.int .i64 N), .eq (.pointer (some ⟨D, 1, none⟩)), .eq (.int .i64 N), .eq (.bool true), .eq (.bool true), .eq (.bool true), .eq (.bool B), .eq (.pointer (some ⟨D, 2, none⟩)), .eq (.bool B), .eq (.bool true), .eq (.bool true), .eq (.bool true), .eq (.pointer (some ⟨w.heap.size, 3, none⟩)), .eq (.int .i64 5), .eq (.slice none 0 0), .eq (.pointer (some ⟨w.heap.size, 3, none⟩)), .eq (.int .i64 5), .eq (.slice none 0 0), .eq (.bool true), .eq (.bool true), .eq (.bool true), .eq (.bool true), .eq (.bool true), .eq (.bool true)] (by kernel_rfl) (by kernel_rfl) (by kernel_rfl) ?_ ?_
  · simp only [relyGoals]
    refine ⟨?_, ?_, ?_, ?_, ?_, ?_, ?_, ?_, ?_, ?_, ?_, ?_, ?_, ?_, ?_, ?_, ?_, ?_, ?_, ?_, ?_, ?_, ?_, ?_, ?_, ?_, ?_, ?_, ?_, trivial⟩
    all_goals intro t w' hsz hg hdd hfr
    all_goals simp only [depsDid, Did, perAt, List.getElem?_cons_zero, List.getElem?_cons_succ, List.getD_cons_zero, List.getD_cons_succ, Per.eq, Per.row, Per.of, and_true, Array.getD_eq_getD_getElem?] at hdd
    · rw [if_pos (by rfl)]
      try simp only [perAt, List.getD_cons_zero, List.getD_cons_succ, Per.eq, Per.row, Per.of]
      have hs5 := hfr 5 (by kernel_rfl)
      simp only [Array.getD_eq_getD_getElem?] at hs5
      simp [execOp, Act.eval, hdd, hs5, relyUpon, go_sem, Grow.refl]
    · rw [if_pos (by rfl)]
      try simp only [perAt, List.getD_cons_zero, List.getD_cons_succ, Per.eq, Per.row, Per.of]
      have hs8 := hfr 8 (by kernel_rfl)
      simp only [Array.getD_eq_getD_getElem?] at hs8
      simp [execOp, Act.eval, hdd, hs8, relyUpon, go_sem, Grow.refl]
    · rw [if_pos (by rfl)]
      try simp only [perAt, List.getD_cons_zero, List.getD_cons_succ, Per.eq, Per.row, Per.of]
      have kc := hg.cells
      simp [execOp, Act.eval, hdd, relyUpon, go_sem, Grow.refl, kc, p0, p1, p2, c3, l1, l2]
    · rw [if_pos (by rfl)]
      try simp only [perAt, List.getD_cons_zero, List.getD_cons_succ, Per.eq, Per.row, Per.of]
      simp [execOp, Act.eval, hdd, relyUpon, go_sem]
      refine (HJ.out w' hg).mono fun e w'' h => ?_
      obtain ⟨h1, h2⟩ := h
      have h3 : Grow w' w'' := by first | exact h2 | (rw [← h2]; exact Grow.refl _)
      first | exact ⟨h3, h1⟩ | exact ⟨_, h1, h3, rfl⟩ | exact ⟨h1, h3⟩
    · rw [if_pos (by rfl)]
      try simp only [perAt, List.getD_cons_zero, List.getD_cons_succ, Per.eq, Per.row, Per.of]
      simp [execOp, Act.eval, hdd, relyUpon, go_sem, Grow.refl]
    · rw [if_pos (by simp only [Region.wanted]; rw [yielded_of (d := 32) (b := true) rfl (by simp only [hdd])]; rfl)]
      try simp only [perAt, List.getD_cons_zero, List.getD_cons_succ, Per.eq, Per.row, Per.of]
      have hs6 := hfr 6 (by kernel_rfl)
      simp only [Array.getD_eq_getD_getElem?] at hs6
      simp [execOp, Act.eval, hdd, hs6, relyUpon, go_sem, Grow.refl]
    · rw [if_pos (by simp only [Region.wanted]; rw [yielded_of (d := 32) (b := true) rfl (by simp only [hdd])]; rfl)]
      try simp only [perAt, List.getD_cons_zero, List.getD_cons_succ, Per.eq, Per.row, Per.of]
      have hs8 := hfr 8 (by kernel_rfl)
      simp only [Array.getD_eq_getD_getElem?] at hs8
      simp [execOp, Act.eval, hdd, hs8, relyUpon, go_sem, Grow.refl]
    · rw [if_pos (by simp only [Region.wanted]; rw [yielded_of (d := 32) (b := true) rfl (by simp only [hdd])]; rfl)]
      try simp only [perAt, List.getD_cons_zero, List.getD_cons_succ, Per.eq, Per.row, Per.of]
      have kc := hg.cells
      simp [execOp, Act.eval, hdd, relyUpon, go_sem, Grow.refl, kc, p0, p1, p2, c3, l1, l2]
    · rw [if_pos (by simp only [Region.wanted]; rw [yielded_of (d := 32) (b := true) rfl (by simp only [hdd])]; rfl)]
      try simp only [perAt, List.getD_cons_zero, List.getD_cons_succ, Per.eq, Per.row, Per.of]
      simp [execOp, Act.eval, hdd, relyUpon, go_sem, Grow.refl]
    · rw [if_pos (by rfl)]
      try simp only [perAt, List.getD_cons_zero, List.getD_cons_succ, Per.eq, Per.row, Per.of]
      simp [execOp, Act.eval, hdd, relyUpon, go_sem, Grow.refl]
    · rw [if_pos (by rfl)]
      try simp only [perAt, List.getD_cons_zero, List.getD_cons_succ, Per.eq, Per.row, Per.of]
      simp [execOp, Act.eval, hdd, relyUpon, go_sem, Grow.refl]
    · rw [if_pos (by simp only [Region.wanted]; rw [yielded_of (d := 38) (b := true) rfl (by simp only [hdd])]; rfl)]
      try simp only [perAt, List.getD_cons_zero, List.getD_cons_succ, Per.eq, Per.row, Per.of]
      have hs7 := hfr 7 (by kernel_rfl)
      simp only [Array.getD_eq_getD_getElem?] at hs7
      simp [execOp, Act.eval, hdd, hs7, relyUpon, go_sem, Grow.refl]
    · rw [if_pos (by simp only [Region.wanted]; rw [yielded_of (d := 38) (b := true) rfl (by simp only [hdd])]; rfl)]
      try simp only [perAt, List.getD_cons_zero, List.getD_cons_succ, Per.eq, Per.row, Per.of]
      have hs8 := hfr 8 (by kernel_rfl)
      simp only [Array.getD_eq_getD_getElem?] at hs8
      simp [execOp, Act.eval, hdd, hs8, relyUpon, go_sem, Grow.refl]
    · rw [if_pos (by simp only [Region.wanted]; rw [yielded_of (d := 38) (b := true) rfl (by simp only [hdd])]; rfl)]
      try simp only [perAt, List.getD_cons_zero, List.getD_cons_succ, Per.eq, Per.row, Per.of]
      have kc := hg.cells
      simp [execOp, Act.eval, hdd, relyUpon, go_sem, Grow.refl, kc, p0, p1, p2, c3, l1, l2]
    · rw [if_pos (by simp only [Region.wanted]; rw [yielded_of (d := 38) (b := true) rfl (by simp only [hdd])]; rfl)]
      try simp only [perAt, List.getD_cons_zero, List.getD_cons_succ, Per.eq, Per.row, Per.of]
      simp [execOp, Act.eval, hdd, relyUpon, go_sem, Grow.refl]
    · rw [if_pos (by rfl)]
      try simp only [perAt, List.getD_cons_zero, List.getD_cons_succ, Per.eq, Per.row, Per.of]
      simp [execOp, Act.eval, hdd, relyUpon, go_sem, Grow.refl]
    · rw [if_pos (by rfl)]
      try simp only [perAt, List.getD_cons_zero, List.getD_cons_succ, Per.eq, Per.row, Per.of]
      simp [execOp, Act.eval, hdd, relyUpon, go_sem, Grow.refl]
    · rw [if_pos (by simp only [Region.wanted]; rw [yielded_of (d := 44) (b := true) rfl (by simp only [hdd])]; rfl)]
      try simp only [perAt, List.getD_cons_zero, List.getD_cons_succ, Per.eq, Per.row, Per.of]
      have hs3 := hfr 3 (by kernel_rfl)
      simp only [Array.getD_eq_getD_getElem?] at hs3
      simp [execOp, Act.eval, hdd, hs3, relyUpon, go_sem, Grow.refl]
    · rw [if_pos (by simp only [Region.wanted]; rw [yielded_of (d := 44) (b := true) rfl (by simp only [hdd])]; rfl)]
      try simp only [perAt, List.getD_cons_zero, List.getD_cons_succ, Per.eq, Per.row, Per.of]
      have kc := hg.cells
      simp [execOp, Act.eval, hdd, relyUpon, go_sem, Grow.refl, kc, p0, p1, p2, c3, l1, l2]
    · rw [if_pos (by simp only [Region.wanted]; rw [yielded_of (d := 44) (b := true) rfl (by simp only [hdd])]; rfl)]
      try simp only [perAt, List.getD_cons_zero, List.getD_cons_succ, Per.eq, Per.row, Per.of]
      simp [execOp, Act.eval, hdd, relyUpon, go_sem]
      refine (HF1.out w').mono fun e w'' h => ?_
      obtain ⟨h1, h2⟩ := h
      have h3 : Grow w' w'' := by first | exact h2 | (rw [← h2]; exact Grow.refl _)
      first | exact ⟨h3, h1⟩ | exact ⟨_, h1, h3, rfl⟩ | exact ⟨h1, h3⟩
    · rw [if_pos (by simp only [Region.wanted]; rw [yielded_of (d := 44) (b := true) rfl (by simp only [hdd])]; rfl)]
      try simp only [perAt, List.getD_cons_zero, List.getD_cons_succ, Per.eq, Per.row, Per.of]
      have hs3 := hfr 3 (by kernel_rfl)
      simp only [Array.getD_eq_getD_getElem?] at hs3
      simp [execOp, Act.eval, hdd, hs3, relyUpon, go_sem, Grow.refl]
    · rw [if_pos (by simp only [Region.wanted]; rw [yielded_of (d := 44) (b := true) rfl (by simp only [hdd])]; rfl)]
      try simp only [perAt, List.getD_cons_zero, List.getD_cons_succ, Per.eq, Per.row, Per.of]
      have kc := hg.cells
      simp [execOp, Act.eval, hdd, relyUpon, go_sem, Grow.refl, kc, p0, p1, p2, c3, l1, l2]
    · rw [if_pos (by simp only [Region.wanted]; rw [yielded_of (d := 44) (b := true) rfl (by simp only [hdd])]; rfl)]
      try simp only [perAt, List.getD_cons_zero, List.getD_cons_succ, Per.eq, Per.row, Per.of]
      simp [execOp, Act.eval, hdd, relyUpon, go_sem]
      refine (HF2.out w').mono fun e w'' h => ?_
      obtain ⟨h1, h2⟩ := h
      have h3 : Grow w' w'' := by first | exact h2 | (rw [← h2]; exact Grow.refl _)
      first | exact ⟨h3, h1⟩ | exact ⟨_, h1, h3, rfl⟩ | exact ⟨h1, h3⟩
    · rw [if_pos (by simp only [Region.wanted]; rw [yielded_of (d := 44) (b := true) rfl (by simp only [hdd])]; rfl)]
      try simp only [perAt, List.getD_cons_zero, List.getD_cons_succ, Per.eq, Per.row, Per.of]
      simp [execOp, Act.eval, hdd, relyUpon, go_sem]
      refine (HJN.out w').mono fun e w'' h => ?_
      obtain ⟨h1, h2⟩ := h
      have h3 : Grow w' w'' := by first | exact h2 | (rw [← h2]; exact Grow.refl _)
      first | exact ⟨h3, h1⟩ | exact ⟨_, h1, h3, rfl⟩ | exact ⟨h1, h3⟩
    · rw [if_pos (by rfl)]
      try simp only [perAt, List.getD_cons_zero, List.getD_cons_succ, Per.eq, Per.row, Per.of]
      simp [execOp, Act.eval, hdd, relyUpon, go_sem, Grow.refl]
    · rw [if_pos (by rfl)]
      try simp only [perAt, List.getD_cons_zero, List.getD_cons_succ, Per.eq, Per.row, Per.of]
      simp [execOp, Act.eval, hdd, relyUpon, go_sem, Grow.refl]
    · rw [if_pos (by simp only [Region.wanted]; rw [yielded_of (d := 53) (b := true) rfl (by simp only [hdd])]; rfl)]
      try simp only [perAt, List.getD_cons_zero, List.getD_cons_succ, Per.eq, Per.row, Per.of]
      simp [execOp, Act.eval, hdd, relyUpon, go_sem]
      refine (HW.out w').mono fun e w'' h => ?_
      obtain ⟨h1, h2⟩ := h
      have h3 : Grow w' w'' := by first | exact h2 | (rw [← h2]; exact Grow.refl _)
      first | exact ⟨h3, h1⟩ | exact ⟨_, h1, h3, rfl⟩ | exact ⟨h1, h3⟩
    · rw [if_pos (by rfl)]
      try simp only [perAt, List.getD_cons_zero, List.getD_cons_succ, Per.eq, Per.row, Per.of]
      simp [execOp, Act.eval, hdd, relyUpon, go_sem, Grow.refl]
    · rw [if_pos (by rfl)]
      try simp only [perAt, List.getD_cons_zero, List.getD_cons_succ, Per.eq, Per.row, Per.of]
      simp [execOp, Act.eval, hdd, relyUpon, go_sem, Grow.refl]
  intro wz hgz
  simp only [relyEnd, List.headD_cons, List.tail_cons, Per.eq, Per.row, Per.of]
  rintro _ rfl _ rfl _ rfl _ rfl _ rfl _ rfl _ rfl _ rfl _ rfl _ rfl _ rfl _ rfl _ rfl _ rfl _ rfl _ rfl _ rfl _ rfl _ rfl _ rfl _ rfl _ rfl _ rfl _ rfl _ rfl _ rfl _ rfl _ rfl _ rfl
  go_simp
  go_wp2_with fail
  go_ret
  exact ⟨rfl, Grow.trans GF.out hgz⟩
set_option maxRecDepth 100000 in
set_option maxHeartbeats 4000000 in
theorem Does_x (id proc obj kind meth arg sec : Int) (done : Bool) (res inv ret : Int) (xs : List Int) (v : Value) (w : World) (hv : Ints w v xs) (K1 : ¬ kind = 1) (K2 : ¬ kind = 2) (K5 : (kind == 5) = false) (L : List Int) (N : Int) (B : Bool)
    (hA : ∀ w, Ints w v xs → Calls Try.prog 10 #[v, .agg #[.int .i64 id, .int .i64 proc, .int .i64 obj, .int .i64 kind, .int .i64 meth, .int .i64 arg, .int .i64 sec, .bool done, .int .i64 res, .int .i64 inv, .int .i64 ret]] w (DoPost w.heap.size (L, N, B) w))
    (hB : ∀ w, Ints w v xs → Calls Try.prog 12 #[v, .agg #[.int .i64 id, .int .i64 proc, .int .i64 obj, .int .i64 kind, .int .i64 meth, .int .i64 arg, .int .i64 sec, .bool done, .int .i64 res, .int .i64 inv, .int .i64 ret]] w (DonePost (L, N, B) w)) :
    Calls Try.prog 4 #[v, .agg #[.int .i64 id, .int .i64 proc, .int .i64 obj, .int .i64 kind, .int .i64 meth, .int .i64 arg, .int .i64 sec, .bool done, .int .i64 res, .int .i64 inv, .int .i64 ret]] w fun e w' => e = .returned (.bool true) ∧ Grow w w' := by
  have HI := hid hv
  have HA := hid hA
  have HB := hid hB
  have HW := hid (fun w => awake_c w)
  have HBOX0 := hid (heap_new w (.cells #[.int .i64 id, .int .i64 proc, .int .i64 obj, .int .i64 kind, .int .i64 meth, .int .i64 arg, .int .i64 sec, .bool done, .int .i64 res, .int .i64 inv, .int .i64 ret] 27))
  have G1 := hid (Grow.alloc w (.cells #[.int .i64 id, .int .i64 proc, .int .i64 obj, .int .i64 kind, .int .i64 meth, .int .i64 arg, .int .i64 sec, .bool done, .int .i64 res, .int .i64 inv, .int .i64 ret] 27))
  clear hv hA hB
  go_enter Try.func4, Try.ntmps4
  go_wp2_with fail
  have G2 := G1.out
  have HBOX := HBOX0
  clear HBOX0
  refine (HA.out _ (HI.out.grow G2)).mono ?_
  rintro e w4 ⟨x, rfl, ix, b4⟩
  replace b4 := Grow.of b4
  obtain ⟨px, cx, rfl, -⟩ := ix.at
  have Ix := hid ix
  have hb4 := b4.heap (HBOX.out)
  have c0 := (heap_cell hb4 0).trans (show _ = some (.int .i64 id) from rfl)
  have c1 := (heap_cell hb4 1).trans (show _ = some (.int .i64 proc) from rfl)
  have c2 := (heap_cell hb4 2).trans (show _ = some (.int .i64 obj) from rfl)
  have c3 := (heap_cell hb4 3).trans (show _ = some (.int .i64 kind) from rfl)
  have c4 := (heap_cell hb4 4).trans (show _ = some (.int .i64 meth) from rfl)
  have c5 := (heap_cell hb4 5).trans (show _ = some (.int .i64 arg) from rfl)
  have c6 := (heap_cell hb4 6).trans (show _ = some (.int .i64 sec) from rfl)
  have c7 := (heap_cell hb4 7).trans (show _ = some (.bool done) from rfl)
  have c8 := (heap_cell hb4 8).trans (show _ = some (.int .i64 res) from rfl)
  have c9 := (heap_cell hb4 9).trans (show _ = some (.int .i64 inv) from rfl)
  have c10 := (heap_cell hb4 10).trans (show _ = some (.int .i64 ret) from rfl)
  have HB4 := hid hb4
  have G4 := hid (Grow.trans G2 b4)
  clear ix hb4 b4 G2
  go_wp2_with fail
  refine (HB.out _ (HI.out.grow G4.out)).mono ?_
  rintro e w5 ⟨y, rfl, iy, b5⟩
  obtain ⟨py, cy, rfl, -⟩ := iy.at
  have Iy := hid iy
  have hb5 := b5.heap HB4.out
  have Ix5 := hid (Ix.out.grow b5)
  have G5 := hid (Grow.trans G4.out b5)
  clear c0 c1 c2 c3 c4 c5 c6 c7 c8 c9 c10 iy b5 Ix HB4 G4
  have HB5 := hid hb5
  clear hb5
  go_wp2_with fail
  have HW0 := hid (heap_new w5 (.cells #[.slice py L.length cy, .int .i64 N, .bool B] 30))
  have GW := hid (Grow.alloc w5 (.cells #[.slice py L.length cy, .int .i64 N, .bool B] 30))
  have hsz5 := hid (show (w5.alloc (.cells #[.slice py L.length cy, .int .i64 N, .bool B] 30)).heap.size = w5.heap.size + 1 from by simp)
  generalize w5.alloc (.cells #[.slice py L.length cy, .int .i64 N, .bool B] 30) = W at *
  generalize w5.heap.size = D at *
  have p0 : W.cell? ⟨D, 0, none⟩ = some (.slice py L.length cy) := by rw [heap_cell HW0.out]; rfl
  have p1 : W.cell? ⟨D, 1, none⟩ = some (.int .i64 N) := by rw [heap_cell HW0.out]; rfl
  have p2 : W.cell? ⟨D, 2, none⟩ = some (.bool B) := by rw [heap_cell HW0.out]; rfl
  have hbW := GW.out.heap HB5.out
  have c3 : W.cell? ⟨w.heap.size, 3, none⟩ = some (.int .i64 kind) := by rw [heap_cell hbW]; rfl
  have l1 := heap_lt HW0.out
  have l2 := heap_lt hbW
  have HJ := hid (fun (w' : World) (hg : Grow W w') => RInts_c L (.slice px L.length cx) (.slice py L.length cy) w' (Ix5.out.grow (Grow.trans GW.out hg)) (Iy.out.grow (Grow.trans GW.out hg)))
  have GF := hid (Grow.trans G5.out GW.out)
  clear HW0 GW hsz5 hbW HB5 Ix5 Iy G5
  have HF1 := hid (fun (w : World) => FirstNil kind w K1 K2)
  have HF2 := hid (fun (w : World) => RFirstNil kind w K1 K2)
  have HJN := hid (fun (w : World) => RInts_c [] (.slice none 0 0) (.slice none 0 0) w (Ints.nil w) (Ints.nil w))
  clear HA HB HI HBOX
  refine wp_rely [.eq (.slice px L.length cx), .eq (.pointer (some ⟨D, 0, none⟩)), .eq (.slice py L.length cy), .eq (.bool true), .eq (.bool true), .eq (.int .i64 N), .eq (.pointer (some ⟨D, 1, none⟩)), .eq (.int .i64 N), .eq (.bool true), .eq (.bool true), .eq (.bool true), .eq (.bool B), .eq (.pointer (some ⟨D, 2, none⟩)), .eq (.bool B), .eq (.bool true), .eq (.bool true), .eq (.bool true), .eq (.pointer (some ⟨w.heap.size, 3, none⟩)), .eq (.int .i64 kind), .eq (.slice none 0 0), .eq (.pointer (some ⟨w.heap.size, 3, none⟩)), .eq (.int .i64 kind), .eq (.slice none 0 0), .eq (.bool true), .eq (.bool true), .eq (.bool true), .eq (.bool true), .eq (.bool true), .eq (.bool true)] (by kernel_rfl) (by kernel_rfl) (by kernel_rfl) ?_ ?_
  · simp only [relyGoals]
    refine ⟨?_, ?_, ?_, ?_, ?_, ?_, ?_, ?_, ?_, ?_, ?_, ?_, ?_, ?_, ?_, ?_, ?_, ?_, ?_, ?_, ?_, ?_, ?_, ?_, ?_, ?_, ?_, ?_, ?_, trivial⟩
    all_goals intro t w' hsz hg hdd hfr
    all_goals simp only [depsDid, Did, perAt, List.getElem?_cons_zero, List.getElem?_cons_succ, List.getD_cons_zero, List.getD_cons_succ, Per.eq, Per.row, Per.of, and_true, Array.getD_eq_getD_getElem?] at hdd
    · rw [if_pos (by rfl)]
      try simp only [perAt, List.getD_cons_zero, List.getD_cons_succ, Per.eq, Per.row, Per.of]
      have hs5 := hfr 5 (by kernel_rfl)
      simp only [Array.getD_eq_getD_getElem?] at hs5
      simp [execOp, Act.eval, hdd, hs5, relyUpon, go_sem, Grow.refl]
    · rw [if_pos (by rfl)]
      try simp only [perAt, List.getD_cons_zero, List.getD_cons_succ, Per.eq, Per.row, Per.of]
      have hs8 := hfr 8 (by kernel_rfl)
      simp only [Array.getD_eq_getD_getElem?] at hs8
      simp [execOp, Act.eval, hdd, hs8, relyUpon, go_sem, Grow.refl]
    · rw [if_pos (by rfl)]
      try simp only [perAt, List.getD_cons_zero, List.getD_cons_succ, Per.eq, Per.row, Per.of]
      have kc := hg.cells
      simp [execOp, Act.eval, hdd, relyUpon, go_sem, Grow.refl, kc, p0, p1, p2, c3, l1, l2]
    · rw [if_pos (by rfl)]
      try simp only [perAt, List.getD_cons_zero, List.getD_cons_succ, Per.eq, Per.row, Per.of]
      simp [execOp, Act.eval, hdd, relyUpon, go_sem]
      refine (HJ.out w' hg).mono fun e w'' h => ?_
      obtain ⟨h1, h2⟩ := h
      have h3 : Grow w' w'' := by first | exact h2 | (rw [← h2]; exact Grow.refl _)
      first | exact ⟨h3, h1⟩ | exact ⟨_, h1, h3, rfl⟩ | exact ⟨h1, h3⟩
    · rw [if_pos (by rfl)]
      try simp only [perAt, List.getD_cons_zero, List.getD_cons_succ, Per.eq, Per.row, Per.of]
      simp [execOp, Act.eval, hdd, relyUpon, go_sem, Grow.refl]
    · rw [if_pos (by simp only [Region.wanted]; rw [yielded_of (d := 32) (b := true) rfl (by simp only [hdd])]; rfl)]
      try simp only [perAt, List.getD_cons_zero, List.getD_cons_succ, Per.eq, Per.row, Per.of]
      have hs6 := hfr 6 (by kernel_rfl)
      simp only [Array.getD_eq_getD_getElem?] at hs6
      simp [execOp, Act.eval, hdd, hs6, relyUpon, go_sem, Grow.refl]
    · rw [if_pos (by simp only [Region.wanted]; rw [yielded_of (d := 32) (b := true) rfl (by simp only [hdd])]; rfl)]
      try simp only [perAt, List.getD_cons_zero, List.getD_cons_succ, Per.eq, Per.row, Per.of]
      have hs8 := hfr 8 (by kernel_rfl)
      simp only [Array.getD_eq_getD_getElem?] at hs8
      simp [execOp, Act.eval, hdd, hs8, relyUpon, go_sem, Grow.refl]
    · rw [if_pos (by simp only [Region.wanted]; rw [yielded_of (d := 32) (b := true) rfl (by simp only [hdd])]; rfl)]
      try simp only [perAt, List.getD_cons_zero, List.getD_cons_succ, Per.eq, Per.row, Per.of]
      have kc := hg.cells
      simp [execOp, Act.eval, hdd, relyUpon, go_sem, Grow.refl, kc, p0, p1, p2, c3, l1, l2]
    · rw [if_pos (by simp only [Region.wanted]; rw [yielded_of (d := 32) (b := true) rfl (by simp only [hdd])]; rfl)]
      try simp only [perAt, List.getD_cons_zero, List.getD_cons_succ, Per.eq, Per.row, Per.of]
      simp [execOp, Act.eval, hdd, relyUpon, go_sem, Grow.refl]
    · rw [if_pos (by rfl)]
      try simp only [perAt, List.getD_cons_zero, List.getD_cons_succ, Per.eq, Per.row, Per.of]
      simp [execOp, Act.eval, hdd, relyUpon, go_sem, Grow.refl]
    · rw [if_pos (by rfl)]
      try simp only [perAt, List.getD_cons_zero, List.getD_cons_succ, Per.eq, Per.row, Per.of]
      simp [execOp, Act.eval, hdd, relyUpon, go_sem, Grow.refl]
    · rw [if_pos (by simp only [Region.wanted]; rw [yielded_of (d := 38) (b := true) rfl (by simp only [hdd])]; rfl)]
      try simp only [perAt, List.getD_cons_zero, List.getD_cons_succ, Per.eq, Per.row, Per.of]
      have hs7 := hfr 7 (by kernel_rfl)
      simp only [Array.getD_eq_getD_getElem?] at hs7
      simp [execOp, Act.eval, hdd, hs7, relyUpon, go_sem, Grow.refl]
    · rw [if_pos (by simp only [Region.wanted]; rw [yielded_of (d := 38) (b := true) rfl (by simp only [hdd])]; rfl)]
      try simp only [perAt, List.getD_cons_zero, List.getD_cons_succ, Per.eq, Per.row, Per.of]
      have hs8 := hfr 8 (by kernel_rfl)
      simp only [Array.getD_eq_getD_getElem?] at hs8
      simp [execOp, Act.eval, hdd, hs8, relyUpon, go_sem, Grow.refl]
    · rw [if_pos (by simp only [Region.wanted]; rw [yielded_of (d := 38) (b := true) rfl (by simp only [hdd])]; rfl)]
      try simp only [perAt, List.getD_cons_zero, List.getD_cons_succ, Per.eq, Per.row, Per.of]
      have kc := hg.cells
      simp [execOp, Act.eval, hdd, relyUpon, go_sem, Grow.refl, kc, p0, p1, p2, c3, l1, l2]
    · rw [if_pos (by simp only [Region.wanted]; rw [yielded_of (d := 38) (b := true) rfl (by simp only [hdd])]; rfl)]
      try simp only [perAt, List.getD_cons_zero, List.getD_cons_succ, Per.eq, Per.row, Per.of]
      simp [execOp, Act.eval, hdd, relyUpon, go_sem, Grow.refl]
    · rw [if_pos (by rfl)]
      try simp only [perAt, List.getD_cons_zero, List.getD_cons_succ, Per.eq, Per.row, Per.of]
      simp [execOp, Act.eval, hdd, relyUpon, go_sem, Grow.refl]
    · rw [if_pos (by rfl)]
      try simp only [perAt, List.getD_cons_zero, List.getD_cons_succ, Per.eq, Per.row, Per.of]
      simp [execOp, Act.eval, hdd, relyUpon, go_sem, Grow.refl]
    · rw [if_pos (by simp only [Region.wanted]; rw [yielded_of (d := 44) (b := true) rfl (by simp only [hdd])]; rfl)]
      try simp only [perAt, List.getD_cons_zero, List.getD_cons_succ, Per.eq, Per.row, Per.of]
      have hs3 := hfr 3 (by kernel_rfl)
      simp only [Array.getD_eq_getD_getElem?] at hs3
      simp [execOp, Act.eval, hdd, hs3, relyUpon, go_sem, Grow.refl]
    · rw [if_pos (by simp only [Region.wanted]; rw [yielded_of (d := 44) (b := true) rfl (by simp only [hdd])]; rfl)]
      try simp only [perAt, List.getD_cons_zero, List.getD_cons_succ, Per.eq, Per.row, Per.of]
      have kc := hg.cells
      simp [execOp, Act.eval, hdd, relyUpon, go_sem, Grow.refl, kc, p0, p1, p2, c3, l1, l2]
    · rw [if_pos (by simp only [Region.wanted]; rw [yielded_of (d := 44) (b := true) rfl (by simp only [hdd])]; rfl)]
      try simp only [perAt, List.getD_cons_zero, List.getD_cons_succ, Per.eq, Per.row, Per.of]
      simp [execOp, Act.eval, hdd, relyUpon, go_sem]
      refine (HF1.out w').mono fun e w'' h => ?_
      obtain ⟨h1, h2⟩ := h
      have h3 : Grow w' w'' := by first | exact h2 | (rw [← h2]; exact Grow.refl _)
      first | exact ⟨h3, h1⟩ | exact ⟨_, h1, h3, rfl⟩ | exact ⟨h1, h3⟩
    · rw [if_pos (by simp only [Region.wanted]; rw [yielded_of (d := 44) (b := true) rfl (by simp only [hdd])]; rfl)]
      try simp only [perAt, List.getD_cons_zero, List.getD_cons_succ, Per.eq, Per.row, Per.of]
      have hs3 := hfr 3 (by kernel_rfl)
      simp only [Array.getD_eq_getD_getElem?] at hs3
      simp [execOp, Act.eval, hdd, hs3, relyUpon, go_sem, Grow.refl]
    · rw [if_pos (by simp only [Region.wanted]; rw [yielded_of (d := 44) (b := true) rfl (by simp only [hdd])]; rfl)]
      try simp only [perAt, List.getD_cons_zero, List.getD_cons_succ, Per.eq, Per.row, Per.of]
      have kc := hg.cells
      simp [execOp, Act.eval, hdd, relyUpon, go_sem, Grow.refl, kc, p0, p1, p2, c3, l1, l2]
    · rw [if_pos (by simp only [Region.wanted]; rw [yielded_of (d := 44) (b := true) rfl (by simp only [hdd])]; rfl)]
      try simp only [perAt, List.getD_cons_zero, List.getD_cons_succ, Per.eq, Per.row, Per.of]
      simp [execOp, Act.eval, hdd, relyUpon, go_sem]
      refine (HF2.out w').mono fun e w'' h => ?_
      obtain ⟨h1, h2⟩ := h
      have h3 : Grow w' w'' := by first | exact h2 | (rw [← h2]; exact Grow.refl _)
      first | exact ⟨h3, h1⟩ | exact ⟨_, h1, h3, rfl⟩ | exact ⟨h1, h3⟩
    · rw [if_pos (by simp only [Region.wanted]; rw [yielded_of (d := 44) (b := true) rfl (by simp only [hdd])]; rfl)]
      try simp only [perAt, List.getD_cons_zero, List.getD_cons_succ, Per.eq, Per.row, Per.of]
      simp [execOp, Act.eval, hdd, relyUpon, go_sem]
      refine (HJN.out w').mono fun e w'' h => ?_
      obtain ⟨h1, h2⟩ := h
      have h3 : Grow w' w'' := by first | exact h2 | (rw [← h2]; exact Grow.refl _)
      first | exact ⟨h3, h1⟩ | exact ⟨_, h1, h3, rfl⟩ | exact ⟨h1, h3⟩
    · rw [if_pos (by rfl)]
      try simp only [perAt, List.getD_cons_zero, List.getD_cons_succ, Per.eq, Per.row, Per.of]
      simp [execOp, Act.eval, hdd, relyUpon, go_sem, Grow.refl]
    · rw [if_pos (by rfl)]
      try simp only [perAt, List.getD_cons_zero, List.getD_cons_succ, Per.eq, Per.row, Per.of]
      simp [execOp, Act.eval, hdd, relyUpon, go_sem, Grow.refl]
    · rw [if_pos (by simp only [Region.wanted]; rw [yielded_of (d := 53) (b := true) rfl (by simp only [hdd])]; rfl)]
      try simp only [perAt, List.getD_cons_zero, List.getD_cons_succ, Per.eq, Per.row, Per.of]
      simp [execOp, Act.eval, hdd, relyUpon, go_sem]
      refine (HW.out w').mono fun e w'' h => ?_
      obtain ⟨h1, h2⟩ := h
      have h3 : Grow w' w'' := by first | exact h2 | (rw [← h2]; exact Grow.refl _)
      first | exact ⟨h3, h1⟩ | exact ⟨_, h1, h3, rfl⟩ | exact ⟨h1, h3⟩
    · rw [if_pos (by rfl)]
      try simp only [perAt, List.getD_cons_zero, List.getD_cons_succ, Per.eq, Per.row, Per.of]
      simp [execOp, Act.eval, hdd, relyUpon, go_sem, Grow.refl]
    · rw [if_pos (by rfl)]
      try simp only [perAt, List.getD_cons_zero, List.getD_cons_succ, Per.eq, Per.row, Per.of]
      simp [execOp, Act.eval, hdd, relyUpon, go_sem, Grow.refl]
  intro wz hgz
  simp only [relyEnd, List.headD_cons, List.tail_cons, Per.eq, Per.row, Per.of]
  rintro _ rfl _ rfl _ rfl _ rfl _ rfl _ rfl _ rfl _ rfl _ rfl _ rfl _ rfl _ rfl _ rfl _ rfl _ rfl _ rfl _ rfl _ rfl _ rfl _ rfl _ rfl _ rfl _ rfl _ rfl _ rfl _ rfl _ rfl _ rfl _ rfl
  go_simp
  go_wp2_with fail
  go_ret
  exact ⟨rfl, Grow.trans GF.out hgz⟩
set_option maxRecDepth 100000 in
set_option maxHeartbeats 4000000 in
theorem Does_1 (id proc obj meth arg sec : Int) (done : Bool) (res inv ret : Int) (xs : List Int) (v : Value) (w : World) (hv : Ints w v xs) (L : List Int) (N : Int) (B : Bool)
    (hA : ∀ w, Ints w v xs → Calls Try.prog 10 #[v, .agg #[.int .i64 id, .int .i64 proc, .int .i64 obj, .int .i64 1, .int .i64 meth, .int .i64 arg, .int .i64 sec, .bool done, .int .i64 res, .int .i64 inv, .int .i64 ret]] w (DoPost w.heap.size (L, N, B) w))
    (hB : ∀ w, Ints w v xs → Calls Try.prog 12 #[v, .agg #[.int .i64 id, .int .i64 proc, .int .i64 obj, .int .i64 1, .int .i64 meth, .int .i64 arg, .int .i64 sec, .bool done, .int .i64 res, .int .i64 inv, .int .i64 ret]] w (DonePost (L, N, B) w)) :
    Calls Try.prog 4 #[v, .agg #[.int .i64 id, .int .i64 proc, .int .i64 obj, .int .i64 1, .int .i64 meth, .int .i64 arg, .int .i64 sec, .bool done, .int .i64 res, .int .i64 inv, .int .i64 ret]] w fun e w' => e = .returned (.bool true) ∧ Grow w w' := by
  have HI := hid hv
  have HA := hid hA
  have HB := hid hB
  have HW := hid (fun w => awake_c w)
  have HBOX0 := hid (heap_new w (.cells #[.int .i64 id, .int .i64 proc, .int .i64 obj, .int .i64 1, .int .i64 meth, .int .i64 arg, .int .i64 sec, .bool done, .int .i64 res, .int .i64 inv, .int .i64 ret] 27))
  have G1 := hid (Grow.alloc w (.cells #[.int .i64 id, .int .i64 proc, .int .i64 obj, .int .i64 1, .int .i64 meth, .int .i64 arg, .int .i64 sec, .bool done, .int .i64 res, .int .i64 inv, .int .i64 ret] 27))
  clear hv hA hB
  go_enter Try.func4, Try.ntmps4
  go_wp2_with fail
  have G2 := G1.out
  have HBOX := HBOX0
  clear HBOX0
  refine (HA.out _ (HI.out.grow G2)).mono ?_
  rintro e w4 ⟨x, rfl, ix, b4⟩
  replace b4 := Grow.of b4
  obtain ⟨px, cx, rfl, -⟩ := ix.at
  have Ix := hid ix
  have hb4 := b4.heap (HBOX.out)
  have c0 := (heap_cell hb4 0).trans (show _ = some (.int .i64 id) from rfl)
  have c1 := (heap_cell hb4 1).trans (show _ = some (.int .i64 proc) from rfl)
  have c2 := (heap_cell hb4 2).trans (show _ = some (.int .i64 obj) from rfl)
  have c3 := (heap_cell hb4 3).trans (show _ = some (.int .i64 1) from rfl)
  have c4 := (heap_cell hb4 4).trans (show _ = some (.int .i64 meth) from rfl)
  have c5 := (heap_cell hb4 5).trans (show _ = some (.int .i64 arg) from rfl)
  have c6 := (heap_cell hb4 6).trans (show _ = some (.int .i64 sec) from rfl)
  have c7 := (heap_cell hb4 7).trans (show _ = some (.bool done) from rfl)
  have c8 := (heap_cell hb4 8).trans (show _ = some (.int .i64 res) from rfl)
  have c9 := (heap_cell hb4 9).trans (show _ = some (.int .i64 inv) from rfl)
  have c10 := (heap_cell hb4 10).trans (show _ = some (.int .i64 ret) from rfl)
  have HB4 := hid hb4
  have G4 := hid (Grow.trans G2 b4)
  clear ix hb4 b4 G2
  go_wp2_with fail
  refine (HB.out _ (HI.out.grow G4.out)).mono ?_
  rintro e w5 ⟨y, rfl, iy, b5⟩
  obtain ⟨py, cy, rfl, -⟩ := iy.at
  have Iy := hid iy
  have hb5 := b5.heap HB4.out
  have Ix5 := hid (Ix.out.grow b5)
  have G5 := hid (Grow.trans G4.out b5)
  clear c0 c1 c2 c3 c4 c5 c6 c7 c8 c9 c10 iy b5 Ix HB4 G4
  have HB5 := hid hb5
  clear hb5
  go_wp2_with fail
  have HW0 := hid (heap_new w5 (.cells #[.slice py L.length cy, .int .i64 N, .bool B] 30))
  have GW := hid (Grow.alloc w5 (.cells #[.slice py L.length cy, .int .i64 N, .bool B] 30))
  have hsz5 := hid (show (w5.alloc (.cells #[.slice py L.length cy, .int .i64 N, .bool B] 30)).heap.size = w5.heap.size + 1 from by simp)
  generalize w5.alloc (.cells #[.slice py L.length cy, .int .i64 N, .bool B] 30) = W at *
  generalize w5.heap.size = D at *
  have p0 : W.cell? ⟨D, 0, none⟩ = some (.slice py L.length cy) := by rw [heap_cell HW0.out]; rfl
  have p1 : W.cell? ⟨D, 1, none⟩ = some (.int .i64 N) := by rw [heap_cell HW0.out]; rfl
  have p2 : W.cell? ⟨D, 2, none⟩ = some (.bool B) := by rw [heap_cell HW0.out]; rfl
  have hbW := GW.out.heap HB5.out
  have c3 : W.cell? ⟨w.heap.size, 3, none⟩ = some (.int .i64 1) := by rw [heap_cell hbW]; rfl
  have l1 := heap_lt HW0.out
  have l2 := heap_lt hbW
  have HJ := hid (fun (w' : World) (hg : Grow W w') => RInts_c L (.slice px L.length cx) (.slice py L.length cy) w' (Ix5.out.grow (Grow.trans GW.out hg)) (Iy.out.grow (Grow.trans GW.out hg)))
  have GF := hid (Grow.trans G5.out GW.out)
  clear HW0 GW hsz5 hbW HB5 Ix5 Iy G5
  have HF1 := hid FirstRow1
  have HF2 := hid RFirstRow1
  clear HA HB HI HBOX
  refine wp_rely [.eq (.slice px L.length cx), .eq (.pointer (some ⟨D, 0, none⟩)), .eq (.slice py L.length cy), .eq (.bool true), .eq (.bool true), .eq (.int .i64 N), .eq (.pointer (some ⟨D, 1, none⟩)), .eq (.int .i64 N), .eq (.bool true), .eq (.bool true), .eq (.bool true), .eq (.bool B), .eq (.pointer (some ⟨D, 2, none⟩)), .eq (.bool B), .eq (.bool true), .eq (.bool true), .eq (.bool true), .eq (.pointer (some ⟨w.heap.size, 3, none⟩)), .eq (.int .i64 1), .row #[.int .i64 0] 3 1, .eq (.pointer (some ⟨w.heap.size, 3, none⟩)), .eq (.int .i64 1), .row #[.int .i64 0] 3 1, .eq (.bool true), .eq (.bool true), .eq (.bool true), .eq (.bool true), .eq (.bool true), .eq (.bool true)] (by kernel_rfl) (by kernel_rfl) (by kernel_rfl) ?_ ?_
  · simp only [relyGoals]
    refine ⟨?_, ?_, ?_, ?_, ?_, ?_, ?_, ?_, ?_, ?_, ?_, ?_, ?_, ?_, ?_, ?_, ?_, ?_, ?_, ?_, ?_, ?_, ?_, ?_, ?_, ?_, ?_, ?_, ?_, trivial⟩
    all_goals intro t w' hsz hg hdd hfr
    all_goals simp only [depsDid, Did, perAt, List.getElem?_cons_zero, List.getElem?_cons_succ, List.getD_cons_zero, List.getD_cons_succ, Per.eq, Per.row, Per.of, and_true, Array.getD_eq_getD_getElem?] at hdd
    · rw [if_pos (by rfl)]
      try simp only [perAt, List.getD_cons_zero, List.getD_cons_succ, Per.eq, Per.row, Per.of]
      have hs5 := hfr 5 (by kernel_rfl)
      simp only [Array.getD_eq_getD_getElem?] at hs5
      simp [execOp, Act.eval, hdd, hs5, relyUpon, go_sem, Grow.refl]
    · rw [if_pos (by rfl)]
      try simp only [perAt, List.getD_cons_zero, List.getD_cons_succ, Per.eq, Per.row, Per.of]
      have hs8 := hfr 8 (by kernel_rfl)
      simp only [Array.getD_eq_getD_getElem?] at hs8
      simp [execOp, Act.eval, hdd, hs8, relyUpon, go_sem, Grow.refl]
    · rw [if_pos (by rfl)]
      try simp only [perAt, List.getD_cons_zero, List.getD_cons_succ, Per.eq, Per.row, Per.of]
      have kc := hg.cells
      simp [execOp, Act.eval, hdd, relyUpon, go_sem, Grow.refl, kc, p0, p1, p2, c3, l1, l2]
    · rw [if_pos (by rfl)]
      try simp only [perAt, List.getD_cons_zero, List.getD_cons_succ, Per.eq, Per.row, Per.of]
      simp [execOp, Act.eval, hdd, relyUpon, go_sem]
      refine (HJ.out w' hg).mono fun e w'' h => ?_
      obtain ⟨h1, h2⟩ := h
      have h3 : Grow w' w'' := by first | exact h2 | (rw [← h2]; exact Grow.refl _)
      first | exact ⟨h3, h1⟩ | exact ⟨_, h1, h3, rfl⟩ | exact ⟨h1, h3⟩
    · rw [if_pos (by rfl)]
      try simp only [perAt, List.getD_cons_zero, List.getD_cons_succ, Per.eq, Per.row, Per.of]
      simp [execOp, Act.eval, hdd, relyUpon, go_sem, Grow.refl]
    · rw [if_pos (by simp only [Region.wanted]; rw [yielded_of (d := 32) (b := true) rfl (by simp only [hdd])]; rfl)]
      try simp only [perAt, List.getD_cons_zero, List.getD_cons_succ, Per.eq, Per.row, Per.of]
      have hs6 := hfr 6 (by kernel_rfl)
      simp only [Array.getD_eq_getD_getElem?] at hs6
      simp [execOp, Act.eval, hdd, hs6, relyUpon, go_sem, Grow.refl]
    · rw [if_pos (by simp only [Region.wanted]; rw [yielded_of (d := 32) (b := true) rfl (by simp only [hdd])]; rfl)]
      try simp only [perAt, List.getD_cons_zero, List.getD_cons_succ, Per.eq, Per.row, Per.of]
      have hs8 := hfr 8 (by kernel_rfl)
      simp only [Array.getD_eq_getD_getElem?] at hs8
      simp [execOp, Act.eval, hdd, hs8, relyUpon, go_sem, Grow.refl]
    · rw [if_pos (by simp only [Region.wanted]; rw [yielded_of (d := 32) (b := true) rfl (by simp only [hdd])]; rfl)]
      try simp only [perAt, List.getD_cons_zero, List.getD_cons_succ, Per.eq, Per.row, Per.of]
      have kc := hg.cells
      simp [execOp, Act.eval, hdd, relyUpon, go_sem, Grow.refl, kc, p0, p1, p2, c3, l1, l2]
    · rw [if_pos (by simp only [Region.wanted]; rw [yielded_of (d := 32) (b := true) rfl (by simp only [hdd])]; rfl)]
      try simp only [perAt, List.getD_cons_zero, List.getD_cons_succ, Per.eq, Per.row, Per.of]
      simp [execOp, Act.eval, hdd, relyUpon, go_sem, Grow.refl]
    · rw [if_pos (by rfl)]
      try simp only [perAt, List.getD_cons_zero, List.getD_cons_succ, Per.eq, Per.row, Per.of]
      simp [execOp, Act.eval, hdd, relyUpon, go_sem, Grow.refl]
    · rw [if_pos (by rfl)]
      try simp only [perAt, List.getD_cons_zero, List.getD_cons_succ, Per.eq, Per.row, Per.of]
      simp [execOp, Act.eval, hdd, relyUpon, go_sem, Grow.refl]
    · rw [if_pos (by simp only [Region.wanted]; rw [yielded_of (d := 38) (b := true) rfl (by simp only [hdd])]; rfl)]
      try simp only [perAt, List.getD_cons_zero, List.getD_cons_succ, Per.eq, Per.row, Per.of]
      have hs7 := hfr 7 (by kernel_rfl)
      simp only [Array.getD_eq_getD_getElem?] at hs7
      simp [execOp, Act.eval, hdd, hs7, relyUpon, go_sem, Grow.refl]
    · rw [if_pos (by simp only [Region.wanted]; rw [yielded_of (d := 38) (b := true) rfl (by simp only [hdd])]; rfl)]
      try simp only [perAt, List.getD_cons_zero, List.getD_cons_succ, Per.eq, Per.row, Per.of]
      have hs8 := hfr 8 (by kernel_rfl)
      simp only [Array.getD_eq_getD_getElem?] at hs8
      simp [execOp, Act.eval, hdd, hs8, relyUpon, go_sem, Grow.refl]
    · rw [if_pos (by simp only [Region.wanted]; rw [yielded_of (d := 38) (b := true) rfl (by simp only [hdd])]; rfl)]
      try simp only [perAt, List.getD_cons_zero, List.getD_cons_succ, Per.eq, Per.row, Per.of]
      have kc := hg.cells
      simp [execOp, Act.eval, hdd, relyUpon, go_sem, Grow.refl, kc, p0, p1, p2, c3, l1, l2]
    · rw [if_pos (by simp only [Region.wanted]; rw [yielded_of (d := 38) (b := true) rfl (by simp only [hdd])]; rfl)]
      try simp only [perAt, List.getD_cons_zero, List.getD_cons_succ, Per.eq, Per.row, Per.of]
      simp [execOp, Act.eval, hdd, relyUpon, go_sem, Grow.refl]
    · rw [if_pos (by rfl)]
      try simp only [perAt, List.getD_cons_zero, List.getD_cons_succ, Per.eq, Per.row, Per.of]
      simp [execOp, Act.eval, hdd, relyUpon, go_sem, Grow.refl]
    · rw [if_pos (by rfl)]
      try simp only [perAt, List.getD_cons_zero, List.getD_cons_succ, Per.eq, Per.row, Per.of]
      simp [execOp, Act.eval, hdd, relyUpon, go_sem, Grow.refl]
    · rw [if_pos (by simp only [Region.wanted]; rw [yielded_of (d := 44) (b := true) rfl (by simp only [hdd])]; rfl)]
      try simp only [perAt, List.getD_cons_zero, List.getD_cons_succ, Per.eq, Per.row, Per.of]
      have hs3 := hfr 3 (by kernel_rfl)
      simp only [Array.getD_eq_getD_getElem?] at hs3
      simp [execOp, Act.eval, hdd, hs3, relyUpon, go_sem, Grow.refl]
    · rw [if_pos (by simp only [Region.wanted]; rw [yielded_of (d := 44) (b := true) rfl (by simp only [hdd])]; rfl)]
      try simp only [perAt, List.getD_cons_zero, List.getD_cons_succ, Per.eq, Per.row, Per.of]
      have kc := hg.cells
      simp [execOp, Act.eval, hdd, relyUpon, go_sem, Grow.refl, kc, p0, p1, p2, c3, l1, l2]
    · rw [if_pos (by simp only [Region.wanted]; rw [yielded_of (d := 44) (b := true) rfl (by simp only [hdd])]; rfl)]
      try simp only [perAt, List.getD_cons_zero, List.getD_cons_succ, Per.eq, Per.row, Per.of]
      simp [execOp, Act.eval, hdd, relyUpon, go_sem]
      refine (HF1.out w').mono fun e w'' h => ?_
      obtain ⟨g, h1, h2, h3⟩ := h
      subst h1
      first | exact ⟨_, rfl, h3, g, rfl, h2⟩ | exact ⟨h3, g, rfl, h2⟩ | exact ⟨h3, rfl, h2⟩
    · rw [if_pos (by simp only [Region.wanted]; rw [yielded_of (d := 44) (b := true) rfl (by simp only [hdd])]; rfl)]
      try simp only [perAt, List.getD_cons_zero, List.getD_cons_succ, Per.eq, Per.row, Per.of]
      have hs3 := hfr 3 (by kernel_rfl)
      simp only [Array.getD_eq_getD_getElem?] at hs3
      simp [execOp, Act.eval, hdd, hs3, relyUpon, go_sem, Grow.refl]
    · rw [if_pos (by simp only [Region.wanted]; rw [yielded_of (d := 44) (b := true) rfl (by simp only [hdd])]; rfl)]
      try simp only [perAt, List.getD_cons_zero, List.getD_cons_succ, Per.eq, Per.row, Per.of]
      have kc := hg.cells
      simp [execOp, Act.eval, hdd, relyUpon, go_sem, Grow.refl, kc, p0, p1, p2, c3, l1, l2]
    · rw [if_pos (by simp only [Region.wanted]; rw [yielded_of (d := 44) (b := true) rfl (by simp only [hdd])]; rfl)]
      try simp only [perAt, List.getD_cons_zero, List.getD_cons_succ, Per.eq, Per.row, Per.of]
      simp [execOp, Act.eval, hdd, relyUpon, go_sem]
      refine (HF2.out w').mono fun e w'' h => ?_
      obtain ⟨g, h1, h2, h3⟩ := h
      subst h1
      first | exact ⟨_, rfl, h3, g, rfl, h2⟩ | exact ⟨h3, g, rfl, h2⟩ | exact ⟨h3, rfl, h2⟩
    · rw [if_pos (by simp only [Region.wanted]; rw [yielded_of (d := 44) (b := true) rfl (by simp only [hdd])]; rfl)]
      try simp only [perAt, List.getD_cons_zero, List.getD_cons_succ, Per.eq, Per.row, Per.of]
      obtain ⟨⟨g1, e1, b1⟩, ⟨g2, e2, b2⟩, -⟩ := hdd
      simp [execOp, Act.eval, e1, e2, relyUpon, go_sem]
      refine (RInts_c [0] _ _ w' (Ints.one b1) (Ints.one b2)).mono fun e w'' h => ?_
      obtain ⟨h1, h2⟩ := h
      first | exact ⟨h2, h1⟩ | exact ⟨_, h1, h2, rfl⟩ | exact ⟨h1, h2⟩
    · rw [if_pos (by rfl)]
      try simp only [perAt, List.getD_cons_zero, List.getD_cons_succ, Per.eq, Per.row, Per.of]
      simp [execOp, Act.eval, hdd, relyUpon, go_sem, Grow.refl]
    · rw [if_pos (by rfl)]
      try simp only [perAt, List.getD_cons_zero, List.getD_cons_succ, Per.eq, Per.row, Per.of]
      simp [execOp, Act.eval, hdd, relyUpon, go_sem, Grow.refl]
    · rw [if_pos (by simp only [Region.wanted]; rw [yielded_of (d := 53) (b := true) rfl (by simp only [hdd])]; rfl)]
      try simp only [perAt, List.getD_cons_zero, List.getD_cons_succ, Per.eq, Per.row, Per.of]
      simp [execOp, Act.eval, hdd, relyUpon, go_sem]
      refine (HW.out w').mono fun e w'' h => ?_
      obtain ⟨h1, h2⟩ := h
      have h3 : Grow w' w'' := by first | exact h2 | (rw [← h2]; exact Grow.refl _)
      first | exact ⟨h3, h1⟩ | exact ⟨_, h1, h3, rfl⟩ | exact ⟨h1, h3⟩
    · rw [if_pos (by rfl)]
      try simp only [perAt, List.getD_cons_zero, List.getD_cons_succ, Per.eq, Per.row, Per.of]
      simp [execOp, Act.eval, hdd, relyUpon, go_sem, Grow.refl]
    · rw [if_pos (by rfl)]
      try simp only [perAt, List.getD_cons_zero, List.getD_cons_succ, Per.eq, Per.row, Per.of]
      simp [execOp, Act.eval, hdd, relyUpon, go_sem, Grow.refl]
  intro wz hgz
  simp only [relyEnd, List.headD_cons, List.tail_cons, Per.eq, Per.row, Per.of]
  rintro _ rfl _ rfl _ rfl _ rfl _ rfl _ rfl _ rfl _ rfl _ rfl _ rfl _ rfl _ rfl _ rfl _ rfl _ rfl _ rfl _ rfl _ rfl _ rfl _ ⟨gz, rfl, hhz⟩ _ rfl _ rfl _ ⟨gz, rfl, hhz⟩ _ rfl _ rfl _ rfl _ rfl _ rfl _ rfl
  clear hhz
  go_simp
  go_wp2_with fail
  go_ret
  exact ⟨rfl, Grow.trans GF.out hgz⟩
set_option maxRecDepth 100000 in
set_option maxHeartbeats 4000000 in
theorem Does_2 (id proc obj meth arg sec : Int) (done : Bool) (res inv ret : Int) (xs : List Int) (v : Value) (w : World) (hv : Ints w v xs) (L : List Int) (N : Int) (B : Bool)
    (hA : ∀ w, Ints w v xs → Calls Try.prog 10 #[v, .agg #[.int .i64 id, .int .i64 proc, .int .i64 obj, .int .i64 2, .int .i64 meth, .int .i64 arg, .int .i64 sec, .bool done, .int .i64 res, .int .i64 inv, .int .i64 ret]] w (DoPost w.heap.size (L, N, B) w))
    (hB : ∀ w, Ints w v xs → Calls Try.prog 12 #[v, .agg #[.int .i64 id, .int .i64 proc, .int .i64 obj, .int .i64 2, .int .i64 meth, .int .i64 arg, .int .i64 sec, .bool done, .int .i64 res, .int .i64 inv, .int .i64 ret]] w (DonePost (L, N, B) w)) :
    Calls Try.prog 4 #[v, .agg #[.int .i64 id, .int .i64 proc, .int .i64 obj, .int .i64 2, .int .i64 meth, .int .i64 arg, .int .i64 sec, .bool done, .int .i64 res, .int .i64 inv, .int .i64 ret]] w fun e w' => e = .returned (.bool true) ∧ Grow w w' := by
  have HI := hid hv
  have HA := hid hA
  have HB := hid hB
  have HW := hid (fun w => awake_c w)
  have HBOX0 := hid (heap_new w (.cells #[.int .i64 id, .int .i64 proc, .int .i64 obj, .int .i64 2, .int .i64 meth, .int .i64 arg, .int .i64 sec, .bool done, .int .i64 res, .int .i64 inv, .int .i64 ret] 27))
  have G1 := hid (Grow.alloc w (.cells #[.int .i64 id, .int .i64 proc, .int .i64 obj, .int .i64 2, .int .i64 meth, .int .i64 arg, .int .i64 sec, .bool done, .int .i64 res, .int .i64 inv, .int .i64 ret] 27))
  clear hv hA hB
  go_enter Try.func4, Try.ntmps4
  go_wp2_with fail
  have G2 := G1.out
  have HBOX := HBOX0
  clear HBOX0
  refine (HA.out _ (HI.out.grow G2)).mono ?_
  rintro e w4 ⟨x, rfl, ix, b4⟩
  replace b4 := Grow.of b4
  obtain ⟨px, cx, rfl, -⟩ := ix.at
  have Ix := hid ix
  have hb4 := b4.heap (HBOX.out)
  have c0 := (heap_cell hb4 0).trans (show _ = some (.int .i64 id) from rfl)
  have c1 := (heap_cell hb4 1).trans (show _ = some (.int .i64 proc) from rfl)
  have c2 := (heap_cell hb4 2).trans (show _ = some (.int .i64 obj) from rfl)
  have c3 := (heap_cell hb4 3).trans (show _ = some (.int .i64 2) from rfl)
  have c4 := (heap_cell hb4 4).trans (show _ = some (.int .i64 meth) from rfl)
  have c5 := (heap_cell hb4 5).trans (show _ = some (.int .i64 arg) from rfl)
  have c6 := (heap_cell hb4 6).trans (show _ = some (.int .i64 sec) from rfl)
  have c7 := (heap_cell hb4 7).trans (show _ = some (.bool done) from rfl)
  have c8 := (heap_cell hb4 8).trans (show _ = some (.int .i64 res) from rfl)
  have c9 := (heap_cell hb4 9).trans (show _ = some (.int .i64 inv) from rfl)
  have c10 := (heap_cell hb4 10).trans (show _ = some (.int .i64 ret) from rfl)
  have HB4 := hid hb4
  have G4 := hid (Grow.trans G2 b4)
  clear ix hb4 b4 G2
  go_wp2_with fail
  refine (HB.out _ (HI.out.grow G4.out)).mono ?_
  rintro e w5 ⟨y, rfl, iy, b5⟩
  obtain ⟨py, cy, rfl, -⟩ := iy.at
  have Iy := hid iy
  have hb5 := b5.heap HB4.out
  have Ix5 := hid (Ix.out.grow b5)
  have G5 := hid (Grow.trans G4.out b5)
  clear c0 c1 c2 c3 c4 c5 c6 c7 c8 c9 c10 iy b5 Ix HB4 G4
  have HB5 := hid hb5
  clear hb5
  go_wp2_with fail
  have HW0 := hid (heap_new w5 (.cells #[.slice py L.length cy, .int .i64 N, .bool B] 30))
  have GW := hid (Grow.alloc w5 (.cells #[.slice py L.length cy, .int .i64 N, .bool B] 30))
  have hsz5 := hid (show (w5.alloc (.cells #[.slice py L.length cy, .int .i64 N, .bool B] 30)).heap.size = w5.heap.size + 1 from by simp)
  generalize w5.alloc (.cells #[.slice py L.length cy, .int .i64 N, .bool B] 30) = W at *
  generalize w5.heap.size = D at *
  have p0 : W.cell? ⟨D, 0, none⟩ = some (.slice py L.length cy) := by rw [heap_cell HW0.out]; rfl
  have p1 : W.cell? ⟨D, 1, none⟩ = some (.int .i64 N) := by rw [heap_cell HW0.out]; rfl
  have p2 : W.cell? ⟨D, 2, none⟩ = some (.bool B) := by rw [heap_cell HW0.out]; rfl
  have hbW := GW.out.heap HB5.out
  have c3 : W.cell? ⟨w.heap.size, 3, none⟩ = some (.int .i64 2) := by rw [heap_cell hbW]; rfl
  have l1 := heap_lt HW0.out
  have l2 := heap_lt hbW
  have HJ := hid (fun (w' : World) (hg : Grow W w') => RInts_c L (.slice px L.length cx) (.slice py L.length cy) w' (Ix5.out.grow (Grow.trans GW.out hg)) (Iy.out.grow (Grow.trans GW.out hg)))
  have GF := hid (Grow.trans G5.out GW.out)
  clear HW0 GW hsz5 hbW HB5 Ix5 Iy G5
  have HF1 := hid FirstRow2
  have HF2 := hid RFirstRow2
  clear HA HB HI HBOX
  refine wp_rely [.eq (.slice px L.length cx), .eq (.pointer (some ⟨D, 0, none⟩)), .eq (.slice py L.length cy), .eq (.bool true), .eq (.bool true), .eq (.int .i64 N), .eq (.pointer (some ⟨D, 1, none⟩)), .eq (.int .i64 N), .eq (.bool true), .eq (.bool true), .eq (.bool true), .eq (.bool B), .eq (.pointer (some ⟨D, 2, none⟩)), .eq (.bool B), .eq (.bool true), .eq (.bool true), .eq (.bool true), .eq (.pointer (some ⟨w.heap.size, 3, none⟩)), .eq (.int .i64 2), .row #[.int .i64 0] 3 1, .eq (.pointer (some ⟨w.heap.size, 3, none⟩)), .eq (.int .i64 2), .row #[.int .i64 0] 3 1, .eq (.bool true), .eq (.bool true), .eq (.bool true), .eq (.bool true), .eq (.bool true), .eq (.bool true)] (by kernel_rfl) (by kernel_rfl) (by kernel_rfl) ?_ ?_
  · simp only [relyGoals]
    refine ⟨?_, ?_, ?_, ?_, ?_, ?_, ?_, ?_, ?_, ?_, ?_, ?_, ?_, ?_, ?_, ?_, ?_, ?_, ?_, ?_, ?_, ?_, ?_, ?_, ?_, ?_, ?_, ?_, ?_, trivial⟩
    all_goals intro t w' hsz hg hdd hfr
    all_goals simp only [depsDid, Did, perAt, List.getElem?_cons_zero, List.getElem?_cons_succ, List.getD_cons_zero, List.getD_cons_succ, Per.eq, Per.row, Per.of, and_true, Array.getD_eq_getD_getElem?] at hdd
    · rw [if_pos (by rfl)]
      try simp only [perAt, List.getD_cons_zero, List.getD_cons_succ, Per.eq, Per.row, Per.of]
      have hs5 := hfr 5 (by kernel_rfl)
      simp only [Array.getD_eq_getD_getElem?] at hs5
      simp [execOp, Act.eval, hdd, hs5, relyUpon, go_sem, Grow.refl]
    · rw [if_pos (by rfl)]
      try simp only [perAt, List.getD_cons_zero, List.getD_cons_succ, Per.eq, Per.row, Per.of]
      have hs8 := hfr 8 (by kernel_rfl)
      simp only [Array.getD_eq_getD_getElem?] at hs8
      simp [execOp, Act.eval, hdd, hs8, relyUpon, go_sem, Grow.refl]
    · rw [if_pos (by rfl)]
      try simp only [perAt, List.getD_cons_zero, List.getD_cons_succ, Per.eq, Per.row, Per.of]
      have kc := hg.cells
      simp [execOp, Act.eval, hdd, relyUpon, go_sem, Grow.refl, kc, p0, p1, p2, c3, l1, l2]
    · rw [if_pos (by rfl)]
      try simp only [perAt, List.getD_cons_zero, List.getD_cons_succ, Per.eq, Per.row, Per.of]
      simp [execOp, Act.eval, hdd, relyUpon, go_sem]
      refine (HJ.out w' hg).mono fun e w'' h => ?_
      obtain ⟨h1, h2⟩ := h
      have h3 : Grow w' w'' := by first | exact h2 | (rw [← h2]; exact Grow.refl _)
      first | exact ⟨h3, h1⟩ | exact ⟨_, h1, h3, rfl⟩ | exact ⟨h1, h3⟩
    · rw [if_pos (by rfl)]
      try simp only [perAt, List.getD_cons_zero, List.getD_cons_succ, Per.eq, Per.row, Per.of]
      simp [execOp, Act.eval, hdd, relyUpon, go_sem, Grow.refl]
    · rw [if_pos (by simp only [Region.wanted]; rw [yielded_of (d := 32) (b := true) rfl (by simp only [hdd])]; rfl)]
      try simp only [perAt, List.getD_cons_zero, List.getD_cons_succ, Per.eq, Per.row, Per.of]
      have hs6 := hfr 6 (by kernel_rfl)
      simp only [Array.getD_eq_getD_getElem?] at hs6
      simp [execOp, Act.eval, hdd, hs6, relyUpon, go_sem, Grow.refl]
    · rw [if_pos (by simp only [Region.wanted]; rw [yielded_of (d := 32) (b := true) rfl (by simp only [hdd])]; rfl)]
      try simp only [perAt, List.getD_cons_zero, List.getD_cons_succ, Per.eq, Per.row, Per.of]
      have hs8 := hfr 8 (by kernel_rfl)
      simp only [Array.getD_eq_getD_getElem?] at hs8
      simp [execOp, Act.eval, hdd, hs8, relyUpon, go_sem, Grow.refl]
    · rw [if_pos (by simp only [Region.wanted]; rw [yielded_of (d := 32) (b := true) rfl (by simp only [hdd])]; rfl)]
      try simp only [perAt, List.getD_cons_zero, List.getD_cons_succ, Per.eq, Per.row, Per.of]
      have kc := hg.cells
      simp [execOp, Act.eval, hdd, relyUpon, go_sem, Grow.refl, kc, p0, p1, p2, c3, l1, l2]
    · rw [if_pos (by simp only [Region.wanted]; rw [yielded_of (d := 32) (b := true) rfl (by simp only [hdd])]; rfl)]
      try simp only [perAt, List.getD_cons_zero, List.getD_cons_succ, Per.eq, Per.row, Per.of]
      simp [execOp, Act.eval, hdd, relyUpon, go_sem, Grow.refl]
    · rw [if_pos (by rfl)]
      try simp only [perAt, List.getD_cons_zero, List.getD_cons_succ, Per.eq, Per.row, Per.of]
      simp [execOp, Act.eval, hdd, relyUpon, go_sem, Grow.refl]
    · rw [if_pos (by rfl)]
      try simp only [perAt, List.getD_cons_zero, List.getD_cons_succ, Per.eq, Per.row, Per.of]
      simp [execOp, Act.eval, hdd, relyUpon, go_sem, Grow.refl]
    · rw [if_pos (by simp only [Region.wanted]; rw [yielded_of (d := 38) (b := true) rfl (by simp only [hdd])]; rfl)]
      try simp only [perAt, List.getD_cons_zero, List.getD_cons_succ, Per.eq, Per.row, Per.of]
      have hs7 := hfr 7 (by kernel_rfl)
      simp only [Array.getD_eq_getD_getElem?] at hs7
      simp [execOp, Act.eval, hdd, hs7, relyUpon, go_sem, Grow.refl]
    · rw [if_pos (by simp only [Region.wanted]; rw [yielded_of (d := 38) (b := true) rfl (by simp only [hdd])]; rfl)]
      try simp only [perAt, List.getD_cons_zero, List.getD_cons_succ, Per.eq, Per.row, Per.of]
      have hs8 := hfr 8 (by kernel_rfl)
      simp only [Array.getD_eq_getD_getElem?] at hs8
      simp [execOp, Act.eval, hdd, hs8, relyUpon, go_sem, Grow.refl]
    · rw [if_pos (by simp only [Region.wanted]; rw [yielded_of (d := 38) (b := true) rfl (by simp only [hdd])]; rfl)]
      try simp only [perAt, List.getD_cons_zero, List.getD_cons_succ, Per.eq, Per.row, Per.of]
      have kc := hg.cells
      simp [execOp, Act.eval, hdd, relyUpon, go_sem, Grow.refl, kc, p0, p1, p2, c3, l1, l2]
    · rw [if_pos (by simp only [Region.wanted]; rw [yielded_of (d := 38) (b := true) rfl (by simp only [hdd])]; rfl)]
      try simp only [perAt, List.getD_cons_zero, List.getD_cons_succ, Per.eq, Per.row, Per.of]
      simp [execOp, Act.eval, hdd, relyUpon, go_sem, Grow.refl]
    · rw [if_pos (by rfl)]
      try simp only [perAt, List.getD_cons_zero, List.getD_cons_succ, Per.eq, Per.row, Per.of]
      simp [execOp, Act.eval, hdd, relyUpon, go_sem, Grow.refl]
    · rw [if_pos (by rfl)]
      try simp only [perAt, List.getD_cons_zero, List.getD_cons_succ, Per.eq, Per.row, Per.of]
      simp [execOp, Act.eval, hdd, relyUpon, go_sem, Grow.refl]
    · rw [if_pos (by simp only [Region.wanted]; rw [yielded_of (d := 44) (b := true) rfl (by simp only [hdd])]; rfl)]
      try simp only [perAt, List.getD_cons_zero, List.getD_cons_succ, Per.eq, Per.row, Per.of]
      have hs3 := hfr 3 (by kernel_rfl)
      simp only [Array.getD_eq_getD_getElem?] at hs3
      simp [execOp, Act.eval, hdd, hs3, relyUpon, go_sem, Grow.refl]
    · rw [if_pos (by simp only [Region.wanted]; rw [yielded_of (d := 44) (b := true) rfl (by simp only [hdd])]; rfl)]
      try simp only [perAt, List.getD_cons_zero, List.getD_cons_succ, Per.eq, Per.row, Per.of]
      have kc := hg.cells
      simp [execOp, Act.eval, hdd, relyUpon, go_sem, Grow.refl, kc, p0, p1, p2, c3, l1, l2]
    · rw [if_pos (by simp only [Region.wanted]; rw [yielded_of (d := 44) (b := true) rfl (by simp only [hdd])]; rfl)]
      try simp only [perAt, List.getD_cons_zero, List.getD_cons_succ, Per.eq, Per.row, Per.of]
      simp [execOp, Act.eval, hdd, relyUpon, go_sem]
      refine (HF1.out w').mono fun e w'' h => ?_
      obtain ⟨g, h1, h2, h3⟩ := h
      subst h1
      first | exact ⟨_, rfl, h3, g, rfl, h2⟩ | exact ⟨h3, g, rfl, h2⟩ | exact ⟨h3, rfl, h2⟩
    · rw [if_pos (by simp only [Region.wanted]; rw [yielded_of (d := 44) (b := true) rfl (by simp only [hdd])]; rfl)]
      try simp only [perAt, List.getD_cons_zero, List.getD_cons_succ, Per.eq, Per.row, Per.of]
      have hs3 := hfr 3 (by kernel_rfl)
      simp only [Array.getD_eq_getD_getElem?] at hs3
      simp [execOp, Act.eval, hdd, hs3, relyUpon, go_sem, Grow.refl]
    · rw [if_pos (by simp only [Region.wanted]; rw [yielded_of (d := 44) (b := true) rfl (by simp only [hdd])]; rfl)]
      try simp only [perAt, List.getD_cons_zero, List.getD_cons_succ, Per.eq, Per.row, Per.of]
      have kc := hg.cells
      simp [execOp, Act.eval, hdd, relyUpon, go_sem, Grow.refl, kc, p0, p1, p2, c3, l1, l2]
    · rw [if_pos (by simp only [Region.wanted]; rw [yielded_of (d := 44) (b := true) rfl (by simp only [hdd])]; rfl)]
      try simp only [perAt, List.getD_cons_zero, List.getD_cons_succ, Per.eq, Per.row, Per.of]
      simp [execOp, Act.eval, hdd, relyUpon, go_sem]
      refine (HF2.out w').mono fun e w'' h => ?_
      obtain ⟨g, h1, h2, h3⟩ := h
      subst h1
      first | exact ⟨_, rfl, h3, g, rfl, h2⟩ | exact ⟨h3, g, rfl, h2⟩ | exact ⟨h3, rfl, h2⟩
    · rw [if_pos (by simp only [Region.wanted]; rw [yielded_of (d := 44) (b := true) rfl (by simp only [hdd])]; rfl)]
      try simp only [perAt, List.getD_cons_zero, List.getD_cons_succ, Per.eq, Per.row, Per.of]
      obtain ⟨⟨g1, e1, b1⟩, ⟨g2, e2, b2⟩, -⟩ := hdd
      simp [execOp, Act.eval, e1, e2, relyUpon, go_sem]
      refine (RInts_c [0] _ _ w' (Ints.one b1) (Ints.one b2)).mono fun e w'' h => ?_
      obtain ⟨h1, h2⟩ := h
      first | exact ⟨h2, h1⟩ | exact ⟨_, h1, h2, rfl⟩ | exact ⟨h1, h2⟩
    · rw [if_pos (by rfl)]
      try simp only [perAt, List.getD_cons_zero, List.getD_cons_succ, Per.eq, Per.row, Per.of]
      simp [execOp, Act.eval, hdd, relyUpon, go_sem, Grow.refl]
    · rw [if_pos (by rfl)]
      try simp only [perAt, List.getD_cons_zero, List.getD_cons_succ, Per.eq, Per.row, Per.of]
      simp [execOp, Act.eval, hdd, relyUpon, go_sem, Grow.refl]
    · rw [if_pos (by simp only [Region.wanted]; rw [yielded_of (d := 53) (b := true) rfl (by simp only [hdd])]; rfl)]
      try simp only [perAt, List.getD_cons_zero, List.getD_cons_succ, Per.eq, Per.row, Per.of]
      simp [execOp, Act.eval, hdd, relyUpon, go_sem]
      refine (HW.out w').mono fun e w'' h => ?_
      obtain ⟨h1, h2⟩ := h
      have h3 : Grow w' w'' := by first | exact h2 | (rw [← h2]; exact Grow.refl _)
      first | exact ⟨h3, h1⟩ | exact ⟨_, h1, h3, rfl⟩ | exact ⟨h1, h3⟩
    · rw [if_pos (by rfl)]
      try simp only [perAt, List.getD_cons_zero, List.getD_cons_succ, Per.eq, Per.row, Per.of]
      simp [execOp, Act.eval, hdd, relyUpon, go_sem, Grow.refl]
    · rw [if_pos (by rfl)]
      try simp only [perAt, List.getD_cons_zero, List.getD_cons_succ, Per.eq, Per.row, Per.of]
      simp [execOp, Act.eval, hdd, relyUpon, go_sem, Grow.refl]
  intro wz hgz
  simp only [relyEnd, List.headD_cons, List.tail_cons, Per.eq, Per.row, Per.of]
  rintro _ rfl _ rfl _ rfl _ rfl _ rfl _ rfl _ rfl _ rfl _ rfl _ rfl _ rfl _ rfl _ rfl _ rfl _ rfl _ rfl _ rfl _ rfl _ rfl _ ⟨gz, rfl, hhz⟩ _ rfl _ rfl _ ⟨gz, rfl, hhz⟩ _ rfl _ rfl _ rfl _ rfl _ rfl _ rfl
  clear hhz
  go_simp
  go_wp2_with fail
  go_ret
  exact ⟨rfl, Grow.trans GF.out hgz⟩
set_option maxRecDepth 100000 in
set_option maxHeartbeats 4000000 in
theorem Does_n (id proc obj meth arg sec : Int) (done : Bool) (res inv ret : Int) (xs : List Int) (v : Value) (w : World) (hv : Ints w v xs) (hr : ¬ xs.Pairwise (· < ·)) :
    Calls Try.prog 4 #[v, .agg #[.int .i64 id, .int .i64 proc, .int .i64 obj, .int .i64 5, .int .i64 meth, .int .i64 arg, .int .i64 sec, .bool done, .int .i64 res, .int .i64 inv, .int .i64 ret]] w fun e w' => e = .returned (.bool true) ∧ Grow w w' := by
  have HRI := hid (fun w h => Rising_c xs v w h false (by simpa using hr))
  have HI := hid hv
  have HW := hid (fun w => awake_c w)
  have G1 := hid (Grow.alloc w (.cells #[.int .i64 id, .int .i64 proc, .int .i64 obj, .int .i64 5, .int .i64 meth, .int .i64 arg, .int .i64 sec, .bool done, .int .i64 res, .int .i64 inv, .int .i64 ret] 27))
  clear hv hr
  go_enter Try.func4, Try.ntmps4
  go_wp2_with fail
  refine (HRI.out _ (HI.out.grow G1.out)).mono ?_
  rintro e w2 ⟨rfl, g2⟩
  have G2 := hid (Grow.trans G1.out g2)
  clear g2
  go_wp2_with fail
  refine (HW.out _).mono ?_
  rintro e w5 ⟨rfl, b5⟩
  go_wp2_with fail
  go_ret
  exact ⟨rfl, Grow.trans G2.out b5⟩
theorem Does_walk (sa : Option Addr) (sn sc : Nat) (zs : List Int) (o : OpR) (w : World) (l0 : IntRow .i64 8 w sa sn sc zs) (l1 : o.Fit) :
    Calls Try.prog 4 #[.slice sa sn sc, .agg #[.int .i64 o.id, .int .i64 o.proc, .int .i64 o.obj, .int .i64 o.kind, .int .i64 o.meth, .int .i64 o.arg, .int .i64 o.sec, .bool o.done, .int .i64 o.res, .int .i64 o.inv, .int .i64 o.ret]] w fun e w' => e = .returned (.bool true) ∧ Below w.heap.size w w' := by
  obtain ⟨hi, hr⟩ := Ints.of_row l0
  have hx44 : (zs.take sn).length + 512 ≤ 17592186044416 := by
    rcases l0 with ⟨-, -, -, rfl⟩ | ⟨x, -, hl, hm, hz, -, -, hre⟩
    · simp
    · rw [List.length_take]; omega
  generalize zs.take sn = xs at hi hr hx44
  generalize Value.slice sa sn sc = v at hi ⊢
  clear l0 hr l1
  by_cases hk : o.kind = 5 ∧ ¬ xs.Pairwise (· < ·)
  · obtain ⟨hk, hr⟩ := hk
    obtain ⟨id, proc, obj, kind, meth, arg, sec, done, res, inv, ret⟩ := o
    dsimp only at *
    subst hk
    exact Does_n id proc obj meth arg sec done res inv ret xs v w hi hr
  · have hs : o.kind = 5 → xs.Pairwise (· < ·) := fun h => Classical.byContradiction fun h2 => hk ⟨h, h2⟩
    have hA := fun w h => DoAll_c xs o v w h (by omega) hs
    have hB := fun w h => RDo_c xs o v w h (by omega)
    generalize doL xs o = R at hA hB
    obtain ⟨L, N, B⟩ := R
    obtain ⟨id, proc, obj, kind, meth, arg, sec, done, res, inv, ret⟩ := o
    dsimp only at *
    by_cases h5 : kind = 5
    · subst h5
      exact Does_5 id proc obj meth arg sec done res inv ret xs v w hi (hs rfl) L N B hA hB
    · by_cases h1 : kind = 1
      · subst h1
        exact Does_1 id proc obj meth arg sec done res inv ret xs v w hi L N B hA hB
      · by_cases h2 : kind = 2
        · subst h2
          exact Does_2 id proc obj meth arg sec done res inv ret xs v w hi L N B hA hB
        · exact Does_x id proc obj kind meth arg sec done res inv ret xs v w hi h1 h2 (by simpa using h5) L N B hA hB
namespace LawModelDoes
open Go.ChangeShapes Go.WideShapes Go.ChangeAt Go.RowKit
open Go.ChangeMaps (open_string shut_string)
theorem own : ownKnob Try.prog.godebug = none := by kernel_rfl
theorem laidOut : laidOutB Try.prog = true := by kernel_rfl
set_option maxRecDepth 100000 in
theorem lifted (os : Os) (started : os.Started) (H : Type) (enc : TypeId × Value → H) :
    ReturnsInHanded {} Try.checked os 4 .any (Rows.modelDoesSpec.pre6 enc Try.prog Try.f4 Rows.modelDoesRow.domain false) (Rows.modelDoesSpec.post enc Try.prog Try.f4 false true false false) := by
  refine returnsInHanded_of_change_sized (C := Try.checked) own started (by kernel_rfl) Try.func4
    (ChangeSpec.witness6 (enc := enc) (C := Try.checked) false ⟨#[], #[.slice none 0 0, .agg #[.int .i64 0, .int .i64 0, .int .i64 0, .int .i64 0, .int .i64 0, .int .i64 0, .int .i64 0, .bool false, .int .i64 0, .int .i64 0, .int .i64 0]], []⟩ 8 (by kernel_rfl) (by kernel_rfl) (by kernel_rfl) (by kernel_rfl)) ?_
  intro W base args ds gs before hval0 hW hcnd hsz _
  have hval : ∀ (j : Nat) t v, Try.f4.params[j]? = some t → args[j]? = some v → Value.okWide Try.prog W .any base t v := hval0
  have hW' := hW
  obtain ⟨p, q, hA0, hV, rfl, hfz, hnd⟩ := hW
  have hA : DataW.TrodAll enc Try.prog W 0 (fun _ => true) true Try.f4.params.toList args.toList ds p := hA0
  rw [Try.params4] at hA hval hsz
  obtain ⟨v0, vs0, d0, ds0, p0, q0, hargs, rfl, rfl, h0, r0⟩ := trodAll_cons hA
  obtain ⟨v1, vs1, d1, ds1, p1, q1, rfl, rfl, rfl, h1, r1⟩ := trodAll_cons r0
  obtain ⟨rfl, rfl, rfl⟩ := trodAll_nil r1
  obtain rfl : args = #[v0, v1] := by cases args; simp_all
  obtain ⟨rfl, rfl⟩ := trodVars_none hV
  obtain ⟨a0, n0, c0, rfl⟩ := okWide_slice Try.underlying22 (hval 0 22 v0 rfl rfl)
  have k0 := h0
  have lt0 : ∀ x ∈ p0, x.block < W.heap.size := by obtain ⟨m, hm⟩ := k0; exact DataW.trod_lt m _ _ _ hm
  obtain ⟨z0, w0⟩ : ∃ zs, IntRow .i64 8 W a0 n0 c0 zs := by
    obtain ⟨fuel, hf⟩ := h0
    rcases open_ints Try.underlying22 Try.underlying3 (by kernel_rfl) hf with ⟨hcs, _⟩ | ⟨x, l, c, zs, hcs, _, hl, hm, hz, hx, hcell, hwz⟩
    · simp [Value.cells] at hcs
      obtain ⟨rfl, rfl, rfl⟩ := hcs
      exact ⟨[], .inl ⟨rfl, rfl, rfl, rfl⟩⟩
    · simp [Value.cells] at hcs
      obtain ⟨rfl, rfl, rfl⟩ := hcs
      simp only [Prod.mk.injEq] at hx
      obtain ⟨rfl, _⟩ := hx
      have hre := sized_slice hsz (j := 0) (t := 22) rfl rfl Try.underlying22
      have hby : Try.checked.prog.bytesOf 3 = 8 := by kernel_rfl
      rw [hby] at hre
      simp only [lits, List.length_map, List.length_take, List.length_drop, reachBytes] at hre
      have hz' : zs.length = c0 := by simpa using hz
      exact ⟨zs, .inr ⟨_, rfl, hl, hm, hz', hcell, hwz, by rw [← hz']; omega⟩⟩
  have k1 := h1
  have lt1 : ∀ x ∈ p1, x.block < W.heap.size := by obtain ⟨m, hm⟩ := k1; exact DataW.trod_lt m _ _ _ hm
  obtain ⟨a1, rfl, w1⟩ := open_op (hval 1 27 v1 rfl rfl) h1
  clear hA0 hval0
  refine (Does_walk a0 n0 c0 z0 a1 W w0 w1).mono fun e W' ⟨he, bel⟩ => ?_
  subst he
  exact ⟨_, rfl, _, _, _, [], _, [], hW', trodAll_mk1 (shut_bool Try.underlying4 _), (trodAll_cons_mk (Below.trod laidOut (by kernel_rfl) (of_decide_eq_true (by kernel_rfl)) k0 bel lt0) (trodAll_cons_mk (Below.trod laidOut (by kernel_rfl) (of_decide_eq_true (by kernel_rfl)) k1 bel lt1) trodAll_mk0)), rfl, bel.frame _, fun h => by cases h⟩
theorem over : Rows.modelDoesRow.holds Try.pinned (OpenSpec.ofChange Rows.modelDoesSpec) :=
  OpenClaim.holds_of_wide 4 Try.f4 rfl rfl rfl rfl rfl rfl rfl ⟨rfl, rfl, rfl, rfl, rfl⟩ rfl rfl rfl rfl rfl (by kernel_rfl) Try.func4 (by kernel_rfl)
    (of_decide_eq_true (by kernel_rfl)) (by unfold Func.isWrapper; first | (rw [if_pos (by decide +kernel)]; kernel_rfl) | (rw [if_neg (by decide +kernel)]; exact ⟨rfl, rfl⟩))
    (fun os started H enc _ => lifted os started H enc)
end LawModelDoes
/-- The given statement. -/
theorem modelDoes_proved : Rows.ModelDoesSaid := LawModelDoes.over
#print axioms modelDoes_proved
end Go.Proofs.Ytookcollmijjkaa
