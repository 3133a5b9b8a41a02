/- Which operations are before others, and which overlap. -/
import Derived.Test.YtdeegepmampanaaOpAwake
import Derived.Test.YtdeegepmampanaaOpLift
namespace Go.Proofs.Ytdeegepmampanaa
open Go.RowKit
set_option linter.unusedVariables false
set_option linter.unusedSimpArgs false
set_option maxRecDepth 100000 in
set_option maxHeartbeats 1000000 in
theorem OpTimes_walk (a b : OpR) (w : World) (l1 : a.Fit) (l2 : b.Fit) :
    Calls Try.prog 5 #[.agg #[.int .i64 a.id, .int .i64 a.proc, .int .i64 a.obj, .int .i64 a.kind, .int .i64 a.meth, .int .i64 a.arg, .int .i64 a.sec, .bool a.done, .int .i64 a.res, .int .i64 a.inv, .int .i64 a.ret], .agg #[.int .i64 b.id, .int .i64 b.proc, .int .i64 b.obj, .int .i64 b.kind, .int .i64 b.meth, .int .i64 b.arg, .int .i64 b.sec, .bool b.done, .int .i64 b.res, .int .i64 b.inv, .int .i64 b.ret]] w fun e w' => e = .returned (.bool true) ∧ Below w.heap.size w w' := by
  have c1 := hid (fun w => Before_c a b w)
  have c2 := hid (fun w => RBefore_c a b w)
  have c3 := hid (fun w => RBefore_c b a w)
  have c4 := hid (fun w => Overlap_c a b w)
  clear l1 l2
  generalize befB a b = X at *
  generalize befB b a = Y at *
  obtain ⟨id, proc, obj, kind, meth, arg, sec, done, res, inv, ret⟩ := a
  obtain ⟨bid, bproc, bobj, bkind, bmeth, barg, bsec, bdone, bres, binv, bret⟩ := b
  dsimp only at *
  cases X <;> cases Y
  · go_enter Try.func5, Try.ntmps5
    go_wp2_with fail
    refine wp_rely [.eq (.agg #[.int .i64 id, .int .i64 proc, .int .i64 obj, .int .i64 kind, .int .i64 meth, .int .i64 arg, .int .i64 sec, .bool done, .int .i64 res, .int .i64 inv, .int .i64 ret]), .eq (.agg #[.int .i64 bid, .int .i64 bproc, .int .i64 bobj, .int .i64 bkind, .int .i64 bmeth, .int .i64 barg, .int .i64 bsec, .bool bdone, .int .i64 bres, .int .i64 binv, .int .i64 bret]), .eq (.bool false), .eq (.agg #[.int .i64 id, .int .i64 proc, .int .i64 obj, .int .i64 kind, .int .i64 meth, .int .i64 arg, .int .i64 sec, .bool done, .int .i64 res, .int .i64 inv, .int .i64 ret]), .eq (.agg #[.int .i64 bid, .int .i64 bproc, .int .i64 bobj, .int .i64 bkind, .int .i64 bmeth, .int .i64 barg, .int .i64 bsec, .bool bdone, .int .i64 bres, .int .i64 binv, .int .i64 bret]), .eq (.bool false), .eq (.bool true), .eq (.bool true), .eq (.agg #[.int .i64 id, .int .i64 proc, .int .i64 obj, .int .i64 kind, .int .i64 meth, .int .i64 arg, .int .i64 sec, .bool done, .int .i64 res, .int .i64 inv, .int .i64 ret]), .eq (.agg #[.int .i64 bid, .int .i64 bproc, .int .i64 bobj, .int .i64 bkind, .int .i64 bmeth, .int .i64 barg, .int .i64 bsec, .bool bdone, .int .i64 bres, .int .i64 binv, .int .i64 bret]), .eq (.bool true), .eq (.agg #[.int .i64 id, .int .i64 proc, .int .i64 obj, .int .i64 kind, .int .i64 meth, .int .i64 arg, .int .i64 sec, .bool done, .int .i64 res, .int .i64 inv, .int .i64 ret]), .eq (.agg #[.int .i64 bid, .int .i64 bproc, .int .i64 bobj, .int .i64 bkind, .int .i64 bmeth, .int .i64 barg, .int .i64 bsec, .bool bdone, .int .i64 bres, .int .i64 binv, .int .i64 bret]), .eq (.bool false), .eq (.bool true), .eq (.bool true), .eq (.agg #[.int .i64 bid, .int .i64 bproc, .int .i64 bobj, .int .i64 bkind, .int .i64 bmeth, .int .i64 barg, .int .i64 bsec, .bool bdone, .int .i64 bres, .int .i64 binv, .int .i64 bret]), .eq (.agg #[.int .i64 id, .int .i64 proc, .int .i64 obj, .int .i64 kind, .int .i64 meth, .int .i64 arg, .int .i64 sec, .bool done, .int .i64 res, .int .i64 inv, .int .i64 ret]), .eq (.bool false), .eq (.bool true), .eq (.bool true), .eq (.bool true), .eq (.bool true), .eq (.bool true), .eq (.bool true), .eq (.bool true), .eq (.bool true)] (by kernel_rfl) (by kernel_rfl) (by kernel_rfl) ?_ ?_
    · simp only [relyGoals]
      refine ⟨?_, ?_, ?_, ?_, ?_, ?_, ?_, ?_, ?_, ?_, ?_, ?_, ?_, ?_, ?_, ?_, ?_, ?_, ?_, ?_, ?_, ?_, ?_, ?_, ?_, ?_, ?_, trivial⟩
      all_goals intro t w' hsz hg hdd hfr
      all_goals simp only [depsDid, Did, perAt, List.getElem?_cons_zero, List.getElem?_cons_succ, List.getD_cons_zero, List.getD_cons_succ, Per.eq, Per.row, Per.of, and_true, Array.getD_eq_getD_getElem?] at hdd
      · rw [if_pos (by rfl)]
        try simp only [perAt, List.getD_cons_zero, List.getD_cons_succ, Per.eq, Per.row, Per.of]
        have hs2 := hfr 2 rfl
        simp only [Array.getD_eq_getD_getElem?] at hs2
        have kc := hg.cells
        simp [execOp, Act.eval, hdd, hs2, relyUpon, go_sem, Grow.refl, kc]
      · rw [if_pos (by rfl)]
        try simp only [perAt, List.getD_cons_zero, List.getD_cons_succ, Per.eq, Per.row, Per.of]
        have hs3 := hfr 3 rfl
        simp only [Array.getD_eq_getD_getElem?] at hs3
        have kc := hg.cells
        simp [execOp, Act.eval, hdd, hs3, relyUpon, go_sem, Grow.refl, kc]
      · rw [if_pos (by rfl)]
        try simp only [perAt, List.getD_cons_zero, List.getD_cons_succ, Per.eq, Per.row, Per.of]
        simp [execOp, Act.eval, hdd, relyUpon, go_sem]
        refine (c1.out w').mono fun e w'' h => ?_
        obtain ⟨h1, h2⟩ := h
        have h3 : Grow w' w'' := by first | exact h2 | (rw [← h2]; exact Grow.refl _)
        first | exact ⟨h3, h1⟩ | exact ⟨_, h1, h3, rfl⟩ | exact ⟨h1, h3⟩
      · rw [if_pos (by rfl)]
        try simp only [perAt, List.getD_cons_zero, List.getD_cons_succ, Per.eq, Per.row, Per.of]
        have hs2 := hfr 2 rfl
        simp only [Array.getD_eq_getD_getElem?] at hs2
        have kc := hg.cells
        simp [execOp, Act.eval, hdd, hs2, relyUpon, go_sem, Grow.refl, kc]
      · rw [if_pos (by rfl)]
        try simp only [perAt, List.getD_cons_zero, List.getD_cons_succ, Per.eq, Per.row, Per.of]
        have hs3 := hfr 3 rfl
        simp only [Array.getD_eq_getD_getElem?] at hs3
        have kc := hg.cells
        simp [execOp, Act.eval, hdd, hs3, relyUpon, go_sem, Grow.refl, kc]
      · rw [if_pos (by rfl)]
        try simp only [perAt, List.getD_cons_zero, List.getD_cons_succ, Per.eq, Per.row, Per.of]
        simp [execOp, Act.eval, hdd, relyUpon, go_sem]
        refine (c2.out w').mono fun e w'' h => ?_
        obtain ⟨h1, h2⟩ := h
        have h3 : Grow w' w'' := by first | exact h2 | (rw [← h2]; exact Grow.refl _)
        first | exact ⟨h3, h1⟩ | exact ⟨_, h1, h3, rfl⟩ | exact ⟨h1, h3⟩
      · rw [if_pos (by rfl)]
        try simp only [perAt, List.getD_cons_zero, List.getD_cons_succ, Per.eq, Per.row, Per.of]
        simp [execOp, Act.eval, hdd, relyUpon, go_sem, Grow.refl]
      · rw [if_pos (by rfl)]
        try simp only [perAt, List.getD_cons_zero, List.getD_cons_succ, Per.eq, Per.row, Per.of]
        simp [execOp, Act.eval, hdd, relyUpon, go_sem, Grow.refl]
      · rw [if_pos (by simp only [Region.wanted]; rw [yielded_of (d := 12) (b := true) rfl (by simp only [hdd])]; rfl)]
        try simp only [perAt, List.getD_cons_zero, List.getD_cons_succ, Per.eq, Per.row, Per.of]
        have hs2 := hfr 2 rfl
        simp only [Array.getD_eq_getD_getElem?] at hs2
        have kc := hg.cells
        simp [execOp, Act.eval, hdd, hs2, relyUpon, go_sem, Grow.refl, kc]
      · rw [if_pos (by simp only [Region.wanted]; rw [yielded_of (d := 12) (b := true) rfl (by simp only [hdd])]; rfl)]
        try simp only [perAt, List.getD_cons_zero, List.getD_cons_succ, Per.eq, Per.row, Per.of]
        have hs3 := hfr 3 rfl
        simp only [Array.getD_eq_getD_getElem?] at hs3
        have kc := hg.cells
        simp [execOp, Act.eval, hdd, hs3, relyUpon, go_sem, Grow.refl, kc]
      · rw [if_pos (by simp only [Region.wanted]; rw [yielded_of (d := 12) (b := true) rfl (by simp only [hdd])]; rfl)]
        try simp only [perAt, List.getD_cons_zero, List.getD_cons_succ, Per.eq, Per.row, Per.of]
        simp [execOp, Act.eval, hdd, relyUpon, go_sem]
        refine (c4.out w').mono fun e w'' h => ?_
        obtain ⟨h1, h2⟩ := h
        have h3 : Grow w' w'' := by first | exact h2 | (rw [← h2]; exact Grow.refl _)
        first | exact ⟨h3, h1⟩ | exact ⟨_, h1, h3, rfl⟩ | exact ⟨h1, h3⟩
      · rw [if_pos (by simp only [Region.wanted]; rw [yielded_of (d := 12) (b := true) rfl (by simp only [hdd])]; rfl)]
        try simp only [perAt, List.getD_cons_zero, List.getD_cons_succ, Per.eq, Per.row, Per.of]
        have hs2 := hfr 2 rfl
        simp only [Array.getD_eq_getD_getElem?] at hs2
        have kc := hg.cells
        simp [execOp, Act.eval, hdd, hs2, relyUpon, go_sem, Grow.refl, kc]
      · rw [if_pos (by simp only [Region.wanted]; rw [yielded_of (d := 12) (b := true) rfl (by simp only [hdd])]; rfl)]
        try simp only [perAt, List.getD_cons_zero, List.getD_cons_succ, Per.eq, Per.row, Per.of]
        have hs3 := hfr 3 rfl
        simp only [Array.getD_eq_getD_getElem?] at hs3
        have kc := hg.cells
        simp [execOp, Act.eval, hdd, hs3, relyUpon, go_sem, Grow.refl, kc]
      · rw [if_pos (by simp only [Region.wanted]; rw [yielded_of (d := 12) (b := true) rfl (by simp only [hdd])]; rfl)]
        try simp only [perAt, List.getD_cons_zero, List.getD_cons_succ, Per.eq, Per.row, Per.of]
        simp [execOp, Act.eval, hdd, relyUpon, go_sem]
        refine (c2.out w').mono fun e w'' h => ?_
        obtain ⟨h1, h2⟩ := h
        have h3 : Grow w' w'' := by first | exact h2 | (rw [← h2]; exact Grow.refl _)
        first | exact ⟨h3, h1⟩ | exact ⟨_, h1, h3, rfl⟩ | exact ⟨h1, h3⟩
      · rw [if_pos (by simp only [Region.wanted]; rw [yielded_of (d := 12) (b := true) rfl (by simp only [hdd])]; rfl)]
        try simp only [perAt, List.getD_cons_zero, List.getD_cons_succ, Per.eq, Per.row, Per.of]
        simp [execOp, Act.eval, hdd, relyUpon, go_sem, Grow.refl]
      · rw [if_pos (by simp only [Region.wanted]; rw [yielded_of (d := 12) (b := true) rfl (by simp only [hdd])]; rfl)]
        try simp only [perAt, List.getD_cons_zero, List.getD_cons_succ, Per.eq, Per.row, Per.of]
        simp [execOp, Act.eval, hdd, relyUpon, go_sem, Grow.refl]
      · rw [if_pos (by simp only [Region.wanted]; rw [yielded_of (d := 20) (b := true) rfl (by simp only [hdd])]; rfl)]
        try simp only [perAt, List.getD_cons_zero, List.getD_cons_succ, Per.eq, Per.row, Per.of]
        have hs3 := hfr 3 rfl
        simp only [Array.getD_eq_getD_getElem?] at hs3
        have kc := hg.cells
        simp [execOp, Act.eval, hdd, hs3, relyUpon, go_sem, Grow.refl, kc]
      · rw [if_pos (by simp only [Region.wanted]; rw [yielded_of (d := 20) (b := true) rfl (by simp only [hdd])]; rfl)]
        try simp only [perAt, List.getD_cons_zero, List.getD_cons_succ, Per.eq, Per.row, Per.of]
        have hs2 := hfr 2 rfl
        simp only [Array.getD_eq_getD_getElem?] at hs2
        have kc := hg.cells
        simp [execOp, Act.eval, hdd, hs2, relyUpon, go_sem, Grow.refl, kc]
      · rw [if_pos (by simp only [Region.wanted]; rw [yielded_of (d := 20) (b := true) rfl (by simp only [hdd])]; rfl)]
        try simp only [perAt, List.getD_cons_zero, List.getD_cons_succ, Per.eq, Per.row, Per.of]
        simp [execOp, Act.eval, hdd, relyUpon, go_sem]
        refine (c3.out w').mono fun e w'' h => ?_
        obtain ⟨h1, h2⟩ := h
        have h3 : Grow w' w'' := by first | exact h2 | (rw [← h2]; exact Grow.refl _)
        first | exact ⟨h3, h1⟩ | exact ⟨_, h1, h3, rfl⟩ | exact ⟨h1, h3⟩
      · rw [if_pos (by simp only [Region.wanted]; rw [yielded_of (d := 20) (b := true) rfl (by simp only [hdd])]; rfl)]
        try simp only [perAt, List.getD_cons_zero, List.getD_cons_succ, Per.eq, Per.row, Per.of]
        simp [execOp, Act.eval, hdd, relyUpon, go_sem, Grow.refl]
      · rw [if_pos (by simp only [Region.wanted]; rw [yielded_of (d := 12) (b := true) rfl (by simp only [hdd])]; rfl)]
        try simp only [perAt, List.getD_cons_zero, List.getD_cons_succ, Per.eq, Per.row, Per.of]
        simp [execOp, Act.eval, hdd, relyUpon, go_sem, Grow.refl]
      · rw [if_pos (by simp only [Region.wanted]; rw [yielded_of (d := 12) (b := true) rfl (by simp only [hdd])]; rfl)]
        try simp only [perAt, List.getD_cons_zero, List.getD_cons_succ, Per.eq, Per.row, Per.of]
        simp [execOp, Act.eval, hdd, relyUpon, go_sem, Grow.refl]
      · rw [if_pos (by rfl)]
        try simp only [perAt, List.getD_cons_zero, List.getD_cons_succ, Per.eq, Per.row, Per.of]
        simp [execOp, Act.eval, hdd, relyUpon, go_sem, Grow.refl]
      · rw [if_pos (by rfl)]
        try simp only [perAt, List.getD_cons_zero, List.getD_cons_succ, Per.eq, Per.row, Per.of]
        simp [execOp, Act.eval, hdd, relyUpon, go_sem, Grow.refl]
      · rw [if_pos (by simp only [Region.wanted]; rw [yielded_of (d := 28) (b := true) rfl (by simp only [hdd])]; rfl)]
        try simp only [perAt, List.getD_cons_zero, List.getD_cons_succ, Per.eq, Per.row, Per.of]
        simp [execOp, Act.eval, hdd, relyUpon, go_sem]
        refine (awake_c w').mono fun e w'' h => ?_
        obtain ⟨h1, h2⟩ := h
        have h3 : Grow w' w'' := by first | exact h2 | (rw [← h2]; exact Grow.refl _)
        first | exact ⟨h3, h1⟩ | exact ⟨_, h1, h3, rfl⟩ | exact ⟨h1, h3⟩
      · rw [if_pos (by rfl)]
        try simp only [perAt, List.getD_cons_zero, List.getD_cons_succ, Per.eq, Per.row, Per.of]
        simp [execOp, Act.eval, hdd, relyUpon, go_sem, Grow.refl]
      · rw [if_pos (by rfl)]
        try simp only [perAt, List.getD_cons_zero, List.getD_cons_succ, Per.eq, Per.row, Per.of]
        simp [execOp, Act.eval, hdd, relyUpon, go_sem, Grow.refl]
    intro wz hgz
    simp only [relyEnd, List.headD_cons, List.tail_cons, Per.eq, Per.row, Per.of]
    rintro _ rfl _ rfl _ rfl _ rfl _ rfl _ rfl _ rfl _ rfl _ rfl _ rfl _ rfl _ rfl _ rfl _ rfl _ rfl _ rfl _ rfl _ rfl _ rfl _ rfl _ rfl _ rfl _ rfl _ rfl _ rfl _ rfl _ rfl
    go_simp
    go_wp2_with fail
    go_ret
    exact ⟨rfl, Grow.trans (Grow.trans (Grow.alloc _ _) (Grow.alloc _ _)) hgz⟩
  · go_enter Try.func5, Try.ntmps5
    go_wp2_with fail
    refine wp_rely [.eq (.agg #[.int .i64 id, .int .i64 proc, .int .i64 obj, .int .i64 kind, .int .i64 meth, .int .i64 arg, .int .i64 sec, .bool done, .int .i64 res, .int .i64 inv, .int .i64 ret]), .eq (.agg #[.int .i64 bid, .int .i64 bproc, .int .i64 bobj, .int .i64 bkind, .int .i64 bmeth, .int .i64 barg, .int .i64 bsec, .bool bdone, .int .i64 bres, .int .i64 binv, .int .i64 bret]), .eq (.bool false), .eq (.agg #[.int .i64 id, .int .i64 proc, .int .i64 obj, .int .i64 kind, .int .i64 meth, .int .i64 arg, .int .i64 sec, .bool done, .int .i64 res, .int .i64 inv, .int .i64 ret]), .eq (.agg #[.int .i64 bid, .int .i64 bproc, .int .i64 bobj, .int .i64 bkind, .int .i64 bmeth, .int .i64 barg, .int .i64 bsec, .bool bdone, .int .i64 bres, .int .i64 binv, .int .i64 bret]), .eq (.bool false), .eq (.bool true), .eq (.bool true), .eq (.agg #[.int .i64 id, .int .i64 proc, .int .i64 obj, .int .i64 kind, .int .i64 meth, .int .i64 arg, .int .i64 sec, .bool done, .int .i64 res, .int .i64 inv, .int .i64 ret]), .eq (.agg #[.int .i64 bid, .int .i64 bproc, .int .i64 bobj, .int .i64 bkind, .int .i64 bmeth, .int .i64 barg, .int .i64 bsec, .bool bdone, .int .i64 bres, .int .i64 binv, .int .i64 bret]), .eq (.bool false), .eq (.agg #[.int .i64 id, .int .i64 proc, .int .i64 obj, .int .i64 kind, .int .i64 meth, .int .i64 arg, .int .i64 sec, .bool done, .int .i64 res, .int .i64 inv, .int .i64 ret]), .eq (.agg #[.int .i64 bid, .int .i64 bproc, .int .i64 bobj, .int .i64 bkind, .int .i64 bmeth, .int .i64 barg, .int .i64 bsec, .bool bdone, .int .i64 bres, .int .i64 binv, .int .i64 bret]), .eq (.bool false), .eq (.bool true), .eq (.bool true), .eq (.agg #[.int .i64 bid, .int .i64 bproc, .int .i64 bobj, .int .i64 bkind, .int .i64 bmeth, .int .i64 barg, .int .i64 bsec, .bool bdone, .int .i64 bres, .int .i64 binv, .int .i64 bret]), .eq (.agg #[.int .i64 id, .int .i64 proc, .int .i64 obj, .int .i64 kind, .int .i64 meth, .int .i64 arg, .int .i64 sec, .bool done, .int .i64 res, .int .i64 inv, .int .i64 ret]), .eq (.bool true), .eq (.bool false), .eq (.bool false), .eq (.bool true), .eq (.bool true), .eq (.bool true), .eq (.bool true), .eq (.bool true), .eq (.bool true)] (by kernel_rfl) (by kernel_rfl) (by kernel_rfl) ?_ ?_
    · simp only [relyGoals]
      refine ⟨?_, ?_, ?_, ?_, ?_, ?_, ?_, ?_, ?_, ?_, ?_, ?_, ?_, ?_, ?_, ?_, ?_, ?_, ?_, ?_, ?_, ?_, ?_, ?_, ?_, ?_, ?_, trivial⟩
      all_goals intro t w' hsz hg hdd hfr
      all_goals simp only [depsDid, Did, perAt, List.getElem?_cons_zero, List.getElem?_cons_succ, List.getD_cons_zero, List.getD_cons_succ, Per.eq, Per.row, Per.of, and_true, Array.getD_eq_getD_getElem?] at hdd
      · rw [if_pos (by rfl)]
        try simp only [perAt, List.getD_cons_zero, List.getD_cons_succ, Per.eq, Per.row, Per.of]
        have hs2 := hfr 2 rfl
        simp only [Array.getD_eq_getD_getElem?] at hs2
        have kc := hg.cells
        simp [execOp, Act.eval, hdd, hs2, relyUpon, go_sem, Grow.refl, kc]
      · rw [if_pos (by rfl)]
        try simp only [perAt, List.getD_cons_zero, List.getD_cons_succ, Per.eq, Per.row, Per.of]
        have hs3 := hfr 3 rfl
        simp only [Array.getD_eq_getD_getElem?] at hs3
        have kc := hg.cells
        simp [execOp, Act.eval, hdd, hs3, relyUpon, go_sem, Grow.refl, kc]
      · rw [if_pos (by rfl)]
        try simp only [perAt, List.getD_cons_zero, List.getD_cons_succ, Per.eq, Per.row, Per.of]
        simp [execOp, Act.eval, hdd, relyUpon, go_sem]
        refine (c1.out w').mono fun e w'' h => ?_
        obtain ⟨h1, h2⟩ := h
        have h3 : Grow w' w'' := by first | exact h2 | (rw [← h2]; exact Grow.refl _)
        first | exact ⟨h3, h1⟩ | exact ⟨_, h1, h3, rfl⟩ | exact ⟨h1, h3⟩
      · rw [if_pos (by rfl)]
        try simp only [perAt, List.getD_cons_zero, List.getD_cons_succ, Per.eq, Per.row, Per.of]
        have hs2 := hfr 2 rfl
        simp only [Array.getD_eq_getD_getElem?] at hs2
        have kc := hg.cells
        simp [execOp, Act.eval, hdd, hs2, relyUpon, go_sem, Grow.refl, kc]
      · rw [if_pos (by rfl)]
        try simp only [perAt, List.getD_cons_zero, List.getD_cons_succ, Per.eq, Per.row, Per.of]
        have hs3 := hfr 3 rfl
        simp only [Array.getD_eq_getD_getElem?] at hs3
        have kc := hg.cells
        simp [execOp, Act.eval, hdd, hs3, relyUpon, go_sem, Grow.refl, kc]
      · rw [if_pos (by rfl)]
        try simp only [perAt, List.getD_cons_zero, List.getD_cons_succ, Per.eq, Per.row, Per.of]
        simp [execOp, Act.eval, hdd, relyUpon, go_sem]
        refine (c2.out w').mono fun e w'' h => ?_
        obtain ⟨h1, h2⟩ := h
        have h3 : Grow w' w'' := by first | exact h2 | (rw [← h2]; exact Grow.refl _)
        first | exact ⟨h3, h1⟩ | exact ⟨_, h1, h3, rfl⟩ | exact ⟨h1, h3⟩
      · rw [if_pos (by rfl)]
        try simp only [perAt, List.getD_cons_zero, List.getD_cons_succ, Per.eq, Per.row, Per.of]
        simp [execOp, Act.eval, hdd, relyUpon, go_sem, Grow.refl]
      · rw [if_pos (by rfl)]
        try simp only [perAt, List.getD_cons_zero, List.getD_cons_succ, Per.eq, Per.row, Per.of]
        simp [execOp, Act.eval, hdd, relyUpon, go_sem, Grow.refl]
      · rw [if_pos (by simp only [Region.wanted]; rw [yielded_of (d := 12) (b := true) rfl (by simp only [hdd])]; rfl)]
        try simp only [perAt, List.getD_cons_zero, List.getD_cons_succ, Per.eq, Per.row, Per.of]
        have hs2 := hfr 2 rfl
        simp only [Array.getD_eq_getD_getElem?] at hs2
        have kc := hg.cells
        simp [execOp, Act.eval, hdd, hs2, relyUpon, go_sem, Grow.refl, kc]
      · rw [if_pos (by simp only [Region.wanted]; rw [yielded_of (d := 12) (b := true) rfl (by simp only [hdd])]; rfl)]
        try simp only [perAt, List.getD_cons_zero, List.getD_cons_succ, Per.eq, Per.row, Per.of]
        have hs3 := hfr 3 rfl
        simp only [Array.getD_eq_getD_getElem?] at hs3
        have kc := hg.cells
        simp [execOp, Act.eval, hdd, hs3, relyUpon, go_sem, Grow.refl, kc]
      · rw [if_pos (by simp only [Region.wanted]; rw [yielded_of (d := 12) (b := true) rfl (by simp only [hdd])]; rfl)]
        try simp only [perAt, List.getD_cons_zero, List.getD_cons_succ, Per.eq, Per.row, Per.of]
        simp [execOp, Act.eval, hdd, relyUpon, go_sem]
        refine (c4.out w').mono fun e w'' h => ?_
        obtain ⟨h1, h2⟩ := h
        have h3 : Grow w' w'' := by first | exact h2 | (rw [← h2]; exact Grow.refl _)
        first | exact ⟨h3, h1⟩ | exact ⟨_, h1, h3, rfl⟩ | exact ⟨h1, h3⟩
      · rw [if_pos (by simp only [Region.wanted]; rw [yielded_of (d := 12) (b := true) rfl (by simp only [hdd])]; rfl)]
        try simp only [perAt, List.getD_cons_zero, List.getD_cons_succ, Per.eq, Per.row, Per.of]
        have hs2 := hfr 2 rfl
        simp only [Array.getD_eq_getD_getElem?] at hs2
        have kc := hg.cells
        simp [execOp, Act.eval, hdd, hs2, relyUpon, go_sem, Grow.refl, kc]
      · rw [if_pos (by simp only [Region.wanted]; rw [yielded_of (d := 12) (b := true) rfl (by simp only [hdd])]; rfl)]
        try simp only [perAt, List.getD_cons_zero, List.getD_cons_succ, Per.eq, Per.row, Per.of]
        have hs3 := hfr 3 rfl
        simp only [Array.getD_eq_getD_getElem?] at hs3
        have kc := hg.cells
        simp [execOp, Act.eval, hdd, hs3, relyUpon, go_sem, Grow.refl, kc]
      · rw [if_pos (by simp only [Region.wanted]; rw [yielded_of (d := 12) (b := true) rfl (by simp only [hdd])]; rfl)]
        try simp only [perAt, List.getD_cons_zero, List.getD_cons_succ, Per.eq, Per.row, Per.of]
        simp [execOp, Act.eval, hdd, relyUpon, go_sem]
        refine (c2.out w').mono fun e w'' h => ?_
        obtain ⟨h1, h2⟩ := h
        have h3 : Grow w' w'' := by first | exact h2 | (rw [← h2]; exact Grow.refl _)
        first | exact ⟨h3, h1⟩ | exact ⟨_, h1, h3, rfl⟩ | exact ⟨h1, h3⟩
      · rw [if_pos (by simp only [Region.wanted]; rw [yielded_of (d := 12) (b := true) rfl (by simp only [hdd])]; rfl)]
        try simp only [perAt, List.getD_cons_zero, List.getD_cons_succ, Per.eq, Per.row, Per.of]
        simp [execOp, Act.eval, hdd, relyUpon, go_sem, Grow.refl]
      · rw [if_pos (by simp only [Region.wanted]; rw [yielded_of (d := 12) (b := true) rfl (by simp only [hdd])]; rfl)]
        try simp only [perAt, List.getD_cons_zero, List.getD_cons_succ, Per.eq, Per.row, Per.of]
        simp [execOp, Act.eval, hdd, relyUpon, go_sem, Grow.refl]
      · rw [if_pos (by simp only [Region.wanted]; rw [yielded_of (d := 20) (b := true) rfl (by simp only [hdd])]; rfl)]
        try simp only [perAt, List.getD_cons_zero, List.getD_cons_succ, Per.eq, Per.row, Per.of]
        have hs3 := hfr 3 rfl
        simp only [Array.getD_eq_getD_getElem?] at hs3
        have kc := hg.cells
        simp [execOp, Act.eval, hdd, hs3, relyUpon, go_sem, Grow.refl, kc]
      · rw [if_pos (by simp only [Region.wanted]; rw [yielded_of (d := 20) (b := true) rfl (by simp only [hdd])]; rfl)]
        try simp only [perAt, List.getD_cons_zero, List.getD_cons_succ, Per.eq, Per.row, Per.of]
        have hs2 := hfr 2 rfl
        simp only [Array.getD_eq_getD_getElem?] at hs2
        have kc := hg.cells
        simp [execOp, Act.eval, hdd, hs2, relyUpon, go_sem, Grow.refl, kc]
      · rw [if_pos (by simp only [Region.wanted]; rw [yielded_of (d := 20) (b := true) rfl (by simp only [hdd])]; rfl)]
        try simp only [perAt, List.getD_cons_zero, List.getD_cons_succ, Per.eq, Per.row, Per.of]
        simp [execOp, Act.eval, hdd, relyUpon, go_sem]
        refine (c3.out w').mono fun e w'' h => ?_
        obtain ⟨h1, h2⟩ := h
        have h3 : Grow w' w'' := by first | exact h2 | (rw [← h2]; exact Grow.refl _)
        first | exact ⟨h3, h1⟩ | exact ⟨_, h1, h3, rfl⟩ | exact ⟨h1, h3⟩
      · rw [if_pos (by simp only [Region.wanted]; rw [yielded_of (d := 20) (b := true) rfl (by simp only [hdd])]; rfl)]
        try simp only [perAt, List.getD_cons_zero, List.getD_cons_succ, Per.eq, Per.row, Per.of]
        simp [execOp, Act.eval, hdd, relyUpon, go_sem, Grow.refl]
      · rw [if_pos (by simp only [Region.wanted]; rw [yielded_of (d := 12) (b := true) rfl (by simp only [hdd])]; rfl)]
        try simp only [perAt, List.getD_cons_zero, List.getD_cons_succ, Per.eq, Per.row, Per.of]
        simp [execOp, Act.eval, hdd, relyUpon, go_sem, Grow.refl]
      · rw [if_pos (by simp only [Region.wanted]; rw [yielded_of (d := 12) (b := true) rfl (by simp only [hdd])]; rfl)]
        try simp only [perAt, List.getD_cons_zero, List.getD_cons_succ, Per.eq, Per.row, Per.of]
        simp [execOp, Act.eval, hdd, relyUpon, go_sem, Grow.refl]
      · rw [if_pos (by rfl)]
        try simp only [perAt, List.getD_cons_zero, List.getD_cons_succ, Per.eq, Per.row, Per.of]
        simp [execOp, Act.eval, hdd, relyUpon, go_sem, Grow.refl]
      · rw [if_pos (by rfl)]
        try simp only [perAt, List.getD_cons_zero, List.getD_cons_succ, Per.eq, Per.row, Per.of]
        simp [execOp, Act.eval, hdd, relyUpon, go_sem, Grow.refl]
      · rw [if_pos (by simp only [Region.wanted]; rw [yielded_of (d := 28) (b := true) rfl (by simp only [hdd])]; rfl)]
        try simp only [perAt, List.getD_cons_zero, List.getD_cons_succ, Per.eq, Per.row, Per.of]
        simp [execOp, Act.eval, hdd, relyUpon, go_sem]
        refine (awake_c w').mono fun e w'' h => ?_
        obtain ⟨h1, h2⟩ := h
        have h3 : Grow w' w'' := by first | exact h2 | (rw [← h2]; exact Grow.refl _)
        first | exact ⟨h3, h1⟩ | exact ⟨_, h1, h3, rfl⟩ | exact ⟨h1, h3⟩
      · rw [if_pos (by rfl)]
        try simp only [perAt, List.getD_cons_zero, List.getD_cons_succ, Per.eq, Per.row, Per.of]
        simp [execOp, Act.eval, hdd, relyUpon, go_sem, Grow.refl]
      · rw [if_pos (by rfl)]
        try simp only [perAt, List.getD_cons_zero, List.getD_cons_succ, Per.eq, Per.row, Per.of]
        simp [execOp, Act.eval, hdd, relyUpon, go_sem, Grow.refl]
    intro wz hgz
    simp only [relyEnd, List.headD_cons, List.tail_cons, Per.eq, Per.row, Per.of]
    rintro _ rfl _ rfl _ rfl _ rfl _ rfl _ rfl _ rfl _ rfl _ rfl _ rfl _ rfl _ rfl _ rfl _ rfl _ rfl _ rfl _ rfl _ rfl _ rfl _ rfl _ rfl _ rfl _ rfl _ rfl _ rfl _ rfl _ rfl
    go_simp
    go_wp2_with fail
    go_ret
    exact ⟨rfl, Grow.trans (Grow.trans (Grow.alloc _ _) (Grow.alloc _ _)) hgz⟩
  · go_enter Try.func5, Try.ntmps5
    go_wp2_with fail
    refine wp_rely [.eq (.agg #[.int .i64 id, .int .i64 proc, .int .i64 obj, .int .i64 kind, .int .i64 meth, .int .i64 arg, .int .i64 sec, .bool done, .int .i64 res, .int .i64 inv, .int .i64 ret]), .eq (.agg #[.int .i64 bid, .int .i64 bproc, .int .i64 bobj, .int .i64 bkind, .int .i64 bmeth, .int .i64 barg, .int .i64 bsec, .bool bdone, .int .i64 bres, .int .i64 binv, .int .i64 bret]), .eq (.bool true), .eq (.agg #[.int .i64 id, .int .i64 proc, .int .i64 obj, .int .i64 kind, .int .i64 meth, .int .i64 arg, .int .i64 sec, .bool done, .int .i64 res, .int .i64 inv, .int .i64 ret]), .eq (.agg #[.int .i64 bid, .int .i64 bproc, .int .i64 bobj, .int .i64 bkind, .int .i64 bmeth, .int .i64 barg, .int .i64 bsec, .bool bdone, .int .i64 bres, .int .i64 binv, .int .i64 bret]), .eq (.bool true), .eq (.bool true), .eq (.bool true), .eq (.agg #[.int .i64 id, .int .i64 proc, .int .i64 obj, .int .i64 kind, .int .i64 meth, .int .i64 arg, .int .i64 sec, .bool done, .int .i64 res, .int .i64 inv, .int .i64 ret]), .eq (.agg #[.int .i64 bid, .int .i64 bproc, .int .i64 bobj, .int .i64 bkind, .int .i64 bmeth, .int .i64 barg, .int .i64 bsec, .bool bdone, .int .i64 bres, .int .i64 binv, .int .i64 bret]), .eq (.bool false), .eq (.agg #[.int .i64 id, .int .i64 proc, .int .i64 obj, .int .i64 kind, .int .i64 meth, .int .i64 arg, .int .i64 sec, .bool done, .int .i64 res, .int .i64 inv, .int .i64 ret]), .eq (.agg #[.int .i64 bid, .int .i64 bproc, .int .i64 bobj, .int .i64 bkind, .int .i64 bmeth, .int .i64 barg, .int .i64 bsec, .bool bdone, .int .i64 bres, .int .i64 binv, .int .i64 bret]), .eq (.bool true), .eq (.bool false), .eq (.bool false), .eq undef, .eq undef, .eq undef, .eq undef, .eq (.bool false), .eq (.bool true), .eq (.bool true), .eq (.bool true), .eq (.bool true), .eq (.bool true), .eq (.bool true)] (by kernel_rfl) (by kernel_rfl) (by kernel_rfl) ?_ ?_
    · simp only [relyGoals]
      refine ⟨?_, ?_, ?_, ?_, ?_, ?_, ?_, ?_, ?_, ?_, ?_, ?_, ?_, ?_, ?_, ?_, ?_, ?_, ?_, ?_, ?_, ?_, ?_, ?_, ?_, ?_, ?_, trivial⟩
      all_goals intro t w' hsz hg hdd hfr
      all_goals simp only [depsDid, Did, perAt, List.getElem?_cons_zero, List.getElem?_cons_succ, List.getD_cons_zero, List.getD_cons_succ, Per.eq, Per.row, Per.of, and_true, Array.getD_eq_getD_getElem?] at hdd
      · rw [if_pos (by rfl)]
        try simp only [perAt, List.getD_cons_zero, List.getD_cons_succ, Per.eq, Per.row, Per.of]
        have hs2 := hfr 2 rfl
        simp only [Array.getD_eq_getD_getElem?] at hs2
        have kc := hg.cells
        simp [execOp, Act.eval, hdd, hs2, relyUpon, go_sem, Grow.refl, kc]
      · rw [if_pos (by rfl)]
        try simp only [perAt, List.getD_cons_zero, List.getD_cons_succ, Per.eq, Per.row, Per.of]
        have hs3 := hfr 3 rfl
        simp only [Array.getD_eq_getD_getElem?] at hs3
        have kc := hg.cells
        simp [execOp, Act.eval, hdd, hs3, relyUpon, go_sem, Grow.refl, kc]
      · rw [if_pos (by rfl)]
        try simp only [perAt, List.getD_cons_zero, List.getD_cons_succ, Per.eq, Per.row, Per.of]
        simp [execOp, Act.eval, hdd, relyUpon, go_sem]
        refine (c1.out w').mono fun e w'' h => ?_
        obtain ⟨h1, h2⟩ := h
        have h3 : Grow w' w'' := by first | exact h2 | (rw [← h2]; exact Grow.refl _)
        first | exact ⟨h3, h1⟩ | exact ⟨_, h1, h3, rfl⟩ | exact ⟨h1, h3⟩
      · rw [if_pos (by rfl)]
        try simp only [perAt, List.getD_cons_zero, List.getD_cons_succ, Per.eq, Per.row, Per.of]
        have hs2 := hfr 2 rfl
        simp only [Array.getD_eq_getD_getElem?] at hs2
        have kc := hg.cells
        simp [execOp, Act.eval, hdd, hs2, relyUpon, go_sem, Grow.refl, kc]
      · rw [if_pos (by rfl)]
        try simp only [perAt, List.getD_cons_zero, List.getD_cons_succ, Per.eq, Per.row, Per.of]
        have hs3 := hfr 3 rfl
        simp only [Array.getD_eq_getD_getElem?] at hs3
        have kc := hg.cells
        simp [execOp, Act.eval, hdd, hs3, relyUpon, go_sem, Grow.refl, kc]
      · rw [if_pos (by rfl)]
        try simp only [perAt, List.getD_cons_zero, List.getD_cons_succ, Per.eq, Per.row, Per.of]
        simp [execOp, Act.eval, hdd, relyUpon, go_sem]
        refine (c2.out w').mono fun e w'' h => ?_
        obtain ⟨h1, h2⟩ := h
        have h3 : Grow w' w'' := by first | exact h2 | (rw [← h2]; exact Grow.refl _)
        first | exact ⟨h3, h1⟩ | exact ⟨_, h1, h3, rfl⟩ | exact ⟨h1, h3⟩
      · rw [if_pos (by rfl)]
        try simp only [perAt, List.getD_cons_zero, List.getD_cons_succ, Per.eq, Per.row, Per.of]
        simp [execOp, Act.eval, hdd, relyUpon, go_sem, Grow.refl]
      · rw [if_pos (by rfl)]
        try simp only [perAt, List.getD_cons_zero, List.getD_cons_succ, Per.eq, Per.row, Per.of]
        simp [execOp, Act.eval, hdd, relyUpon, go_sem, Grow.refl]
      · rw [if_pos (by simp only [Region.wanted]; rw [yielded_of (d := 12) (b := true) rfl (by simp only [hdd])]; rfl)]
        try simp only [perAt, List.getD_cons_zero, List.getD_cons_succ, Per.eq, Per.row, Per.of]
        have hs2 := hfr 2 rfl
        simp only [Array.getD_eq_getD_getElem?] at hs2
        have kc := hg.cells
        simp [execOp, Act.eval, hdd, hs2, relyUpon, go_sem, Grow.refl, kc]
      · rw [if_pos (by simp only [Region.wanted]; rw [yielded_of (d := 12) (b := true) rfl (by simp only [hdd])]; rfl)]
        try simp only [perAt, List.getD_cons_zero, List.getD_cons_succ, Per.eq, Per.row, Per.of]
        have hs3 := hfr 3 rfl
        simp only [Array.getD_eq_getD_getElem?] at hs3
        have kc := hg.cells
        simp [execOp, Act.eval, hdd, hs3, relyUpon, go_sem, Grow.refl, kc]
      · rw [if_pos (by simp only [Region.wanted]; rw [yielded_of (d := 12) (b := true) rfl (by simp only [hdd])]; rfl)]
        try simp only [perAt, List.getD_cons_zero, List.getD_cons_succ, Per.eq, Per.row, Per.of]
        simp [execOp, Act.eval, hdd, relyUpon, go_sem]
        refine (c4.out w').mono fun e w'' h => ?_
        obtain ⟨h1, h2⟩ := h
        have h3 : Grow w' w'' := by first | exact h2 | (rw [← h2]; exact Grow.refl _)
        first | exact ⟨h3, h1⟩ | exact ⟨_, h1, h3, rfl⟩ | exact ⟨h1, h3⟩
      · rw [if_pos (by simp only [Region.wanted]; rw [yielded_of (d := 12) (b := true) rfl (by simp only [hdd])]; rfl)]
        try simp only [perAt, List.getD_cons_zero, List.getD_cons_succ, Per.eq, Per.row, Per.of]
        have hs2 := hfr 2 rfl
        simp only [Array.getD_eq_getD_getElem?] at hs2
        have kc := hg.cells
        simp [execOp, Act.eval, hdd, hs2, relyUpon, go_sem, Grow.refl, kc]
      · rw [if_pos (by simp only [Region.wanted]; rw [yielded_of (d := 12) (b := true) rfl (by simp only [hdd])]; rfl)]
        try simp only [perAt, List.getD_cons_zero, List.getD_cons_succ, Per.eq, Per.row, Per.of]
        have hs3 := hfr 3 rfl
        simp only [Array.getD_eq_getD_getElem?] at hs3
        have kc := hg.cells
        simp [execOp, Act.eval, hdd, hs3, relyUpon, go_sem, Grow.refl, kc]
      · rw [if_pos (by simp only [Region.wanted]; rw [yielded_of (d := 12) (b := true) rfl (by simp only [hdd])]; rfl)]
        try simp only [perAt, List.getD_cons_zero, List.getD_cons_succ, Per.eq, Per.row, Per.of]
        simp [execOp, Act.eval, hdd, relyUpon, go_sem]
        refine (c2.out w').mono fun e w'' h => ?_
        obtain ⟨h1, h2⟩ := h
        have h3 : Grow w' w'' := by first | exact h2 | (rw [← h2]; exact Grow.refl _)
        first | exact ⟨h3, h1⟩ | exact ⟨_, h1, h3, rfl⟩ | exact ⟨h1, h3⟩
      · rw [if_pos (by simp only [Region.wanted]; rw [yielded_of (d := 12) (b := true) rfl (by simp only [hdd])]; rfl)]
        try simp only [perAt, List.getD_cons_zero, List.getD_cons_succ, Per.eq, Per.row, Per.of]
        simp [execOp, Act.eval, hdd, relyUpon, go_sem, Grow.refl]
      · rw [if_pos (by simp only [Region.wanted]; rw [yielded_of (d := 12) (b := true) rfl (by simp only [hdd])]; rfl)]
        try simp only [perAt, List.getD_cons_zero, List.getD_cons_succ, Per.eq, Per.row, Per.of]
        simp [execOp, Act.eval, hdd, relyUpon, go_sem, Grow.refl]
      · rw [if_neg (by simp only [Region.wanted]; rw [yielded_of (d := 20) (b := false) rfl (by simp only [hdd])]; decide)]
        all_goals first | rfl | simp [perAt, Per.eq, Per.of, Per.row]
      · rw [if_neg (by simp only [Region.wanted]; rw [yielded_of (d := 20) (b := false) rfl (by simp only [hdd])]; decide)]
        all_goals first | rfl | simp [perAt, Per.eq, Per.of, Per.row]
      · rw [if_neg (by simp only [Region.wanted]; rw [yielded_of (d := 20) (b := false) rfl (by simp only [hdd])]; decide)]
        all_goals first | rfl | simp [perAt, Per.eq, Per.of, Per.row]
      · rw [if_neg (by simp only [Region.wanted]; rw [yielded_of (d := 20) (b := false) rfl (by simp only [hdd])]; decide)]
        all_goals first | rfl | simp [perAt, Per.eq, Per.of, Per.row]
      · rw [if_pos (by simp only [Region.wanted]; rw [yielded_of (d := 12) (b := true) rfl (by simp only [hdd])]; rfl)]
        try simp only [perAt, List.getD_cons_zero, List.getD_cons_succ, Per.eq, Per.row, Per.of]
        simp [execOp, Act.eval, hdd, relyUpon, go_sem, Grow.refl]
      · rw [if_pos (by simp only [Region.wanted]; rw [yielded_of (d := 12) (b := true) rfl (by simp only [hdd])]; rfl)]
        try simp only [perAt, List.getD_cons_zero, List.getD_cons_succ, Per.eq, Per.row, Per.of]
        simp [execOp, Act.eval, hdd, relyUpon, go_sem, Grow.refl]
      · rw [if_pos (by rfl)]
        try simp only [perAt, List.getD_cons_zero, List.getD_cons_succ, Per.eq, Per.row, Per.of]
        simp [execOp, Act.eval, hdd, relyUpon, go_sem, Grow.refl]
      · rw [if_pos (by rfl)]
        try simp only [perAt, List.getD_cons_zero, List.getD_cons_succ, Per.eq, Per.row, Per.of]
        simp [execOp, Act.eval, hdd, relyUpon, go_sem, Grow.refl]
      · rw [if_pos (by simp only [Region.wanted]; rw [yielded_of (d := 28) (b := true) rfl (by simp only [hdd])]; rfl)]
        try simp only [perAt, List.getD_cons_zero, List.getD_cons_succ, Per.eq, Per.row, Per.of]
        simp [execOp, Act.eval, hdd, relyUpon, go_sem]
        refine (awake_c w').mono fun e w'' h => ?_
        obtain ⟨h1, h2⟩ := h
        have h3 : Grow w' w'' := by first | exact h2 | (rw [← h2]; exact Grow.refl _)
        first | exact ⟨h3, h1⟩ | exact ⟨_, h1, h3, rfl⟩ | exact ⟨h1, h3⟩
      · rw [if_pos (by rfl)]
        try simp only [perAt, List.getD_cons_zero, List.getD_cons_succ, Per.eq, Per.row, Per.of]
        simp [execOp, Act.eval, hdd, relyUpon, go_sem, Grow.refl]
      · rw [if_pos (by rfl)]
        try simp only [perAt, List.getD_cons_zero, List.getD_cons_succ, Per.eq, Per.row, Per.of]
        simp [execOp, Act.eval, hdd, relyUpon, go_sem, Grow.refl]
    intro wz hgz
    simp only [relyEnd, List.headD_cons, List.tail_cons, Per.eq, Per.row, Per.of]
    rintro _ rfl _ rfl _ rfl _ rfl _ rfl _ rfl _ rfl _ rfl _ rfl _ rfl _ rfl _ rfl _ rfl _ rfl _ rfl _ rfl _ rfl _ rfl _ rfl _ rfl _ rfl _ rfl _ rfl _ rfl _ rfl _ rfl _ rfl
    go_simp
    go_wp2_with fail
    go_ret
    exact ⟨rfl, Grow.trans (Grow.trans (Grow.alloc _ _) (Grow.alloc _ _)) hgz⟩
  · go_enter Try.func5, Try.ntmps5
    go_wp2_with fail
    refine wp_rely [.eq (.agg #[.int .i64 id, .int .i64 proc, .int .i64 obj, .int .i64 kind, .int .i64 meth, .int .i64 arg, .int .i64 sec, .bool done, .int .i64 res, .int .i64 inv, .int .i64 ret]), .eq (.agg #[.int .i64 bid, .int .i64 bproc, .int .i64 bobj, .int .i64 bkind, .int .i64 bmeth, .int .i64 barg, .int .i64 bsec, .bool bdone, .int .i64 bres, .int .i64 binv, .int .i64 bret]), .eq (.bool true), .eq (.agg #[.int .i64 id, .int .i64 proc, .int .i64 obj, .int .i64 kind, .int .i64 meth, .int .i64 arg, .int .i64 sec, .bool done, .int .i64 res, .int .i64 inv, .int .i64 ret]), .eq (.agg #[.int .i64 bid, .int .i64 bproc, .int .i64 bobj, .int .i64 bkind, .int .i64 bmeth, .int .i64 barg, .int .i64 bsec, .bool bdone, .int .i64 bres, .int .i64 binv, .int .i64 bret]), .eq (.bool true), .eq (.bool true), .eq (.bool true), .eq (.agg #[.int .i64 id, .int .i64 proc, .int .i64 obj, .int .i64 kind, .int .i64 meth, .int .i64 arg, .int .i64 sec, .bool done, .int .i64 res, .int .i64 inv, .int .i64 ret]), .eq (.agg #[.int .i64 bid, .int .i64 bproc, .int .i64 bobj, .int .i64 bkind, .int .i64 bmeth, .int .i64 barg, .int .i64 bsec, .bool bdone, .int .i64 bres, .int .i64 binv, .int .i64 bret]), .eq (.bool false), .eq (.agg #[.int .i64 id, .int .i64 proc, .int .i64 obj, .int .i64 kind, .int .i64 meth, .int .i64 arg, .int .i64 sec, .bool done, .int .i64 res, .int .i64 inv, .int .i64 ret]), .eq (.agg #[.int .i64 bid, .int .i64 bproc, .int .i64 bobj, .int .i64 bkind, .int .i64 bmeth, .int .i64 barg, .int .i64 bsec, .bool bdone, .int .i64 bres, .int .i64 binv, .int .i64 bret]), .eq (.bool true), .eq (.bool false), .eq (.bool false), .eq undef, .eq undef, .eq undef, .eq undef, .eq (.bool false), .eq (.bool true), .eq (.bool true), .eq (.bool true), .eq (.bool true), .eq (.bool true), .eq (.bool true)] (by kernel_rfl) (by kernel_rfl) (by kernel_rfl) ?_ ?_
    · simp only [relyGoals]
      refine ⟨?_, ?_, ?_, ?_, ?_, ?_, ?_, ?_, ?_, ?_, ?_, ?_, ?_, ?_, ?_, ?_, ?_, ?_, ?_, ?_, ?_, ?_, ?_, ?_, ?_, ?_, ?_, trivial⟩
      all_goals intro t w' hsz hg hdd hfr
      all_goals simp only [depsDid, Did, perAt, List.getElem?_cons_zero, List.getElem?_cons_succ, List.getD_cons_zero, List.getD_cons_succ, Per.eq, Per.row, Per.of, and_true, Array.getD_eq_getD_getElem?] at hdd
      · rw [if_pos (by rfl)]
        try simp only [perAt, List.getD_cons_zero, List.getD_cons_succ, Per.eq, Per.row, Per.of]
        have hs2 := hfr 2 rfl
        simp only [Array.getD_eq_getD_getElem?] at hs2
        have kc := hg.cells
        simp [execOp, Act.eval, hdd, hs2, relyUpon, go_sem, Grow.refl, kc]
      · rw [if_pos (by rfl)]
        try simp only [perAt, List.getD_cons_zero, List.getD_cons_succ, Per.eq, Per.row, Per.of]
        have hs3 := hfr 3 rfl
        simp only [Array.getD_eq_getD_getElem?] at hs3
        have kc := hg.cells
        simp [execOp, Act.eval, hdd, hs3, relyUpon, go_sem, Grow.refl, kc]
      · rw [if_pos (by rfl)]
        try simp only [perAt, List.getD_cons_zero, List.getD_cons_succ, Per.eq, Per.row, Per.of]
        simp [execOp, Act.eval, hdd, relyUpon, go_sem]
        refine (c1.out w').mono fun e w'' h => ?_
        obtain ⟨h1, h2⟩ := h
        have h3 : Grow w' w'' := by first | exact h2 | (rw [← h2]; exact Grow.refl _)
        first | exact ⟨h3, h1⟩ | exact ⟨_, h1, h3, rfl⟩ | exact ⟨h1, h3⟩
      · rw [if_pos (by rfl)]
        try simp only [perAt, List.getD_cons_zero, List.getD_cons_succ, Per.eq, Per.row, Per.of]
        have hs2 := hfr 2 rfl
        simp only [Array.getD_eq_getD_getElem?] at hs2
        have kc := hg.cells
        simp [execOp, Act.eval, hdd, hs2, relyUpon, go_sem, Grow.refl, kc]
      · rw [if_pos (by rfl)]
        try simp only [perAt, List.getD_cons_zero, List.getD_cons_succ, Per.eq, Per.row, Per.of]
        have hs3 := hfr 3 rfl
        simp only [Array.getD_eq_getD_getElem?] at hs3
        have kc := hg.cells
        simp [execOp, Act.eval, hdd, hs3, relyUpon, go_sem, Grow.refl, kc]
      · rw [if_pos (by rfl)]
        try simp only [perAt, List.getD_cons_zero, List.getD_cons_succ, Per.eq, Per.row, Per.of]
        simp [execOp, Act.eval, hdd, relyUpon, go_sem]
        refine (c2.out w').mono fun e w'' h => ?_
        obtain ⟨h1, h2⟩ := h
        have h3 : Grow w' w'' := by first | exact h2 | (rw [← h2]; exact Grow.refl _)
        first | exact ⟨h3, h1⟩ | exact ⟨_, h1, h3, rfl⟩ | exact ⟨h1, h3⟩
      · rw [if_pos (by rfl)]
        try simp only [perAt, List.getD_cons_zero, List.getD_cons_succ, Per.eq, Per.row, Per.of]
        simp [execOp, Act.eval, hdd, relyUpon, go_sem, Grow.refl]
      · rw [if_pos (by rfl)]
        try simp only [perAt, List.getD_cons_zero, List.getD_cons_succ, Per.eq, Per.row, Per.of]
        simp [execOp, Act.eval, hdd, relyUpon, go_sem, Grow.refl]
      · rw [if_pos (by simp only [Region.wanted]; rw [yielded_of (d := 12) (b := true) rfl (by simp only [hdd])]; rfl)]
        try simp only [perAt, List.getD_cons_zero, List.getD_cons_succ, Per.eq, Per.row, Per.of]
        have hs2 := hfr 2 rfl
        simp only [Array.getD_eq_getD_getElem?] at hs2
        have kc := hg.cells
        simp [execOp, Act.eval, hdd, hs2, relyUpon, go_sem, Grow.refl, kc]
      · rw [if_pos (by simp only [Region.wanted]; rw [yielded_of (d := 12) (b := true) rfl (by simp only [hdd])]; rfl)]
        try simp only [perAt, List.getD_cons_zero, List.getD_cons_succ, Per.eq, Per.row, Per.of]
        have hs3 := hfr 3 rfl
        simp only [Array.getD_eq_getD_getElem?] at hs3
        have kc := hg.cells
        simp [execOp, Act.eval, hdd, hs3, relyUpon, go_sem, Grow.refl, kc]
      · rw [if_pos (by simp only [Region.wanted]; rw [yielded_of (d := 12) (b := true) rfl (by simp only [hdd])]; rfl)]
        try simp only [perAt, List.getD_cons_zero, List.getD_cons_succ, Per.eq, Per.row, Per.of]
        simp [execOp, Act.eval, hdd, relyUpon, go_sem]
        refine (c4.out w').mono fun e w'' h => ?_
        obtain ⟨h1, h2⟩ := h
        have h3 : Grow w' w'' := by first | exact h2 | (rw [← h2]; exact Grow.refl _)
        first | exact ⟨h3, h1⟩ | exact ⟨_, h1, h3, rfl⟩ | exact ⟨h1, h3⟩
      · rw [if_pos (by simp only [Region.wanted]; rw [yielded_of (d := 12) (b := true) rfl (by simp only [hdd])]; rfl)]
        try simp only [perAt, List.getD_cons_zero, List.getD_cons_succ, Per.eq, Per.row, Per.of]
        have hs2 := hfr 2 rfl
        simp only [Array.getD_eq_getD_getElem?] at hs2
        have kc := hg.cells
        simp [execOp, Act.eval, hdd, hs2, relyUpon, go_sem, Grow.refl, kc]
      · rw [if_pos (by simp only [Region.wanted]; rw [yielded_of (d := 12) (b := true) rfl (by simp only [hdd])]; rfl)]
        try simp only [perAt, List.getD_cons_zero, List.getD_cons_succ, Per.eq, Per.row, Per.of]
        have hs3 := hfr 3 rfl
        simp only [Array.getD_eq_getD_getElem?] at hs3
        have kc := hg.cells
        simp [execOp, Act.eval, hdd, hs3, relyUpon, go_sem, Grow.refl, kc]
      · rw [if_pos (by simp only [Region.wanted]; rw [yielded_of (d := 12) (b := true) rfl (by simp only [hdd])]; rfl)]
        try simp only [perAt, List.getD_cons_zero, List.getD_cons_succ, Per.eq, Per.row, Per.of]
        simp [execOp, Act.eval, hdd, relyUpon, go_sem]
        refine (c2.out w').mono fun e w'' h => ?_
        obtain ⟨h1, h2⟩ := h
        have h3 : Grow w' w'' := by first | exact h2 | (rw [← h2]; exact Grow.refl _)
        first | exact ⟨h3, h1⟩ | exact ⟨_, h1, h3, rfl⟩ | exact ⟨h1, h3⟩
      · rw [if_pos (by simp only [Region.wanted]; rw [yielded_of (d := 12) (b := true) rfl (by simp only [hdd])]; rfl)]
        try simp only [perAt, List.getD_cons_zero, List.getD_cons_succ, Per.eq, Per.row, Per.of]
        simp [execOp, Act.eval, hdd, relyUpon, go_sem, Grow.refl]
      · rw [if_pos (by simp only [Region.wanted]; rw [yielded_of (d := 12) (b := true) rfl (by simp only [hdd])]; rfl)]
        try simp only [perAt, List.getD_cons_zero, List.getD_cons_succ, Per.eq, Per.row, Per.of]
        simp [execOp, Act.eval, hdd, relyUpon, go_sem, Grow.refl]
      · rw [if_neg (by simp only [Region.wanted]; rw [yielded_of (d := 20) (b := false) rfl (by simp only [hdd])]; decide)]
        all_goals first | rfl | simp [perAt, Per.eq, Per.of, Per.row]
      · rw [if_neg (by simp only [Region.wanted]; rw [yielded_of (d := 20) (b := false) rfl (by simp only [hdd])]; decide)]
        all_goals first | rfl | simp [perAt, Per.eq, Per.of, Per.row]
      · rw [if_neg (by simp only [Region.wanted]; rw [yielded_of (d := 20) (b := false) rfl (by simp only [hdd])]; decide)]
        all_goals first | rfl | simp [perAt, Per.eq, Per.of, Per.row]
      · rw [if_neg (by simp only [Region.wanted]; rw [yielded_of (d := 20) (b := false) rfl (by simp only [hdd])]; decide)]
        all_goals first | rfl | simp [perAt, Per.eq, Per.of, Per.row]
      · rw [if_pos (by simp only [Region.wanted]; rw [yielded_of (d := 12) (b := true) rfl (by simp only [hdd])]; rfl)]
        try simp only [perAt, List.getD_cons_zero, List.getD_cons_succ, Per.eq, Per.row, Per.of]
        simp [execOp, Act.eval, hdd, relyUpon, go_sem, Grow.refl]
      · rw [if_pos (by simp only [Region.wanted]; rw [yielded_of (d := 12) (b := true) rfl (by simp only [hdd])]; rfl)]
        try simp only [perAt, List.getD_cons_zero, List.getD_cons_succ, Per.eq, Per.row, Per.of]
        simp [execOp, Act.eval, hdd, relyUpon, go_sem, Grow.refl]
      · rw [if_pos (by rfl)]
        try simp only [perAt, List.getD_cons_zero, List.getD_cons_succ, Per.eq, Per.row, Per.of]
        simp [execOp, Act.eval, hdd, relyUpon, go_sem, Grow.refl]
      · rw [if_pos (by rfl)]
        try simp only [perAt, List.getD_cons_zero, List.getD_cons_succ, Per.eq, Per.row, Per.of]
        simp [execOp, Act.eval, hdd, relyUpon, go_sem, Grow.refl]
      · rw [if_pos (by simp only [Region.wanted]; rw [yielded_of (d := 28) (b := true) rfl (by simp only [hdd])]; rfl)]
        try simp only [perAt, List.getD_cons_zero, List.getD_cons_succ, Per.eq, Per.row, Per.of]
        simp [execOp, Act.eval, hdd, relyUpon, go_sem]
        refine (awake_c w').mono fun e w'' h => ?_
        obtain ⟨h1, h2⟩ := h
        have h3 : Grow w' w'' := by first | exact h2 | (rw [← h2]; exact Grow.refl _)
        first | exact ⟨h3, h1⟩ | exact ⟨_, h1, h3, rfl⟩ | exact ⟨h1, h3⟩
      · rw [if_pos (by rfl)]
        try simp only [perAt, List.getD_cons_zero, List.getD_cons_succ, Per.eq, Per.row, Per.of]
        simp [execOp, Act.eval, hdd, relyUpon, go_sem, Grow.refl]
      · rw [if_pos (by rfl)]
        try simp only [perAt, List.getD_cons_zero, List.getD_cons_succ, Per.eq, Per.row, Per.of]
        simp [execOp, Act.eval, hdd, relyUpon, go_sem, Grow.refl]
    intro wz hgz
    simp only [relyEnd, List.headD_cons, List.tail_cons, Per.eq, Per.row, Per.of]
    rintro _ rfl _ rfl _ rfl _ rfl _ rfl _ rfl _ rfl _ rfl _ rfl _ rfl _ rfl _ rfl _ rfl _ rfl _ rfl _ rfl _ rfl _ rfl _ rfl _ rfl _ rfl _ rfl _ rfl _ rfl _ rfl _ rfl _ rfl
    go_simp
    go_wp2_with fail
    go_ret
    exact ⟨rfl, Grow.trans (Grow.trans (Grow.alloc _ _) (Grow.alloc _ _)) hgz⟩
namespace LawOpTimes
open Go.ChangeShapes Go.WideShapes Go.ChangeAt Go.RowKit
open Go.ChangeMaps (open_string shut_string)
theorem own : ownKnob Try.prog.godebug = none := by kernel_rfl
theorem laidOut : laidOutB Try.prog = true := by kernel_rfl
set_option maxRecDepth 100000 in
theorem lifted (os : Os) (started : os.Started) (H : Type) (enc : TypeId × Value → H) :
    ReturnsInHanded {} Try.checked os 5 .any (Rows.opTimesSpec.pre6 enc Try.prog Try.f5 Rows.opTimesRow.domain false) (Rows.opTimesSpec.post enc Try.prog Try.f5 false true false false) := by
  refine returnsInHanded_of_change_sized (C := Try.checked) own started (by kernel_rfl) Try.func5
    (ChangeSpec.witness6 (enc := enc) (C := Try.checked) false ⟨#[], #[.agg #[.int .i64 0, .int .i64 0, .int .i64 0, .int .i64 0, .int .i64 0, .int .i64 0, .int .i64 0, .bool false, .int .i64 0, .int .i64 0, .int .i64 0], .agg #[.int .i64 0, .int .i64 0, .int .i64 0, .int .i64 0, .int .i64 0, .int .i64 0, .int .i64 0, .bool false, .int .i64 0, .int .i64 0, .int .i64 0]], []⟩ 8 (by kernel_rfl) (by kernel_rfl) (by kernel_rfl) (by kernel_rfl)) ?_
  intro W base args ds gs before hval0 hW hcnd hsz _
  have hval : ∀ (j : Nat) t v, Try.f5.params[j]? = some t → args[j]? = some v → Value.okWide Try.prog W .any base t v := hval0
  have hW' := hW
  obtain ⟨p, q, hA0, hV, rfl, hfz, hnd⟩ := hW
  have hA : DataW.TrodAll enc Try.prog W 0 (fun _ => true) true Try.f5.params.toList args.toList ds p := hA0
  rw [Try.params5] at hA hval hsz
  obtain ⟨v0, vs0, d0, ds0, p0, q0, hargs, rfl, rfl, h0, r0⟩ := trodAll_cons hA
  obtain ⟨v1, vs1, d1, ds1, p1, q1, rfl, rfl, rfl, h1, r1⟩ := trodAll_cons r0
  obtain ⟨rfl, rfl, rfl⟩ := trodAll_nil r1
  obtain rfl : args = #[v0, v1] := by cases args; simp_all
  obtain ⟨rfl, rfl⟩ := trodVars_none hV
  have k0 := h0
  have lt0 : ∀ x ∈ p0, x.block < W.heap.size := by obtain ⟨m, hm⟩ := k0; exact DataW.trod_lt m _ _ _ hm
  obtain ⟨a0, rfl, w0⟩ := open_op (hval 0 29 v0 rfl rfl) h0
  have k1 := h1
  have lt1 : ∀ x ∈ p1, x.block < W.heap.size := by obtain ⟨m, hm⟩ := k1; exact DataW.trod_lt m _ _ _ hm
  obtain ⟨a1, rfl, w1⟩ := open_op (hval 1 29 v1 rfl rfl) h1
  clear hA0 hval0
  refine (OpTimes_walk a0 a1 W w0 w1).mono fun e W' ⟨he, bel⟩ => ?_
  subst he
  exact ⟨_, rfl, _, _, _, [], _, [], hW', trodAll_mk1 (shut_bool Try.underlying4 _), (trodAll_cons_mk (Below.trod laidOut (by kernel_rfl) (of_decide_eq_true (by kernel_rfl)) k0 bel lt0) (trodAll_cons_mk (Below.trod laidOut (by kernel_rfl) (of_decide_eq_true (by kernel_rfl)) k1 bel lt1) trodAll_mk0)), rfl, bel.frame _, fun h => by cases h⟩
theorem over : Rows.opTimesRow.holds Try.pinned (OpenSpec.ofChange Rows.opTimesSpec) :=
  OpenClaim.holds_of_wide 5 Try.f5 rfl rfl rfl rfl rfl rfl rfl ⟨rfl, rfl, rfl, rfl, rfl⟩ rfl rfl rfl rfl rfl (by kernel_rfl) Try.func5 (by kernel_rfl)
    (of_decide_eq_true (by kernel_rfl)) (by unfold Func.isWrapper; first | (rw [if_pos (by decide +kernel)]; kernel_rfl) | (rw [if_neg (by decide +kernel)]; exact ⟨rfl, rfl⟩))
    (fun os started H enc _ => lifted os started H enc)
end LawOpTimes
/-- The given statement. -/
theorem opTimes_proved : Rows.OpTimesSaid := LawOpTimes.over
#print axioms opTimes_proved
end Go.Proofs.Ytdeegepmampanaa
