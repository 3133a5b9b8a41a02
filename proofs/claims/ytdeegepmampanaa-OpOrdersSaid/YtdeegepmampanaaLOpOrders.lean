/- Before goes on; no operation is before itself, nor before one that is before it. -/
import Derived.Test.YtdeegepmampanaaOpAwake
import Derived.Test.YtdeegepmampanaaOpLift
namespace Go.Proofs.Ytdeegepmampanaa
open Go.RowKit
set_option linter.unusedVariables false
set_option linter.unusedSimpArgs false
/-- What the check tells: an answer comes behind its invocation. -/
theorem check_later {o : OpR} (h : checkE o = 0) (hd : o.done = true) : o.inv < o.ret := by
  obtain ⟨-, -, h3⟩ := checkE_ok h
  simp only [bad3, hd, Bool.true_and, Bool.not_true, Bool.false_and, Bool.or_false, Bool.or_eq_false_iff, decide_eq_false_iff_not] at h3
  omega
theorem bef_self {o : OpR} (h : checkE o = 0) : befB o o = false := by
  cases hd : o.done
  · simp [befB, hd]
  · have := check_later h hd
    simp [befB, hd]; omega
theorem bef_on {a b c : OpR} (hb : checkE b = 0) (h1 : befB a b = true) (h2 : befB b c = true) : befB a c = true := by
  simp only [befB, Bool.and_eq_true, decide_eq_true_eq] at *
  have := check_later hb h2.1
  exact ⟨h1.1, by omega⟩
theorem bef_back {a b : OpR} (ha : checkE a = 0) (hb : checkE b = 0) (h1 : befB a b = true) : befB b a = false := by
  cases h2 : befB b a
  · rfl
  · have := bef_on hb h1 h2
    rw [bef_self ha] at this
    cases this
set_option maxRecDepth 100000 in
set_option maxHeartbeats 4000000 in
theorem OpOrders_walk (a b c : OpR) (w : World) (l1 : a.Fit) (l2 : b.Fit) (l3 : c.Fit) :
    Calls Try.prog 6 #[.agg #[.int .i64 a.id, .int .i64 a.proc, .int .i64 a.obj, .int .i64 a.kind, .int .i64 a.meth, .int .i64 a.arg, .int .i64 a.sec, .bool a.done, .int .i64 a.res, .int .i64 a.inv, .int .i64 a.ret], .agg #[.int .i64 b.id, .int .i64 b.proc, .int .i64 b.obj, .int .i64 b.kind, .int .i64 b.meth, .int .i64 b.arg, .int .i64 b.sec, .bool b.done, .int .i64 b.res, .int .i64 b.inv, .int .i64 b.ret], .agg #[.int .i64 c.id, .int .i64 c.proc, .int .i64 c.obj, .int .i64 c.kind, .int .i64 c.meth, .int .i64 c.arg, .int .i64 c.sec, .bool c.done, .int .i64 c.res, .int .i64 c.inv, .int .i64 c.ret]] w fun e w' => e = .returned (.bool true) ∧ Below w.heap.size w w' := by
  have e1 := hid (fun w => Check_c a w l1.res.1 l1.res.2)
  have e2 := hid (fun w => Check_c b w l2.res.1 l2.res.2)
  have e3 := hid (fun w => Check_c c w l3.res.1 l3.res.2)
  have haw := hid (fun w => awake_c w)
  have cab := hid (fun w => Before_c a b w)
  have cbc := hid (fun w => Before_c b c w)
  have cac := hid (fun w => Before_c a c w)
  have caa := hid (fun w => Before_c a a w)
  have cba := hid (fun w => Before_c b a w)
  have oab := hid (fun w => Overlap_c a b w)
  have oba := hid (fun w => Overlap_c b a w)
  have oaa := hid (fun w => Overlap_c a a w)
  have hL : checkE a ≠ 0 ∨ checkE a = 0 ∧ (checkE b ≠ 0 ∨ checkE b = 0 ∧ (checkE c ≠ 0 ∨ checkE c = 0 ∧ befB a a = false ∧ ((befB a b = false ∧ befB b a = false) ∨ (befB a b = false ∧ befB b a = true) ∨ (befB a b = true ∧ befB b a = false ∧ (befB b c = false ∨ (befB b c = true ∧ befB a c = true)))))) := by
    by_cases h1 : checkE a = 0
    · by_cases h2 : checkE b = 0
      · by_cases h3 : checkE c = 0
        · refine .inr ⟨h1, .inr ⟨h2, .inr ⟨h3, bef_self h1, ?_⟩⟩⟩
          cases hp : befB a b
          · cases hq : befB b a
            · exact .inl ⟨rfl, rfl⟩
            · exact .inr (.inl ⟨rfl, rfl⟩)
          · refine .inr (.inr ⟨rfl, bef_back h1 h2 hp, ?_⟩)
            cases hq : befB b c
            · exact .inl rfl
            · exact .inr ⟨rfl, bef_on h2 hp hq⟩
        · exact .inr ⟨h1, .inr ⟨h2, .inl h3⟩⟩
      · exact .inr ⟨h1, .inl h2⟩
    · exact .inl h1
  clear l1 l2 l3
  generalize checkE a = E1 at *
  generalize checkE b = E2 at *
  generalize checkE c = E3 at *
  generalize befB a b = AB at *
  generalize befB b c = BC at *
  generalize befB a c = AC at *
  generalize befB a a = AA at *
  generalize befB b a = BA at *
  obtain ⟨aid, aproc, aobj, akind, ameth, aarg, asec, adone, ares, ainv, aret⟩ := a
  obtain ⟨bid, bproc, bobj, bkind, bmeth, barg, bsec, bdone, bres, binv, bret⟩ := b
  obtain ⟨cid, cproc, cobj, ckind, cmeth, carg, csec, cdone, cres, cinv, cret⟩ := c
  dsimp only at *
  rcases hL with h1 | ⟨rfl, h2 | ⟨rfl, h3 | ⟨rfl, rfl, ⟨rfl, rfl⟩ | ⟨rfl, rfl⟩ | ⟨rfl, rfl, rfl | ⟨rfl, rfl⟩⟩⟩⟩⟩
  · have q : (E1 != 0) = true := by rw [bne_iff_ne]; exact h1
    clear h1
    go_enter Try.func6, Try.ntmps6
    go_wp2_with fail
    refine (e1.out _).mono ?_
    rintro e w1 ⟨rfl, b1⟩
    have k1 := b1.cells
    have z1_0 : w.heap.size < w1.heap.size := (by have := b1.size; simp at this; omega)
    have z1_1 : w.heap.size + 1 < w1.heap.size := (by have := b1.size; simp at this; omega)
    have z1_2 : w.heap.size + 1 + 1 < w1.heap.size := (by have := b1.size; simp at this; omega)
    go_wp2_with fail
    refine (haw.out _).mono ?_
    rintro e w2 ⟨rfl, b2⟩
    go_wp2_with fail
    go_ret
    exact ⟨rfl, Grow.trans (Grow.trans (Grow.trans (Grow.alloc _ _) (Grow.alloc _ _)) (Grow.alloc _ _)) (Grow.trans b1 b2)⟩
  · have q : (E2 != 0) = true := by rw [bne_iff_ne]; exact h2
    clear h2
    go_enter Try.func6, Try.ntmps6
    go_wp2_with fail
    refine (e1.out _).mono ?_
    rintro e w1 ⟨rfl, b1⟩
    have k1 := b1.cells
    have z1_0 : w.heap.size < w1.heap.size := (by have := b1.size; simp at this; omega)
    have z1_1 : w.heap.size + 1 < w1.heap.size := (by have := b1.size; simp at this; omega)
    have z1_2 : w.heap.size + 1 + 1 < w1.heap.size := (by have := b1.size; simp at this; omega)
    go_wp2_with fail
    refine (e2.out _).mono ?_
    rintro e w2 ⟨rfl, b2⟩
    have k2 := b2.cells
    have z2_0 : w.heap.size < w2.heap.size := (by have := b2.size; omega)
    have z2_1 : w.heap.size + 1 < w2.heap.size := (by have := b2.size; omega)
    have z2_2 : w.heap.size + 1 + 1 < w2.heap.size := (by have := b2.size; omega)
    go_wp2_with fail
    refine (haw.out _).mono ?_
    rintro e w3 ⟨rfl, b3⟩
    go_wp2_with fail
    go_ret
    exact ⟨rfl, Grow.trans (Grow.trans (Grow.trans (Grow.alloc _ _) (Grow.alloc _ _)) (Grow.alloc _ _)) (Grow.trans b1 (Grow.trans b2 b3))⟩
  · have q : (E3 != 0) = true := by rw [bne_iff_ne]; exact h3
    clear h3
    go_enter Try.func6, Try.ntmps6
    go_wp2_with fail
    refine (e1.out _).mono ?_
    rintro e w1 ⟨rfl, b1⟩
    have k1 := b1.cells
    have z1_0 : w.heap.size < w1.heap.size := (by have := b1.size; simp at this; omega)
    have z1_1 : w.heap.size + 1 < w1.heap.size := (by have := b1.size; simp at this; omega)
    have z1_2 : w.heap.size + 1 + 1 < w1.heap.size := (by have := b1.size; simp at this; omega)
    go_wp2_with fail
    refine (e2.out _).mono ?_
    rintro e w2 ⟨rfl, b2⟩
    have k2 := b2.cells
    have z2_0 : w.heap.size < w2.heap.size := (by have := b2.size; omega)
    have z2_1 : w.heap.size + 1 < w2.heap.size := (by have := b2.size; omega)
    have z2_2 : w.heap.size + 1 + 1 < w2.heap.size := (by have := b2.size; omega)
    go_wp2_with fail
    refine (e3.out _).mono ?_
    rintro e w3 ⟨rfl, b3⟩
    have k3 := b3.cells
    have z3_0 : w.heap.size < w3.heap.size := (by have := b3.size; omega)
    have z3_1 : w.heap.size + 1 < w3.heap.size := (by have := b3.size; omega)
    have z3_2 : w.heap.size + 1 + 1 < w3.heap.size := (by have := b3.size; omega)
    go_wp2_with fail
    refine (haw.out _).mono ?_
    rintro e w4 ⟨rfl, b4⟩
    go_wp2_with fail
    go_ret
    exact ⟨rfl, Grow.trans (Grow.trans (Grow.trans (Grow.alloc _ _) (Grow.alloc _ _)) (Grow.alloc _ _)) (Grow.trans b1 (Grow.trans b2 (Grow.trans b3 b4)))⟩
  · go_enter Try.func6, Try.ntmps6
    go_wp2_with fail
    refine (e1.out _).mono ?_
    rintro e w1 ⟨rfl, b1⟩
    have k1 := b1.cells
    have z1_0 : w.heap.size < w1.heap.size := (by have := b1.size; simp at this; omega)
    have z1_1 : w.heap.size + 1 < w1.heap.size := (by have := b1.size; simp at this; omega)
    have z1_2 : w.heap.size + 1 + 1 < w1.heap.size := (by have := b1.size; simp at this; omega)
    go_wp2_with fail
    refine (e2.out _).mono ?_
    rintro e w2 ⟨rfl, b2⟩
    have k2 := b2.cells
    have z2_0 : w.heap.size < w2.heap.size := (by have := b2.size; omega)
    have z2_1 : w.heap.size + 1 < w2.heap.size := (by have := b2.size; omega)
    have z2_2 : w.heap.size + 1 + 1 < w2.heap.size := (by have := b2.size; omega)
    go_wp2_with fail
    refine (e3.out _).mono ?_
    rintro e w3 ⟨rfl, b3⟩
    have k3 := b3.cells
    have z3_0 : w.heap.size < w3.heap.size := (by have := b3.size; omega)
    have z3_1 : w.heap.size + 1 < w3.heap.size := (by have := b3.size; omega)
    have z3_2 : w.heap.size + 1 + 1 < w3.heap.size := (by have := b3.size; omega)
    go_wp2_with fail
    refine (cab.out _).mono ?_
    rintro e w4 ⟨rfl, b4⟩
    have k4 := b4.cells
    have z4_0 : w.heap.size < w4.heap.size := (by have := b4.size; omega)
    have z4_1 : w.heap.size + 1 < w4.heap.size := (by have := b4.size; omega)
    have z4_2 : w.heap.size + 1 + 1 < w4.heap.size := (by have := b4.size; omega)
    go_wp2_with fail
    have hB := (Grow.trans b1 (Grow.trans b2 (Grow.trans b3 b4)))
    have kN := hB.cells
    refine wp_rely [.eq (.agg #[.int .i64 aid, .int .i64 aproc, .int .i64 aobj, .int .i64 akind, .int .i64 ameth, .int .i64 aarg, .int .i64 asec, .bool adone, .int .i64 ares, .int .i64 ainv, .int .i64 aret]), .eq (.agg #[.int .i64 aid, .int .i64 aproc, .int .i64 aobj, .int .i64 akind, .int .i64 ameth, .int .i64 aarg, .int .i64 asec, .bool adone, .int .i64 ares, .int .i64 ainv, .int .i64 aret]), .eq (.bool false), .eq (.bool true), .eq (.bool true), .eq (.agg #[.int .i64 aid, .int .i64 aproc, .int .i64 aobj, .int .i64 akind, .int .i64 ameth, .int .i64 aarg, .int .i64 asec, .bool adone, .int .i64 ares, .int .i64 ainv, .int .i64 aret]), .eq (.agg #[.int .i64 bid, .int .i64 bproc, .int .i64 bobj, .int .i64 bkind, .int .i64 bmeth, .int .i64 barg, .int .i64 bsec, .bool bdone, .int .i64 bres, .int .i64 binv, .int .i64 bret]), .eq (.bool false), .eq (.bool false), .eq undef, .eq undef, .eq undef, .eq (.bool false), .eq (.bool true), .eq (.bool true), .eq (.bool true), .eq (.agg #[.int .i64 aid, .int .i64 aproc, .int .i64 aobj, .int .i64 akind, .int .i64 ameth, .int .i64 aarg, .int .i64 asec, .bool adone, .int .i64 ares, .int .i64 ainv, .int .i64 aret]), .eq (.agg #[.int .i64 bid, .int .i64 bproc, .int .i64 bobj, .int .i64 bkind, .int .i64 bmeth, .int .i64 barg, .int .i64 bsec, .bool bdone, .int .i64 bres, .int .i64 binv, .int .i64 bret]), .eq (.bool true), .eq (.agg #[.int .i64 bid, .int .i64 bproc, .int .i64 bobj, .int .i64 bkind, .int .i64 bmeth, .int .i64 barg, .int .i64 bsec, .bool bdone, .int .i64 bres, .int .i64 binv, .int .i64 bret]), .eq (.agg #[.int .i64 aid, .int .i64 aproc, .int .i64 aobj, .int .i64 akind, .int .i64 ameth, .int .i64 aarg, .int .i64 asec, .bool adone, .int .i64 ares, .int .i64 ainv, .int .i64 aret]), .eq (.bool true), .eq (.bool true), .eq (.bool true), .eq (.bool true), .eq (.agg #[.int .i64 aid, .int .i64 aproc, .int .i64 aobj, .int .i64 akind, .int .i64 ameth, .int .i64 aarg, .int .i64 asec, .bool adone, .int .i64 ares, .int .i64 ainv, .int .i64 aret]), .eq (.agg #[.int .i64 aid, .int .i64 aproc, .int .i64 aobj, .int .i64 akind, .int .i64 ameth, .int .i64 aarg, .int .i64 asec, .bool adone, .int .i64 ares, .int .i64 ainv, .int .i64 aret]), .eq (.bool true), .eq (.bool true), .eq (.bool true), .eq (.bool true), .eq (.bool true), .eq (.bool true)] (by kernel_rfl) (by kernel_rfl) (by kernel_rfl) ?_ ?_
    · simp only [relyGoals]
      refine ⟨?_, ?_, ?_, ?_, ?_, ?_, ?_, ?_, ?_, ?_, ?_, ?_, ?_, ?_, ?_, ?_, ?_, ?_, ?_, ?_, ?_, ?_, ?_, ?_, ?_, ?_, ?_, ?_, ?_, ?_, ?_, ?_, ?_, trivial⟩
      all_goals intro t w' hsz hg hdd hfr
      all_goals simp only [depsDid, Did, perAt, List.getElem?_cons_zero, List.getElem?_cons_succ, List.getD_cons_zero, List.getD_cons_succ, Per.eq, Per.row, Per.of, and_true, Array.getD_eq_getD_getElem?] at hdd
      · rw [if_pos (by rfl)]
        try simp only [perAt, List.getD_cons_zero, List.getD_cons_succ, Per.eq, Per.row, Per.of]
        have hs3 := hfr 3 rfl
        simp only [Array.getD_eq_getD_getElem?] at hs3
        have kc := hg.cells
        simp [execOp, Act.eval, hdd, hs3, relyUpon, go_sem, Grow.refl, kc, kN, z4_0, z4_1, z4_2]
      · rw [if_pos (by rfl)]
        try simp only [perAt, List.getD_cons_zero, List.getD_cons_succ, Per.eq, Per.row, Per.of]
        have hs3 := hfr 3 rfl
        simp only [Array.getD_eq_getD_getElem?] at hs3
        have kc := hg.cells
        simp [execOp, Act.eval, hdd, hs3, relyUpon, go_sem, Grow.refl, kc, kN, z4_0, z4_1, z4_2]
      · rw [if_pos (by rfl)]
        try simp only [perAt, List.getD_cons_zero, List.getD_cons_succ, Per.eq, Per.row, Per.of]
        simp [execOp, Act.eval, hdd, relyUpon, go_sem]
        refine (caa.out w').mono fun e w'' h => ?_
        obtain ⟨h1, h2⟩ := h
        have h3 : Grow w' w'' := by first | exact h2 | (rw [← h2]; exact Grow.refl _)
        first | exact ⟨h3, h1⟩ | exact ⟨_, h1, h3, rfl⟩ | exact ⟨h1, h3⟩
      · rw [if_pos (by rfl)]
        try simp only [perAt, List.getD_cons_zero, List.getD_cons_succ, Per.eq, Per.row, Per.of]
        simp [execOp, Act.eval, hdd, relyUpon, go_sem, Grow.refl]
      · rw [if_pos (by rfl)]
        try simp only [perAt, List.getD_cons_zero, List.getD_cons_succ, Per.eq, Per.row, Per.of]
        simp [execOp, Act.eval, hdd, relyUpon, go_sem, Grow.refl]
      · rw [if_pos (by simp only [Region.wanted]; rw [yielded_of (d := 39) (b := true) rfl (by simp only [hdd])]; rfl)]
        try simp only [perAt, List.getD_cons_zero, List.getD_cons_succ, Per.eq, Per.row, Per.of]
        have hs3 := hfr 3 rfl
        simp only [Array.getD_eq_getD_getElem?] at hs3
        have kc := hg.cells
        simp [execOp, Act.eval, hdd, hs3, relyUpon, go_sem, Grow.refl, kc, kN, z4_0, z4_1, z4_2]
      · rw [if_pos (by simp only [Region.wanted]; rw [yielded_of (d := 39) (b := true) rfl (by simp only [hdd])]; rfl)]
        try simp only [perAt, List.getD_cons_zero, List.getD_cons_succ, Per.eq, Per.row, Per.of]
        have hs4 := hfr 4 rfl
        simp only [Array.getD_eq_getD_getElem?] at hs4
        have kc := hg.cells
        simp [execOp, Act.eval, hdd, hs4, relyUpon, go_sem, Grow.refl, kc, kN, z4_0, z4_1, z4_2]
      · rw [if_pos (by simp only [Region.wanted]; rw [yielded_of (d := 39) (b := true) rfl (by simp only [hdd])]; rfl)]
        try simp only [perAt, List.getD_cons_zero, List.getD_cons_succ, Per.eq, Per.row, Per.of]
        simp [execOp, Act.eval, hdd, relyUpon, go_sem]
        refine (cab.out w').mono fun e w'' h => ?_
        obtain ⟨h1, h2⟩ := h
        have h3 : Grow w' w'' := by first | exact h2 | (rw [← h2]; exact Grow.refl _)
        first | exact ⟨h3, h1⟩ | exact ⟨_, h1, h3, rfl⟩ | exact ⟨h1, h3⟩
      · rw [if_pos (by simp only [Region.wanted]; rw [yielded_of (d := 39) (b := true) rfl (by simp only [hdd])]; rfl)]
        try simp only [perAt, List.getD_cons_zero, List.getD_cons_succ, Per.eq, Per.row, Per.of]
        simp [execOp, Act.eval, hdd, relyUpon, go_sem, Grow.refl]
      · rw [if_neg (by simp only [Region.wanted]; rw [yielded_of (d := 43) (b := false) rfl (by simp only [hdd])]; decide)]
        all_goals first | rfl | simp [perAt, Per.eq, Per.of, Per.row]
      · rw [if_neg (by simp only [Region.wanted]; rw [yielded_of (d := 43) (b := false) rfl (by simp only [hdd])]; decide)]
        all_goals first | rfl | simp [perAt, Per.eq, Per.of, Per.row]
      · rw [if_neg (by simp only [Region.wanted]; rw [yielded_of (d := 43) (b := false) rfl (by simp only [hdd])]; decide)]
        all_goals first | rfl | simp [perAt, Per.eq, Per.of, Per.row]
      · rw [if_pos (by simp only [Region.wanted]; rw [yielded_of (d := 39) (b := true) rfl (by simp only [hdd])]; rfl)]
        try simp only [perAt, List.getD_cons_zero, List.getD_cons_succ, Per.eq, Per.row, Per.of]
        simp [execOp, Act.eval, hdd, relyUpon, go_sem, Grow.refl]
      · rw [if_pos (by simp only [Region.wanted]; rw [yielded_of (d := 39) (b := true) rfl (by simp only [hdd])]; rfl)]
        try simp only [perAt, List.getD_cons_zero, List.getD_cons_succ, Per.eq, Per.row, Per.of]
        simp [execOp, Act.eval, hdd, relyUpon, go_sem, Grow.refl]
      · rw [if_pos (by rfl)]
        try simp only [perAt, List.getD_cons_zero, List.getD_cons_succ, Per.eq, Per.row, Per.of]
        simp [execOp, Act.eval, hdd, relyUpon, go_sem, Grow.refl]
      · rw [if_pos (by rfl)]
        try simp only [perAt, List.getD_cons_zero, List.getD_cons_succ, Per.eq, Per.row, Per.of]
        simp [execOp, Act.eval, hdd, relyUpon, go_sem, Grow.refl]
      · rw [if_pos (by simp only [Region.wanted]; rw [yielded_of (d := 50) (b := true) rfl (by simp only [hdd])]; rfl)]
        try simp only [perAt, List.getD_cons_zero, List.getD_cons_succ, Per.eq, Per.row, Per.of]
        have hs3 := hfr 3 rfl
        simp only [Array.getD_eq_getD_getElem?] at hs3
        have kc := hg.cells
        simp [execOp, Act.eval, hdd, hs3, relyUpon, go_sem, Grow.refl, kc, kN, z4_0, z4_1, z4_2]
      · rw [if_pos (by simp only [Region.wanted]; rw [yielded_of (d := 50) (b := true) rfl (by simp only [hdd])]; rfl)]
        try simp only [perAt, List.getD_cons_zero, List.getD_cons_succ, Per.eq, Per.row, Per.of]
        have hs4 := hfr 4 rfl
        simp only [Array.getD_eq_getD_getElem?] at hs4
        have kc := hg.cells
        simp [execOp, Act.eval, hdd, hs4, relyUpon, go_sem, Grow.refl, kc, kN, z4_0, z4_1, z4_2]
      · rw [if_pos (by simp only [Region.wanted]; rw [yielded_of (d := 50) (b := true) rfl (by simp only [hdd])]; rfl)]
        try simp only [perAt, List.getD_cons_zero, List.getD_cons_succ, Per.eq, Per.row, Per.of]
        simp [execOp, Act.eval, hdd, relyUpon, go_sem]
        refine (oab.out w').mono fun e w'' h => ?_
        obtain ⟨h1, h2⟩ := h
        have h3 : Grow w' w'' := by first | exact h2 | (rw [← h2]; exact Grow.refl _)
        first | exact ⟨h3, h1⟩ | exact ⟨_, h1, h3, rfl⟩ | exact ⟨h1, h3⟩
      · rw [if_pos (by simp only [Region.wanted]; rw [yielded_of (d := 50) (b := true) rfl (by simp only [hdd])]; rfl)]
        try simp only [perAt, List.getD_cons_zero, List.getD_cons_succ, Per.eq, Per.row, Per.of]
        have hs4 := hfr 4 rfl
        simp only [Array.getD_eq_getD_getElem?] at hs4
        have kc := hg.cells
        simp [execOp, Act.eval, hdd, hs4, relyUpon, go_sem, Grow.refl, kc, kN, z4_0, z4_1, z4_2]
      · rw [if_pos (by simp only [Region.wanted]; rw [yielded_of (d := 50) (b := true) rfl (by simp only [hdd])]; rfl)]
        try simp only [perAt, List.getD_cons_zero, List.getD_cons_succ, Per.eq, Per.row, Per.of]
        have hs3 := hfr 3 rfl
        simp only [Array.getD_eq_getD_getElem?] at hs3
        have kc := hg.cells
        simp [execOp, Act.eval, hdd, hs3, relyUpon, go_sem, Grow.refl, kc, kN, z4_0, z4_1, z4_2]
      · rw [if_pos (by simp only [Region.wanted]; rw [yielded_of (d := 50) (b := true) rfl (by simp only [hdd])]; rfl)]
        try simp only [perAt, List.getD_cons_zero, List.getD_cons_succ, Per.eq, Per.row, Per.of]
        simp [execOp, Act.eval, hdd, relyUpon, go_sem]
        refine (oba.out w').mono fun e w'' h => ?_
        obtain ⟨h1, h2⟩ := h
        have h3 : Grow w' w'' := by first | exact h2 | (rw [← h2]; exact Grow.refl _)
        first | exact ⟨h3, h1⟩ | exact ⟨_, h1, h3, rfl⟩ | exact ⟨h1, h3⟩
      · rw [if_pos (by simp only [Region.wanted]; rw [yielded_of (d := 50) (b := true) rfl (by simp only [hdd])]; rfl)]
        try simp only [perAt, List.getD_cons_zero, List.getD_cons_succ, Per.eq, Per.row, Per.of]
        simp [execOp, Act.eval, hdd, relyUpon, go_sem, Grow.refl]
      · rw [if_pos (by rfl)]
        try simp only [perAt, List.getD_cons_zero, List.getD_cons_succ, Per.eq, Per.row, Per.of]
        simp [execOp, Act.eval, hdd, relyUpon, go_sem, Grow.refl]
      · rw [if_pos (by rfl)]
        try simp only [perAt, List.getD_cons_zero, List.getD_cons_succ, Per.eq, Per.row, Per.of]
        simp [execOp, Act.eval, hdd, relyUpon, go_sem, Grow.refl]
      · rw [if_pos (by simp only [Region.wanted]; rw [yielded_of (d := 59) (b := true) rfl (by simp only [hdd])]; rfl)]
        try simp only [perAt, List.getD_cons_zero, List.getD_cons_succ, Per.eq, Per.row, Per.of]
        have hs3 := hfr 3 rfl
        simp only [Array.getD_eq_getD_getElem?] at hs3
        have kc := hg.cells
        simp [execOp, Act.eval, hdd, hs3, relyUpon, go_sem, Grow.refl, kc, kN, z4_0, z4_1, z4_2]
      · rw [if_pos (by simp only [Region.wanted]; rw [yielded_of (d := 59) (b := true) rfl (by simp only [hdd])]; rfl)]
        try simp only [perAt, List.getD_cons_zero, List.getD_cons_succ, Per.eq, Per.row, Per.of]
        have hs3 := hfr 3 rfl
        simp only [Array.getD_eq_getD_getElem?] at hs3
        have kc := hg.cells
        simp [execOp, Act.eval, hdd, hs3, relyUpon, go_sem, Grow.refl, kc, kN, z4_0, z4_1, z4_2]
      · rw [if_pos (by simp only [Region.wanted]; rw [yielded_of (d := 59) (b := true) rfl (by simp only [hdd])]; rfl)]
        try simp only [perAt, List.getD_cons_zero, List.getD_cons_succ, Per.eq, Per.row, Per.of]
        simp [execOp, Act.eval, hdd, relyUpon, go_sem]
        refine (oaa.out w').mono fun e w'' h => ?_
        obtain ⟨h1, h2⟩ := h
        have h3 : Grow w' w'' := by first | exact h2 | (rw [← h2]; exact Grow.refl _)
        first | exact ⟨h3, h1⟩ | exact ⟨_, h1, h3, rfl⟩ | exact ⟨h1, h3⟩
      · rw [if_pos (by rfl)]
        try simp only [perAt, List.getD_cons_zero, List.getD_cons_succ, Per.eq, Per.row, Per.of]
        simp [execOp, Act.eval, hdd, relyUpon, go_sem, Grow.refl]
      · rw [if_pos (by rfl)]
        try simp only [perAt, List.getD_cons_zero, List.getD_cons_succ, Per.eq, Per.row, Per.of]
        simp [execOp, Act.eval, hdd, relyUpon, go_sem, Grow.refl]
      · rw [if_pos (by simp only [Region.wanted]; rw [yielded_of (d := 64) (b := true) rfl (by simp only [hdd])]; rfl)]
        try simp only [perAt, List.getD_cons_zero, List.getD_cons_succ, Per.eq, Per.row, Per.of]
        simp [execOp, Act.eval, hdd, relyUpon, go_sem]
        refine (haw.out w').mono fun e w'' h => ?_
        obtain ⟨h1, h2⟩ := h
        have h3 : Grow w' w'' := by first | exact h2 | (rw [← h2]; exact Grow.refl _)
        first | exact ⟨h3, h1⟩ | exact ⟨_, h1, h3, rfl⟩ | exact ⟨h1, h3⟩
      · rw [if_pos (by rfl)]
        try simp only [perAt, List.getD_cons_zero, List.getD_cons_succ, Per.eq, Per.row, Per.of]
        simp [execOp, Act.eval, hdd, relyUpon, go_sem, Grow.refl]
      · rw [if_pos (by rfl)]
        try simp only [perAt, List.getD_cons_zero, List.getD_cons_succ, Per.eq, Per.row, Per.of]
        simp [execOp, Act.eval, hdd, relyUpon, go_sem, Grow.refl]
    intro wz hgz
    simp only [relyEnd, List.headD_cons, List.tail_cons, Per.eq, Per.row, Per.of]
    rintro _ rfl _ rfl _ rfl _ rfl _ rfl _ rfl _ rfl _ rfl _ rfl _ rfl _ rfl _ rfl _ rfl _ rfl _ rfl _ rfl _ rfl _ rfl _ rfl _ rfl _ rfl _ rfl _ rfl _ rfl _ rfl _ rfl _ rfl _ rfl _ rfl _ rfl _ rfl _ rfl _ rfl
    go_simp
    go_wp2_with fail
    go_ret
    exact ⟨rfl, Grow.trans (Grow.trans (Grow.trans (Grow.alloc _ _) (Grow.alloc _ _)) (Grow.alloc _ _)) (Grow.trans hB hgz)⟩
  · go_enter Try.func6, Try.ntmps6
    go_wp2_with fail
    refine (e1.out _).mono ?_
    rintro e w1 ⟨rfl, b1⟩
    have k1 := b1.cells
    have z1_0 : w.heap.size < w1.heap.size := (by have := b1.size; simp at this; omega)
    have z1_1 : w.heap.size + 1 < w1.heap.size := (by have := b1.size; simp at this; omega)
    have z1_2 : w.heap.size + 1 + 1 < w1.heap.size := (by have := b1.size; simp at this; omega)
    go_wp2_with fail
    refine (e2.out _).mono ?_
    rintro e w2 ⟨rfl, b2⟩
    have k2 := b2.cells
    have z2_0 : w.heap.size < w2.heap.size := (by have := b2.size; omega)
    have z2_1 : w.heap.size + 1 < w2.heap.size := (by have := b2.size; omega)
    have z2_2 : w.heap.size + 1 + 1 < w2.heap.size := (by have := b2.size; omega)
    go_wp2_with fail
    refine (e3.out _).mono ?_
    rintro e w3 ⟨rfl, b3⟩
    have k3 := b3.cells
    have z3_0 : w.heap.size < w3.heap.size := (by have := b3.size; omega)
    have z3_1 : w.heap.size + 1 < w3.heap.size := (by have := b3.size; omega)
    have z3_2 : w.heap.size + 1 + 1 < w3.heap.size := (by have := b3.size; omega)
    go_wp2_with fail
    refine (cab.out _).mono ?_
    rintro e w4 ⟨rfl, b4⟩
    have k4 := b4.cells
    have z4_0 : w.heap.size < w4.heap.size := (by have := b4.size; omega)
    have z4_1 : w.heap.size + 1 < w4.heap.size := (by have := b4.size; omega)
    have z4_2 : w.heap.size + 1 + 1 < w4.heap.size := (by have := b4.size; omega)
    go_wp2_with fail
    have hB := (Grow.trans b1 (Grow.trans b2 (Grow.trans b3 b4)))
    have kN := hB.cells
    refine wp_rely [.eq (.agg #[.int .i64 aid, .int .i64 aproc, .int .i64 aobj, .int .i64 akind, .int .i64 ameth, .int .i64 aarg, .int .i64 asec, .bool adone, .int .i64 ares, .int .i64 ainv, .int .i64 aret]), .eq (.agg #[.int .i64 aid, .int .i64 aproc, .int .i64 aobj, .int .i64 akind, .int .i64 ameth, .int .i64 aarg, .int .i64 asec, .bool adone, .int .i64 ares, .int .i64 ainv, .int .i64 aret]), .eq (.bool false), .eq (.bool true), .eq (.bool true), .eq (.agg #[.int .i64 aid, .int .i64 aproc, .int .i64 aobj, .int .i64 akind, .int .i64 ameth, .int .i64 aarg, .int .i64 asec, .bool adone, .int .i64 ares, .int .i64 ainv, .int .i64 aret]), .eq (.agg #[.int .i64 bid, .int .i64 bproc, .int .i64 bobj, .int .i64 bkind, .int .i64 bmeth, .int .i64 barg, .int .i64 bsec, .bool bdone, .int .i64 bres, .int .i64 binv, .int .i64 bret]), .eq (.bool false), .eq (.bool false), .eq undef, .eq undef, .eq undef, .eq (.bool false), .eq (.bool true), .eq (.bool true), .eq (.bool true), .eq (.agg #[.int .i64 aid, .int .i64 aproc, .int .i64 aobj, .int .i64 akind, .int .i64 ameth, .int .i64 aarg, .int .i64 asec, .bool adone, .int .i64 ares, .int .i64 ainv, .int .i64 aret]), .eq (.agg #[.int .i64 bid, .int .i64 bproc, .int .i64 bobj, .int .i64 bkind, .int .i64 bmeth, .int .i64 barg, .int .i64 bsec, .bool bdone, .int .i64 bres, .int .i64 binv, .int .i64 bret]), .eq (.bool false), .eq (.agg #[.int .i64 bid, .int .i64 bproc, .int .i64 bobj, .int .i64 bkind, .int .i64 bmeth, .int .i64 barg, .int .i64 bsec, .bool bdone, .int .i64 bres, .int .i64 binv, .int .i64 bret]), .eq (.agg #[.int .i64 aid, .int .i64 aproc, .int .i64 aobj, .int .i64 akind, .int .i64 ameth, .int .i64 aarg, .int .i64 asec, .bool adone, .int .i64 ares, .int .i64 ainv, .int .i64 aret]), .eq (.bool false), .eq (.bool true), .eq (.bool true), .eq (.bool true), .eq (.agg #[.int .i64 aid, .int .i64 aproc, .int .i64 aobj, .int .i64 akind, .int .i64 ameth, .int .i64 aarg, .int .i64 asec, .bool adone, .int .i64 ares, .int .i64 ainv, .int .i64 aret]), .eq (.agg #[.int .i64 aid, .int .i64 aproc, .int .i64 aobj, .int .i64 akind, .int .i64 ameth, .int .i64 aarg, .int .i64 asec, .bool adone, .int .i64 ares, .int .i64 ainv, .int .i64 aret]), .eq (.bool true), .eq (.bool true), .eq (.bool true), .eq (.bool true), .eq (.bool true), .eq (.bool true)] (by kernel_rfl) (by kernel_rfl) (by kernel_rfl) ?_ ?_
    · simp only [relyGoals]
      refine ⟨?_, ?_, ?_, ?_, ?_, ?_, ?_, ?_, ?_, ?_, ?_, ?_, ?_, ?_, ?_, ?_, ?_, ?_, ?_, ?_, ?_, ?_, ?_, ?_, ?_, ?_, ?_, ?_, ?_, ?_, ?_, ?_, ?_, trivial⟩
      all_goals intro t w' hsz hg hdd hfr
      all_goals simp only [depsDid, Did, perAt, List.getElem?_cons_zero, List.getElem?_cons_succ, List.getD_cons_zero, List.getD_cons_succ, Per.eq, Per.row, Per.of, and_true, Array.getD_eq_getD_getElem?] at hdd
      · rw [if_pos (by rfl)]
        try simp only [perAt, List.getD_cons_zero, List.getD_cons_succ, Per.eq, Per.row, Per.of]
        have hs3 := hfr 3 rfl
        simp only [Array.getD_eq_getD_getElem?] at hs3
        have kc := hg.cells
        simp [execOp, Act.eval, hdd, hs3, relyUpon, go_sem, Grow.refl, kc, kN, z4_0, z4_1, z4_2]
      · rw [if_pos (by rfl)]
        try simp only [perAt, List.getD_cons_zero, List.getD_cons_succ, Per.eq, Per.row, Per.of]
        have hs3 := hfr 3 rfl
        simp only [Array.getD_eq_getD_getElem?] at hs3
        have kc := hg.cells
        simp [execOp, Act.eval, hdd, hs3, relyUpon, go_sem, Grow.refl, kc, kN, z4_0, z4_1, z4_2]
      · rw [if_pos (by rfl)]
        try simp only [perAt, List.getD_cons_zero, List.getD_cons_succ, Per.eq, Per.row, Per.of]
        simp [execOp, Act.eval, hdd, relyUpon, go_sem]
        refine (caa.out w').mono fun e w'' h => ?_
        obtain ⟨h1, h2⟩ := h
        have h3 : Grow w' w'' := by first | exact h2 | (rw [← h2]; exact Grow.refl _)
        first | exact ⟨h3, h1⟩ | exact ⟨_, h1, h3, rfl⟩ | exact ⟨h1, h3⟩
      · rw [if_pos (by rfl)]
        try simp only [perAt, List.getD_cons_zero, List.getD_cons_succ, Per.eq, Per.row, Per.of]
        simp [execOp, Act.eval, hdd, relyUpon, go_sem, Grow.refl]
      · rw [if_pos (by rfl)]
        try simp only [perAt, List.getD_cons_zero, List.getD_cons_succ, Per.eq, Per.row, Per.of]
        simp [execOp, Act.eval, hdd, relyUpon, go_sem, Grow.refl]
      · rw [if_pos (by simp only [Region.wanted]; rw [yielded_of (d := 39) (b := true) rfl (by simp only [hdd])]; rfl)]
        try simp only [perAt, List.getD_cons_zero, List.getD_cons_succ, Per.eq, Per.row, Per.of]
        have hs3 := hfr 3 rfl
        simp only [Array.getD_eq_getD_getElem?] at hs3
        have kc := hg.cells
        simp [execOp, Act.eval, hdd, hs3, relyUpon, go_sem, Grow.refl, kc, kN, z4_0, z4_1, z4_2]
      · rw [if_pos (by simp only [Region.wanted]; rw [yielded_of (d := 39) (b := true) rfl (by simp only [hdd])]; rfl)]
        try simp only [perAt, List.getD_cons_zero, List.getD_cons_succ, Per.eq, Per.row, Per.of]
        have hs4 := hfr 4 rfl
        simp only [Array.getD_eq_getD_getElem?] at hs4
        have kc := hg.cells
        simp [execOp, Act.eval, hdd, hs4, relyUpon, go_sem, Grow.refl, kc, kN, z4_0, z4_1, z4_2]
      · rw [if_pos (by simp only [Region.wanted]; rw [yielded_of (d := 39) (b := true) rfl (by simp only [hdd])]; rfl)]
        try simp only [perAt, List.getD_cons_zero, List.getD_cons_succ, Per.eq, Per.row, Per.of]
        simp [execOp, Act.eval, hdd, relyUpon, go_sem]
        refine (cab.out w').mono fun e w'' h => ?_
        obtain ⟨h1, h2⟩ := h
        have h3 : Grow w' w'' := by first | exact h2 | (rw [← h2]; exact Grow.refl _)
        first | exact ⟨h3, h1⟩ | exact ⟨_, h1, h3, rfl⟩ | exact ⟨h1, h3⟩
      · rw [if_pos (by simp only [Region.wanted]; rw [yielded_of (d := 39) (b := true) rfl (by simp only [hdd])]; rfl)]
        try simp only [perAt, List.getD_cons_zero, List.getD_cons_succ, Per.eq, Per.row, Per.of]
        simp [execOp, Act.eval, hdd, relyUpon, go_sem, Grow.refl]
      · rw [if_neg (by simp only [Region.wanted]; rw [yielded_of (d := 43) (b := false) rfl (by simp only [hdd])]; decide)]
        all_goals first | rfl | simp [perAt, Per.eq, Per.of, Per.row]
      · rw [if_neg (by simp only [Region.wanted]; rw [yielded_of (d := 43) (b := false) rfl (by simp only [hdd])]; decide)]
        all_goals first | rfl | simp [perAt, Per.eq, Per.of, Per.row]
      · rw [if_neg (by simp only [Region.wanted]; rw [yielded_of (d := 43) (b := false) rfl (by simp only [hdd])]; decide)]
        all_goals first | rfl | simp [perAt, Per.eq, Per.of, Per.row]
      · rw [if_pos (by simp only [Region.wanted]; rw [yielded_of (d := 39) (b := true) rfl (by simp only [hdd])]; rfl)]
        try simp only [perAt, List.getD_cons_zero, List.getD_cons_succ, Per.eq, Per.row, Per.of]
        simp [execOp, Act.eval, hdd, relyUpon, go_sem, Grow.refl]
      · rw [if_pos (by simp only [Region.wanted]; rw [yielded_of (d := 39) (b := true) rfl (by simp only [hdd])]; rfl)]
        try simp only [perAt, List.getD_cons_zero, List.getD_cons_succ, Per.eq, Per.row, Per.of]
        simp [execOp, Act.eval, hdd, relyUpon, go_sem, Grow.refl]
      · rw [if_pos (by rfl)]
        try simp only [perAt, List.getD_cons_zero, List.getD_cons_succ, Per.eq, Per.row, Per.of]
        simp [execOp, Act.eval, hdd, relyUpon, go_sem, Grow.refl]
      · rw [if_pos (by rfl)]
        try simp only [perAt, List.getD_cons_zero, List.getD_cons_succ, Per.eq, Per.row, Per.of]
        simp [execOp, Act.eval, hdd, relyUpon, go_sem, Grow.refl]
      · rw [if_pos (by simp only [Region.wanted]; rw [yielded_of (d := 50) (b := true) rfl (by simp only [hdd])]; rfl)]
        try simp only [perAt, List.getD_cons_zero, List.getD_cons_succ, Per.eq, Per.row, Per.of]
        have hs3 := hfr 3 rfl
        simp only [Array.getD_eq_getD_getElem?] at hs3
        have kc := hg.cells
        simp [execOp, Act.eval, hdd, hs3, relyUpon, go_sem, Grow.refl, kc, kN, z4_0, z4_1, z4_2]
      · rw [if_pos (by simp only [Region.wanted]; rw [yielded_of (d := 50) (b := true) rfl (by simp only [hdd])]; rfl)]
        try simp only [perAt, List.getD_cons_zero, List.getD_cons_succ, Per.eq, Per.row, Per.of]
        have hs4 := hfr 4 rfl
        simp only [Array.getD_eq_getD_getElem?] at hs4
        have kc := hg.cells
        simp [execOp, Act.eval, hdd, hs4, relyUpon, go_sem, Grow.refl, kc, kN, z4_0, z4_1, z4_2]
      · rw [if_pos (by simp only [Region.wanted]; rw [yielded_of (d := 50) (b := true) rfl (by simp only [hdd])]; rfl)]
        try simp only [perAt, List.getD_cons_zero, List.getD_cons_succ, Per.eq, Per.row, Per.of]
        simp [execOp, Act.eval, hdd, relyUpon, go_sem]
        refine (oab.out w').mono fun e w'' h => ?_
        obtain ⟨h1, h2⟩ := h
        have h3 : Grow w' w'' := by first | exact h2 | (rw [← h2]; exact Grow.refl _)
        first | exact ⟨h3, h1⟩ | exact ⟨_, h1, h3, rfl⟩ | exact ⟨h1, h3⟩
      · rw [if_pos (by simp only [Region.wanted]; rw [yielded_of (d := 50) (b := true) rfl (by simp only [hdd])]; rfl)]
        try simp only [perAt, List.getD_cons_zero, List.getD_cons_succ, Per.eq, Per.row, Per.of]
        have hs4 := hfr 4 rfl
        simp only [Array.getD_eq_getD_getElem?] at hs4
        have kc := hg.cells
        simp [execOp, Act.eval, hdd, hs4, relyUpon, go_sem, Grow.refl, kc, kN, z4_0, z4_1, z4_2]
      · rw [if_pos (by simp only [Region.wanted]; rw [yielded_of (d := 50) (b := true) rfl (by simp only [hdd])]; rfl)]
        try simp only [perAt, List.getD_cons_zero, List.getD_cons_succ, Per.eq, Per.row, Per.of]
        have hs3 := hfr 3 rfl
        simp only [Array.getD_eq_getD_getElem?] at hs3
        have kc := hg.cells
        simp [execOp, Act.eval, hdd, hs3, relyUpon, go_sem, Grow.refl, kc, kN, z4_0, z4_1, z4_2]
      · rw [if_pos (by simp only [Region.wanted]; rw [yielded_of (d := 50) (b := true) rfl (by simp only [hdd])]; rfl)]
        try simp only [perAt, List.getD_cons_zero, List.getD_cons_succ, Per.eq, Per.row, Per.of]
        simp [execOp, Act.eval, hdd, relyUpon, go_sem]
        refine (oba.out w').mono fun e w'' h => ?_
        obtain ⟨h1, h2⟩ := h
        have h3 : Grow w' w'' := by first | exact h2 | (rw [← h2]; exact Grow.refl _)
        first | exact ⟨h3, h1⟩ | exact ⟨_, h1, h3, rfl⟩ | exact ⟨h1, h3⟩
      · rw [if_pos (by simp only [Region.wanted]; rw [yielded_of (d := 50) (b := true) rfl (by simp only [hdd])]; rfl)]
        try simp only [perAt, List.getD_cons_zero, List.getD_cons_succ, Per.eq, Per.row, Per.of]
        simp [execOp, Act.eval, hdd, relyUpon, go_sem, Grow.refl]
      · rw [if_pos (by rfl)]
        try simp only [perAt, List.getD_cons_zero, List.getD_cons_succ, Per.eq, Per.row, Per.of]
        simp [execOp, Act.eval, hdd, relyUpon, go_sem, Grow.refl]
      · rw [if_pos (by rfl)]
        try simp only [perAt, List.getD_cons_zero, List.getD_cons_succ, Per.eq, Per.row, Per.of]
        simp [execOp, Act.eval, hdd, relyUpon, go_sem, Grow.refl]
      · rw [if_pos (by simp only [Region.wanted]; rw [yielded_of (d := 59) (b := true) rfl (by simp only [hdd])]; rfl)]
        try simp only [perAt, List.getD_cons_zero, List.getD_cons_succ, Per.eq, Per.row, Per.of]
        have hs3 := hfr 3 rfl
        simp only [Array.getD_eq_getD_getElem?] at hs3
        have kc := hg.cells
        simp [execOp, Act.eval, hdd, hs3, relyUpon, go_sem, Grow.refl, kc, kN, z4_0, z4_1, z4_2]
      · rw [if_pos (by simp only [Region.wanted]; rw [yielded_of (d := 59) (b := true) rfl (by simp only [hdd])]; rfl)]
        try simp only [perAt, List.getD_cons_zero, List.getD_cons_succ, Per.eq, Per.row, Per.of]
        have hs3 := hfr 3 rfl
        simp only [Array.getD_eq_getD_getElem?] at hs3
        have kc := hg.cells
        simp [execOp, Act.eval, hdd, hs3, relyUpon, go_sem, Grow.refl, kc, kN, z4_0, z4_1, z4_2]
      · rw [if_pos (by simp only [Region.wanted]; rw [yielded_of (d := 59) (b := true) rfl (by simp only [hdd])]; rfl)]
        try simp only [perAt, List.getD_cons_zero, List.getD_cons_succ, Per.eq, Per.row, Per.of]
        simp [execOp, Act.eval, hdd, relyUpon, go_sem]
        refine (oaa.out w').mono fun e w'' h => ?_
        obtain ⟨h1, h2⟩ := h
        have h3 : Grow w' w'' := by first | exact h2 | (rw [← h2]; exact Grow.refl _)
        first | exact ⟨h3, h1⟩ | exact ⟨_, h1, h3, rfl⟩ | exact ⟨h1, h3⟩
      · rw [if_pos (by rfl)]
        try simp only [perAt, List.getD_cons_zero, List.getD_cons_succ, Per.eq, Per.row, Per.of]
        simp [execOp, Act.eval, hdd, relyUpon, go_sem, Grow.refl]
      · rw [if_pos (by rfl)]
        try simp only [perAt, List.getD_cons_zero, List.getD_cons_succ, Per.eq, Per.row, Per.of]
        simp [execOp, Act.eval, hdd, relyUpon, go_sem, Grow.refl]
      · rw [if_pos (by simp only [Region.wanted]; rw [yielded_of (d := 64) (b := true) rfl (by simp only [hdd])]; rfl)]
        try simp only [perAt, List.getD_cons_zero, List.getD_cons_succ, Per.eq, Per.row, Per.of]
        simp [execOp, Act.eval, hdd, relyUpon, go_sem]
        refine (haw.out w').mono fun e w'' h => ?_
        obtain ⟨h1, h2⟩ := h
        have h3 : Grow w' w'' := by first | exact h2 | (rw [← h2]; exact Grow.refl _)
        first | exact ⟨h3, h1⟩ | exact ⟨_, h1, h3, rfl⟩ | exact ⟨h1, h3⟩
      · rw [if_pos (by rfl)]
        try simp only [perAt, List.getD_cons_zero, List.getD_cons_succ, Per.eq, Per.row, Per.of]
        simp [execOp, Act.eval, hdd, relyUpon, go_sem, Grow.refl]
      · rw [if_pos (by rfl)]
        try simp only [perAt, List.getD_cons_zero, List.getD_cons_succ, Per.eq, Per.row, Per.of]
        simp [execOp, Act.eval, hdd, relyUpon, go_sem, Grow.refl]
    intro wz hgz
    simp only [relyEnd, List.headD_cons, List.tail_cons, Per.eq, Per.row, Per.of]
    rintro _ rfl _ rfl _ rfl _ rfl _ rfl _ rfl _ rfl _ rfl _ rfl _ rfl _ rfl _ rfl _ rfl _ rfl _ rfl _ rfl _ rfl _ rfl _ rfl _ rfl _ rfl _ rfl _ rfl _ rfl _ rfl _ rfl _ rfl _ rfl _ rfl _ rfl _ rfl _ rfl _ rfl
    go_simp
    go_wp2_with fail
    go_ret
    exact ⟨rfl, Grow.trans (Grow.trans (Grow.trans (Grow.alloc _ _) (Grow.alloc _ _)) (Grow.alloc _ _)) (Grow.trans hB hgz)⟩
  · go_enter Try.func6, Try.ntmps6
    go_wp2_with fail
    refine (e1.out _).mono ?_
    rintro e w1 ⟨rfl, b1⟩
    have k1 := b1.cells
    have z1_0 : w.heap.size < w1.heap.size := (by have := b1.size; simp at this; omega)
    have z1_1 : w.heap.size + 1 < w1.heap.size := (by have := b1.size; simp at this; omega)
    have z1_2 : w.heap.size + 1 + 1 < w1.heap.size := (by have := b1.size; simp at this; omega)
    go_wp2_with fail
    refine (e2.out _).mono ?_
    rintro e w2 ⟨rfl, b2⟩
    have k2 := b2.cells
    have z2_0 : w.heap.size < w2.heap.size := (by have := b2.size; omega)
    have z2_1 : w.heap.size + 1 < w2.heap.size := (by have := b2.size; omega)
    have z2_2 : w.heap.size + 1 + 1 < w2.heap.size := (by have := b2.size; omega)
    go_wp2_with fail
    refine (e3.out _).mono ?_
    rintro e w3 ⟨rfl, b3⟩
    have k3 := b3.cells
    have z3_0 : w.heap.size < w3.heap.size := (by have := b3.size; omega)
    have z3_1 : w.heap.size + 1 < w3.heap.size := (by have := b3.size; omega)
    have z3_2 : w.heap.size + 1 + 1 < w3.heap.size := (by have := b3.size; omega)
    go_wp2_with fail
    refine (cab.out _).mono ?_
    rintro e w4 ⟨rfl, b4⟩
    have k4 := b4.cells
    have z4_0 : w.heap.size < w4.heap.size := (by have := b4.size; omega)
    have z4_1 : w.heap.size + 1 < w4.heap.size := (by have := b4.size; omega)
    have z4_2 : w.heap.size + 1 + 1 < w4.heap.size := (by have := b4.size; omega)
    go_wp2_with fail
    refine (cbc.out _).mono ?_
    rintro e w5 ⟨rfl, b5⟩
    have k5 := b5.cells
    have z5_0 : w.heap.size < w5.heap.size := (by have := b5.size; omega)
    have z5_1 : w.heap.size + 1 < w5.heap.size := (by have := b5.size; omega)
    have z5_2 : w.heap.size + 1 + 1 < w5.heap.size := (by have := b5.size; omega)
    go_wp2_with fail
    have hB := (Grow.trans b1 (Grow.trans b2 (Grow.trans b3 (Grow.trans b4 b5))))
    have kN := hB.cells
    refine wp_rely [.eq (.agg #[.int .i64 aid, .int .i64 aproc, .int .i64 aobj, .int .i64 akind, .int .i64 ameth, .int .i64 aarg, .int .i64 asec, .bool adone, .int .i64 ares, .int .i64 ainv, .int .i64 aret]), .eq (.agg #[.int .i64 aid, .int .i64 aproc, .int .i64 aobj, .int .i64 akind, .int .i64 ameth, .int .i64 aarg, .int .i64 asec, .bool adone, .int .i64 ares, .int .i64 ainv, .int .i64 aret]), .eq (.bool false), .eq (.bool true), .eq (.bool true), .eq (.agg #[.int .i64 aid, .int .i64 aproc, .int .i64 aobj, .int .i64 akind, .int .i64 ameth, .int .i64 aarg, .int .i64 asec, .bool adone, .int .i64 ares, .int .i64 ainv, .int .i64 aret]), .eq (.agg #[.int .i64 bid, .int .i64 bproc, .int .i64 bobj, .int .i64 bkind, .int .i64 bmeth, .int .i64 barg, .int .i64 bsec, .bool bdone, .int .i64 bres, .int .i64 binv, .int .i64 bret]), .eq (.bool true), .eq (.bool true), .eq (.agg #[.int .i64 bid, .int .i64 bproc, .int .i64 bobj, .int .i64 bkind, .int .i64 bmeth, .int .i64 barg, .int .i64 bsec, .bool bdone, .int .i64 bres, .int .i64 binv, .int .i64 bret]), .eq (.agg #[.int .i64 aid, .int .i64 aproc, .int .i64 aobj, .int .i64 akind, .int .i64 ameth, .int .i64 aarg, .int .i64 asec, .bool adone, .int .i64 ares, .int .i64 ainv, .int .i64 aret]), .eq (.bool false), .eq (.bool false), .eq (.bool true), .eq (.bool true), .eq (.bool true), .eq (.agg #[.int .i64 aid, .int .i64 aproc, .int .i64 aobj, .int .i64 akind, .int .i64 ameth, .int .i64 aarg, .int .i64 asec, .bool adone, .int .i64 ares, .int .i64 ainv, .int .i64 aret]), .eq (.agg #[.int .i64 bid, .int .i64 bproc, .int .i64 bobj, .int .i64 bkind, .int .i64 bmeth, .int .i64 barg, .int .i64 bsec, .bool bdone, .int .i64 bres, .int .i64 binv, .int .i64 bret]), .eq (.bool false), .eq (.agg #[.int .i64 bid, .int .i64 bproc, .int .i64 bobj, .int .i64 bkind, .int .i64 bmeth, .int .i64 barg, .int .i64 bsec, .bool bdone, .int .i64 bres, .int .i64 binv, .int .i64 bret]), .eq (.agg #[.int .i64 aid, .int .i64 aproc, .int .i64 aobj, .int .i64 akind, .int .i64 ameth, .int .i64 aarg, .int .i64 asec, .bool adone, .int .i64 ares, .int .i64 ainv, .int .i64 aret]), .eq (.bool false), .eq (.bool true), .eq (.bool true), .eq (.bool true), .eq (.agg #[.int .i64 aid, .int .i64 aproc, .int .i64 aobj, .int .i64 akind, .int .i64 ameth, .int .i64 aarg, .int .i64 asec, .bool adone, .int .i64 ares, .int .i64 ainv, .int .i64 aret]), .eq (.agg #[.int .i64 aid, .int .i64 aproc, .int .i64 aobj, .int .i64 akind, .int .i64 ameth, .int .i64 aarg, .int .i64 asec, .bool adone, .int .i64 ares, .int .i64 ainv, .int .i64 aret]), .eq (.bool true), .eq (.bool true), .eq (.bool true), .eq (.bool true), .eq (.bool true), .eq (.bool true)] (by kernel_rfl) (by kernel_rfl) (by kernel_rfl) ?_ ?_
    · simp only [relyGoals]
      refine ⟨?_, ?_, ?_, ?_, ?_, ?_, ?_, ?_, ?_, ?_, ?_, ?_, ?_, ?_, ?_, ?_, ?_, ?_, ?_, ?_, ?_, ?_, ?_, ?_, ?_, ?_, ?_, ?_, ?_, ?_, ?_, ?_, ?_, trivial⟩
      all_goals intro t w' hsz hg hdd hfr
      all_goals simp only [depsDid, Did, perAt, List.getElem?_cons_zero, List.getElem?_cons_succ, List.getD_cons_zero, List.getD_cons_succ, Per.eq, Per.row, Per.of, and_true, Array.getD_eq_getD_getElem?] at hdd
      · rw [if_pos (by rfl)]
        try simp only [perAt, List.getD_cons_zero, List.getD_cons_succ, Per.eq, Per.row, Per.of]
        have hs3 := hfr 3 rfl
        simp only [Array.getD_eq_getD_getElem?] at hs3
        have kc := hg.cells
        simp [execOp, Act.eval, hdd, hs3, relyUpon, go_sem, Grow.refl, kc, kN, z5_0, z5_1, z5_2]
      · rw [if_pos (by rfl)]
        try simp only [perAt, List.getD_cons_zero, List.getD_cons_succ, Per.eq, Per.row, Per.of]
        have hs3 := hfr 3 rfl
        simp only [Array.getD_eq_getD_getElem?] at hs3
        have kc := hg.cells
        simp [execOp, Act.eval, hdd, hs3, relyUpon, go_sem, Grow.refl, kc, kN, z5_0, z5_1, z5_2]
      · rw [if_pos (by rfl)]
        try simp only [perAt, List.getD_cons_zero, List.getD_cons_succ, Per.eq, Per.row, Per.of]
        simp [execOp, Act.eval, hdd, relyUpon, go_sem]
        refine (caa.out w').mono fun e w'' h => ?_
        obtain ⟨h1, h2⟩ := h
        have h3 : Grow w' w'' := by first | exact h2 | (rw [← h2]; exact Grow.refl _)
        first | exact ⟨h3, h1⟩ | exact ⟨_, h1, h3, rfl⟩ | exact ⟨h1, h3⟩
      · rw [if_pos (by rfl)]
        try simp only [perAt, List.getD_cons_zero, List.getD_cons_succ, Per.eq, Per.row, Per.of]
        simp [execOp, Act.eval, hdd, relyUpon, go_sem, Grow.refl]
      · rw [if_pos (by rfl)]
        try simp only [perAt, List.getD_cons_zero, List.getD_cons_succ, Per.eq, Per.row, Per.of]
        simp [execOp, Act.eval, hdd, relyUpon, go_sem, Grow.refl]
      · rw [if_pos (by simp only [Region.wanted]; rw [yielded_of (d := 39) (b := true) rfl (by simp only [hdd])]; rfl)]
        try simp only [perAt, List.getD_cons_zero, List.getD_cons_succ, Per.eq, Per.row, Per.of]
        have hs3 := hfr 3 rfl
        simp only [Array.getD_eq_getD_getElem?] at hs3
        have kc := hg.cells
        simp [execOp, Act.eval, hdd, hs3, relyUpon, go_sem, Grow.refl, kc, kN, z5_0, z5_1, z5_2]
      · rw [if_pos (by simp only [Region.wanted]; rw [yielded_of (d := 39) (b := true) rfl (by simp only [hdd])]; rfl)]
        try simp only [perAt, List.getD_cons_zero, List.getD_cons_succ, Per.eq, Per.row, Per.of]
        have hs4 := hfr 4 rfl
        simp only [Array.getD_eq_getD_getElem?] at hs4
        have kc := hg.cells
        simp [execOp, Act.eval, hdd, hs4, relyUpon, go_sem, Grow.refl, kc, kN, z5_0, z5_1, z5_2]
      · rw [if_pos (by simp only [Region.wanted]; rw [yielded_of (d := 39) (b := true) rfl (by simp only [hdd])]; rfl)]
        try simp only [perAt, List.getD_cons_zero, List.getD_cons_succ, Per.eq, Per.row, Per.of]
        simp [execOp, Act.eval, hdd, relyUpon, go_sem]
        refine (cab.out w').mono fun e w'' h => ?_
        obtain ⟨h1, h2⟩ := h
        have h3 : Grow w' w'' := by first | exact h2 | (rw [← h2]; exact Grow.refl _)
        first | exact ⟨h3, h1⟩ | exact ⟨_, h1, h3, rfl⟩ | exact ⟨h1, h3⟩
      · rw [if_pos (by simp only [Region.wanted]; rw [yielded_of (d := 39) (b := true) rfl (by simp only [hdd])]; rfl)]
        try simp only [perAt, List.getD_cons_zero, List.getD_cons_succ, Per.eq, Per.row, Per.of]
        simp [execOp, Act.eval, hdd, relyUpon, go_sem, Grow.refl]
      · rw [if_pos (by simp only [Region.wanted]; rw [yielded_of (d := 43) (b := true) rfl (by simp only [hdd])]; rfl)]
        try simp only [perAt, List.getD_cons_zero, List.getD_cons_succ, Per.eq, Per.row, Per.of]
        have hs4 := hfr 4 rfl
        simp only [Array.getD_eq_getD_getElem?] at hs4
        have kc := hg.cells
        simp [execOp, Act.eval, hdd, hs4, relyUpon, go_sem, Grow.refl, kc, kN, z5_0, z5_1, z5_2]
      · rw [if_pos (by simp only [Region.wanted]; rw [yielded_of (d := 43) (b := true) rfl (by simp only [hdd])]; rfl)]
        try simp only [perAt, List.getD_cons_zero, List.getD_cons_succ, Per.eq, Per.row, Per.of]
        have hs3 := hfr 3 rfl
        simp only [Array.getD_eq_getD_getElem?] at hs3
        have kc := hg.cells
        simp [execOp, Act.eval, hdd, hs3, relyUpon, go_sem, Grow.refl, kc, kN, z5_0, z5_1, z5_2]
      · rw [if_pos (by simp only [Region.wanted]; rw [yielded_of (d := 43) (b := true) rfl (by simp only [hdd])]; rfl)]
        try simp only [perAt, List.getD_cons_zero, List.getD_cons_succ, Per.eq, Per.row, Per.of]
        simp [execOp, Act.eval, hdd, relyUpon, go_sem]
        refine (cba.out w').mono fun e w'' h => ?_
        obtain ⟨h1, h2⟩ := h
        have h3 : Grow w' w'' := by first | exact h2 | (rw [← h2]; exact Grow.refl _)
        first | exact ⟨h3, h1⟩ | exact ⟨_, h1, h3, rfl⟩ | exact ⟨h1, h3⟩
      · rw [if_pos (by simp only [Region.wanted]; rw [yielded_of (d := 39) (b := true) rfl (by simp only [hdd])]; rfl)]
        try simp only [perAt, List.getD_cons_zero, List.getD_cons_succ, Per.eq, Per.row, Per.of]
        simp [execOp, Act.eval, hdd, relyUpon, go_sem, Grow.refl]
      · rw [if_pos (by simp only [Region.wanted]; rw [yielded_of (d := 39) (b := true) rfl (by simp only [hdd])]; rfl)]
        try simp only [perAt, List.getD_cons_zero, List.getD_cons_succ, Per.eq, Per.row, Per.of]
        simp [execOp, Act.eval, hdd, relyUpon, go_sem, Grow.refl]
      · rw [if_pos (by rfl)]
        try simp only [perAt, List.getD_cons_zero, List.getD_cons_succ, Per.eq, Per.row, Per.of]
        simp [execOp, Act.eval, hdd, relyUpon, go_sem, Grow.refl]
      · rw [if_pos (by rfl)]
        try simp only [perAt, List.getD_cons_zero, List.getD_cons_succ, Per.eq, Per.row, Per.of]
        simp [execOp, Act.eval, hdd, relyUpon, go_sem, Grow.refl]
      · rw [if_pos (by simp only [Region.wanted]; rw [yielded_of (d := 50) (b := true) rfl (by simp only [hdd])]; rfl)]
        try simp only [perAt, List.getD_cons_zero, List.getD_cons_succ, Per.eq, Per.row, Per.of]
        have hs3 := hfr 3 rfl
        simp only [Array.getD_eq_getD_getElem?] at hs3
        have kc := hg.cells
        simp [execOp, Act.eval, hdd, hs3, relyUpon, go_sem, Grow.refl, kc, kN, z5_0, z5_1, z5_2]
      · rw [if_pos (by simp only [Region.wanted]; rw [yielded_of (d := 50) (b := true) rfl (by simp only [hdd])]; rfl)]
        try simp only [perAt, List.getD_cons_zero, List.getD_cons_succ, Per.eq, Per.row, Per.of]
        have hs4 := hfr 4 rfl
        simp only [Array.getD_eq_getD_getElem?] at hs4
        have kc := hg.cells
        simp [execOp, Act.eval, hdd, hs4, relyUpon, go_sem, Grow.refl, kc, kN, z5_0, z5_1, z5_2]
      · rw [if_pos (by simp only [Region.wanted]; rw [yielded_of (d := 50) (b := true) rfl (by simp only [hdd])]; rfl)]
        try simp only [perAt, List.getD_cons_zero, List.getD_cons_succ, Per.eq, Per.row, Per.of]
        simp [execOp, Act.eval, hdd, relyUpon, go_sem]
        refine (oab.out w').mono fun e w'' h => ?_
        obtain ⟨h1, h2⟩ := h
        have h3 : Grow w' w'' := by first | exact h2 | (rw [← h2]; exact Grow.refl _)
        first | exact ⟨h3, h1⟩ | exact ⟨_, h1, h3, rfl⟩ | exact ⟨h1, h3⟩
      · rw [if_pos (by simp only [Region.wanted]; rw [yielded_of (d := 50) (b := true) rfl (by simp only [hdd])]; rfl)]
        try simp only [perAt, List.getD_cons_zero, List.getD_cons_succ, Per.eq, Per.row, Per.of]
        have hs4 := hfr 4 rfl
        simp only [Array.getD_eq_getD_getElem?] at hs4
        have kc := hg.cells
        simp [execOp, Act.eval, hdd, hs4, relyUpon, go_sem, Grow.refl, kc, kN, z5_0, z5_1, z5_2]
      · rw [if_pos (by simp only [Region.wanted]; rw [yielded_of (d := 50) (b := true) rfl (by simp only [hdd])]; rfl)]
        try simp only [perAt, List.getD_cons_zero, List.getD_cons_succ, Per.eq, Per.row, Per.of]
        have hs3 := hfr 3 rfl
        simp only [Array.getD_eq_getD_getElem?] at hs3
        have kc := hg.cells
        simp [execOp, Act.eval, hdd, hs3, relyUpon, go_sem, Grow.refl, kc, kN, z5_0, z5_1, z5_2]
      · rw [if_pos (by simp only [Region.wanted]; rw [yielded_of (d := 50) (b := true) rfl (by simp only [hdd])]; rfl)]
        try simp only [perAt, List.getD_cons_zero, List.getD_cons_succ, Per.eq, Per.row, Per.of]
        simp [execOp, Act.eval, hdd, relyUpon, go_sem]
        refine (oba.out w').mono fun e w'' h => ?_
        obtain ⟨h1, h2⟩ := h
        have h3 : Grow w' w'' := by first | exact h2 | (rw [← h2]; exact Grow.refl _)
        first | exact ⟨h3, h1⟩ | exact ⟨_, h1, h3, rfl⟩ | exact ⟨h1, h3⟩
      · rw [if_pos (by simp only [Region.wanted]; rw [yielded_of (d := 50) (b := true) rfl (by simp only [hdd])]; rfl)]
        try simp only [perAt, List.getD_cons_zero, List.getD_cons_succ, Per.eq, Per.row, Per.of]
        simp [execOp, Act.eval, hdd, relyUpon, go_sem, Grow.refl]
      · rw [if_pos (by rfl)]
        try simp only [perAt, List.getD_cons_zero, List.getD_cons_succ, Per.eq, Per.row, Per.of]
        simp [execOp, Act.eval, hdd, relyUpon, go_sem, Grow.refl]
      · rw [if_pos (by rfl)]
        try simp only [perAt, List.getD_cons_zero, List.getD_cons_succ, Per.eq, Per.row, Per.of]
        simp [execOp, Act.eval, hdd, relyUpon, go_sem, Grow.refl]
      · rw [if_pos (by simp only [Region.wanted]; rw [yielded_of (d := 59) (b := true) rfl (by simp only [hdd])]; rfl)]
        try simp only [perAt, List.getD_cons_zero, List.getD_cons_succ, Per.eq, Per.row, Per.of]
        have hs3 := hfr 3 rfl
        simp only [Array.getD_eq_getD_getElem?] at hs3
        have kc := hg.cells
        simp [execOp, Act.eval, hdd, hs3, relyUpon, go_sem, Grow.refl, kc, kN, z5_0, z5_1, z5_2]
      · rw [if_pos (by simp only [Region.wanted]; rw [yielded_of (d := 59) (b := true) rfl (by simp only [hdd])]; rfl)]
        try simp only [perAt, List.getD_cons_zero, List.getD_cons_succ, Per.eq, Per.row, Per.of]
        have hs3 := hfr 3 rfl
        simp only [Array.getD_eq_getD_getElem?] at hs3
        have kc := hg.cells
        simp [execOp, Act.eval, hdd, hs3, relyUpon, go_sem, Grow.refl, kc, kN, z5_0, z5_1, z5_2]
      · rw [if_pos (by simp only [Region.wanted]; rw [yielded_of (d := 59) (b := true) rfl (by simp only [hdd])]; rfl)]
        try simp only [perAt, List.getD_cons_zero, List.getD_cons_succ, Per.eq, Per.row, Per.of]
        simp [execOp, Act.eval, hdd, relyUpon, go_sem]
        refine (oaa.out w').mono fun e w'' h => ?_
        obtain ⟨h1, h2⟩ := h
        have h3 : Grow w' w'' := by first | exact h2 | (rw [← h2]; exact Grow.refl _)
        first | exact ⟨h3, h1⟩ | exact ⟨_, h1, h3, rfl⟩ | exact ⟨h1, h3⟩
      · rw [if_pos (by rfl)]
        try simp only [perAt, List.getD_cons_zero, List.getD_cons_succ, Per.eq, Per.row, Per.of]
        simp [execOp, Act.eval, hdd, relyUpon, go_sem, Grow.refl]
      · rw [if_pos (by rfl)]
        try simp only [perAt, List.getD_cons_zero, List.getD_cons_succ, Per.eq, Per.row, Per.of]
        simp [execOp, Act.eval, hdd, relyUpon, go_sem, Grow.refl]
      · rw [if_pos (by simp only [Region.wanted]; rw [yielded_of (d := 64) (b := true) rfl (by simp only [hdd])]; rfl)]
        try simp only [perAt, List.getD_cons_zero, List.getD_cons_succ, Per.eq, Per.row, Per.of]
        simp [execOp, Act.eval, hdd, relyUpon, go_sem]
        refine (haw.out w').mono fun e w'' h => ?_
        obtain ⟨h1, h2⟩ := h
        have h3 : Grow w' w'' := by first | exact h2 | (rw [← h2]; exact Grow.refl _)
        first | exact ⟨h3, h1⟩ | exact ⟨_, h1, h3, rfl⟩ | exact ⟨h1, h3⟩
      · rw [if_pos (by rfl)]
        try simp only [perAt, List.getD_cons_zero, List.getD_cons_succ, Per.eq, Per.row, Per.of]
        simp [execOp, Act.eval, hdd, relyUpon, go_sem, Grow.refl]
      · rw [if_pos (by rfl)]
        try simp only [perAt, List.getD_cons_zero, List.getD_cons_succ, Per.eq, Per.row, Per.of]
        simp [execOp, Act.eval, hdd, relyUpon, go_sem, Grow.refl]
    intro wz hgz
    simp only [relyEnd, List.headD_cons, List.tail_cons, Per.eq, Per.row, Per.of]
    rintro _ rfl _ rfl _ rfl _ rfl _ rfl _ rfl _ rfl _ rfl _ rfl _ rfl _ rfl _ rfl _ rfl _ rfl _ rfl _ rfl _ rfl _ rfl _ rfl _ rfl _ rfl _ rfl _ rfl _ rfl _ rfl _ rfl _ rfl _ rfl _ rfl _ rfl _ rfl _ rfl _ rfl
    go_simp
    go_wp2_with fail
    go_ret
    exact ⟨rfl, Grow.trans (Grow.trans (Grow.trans (Grow.alloc _ _) (Grow.alloc _ _)) (Grow.alloc _ _)) (Grow.trans hB hgz)⟩
  · go_enter Try.func6, Try.ntmps6
    go_wp2_with fail
    refine (e1.out _).mono ?_
    rintro e w1 ⟨rfl, b1⟩
    have k1 := b1.cells
    have z1_0 : w.heap.size < w1.heap.size := (by have := b1.size; simp at this; omega)
    have z1_1 : w.heap.size + 1 < w1.heap.size := (by have := b1.size; simp at this; omega)
    have z1_2 : w.heap.size + 1 + 1 < w1.heap.size := (by have := b1.size; simp at this; omega)
    go_wp2_with fail
    refine (e2.out _).mono ?_
    rintro e w2 ⟨rfl, b2⟩
    have k2 := b2.cells
    have z2_0 : w.heap.size < w2.heap.size := (by have := b2.size; omega)
    have z2_1 : w.heap.size + 1 < w2.heap.size := (by have := b2.size; omega)
    have z2_2 : w.heap.size + 1 + 1 < w2.heap.size := (by have := b2.size; omega)
    go_wp2_with fail
    refine (e3.out _).mono ?_
    rintro e w3 ⟨rfl, b3⟩
    have k3 := b3.cells
    have z3_0 : w.heap.size < w3.heap.size := (by have := b3.size; omega)
    have z3_1 : w.heap.size + 1 < w3.heap.size := (by have := b3.size; omega)
    have z3_2 : w.heap.size + 1 + 1 < w3.heap.size := (by have := b3.size; omega)
    go_wp2_with fail
    refine (cab.out _).mono ?_
    rintro e w4 ⟨rfl, b4⟩
    have k4 := b4.cells
    have z4_0 : w.heap.size < w4.heap.size := (by have := b4.size; omega)
    have z4_1 : w.heap.size + 1 < w4.heap.size := (by have := b4.size; omega)
    have z4_2 : w.heap.size + 1 + 1 < w4.heap.size := (by have := b4.size; omega)
    go_wp2_with fail
    refine (cbc.out _).mono ?_
    rintro e w5 ⟨rfl, b5⟩
    have k5 := b5.cells
    have z5_0 : w.heap.size < w5.heap.size := (by have := b5.size; omega)
    have z5_1 : w.heap.size + 1 < w5.heap.size := (by have := b5.size; omega)
    have z5_2 : w.heap.size + 1 + 1 < w5.heap.size := (by have := b5.size; omega)
    go_wp2_with fail
    refine (cac.out _).mono ?_
    rintro e w6 ⟨rfl, b6⟩
    have k6 := b6.cells
    have z6_0 : w.heap.size < w6.heap.size := (by have := b6.size; omega)
    have z6_1 : w.heap.size + 1 < w6.heap.size := (by have := b6.size; omega)
    have z6_2 : w.heap.size + 1 + 1 < w6.heap.size := (by have := b6.size; omega)
    go_wp2_with fail
    have hB := (Grow.trans b1 (Grow.trans b2 (Grow.trans b3 (Grow.trans b4 (Grow.trans b5 b6)))))
    have kN := hB.cells
    refine wp_rely [.eq (.agg #[.int .i64 aid, .int .i64 aproc, .int .i64 aobj, .int .i64 akind, .int .i64 ameth, .int .i64 aarg, .int .i64 asec, .bool adone, .int .i64 ares, .int .i64 ainv, .int .i64 aret]), .eq (.agg #[.int .i64 aid, .int .i64 aproc, .int .i64 aobj, .int .i64 akind, .int .i64 ameth, .int .i64 aarg, .int .i64 asec, .bool adone, .int .i64 ares, .int .i64 ainv, .int .i64 aret]), .eq (.bool false), .eq (.bool true), .eq (.bool true), .eq (.agg #[.int .i64 aid, .int .i64 aproc, .int .i64 aobj, .int .i64 akind, .int .i64 ameth, .int .i64 aarg, .int .i64 asec, .bool adone, .int .i64 ares, .int .i64 ainv, .int .i64 aret]), .eq (.agg #[.int .i64 bid, .int .i64 bproc, .int .i64 bobj, .int .i64 bkind, .int .i64 bmeth, .int .i64 barg, .int .i64 bsec, .bool bdone, .int .i64 bres, .int .i64 binv, .int .i64 bret]), .eq (.bool true), .eq (.bool true), .eq (.agg #[.int .i64 bid, .int .i64 bproc, .int .i64 bobj, .int .i64 bkind, .int .i64 bmeth, .int .i64 barg, .int .i64 bsec, .bool bdone, .int .i64 bres, .int .i64 binv, .int .i64 bret]), .eq (.agg #[.int .i64 aid, .int .i64 aproc, .int .i64 aobj, .int .i64 akind, .int .i64 ameth, .int .i64 aarg, .int .i64 asec, .bool adone, .int .i64 ares, .int .i64 ainv, .int .i64 aret]), .eq (.bool false), .eq (.bool false), .eq (.bool true), .eq (.bool true), .eq (.bool true), .eq (.agg #[.int .i64 aid, .int .i64 aproc, .int .i64 aobj, .int .i64 akind, .int .i64 ameth, .int .i64 aarg, .int .i64 asec, .bool adone, .int .i64 ares, .int .i64 ainv, .int .i64 aret]), .eq (.agg #[.int .i64 bid, .int .i64 bproc, .int .i64 bobj, .int .i64 bkind, .int .i64 bmeth, .int .i64 barg, .int .i64 bsec, .bool bdone, .int .i64 bres, .int .i64 binv, .int .i64 bret]), .eq (.bool false), .eq (.agg #[.int .i64 bid, .int .i64 bproc, .int .i64 bobj, .int .i64 bkind, .int .i64 bmeth, .int .i64 barg, .int .i64 bsec, .bool bdone, .int .i64 bres, .int .i64 binv, .int .i64 bret]), .eq (.agg #[.int .i64 aid, .int .i64 aproc, .int .i64 aobj, .int .i64 akind, .int .i64 ameth, .int .i64 aarg, .int .i64 asec, .bool adone, .int .i64 ares, .int .i64 ainv, .int .i64 aret]), .eq (.bool false), .eq (.bool true), .eq (.bool true), .eq (.bool true), .eq (.agg #[.int .i64 aid, .int .i64 aproc, .int .i64 aobj, .int .i64 akind, .int .i64 ameth, .int .i64 aarg, .int .i64 asec, .bool adone, .int .i64 ares, .int .i64 ainv, .int .i64 aret]), .eq (.agg #[.int .i64 aid, .int .i64 aproc, .int .i64 aobj, .int .i64 akind, .int .i64 ameth, .int .i64 aarg, .int .i64 asec, .bool adone, .int .i64 ares, .int .i64 ainv, .int .i64 aret]), .eq (.bool true), .eq (.bool true), .eq (.bool true), .eq (.bool true), .eq (.bool true), .eq (.bool true)] (by kernel_rfl) (by kernel_rfl) (by kernel_rfl) ?_ ?_
    · simp only [relyGoals]
      refine ⟨?_, ?_, ?_, ?_, ?_, ?_, ?_, ?_, ?_, ?_, ?_, ?_, ?_, ?_, ?_, ?_, ?_, ?_, ?_, ?_, ?_, ?_, ?_, ?_, ?_, ?_, ?_, ?_, ?_, ?_, ?_, ?_, ?_, trivial⟩
      all_goals intro t w' hsz hg hdd hfr
      all_goals simp only [depsDid, Did, perAt, List.getElem?_cons_zero, List.getElem?_cons_succ, List.getD_cons_zero, List.getD_cons_succ, Per.eq, Per.row, Per.of, and_true, Array.getD_eq_getD_getElem?] at hdd
      · rw [if_pos (by rfl)]
        try simp only [perAt, List.getD_cons_zero, List.getD_cons_succ, Per.eq, Per.row, Per.of]
        have hs3 := hfr 3 rfl
        simp only [Array.getD_eq_getD_getElem?] at hs3
        have kc := hg.cells
        simp [execOp, Act.eval, hdd, hs3, relyUpon, go_sem, Grow.refl, kc, kN, z6_0, z6_1, z6_2]
      · rw [if_pos (by rfl)]
        try simp only [perAt, List.getD_cons_zero, List.getD_cons_succ, Per.eq, Per.row, Per.of]
        have hs3 := hfr 3 rfl
        simp only [Array.getD_eq_getD_getElem?] at hs3
        have kc := hg.cells
        simp [execOp, Act.eval, hdd, hs3, relyUpon, go_sem, Grow.refl, kc, kN, z6_0, z6_1, z6_2]
      · rw [if_pos (by rfl)]
        try simp only [perAt, List.getD_cons_zero, List.getD_cons_succ, Per.eq, Per.row, Per.of]
        simp [execOp, Act.eval, hdd, relyUpon, go_sem]
        refine (caa.out w').mono fun e w'' h => ?_
        obtain ⟨h1, h2⟩ := h
        have h3 : Grow w' w'' := by first | exact h2 | (rw [← h2]; exact Grow.refl _)
        first | exact ⟨h3, h1⟩ | exact ⟨_, h1, h3, rfl⟩ | exact ⟨h1, h3⟩
      · rw [if_pos (by rfl)]
        try simp only [perAt, List.getD_cons_zero, List.getD_cons_succ, Per.eq, Per.row, Per.of]
        simp [execOp, Act.eval, hdd, relyUpon, go_sem, Grow.refl]
      · rw [if_pos (by rfl)]
        try simp only [perAt, List.getD_cons_zero, List.getD_cons_succ, Per.eq, Per.row, Per.of]
        simp [execOp, Act.eval, hdd, relyUpon, go_sem, Grow.refl]
      · rw [if_pos (by simp only [Region.wanted]; rw [yielded_of (d := 39) (b := true) rfl (by simp only [hdd])]; rfl)]
        try simp only [perAt, List.getD_cons_zero, List.getD_cons_succ, Per.eq, Per.row, Per.of]
        have hs3 := hfr 3 rfl
        simp only [Array.getD_eq_getD_getElem?] at hs3
        have kc := hg.cells
        simp [execOp, Act.eval, hdd, hs3, relyUpon, go_sem, Grow.refl, kc, kN, z6_0, z6_1, z6_2]
      · rw [if_pos (by simp only [Region.wanted]; rw [yielded_of (d := 39) (b := true) rfl (by simp only [hdd])]; rfl)]
        try simp only [perAt, List.getD_cons_zero, List.getD_cons_succ, Per.eq, Per.row, Per.of]
        have hs4 := hfr 4 rfl
        simp only [Array.getD_eq_getD_getElem?] at hs4
        have kc := hg.cells
        simp [execOp, Act.eval, hdd, hs4, relyUpon, go_sem, Grow.refl, kc, kN, z6_0, z6_1, z6_2]
      · rw [if_pos (by simp only [Region.wanted]; rw [yielded_of (d := 39) (b := true) rfl (by simp only [hdd])]; rfl)]
        try simp only [perAt, List.getD_cons_zero, List.getD_cons_succ, Per.eq, Per.row, Per.of]
        simp [execOp, Act.eval, hdd, relyUpon, go_sem]
        refine (cab.out w').mono fun e w'' h => ?_
        obtain ⟨h1, h2⟩ := h
        have h3 : Grow w' w'' := by first | exact h2 | (rw [← h2]; exact Grow.refl _)
        first | exact ⟨h3, h1⟩ | exact ⟨_, h1, h3, rfl⟩ | exact ⟨h1, h3⟩
      · rw [if_pos (by simp only [Region.wanted]; rw [yielded_of (d := 39) (b := true) rfl (by simp only [hdd])]; rfl)]
        try simp only [perAt, List.getD_cons_zero, List.getD_cons_succ, Per.eq, Per.row, Per.of]
        simp [execOp, Act.eval, hdd, relyUpon, go_sem, Grow.refl]
      · rw [if_pos (by simp only [Region.wanted]; rw [yielded_of (d := 43) (b := true) rfl (by simp only [hdd])]; rfl)]
        try simp only [perAt, List.getD_cons_zero, List.getD_cons_succ, Per.eq, Per.row, Per.of]
        have hs4 := hfr 4 rfl
        simp only [Array.getD_eq_getD_getElem?] at hs4
        have kc := hg.cells
        simp [execOp, Act.eval, hdd, hs4, relyUpon, go_sem, Grow.refl, kc, kN, z6_0, z6_1, z6_2]
      · rw [if_pos (by simp only [Region.wanted]; rw [yielded_of (d := 43) (b := true) rfl (by simp only [hdd])]; rfl)]
        try simp only [perAt, List.getD_cons_zero, List.getD_cons_succ, Per.eq, Per.row, Per.of]
        have hs3 := hfr 3 rfl
        simp only [Array.getD_eq_getD_getElem?] at hs3
        have kc := hg.cells
        simp [execOp, Act.eval, hdd, hs3, relyUpon, go_sem, Grow.refl, kc, kN, z6_0, z6_1, z6_2]
      · rw [if_pos (by simp only [Region.wanted]; rw [yielded_of (d := 43) (b := true) rfl (by simp only [hdd])]; rfl)]
        try simp only [perAt, List.getD_cons_zero, List.getD_cons_succ, Per.eq, Per.row, Per.of]
        simp [execOp, Act.eval, hdd, relyUpon, go_sem]
        refine (cba.out w').mono fun e w'' h => ?_
        obtain ⟨h1, h2⟩ := h
        have h3 : Grow w' w'' := by first | exact h2 | (rw [← h2]; exact Grow.refl _)
        first | exact ⟨h3, h1⟩ | exact ⟨_, h1, h3, rfl⟩ | exact ⟨h1, h3⟩
      · rw [if_pos (by simp only [Region.wanted]; rw [yielded_of (d := 39) (b := true) rfl (by simp only [hdd])]; rfl)]
        try simp only [perAt, List.getD_cons_zero, List.getD_cons_succ, Per.eq, Per.row, Per.of]
        simp [execOp, Act.eval, hdd, relyUpon, go_sem, Grow.refl]
      · rw [if_pos (by simp only [Region.wanted]; rw [yielded_of (d := 39) (b := true) rfl (by simp only [hdd])]; rfl)]
        try simp only [perAt, List.getD_cons_zero, List.getD_cons_succ, Per.eq, Per.row, Per.of]
        simp [execOp, Act.eval, hdd, relyUpon, go_sem, Grow.refl]
      · rw [if_pos (by rfl)]
        try simp only [perAt, List.getD_cons_zero, List.getD_cons_succ, Per.eq, Per.row, Per.of]
        simp [execOp, Act.eval, hdd, relyUpon, go_sem, Grow.refl]
      · rw [if_pos (by rfl)]
        try simp only [perAt, List.getD_cons_zero, List.getD_cons_succ, Per.eq, Per.row, Per.of]
        simp [execOp, Act.eval, hdd, relyUpon, go_sem, Grow.refl]
      · rw [if_pos (by simp only [Region.wanted]; rw [yielded_of (d := 50) (b := true) rfl (by simp only [hdd])]; rfl)]
        try simp only [perAt, List.getD_cons_zero, List.getD_cons_succ, Per.eq, Per.row, Per.of]
        have hs3 := hfr 3 rfl
        simp only [Array.getD_eq_getD_getElem?] at hs3
        have kc := hg.cells
        simp [execOp, Act.eval, hdd, hs3, relyUpon, go_sem, Grow.refl, kc, kN, z6_0, z6_1, z6_2]
      · rw [if_pos (by simp only [Region.wanted]; rw [yielded_of (d := 50) (b := true) rfl (by simp only [hdd])]; rfl)]
        try simp only [perAt, List.getD_cons_zero, List.getD_cons_succ, Per.eq, Per.row, Per.of]
        have hs4 := hfr 4 rfl
        simp only [Array.getD_eq_getD_getElem?] at hs4
        have kc := hg.cells
        simp [execOp, Act.eval, hdd, hs4, relyUpon, go_sem, Grow.refl, kc, kN, z6_0, z6_1, z6_2]
      · rw [if_pos (by simp only [Region.wanted]; rw [yielded_of (d := 50) (b := true) rfl (by simp only [hdd])]; rfl)]
        try simp only [perAt, List.getD_cons_zero, List.getD_cons_succ, Per.eq, Per.row, Per.of]
        simp [execOp, Act.eval, hdd, relyUpon, go_sem]
        refine (oab.out w').mono fun e w'' h => ?_
        obtain ⟨h1, h2⟩ := h
        have h3 : Grow w' w'' := by first | exact h2 | (rw [← h2]; exact Grow.refl _)
        first | exact ⟨h3, h1⟩ | exact ⟨_, h1, h3, rfl⟩ | exact ⟨h1, h3⟩
      · rw [if_pos (by simp only [Region.wanted]; rw [yielded_of (d := 50) (b := true) rfl (by simp only [hdd])]; rfl)]
        try simp only [perAt, List.getD_cons_zero, List.getD_cons_succ, Per.eq, Per.row, Per.of]
        have hs4 := hfr 4 rfl
        simp only [Array.getD_eq_getD_getElem?] at hs4
        have kc := hg.cells
        simp [execOp, Act.eval, hdd, hs4, relyUpon, go_sem, Grow.refl, kc, kN, z6_0, z6_1, z6_2]
      · rw [if_pos (by simp only [Region.wanted]; rw [yielded_of (d := 50) (b := true) rfl (by simp only [hdd])]; rfl)]
        try simp only [perAt, List.getD_cons_zero, List.getD_cons_succ, Per.eq, Per.row, Per.of]
        have hs3 := hfr 3 rfl
        simp only [Array.getD_eq_getD_getElem?] at hs3
        have kc := hg.cells
        simp [execOp, Act.eval, hdd, hs3, relyUpon, go_sem, Grow.refl, kc, kN, z6_0, z6_1, z6_2]
      · rw [if_pos (by simp only [Region.wanted]; rw [yielded_of (d := 50) (b := true) rfl (by simp only [hdd])]; rfl)]
        try simp only [perAt, List.getD_cons_zero, List.getD_cons_succ, Per.eq, Per.row, Per.of]
        simp [execOp, Act.eval, hdd, relyUpon, go_sem]
        refine (oba.out w').mono fun e w'' h => ?_
        obtain ⟨h1, h2⟩ := h
        have h3 : Grow w' w'' := by first | exact h2 | (rw [← h2]; exact Grow.refl _)
        first | exact ⟨h3, h1⟩ | exact ⟨_, h1, h3, rfl⟩ | exact ⟨h1, h3⟩
      · rw [if_pos (by simp only [Region.wanted]; rw [yielded_of (d := 50) (b := true) rfl (by simp only [hdd])]; rfl)]
        try simp only [perAt, List.getD_cons_zero, List.getD_cons_succ, Per.eq, Per.row, Per.of]
        simp [execOp, Act.eval, hdd, relyUpon, go_sem, Grow.refl]
      · rw [if_pos (by rfl)]
        try simp only [perAt, List.getD_cons_zero, List.getD_cons_succ, Per.eq, Per.row, Per.of]
        simp [execOp, Act.eval, hdd, relyUpon, go_sem, Grow.refl]
      · rw [if_pos (by rfl)]
        try simp only [perAt, List.getD_cons_zero, List.getD_cons_succ, Per.eq, Per.row, Per.of]
        simp [execOp, Act.eval, hdd, relyUpon, go_sem, Grow.refl]
      · rw [if_pos (by simp only [Region.wanted]; rw [yielded_of (d := 59) (b := true) rfl (by simp only [hdd])]; rfl)]
        try simp only [perAt, List.getD_cons_zero, List.getD_cons_succ, Per.eq, Per.row, Per.of]
        have hs3 := hfr 3 rfl
        simp only [Array.getD_eq_getD_getElem?] at hs3
        have kc := hg.cells
        simp [execOp, Act.eval, hdd, hs3, relyUpon, go_sem, Grow.refl, kc, kN, z6_0, z6_1, z6_2]
      · rw [if_pos (by simp only [Region.wanted]; rw [yielded_of (d := 59) (b := true) rfl (by simp only [hdd])]; rfl)]
        try simp only [perAt, List.getD_cons_zero, List.getD_cons_succ, Per.eq, Per.row, Per.of]
        have hs3 := hfr 3 rfl
        simp only [Array.getD_eq_getD_getElem?] at hs3
        have kc := hg.cells
        simp [execOp, Act.eval, hdd, hs3, relyUpon, go_sem, Grow.refl, kc, kN, z6_0, z6_1, z6_2]
      · rw [if_pos (by simp only [Region.wanted]; rw [yielded_of (d := 59) (b := true) rfl (by simp only [hdd])]; rfl)]
        try simp only [perAt, List.getD_cons_zero, List.getD_cons_succ, Per.eq, Per.row, Per.of]
        simp [execOp, Act.eval, hdd, relyUpon, go_sem]
        refine (oaa.out w').mono fun e w'' h => ?_
        obtain ⟨h1, h2⟩ := h
        have h3 : Grow w' w'' := by first | exact h2 | (rw [← h2]; exact Grow.refl _)
        first | exact ⟨h3, h1⟩ | exact ⟨_, h1, h3, rfl⟩ | exact ⟨h1, h3⟩
      · rw [if_pos (by rfl)]
        try simp only [perAt, List.getD_cons_zero, List.getD_cons_succ, Per.eq, Per.row, Per.of]
        simp [execOp, Act.eval, hdd, relyUpon, go_sem, Grow.refl]
      · rw [if_pos (by rfl)]
        try simp only [perAt, List.getD_cons_zero, List.getD_cons_succ, Per.eq, Per.row, Per.of]
        simp [execOp, Act.eval, hdd, relyUpon, go_sem, Grow.refl]
      · rw [if_pos (by simp only [Region.wanted]; rw [yielded_of (d := 64) (b := true) rfl (by simp only [hdd])]; rfl)]
        try simp only [perAt, List.getD_cons_zero, List.getD_cons_succ, Per.eq, Per.row, Per.of]
        simp [execOp, Act.eval, hdd, relyUpon, go_sem]
        refine (haw.out w').mono fun e w'' h => ?_
        obtain ⟨h1, h2⟩ := h
        have h3 : Grow w' w'' := by first | exact h2 | (rw [← h2]; exact Grow.refl _)
        first | exact ⟨h3, h1⟩ | exact ⟨_, h1, h3, rfl⟩ | exact ⟨h1, h3⟩
      · rw [if_pos (by rfl)]
        try simp only [perAt, List.getD_cons_zero, List.getD_cons_succ, Per.eq, Per.row, Per.of]
        simp [execOp, Act.eval, hdd, relyUpon, go_sem, Grow.refl]
      · rw [if_pos (by rfl)]
        try simp only [perAt, List.getD_cons_zero, List.getD_cons_succ, Per.eq, Per.row, Per.of]
        simp [execOp, Act.eval, hdd, relyUpon, go_sem, Grow.refl]
    intro wz hgz
    simp only [relyEnd, List.headD_cons, List.tail_cons, Per.eq, Per.row, Per.of]
    rintro _ rfl _ rfl _ rfl _ rfl _ rfl _ rfl _ rfl _ rfl _ rfl _ rfl _ rfl _ rfl _ rfl _ rfl _ rfl _ rfl _ rfl _ rfl _ rfl _ rfl _ rfl _ rfl _ rfl _ rfl _ rfl _ rfl _ rfl _ rfl _ rfl _ rfl _ rfl _ rfl _ rfl
    go_simp
    go_wp2_with fail
    go_ret
    exact ⟨rfl, Grow.trans (Grow.trans (Grow.trans (Grow.alloc _ _) (Grow.alloc _ _)) (Grow.alloc _ _)) (Grow.trans hB hgz)⟩
namespace LawOpOrders
open Go.ChangeShapes Go.WideShapes Go.ChangeAt Go.RowKit
open Go.ChangeMaps (open_string shut_string)
theorem own : ownKnob Try.prog.godebug = none := by kernel_rfl
theorem laidOut : laidOutB Try.prog = true := by kernel_rfl
set_option maxRecDepth 100000 in
theorem lifted (os : Os) (started : os.Started) (H : Type) (enc : TypeId × Value → H) :
    ReturnsInHanded {} Try.checked os 6 .any (Rows.opOrdersSpec.pre6 enc Try.prog Try.f6 Rows.opOrdersRow.domain false) (Rows.opOrdersSpec.post enc Try.prog Try.f6 false true false false) := by
  refine returnsInHanded_of_change_sized (C := Try.checked) own started (by kernel_rfl) Try.func6
    (ChangeSpec.witness6 (enc := enc) (C := Try.checked) false ⟨#[], #[.agg #[.int .i64 0, .int .i64 0, .int .i64 0, .int .i64 0, .int .i64 0, .int .i64 0, .int .i64 0, .bool false, .int .i64 0, .int .i64 0, .int .i64 0], .agg #[.int .i64 0, .int .i64 0, .int .i64 0, .int .i64 0, .int .i64 0, .int .i64 0, .int .i64 0, .bool false, .int .i64 0, .int .i64 0, .int .i64 0], .agg #[.int .i64 0, .int .i64 0, .int .i64 0, .int .i64 0, .int .i64 0, .int .i64 0, .int .i64 0, .bool false, .int .i64 0, .int .i64 0, .int .i64 0]], []⟩ 8 (by kernel_rfl) (by kernel_rfl) (by kernel_rfl) (by kernel_rfl)) ?_
  intro W base args ds gs before hval0 hW hcnd hsz _
  have hval : ∀ (j : Nat) t v, Try.f6.params[j]? = some t → args[j]? = some v → Value.okWide Try.prog W .any base t v := hval0
  have hW' := hW
  obtain ⟨p, q, hA0, hV, rfl, hfz, hnd⟩ := hW
  have hA : DataW.TrodAll enc Try.prog W 0 (fun _ => true) true Try.f6.params.toList args.toList ds p := hA0
  rw [Try.params6] at hA hval hsz
  obtain ⟨v0, vs0, d0, ds0, p0, q0, hargs, rfl, rfl, h0, r0⟩ := trodAll_cons hA
  obtain ⟨v1, vs1, d1, ds1, p1, q1, rfl, rfl, rfl, h1, r1⟩ := trodAll_cons r0
  obtain ⟨v2, vs2, d2, ds2, p2, q2, rfl, rfl, rfl, h2, r2⟩ := trodAll_cons r1
  obtain ⟨rfl, rfl, rfl⟩ := trodAll_nil r2
  obtain rfl : args = #[v0, v1, v2] := by cases args; simp_all
  obtain ⟨rfl, rfl⟩ := trodVars_none hV
  have k0 := h0
  have lt0 : ∀ x ∈ p0, x.block < W.heap.size := by obtain ⟨m, hm⟩ := k0; exact DataW.trod_lt m _ _ _ hm
  obtain ⟨a0, rfl, w0⟩ := open_op (hval 0 29 v0 rfl rfl) h0
  have k1 := h1
  have lt1 : ∀ x ∈ p1, x.block < W.heap.size := by obtain ⟨m, hm⟩ := k1; exact DataW.trod_lt m _ _ _ hm
  obtain ⟨a1, rfl, w1⟩ := open_op (hval 1 29 v1 rfl rfl) h1
  have k2 := h2
  have lt2 : ∀ x ∈ p2, x.block < W.heap.size := by obtain ⟨m, hm⟩ := k2; exact DataW.trod_lt m _ _ _ hm
  obtain ⟨a2, rfl, w2⟩ := open_op (hval 2 29 v2 rfl rfl) h2
  clear hA0 hval0
  refine (OpOrders_walk a0 a1 a2 W w0 w1 w2).mono fun e W' ⟨he, bel⟩ => ?_
  subst he
  exact ⟨_, rfl, _, _, _, [], _, [], hW', trodAll_mk1 (shut_bool Try.underlying4 _), (trodAll_cons_mk (Below.trod laidOut (by kernel_rfl) (of_decide_eq_true (by kernel_rfl)) k0 bel lt0) (trodAll_cons_mk (Below.trod laidOut (by kernel_rfl) (of_decide_eq_true (by kernel_rfl)) k1 bel lt1) (trodAll_cons_mk (Below.trod laidOut (by kernel_rfl) (of_decide_eq_true (by kernel_rfl)) k2 bel lt2) trodAll_mk0))), rfl, bel.frame _, fun h => by cases h⟩
theorem over : Rows.opOrdersRow.holds Try.pinned (OpenSpec.ofChange Rows.opOrdersSpec) :=
  OpenClaim.holds_of_wide 6 Try.f6 rfl rfl rfl rfl rfl rfl rfl ⟨rfl, rfl, rfl, rfl, rfl⟩ rfl rfl rfl rfl rfl (by kernel_rfl) Try.func6 (by kernel_rfl)
    (of_decide_eq_true (by kernel_rfl)) (by unfold Func.isWrapper; first | (rw [if_pos (by decide +kernel)]; kernel_rfl) | (rw [if_neg (by decide +kernel)]; exact ⟨rfl, rfl⟩))
    (fun os started H enc _ => lifted os started H enc)
end LawOpOrders
/-- The given statement. -/
theorem opOrders_proved : Rows.OpOrdersSaid := LawOpOrders.over
#print axioms opOrders_proved
end Go.Proofs.Ytdeegepmampanaa
