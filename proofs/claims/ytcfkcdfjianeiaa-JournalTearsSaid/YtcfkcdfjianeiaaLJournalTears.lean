/- Of a head that is written over another one, of which just the first bytes arrive, one of both is read, or none. -/
import Derived.Test.YtcfkcdfjianeiaaJAwake
import Derived.Test.YtcfkcdfjianeiaaJRRead
import Derived.Test.YtcfkcdfjianeiaaJLift
import Derived.Test.YtcfkcdfjianeiaaJEq
import Derived.Test.YtcfkcdfjianeiaaRelyT
import Derived.Deep.RegionHeld3
namespace Go.Proofs.Ytcfkcdfjianeiaa
open Go.RowKit
set_option linter.unusedVariables false
set_option linter.unusedSimpArgs false
theorem head_parts (h : HeadR) : ∃ (a : Nat) (b c d : Int), headV h = .agg #[.int .u64 (a : Int), .int .i64 b, .int .i64 c, .int .i64 d] := ⟨_, _, _, _, rfl⟩
set_option maxRecDepth 100000 in
set_option maxHeartbeats 4000000 in
theorem Tears_walk (g h : HeadR) (cut : Int) (w : World) (hf1 : g.Fit) (hf2 : h.Fit) (k0 : 0 ≤ cut) (k1 : cut ≤ 18446744073709551615) :
    Calls Try.prog 6 #[headV g, headV h, .int .u64 cut] w fun e w' => e = .returned (.bool true) ∧ Below w.heap.size w w' := by
  have hO1 := fun w => of_c g w
  have hO2 := fun w => of_c h w
  have hW1 := fun w => WriteHead_c g w hf1
  have hW2 := fun w => WriteHead_c h w hf2
  have z1 : (⟨(writeL g).toArray⟩ : ByteArray).size = 40 := by rw [bytes_sizeJ, writeL_length]
  have z2 : (⟨(writeL h).toArray⟩ : ByteArray).size = 40 := by rw [bytes_sizeJ, writeL_length]
  obtain ⟨K, hK, hK40⟩ : ∃ K : Nat, cut % 41 = (K : Int) ∧ K ≤ 40 := ⟨(cut % 41).toNat, by omega, by omega⟩
  have hM : ((⟨(writeL g).toArray⟩ : ByteArray).extract 0 K ++ (⟨(writeL h).toArray⟩ : ByteArray).extract K 40).data.toList = (writeL g).take K ++ (writeL h).drop K := by
    have e : (writeL h).drop K = ((writeL h).drop K).take (40 - K) := (List.take_of_length_le (by rw [List.length_drop, writeL_length]; omega)).symm
    rw [e]
    simp [ByteArray.data_append, ByteArray.data_extract]
  have zM : ((⟨(writeL g).toArray⟩ : ByteArray).extract 0 K).size = K := by rw [ByteArray.size_extract, z1]; omega
  have zM2 : ((⟨(writeL h).toArray⟩ : ByteArray).extract K 40).size = 40 - K := by rw [ByteArray.size_extract, z2]; omega
  have hR := fun w => ReadHead_c ((⟨(writeL g).toArray⟩ : ByteArray).extract 0 K ++ (⟨(writeL h).toArray⟩ : ByteArray).extract K 40) w (by rw [ByteArray.size_append', zM, zM2]; omega)
  have hR1 := fun w => ReadHead_c ⟨(writeL g).toArray⟩ w (by rw [z1]; omega)
  have hR2 := fun w => ReadHead_c ⟨(writeL h).toArray⟩ w (by rw [z2]; omega)
  unfold ReadPost at hR hR1 hR2
  rw [hM] at hR
  simp only at hR1 hR2
  have hT := fun ok => tear (headL g) (headL h) (headL_length g) (headL_length h) K hK40 ok
  change okL ((writeL g).take K ++ (writeL h).drop K) = true → (writeL g).take K ++ (writeL h).drop K = writeL g ∨ (writeL g).take K ++ (writeL h).drop K = writeL h at hT
  generalize (writeL g).take K ++ (writeL h).drop K = M at *
  have hT2 : okL M = true → headV (readL M) = headV (readL (writeL g)) ∨ headV (readL M) = headV (readL (writeL h)) := fun ok => by
    rcases hT ok with e | e
    · left; rw [e]
    · right; rw [e]
  clear hT hM
  generalize okL (writeL g) = ok1 at *
  generalize okL (writeL h) = ok2 at *
  generalize okL M = ok at *
  obtain ⟨m0, m1, m2, m3, eM⟩ := head_parts (readL M)
  obtain ⟨x0, x1, x2, x3, eX⟩ := head_parts (readL (writeL g))
  obtain ⟨y0, y1, y2, y3, eY⟩ := head_parts (readL (writeL h))
  rw [eM, eX, eY] at hT2
  rw [eM] at hR
  rw [eX] at hR1
  rw [eY] at hR2
  clear eM eX eY
  generalize (⟨(writeL g).toArray⟩ : ByteArray) = Z1 at *
  generalize (⟨(writeL h).toArray⟩ : ByteArray) = Z2 at *
  obtain ⟨a0, a1, a2, a3, eA⟩ := head_parts g
  obtain ⟨b0, b1, b2, b3, eB⟩ := head_parts h
  rw [eA] at hO1 hW1 ⊢
  rw [eB] at hO2 hW2 ⊢
  clear eA eB
  cases ok
  · have HO1 := hid hO1
    have HO2 := hid hO2
    have HW1 := hid hW1
    have HW2 := hid hW2
    have HR := hid hR
    have HR1 := hid hR1
    have HR2 := hid hR2
    have hKK := hid hK
    clear hO1 hO2 hW1 hW2 hR hR1 hR2 hT2 hK
    have tg := fun x y xs ys w => head_guard x y xs ys w
    go_enter Try.func6, Try.ntmps6
    go_wp2_with fail
    refine wp_relyT [.eq (.agg #[.int .u64 (a0 : Int), .int .i64 a1, .int .i64 a2, .int .i64 a3]), .eq (.agg #[.int .u64 (a0 : Int), .int .i64 a1, .int .i64 a2, .int .i64 a3]), .eq (.string Z1), .eq (.agg #[.int .u64 (b0 : Int), .int .i64 b1, .int .i64 b2, .int .i64 b3]), .eq (.agg #[.int .u64 (b0 : Int), .int .i64 b1, .int .i64 b2, .int .i64 b3]), .eq (.string Z2), .eq (.string Z1), .eq (.string Z2)] (by kernel_rfl) (by kernel_rfl) ?_ ?_
    · simp only [relyGoalsT]
      refine ⟨?_, ?_, ?_, ?_, ?_, ?_, ?_, ?_, trivial⟩
      all_goals intro t w' hsz hg hdd hfr
      all_goals simp only [List.filter, Region.binds, depsDid, Did, perAt, List.getElem?_cons_zero, List.getElem?_cons_succ, List.getD_cons_zero, List.getD_cons_succ, Per.eq, Per.row, Per.of, and_true, Array.getD_eq_getD_getElem?] at hdd
      · rw [if_pos (by rfl)]
        try simp only [perAt, List.getD_cons_zero, List.getD_cons_succ, Per.eq, Per.row, Per.of]
        have hs3 := hfr 3 (by kernel_rfl)
        simp only [Array.getD_eq_getD_getElem?] at hs3
        have kc := hg.cells
        simp [execOp, Act.eval, hdd, hs3, relyUpon, go_sem, Grow.refl, kc]
      · rw [if_pos (by rfl)]
        try simp only [perAt, List.getD_cons_zero, List.getD_cons_succ, Per.eq, Per.row, Per.of]
        simp [execOp, Act.eval, hdd, relyUpon, go_sem]
        refine (HO1.out w').mono fun e w'' h => ?_
        obtain ⟨h1, h2⟩ := h
        have h3 : Grow w' w'' := by first | exact h2 | (rw [← h2]; exact Grow.refl _)
        first | exact ⟨h3, h1⟩ | exact ⟨_, h1, h3, rfl⟩ | exact ⟨h1, h3⟩
      · rw [if_pos (by rfl)]
        try simp only [perAt, List.getD_cons_zero, List.getD_cons_succ, Per.eq, Per.row, Per.of]
        simp [execOp, Act.eval, hdd, relyUpon, go_sem]
        refine (HW1.out w').mono fun e w'' h => ?_
        obtain ⟨h1, h2⟩ := h
        have h3 : Grow w' w'' := by first | exact h2 | (rw [← h2]; exact Grow.refl _)
        first | exact ⟨h3, h1⟩ | exact ⟨_, h1, h3, rfl⟩ | exact ⟨h1, h3⟩
      · rw [if_pos (by rfl)]
        try simp only [perAt, List.getD_cons_zero, List.getD_cons_succ, Per.eq, Per.row, Per.of]
        have hs4 := hfr 4 (by kernel_rfl)
        simp only [Array.getD_eq_getD_getElem?] at hs4
        have kc := hg.cells
        simp [execOp, Act.eval, hdd, hs4, relyUpon, go_sem, Grow.refl, kc]
      · rw [if_pos (by rfl)]
        try simp only [perAt, List.getD_cons_zero, List.getD_cons_succ, Per.eq, Per.row, Per.of]
        simp [execOp, Act.eval, hdd, relyUpon, go_sem]
        refine (HO2.out w').mono fun e w'' h => ?_
        obtain ⟨h1, h2⟩ := h
        have h3 : Grow w' w'' := by first | exact h2 | (rw [← h2]; exact Grow.refl _)
        first | exact ⟨h3, h1⟩ | exact ⟨_, h1, h3, rfl⟩ | exact ⟨h1, h3⟩
      · rw [if_pos (by rfl)]
        try simp only [perAt, List.getD_cons_zero, List.getD_cons_succ, Per.eq, Per.row, Per.of]
        simp [execOp, Act.eval, hdd, relyUpon, go_sem]
        refine (HW2.out w').mono fun e w'' h => ?_
        obtain ⟨h1, h2⟩ := h
        have h3 : Grow w' w'' := by first | exact h2 | (rw [← h2]; exact Grow.refl _)
        first | exact ⟨h3, h1⟩ | exact ⟨_, h1, h3, rfl⟩ | exact ⟨h1, h3⟩
      · rw [if_pos (by rfl)]
        try simp only [perAt, List.getD_cons_zero, List.getD_cons_succ, Per.eq, Per.row, Per.of]
        simp [execOp, Act.eval, hdd, relyUpon, go_sem, Grow.refl]
      · rw [if_pos (by rfl)]
        try simp only [perAt, List.getD_cons_zero, List.getD_cons_succ, Per.eq, Per.row, Per.of]
        simp [execOp, Act.eval, hdd, relyUpon, go_sem, Grow.refl]
    intro wz hgz
    simp only [relyEnd, List.headD_cons, List.tail_cons, Per.eq, Per.row, Per.of]
    rintro _ rfl _ rfl _ rfl _ rfl _ rfl _ rfl _ rfl _ rfl
    go_simp
    clear HO1 HO2 HW1 HW2
    have gz : Grow w wz := Grow.trans (Grow.trans (Grow.alloc _ _) (Grow.alloc _ _)) hgz
    clear hgz
    go_wp2_with fail
    rw [hKK.out]
    have hq : ¬ 9223372036854775807 < K + (40 - K) := by omega
    go_wp2_with fail
    have i1 : (0 : Int) ≤ (K : Int) := by omega
    have i2 : (K : Int) ≤ 40 := by omega
    go_region_held3 (fun _ => True) (trivial)
      ((go_at_call 13; refine (HR.out _).mono ?_; rintro e w2 ⟨rfl, g2⟩; try (have hz : w2.heap[wz.heap.size]? = some (.cells #[.int .u64 0, .int .i64 0, .int .i64 0, .int .i64 0] 36 (0, 0)) := Grow.heap g2 (heap_new wz (.cells #[.int .u64 0, .int .i64 0, .int .i64 0, .int .i64 0] 36)); have c0 : w2.cell? ⟨wz.heap.size, 0, none⟩ = some (.int .u64 0) := (by rw [heap_cell hz]; rfl); have f0 : w2.frozen? ⟨wz.heap.size, 0, none⟩ = false := heap_frozen hz 0 (by omega); have c1 : w2.cell? ⟨wz.heap.size, 1, none⟩ = some (.int .i64 0) := (by rw [heap_cell hz]; rfl); have f1 : w2.frozen? ⟨wz.heap.size, 1, none⟩ = false := heap_frozen hz 1 (by omega); have c2 : w2.cell? ⟨wz.heap.size, 2, none⟩ = some (.int .i64 0) := (by rw [heap_cell hz]; rfl); have f2 : w2.frozen? ⟨wz.heap.size, 2, none⟩ = false := heap_frozen hz 2 (by omega); have c3 : w2.cell? ⟨wz.heap.size, 3, none⟩ = some (.int .i64 0) := (by rw [heap_cell hz]; rfl); have f3 : w2.frozen? ⟨wz.heap.size, 3, none⟩ = false := heap_frozen hz 3 (by omega); have HZ := hid hz; clear hz)))
    all_goals
      go_wp2_with fail
      refine (HR1.out _).mono ?_
      rintro e w3 ⟨rfl, g3⟩
      have G2 : Grow wz w2 := by first | exact Grow.trans (Grow.drew wz) g2 | exact Grow.trans (Grow.trans (Grow.drew wz) (Grow.alloc _ _)) g2 | exact Grow.trans (Grow.trans (Grow.alloc _ _) (Grow.drew _)) g2
      first
        | (have hb := hid (Grow.heap g3 (heap_set (heap_set (heap_set (heap_set HZ.out 0 (.int .u64 (m0 : Int))) 1 (.int .i64 m1)) 2 (.int .i64 m2)) 3 (.int .i64 m3))); have gg := hid (Grow.trans gz (Grow.trans (Grow.set (Grow.set (Grow.set (Grow.set G2 _ _ (Nat.le_refl _) _) _ _ (Nat.le_refl _) _) _ _ (Nat.le_refl _) _) _ _ (Nat.le_refl _) _) g3)))
        | (have hb := hid (Grow.heap g3 (heap_new w2 (.cells #[.int .u64 (m0 : Int), .int .i64 m1, .int .i64 m2, .int .i64 m3] 36))); have gg := hid (Grow.trans gz (Grow.trans G2 (Grow.trans (Grow.alloc w2 (.cells #[.int .u64 (m0 : Int), .int .i64 m1, .int .i64 m2, .int .i64 m3] 36)) g3))))
      (try clear c0 c1 c2 c3 f0 f1 f2 f3)
      go_wp2_with fail
      refine (HR2.out _).mono ?_
      rintro e w4 ⟨rfl, g4⟩
      have hb4 := Grow.heap (Grow.trans (Grow.alloc _ _) g4) hb.out
      have hx4 := Grow.heap g4 (heap_new w3 (.cells #[.int .u64 (x0 : Int), .int .i64 x1, .int .i64 x2, .int .i64 x3] 36))
      have u0 := (heap_cell hb4 0).trans (show _ = some (.int .u64 (m0 : Int)) from rfl)
      have u1 := (heap_cell hb4 1).trans (show _ = some (.int .i64 m1) from rfl)
      have u2 := (heap_cell hb4 2).trans (show _ = some (.int .i64 m2) from rfl)
      have u3 := (heap_cell hb4 3).trans (show _ = some (.int .i64 m3) from rfl)
      have v0 := (heap_cell hx4 0).trans (show _ = some (.int .u64 (x0 : Int)) from rfl)
      have v1 := (heap_cell hx4 1).trans (show _ = some (.int .i64 x1) from rfl)
      have v2 := (heap_cell hx4 2).trans (show _ = some (.int .i64 x2) from rfl)
      have v3 := (heap_cell hx4 3).trans (show _ = some (.int .i64 x3) from rfl)
      have hltb := heap_lt hb4
      have hltx := heap_lt hx4
      clear hb4 hx4
      go_wp2_with fail
      refine (awake_c _).mono ?_
      rintro e w5 ⟨rfl, b5⟩
      go_wp2_with fail
      go_ret
      exact ⟨rfl, Grow.trans gg.out (Grow.trans (Grow.alloc _ _) (Grow.trans g4 (Grow.trans (Grow.alloc _ _) b5)))⟩
  · rcases hT2 rfl with e | e
    · rw [e] at hR
      clear e
      have HO1 := hid hO1
      have HO2 := hid hO2
      have HW1 := hid hW1
      have HW2 := hid hW2
      have HR := hid hR
      have HR1 := hid hR1
      have HR2 := hid hR2
      have hKK := hid hK
      clear hO1 hO2 hW1 hW2 hR hR1 hR2 hT2 hK
      have tn := fun w => head_same (x0 : Int) x1 x2 x3 w
      have tg := fun x y xs ys w => head_guard x y xs ys w
      go_enter Try.func6, Try.ntmps6
      go_wp2_with fail
      refine wp_relyT [.eq (.agg #[.int .u64 (a0 : Int), .int .i64 a1, .int .i64 a2, .int .i64 a3]), .eq (.agg #[.int .u64 (a0 : Int), .int .i64 a1, .int .i64 a2, .int .i64 a3]), .eq (.string Z1), .eq (.agg #[.int .u64 (b0 : Int), .int .i64 b1, .int .i64 b2, .int .i64 b3]), .eq (.agg #[.int .u64 (b0 : Int), .int .i64 b1, .int .i64 b2, .int .i64 b3]), .eq (.string Z2), .eq (.string Z1), .eq (.string Z2)] (by kernel_rfl) (by kernel_rfl) ?_ ?_
      · simp only [relyGoalsT]
        refine ⟨?_, ?_, ?_, ?_, ?_, ?_, ?_, ?_, trivial⟩
        all_goals intro t w' hsz hg hdd hfr
        all_goals simp only [List.filter, Region.binds, depsDid, Did, perAt, List.getElem?_cons_zero, List.getElem?_cons_succ, List.getD_cons_zero, List.getD_cons_succ, Per.eq, Per.row, Per.of, and_true, Array.getD_eq_getD_getElem?] at hdd
        · rw [if_pos (by rfl)]
          try simp only [perAt, List.getD_cons_zero, List.getD_cons_succ, Per.eq, Per.row, Per.of]
          have hs3 := hfr 3 (by kernel_rfl)
          simp only [Array.getD_eq_getD_getElem?] at hs3
          have kc := hg.cells
          simp [execOp, Act.eval, hdd, hs3, relyUpon, go_sem, Grow.refl, kc]
        · rw [if_pos (by rfl)]
          try simp only [perAt, List.getD_cons_zero, List.getD_cons_succ, Per.eq, Per.row, Per.of]
          simp [execOp, Act.eval, hdd, relyUpon, go_sem]
          refine (HO1.out w').mono fun e w'' h => ?_
          obtain ⟨h1, h2⟩ := h
          have h3 : Grow w' w'' := by first | exact h2 | (rw [← h2]; exact Grow.refl _)
          first | exact ⟨h3, h1⟩ | exact ⟨_, h1, h3, rfl⟩ | exact ⟨h1, h3⟩
        · rw [if_pos (by rfl)]
          try simp only [perAt, List.getD_cons_zero, List.getD_cons_succ, Per.eq, Per.row, Per.of]
          simp [execOp, Act.eval, hdd, relyUpon, go_sem]
          refine (HW1.out w').mono fun e w'' h => ?_
          obtain ⟨h1, h2⟩ := h
          have h3 : Grow w' w'' := by first | exact h2 | (rw [← h2]; exact Grow.refl _)
          first | exact ⟨h3, h1⟩ | exact ⟨_, h1, h3, rfl⟩ | exact ⟨h1, h3⟩
        · rw [if_pos (by rfl)]
          try simp only [perAt, List.getD_cons_zero, List.getD_cons_succ, Per.eq, Per.row, Per.of]
          have hs4 := hfr 4 (by kernel_rfl)
          simp only [Array.getD_eq_getD_getElem?] at hs4
          have kc := hg.cells
          simp [execOp, Act.eval, hdd, hs4, relyUpon, go_sem, Grow.refl, kc]
        · rw [if_pos (by rfl)]
          try simp only [perAt, List.getD_cons_zero, List.getD_cons_succ, Per.eq, Per.row, Per.of]
          simp [execOp, Act.eval, hdd, relyUpon, go_sem]
          refine (HO2.out w').mono fun e w'' h => ?_
          obtain ⟨h1, h2⟩ := h
          have h3 : Grow w' w'' := by first | exact h2 | (rw [← h2]; exact Grow.refl _)
          first | exact ⟨h3, h1⟩ | exact ⟨_, h1, h3, rfl⟩ | exact ⟨h1, h3⟩
        · rw [if_pos (by rfl)]
          try simp only [perAt, List.getD_cons_zero, List.getD_cons_succ, Per.eq, Per.row, Per.of]
          simp [execOp, Act.eval, hdd, relyUpon, go_sem]
          refine (HW2.out w').mono fun e w'' h => ?_
          obtain ⟨h1, h2⟩ := h
          have h3 : Grow w' w'' := by first | exact h2 | (rw [← h2]; exact Grow.refl _)
          first | exact ⟨h3, h1⟩ | exact ⟨_, h1, h3, rfl⟩ | exact ⟨h1, h3⟩
        · rw [if_pos (by rfl)]
          try simp only [perAt, List.getD_cons_zero, List.getD_cons_succ, Per.eq, Per.row, Per.of]
          simp [execOp, Act.eval, hdd, relyUpon, go_sem, Grow.refl]
        · rw [if_pos (by rfl)]
          try simp only [perAt, List.getD_cons_zero, List.getD_cons_succ, Per.eq, Per.row, Per.of]
          simp [execOp, Act.eval, hdd, relyUpon, go_sem, Grow.refl]
      intro wz hgz
      simp only [relyEnd, List.headD_cons, List.tail_cons, Per.eq, Per.row, Per.of]
      rintro _ rfl _ rfl _ rfl _ rfl _ rfl _ rfl _ rfl _ rfl
      go_simp
      clear HO1 HO2 HW1 HW2
      have gz : Grow w wz := Grow.trans (Grow.trans (Grow.alloc _ _) (Grow.alloc _ _)) hgz
      clear hgz
      go_wp2_with fail
      rw [hKK.out]
      have hq : ¬ 9223372036854775807 < K + (40 - K) := by omega
      go_wp2_with fail
      have i1 : (0 : Int) ≤ (K : Int) := by omega
      have i2 : (K : Int) ≤ 40 := by omega
      go_region_held3 (fun _ => True) (trivial)
        ((go_at_call 13; refine (HR.out _).mono ?_; rintro e w2 ⟨rfl, g2⟩; try (have hz : w2.heap[wz.heap.size]? = some (.cells #[.int .u64 0, .int .i64 0, .int .i64 0, .int .i64 0] 36 (0, 0)) := Grow.heap g2 (heap_new wz (.cells #[.int .u64 0, .int .i64 0, .int .i64 0, .int .i64 0] 36)); have c0 : w2.cell? ⟨wz.heap.size, 0, none⟩ = some (.int .u64 0) := (by rw [heap_cell hz]; rfl); have f0 : w2.frozen? ⟨wz.heap.size, 0, none⟩ = false := heap_frozen hz 0 (by omega); have c1 : w2.cell? ⟨wz.heap.size, 1, none⟩ = some (.int .i64 0) := (by rw [heap_cell hz]; rfl); have f1 : w2.frozen? ⟨wz.heap.size, 1, none⟩ = false := heap_frozen hz 1 (by omega); have c2 : w2.cell? ⟨wz.heap.size, 2, none⟩ = some (.int .i64 0) := (by rw [heap_cell hz]; rfl); have f2 : w2.frozen? ⟨wz.heap.size, 2, none⟩ = false := heap_frozen hz 2 (by omega); have c3 : w2.cell? ⟨wz.heap.size, 3, none⟩ = some (.int .i64 0) := (by rw [heap_cell hz]; rfl); have f3 : w2.frozen? ⟨wz.heap.size, 3, none⟩ = false := heap_frozen hz 3 (by omega); have HZ := hid hz; clear hz)))
      all_goals
        go_wp2_with fail
        refine (HR1.out _).mono ?_
        rintro e w3 ⟨rfl, g3⟩
        have G2 : Grow wz w2 := by first | exact Grow.trans (Grow.drew wz) g2 | exact Grow.trans (Grow.trans (Grow.drew wz) (Grow.alloc _ _)) g2 | exact Grow.trans (Grow.trans (Grow.alloc _ _) (Grow.drew _)) g2
        first
          | (have hb := hid (Grow.heap g3 (heap_set (heap_set (heap_set (heap_set HZ.out 0 (.int .u64 (x0 : Int))) 1 (.int .i64 x1)) 2 (.int .i64 x2)) 3 (.int .i64 x3))); have gg := hid (Grow.trans gz (Grow.trans (Grow.set (Grow.set (Grow.set (Grow.set G2 _ _ (Nat.le_refl _) _) _ _ (Nat.le_refl _) _) _ _ (Nat.le_refl _) _) _ _ (Nat.le_refl _) _) g3)))
          | (have hb := hid (Grow.heap g3 (heap_new w2 (.cells #[.int .u64 (x0 : Int), .int .i64 x1, .int .i64 x2, .int .i64 x3] 36))); have gg := hid (Grow.trans gz (Grow.trans G2 (Grow.trans (Grow.alloc w2 (.cells #[.int .u64 (x0 : Int), .int .i64 x1, .int .i64 x2, .int .i64 x3] 36)) g3))))
        (try clear c0 c1 c2 c3 f0 f1 f2 f3)
        go_wp2_with fail
        refine (HR2.out _).mono ?_
        rintro e w4 ⟨rfl, g4⟩
        have hb4 := Grow.heap (Grow.trans (Grow.alloc _ _) g4) hb.out
        have hx4 := Grow.heap g4 (heap_new w3 (.cells #[.int .u64 (x0 : Int), .int .i64 x1, .int .i64 x2, .int .i64 x3] 36))
        have u0 := (heap_cell hb4 0).trans (show _ = some (.int .u64 (x0 : Int)) from rfl)
        have u1 := (heap_cell hb4 1).trans (show _ = some (.int .i64 x1) from rfl)
        have u2 := (heap_cell hb4 2).trans (show _ = some (.int .i64 x2) from rfl)
        have u3 := (heap_cell hb4 3).trans (show _ = some (.int .i64 x3) from rfl)
        have v0 := (heap_cell hx4 0).trans (show _ = some (.int .u64 (x0 : Int)) from rfl)
        have v1 := (heap_cell hx4 1).trans (show _ = some (.int .i64 x1) from rfl)
        have v2 := (heap_cell hx4 2).trans (show _ = some (.int .i64 x2) from rfl)
        have v3 := (heap_cell hx4 3).trans (show _ = some (.int .i64 x3) from rfl)
        have hltb := heap_lt hb4
        have hltx := heap_lt hx4
        clear hb4 hx4
        go_wp2_with fail
        refine (awake_c _).mono ?_
        rintro e w5 ⟨rfl, b5⟩
        go_wp2_with fail
        go_ret
        exact ⟨rfl, Grow.trans gg.out (Grow.trans (Grow.alloc _ _) (Grow.trans g4 (Grow.trans (Grow.alloc _ _) b5)))⟩
    · rw [e] at hR
      clear e
      have HO1 := hid hO1
      have HO2 := hid hO2
      have HW1 := hid hW1
      have HW2 := hid hW2
      have HR := hid hR
      have HR1 := hid hR1
      have HR2 := hid hR2
      have hKK := hid hK
      clear hO1 hO2 hW1 hW2 hR hR1 hR2 hT2 hK
      have tn := fun w => head_same (y0 : Int) y1 y2 y3 w
      have tm := fun w => head_eql (y0 : Int) y1 y2 y3 (x0 : Int) x1 x2 x3 w
      generalize ((y0 : Int) == (x0 : Int) && y1 == x1 && y2 == x2 && y3 == x3) = β at tm
      have tg := fun x y xs ys w => head_guard x y xs ys w
      cases β
      all_goals
        go_enter Try.func6, Try.ntmps6
        go_wp2_with fail
        refine wp_relyT [.eq (.agg #[.int .u64 (a0 : Int), .int .i64 a1, .int .i64 a2, .int .i64 a3]), .eq (.agg #[.int .u64 (a0 : Int), .int .i64 a1, .int .i64 a2, .int .i64 a3]), .eq (.string Z1), .eq (.agg #[.int .u64 (b0 : Int), .int .i64 b1, .int .i64 b2, .int .i64 b3]), .eq (.agg #[.int .u64 (b0 : Int), .int .i64 b1, .int .i64 b2, .int .i64 b3]), .eq (.string Z2), .eq (.string Z1), .eq (.string Z2)] (by kernel_rfl) (by kernel_rfl) ?_ ?_
        · simp only [relyGoalsT]
          refine ⟨?_, ?_, ?_, ?_, ?_, ?_, ?_, ?_, trivial⟩
          all_goals intro t w' hsz hg hdd hfr
          all_goals simp only [List.filter, Region.binds, depsDid, Did, perAt, List.getElem?_cons_zero, List.getElem?_cons_succ, List.getD_cons_zero, List.getD_cons_succ, Per.eq, Per.row, Per.of, and_true, Array.getD_eq_getD_getElem?] at hdd
          · rw [if_pos (by rfl)]
            try simp only [perAt, List.getD_cons_zero, List.getD_cons_succ, Per.eq, Per.row, Per.of]
            have hs3 := hfr 3 (by kernel_rfl)
            simp only [Array.getD_eq_getD_getElem?] at hs3
            have kc := hg.cells
            simp [execOp, Act.eval, hdd, hs3, relyUpon, go_sem, Grow.refl, kc]
          · rw [if_pos (by rfl)]
            try simp only [perAt, List.getD_cons_zero, List.getD_cons_succ, Per.eq, Per.row, Per.of]
            simp [execOp, Act.eval, hdd, relyUpon, go_sem]
            refine (HO1.out w').mono fun e w'' h => ?_
            obtain ⟨h1, h2⟩ := h
            have h3 : Grow w' w'' := by first | exact h2 | (rw [← h2]; exact Grow.refl _)
            first | exact ⟨h3, h1⟩ | exact ⟨_, h1, h3, rfl⟩ | exact ⟨h1, h3⟩
          · rw [if_pos (by rfl)]
            try simp only [perAt, List.getD_cons_zero, List.getD_cons_succ, Per.eq, Per.row, Per.of]
            simp [execOp, Act.eval, hdd, relyUpon, go_sem]
            refine (HW1.out w').mono fun e w'' h => ?_
            obtain ⟨h1, h2⟩ := h
            have h3 : Grow w' w'' := by first | exact h2 | (rw [← h2]; exact Grow.refl _)
            first | exact ⟨h3, h1⟩ | exact ⟨_, h1, h3, rfl⟩ | exact ⟨h1, h3⟩
          · rw [if_pos (by rfl)]
            try simp only [perAt, List.getD_cons_zero, List.getD_cons_succ, Per.eq, Per.row, Per.of]
            have hs4 := hfr 4 (by kernel_rfl)
            simp only [Array.getD_eq_getD_getElem?] at hs4
            have kc := hg.cells
            simp [execOp, Act.eval, hdd, hs4, relyUpon, go_sem, Grow.refl, kc]
          · rw [if_pos (by rfl)]
            try simp only [perAt, List.getD_cons_zero, List.getD_cons_succ, Per.eq, Per.row, Per.of]
            simp [execOp, Act.eval, hdd, relyUpon, go_sem]
            refine (HO2.out w').mono fun e w'' h => ?_
            obtain ⟨h1, h2⟩ := h
            have h3 : Grow w' w'' := by first | exact h2 | (rw [← h2]; exact Grow.refl _)
            first | exact ⟨h3, h1⟩ | exact ⟨_, h1, h3, rfl⟩ | exact ⟨h1, h3⟩
          · rw [if_pos (by rfl)]
            try simp only [perAt, List.getD_cons_zero, List.getD_cons_succ, Per.eq, Per.row, Per.of]
            simp [execOp, Act.eval, hdd, relyUpon, go_sem]
            refine (HW2.out w').mono fun e w'' h => ?_
            obtain ⟨h1, h2⟩ := h
            have h3 : Grow w' w'' := by first | exact h2 | (rw [← h2]; exact Grow.refl _)
            first | exact ⟨h3, h1⟩ | exact ⟨_, h1, h3, rfl⟩ | exact ⟨h1, h3⟩
          · rw [if_pos (by rfl)]
            try simp only [perAt, List.getD_cons_zero, List.getD_cons_succ, Per.eq, Per.row, Per.of]
            simp [execOp, Act.eval, hdd, relyUpon, go_sem, Grow.refl]
          · rw [if_pos (by rfl)]
            try simp only [perAt, List.getD_cons_zero, List.getD_cons_succ, Per.eq, Per.row, Per.of]
            simp [execOp, Act.eval, hdd, relyUpon, go_sem, Grow.refl]
        intro wz hgz
        simp only [relyEnd, List.headD_cons, List.tail_cons, Per.eq, Per.row, Per.of]
        rintro _ rfl _ rfl _ rfl _ rfl _ rfl _ rfl _ rfl _ rfl
        go_simp
        clear HO1 HO2 HW1 HW2
        have gz : Grow w wz := Grow.trans (Grow.trans (Grow.alloc _ _) (Grow.alloc _ _)) hgz
        clear hgz
        go_wp2_with fail
        rw [hKK.out]
        have hq : ¬ 9223372036854775807 < K + (40 - K) := by omega
        go_wp2_with fail
        have i1 : (0 : Int) ≤ (K : Int) := by omega
        have i2 : (K : Int) ≤ 40 := by omega
        go_region_held3 (fun _ => True) (trivial)
          ((go_at_call 13; refine (HR.out _).mono ?_; rintro e w2 ⟨rfl, g2⟩; try (have hz : w2.heap[wz.heap.size]? = some (.cells #[.int .u64 0, .int .i64 0, .int .i64 0, .int .i64 0] 36 (0, 0)) := Grow.heap g2 (heap_new wz (.cells #[.int .u64 0, .int .i64 0, .int .i64 0, .int .i64 0] 36)); have c0 : w2.cell? ⟨wz.heap.size, 0, none⟩ = some (.int .u64 0) := (by rw [heap_cell hz]; rfl); have f0 : w2.frozen? ⟨wz.heap.size, 0, none⟩ = false := heap_frozen hz 0 (by omega); have c1 : w2.cell? ⟨wz.heap.size, 1, none⟩ = some (.int .i64 0) := (by rw [heap_cell hz]; rfl); have f1 : w2.frozen? ⟨wz.heap.size, 1, none⟩ = false := heap_frozen hz 1 (by omega); have c2 : w2.cell? ⟨wz.heap.size, 2, none⟩ = some (.int .i64 0) := (by rw [heap_cell hz]; rfl); have f2 : w2.frozen? ⟨wz.heap.size, 2, none⟩ = false := heap_frozen hz 2 (by omega); have c3 : w2.cell? ⟨wz.heap.size, 3, none⟩ = some (.int .i64 0) := (by rw [heap_cell hz]; rfl); have f3 : w2.frozen? ⟨wz.heap.size, 3, none⟩ = false := heap_frozen hz 3 (by omega); have HZ := hid hz; clear hz)))
        all_goals
          go_wp2_with fail
          refine (HR1.out _).mono ?_
          rintro e w3 ⟨rfl, g3⟩
          have G2 : Grow wz w2 := by first | exact Grow.trans (Grow.drew wz) g2 | exact Grow.trans (Grow.trans (Grow.drew wz) (Grow.alloc _ _)) g2 | exact Grow.trans (Grow.trans (Grow.alloc _ _) (Grow.drew _)) g2
          first
            | (have hb := hid (Grow.heap g3 (heap_set (heap_set (heap_set (heap_set HZ.out 0 (.int .u64 (y0 : Int))) 1 (.int .i64 y1)) 2 (.int .i64 y2)) 3 (.int .i64 y3))); have gg := hid (Grow.trans gz (Grow.trans (Grow.set (Grow.set (Grow.set (Grow.set G2 _ _ (Nat.le_refl _) _) _ _ (Nat.le_refl _) _) _ _ (Nat.le_refl _) _) _ _ (Nat.le_refl _) _) g3)))
            | (have hb := hid (Grow.heap g3 (heap_new w2 (.cells #[.int .u64 (y0 : Int), .int .i64 y1, .int .i64 y2, .int .i64 y3] 36))); have gg := hid (Grow.trans gz (Grow.trans G2 (Grow.trans (Grow.alloc w2 (.cells #[.int .u64 (y0 : Int), .int .i64 y1, .int .i64 y2, .int .i64 y3] 36)) g3))))
          (try clear c0 c1 c2 c3 f0 f1 f2 f3)
          go_wp2_with fail
          refine (HR2.out _).mono ?_
          rintro e w4 ⟨rfl, g4⟩
          have hb4 := Grow.heap (Grow.trans (Grow.alloc _ _) g4) hb.out
          have hx4 := Grow.heap g4 (heap_new w3 (.cells #[.int .u64 (x0 : Int), .int .i64 x1, .int .i64 x2, .int .i64 x3] 36))
          have u0 := (heap_cell hb4 0).trans (show _ = some (.int .u64 (y0 : Int)) from rfl)
          have u1 := (heap_cell hb4 1).trans (show _ = some (.int .i64 y1) from rfl)
          have u2 := (heap_cell hb4 2).trans (show _ = some (.int .i64 y2) from rfl)
          have u3 := (heap_cell hb4 3).trans (show _ = some (.int .i64 y3) from rfl)
          have v0 := (heap_cell hx4 0).trans (show _ = some (.int .u64 (x0 : Int)) from rfl)
          have v1 := (heap_cell hx4 1).trans (show _ = some (.int .i64 x1) from rfl)
          have v2 := (heap_cell hx4 2).trans (show _ = some (.int .i64 x2) from rfl)
          have v3 := (heap_cell hx4 3).trans (show _ = some (.int .i64 x3) from rfl)
          have hltb := heap_lt hb4
          have hltx := heap_lt hx4
          clear hb4 hx4
          go_wp2_with fail
          refine (awake_c _).mono ?_
          rintro e w5 ⟨rfl, b5⟩
          go_wp2_with fail
          go_ret
          exact ⟨rfl, Grow.trans gg.out (Grow.trans (Grow.alloc _ _) (Grow.trans g4 (Grow.trans (Grow.alloc _ _) b5)))⟩
namespace LawJournalTears
open Go.ChangeShapes Go.WideShapes Go.ChangeAt Go.RowKit
open Go.ChangeMaps (open_string shut_string)
theorem own : ownKnob Try.prog.godebug = none := by kernel_rfl
theorem laidOut : laidOutB Try.prog = true := by kernel_rfl
set_option maxRecDepth 100000 in
theorem lifted (os : Os) (started : os.Started) (H : Type) (enc : TypeId × Value → H) :
    ReturnsInHanded {} Try.checked os 6 .any (Rows.journalTearsSpec.pre6 enc Try.prog Try.f6 Rows.journalTearsRow.domain false) (Rows.journalTearsSpec.post enc Try.prog Try.f6 false true false false) := by
  refine returnsInHanded_of_change_sized (C := Try.checked) own started (by kernel_rfl) Try.func6
    (ChangeSpec.witness6 (enc := enc) (C := Try.checked) false ⟨#[], #[.agg #[.int .u64 0, .int .i64 0, .int .i64 0, .int .i64 0], .agg #[.int .u64 0, .int .i64 0, .int .i64 0, .int .i64 0], .int .u64 0], []⟩ 8 (by kernel_rfl) (by kernel_rfl) (by kernel_rfl) (by kernel_rfl)) ?_
  intro W base args ds gs before hval0 hW hcnd hsz _
  have hval : ∀ (j : Nat) t v, Try.f6.params[j]? = some t → args[j]? = some v → Value.okWide Try.prog W .any base t v := hval0
  have hW' := hW
  obtain ⟨p, q, hA0, hV, rfl, hfz, hnd⟩ := hW
  have hA : DataW.TrodAll enc Try.prog W 0 (fun _ => true) true Try.f6.params.toList args.toList ds p := hA0
  rw [Try.params6] at hA hval hsz
  obtain ⟨v0, vs0, d0, ds0, p0, q0, hargs, rfl, rfl, h0, r0⟩ := trodAll_cons hA
  obtain ⟨v1, vs1, d1, ds1, p1, q1, rfl, rfl, rfl, h1, r1⟩ := trodAll_cons r0
  obtain ⟨v2, vs2, d2, ds2, p2, q2, rfl, rfl, rfl, h2, r2⟩ := trodAll_cons r1
  obtain ⟨rfl, rfl, rfl⟩ := trodAll_nil r2
  obtain rfl : args = #[v0, v1, v2] := by cases args; simp_all
  obtain ⟨rfl, rfl⟩ := trodVars_none hV
  have k0 := h0
  have lt0 : ∀ x ∈ p0, x.block < W.heap.size := by obtain ⟨m, hm⟩ := k0; exact DataW.trod_lt m _ _ _ hm
  obtain ⟨a0, rfl, w0⟩ := open_head (hval 0 35 v0 rfl rfl) h0
  have k1 := h1
  have lt1 : ∀ x ∈ p1, x.block < W.heap.size := by obtain ⟨m, hm⟩ := k1; exact DataW.trod_lt m _ _ _ hm
  obtain ⟨a1, rfl, w1⟩ := open_head (hval 1 35 v1 rfl rfl) h1
  obtain ⟨a2, rfl, rfl, rfl, w2⟩ := open_int Try.underlying47 (hval 2 47 v2 rfl rfl) h2
  have b2 := wf_u64 w2
  clear hA0 hval0
  refine (Tears_walk a0 a1 a2 W w0 w1 b2.1 b2.2).mono fun e W' ⟨he, bel⟩ => ?_
  subst he
  exact ⟨_, rfl, _, _, _, [], _, [], hW', trodAll_mk1 (shut_bool Try.underlying4 _), (trodAll_cons_mk (Below.trod laidOut (by kernel_rfl) (of_decide_eq_true (by kernel_rfl)) k0 bel lt0) (trodAll_cons_mk (Below.trod laidOut (by kernel_rfl) (of_decide_eq_true (by kernel_rfl)) k1 bel lt1) (trodAll_cons_mk (shut_int Try.underlying47 w2) trodAll_mk0))), rfl, bel.frame _, fun h => by cases h⟩
theorem over : Rows.journalTearsRow.holds Try.pinned (OpenSpec.ofChange Rows.journalTearsSpec) :=
  OpenClaim.holds_of_wide 6 Try.f6 rfl rfl rfl rfl rfl rfl rfl ⟨rfl, rfl, rfl, rfl, rfl⟩ rfl rfl rfl rfl rfl (by kernel_rfl) Try.func6 (by kernel_rfl)
    (of_decide_eq_true (by kernel_rfl)) (by unfold Func.isWrapper; first | (rw [if_pos (by decide +kernel)]; kernel_rfl) | (rw [if_neg (by decide +kernel)]; exact ⟨rfl, rfl⟩))
    (fun os started H enc _ => lifted os started H enc)
end LawJournalTears
/-- The given statement. -/
theorem journalTears_proved : Rows.JournalTearsSaid := LawJournalTears.over
#print axioms journalTears_proved
end Go.Proofs.Ytcfkcdfjianeiaa
