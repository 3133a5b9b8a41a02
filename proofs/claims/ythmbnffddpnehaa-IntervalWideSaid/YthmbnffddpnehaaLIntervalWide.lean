/- The gaps of all numbers and the intervals leave nothing out, and no gap meets an interval. -/
import Derived.Test.YthmbnffddpnehaaILaws
namespace Go.Proofs.Ythmbnffddpnehaa
open Go.RowKit Go.Joins Go.ChangeShapes Go.WideShapes Go.Deep Go.WideElems Go.Maps
set_option linter.unusedVariables false
set_option linter.unusedSimpArgs false
def inB (t : Int) (G : List (Int × Int)) : Bool := G.any fun s => decide (s.1 ≤ t) && decide (t ≤ s.2)
theorem inB_snoc (t : Int) (G : List (Int × Int)) (j : Nat) (hj : j < G.length) : inB t (G.take (j + 1)) = (inB t (G.take j) || (decide (G[j].1 ≤ t) && decide (t ≤ G[j].2))) := by
  unfold inB
  rw [List.take_succ_eq_append_getElem hj, List.any_append]
  simp
theorem inB_iff (t : Int) (G : List (Int × Int)) : inB t G = true ↔ ∃ s ∈ G, s.1 ≤ t ∧ t ≤ s.2 := by
  unfold inB
  simp
set_option maxRecDepth 100000 in
set_option maxHeartbeats 8000000 in
theorem IntervalWide_walk (l : List ActR) (v : Value) (t : Int) (w : World) (ha : Acts w v l) (h3 : -9223372036854775808 ≤ t) (h3' : t ≤ 9223372036854775807) :
    Calls Try.prog 4 #[v, .int .i64 t] w fun e w' => e = .returned (.bool true) ∧ Below w.heap.size w w' := by
  have hS := fillS_100 l
  have HF := hid (filled_c v l w ha)
  obtain ⟨A, c, rfl, -, -, -⟩ := ha
  generalize l.length = n at *
  generalize fillS (l.take 100) = S at *
  obtain ⟨L, nx⟩ := S
  dsimp only at hS HF
  have HW := hid (fun w => awake_c w)
  go_enter Try.func4, Try.ntmps4
  go_wp2_with fail
  refine HF.out.mono ?_
  rintro e w1 ⟨p, v', rfl, hB, hT⟩
  obtain ⟨⟨N2, T, mb, hix, -⟩, hro⟩ := hB
  dsimp only at hix hro
  have HRM := hid (fun (w' : World) (g : Grow w1 w') (a b : Int) => RMeet_c nx v' L a b w' (hro.grow g))
  obtain ⟨A1, c1, rfl, -, -, -⟩ := hro.items
  have HT := hid hT
  obtain ⟨G, hG, hGl, hG1, hG2, hG3⟩ := gapsL_all hix.items hix.rises hix.fits (by omega)
  have HGA := hid (fun (w' : World) (g : Grow w1 w') => gapsAny_c (some ⟨p, 0, none⟩) T (-9223372036854775808) 9223372036854775807 1000 w' (hix.grow g).ptr (by omega) (by omega) (Nat.le_trans (metT_len hix _ _) (by omega)))
  rw [hG] at HGA
  have HFR := hid (show metL L t t = [] ↔ inB t G = true from by rw [inB_iff]; exact hG3 t h3 h3')
  have HST := hid (fun j hj => inB_snoc t G j hj)
  have HG1 := hid (show ∀ j (hj : j < G.length), -9223372036854775808 ≤ G[j].1 ∧ G[j].1 ≤ G[j].2 ∧ G[j].2 ≤ 9223372036854775807 ∧ metL L G[j].1 G[j].2 = [] from fun j hj => hG1 _ (List.getElem_mem hj))
  have HG2 := hid (show ∀ j (hj : j + 1 < G.length), G[j].2 < G[j + 1].1 - 1 from fun j hj => List.pairwise_iff_getElem.1 hG2 j (j + 1) (by omega) hj (by omega))
  clear HF hT hix hro hG hG1 hG2 hG3
  generalize L.length = nl at *
  have g2 := Grow.alloc w1 (.cells #[.slice A1 nl c1, .int .i64 nx] 26)
  have r2 := heap_new w1 (.cells #[.slice A1 nl c1, .int .i64 nx] 26)
  go_wp2_with fail
  generalize w1.alloc (.cells #[.slice A1 nl c1, .int .i64 nx] 26) = w2 at *
  refine (HGA.out _ g2).mono ?_
  rintro e w3 ⟨lv, rfl, hs3, g3⟩
  obtain ⟨B, cB, rfl, -, -, hsc⟩ := hs3
  have HX := hid (show ∀ j (hj : j < G.length), ∃ g, B = some ⟨g, 0, none⟩ ∧ w3.cell? ⟨g, j * 2, none⟩ = some (.int .i64 G[j].1) ∧ w3.cell? ⟨g, j * 2 + 1, none⟩ = some (.int .i64 G[j].2) from fun j hj => by
    obtain ⟨g, e, h⟩ := hsc (by omega)
    exact ⟨g, e, (h j hj).1, (h j hj).2⟩)
  have HTK := hid (show inB t G = inB t (G.take G.length) from by rw [List.take_length])
  obtain ⟨K, hK⟩ : ∃ K, K = G.length := ⟨_, rfl⟩
  rw [← hK] at hGl HTK ⊢
  have HK := hid hK
  have G3 := hid (Grow.trans g2 g3)
  have R3 := hid (g3.heap r2)
  have hlb := heap_lt r2
  have hls := g3.size
  generalize w1.heap.size = rb at *
  clear hK hsc HGA g3 r2 g2
  go_wp2_with fail
  go_loopw [8, 9] (fun b q wr => ∃ j : Nat, j ≤ K ∧ q = .int .i64 (j : Int) ∧ b = .bool (inB t (G.take j)) ∧ Grow w3 wr) (fun _ q _ => K - (intOf q).toNat)
  case atStart => exact ⟨0, by omega, rfl, by simp [inB], Grow.refl _⟩
  case round =>
    obtain ⟨j, hj, rfl, rfl, hg⟩ := hrel
    have hj0 : (0 : Int) ≤ (j : Int) := by omega
    have r4 := hg.heap R3.out
    have p0 : wr.cell? ⟨rb, 0, none⟩ = some (.slice A1 nl c1) := by rw [heap_cell r4]; rfl
    have p1 : wr.cell? ⟨rb, 1, none⟩ = some (.int .i64 nx) := by rw [heap_cell r4]; rfl
    have hl4 := heap_lt r4
    have R4 := hid r4
    clear r4
    by_cases hlt : j < K
    · have hj1 : (j : Int) < (K : Int) := by omega
      have hjG : j < G.length := by have := HK.out; omega
      have hst := HST.out j hjG
      obtain ⟨g, rfl, a0, a1⟩ := HX.out j hjG
      obtain ⟨b1, b2, b3, b4⟩ := HG1.out j hjG
      generalize hx : G[j].1 = x1 at *
      generalize hy : G[j].2 = x2 at *
      replace a0 := hg.cell a0
      replace a1 := hg.cell a1
      have hgl := World.block_lt_of_cell? wr _ a0
      simp only at hgl
      have HST1 := hid hst
      generalize inB t (G.take j) = bb at *
      clear hst
      have k1 : decide (x2 < x1) = false := decide_eq_false (by omega)
      have HRM1 := hid (show ∀ w', Grow wr w' → Calls Try.prog 14 #[.agg #[.slice A1 nl c1, .int .i64 nx], .int .i64 x1, .int .i64 x2] w' fun e w'' => (∃ B c, e = .returned (.slice B 0 c)) ∧ Grow w' w'' from fun w' g => (HRM.out w' (Grow.trans G3.out (Grow.trans hg g)) x1 x2).mono fun e w'' h => by
        obtain ⟨B5, c5, rfl, -, g5⟩ := h
        rw [b4]
        exact ⟨⟨B5, c5, rfl⟩, g5⟩)
      clear b4
      by_cases hz : j = 0
      · have HZ := hid hz
        clear hz
        go_wp2_with fail
        refine wp_rely [.eq (.slice (some ⟨g, 0, none⟩) K cB), .eq (.int .i64 (j : Int)), .eq (.pointer (some ⟨g, j * 2, none⟩)), .eq (.pointer (some ⟨g, j * 2, none⟩)), .eq (.int .i64 x1), .eq (.slice (some ⟨g, 0, none⟩) K cB), .eq (.int .i64 (j : Int)), .eq (.pointer (some ⟨g, j * 2, none⟩)), .eq (.pointer (some ⟨g, j * 2 + 1, none⟩)), .eq (.int .i64 x2), .eq (.bool false), .eq (.bool false), .eq (.agg #[.slice A1 nl c1, .int .i64 nx]), .eq (.slice (some ⟨g, 0, none⟩) K cB), .eq (.int .i64 (j : Int)), .eq (.pointer (some ⟨g, j * 2, none⟩)), .eq (.pointer (some ⟨g, j * 2, none⟩)), .eq (.int .i64 x1), .eq (.slice (some ⟨g, 0, none⟩) K cB), .eq (.int .i64 (j : Int)), .eq (.pointer (some ⟨g, j * 2, none⟩)), .eq (.pointer (some ⟨g, j * 2 + 1, none⟩)), .eq (.int .i64 x2), (⟨fun v w => ∃ B c, v = .slice B 0 c, fun _ _ _ h g => h⟩ : Per), .eq (.int .i64 0), .eq (.bool false), .eq (.bool false), .eq (.bool false), .eq (.int .i64 (j : Int)), .eq (.bool false), .eq (.bool false), .eq undef, .eq undef, .eq undef, .eq undef, .eq undef, .eq undef, .eq undef, .eq undef, .eq undef, .eq undef, .eq undef, .eq undef, .eq undef, .eq (.bool false), .eq (.bool false)] (by kernel_rfl) (by kernel_rfl) (by kernel_rfl) ?_ ?_
        · simp only [relyGoals]
          refine ⟨?_, ?_, ?_, ?_, ?_, ?_, ?_, ?_, ?_, ?_, ?_, ?_, ?_, ?_, ?_, ?_, ?_, ?_, ?_, ?_, ?_, ?_, ?_, ?_, ?_, ?_, ?_, ?_, ?_, ?_, ?_, ?_, ?_, ?_, ?_, ?_, ?_, ?_, ?_, ?_, ?_, ?_, ?_, ?_, ?_, ?_, trivial⟩
          all_goals intro t w' hsz hg hdd hfr
          all_goals simp only [depsDid, Did, perAt, List.getElem?_cons_zero, List.getElem?_cons_succ, List.getD_cons_zero, List.getD_cons_succ, Per.eq, Per.row, Per.of, and_true, Array.getD_eq_getD_getElem?] at hdd
          · rw [if_pos (by rfl)]
            try simp only [perAt, List.getD_cons_zero, List.getD_cons_succ, Per.eq, Per.row, Per.of]
            have hs7 := hfr 7 (by kernel_rfl)
            simp only [Array.getD_eq_getD_getElem?] at hs7
            simp [execOp, Act.eval, hdd, hs7, relyUpon, go_sem, Grow.refl]
          · rw [if_pos (by rfl)]
            try simp only [perAt, List.getD_cons_zero, List.getD_cons_succ, Per.eq, Per.row, Per.of]
            have hs9 := hfr 9 (by kernel_rfl)
            simp only [Array.getD_eq_getD_getElem?] at hs9
            simp [execOp, Act.eval, hdd, hs9, relyUpon, go_sem, Grow.refl]
          · rw [if_pos (by rfl)]
            try simp only [perAt, List.getD_cons_zero, List.getD_cons_succ, Per.eq, Per.row, Per.of]
            simp [execOp, Act.eval, hdd, relyUpon, go_sem, Grow.refl, hj0, hj1]
          · rw [if_pos (by rfl)]
            try simp only [perAt, List.getD_cons_zero, List.getD_cons_succ, Per.eq, Per.row, Per.of]
            simp [execOp, Act.eval, hdd, relyUpon, go_sem, Grow.refl]
          · rw [if_pos (by rfl)]
            try simp only [perAt, List.getD_cons_zero, List.getD_cons_succ, Per.eq, Per.row, Per.of]
            have kc := hg.cells
            simp [execOp, Act.eval, hdd, relyUpon, go_sem, Grow.refl, kc, p0, p1, a0, a1, hgl, hl4]
          · rw [if_pos (by rfl)]
            try simp only [perAt, List.getD_cons_zero, List.getD_cons_succ, Per.eq, Per.row, Per.of]
            have hs7 := hfr 7 (by kernel_rfl)
            simp only [Array.getD_eq_getD_getElem?] at hs7
            simp [execOp, Act.eval, hdd, hs7, relyUpon, go_sem, Grow.refl]
          · rw [if_pos (by rfl)]
            try simp only [perAt, List.getD_cons_zero, List.getD_cons_succ, Per.eq, Per.row, Per.of]
            have hs9 := hfr 9 (by kernel_rfl)
            simp only [Array.getD_eq_getD_getElem?] at hs9
            simp [execOp, Act.eval, hdd, hs9, relyUpon, go_sem, Grow.refl]
          · rw [if_pos (by rfl)]
            try simp only [perAt, List.getD_cons_zero, List.getD_cons_succ, Per.eq, Per.row, Per.of]
            simp [execOp, Act.eval, hdd, relyUpon, go_sem, Grow.refl, hj0, hj1]
          · rw [if_pos (by rfl)]
            try simp only [perAt, List.getD_cons_zero, List.getD_cons_succ, Per.eq, Per.row, Per.of]
            simp [execOp, Act.eval, hdd, relyUpon, go_sem, Grow.refl]
          · rw [if_pos (by rfl)]
            try simp only [perAt, List.getD_cons_zero, List.getD_cons_succ, Per.eq, Per.row, Per.of]
            have kc := hg.cells
            simp [execOp, Act.eval, hdd, relyUpon, go_sem, Grow.refl, kc, p0, p1, a0, a1, hgl, hl4]
          · rw [if_pos (by rfl)]
            try simp only [perAt, List.getD_cons_zero, List.getD_cons_succ, Per.eq, Per.row, Per.of]
            simp [execOp, Act.eval, hdd, relyUpon, go_sem, Grow.refl, k1]
          · rw [if_pos (by rfl)]
            try simp only [perAt, List.getD_cons_zero, List.getD_cons_succ, Per.eq, Per.row, Per.of]
            simp [execOp, Act.eval, hdd, relyUpon, go_sem, Grow.refl]
          · rw [if_pos (by simp only [Region.wanted]; rw [yielded_of (d := 34) (b := false) rfl (by simp only [hdd])]; rfl)]
            try simp only [perAt, List.getD_cons_zero, List.getD_cons_succ, Per.eq, Per.row, Per.of]
            have hs6 := hfr 6 (by kernel_rfl)
            simp only [Array.getD_eq_getD_getElem?] at hs6
            have kc := hg.cells
            simp [execOp, Act.eval, hdd, hs6, relyUpon, go_sem, Grow.refl, kc, p0, p1, a0, a1, hgl, hl4]
          · rw [if_pos (by simp only [Region.wanted]; rw [yielded_of (d := 34) (b := false) rfl (by simp only [hdd])]; rfl)]
            try simp only [perAt, List.getD_cons_zero, List.getD_cons_succ, Per.eq, Per.row, Per.of]
            have hs7 := hfr 7 (by kernel_rfl)
            simp only [Array.getD_eq_getD_getElem?] at hs7
            simp [execOp, Act.eval, hdd, hs7, relyUpon, go_sem, Grow.refl]
          · rw [if_pos (by simp only [Region.wanted]; rw [yielded_of (d := 34) (b := false) rfl (by simp only [hdd])]; rfl)]
            try simp only [perAt, List.getD_cons_zero, List.getD_cons_succ, Per.eq, Per.row, Per.of]
            have hs9 := hfr 9 (by kernel_rfl)
            simp only [Array.getD_eq_getD_getElem?] at hs9
            simp [execOp, Act.eval, hdd, hs9, relyUpon, go_sem, Grow.refl]
          · rw [if_pos (by simp only [Region.wanted]; rw [yielded_of (d := 34) (b := false) rfl (by simp only [hdd])]; rfl)]
            try simp only [perAt, List.getD_cons_zero, List.getD_cons_succ, Per.eq, Per.row, Per.of]
            simp [execOp, Act.eval, hdd, relyUpon, go_sem, Grow.refl, hj0, hj1]
          · rw [if_pos (by simp only [Region.wanted]; rw [yielded_of (d := 34) (b := false) rfl (by simp only [hdd])]; rfl)]
            try simp only [perAt, List.getD_cons_zero, List.getD_cons_succ, Per.eq, Per.row, Per.of]
            simp [execOp, Act.eval, hdd, relyUpon, go_sem, Grow.refl]
          · rw [if_pos (by simp only [Region.wanted]; rw [yielded_of (d := 34) (b := false) rfl (by simp only [hdd])]; rfl)]
            try simp only [perAt, List.getD_cons_zero, List.getD_cons_succ, Per.eq, Per.row, Per.of]
            have kc := hg.cells
            simp [execOp, Act.eval, hdd, relyUpon, go_sem, Grow.refl, kc, p0, p1, a0, a1, hgl, hl4]
          · rw [if_pos (by simp only [Region.wanted]; rw [yielded_of (d := 34) (b := false) rfl (by simp only [hdd])]; rfl)]
            try simp only [perAt, List.getD_cons_zero, List.getD_cons_succ, Per.eq, Per.row, Per.of]
            have hs7 := hfr 7 (by kernel_rfl)
            simp only [Array.getD_eq_getD_getElem?] at hs7
            simp [execOp, Act.eval, hdd, hs7, relyUpon, go_sem, Grow.refl]
          · rw [if_pos (by simp only [Region.wanted]; rw [yielded_of (d := 34) (b := false) rfl (by simp only [hdd])]; rfl)]
            try simp only [perAt, List.getD_cons_zero, List.getD_cons_succ, Per.eq, Per.row, Per.of]
            have hs9 := hfr 9 (by kernel_rfl)
            simp only [Array.getD_eq_getD_getElem?] at hs9
            simp [execOp, Act.eval, hdd, hs9, relyUpon, go_sem, Grow.refl]
          · rw [if_pos (by simp only [Region.wanted]; rw [yielded_of (d := 34) (b := false) rfl (by simp only [hdd])]; rfl)]
            try simp only [perAt, List.getD_cons_zero, List.getD_cons_succ, Per.eq, Per.row, Per.of]
            simp [execOp, Act.eval, hdd, relyUpon, go_sem, Grow.refl, hj0, hj1]
          · rw [if_pos (by simp only [Region.wanted]; rw [yielded_of (d := 34) (b := false) rfl (by simp only [hdd])]; rfl)]
            try simp only [perAt, List.getD_cons_zero, List.getD_cons_succ, Per.eq, Per.row, Per.of]
            simp [execOp, Act.eval, hdd, relyUpon, go_sem, Grow.refl]
          · rw [if_pos (by simp only [Region.wanted]; rw [yielded_of (d := 34) (b := false) rfl (by simp only [hdd])]; rfl)]
            try simp only [perAt, List.getD_cons_zero, List.getD_cons_succ, Per.eq, Per.row, Per.of]
            have kc := hg.cells
            simp [execOp, Act.eval, hdd, relyUpon, go_sem, Grow.refl, kc, p0, p1, a0, a1, hgl, hl4]
          · rw [if_pos (by simp only [Region.wanted]; rw [yielded_of (d := 34) (b := false) rfl (by simp only [hdd])]; rfl)]
            try simp only [perAt, List.getD_cons_zero, List.getD_cons_succ, Per.eq, Per.row, Per.of]
            simp [execOp, Act.eval, hdd, relyUpon, go_sem]
            refine (HRM1.out w' hg).mono fun e w'' h => ?_
            obtain ⟨⟨B5, c5, h1⟩, h2⟩ := h
            subst h1
            first | exact ⟨_, rfl, h2, _, _, rfl⟩ | exact ⟨h2, _, _, rfl⟩
          · rw [if_pos (by simp only [Region.wanted]; rw [yielded_of (d := 34) (b := false) rfl (by simp only [hdd])]; rfl)]
            try simp only [perAt, List.getD_cons_zero, List.getD_cons_succ, Per.eq, Per.row, Per.of]
            obtain ⟨⟨B5, c5, k9⟩, -⟩ := hdd
            simp [execOp, Act.eval, k9, relyUpon, go_sem, Grow.refl]
          · rw [if_pos (by simp only [Region.wanted]; rw [yielded_of (d := 34) (b := false) rfl (by simp only [hdd])]; rfl)]
            try simp only [perAt, List.getD_cons_zero, List.getD_cons_succ, Per.eq, Per.row, Per.of]
            simp [execOp, Act.eval, hdd, relyUpon, go_sem, Grow.refl]
          · rw [if_pos (by rfl)]
            try simp only [perAt, List.getD_cons_zero, List.getD_cons_succ, Per.eq, Per.row, Per.of]
            simp [execOp, Act.eval, hdd, relyUpon, go_sem, Grow.refl]
          · rw [if_pos (by rfl)]
            try simp only [perAt, List.getD_cons_zero, List.getD_cons_succ, Per.eq, Per.row, Per.of]
            simp [execOp, Act.eval, hdd, relyUpon, go_sem, Grow.refl]
          · rw [if_pos (by simp only [Region.wanted]; rw [yielded_of (d := 50) (b := false) rfl (by simp only [hdd])]; rfl)]
            try simp only [perAt, List.getD_cons_zero, List.getD_cons_succ, Per.eq, Per.row, Per.of]
            have hs9 := hfr 9 (by kernel_rfl)
            simp only [Array.getD_eq_getD_getElem?] at hs9
            simp [execOp, Act.eval, hdd, hs9, relyUpon, go_sem, Grow.refl]
          · rw [if_pos (by simp only [Region.wanted]; rw [yielded_of (d := 50) (b := false) rfl (by simp only [hdd])]; rfl)]
            try simp only [perAt, List.getD_cons_zero, List.getD_cons_succ, Per.eq, Per.row, Per.of]
            simp [execOp, Act.eval, hdd, relyUpon, go_sem, Grow.refl, HZ.out]
          · rw [if_pos (by simp only [Region.wanted]; rw [yielded_of (d := 50) (b := false) rfl (by simp only [hdd])]; rfl)]
            try simp only [perAt, List.getD_cons_zero, List.getD_cons_succ, Per.eq, Per.row, Per.of]
            simp [execOp, Act.eval, hdd, relyUpon, go_sem, Grow.refl]
          · rw [if_neg (by simp only [Region.wanted]; rw [yielded_of (d := 53) (b := false) rfl (by simp only [hdd])]; decide)]
            all_goals first | rfl | simp [perAt, Per.eq, Per.of, Per.row]
          · rw [if_neg (by simp only [Region.wanted]; rw [yielded_of (d := 53) (b := false) rfl (by simp only [hdd])]; decide)]
            all_goals first | rfl | simp [perAt, Per.eq, Per.of, Per.row]
          · rw [if_neg (by simp only [Region.wanted]; rw [yielded_of (d := 53) (b := false) rfl (by simp only [hdd])]; decide)]
            all_goals first | rfl | simp [perAt, Per.eq, Per.of, Per.row]
          · rw [if_neg (by simp only [Region.wanted]; rw [yielded_of (d := 53) (b := false) rfl (by simp only [hdd])]; decide)]
            all_goals first | rfl | simp [perAt, Per.eq, Per.of, Per.row]
          · rw [if_neg (by simp only [Region.wanted]; rw [yielded_of (d := 53) (b := false) rfl (by simp only [hdd])]; decide)]
            all_goals first | rfl | simp [perAt, Per.eq, Per.of, Per.row]
          · rw [if_neg (by simp only [Region.wanted]; rw [yielded_of (d := 53) (b := false) rfl (by simp only [hdd])]; decide)]
            all_goals first | rfl | simp [perAt, Per.eq, Per.of, Per.row]
          · rw [if_neg (by simp only [Region.wanted]; rw [yielded_of (d := 53) (b := false) rfl (by simp only [hdd])]; decide)]
            all_goals first | rfl | simp [perAt, Per.eq, Per.of, Per.row]
          · rw [if_neg (by simp only [Region.wanted]; rw [yielded_of (d := 53) (b := false) rfl (by simp only [hdd])]; decide)]
            all_goals first | rfl | simp [perAt, Per.eq, Per.of, Per.row]
          · rw [if_neg (by simp only [Region.wanted]; rw [yielded_of (d := 53) (b := false) rfl (by simp only [hdd])]; decide)]
            all_goals first | rfl | simp [perAt, Per.eq, Per.of, Per.row]
          · rw [if_neg (by simp only [Region.wanted]; rw [yielded_of (d := 53) (b := false) rfl (by simp only [hdd])]; decide)]
            all_goals first | rfl | simp [perAt, Per.eq, Per.of, Per.row]
          · rw [if_neg (by simp only [Region.wanted]; rw [yielded_of (d := 53) (b := false) rfl (by simp only [hdd])]; decide)]
            all_goals first | rfl | simp [perAt, Per.eq, Per.of, Per.row]
          · rw [if_neg (by simp only [Region.wanted]; rw [yielded_of (d := 53) (b := false) rfl (by simp only [hdd])]; decide)]
            all_goals first | rfl | simp [perAt, Per.eq, Per.of, Per.row]
          · rw [if_neg (by simp only [Region.wanted]; rw [yielded_of (d := 53) (b := false) rfl (by simp only [hdd])]; decide)]
            all_goals first | rfl | simp [perAt, Per.eq, Per.of, Per.row]
          · rw [if_pos (by simp only [Region.wanted]; rw [yielded_of (d := 50) (b := false) rfl (by simp only [hdd])]; rfl)]
            try simp only [perAt, List.getD_cons_zero, List.getD_cons_succ, Per.eq, Per.row, Per.of]
            simp [execOp, Act.eval, hdd, relyUpon, go_sem, Grow.refl]
          · rw [if_pos (by rfl)]
            try simp only [perAt, List.getD_cons_zero, List.getD_cons_succ, Per.eq, Per.row, Per.of]
            simp [execOp, Act.eval, hdd, relyUpon, go_sem, Grow.refl]
        intro wz hgz
        simp only [relyEnd, List.headD_cons, List.tail_cons, Per.eq, Per.row, Per.of]
        rintro _ rfl _ rfl _ rfl _ rfl _ rfl _ rfl _ rfl _ rfl _ rfl _ rfl _ rfl _ rfl _ rfl _ rfl _ rfl _ rfl _ rfl _ rfl _ rfl _ rfl _ rfl _ rfl _ rfl _ _ _ rfl _ rfl _ rfl _ rfl _ rfl _ rfl _ rfl _ rfl _ rfl _ rfl _ rfl _ rfl _ rfl _ rfl _ rfl _ rfl _ rfl _ rfl _ rfl _ rfl _ rfl _ rfl
        go_simp
        have hg6 := Grow.trans hg hgz
        replace a0 := hgz.cell a0
        replace a1 := hgz.cell a1
        clear hgz p0 p1 k1 HRM1
        cases bb
        · by_cases c1 : x1 ≤ t
          · by_cases c2 : t ≤ x2
            · go_wp2_with fail
              refine ⟨⟨j + 1, by omega, by push_cast; rfl, by rw [HST1.out]; simp [c1, c2], hg6⟩, ?_⟩
              simp [intOf]
              omega
            · go_wp2_with fail
              refine ⟨⟨j + 1, by omega, by push_cast; rfl, by rw [HST1.out]; have : decide (t ≤ x2) = false := decide_eq_false (by omega); simp [this], hg6⟩, ?_⟩
              simp [intOf]
              omega
          · go_wp2_with fail
            refine ⟨⟨j + 1, by omega, by push_cast; rfl, by rw [HST1.out]; have : decide (x1 ≤ t) = false := decide_eq_false (by omega); simp [this], hg6⟩, ?_⟩
            simp [intOf]
            omega
        · go_wp2_with fail
          refine ⟨⟨j + 1, by omega, by push_cast; rfl, by rw [HST1.out]; simp, hg6⟩, ?_⟩
          simp [intOf]
          omega
      · obtain ⟨j', hj'⟩ : ∃ j', j = j' + 1 := ⟨j - 1, by omega⟩
        have HZ := hid (show 0 < j by omega)
        have hjG' : j' < G.length := by omega
        have hgap := HG2.out j' (by omega)
        obtain ⟨g', e9, u0, u1⟩ := HX.out j' hjG'
        cases e9
        obtain ⟨d1, d2, d3, -⟩ := HG1.out j' hjG'
        have hx' : (G[j' + 1]'(by omega)).1 = x1 := by rw [← hx]; congr 1; simp only [hj']
        rw [hx'] at hgap
        generalize hzz : G[j'].2 = z2 at *
        replace u1 := hg.cell u1
        have k2 : decide (x1 - 1 ≤ z2) = false := decide_eq_false (by omega)
        have k3 : IntKind.i64.wrap (x1 - 1) = x1 - 1 := IntWalk.i64_in _ (by omega)
        have k4 : IntKind.i64.wrap ((j : Int) - 1) = (j' : Int) := by rw [IntWalk.i64_in _ (by omega)]; omega
        have k5 : ((j' : Nat) : Int) < (K : Int) := by omega
        have k6 : (0 : Int) ≤ (j' : Int) := by omega
        clear hzz u0 d1 d2 d3 hgap hx' hj' hz
        go_wp2_with fail
        refine wp_rely [.eq (.slice (some ⟨g, 0, none⟩) K cB), .eq (.int .i64 (j : Int)), .eq (.pointer (some ⟨g, j * 2, none⟩)), .eq (.pointer (some ⟨g, j * 2, none⟩)), .eq (.int .i64 x1), .eq (.slice (some ⟨g, 0, none⟩) K cB), .eq (.int .i64 (j : Int)), .eq (.pointer (some ⟨g, j * 2, none⟩)), .eq (.pointer (some ⟨g, j * 2 + 1, none⟩)), .eq (.int .i64 x2), .eq (.bool false), .eq (.bool false), .eq (.agg #[.slice A1 nl c1, .int .i64 nx]), .eq (.slice (some ⟨g, 0, none⟩) K cB), .eq (.int .i64 (j : Int)), .eq (.pointer (some ⟨g, j * 2, none⟩)), .eq (.pointer (some ⟨g, j * 2, none⟩)), .eq (.int .i64 x1), .eq (.slice (some ⟨g, 0, none⟩) K cB), .eq (.int .i64 (j : Int)), .eq (.pointer (some ⟨g, j * 2, none⟩)), .eq (.pointer (some ⟨g, j * 2 + 1, none⟩)), .eq (.int .i64 x2), (⟨fun v w => ∃ B c, v = .slice B 0 c, fun _ _ _ h g => h⟩ : Per), .eq (.int .i64 0), .eq (.bool false), .eq (.bool false), .eq (.bool false), .eq (.int .i64 (j : Int)), .eq (.bool true), .eq (.bool true), .eq (.slice (some ⟨g, 0, none⟩) K cB), .eq (.int .i64 (j : Int)), .eq (.int .i64 (j' : Int)), .eq (.pointer (some ⟨g, j' * 2, none⟩)), .eq (.pointer (some ⟨g, j' * 2 + 1, none⟩)), .eq (.int .i64 z2), .eq (.slice (some ⟨g, 0, none⟩) K cB), .eq (.int .i64 (j : Int)), .eq (.pointer (some ⟨g, j * 2, none⟩)), .eq (.pointer (some ⟨g, j * 2, none⟩)), .eq (.int .i64 x1), .eq (.int .i64 (x1 - 1)), .eq (.bool false), .eq (.bool false), .eq (.bool false)] (by kernel_rfl) (by kernel_rfl) (by kernel_rfl) ?_ ?_
        · simp only [relyGoals]
          refine ⟨?_, ?_, ?_, ?_, ?_, ?_, ?_, ?_, ?_, ?_, ?_, ?_, ?_, ?_, ?_, ?_, ?_, ?_, ?_, ?_, ?_, ?_, ?_, ?_, ?_, ?_, ?_, ?_, ?_, ?_, ?_, ?_, ?_, ?_, ?_, ?_, ?_, ?_, ?_, ?_, ?_, ?_, ?_, ?_, ?_, ?_, trivial⟩
          all_goals intro t w' hsz hg hdd hfr
          all_goals simp only [depsDid, Did, perAt, List.getElem?_cons_zero, List.getElem?_cons_succ, List.getD_cons_zero, List.getD_cons_succ, Per.eq, Per.row, Per.of, and_true, Array.getD_eq_getD_getElem?] at hdd
          · rw [if_pos (by rfl)]
            try simp only [perAt, List.getD_cons_zero, List.getD_cons_succ, Per.eq, Per.row, Per.of]
            have hs7 := hfr 7 (by kernel_rfl)
            simp only [Array.getD_eq_getD_getElem?] at hs7
            simp [execOp, Act.eval, hdd, hs7, relyUpon, go_sem, Grow.refl]
          · rw [if_pos (by rfl)]
            try simp only [perAt, List.getD_cons_zero, List.getD_cons_succ, Per.eq, Per.row, Per.of]
            have hs9 := hfr 9 (by kernel_rfl)
            simp only [Array.getD_eq_getD_getElem?] at hs9
            simp [execOp, Act.eval, hdd, hs9, relyUpon, go_sem, Grow.refl]
          · rw [if_pos (by rfl)]
            try simp only [perAt, List.getD_cons_zero, List.getD_cons_succ, Per.eq, Per.row, Per.of]
            simp [execOp, Act.eval, hdd, relyUpon, go_sem, Grow.refl, hj0, hj1]
          · rw [if_pos (by rfl)]
            try simp only [perAt, List.getD_cons_zero, List.getD_cons_succ, Per.eq, Per.row, Per.of]
            simp [execOp, Act.eval, hdd, relyUpon, go_sem, Grow.refl]
          · rw [if_pos (by rfl)]
            try simp only [perAt, List.getD_cons_zero, List.getD_cons_succ, Per.eq, Per.row, Per.of]
            have kc := hg.cells
            simp [execOp, Act.eval, hdd, relyUpon, go_sem, Grow.refl, kc, p0, p1, a0, a1, hgl, hl4, u1]
          · rw [if_pos (by rfl)]
            try simp only [perAt, List.getD_cons_zero, List.getD_cons_succ, Per.eq, Per.row, Per.of]
            have hs7 := hfr 7 (by kernel_rfl)
            simp only [Array.getD_eq_getD_getElem?] at hs7
            simp [execOp, Act.eval, hdd, hs7, relyUpon, go_sem, Grow.refl]
          · rw [if_pos (by rfl)]
            try simp only [perAt, List.getD_cons_zero, List.getD_cons_succ, Per.eq, Per.row, Per.of]
            have hs9 := hfr 9 (by kernel_rfl)
            simp only [Array.getD_eq_getD_getElem?] at hs9
            simp [execOp, Act.eval, hdd, hs9, relyUpon, go_sem, Grow.refl]
          · rw [if_pos (by rfl)]
            try simp only [perAt, List.getD_cons_zero, List.getD_cons_succ, Per.eq, Per.row, Per.of]
            simp [execOp, Act.eval, hdd, relyUpon, go_sem, Grow.refl, hj0, hj1]
          · rw [if_pos (by rfl)]
            try simp only [perAt, List.getD_cons_zero, List.getD_cons_succ, Per.eq, Per.row, Per.of]
            simp [execOp, Act.eval, hdd, relyUpon, go_sem, Grow.refl]
          · rw [if_pos (by rfl)]
            try simp only [perAt, List.getD_cons_zero, List.getD_cons_succ, Per.eq, Per.row, Per.of]
            have kc := hg.cells
            simp [execOp, Act.eval, hdd, relyUpon, go_sem, Grow.refl, kc, p0, p1, a0, a1, hgl, hl4, u1]
          · rw [if_pos (by rfl)]
            try simp only [perAt, List.getD_cons_zero, List.getD_cons_succ, Per.eq, Per.row, Per.of]
            simp [execOp, Act.eval, hdd, relyUpon, go_sem, Grow.refl, k1]
          · rw [if_pos (by rfl)]
            try simp only [perAt, List.getD_cons_zero, List.getD_cons_succ, Per.eq, Per.row, Per.of]
            simp [execOp, Act.eval, hdd, relyUpon, go_sem, Grow.refl]
          · rw [if_pos (by simp only [Region.wanted]; rw [yielded_of (d := 34) (b := false) rfl (by simp only [hdd])]; rfl)]
            try simp only [perAt, List.getD_cons_zero, List.getD_cons_succ, Per.eq, Per.row, Per.of]
            have hs6 := hfr 6 (by kernel_rfl)
            simp only [Array.getD_eq_getD_getElem?] at hs6
            have kc := hg.cells
            simp [execOp, Act.eval, hdd, hs6, relyUpon, go_sem, Grow.refl, kc, p0, p1, a0, a1, hgl, hl4, u1]
          · rw [if_pos (by simp only [Region.wanted]; rw [yielded_of (d := 34) (b := false) rfl (by simp only [hdd])]; rfl)]
            try simp only [perAt, List.getD_cons_zero, List.getD_cons_succ, Per.eq, Per.row, Per.of]
            have hs7 := hfr 7 (by kernel_rfl)
            simp only [Array.getD_eq_getD_getElem?] at hs7
            simp [execOp, Act.eval, hdd, hs7, relyUpon, go_sem, Grow.refl]
          · rw [if_pos (by simp only [Region.wanted]; rw [yielded_of (d := 34) (b := false) rfl (by simp only [hdd])]; rfl)]
            try simp only [perAt, List.getD_cons_zero, List.getD_cons_succ, Per.eq, Per.row, Per.of]
            have hs9 := hfr 9 (by kernel_rfl)
            simp only [Array.getD_eq_getD_getElem?] at hs9
            simp [execOp, Act.eval, hdd, hs9, relyUpon, go_sem, Grow.refl]
          · rw [if_pos (by simp only [Region.wanted]; rw [yielded_of (d := 34) (b := false) rfl (by simp only [hdd])]; rfl)]
            try simp only [perAt, List.getD_cons_zero, List.getD_cons_succ, Per.eq, Per.row, Per.of]
            simp [execOp, Act.eval, hdd, relyUpon, go_sem, Grow.refl, hj0, hj1]
          · rw [if_pos (by simp only [Region.wanted]; rw [yielded_of (d := 34) (b := false) rfl (by simp only [hdd])]; rfl)]
            try simp only [perAt, List.getD_cons_zero, List.getD_cons_succ, Per.eq, Per.row, Per.of]
            simp [execOp, Act.eval, hdd, relyUpon, go_sem, Grow.refl]
          · rw [if_pos (by simp only [Region.wanted]; rw [yielded_of (d := 34) (b := false) rfl (by simp only [hdd])]; rfl)]
            try simp only [perAt, List.getD_cons_zero, List.getD_cons_succ, Per.eq, Per.row, Per.of]
            have kc := hg.cells
            simp [execOp, Act.eval, hdd, relyUpon, go_sem, Grow.refl, kc, p0, p1, a0, a1, hgl, hl4, u1]
          · rw [if_pos (by simp only [Region.wanted]; rw [yielded_of (d := 34) (b := false) rfl (by simp only [hdd])]; rfl)]
            try simp only [perAt, List.getD_cons_zero, List.getD_cons_succ, Per.eq, Per.row, Per.of]
            have hs7 := hfr 7 (by kernel_rfl)
            simp only [Array.getD_eq_getD_getElem?] at hs7
            simp [execOp, Act.eval, hdd, hs7, relyUpon, go_sem, Grow.refl]
          · rw [if_pos (by simp only [Region.wanted]; rw [yielded_of (d := 34) (b := false) rfl (by simp only [hdd])]; rfl)]
            try simp only [perAt, List.getD_cons_zero, List.getD_cons_succ, Per.eq, Per.row, Per.of]
            have hs9 := hfr 9 (by kernel_rfl)
            simp only [Array.getD_eq_getD_getElem?] at hs9
            simp [execOp, Act.eval, hdd, hs9, relyUpon, go_sem, Grow.refl]
          · rw [if_pos (by simp only [Region.wanted]; rw [yielded_of (d := 34) (b := false) rfl (by simp only [hdd])]; rfl)]
            try simp only [perAt, List.getD_cons_zero, List.getD_cons_succ, Per.eq, Per.row, Per.of]
            simp [execOp, Act.eval, hdd, relyUpon, go_sem, Grow.refl, hj0, hj1]
          · rw [if_pos (by simp only [Region.wanted]; rw [yielded_of (d := 34) (b := false) rfl (by simp only [hdd])]; rfl)]
            try simp only [perAt, List.getD_cons_zero, List.getD_cons_succ, Per.eq, Per.row, Per.of]
            simp [execOp, Act.eval, hdd, relyUpon, go_sem, Grow.refl]
          · rw [if_pos (by simp only [Region.wanted]; rw [yielded_of (d := 34) (b := false) rfl (by simp only [hdd])]; rfl)]
            try simp only [perAt, List.getD_cons_zero, List.getD_cons_succ, Per.eq, Per.row, Per.of]
            have kc := hg.cells
            simp [execOp, Act.eval, hdd, relyUpon, go_sem, Grow.refl, kc, p0, p1, a0, a1, hgl, hl4, u1]
          · rw [if_pos (by simp only [Region.wanted]; rw [yielded_of (d := 34) (b := false) rfl (by simp only [hdd])]; rfl)]
            try simp only [perAt, List.getD_cons_zero, List.getD_cons_succ, Per.eq, Per.row, Per.of]
            simp [execOp, Act.eval, hdd, relyUpon, go_sem]
            refine (HRM1.out w' hg).mono fun e w'' h => ?_
            obtain ⟨⟨B5, c5, h1⟩, h2⟩ := h
            subst h1
            first | exact ⟨_, rfl, h2, _, _, rfl⟩ | exact ⟨h2, _, _, rfl⟩
          · rw [if_pos (by simp only [Region.wanted]; rw [yielded_of (d := 34) (b := false) rfl (by simp only [hdd])]; rfl)]
            try simp only [perAt, List.getD_cons_zero, List.getD_cons_succ, Per.eq, Per.row, Per.of]
            obtain ⟨⟨B5, c5, k9⟩, -⟩ := hdd
            simp [execOp, Act.eval, k9, relyUpon, go_sem, Grow.refl]
          · rw [if_pos (by simp only [Region.wanted]; rw [yielded_of (d := 34) (b := false) rfl (by simp only [hdd])]; rfl)]
            try simp only [perAt, List.getD_cons_zero, List.getD_cons_succ, Per.eq, Per.row, Per.of]
            simp [execOp, Act.eval, hdd, relyUpon, go_sem, Grow.refl]
          · rw [if_pos (by rfl)]
            try simp only [perAt, List.getD_cons_zero, List.getD_cons_succ, Per.eq, Per.row, Per.of]
            simp [execOp, Act.eval, hdd, relyUpon, go_sem, Grow.refl]
          · rw [if_pos (by rfl)]
            try simp only [perAt, List.getD_cons_zero, List.getD_cons_succ, Per.eq, Per.row, Per.of]
            simp [execOp, Act.eval, hdd, relyUpon, go_sem, Grow.refl]
          · rw [if_pos (by simp only [Region.wanted]; rw [yielded_of (d := 50) (b := false) rfl (by simp only [hdd])]; rfl)]
            try simp only [perAt, List.getD_cons_zero, List.getD_cons_succ, Per.eq, Per.row, Per.of]
            have hs9 := hfr 9 (by kernel_rfl)
            simp only [Array.getD_eq_getD_getElem?] at hs9
            simp [execOp, Act.eval, hdd, hs9, relyUpon, go_sem, Grow.refl]
          · rw [if_pos (by simp only [Region.wanted]; rw [yielded_of (d := 50) (b := false) rfl (by simp only [hdd])]; rfl)]
            try simp only [perAt, List.getD_cons_zero, List.getD_cons_succ, Per.eq, Per.row, Per.of]
            simp [execOp, Act.eval, hdd, relyUpon, go_sem, Grow.refl, HZ.out]
          · rw [if_pos (by simp only [Region.wanted]; rw [yielded_of (d := 50) (b := false) rfl (by simp only [hdd])]; rfl)]
            try simp only [perAt, List.getD_cons_zero, List.getD_cons_succ, Per.eq, Per.row, Per.of]
            simp [execOp, Act.eval, hdd, relyUpon, go_sem, Grow.refl]
          · rw [if_pos (by simp only [Region.wanted]; rw [yielded_of (d := 53) (b := true) rfl (by simp only [hdd])]; rfl)]
            try simp only [perAt, List.getD_cons_zero, List.getD_cons_succ, Per.eq, Per.row, Per.of]
            have hs7 := hfr 7 (by kernel_rfl)
            simp only [Array.getD_eq_getD_getElem?] at hs7
            simp [execOp, Act.eval, hdd, hs7, relyUpon, go_sem, Grow.refl]
          · rw [if_pos (by simp only [Region.wanted]; rw [yielded_of (d := 53) (b := true) rfl (by simp only [hdd])]; rfl)]
            try simp only [perAt, List.getD_cons_zero, List.getD_cons_succ, Per.eq, Per.row, Per.of]
            have hs9 := hfr 9 (by kernel_rfl)
            simp only [Array.getD_eq_getD_getElem?] at hs9
            simp [execOp, Act.eval, hdd, hs9, relyUpon, go_sem, Grow.refl]
          · rw [if_pos (by simp only [Region.wanted]; rw [yielded_of (d := 53) (b := true) rfl (by simp only [hdd])]; rfl)]
            try simp only [perAt, List.getD_cons_zero, List.getD_cons_succ, Per.eq, Per.row, Per.of]
            simp [execOp, Act.eval, hdd, relyUpon, go_sem, Grow.refl, k4]
          · rw [if_pos (by simp only [Region.wanted]; rw [yielded_of (d := 53) (b := true) rfl (by simp only [hdd])]; rfl)]
            try simp only [perAt, List.getD_cons_zero, List.getD_cons_succ, Per.eq, Per.row, Per.of]
            simp [execOp, Act.eval, hdd, relyUpon, go_sem, Grow.refl, k5, k6]
          · rw [if_pos (by simp only [Region.wanted]; rw [yielded_of (d := 53) (b := true) rfl (by simp only [hdd])]; rfl)]
            try simp only [perAt, List.getD_cons_zero, List.getD_cons_succ, Per.eq, Per.row, Per.of]
            simp [execOp, Act.eval, hdd, relyUpon, go_sem, Grow.refl]
          · rw [if_pos (by simp only [Region.wanted]; rw [yielded_of (d := 53) (b := true) rfl (by simp only [hdd])]; rfl)]
            try simp only [perAt, List.getD_cons_zero, List.getD_cons_succ, Per.eq, Per.row, Per.of]
            have kc := hg.cells
            simp [execOp, Act.eval, hdd, relyUpon, go_sem, Grow.refl, kc, p0, p1, a0, a1, hgl, hl4, u1]
          · rw [if_pos (by simp only [Region.wanted]; rw [yielded_of (d := 53) (b := true) rfl (by simp only [hdd])]; rfl)]
            try simp only [perAt, List.getD_cons_zero, List.getD_cons_succ, Per.eq, Per.row, Per.of]
            have hs7 := hfr 7 (by kernel_rfl)
            simp only [Array.getD_eq_getD_getElem?] at hs7
            simp [execOp, Act.eval, hdd, hs7, relyUpon, go_sem, Grow.refl]
          · rw [if_pos (by simp only [Region.wanted]; rw [yielded_of (d := 53) (b := true) rfl (by simp only [hdd])]; rfl)]
            try simp only [perAt, List.getD_cons_zero, List.getD_cons_succ, Per.eq, Per.row, Per.of]
            have hs9 := hfr 9 (by kernel_rfl)
            simp only [Array.getD_eq_getD_getElem?] at hs9
            simp [execOp, Act.eval, hdd, hs9, relyUpon, go_sem, Grow.refl]
          · rw [if_pos (by simp only [Region.wanted]; rw [yielded_of (d := 53) (b := true) rfl (by simp only [hdd])]; rfl)]
            try simp only [perAt, List.getD_cons_zero, List.getD_cons_succ, Per.eq, Per.row, Per.of]
            simp [execOp, Act.eval, hdd, relyUpon, go_sem, Grow.refl, hj0, hj1]
          · rw [if_pos (by simp only [Region.wanted]; rw [yielded_of (d := 53) (b := true) rfl (by simp only [hdd])]; rfl)]
            try simp only [perAt, List.getD_cons_zero, List.getD_cons_succ, Per.eq, Per.row, Per.of]
            simp [execOp, Act.eval, hdd, relyUpon, go_sem, Grow.refl]
          · rw [if_pos (by simp only [Region.wanted]; rw [yielded_of (d := 53) (b := true) rfl (by simp only [hdd])]; rfl)]
            try simp only [perAt, List.getD_cons_zero, List.getD_cons_succ, Per.eq, Per.row, Per.of]
            have kc := hg.cells
            simp [execOp, Act.eval, hdd, relyUpon, go_sem, Grow.refl, kc, p0, p1, a0, a1, hgl, hl4, u1]
          · rw [if_pos (by simp only [Region.wanted]; rw [yielded_of (d := 53) (b := true) rfl (by simp only [hdd])]; rfl)]
            try simp only [perAt, List.getD_cons_zero, List.getD_cons_succ, Per.eq, Per.row, Per.of]
            simp [execOp, Act.eval, hdd, relyUpon, go_sem, Grow.refl, k3]
          · rw [if_pos (by simp only [Region.wanted]; rw [yielded_of (d := 53) (b := true) rfl (by simp only [hdd])]; rfl)]
            try simp only [perAt, List.getD_cons_zero, List.getD_cons_succ, Per.eq, Per.row, Per.of]
            simp [execOp, Act.eval, hdd, relyUpon, go_sem, Grow.refl, k2]
          · rw [if_pos (by simp only [Region.wanted]; rw [yielded_of (d := 50) (b := false) rfl (by simp only [hdd])]; rfl)]
            try simp only [perAt, List.getD_cons_zero, List.getD_cons_succ, Per.eq, Per.row, Per.of]
            simp [execOp, Act.eval, hdd, relyUpon, go_sem, Grow.refl]
          · rw [if_pos (by rfl)]
            try simp only [perAt, List.getD_cons_zero, List.getD_cons_succ, Per.eq, Per.row, Per.of]
            simp [execOp, Act.eval, hdd, relyUpon, go_sem, Grow.refl]
        intro wz hgz
        simp only [relyEnd, List.headD_cons, List.tail_cons, Per.eq, Per.row, Per.of]
        rintro _ rfl _ rfl _ rfl _ rfl _ rfl _ rfl _ rfl _ rfl _ rfl _ rfl _ rfl _ rfl _ rfl _ rfl _ rfl _ rfl _ rfl _ rfl _ rfl _ rfl _ rfl _ rfl _ rfl _ _ _ rfl _ rfl _ rfl _ rfl _ rfl _ rfl _ rfl _ rfl _ rfl _ rfl _ rfl _ rfl _ rfl _ rfl _ rfl _ rfl _ rfl _ rfl _ rfl _ rfl _ rfl _ rfl
        go_simp
        have hg6 := Grow.trans hg hgz
        replace a0 := hgz.cell a0
        replace a1 := hgz.cell a1
        clear hgz p0 p1 k1 HRM1
        cases bb
        · by_cases c1 : x1 ≤ t
          · by_cases c2 : t ≤ x2
            · go_wp2_with fail
              refine ⟨⟨j + 1, by omega, by push_cast; rfl, by rw [HST1.out]; simp [c1, c2], hg6⟩, ?_⟩
              simp [intOf]
              omega
            · go_wp2_with fail
              refine ⟨⟨j + 1, by omega, by push_cast; rfl, by rw [HST1.out]; have : decide (t ≤ x2) = false := decide_eq_false (by omega); simp [this], hg6⟩, ?_⟩
              simp [intOf]
              omega
          · go_wp2_with fail
            refine ⟨⟨j + 1, by omega, by push_cast; rfl, by rw [HST1.out]; have : decide (x1 ≤ t) = false := decide_eq_false (by omega); simp [this], hg6⟩, ?_⟩
            simp [intOf]
            omega
        · go_wp2_with fail
          refine ⟨⟨j + 1, by omega, by push_cast; rfl, by rw [HST1.out]; simp, hg6⟩, ?_⟩
          simp [intOf]
          omega
    · obtain rfl : j = K := by omega
      rw [← HTK.out]
      have hfr := HFR.out
      have HMT := hid (fun (w' : World) (g : Grow wr w') => HRM.out w' (Grow.trans G3.out (Grow.trans hg g)) t t)
      by_cases hfree : metL L t t = []
      · have hb : inB t G = true := hfr.1 hfree
        rw [hb]
        rw [hfree] at HMT
        clear hfr hfree hb
        go_wp2_with fail
        refine (HMT.out _ (Grow.refl _)).mono ?_
        rintro e w5 ⟨B5, c5, rfl, -, g5⟩
        rw [show ([] : List It).length = 0 from rfl]
        go_wp2_with fail
        refine (HW.out _).mono ?_
        rintro e w6 ⟨rfl, g6⟩
        go_wp2_with fail
        go_ret
        exact ⟨rfl, Below.trans HT.out.below (Below.mono (Grow.trans G3.out (Grow.trans hg (Grow.trans g5 g6))) HT.out.below.size)⟩
      · have hb : inB t G = false := by
          cases h : inB t G with
          | false => rfl
          | true => exact absurd (hfr.2 h) hfree
        rw [hb]
        have hpos : 0 < (metL L t t).length := List.length_pos_iff.2 hfree
        generalize (metL L t t).length = q at *
        clear hfr hfree hb
        have hq : ((q : Int) == 0) = false := by simp; omega
        go_wp2_with fail
        refine (HMT.out _ (Grow.refl _)).mono ?_
        rintro e w5 ⟨B5, c5, rfl, -, g5⟩
        go_wp2_with fail
        refine (HW.out _).mono ?_
        rintro e w6 ⟨rfl, g6⟩
        go_wp2_with fail
        go_ret
        exact ⟨rfl, Below.trans HT.out.below (Below.mono (Grow.trans G3.out (Grow.trans hg (Grow.trans g5 g6))) HT.out.below.size)⟩
namespace LawIntervalWide
open Go.ChangeShapes Go.WideShapes Go.ChangeAt Go.RowKit
open Go.ChangeMaps (open_string shut_string)
theorem own : ownKnob Try.prog.godebug = none := by kernel_rfl
theorem laidOut : laidOutB Try.prog = true := by kernel_rfl
set_option maxRecDepth 100000 in
theorem lifted (os : Os) (started : os.Started) (H : Type) (enc : TypeId × Value → H) :
    ReturnsInHanded {} Try.checked os 4 .any (Rows.intervalWideSpec.pre6 enc Try.prog Try.f4 Rows.intervalWideRow.domain false) (Rows.intervalWideSpec.post enc Try.prog Try.f4 false true false false) := by
  refine returnsInHanded_of_change_sized (C := Try.checked) own started (by kernel_rfl) Try.func4
    (ChangeSpec.witness6 (enc := enc) (C := Try.checked) false ⟨#[], #[.slice none 0 0, .int .i64 0], []⟩ 8 (by kernel_rfl) (by kernel_rfl) (by kernel_rfl) (by kernel_rfl)) ?_
  intro W base args ds gs before hval0 hW hcnd hsz _
  have hval : ∀ (j : Nat) t v, Try.f4.params[j]? = some t → args[j]? = some v → Value.okWide Try.prog W .any base t v := hval0
  have hW' := hW
  obtain ⟨p, q, hA0, hV, rfl, hfz, hnd⟩ := hW
  have hA : DataW.TrodAll enc Try.prog W 0 (fun _ => true) true Try.f4.params.toList args.toList ds p := hA0
  rw [Try.params4] at hA hval hsz
  obtain ⟨v0, vs0, d0, ds0, p0, q0, hargs, rfl, rfl, h0, r0⟩ := trodAll_cons hA
  obtain ⟨v1, vs1, d1, ds1, p1, q1, rfl, rfl, rfl, h1, r1⟩ := trodAll_cons r0
  obtain ⟨rfl, rfl, rfl⟩ := trodAll_nil r1
  obtain rfl : args = #[v0, v1] := by cases args; simp_all
  obtain ⟨rfl, rfl⟩ := trodVars_none hV
  obtain ⟨a0, n0, c0, rfl⟩ := okWide_slice Try.underlying22 (hval 0 22 v0 rfl rfl)
  have k0 := h0
  have lt0 : ∀ x ∈ p0, x.block < W.heap.size := by obtain ⟨m, hm⟩ := k0; exact DataW.trod_lt m _ _ _ hm
  obtain ⟨z0, w0⟩ : ∃ l, Acts W (.slice a0 n0 c0) l := by
    obtain ⟨fuel, hf⟩ := h0
    obtain ⟨l, v, hcs, hl⟩ := open_acts hf (fun elems sp hx => by
      simp only at hx
      subst hx
      have hre := sized_slice hsz (j := 0) (t := 22) rfl rfl Try.underlying22
      have hby : Try.checked.prog.bytesOf 63 = 48 := by kernel_rfl
      rw [hby] at hre
      simp only [reachBytes] at hre
      omega)
    simp [Value.cells] at hcs
    subst hcs
    exact ⟨l, hl⟩
  obtain ⟨a1, rfl, rfl, rfl, w1⟩ := open_int Try.underlying3 (hval 1 3 v1 rfl rfl) h1
  have b1 := wf_i64 w1
  clear hA0 hval0
  refine (IntervalWide_walk z0 (.slice a0 n0 c0) a1 W w0 b1.1 b1.2).mono fun e W' ⟨he, bel⟩ => ?_
  subst he
  exact ⟨_, rfl, _, _, _, [], _, [], hW', trodAll_mk1 (shut_bool Try.underlying4 _), (trodAll_cons_mk (Below.trod laidOut (by kernel_rfl) (of_decide_eq_true (by kernel_rfl)) k0 bel lt0) (trodAll_cons_mk (shut_int Try.underlying3 w1) trodAll_mk0)), rfl, bel.frame _, fun h => by cases h⟩
theorem over : Rows.intervalWideRow.holds Try.pinned (OpenSpec.ofChange Rows.intervalWideSpec) :=
  OpenClaim.holds_of_wide 4 Try.f4 rfl rfl rfl rfl rfl rfl rfl ⟨rfl, rfl, rfl, rfl, rfl⟩ rfl rfl rfl rfl rfl (by kernel_rfl) Try.func4 (by kernel_rfl)
    (of_decide_eq_true (by kernel_rfl)) (by unfold Func.isWrapper; first | (rw [if_pos (by decide +kernel)]; kernel_rfl) | (rw [if_neg (by decide +kernel)]; exact ⟨rfl, rfl⟩))
    (fun os started H enc _ => lifted os started H enc)
end LawIntervalWide
/-- The given statement. -/
theorem intervalWide_proved : Rows.IntervalWideSaid := LawIntervalWide.over
#print axioms intervalWide_proved
end Go.Proofs.Ythmbnffddpnehaa
