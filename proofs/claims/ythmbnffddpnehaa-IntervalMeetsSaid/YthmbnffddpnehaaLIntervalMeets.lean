/- Which intervals a span, and a time, meet, as many as are asked for. -/
import Derived.Test.YthmbnffddpnehaaIMeets
namespace Go.Proofs.Ythmbnffddpnehaa
open Go.RowKit Go.Joins Go.ChangeShapes Go.WideShapes Go.Deep Go.WideElems Go.Maps
set_option linter.unusedVariables false
set_option linter.unusedSimpArgs false
set_option maxRecDepth 100000 in
set_option maxHeartbeats 8000000 in
theorem IntervalMeets_walk (l : List ActR) (v : Value) (f t most : Int) (w : World) (ha : Acts w v l) (hf : -9223372036854775808 ≤ f) (hf' : f ≤ 9223372036854775807) (ht : -9223372036854775808 ≤ t) (ht' : t ≤ 9223372036854775807) (h3 : -9223372036854775808 ≤ most) (h3' : most ≤ 9223372036854775807) :
    Calls Try.prog 5 #[v, .int .i64 f, .int .i64 t, .int .i64 most] w fun e w' => e = .returned (.bool true) ∧ Below w.heap.size w w' := by
  have hS := fillS_100 l
  have g0 := Grow.alloc w (.cells #[.int .i64 f] 3)
  have r0 := heap_new w (.cells #[.int .i64 f] 3)
  have HF := hid (filled_c v l (w.alloc (.cells #[.int .i64 f] 3)) (by
    obtain ⟨p, cap, e, k1, k2, k3⟩ := ha
    exact ⟨p, cap, e, k1, k2, fun h0 => by
      obtain ⟨b, off, e2, k4⟩ := k3 h0
      exact ⟨b, off, e2, fun i hi => ⟨g0.cell (k4 i hi).1, g0.cell (k4 i hi).2.1, g0.cell (k4 i hi).2.2.1, g0.cell (k4 i hi).2.2.2.1, g0.cell (k4 i hi).2.2.2.2⟩⟩⟩))
  obtain ⟨A, c, rfl, -, -, -⟩ := ha
  generalize l.length = n at *
  generalize fillS (l.take 100) = S at *
  obtain ⟨L, nx⟩ := S
  dsimp only at hS HF
  have hsz0 : (w.alloc (.cells #[.int .i64 f] 3)).heap.size = w.heap.size + 1 := by simp
  have HW := hid (fun w => awake_c w)
  go_enter Try.func5, Try.ntmps5
  go_wp2_with fail
  generalize w.alloc (.cells #[.int .i64 f] 3) = w0 at *
  refine HF.out.mono ?_
  rintro e w1 ⟨p, v', rfl, hB, hT⟩
  obtain ⟨⟨N2, T, mb, hix, -⟩, hro⟩ := hB
  dsimp only at hix hro
  have HRM := hid (fun (w' : World) (g : Grow w1 w') (a b : Int) => RMeet_c nx v' L a b w' (hro.grow g))
  have HROX := hid (show ∀ w' : World, (∀ k o, w1.heap[k]? = some o → True → w'.heap[k]? = some o) → ROwn w' v' L from fun w' h => by
    obtain ⟨⟨b, h1, h2⟩, hl⟩ := hro
    refine ⟨⟨b, h1, ?_⟩, hl⟩
    rcases h2 with h2 | ⟨g, cap, cur, k1, k2, k3, k4⟩
    · exact .inl h2
    · exact .inr ⟨g, cap, cur, k1, k2, h _ _ k3 trivial, k4⟩)
  obtain ⟨A1, c1, hv', -, -, -⟩ := hro.items
  subst hv'
  have HT := hid hT
  have HIX := hid hix
  have HMA := hid (fun (w' : World) (g : Grow w1 w') (m : Int) (h1 : 0 ≤ m) (h2 : m ≤ 10000) => metAny_c (some ⟨p, 0, none⟩) T f t m w' (hix.grow g).ptr (by rw [hix.items]; exact hix.rises) h1 h2)
  rw [hix.items] at HMA
  have HWA := hid (show Tr.walkT f f T = metL L f f from by
    have := metT_eq (T := T) (f := f) (t := f) (by rw [hix.items]; exact hix.rises)
    rw [hix.items] at this
    unfold metT at this
    rwa [if_pos (Int.le_refl f)] at this)
  have HWB := hid (show Tr.walkT (-9223372036854775808) 9223372036854775807 T = L from by
    have := metT_eq (T := T) (f := -9223372036854775808) (t := 9223372036854775807) (by rw [hix.items]; exact hix.rises)
    rw [hix.items, metL_all hix.fits] at this
    unfold metT at this
    rwa [if_pos (by omega)] at this)
  have HPT := hid (show w1.cell? ⟨p, 0, none⟩ = some T.ptr from by rw [heap_cell hix.box]; rfl)
  have HTR := hid hix.tree
  have r1 := (hT.below.block w.heap.size (by omega)).trans r0
  have hML : (metL L f t).length ≤ 100 := by
    unfold metL
    split
    · exact Nat.le_trans (List.length_filter_le _ _) hS.2
    · simp
  have hMF := hid (show (metL L f f).length ≤ 100 from by
    unfold metL
    split
    · exact Nat.le_trans (List.length_filter_le _ _) hS.2
    · simp)
  have HBA := hid (show Below w.heap.size w w1 from Below.trans g0 (Below.mono hT.below (by omega)))
  clear HF hT hix hro g0 r0
  have hnl := hS.2
  have HLL := hid (show ∃ k, k = L.length ∧ k ≤ 100 from ⟨_, rfl, hnl⟩)
  obtain ⟨nl, hnle, hnl2⟩ := HLL.out
  have HNL := hid hnle
  rw [← hnle]
  clear hnle HLL hnl hS
  have g2 := Grow.alloc w1 (.cells #[.slice A1 nl c1, .int .i64 nx] 26)
  have r2 := heap_new w1 (.cells #[.slice A1 nl c1, .int .i64 nx] 26)
  replace r1 := g2.heap r1
  rw [← HNL.out] at HRM HROX
  have hlw1 := HBA.out.size
  have hlr1 := heap_lt r2
  have q0 : (w1.alloc (.cells #[.slice A1 nl c1, .int .i64 nx] 26)).cell? ⟨w.heap.size, 0, none⟩ = some (.int .i64 f) := by rw [heap_cell r1]; rfl
  have q1 : (w1.alloc (.cells #[.slice A1 nl c1, .int .i64 nx] 26)).cell? ⟨w1.heap.size, 0, none⟩ = some (.slice A1 nl c1) := by rw [heap_cell r2]; rfl
  have q2 : (w1.alloc (.cells #[.slice A1 nl c1, .int .i64 nx] 26)).cell? ⟨w1.heap.size, 1, none⟩ = some (.int .i64 nx) := by rw [heap_cell r2]; rfl
  have hl1 := heap_lt r1
  have R1 := hid r1
  have R2 := hid r2
  have G2 := hid g2
  clear r1 r2 g2
  go_wp2_with fail
  generalize w1.alloc (.cells #[.slice A1 nl c1, .int .i64 nx] 26) = w2 at *
  generalize hrbe : w1.heap.size = rb at *
  have HRBE := hid hrbe
  clear hrbe
  refine (HRM.out _ G2.out f t).mono ?_
  rintro e w3 ⟨B, c3, rfl, hro3, g3⟩
  replace q0 := g3.cell q0
  replace q1 := g3.cell q1
  replace q2 := g3.cell q2
  have G3 := hid (Grow.trans G2.out g3)
  replace R1 := hid (g3.heap R1.out)
  replace R2 := hid (g3.heap R2.out)
  replace hl1 := heap_lt R1.out
  replace hlr1 := heap_lt R2.out
  have hri := hro3.items
  obtain ⟨B', c3', e9, hl3, hlc, hsc⟩ := hri
  cases e9
  have HRI := hid (show RIts w3 (.slice B (metL L f t).length c3) (metL L f t) from ⟨B, c3, rfl, hl3, hlc, hsc⟩)
  clear hro3 g3 G2
  generalize metL L f t = M at *
  by_cases hm : 0 ≤ most ∧ most < (M.length : Int)
  · obtain ⟨m, rfl⟩ : ∃ m : Nat, most = m := ⟨most.toNat, by omega⟩
    obtain ⟨gB, rfl, -⟩ := hsc (by omega)
    obtain ⟨hm1, hm2⟩ := hm
    have hmk : m ≤ M.length := by omega
    have HSQ := hid (HRI.out.take m hmk)
    have HTK := hid (show (m : Int).toNat = m from by simp)
    clear hsc
    obtain ⟨K, hK⟩ : ∃ K, M.length = K := ⟨_, rfl⟩
    rw [hK] at hm2 hmk hlc hl3 hML ⊢
    clear hK
    go_wp2_with fail
    refine (HMA.out w3 G3.out (m : Int) (by omega) (by omega)).mono ?_
    rintro e w4 ⟨lv4, rfl, hs4, g4⟩
    rw [HTK.out] at hs4
    have HS4 := hid hs4
    have HS5 := hid (HSQ.out.grow g4)
    obtain ⟨A4, c4, rfl, -, -, -⟩ := hs4
    have G4 := hid (Grow.trans G3.out g4)
    replace q0 := g4.cell q0
    replace q1 := g4.cell q1
    replace q2 := g4.cell q2
    replace R1 := hid (g4.heap R1.out)
    replace R2 := hid (g4.heap R2.out)
    replace hl1 := heap_lt R1.out
    replace hlr1 := heap_lt R2.out
    clear g4
    generalize M.take m = M2 at *
    generalize M2.length = gl at *
    go_wp2_with fail
    refine (items_c M2 _ _ w4 HS4.out HS5.out).mono ?_
    rintro e w5 ⟨rfl, g5⟩
    have G5 := hid (Grow.trans G4.out g5)
    replace q0 := g5.cell q0
    replace q1 := g5.cell q1
    replace q2 := g5.cell q2
    replace R1 := hid (g5.heap R1.out)
    replace R2 := hid (g5.heap R2.out)
    replace hl1 := heap_lt R1.out
    replace hlr1 := heap_lt R2.out
    clear g5 HMA HS4 HS5 HRI
    have a1 := heap_alloc_keep (heap_new w5 (.cells #[.int .i64 0] 3)) (.cells #[.bool true] 4)
    have a2 := heap_newAt (n := w5.heap.size + 1) (w5.alloc (.cells #[.int .i64 0] 3)) (.cells #[.bool true] 4) (by simp)
    have ag := Grow.trans (Grow.alloc w5 (.cells #[.int .i64 0] 3)) (Grow.alloc _ (.cells #[.bool true] 4))
    have asz : ((w5.alloc (.cells #[.int .i64 0] 3)).alloc (.cells #[.bool true] 4)).heap.size = w5.heap.size + 2 := by simp
    go_wp2_with fail
    generalize (w5.alloc (.cells #[.int .i64 0] 3)).alloc (.cells #[.bool true] 4) = w6 at *
    have G6 := hid (Grow.trans G5.out ag)
    replace q0 := ag.cell q0
    replace q1 := ag.cell q1
    replace q2 := ag.cell q2
    replace R1 := hid (ag.heap R1.out)
    replace R2 := hid (ag.heap R2.out)
    generalize hnbe : w5.heap.size = nb at *
    have A1' := hid a1
    have A2' := hid a2
    clear a1 a2 ag
    refine (At_c (some ⟨p, 0, none⟩) f w6).mono ?_
    rintro e w7 ⟨rfl, hw7⟩
    have hbx := Boxes.made w6 (some ⟨p, 0, none⟩) f f
    have g7 := Grow.trans (Grow.trans (Grow.alloc w6 (.cells #[.pointer (some ⟨p, 0, none⟩)] 23)) (Grow.alloc _ (.cells #[.int .i64 f] 3))) (Grow.alloc _ (.cells #[.int .i64 f] 3))
    have s7 : w7.heap.size = w6.heap.size + 3 := by rw [hw7]; simp
    rw [← hw7] at hbx g7
    clear hw7
    have HBX := hid hbx
    have G7 := hid g7
    clear hbx g7
    generalize w6.heap.size = z6 at *
    have ASZ := hid asz
    clear asz
    go_wp2_with fail
    refine (All_c (some ⟨p, 0, none⟩) w7).mono ?_
    rintro e w8 ⟨rfl, hw8⟩
    have hbx := Boxes.made w7 (some ⟨p, 0, none⟩) (-9223372036854775808) 9223372036854775807
    have g8 := Grow.trans (Grow.trans (Grow.alloc w7 (.cells #[.pointer (some ⟨p, 0, none⟩)] 23)) (Grow.alloc _ (.cells #[.int .i64 (-9223372036854775808)] 3))) (Grow.alloc _ (.cells #[.int .i64 9223372036854775807] 3))
    have s8 : w8.heap.size = w7.heap.size + 3 := by rw [hw8]; simp
    rw [← hw8] at hbx g8
    clear hw8
    have HBX8 := hid hbx
    have G8 := hid (Grow.trans G7.out g8)
    have HBX7 := hid (HBX.out.grow g8)
    clear hbx g8
    have hqf : ∀ (w : World) (g : Fn) bt bs, (binOp .eql 42 (.func g bt bs) .nilFunc).run Try.prog w = .ok (.bool false) w := fun w g bt bs => run_eql_func_nil w _ _ _ _ g bt bs Try.underlying42
    have S8 := hid (show w8.heap.size = z6 + 6 by omega)
    rw [s7] at HBX8 ⊢
    clear s7 s8
    have ix8 := HTR.out.kept (w' := w8) fun b hb => (Grow.trans G6.out G8.out).block b (HTR.out.lt b hb)
    have HQA := hid (Meet1A_c nb (nb + 1) w.heap.size (fun s x => cntStep s f x) (fun _ => True) (CntJ w8 nb (nb + 1)) p f f z6 (z6 + 1) (z6 + 2) T (0, true) w8 HBX7.out ((Grow.trans G6.out G8.out).cell HPT.out) trivial ⟨G8.out.heap A1'.out, G8.out.heap A2'.out, Oth.refl _ _ _⟩ (cnt_yield T w8 nb (nb + 1) w.heap.size f 0 true ix8 (G8.out.heap A1'.out) (G8.out.heap A2'.out) (G8.out.heap R1.out) (by omega) (by omega) (by omega)) (Int.le_refl f))
    rw [HWA.out, feed_cnt f _ 0 true (by omega) (by have := hMF.out; omega) (fun x hx => (met_mem hx).2)] at HQA
    go_wp2_with fail
    refine HQA.out.mono ?_
    rintro e w9 ⟨⟨u9, rfl⟩, b1, b2, b3⟩
    dsimp only at b1 b2
    rw [Int.zero_add] at b1
    have B1 := hid b1
    have B2 := hid b2
    have B3 := hid b3
    clear b1 b2 b3 HQA ix8
    go_wp2_with fail
    have e1 := heap_new w9 (.cells #[.int .i64 0] 3)
    have eg := Grow.alloc w9 (.cells #[.int .i64 0] 3)
    have esz : w9.heap.size < (w9.alloc (.cells #[.int .i64 0] 3)).heap.size := by simp
    generalize w9.alloc (.cells #[.int .i64 0] 3) = w10 at *
    have E1 := hid e1
    have EG := hid eg
    clear e1 eg
    have hs9 := B3.out.size
    have asz' := ASZ.out
    have s8' := S8.out
    have HBXx := hid (show Boxes w10 (z6 + 3) (z6 + 3 + 1) (z6 + 3 + 2) (some ⟨p, 0, none⟩) (-9223372036854775808) 9223372036854775807 from ⟨EG.out.heap (B3.out.heap HBX8.out.x (by omega) (by omega)), EG.out.heap (B3.out.heap HBX8.out.f (by omega) (by omega)), EG.out.heap (B3.out.heap HBX8.out.t (by omega) (by omega))⟩)
    have ho10 := hid (B3.out.trans (Oth.grow EG.out))
    have it10 : T.In w10 := ho10.out.tree (HTR.out.kept (w' := w8) fun b hb => (Grow.trans G6.out G8.out).block b (HTR.out.lt b hb)) (G8.out.heap A1'.out) (G8.out.heap A2'.out) (by decide) (by decide)
    have pt10 : w10.cell? ⟨p, 0, none⟩ = some T.ptr := by rw [heap_cell (ho10.out.heap ((Grow.trans G6.out G8.out).heap HIX.out.box) (by have := heap_lt HIX.out.box; have := HRBE.out; omega) (by have := heap_lt HIX.out.box; have := HRBE.out; omega))]; rfl
    have HQB := hid (Meet1B_c w9.heap.size allStep (fun _ => True) (AllJ w10 w9.heap.size) p (-9223372036854775808) 9223372036854775807 (z6 + 3) (z6 + 3 + 1) (z6 + 3 + 2) T 0 w10 HBXx.out pt10 trivial ⟨E1.out, Oth.refl _ _ _⟩ (all_yield T w10 w9.heap.size 0 it10 E1.out) (by omega))
    rw [HWB.out, feed_all L 0 (by omega) (by have := HNL.out; omega), ← HNL.out] at HQB
    clear it10 pt10
    generalize w9.heap.size = zb at *
    clear asz' s8'
    go_wp2_with fail
    refine HQB.out.mono ?_
    rintro e w11 ⟨⟨u11, rfl⟩, d1, d2⟩
    rw [Int.zero_add] at d1
    clear HQB
    have asz' := ASZ.out
    have s8' := S8.out
    have hR1 := d2.heap (ho10.out.heap (G8.out.heap R1.out) (by omega) (by omega)) (by omega) (by omega)
    have hR2 := d2.heap (ho10.out.heap (G8.out.heap R2.out) (by omega) (by omega)) (by omega) (by omega)
    have hN := d2.heap (EG.out.heap B1.out) (by omega) (by omega)
    have hG := d2.heap (EG.out.heap B2.out) (by omega) (by omega)
    have y0 : w11.cell? ⟨w.heap.size, 0, none⟩ = some (.int .i64 f) := by rw [heap_cell hR1]; rfl
    have y1 : w11.cell? ⟨rb, 0, none⟩ = some (.slice A1 nl c1) := by rw [heap_cell hR2]; rfl
    have y2 : w11.cell? ⟨rb, 1, none⟩ = some (.int .i64 nx) := by rw [heap_cell hR2]; rfl
    have y3 : w11.cell? ⟨nb, 0, none⟩ = some (.int .i64 ((metL L f f).length : Int)) := by rw [heap_cell hN]; rfl
    have y4 : w11.cell? ⟨nb + 1, 0, none⟩ = some (.bool true) := by rw [heap_cell hG]; rfl
    have y5 : w11.cell? ⟨zb, 0, none⟩ = some (.int .i64 (nl : Int)) := by rw [heap_cell d1]; rfl
    have z0 := heap_lt hR1
    have z1 := heap_lt hR2
    have z2 := heap_lt hN
    have z3 := heap_lt hG
    have z4 := heap_lt d1
    have HRM2 := hid (show ∀ w', Grow w11 w' → Calls Try.prog 14 #[.agg #[.slice A1 nl c1, .int .i64 nx], .int .i64 f, .int .i64 f] w' fun e w'' => (∃ B c, e = .returned (.slice B (metL L f f).length c)) ∧ Grow w' w'' from fun w' g => by
      have hro11 : ROwn w' (.slice A1 nl c1) L := HROX.out w' (fun k o hk h => g.heap (d2.heap (ho10.out.heap ((Grow.trans G6.out G8.out).heap hk) (by have := heap_lt hk; have := HRBE.out; omega) (by have := heap_lt hk; have := HRBE.out; omega)) (by have := heap_lt hk; have := HRBE.out; have := (Grow.trans G6.out G8.out).size; omega) (by have := heap_lt hk; have := HRBE.out; have := (Grow.trans G6.out G8.out).size; omega)))
      refine (RMeet_c nx _ L f f w' hro11).mono ?_
      rintro e w'' ⟨B5, c5, rfl, -, g5⟩
      exact ⟨⟨B5, c5, rfl⟩, g5⟩)
    generalize (metL L f f).length = K at *
    have HBB := hid (show Below w.heap.size w w11 from Below.trans HBA.out ((Below.trans (Below.trans ((Grow.trans G6.out G8.out).below HBA.out.size) (ho10.out.below (by omega) (by omega) (by omega))) (d2.below (by omega) (by omega) (by omega)))))
    clear d1 d2 hR1 hR2 hN hG q0 q1 q2 asz' s8'
    go_wp2_with fail
    refine wp_rely [.eq (.bool true), .eq (.bool true), .eq (.int .i64 (K : Int)), .eq (.agg #[.slice A1 nl c1, .int .i64 nx]), .eq (.int .i64 f), .eq (.int .i64 f), (⟨fun v w => ∃ B c, v = .slice B K c, fun _ _ _ h g => h⟩ : Per), .eq (.int .i64 (K : Int)), .eq (.bool true), .eq (.bool true), .eq (.bool true), .eq (.int .i64 (nl : Int)), .eq (.pointer (some ⟨rb, 0, none⟩)), .eq (.slice A1 nl c1), .eq (.int .i64 (nl : Int)), .eq (.bool true), .eq (.bool true), .eq (.bool true), .eq (.bool true), .eq (.bool true), .eq (.bool true)] (by kernel_rfl) (by kernel_rfl) (by kernel_rfl) ?_ ?_
    · simp only [relyGoals]
      refine ⟨?_, ?_, ?_, ?_, ?_, ?_, ?_, ?_, ?_, ?_, ?_, ?_, ?_, ?_, ?_, ?_, ?_, ?_, ?_, ?_, ?_, trivial⟩
      all_goals intro t w' hsz hg hdd hfr
      all_goals simp only [depsDid, Did, perAt, List.getElem?_cons_zero, List.getElem?_cons_succ, List.getD_cons_zero, List.getD_cons_succ, Per.eq, Per.row, Per.of, and_true, Array.getD_eq_getD_getElem?] at hdd
      · rw [if_pos (by rfl)]
        try simp only [perAt, List.getD_cons_zero, List.getD_cons_succ, Per.eq, Per.row, Per.of]
        have hs13 := hfr 13 (by kernel_rfl)
        simp only [Array.getD_eq_getD_getElem?] at hs13
        have kc := hg.cells
        simp [execOp, Act.eval, hdd, hs13, relyUpon, go_sem, Grow.refl, kc, y0, y1, y2, y3, y4, y5, z0, z1, z2, z3, z4]
      · rw [if_pos (by rfl)]
        try simp only [perAt, List.getD_cons_zero, List.getD_cons_succ, Per.eq, Per.row, Per.of]
        simp [execOp, Act.eval, hdd, relyUpon, go_sem, Grow.refl]
      · rw [if_pos (by simp only [Region.wanted]; rw [yielded_of (d := 63) (b := true) rfl (by simp only [hdd])]; rfl)]
        try simp only [perAt, List.getD_cons_zero, List.getD_cons_succ, Per.eq, Per.row, Per.of]
        have hs12 := hfr 12 (by kernel_rfl)
        simp only [Array.getD_eq_getD_getElem?] at hs12
        have kc := hg.cells
        simp [execOp, Act.eval, hdd, hs12, relyUpon, go_sem, Grow.refl, kc, y0, y1, y2, y3, y4, y5, z0, z1, z2, z3, z4]
      · rw [if_pos (by simp only [Region.wanted]; rw [yielded_of (d := 63) (b := true) rfl (by simp only [hdd])]; rfl)]
        try simp only [perAt, List.getD_cons_zero, List.getD_cons_succ, Per.eq, Per.row, Per.of]
        have hs10 := hfr 10 (by kernel_rfl)
        simp only [Array.getD_eq_getD_getElem?] at hs10
        have kc := hg.cells
        simp [execOp, Act.eval, hdd, hs10, relyUpon, go_sem, Grow.refl, kc, y0, y1, y2, y3, y4, y5, z0, z1, z2, z3, z4]
      · rw [if_pos (by simp only [Region.wanted]; rw [yielded_of (d := 63) (b := true) rfl (by simp only [hdd])]; rfl)]
        try simp only [perAt, List.getD_cons_zero, List.getD_cons_succ, Per.eq, Per.row, Per.of]
        have hs5 := hfr 5 (by kernel_rfl)
        simp only [Array.getD_eq_getD_getElem?] at hs5
        have kc := hg.cells
        simp [execOp, Act.eval, hdd, hs5, relyUpon, go_sem, Grow.refl, kc, y0, y1, y2, y3, y4, y5, z0, z1, z2, z3, z4]
      · rw [if_pos (by simp only [Region.wanted]; rw [yielded_of (d := 63) (b := true) rfl (by simp only [hdd])]; rfl)]
        try simp only [perAt, List.getD_cons_zero, List.getD_cons_succ, Per.eq, Per.row, Per.of]
        have hs5 := hfr 5 (by kernel_rfl)
        simp only [Array.getD_eq_getD_getElem?] at hs5
        have kc := hg.cells
        simp [execOp, Act.eval, hdd, hs5, relyUpon, go_sem, Grow.refl, kc, y0, y1, y2, y3, y4, y5, z0, z1, z2, z3, z4]
      · rw [if_pos (by simp only [Region.wanted]; rw [yielded_of (d := 63) (b := true) rfl (by simp only [hdd])]; rfl)]
        try simp only [perAt, List.getD_cons_zero, List.getD_cons_succ, Per.eq, Per.row, Per.of]
        simp [execOp, Act.eval, hdd, relyUpon, go_sem]
        refine (HRM2.out w' hg).mono fun e w'' h => ?_
        obtain ⟨⟨B5, c5, h1⟩, h2⟩ := h
        subst h1
        first | exact ⟨_, rfl, h2, _, _, rfl⟩ | exact ⟨h2, _, _, rfl⟩
      · rw [if_pos (by simp only [Region.wanted]; rw [yielded_of (d := 63) (b := true) rfl (by simp only [hdd])]; rfl)]
        try simp only [perAt, List.getD_cons_zero, List.getD_cons_succ, Per.eq, Per.row, Per.of]
        obtain ⟨⟨B5, c5, k9⟩, -⟩ := hdd
        simp [execOp, Act.eval, k9, relyUpon, go_sem, Grow.refl]
      · rw [if_pos (by simp only [Region.wanted]; rw [yielded_of (d := 63) (b := true) rfl (by simp only [hdd])]; rfl)]
        try simp only [perAt, List.getD_cons_zero, List.getD_cons_succ, Per.eq, Per.row, Per.of]
        simp [execOp, Act.eval, hdd, relyUpon, go_sem, Grow.refl]
      · rw [if_pos (by rfl)]
        try simp only [perAt, List.getD_cons_zero, List.getD_cons_succ, Per.eq, Per.row, Per.of]
        simp [execOp, Act.eval, hdd, relyUpon, go_sem, Grow.refl]
      · rw [if_pos (by rfl)]
        try simp only [perAt, List.getD_cons_zero, List.getD_cons_succ, Per.eq, Per.row, Per.of]
        simp [execOp, Act.eval, hdd, relyUpon, go_sem, Grow.refl]
      · rw [if_pos (by simp only [Region.wanted]; rw [yielded_of (d := 72) (b := true) rfl (by simp only [hdd])]; rfl)]
        try simp only [perAt, List.getD_cons_zero, List.getD_cons_succ, Per.eq, Per.row, Per.of]
        have hs16 := hfr 16 (by kernel_rfl)
        simp only [Array.getD_eq_getD_getElem?] at hs16
        have kc := hg.cells
        simp [execOp, Act.eval, hdd, hs16, relyUpon, go_sem, Grow.refl, kc, y0, y1, y2, y3, y4, y5, z0, z1, z2, z3, z4]
      · rw [if_pos (by simp only [Region.wanted]; rw [yielded_of (d := 72) (b := true) rfl (by simp only [hdd])]; rfl)]
        try simp only [perAt, List.getD_cons_zero, List.getD_cons_succ, Per.eq, Per.row, Per.of]
        have hs10 := hfr 10 (by kernel_rfl)
        simp only [Array.getD_eq_getD_getElem?] at hs10
        simp [execOp, Act.eval, hdd, hs10, relyUpon, go_sem, Grow.refl]
      · rw [if_pos (by simp only [Region.wanted]; rw [yielded_of (d := 72) (b := true) rfl (by simp only [hdd])]; rfl)]
        try simp only [perAt, List.getD_cons_zero, List.getD_cons_succ, Per.eq, Per.row, Per.of]
        have kc := hg.cells
        simp [execOp, Act.eval, hdd, relyUpon, go_sem, Grow.refl, kc, y0, y1, y2, y3, y4, y5, z0, z1, z2, z3, z4]
      · rw [if_pos (by simp only [Region.wanted]; rw [yielded_of (d := 72) (b := true) rfl (by simp only [hdd])]; rfl)]
        try simp only [perAt, List.getD_cons_zero, List.getD_cons_succ, Per.eq, Per.row, Per.of]
        simp [execOp, Act.eval, hdd, relyUpon, go_sem, Grow.refl]
      · rw [if_pos (by simp only [Region.wanted]; rw [yielded_of (d := 72) (b := true) rfl (by simp only [hdd])]; rfl)]
        try simp only [perAt, List.getD_cons_zero, List.getD_cons_succ, Per.eq, Per.row, Per.of]
        simp [execOp, Act.eval, hdd, relyUpon, go_sem, Grow.refl]
      · rw [if_pos (by rfl)]
        try simp only [perAt, List.getD_cons_zero, List.getD_cons_succ, Per.eq, Per.row, Per.of]
        simp [execOp, Act.eval, hdd, relyUpon, go_sem, Grow.refl]
      · rw [if_pos (by rfl)]
        try simp only [perAt, List.getD_cons_zero, List.getD_cons_succ, Per.eq, Per.row, Per.of]
        simp [execOp, Act.eval, hdd, relyUpon, go_sem, Grow.refl]
      · rw [if_pos (by simp only [Region.wanted]; rw [yielded_of (d := 79) (b := true) rfl (by simp only [hdd])]; rfl)]
        try simp only [perAt, List.getD_cons_zero, List.getD_cons_succ, Per.eq, Per.row, Per.of]
        simp [execOp, Act.eval, hdd, relyUpon, go_sem]
        refine (HW.out w').mono fun e w'' h => ?_
        obtain ⟨h1, h2⟩ := h
        have h3 : Grow w' w'' := by first | exact h2 | (rw [← h2]; exact Grow.refl _)
        first | exact ⟨h3, h1⟩ | exact ⟨_, h1, h3, rfl⟩ | exact ⟨h1, h3⟩
      · rw [if_pos (by rfl)]
        try simp only [perAt, List.getD_cons_zero, List.getD_cons_succ, Per.eq, Per.row, Per.of]
        simp [execOp, Act.eval, hdd, relyUpon, go_sem, Grow.refl]
      · rw [if_pos (by rfl)]
        try simp only [perAt, List.getD_cons_zero, List.getD_cons_succ, Per.eq, Per.row, Per.of]
        simp [execOp, Act.eval, hdd, relyUpon, go_sem, Grow.refl]
    intro wz hgz
    simp only [relyEnd, List.headD_cons, List.tail_cons, Per.eq, Per.row, Per.of]
    rintro _ rfl _ rfl _ rfl _ rfl _ rfl _ rfl _ _ _ rfl _ rfl _ rfl _ rfl _ rfl _ rfl _ rfl _ rfl _ rfl _ rfl _ rfl _ rfl _ rfl _ rfl
    go_simp
    go_wp2_with fail
    go_ret
    exact ⟨rfl, Below.trans HBB.out (Below.mono hgz HBB.out.size)⟩
  · have HTK := hid (show M.take ((1000 : Int).toNat) = M from List.take_of_length_le (by simp; omega))
    have hm2 : ¬ 0 ≤ most ∨ (0 ≤ most ∧ ¬ most < (M.length : Int)) := by omega
    clear hsc hm
    rcases hm2 with hm2 | ⟨hm2, hm3⟩
    · obtain ⟨K, hK⟩ : ∃ K, M.length = K := ⟨_, rfl⟩
      have hsk := HRI.out
      rw [hK] at hlc hl3 hML hsk ⊢
      have HSK := hid hsk
      clear hsk hK
      go_wp2_with fail
      refine (HMA.out w3 G3.out 1000 (by omega) (by omega)).mono ?_
      rintro e w4 ⟨lv4, rfl, hs4, g4⟩
      rw [HTK.out] at hs4
      have HS4 := hid hs4
      have HS5 := hid (HSK.out.grow g4)
      obtain ⟨A4, c4, rfl, -, -, -⟩ := hs4
      have G4 := hid (Grow.trans G3.out g4)
      replace q0 := g4.cell q0
      replace q1 := g4.cell q1
      replace q2 := g4.cell q2
      replace R1 := hid (g4.heap R1.out)
      replace R2 := hid (g4.heap R2.out)
      replace hl1 := heap_lt R1.out
      replace hlr1 := heap_lt R2.out
      clear g4
      generalize M = M2 at *
      generalize M2.length = gl at *
      go_wp2_with fail
      refine (items_c M2 _ _ w4 HS4.out HS5.out).mono ?_
      rintro e w5 ⟨rfl, g5⟩
      have G5 := hid (Grow.trans G4.out g5)
      replace q0 := g5.cell q0
      replace q1 := g5.cell q1
      replace q2 := g5.cell q2
      replace R1 := hid (g5.heap R1.out)
      replace R2 := hid (g5.heap R2.out)
      replace hl1 := heap_lt R1.out
      replace hlr1 := heap_lt R2.out
      clear g5 HMA HS4 HS5 HRI
      have a1 := heap_alloc_keep (heap_new w5 (.cells #[.int .i64 0] 3)) (.cells #[.bool true] 4)
      have a2 := heap_newAt (n := w5.heap.size + 1) (w5.alloc (.cells #[.int .i64 0] 3)) (.cells #[.bool true] 4) (by simp)
      have ag := Grow.trans (Grow.alloc w5 (.cells #[.int .i64 0] 3)) (Grow.alloc _ (.cells #[.bool true] 4))
      have asz : ((w5.alloc (.cells #[.int .i64 0] 3)).alloc (.cells #[.bool true] 4)).heap.size = w5.heap.size + 2 := by simp
      go_wp2_with fail
      generalize (w5.alloc (.cells #[.int .i64 0] 3)).alloc (.cells #[.bool true] 4) = w6 at *
      have G6 := hid (Grow.trans G5.out ag)
      replace q0 := ag.cell q0
      replace q1 := ag.cell q1
      replace q2 := ag.cell q2
      replace R1 := hid (ag.heap R1.out)
      replace R2 := hid (ag.heap R2.out)
      generalize hnbe : w5.heap.size = nb at *
      have A1' := hid a1
      have A2' := hid a2
      clear a1 a2 ag
      refine (At_c (some ⟨p, 0, none⟩) f w6).mono ?_
      rintro e w7 ⟨rfl, hw7⟩
      have hbx := Boxes.made w6 (some ⟨p, 0, none⟩) f f
      have g7 := Grow.trans (Grow.trans (Grow.alloc w6 (.cells #[.pointer (some ⟨p, 0, none⟩)] 23)) (Grow.alloc _ (.cells #[.int .i64 f] 3))) (Grow.alloc _ (.cells #[.int .i64 f] 3))
      have s7 : w7.heap.size = w6.heap.size + 3 := by rw [hw7]; simp
      rw [← hw7] at hbx g7
      clear hw7
      have HBX := hid hbx
      have G7 := hid g7
      clear hbx g7
      generalize w6.heap.size = z6 at *
      have ASZ := hid asz
      clear asz
      go_wp2_with fail
      refine (All_c (some ⟨p, 0, none⟩) w7).mono ?_
      rintro e w8 ⟨rfl, hw8⟩
      have hbx := Boxes.made w7 (some ⟨p, 0, none⟩) (-9223372036854775808) 9223372036854775807
      have g8 := Grow.trans (Grow.trans (Grow.alloc w7 (.cells #[.pointer (some ⟨p, 0, none⟩)] 23)) (Grow.alloc _ (.cells #[.int .i64 (-9223372036854775808)] 3))) (Grow.alloc _ (.cells #[.int .i64 9223372036854775807] 3))
      have s8 : w8.heap.size = w7.heap.size + 3 := by rw [hw8]; simp
      rw [← hw8] at hbx g8
      clear hw8
      have HBX8 := hid hbx
      have G8 := hid (Grow.trans G7.out g8)
      have HBX7 := hid (HBX.out.grow g8)
      clear hbx g8
      have hqf : ∀ (w : World) (g : Fn) bt bs, (binOp .eql 42 (.func g bt bs) .nilFunc).run Try.prog w = .ok (.bool false) w := fun w g bt bs => run_eql_func_nil w _ _ _ _ g bt bs Try.underlying42
      have S8 := hid (show w8.heap.size = z6 + 6 by omega)
      rw [s7] at HBX8 ⊢
      clear s7 s8
      have ix8 := HTR.out.kept (w' := w8) fun b hb => (Grow.trans G6.out G8.out).block b (HTR.out.lt b hb)
      have HQA := hid (Meet1A_c nb (nb + 1) w.heap.size (fun s x => cntStep s f x) (fun _ => True) (CntJ w8 nb (nb + 1)) p f f z6 (z6 + 1) (z6 + 2) T (0, true) w8 HBX7.out ((Grow.trans G6.out G8.out).cell HPT.out) trivial ⟨G8.out.heap A1'.out, G8.out.heap A2'.out, Oth.refl _ _ _⟩ (cnt_yield T w8 nb (nb + 1) w.heap.size f 0 true ix8 (G8.out.heap A1'.out) (G8.out.heap A2'.out) (G8.out.heap R1.out) (by omega) (by omega) (by omega)) (Int.le_refl f))
      rw [HWA.out, feed_cnt f _ 0 true (by omega) (by have := hMF.out; omega) (fun x hx => (met_mem hx).2)] at HQA
      go_wp2_with fail
      refine HQA.out.mono ?_
      rintro e w9 ⟨⟨u9, rfl⟩, b1, b2, b3⟩
      dsimp only at b1 b2
      rw [Int.zero_add] at b1
      have B1 := hid b1
      have B2 := hid b2
      have B3 := hid b3
      clear b1 b2 b3 HQA ix8
      go_wp2_with fail
      have e1 := heap_new w9 (.cells #[.int .i64 0] 3)
      have eg := Grow.alloc w9 (.cells #[.int .i64 0] 3)
      have esz : w9.heap.size < (w9.alloc (.cells #[.int .i64 0] 3)).heap.size := by simp
      generalize w9.alloc (.cells #[.int .i64 0] 3) = w10 at *
      have E1 := hid e1
      have EG := hid eg
      clear e1 eg
      have hs9 := B3.out.size
      have asz' := ASZ.out
      have s8' := S8.out
      have HBXx := hid (show Boxes w10 (z6 + 3) (z6 + 3 + 1) (z6 + 3 + 2) (some ⟨p, 0, none⟩) (-9223372036854775808) 9223372036854775807 from ⟨EG.out.heap (B3.out.heap HBX8.out.x (by omega) (by omega)), EG.out.heap (B3.out.heap HBX8.out.f (by omega) (by omega)), EG.out.heap (B3.out.heap HBX8.out.t (by omega) (by omega))⟩)
      have ho10 := hid (B3.out.trans (Oth.grow EG.out))
      have it10 : T.In w10 := ho10.out.tree (HTR.out.kept (w' := w8) fun b hb => (Grow.trans G6.out G8.out).block b (HTR.out.lt b hb)) (G8.out.heap A1'.out) (G8.out.heap A2'.out) (by decide) (by decide)
      have pt10 : w10.cell? ⟨p, 0, none⟩ = some T.ptr := by rw [heap_cell (ho10.out.heap ((Grow.trans G6.out G8.out).heap HIX.out.box) (by have := heap_lt HIX.out.box; have := HRBE.out; omega) (by have := heap_lt HIX.out.box; have := HRBE.out; omega))]; rfl
      have HQB := hid (Meet1B_c w9.heap.size allStep (fun _ => True) (AllJ w10 w9.heap.size) p (-9223372036854775808) 9223372036854775807 (z6 + 3) (z6 + 3 + 1) (z6 + 3 + 2) T 0 w10 HBXx.out pt10 trivial ⟨E1.out, Oth.refl _ _ _⟩ (all_yield T w10 w9.heap.size 0 it10 E1.out) (by omega))
      rw [HWB.out, feed_all L 0 (by omega) (by have := HNL.out; omega), ← HNL.out] at HQB
      clear it10 pt10
      generalize w9.heap.size = zb at *
      clear asz' s8'
      go_wp2_with fail
      refine HQB.out.mono ?_
      rintro e w11 ⟨⟨u11, rfl⟩, d1, d2⟩
      rw [Int.zero_add] at d1
      clear HQB
      have asz' := ASZ.out
      have s8' := S8.out
      have hR1 := d2.heap (ho10.out.heap (G8.out.heap R1.out) (by omega) (by omega)) (by omega) (by omega)
      have hR2 := d2.heap (ho10.out.heap (G8.out.heap R2.out) (by omega) (by omega)) (by omega) (by omega)
      have hN := d2.heap (EG.out.heap B1.out) (by omega) (by omega)
      have hG := d2.heap (EG.out.heap B2.out) (by omega) (by omega)
      have y0 : w11.cell? ⟨w.heap.size, 0, none⟩ = some (.int .i64 f) := by rw [heap_cell hR1]; rfl
      have y1 : w11.cell? ⟨rb, 0, none⟩ = some (.slice A1 nl c1) := by rw [heap_cell hR2]; rfl
      have y2 : w11.cell? ⟨rb, 1, none⟩ = some (.int .i64 nx) := by rw [heap_cell hR2]; rfl
      have y3 : w11.cell? ⟨nb, 0, none⟩ = some (.int .i64 ((metL L f f).length : Int)) := by rw [heap_cell hN]; rfl
      have y4 : w11.cell? ⟨nb + 1, 0, none⟩ = some (.bool true) := by rw [heap_cell hG]; rfl
      have y5 : w11.cell? ⟨zb, 0, none⟩ = some (.int .i64 (nl : Int)) := by rw [heap_cell d1]; rfl
      have z0 := heap_lt hR1
      have z1 := heap_lt hR2
      have z2 := heap_lt hN
      have z3 := heap_lt hG
      have z4 := heap_lt d1
      have HRM2 := hid (show ∀ w', Grow w11 w' → Calls Try.prog 14 #[.agg #[.slice A1 nl c1, .int .i64 nx], .int .i64 f, .int .i64 f] w' fun e w'' => (∃ B c, e = .returned (.slice B (metL L f f).length c)) ∧ Grow w' w'' from fun w' g => by
        have hro11 : ROwn w' (.slice A1 nl c1) L := HROX.out w' (fun k o hk h => g.heap (d2.heap (ho10.out.heap ((Grow.trans G6.out G8.out).heap hk) (by have := heap_lt hk; have := HRBE.out; omega) (by have := heap_lt hk; have := HRBE.out; omega)) (by have := heap_lt hk; have := HRBE.out; have := (Grow.trans G6.out G8.out).size; omega) (by have := heap_lt hk; have := HRBE.out; have := (Grow.trans G6.out G8.out).size; omega)))
        refine (RMeet_c nx _ L f f w' hro11).mono ?_
        rintro e w'' ⟨B5, c5, rfl, -, g5⟩
        exact ⟨⟨B5, c5, rfl⟩, g5⟩)
      generalize (metL L f f).length = K at *
      have HBB := hid (show Below w.heap.size w w11 from Below.trans HBA.out ((Below.trans (Below.trans ((Grow.trans G6.out G8.out).below HBA.out.size) (ho10.out.below (by omega) (by omega) (by omega))) (d2.below (by omega) (by omega) (by omega)))))
      clear d1 d2 hR1 hR2 hN hG q0 q1 q2 asz' s8'
      go_wp2_with fail
      refine wp_rely [.eq (.bool true), .eq (.bool true), .eq (.int .i64 (K : Int)), .eq (.agg #[.slice A1 nl c1, .int .i64 nx]), .eq (.int .i64 f), .eq (.int .i64 f), (⟨fun v w => ∃ B c, v = .slice B K c, fun _ _ _ h g => h⟩ : Per), .eq (.int .i64 (K : Int)), .eq (.bool true), .eq (.bool true), .eq (.bool true), .eq (.int .i64 (nl : Int)), .eq (.pointer (some ⟨rb, 0, none⟩)), .eq (.slice A1 nl c1), .eq (.int .i64 (nl : Int)), .eq (.bool true), .eq (.bool true), .eq (.bool true), .eq (.bool true), .eq (.bool true), .eq (.bool true)] (by kernel_rfl) (by kernel_rfl) (by kernel_rfl) ?_ ?_
      · simp only [relyGoals]
        refine ⟨?_, ?_, ?_, ?_, ?_, ?_, ?_, ?_, ?_, ?_, ?_, ?_, ?_, ?_, ?_, ?_, ?_, ?_, ?_, ?_, ?_, trivial⟩
        all_goals intro t w' hsz hg hdd hfr
        all_goals simp only [depsDid, Did, perAt, List.getElem?_cons_zero, List.getElem?_cons_succ, List.getD_cons_zero, List.getD_cons_succ, Per.eq, Per.row, Per.of, and_true, Array.getD_eq_getD_getElem?] at hdd
        · rw [if_pos (by rfl)]
          try simp only [perAt, List.getD_cons_zero, List.getD_cons_succ, Per.eq, Per.row, Per.of]
          have hs13 := hfr 13 (by kernel_rfl)
          simp only [Array.getD_eq_getD_getElem?] at hs13
          have kc := hg.cells
          simp [execOp, Act.eval, hdd, hs13, relyUpon, go_sem, Grow.refl, kc, y0, y1, y2, y3, y4, y5, z0, z1, z2, z3, z4]
        · rw [if_pos (by rfl)]
          try simp only [perAt, List.getD_cons_zero, List.getD_cons_succ, Per.eq, Per.row, Per.of]
          simp [execOp, Act.eval, hdd, relyUpon, go_sem, Grow.refl]
        · rw [if_pos (by simp only [Region.wanted]; rw [yielded_of (d := 63) (b := true) rfl (by simp only [hdd])]; rfl)]
          try simp only [perAt, List.getD_cons_zero, List.getD_cons_succ, Per.eq, Per.row, Per.of]
          have hs12 := hfr 12 (by kernel_rfl)
          simp only [Array.getD_eq_getD_getElem?] at hs12
          have kc := hg.cells
          simp [execOp, Act.eval, hdd, hs12, relyUpon, go_sem, Grow.refl, kc, y0, y1, y2, y3, y4, y5, z0, z1, z2, z3, z4]
        · rw [if_pos (by simp only [Region.wanted]; rw [yielded_of (d := 63) (b := true) rfl (by simp only [hdd])]; rfl)]
          try simp only [perAt, List.getD_cons_zero, List.getD_cons_succ, Per.eq, Per.row, Per.of]
          have hs10 := hfr 10 (by kernel_rfl)
          simp only [Array.getD_eq_getD_getElem?] at hs10
          have kc := hg.cells
          simp [execOp, Act.eval, hdd, hs10, relyUpon, go_sem, Grow.refl, kc, y0, y1, y2, y3, y4, y5, z0, z1, z2, z3, z4]
        · rw [if_pos (by simp only [Region.wanted]; rw [yielded_of (d := 63) (b := true) rfl (by simp only [hdd])]; rfl)]
          try simp only [perAt, List.getD_cons_zero, List.getD_cons_succ, Per.eq, Per.row, Per.of]
          have hs5 := hfr 5 (by kernel_rfl)
          simp only [Array.getD_eq_getD_getElem?] at hs5
          have kc := hg.cells
          simp [execOp, Act.eval, hdd, hs5, relyUpon, go_sem, Grow.refl, kc, y0, y1, y2, y3, y4, y5, z0, z1, z2, z3, z4]
        · rw [if_pos (by simp only [Region.wanted]; rw [yielded_of (d := 63) (b := true) rfl (by simp only [hdd])]; rfl)]
          try simp only [perAt, List.getD_cons_zero, List.getD_cons_succ, Per.eq, Per.row, Per.of]
          have hs5 := hfr 5 (by kernel_rfl)
          simp only [Array.getD_eq_getD_getElem?] at hs5
          have kc := hg.cells
          simp [execOp, Act.eval, hdd, hs5, relyUpon, go_sem, Grow.refl, kc, y0, y1, y2, y3, y4, y5, z0, z1, z2, z3, z4]
        · rw [if_pos (by simp only [Region.wanted]; rw [yielded_of (d := 63) (b := true) rfl (by simp only [hdd])]; rfl)]
          try simp only [perAt, List.getD_cons_zero, List.getD_cons_succ, Per.eq, Per.row, Per.of]
          simp [execOp, Act.eval, hdd, relyUpon, go_sem]
          refine (HRM2.out w' hg).mono fun e w'' h => ?_
          obtain ⟨⟨B5, c5, h1⟩, h2⟩ := h
          subst h1
          first | exact ⟨_, rfl, h2, _, _, rfl⟩ | exact ⟨h2, _, _, rfl⟩
        · rw [if_pos (by simp only [Region.wanted]; rw [yielded_of (d := 63) (b := true) rfl (by simp only [hdd])]; rfl)]
          try simp only [perAt, List.getD_cons_zero, List.getD_cons_succ, Per.eq, Per.row, Per.of]
          obtain ⟨⟨B5, c5, k9⟩, -⟩ := hdd
          simp [execOp, Act.eval, k9, relyUpon, go_sem, Grow.refl]
        · rw [if_pos (by simp only [Region.wanted]; rw [yielded_of (d := 63) (b := true) rfl (by simp only [hdd])]; rfl)]
          try simp only [perAt, List.getD_cons_zero, List.getD_cons_succ, Per.eq, Per.row, Per.of]
          simp [execOp, Act.eval, hdd, relyUpon, go_sem, Grow.refl]
        · rw [if_pos (by rfl)]
          try simp only [perAt, List.getD_cons_zero, List.getD_cons_succ, Per.eq, Per.row, Per.of]
          simp [execOp, Act.eval, hdd, relyUpon, go_sem, Grow.refl]
        · rw [if_pos (by rfl)]
          try simp only [perAt, List.getD_cons_zero, List.getD_cons_succ, Per.eq, Per.row, Per.of]
          simp [execOp, Act.eval, hdd, relyUpon, go_sem, Grow.refl]
        · rw [if_pos (by simp only [Region.wanted]; rw [yielded_of (d := 72) (b := true) rfl (by simp only [hdd])]; rfl)]
          try simp only [perAt, List.getD_cons_zero, List.getD_cons_succ, Per.eq, Per.row, Per.of]
          have hs16 := hfr 16 (by kernel_rfl)
          simp only [Array.getD_eq_getD_getElem?] at hs16
          have kc := hg.cells
          simp [execOp, Act.eval, hdd, hs16, relyUpon, go_sem, Grow.refl, kc, y0, y1, y2, y3, y4, y5, z0, z1, z2, z3, z4]
        · rw [if_pos (by simp only [Region.wanted]; rw [yielded_of (d := 72) (b := true) rfl (by simp only [hdd])]; rfl)]
          try simp only [perAt, List.getD_cons_zero, List.getD_cons_succ, Per.eq, Per.row, Per.of]
          have hs10 := hfr 10 (by kernel_rfl)
          simp only [Array.getD_eq_getD_getElem?] at hs10
          simp [execOp, Act.eval, hdd, hs10, relyUpon, go_sem, Grow.refl]
        · rw [if_pos (by simp only [Region.wanted]; rw [yielded_of (d := 72) (b := true) rfl (by simp only [hdd])]; rfl)]
          try simp only [perAt, List.getD_cons_zero, List.getD_cons_succ, Per.eq, Per.row, Per.of]
          have kc := hg.cells
          simp [execOp, Act.eval, hdd, relyUpon, go_sem, Grow.refl, kc, y0, y1, y2, y3, y4, y5, z0, z1, z2, z3, z4]
        · rw [if_pos (by simp only [Region.wanted]; rw [yielded_of (d := 72) (b := true) rfl (by simp only [hdd])]; rfl)]
          try simp only [perAt, List.getD_cons_zero, List.getD_cons_succ, Per.eq, Per.row, Per.of]
          simp [execOp, Act.eval, hdd, relyUpon, go_sem, Grow.refl]
        · rw [if_pos (by simp only [Region.wanted]; rw [yielded_of (d := 72) (b := true) rfl (by simp only [hdd])]; rfl)]
          try simp only [perAt, List.getD_cons_zero, List.getD_cons_succ, Per.eq, Per.row, Per.of]
          simp [execOp, Act.eval, hdd, relyUpon, go_sem, Grow.refl]
        · rw [if_pos (by rfl)]
          try simp only [perAt, List.getD_cons_zero, List.getD_cons_succ, Per.eq, Per.row, Per.of]
          simp [execOp, Act.eval, hdd, relyUpon, go_sem, Grow.refl]
        · rw [if_pos (by rfl)]
          try simp only [perAt, List.getD_cons_zero, List.getD_cons_succ, Per.eq, Per.row, Per.of]
          simp [execOp, Act.eval, hdd, relyUpon, go_sem, Grow.refl]
        · rw [if_pos (by simp only [Region.wanted]; rw [yielded_of (d := 79) (b := true) rfl (by simp only [hdd])]; rfl)]
          try simp only [perAt, List.getD_cons_zero, List.getD_cons_succ, Per.eq, Per.row, Per.of]
          simp [execOp, Act.eval, hdd, relyUpon, go_sem]
          refine (HW.out w').mono fun e w'' h => ?_
          obtain ⟨h1, h2⟩ := h
          have h3 : Grow w' w'' := by first | exact h2 | (rw [← h2]; exact Grow.refl _)
          first | exact ⟨h3, h1⟩ | exact ⟨_, h1, h3, rfl⟩ | exact ⟨h1, h3⟩
        · rw [if_pos (by rfl)]
          try simp only [perAt, List.getD_cons_zero, List.getD_cons_succ, Per.eq, Per.row, Per.of]
          simp [execOp, Act.eval, hdd, relyUpon, go_sem, Grow.refl]
        · rw [if_pos (by rfl)]
          try simp only [perAt, List.getD_cons_zero, List.getD_cons_succ, Per.eq, Per.row, Per.of]
          simp [execOp, Act.eval, hdd, relyUpon, go_sem, Grow.refl]
      intro wz hgz
      simp only [relyEnd, List.headD_cons, List.tail_cons, Per.eq, Per.row, Per.of]
      rintro _ rfl _ rfl _ rfl _ rfl _ rfl _ rfl _ _ _ rfl _ rfl _ rfl _ rfl _ rfl _ rfl _ rfl _ rfl _ rfl _ rfl _ rfl _ rfl _ rfl _ rfl
      go_simp
      go_wp2_with fail
      go_ret
      exact ⟨rfl, Below.trans HBB.out (Below.mono hgz HBB.out.size)⟩
    · obtain ⟨K, hK⟩ : ∃ K, M.length = K := ⟨_, rfl⟩
      have hsk := HRI.out
      rw [hK] at hm3 hlc hl3 hML hsk ⊢
      have HSK := hid hsk
      clear hsk hK
      go_wp2_with fail
      refine (HMA.out w3 G3.out 1000 (by omega) (by omega)).mono ?_
      rintro e w4 ⟨lv4, rfl, hs4, g4⟩
      rw [HTK.out] at hs4
      have HS4 := hid hs4
      have HS5 := hid (HSK.out.grow g4)
      obtain ⟨A4, c4, rfl, -, -, -⟩ := hs4
      have G4 := hid (Grow.trans G3.out g4)
      replace q0 := g4.cell q0
      replace q1 := g4.cell q1
      replace q2 := g4.cell q2
      replace R1 := hid (g4.heap R1.out)
      replace R2 := hid (g4.heap R2.out)
      replace hl1 := heap_lt R1.out
      replace hlr1 := heap_lt R2.out
      clear g4
      generalize M = M2 at *
      generalize M2.length = gl at *
      go_wp2_with fail
      refine (items_c M2 _ _ w4 HS4.out HS5.out).mono ?_
      rintro e w5 ⟨rfl, g5⟩
      have G5 := hid (Grow.trans G4.out g5)
      replace q0 := g5.cell q0
      replace q1 := g5.cell q1
      replace q2 := g5.cell q2
      replace R1 := hid (g5.heap R1.out)
      replace R2 := hid (g5.heap R2.out)
      replace hl1 := heap_lt R1.out
      replace hlr1 := heap_lt R2.out
      clear g5 HMA HS4 HS5 HRI
      have a1 := heap_alloc_keep (heap_new w5 (.cells #[.int .i64 0] 3)) (.cells #[.bool true] 4)
      have a2 := heap_newAt (n := w5.heap.size + 1) (w5.alloc (.cells #[.int .i64 0] 3)) (.cells #[.bool true] 4) (by simp)
      have ag := Grow.trans (Grow.alloc w5 (.cells #[.int .i64 0] 3)) (Grow.alloc _ (.cells #[.bool true] 4))
      have asz : ((w5.alloc (.cells #[.int .i64 0] 3)).alloc (.cells #[.bool true] 4)).heap.size = w5.heap.size + 2 := by simp
      go_wp2_with fail
      generalize (w5.alloc (.cells #[.int .i64 0] 3)).alloc (.cells #[.bool true] 4) = w6 at *
      have G6 := hid (Grow.trans G5.out ag)
      replace q0 := ag.cell q0
      replace q1 := ag.cell q1
      replace q2 := ag.cell q2
      replace R1 := hid (ag.heap R1.out)
      replace R2 := hid (ag.heap R2.out)
      generalize hnbe : w5.heap.size = nb at *
      have A1' := hid a1
      have A2' := hid a2
      clear a1 a2 ag
      refine (At_c (some ⟨p, 0, none⟩) f w6).mono ?_
      rintro e w7 ⟨rfl, hw7⟩
      have hbx := Boxes.made w6 (some ⟨p, 0, none⟩) f f
      have g7 := Grow.trans (Grow.trans (Grow.alloc w6 (.cells #[.pointer (some ⟨p, 0, none⟩)] 23)) (Grow.alloc _ (.cells #[.int .i64 f] 3))) (Grow.alloc _ (.cells #[.int .i64 f] 3))
      have s7 : w7.heap.size = w6.heap.size + 3 := by rw [hw7]; simp
      rw [← hw7] at hbx g7
      clear hw7
      have HBX := hid hbx
      have G7 := hid g7
      clear hbx g7
      generalize w6.heap.size = z6 at *
      have ASZ := hid asz
      clear asz
      go_wp2_with fail
      refine (All_c (some ⟨p, 0, none⟩) w7).mono ?_
      rintro e w8 ⟨rfl, hw8⟩
      have hbx := Boxes.made w7 (some ⟨p, 0, none⟩) (-9223372036854775808) 9223372036854775807
      have g8 := Grow.trans (Grow.trans (Grow.alloc w7 (.cells #[.pointer (some ⟨p, 0, none⟩)] 23)) (Grow.alloc _ (.cells #[.int .i64 (-9223372036854775808)] 3))) (Grow.alloc _ (.cells #[.int .i64 9223372036854775807] 3))
      have s8 : w8.heap.size = w7.heap.size + 3 := by rw [hw8]; simp
      rw [← hw8] at hbx g8
      clear hw8
      have HBX8 := hid hbx
      have G8 := hid (Grow.trans G7.out g8)
      have HBX7 := hid (HBX.out.grow g8)
      clear hbx g8
      have hqf : ∀ (w : World) (g : Fn) bt bs, (binOp .eql 42 (.func g bt bs) .nilFunc).run Try.prog w = .ok (.bool false) w := fun w g bt bs => run_eql_func_nil w _ _ _ _ g bt bs Try.underlying42
      have S8 := hid (show w8.heap.size = z6 + 6 by omega)
      rw [s7] at HBX8 ⊢
      clear s7 s8
      have ix8 := HTR.out.kept (w' := w8) fun b hb => (Grow.trans G6.out G8.out).block b (HTR.out.lt b hb)
      have HQA := hid (Meet1A_c nb (nb + 1) w.heap.size (fun s x => cntStep s f x) (fun _ => True) (CntJ w8 nb (nb + 1)) p f f z6 (z6 + 1) (z6 + 2) T (0, true) w8 HBX7.out ((Grow.trans G6.out G8.out).cell HPT.out) trivial ⟨G8.out.heap A1'.out, G8.out.heap A2'.out, Oth.refl _ _ _⟩ (cnt_yield T w8 nb (nb + 1) w.heap.size f 0 true ix8 (G8.out.heap A1'.out) (G8.out.heap A2'.out) (G8.out.heap R1.out) (by omega) (by omega) (by omega)) (Int.le_refl f))
      rw [HWA.out, feed_cnt f _ 0 true (by omega) (by have := hMF.out; omega) (fun x hx => (met_mem hx).2)] at HQA
      go_wp2_with fail
      refine HQA.out.mono ?_
      rintro e w9 ⟨⟨u9, rfl⟩, b1, b2, b3⟩
      dsimp only at b1 b2
      rw [Int.zero_add] at b1
      have B1 := hid b1
      have B2 := hid b2
      have B3 := hid b3
      clear b1 b2 b3 HQA ix8
      go_wp2_with fail
      have e1 := heap_new w9 (.cells #[.int .i64 0] 3)
      have eg := Grow.alloc w9 (.cells #[.int .i64 0] 3)
      have esz : w9.heap.size < (w9.alloc (.cells #[.int .i64 0] 3)).heap.size := by simp
      generalize w9.alloc (.cells #[.int .i64 0] 3) = w10 at *
      have E1 := hid e1
      have EG := hid eg
      clear e1 eg
      have hs9 := B3.out.size
      have asz' := ASZ.out
      have s8' := S8.out
      have HBXx := hid (show Boxes w10 (z6 + 3) (z6 + 3 + 1) (z6 + 3 + 2) (some ⟨p, 0, none⟩) (-9223372036854775808) 9223372036854775807 from ⟨EG.out.heap (B3.out.heap HBX8.out.x (by omega) (by omega)), EG.out.heap (B3.out.heap HBX8.out.f (by omega) (by omega)), EG.out.heap (B3.out.heap HBX8.out.t (by omega) (by omega))⟩)
      have ho10 := hid (B3.out.trans (Oth.grow EG.out))
      have it10 : T.In w10 := ho10.out.tree (HTR.out.kept (w' := w8) fun b hb => (Grow.trans G6.out G8.out).block b (HTR.out.lt b hb)) (G8.out.heap A1'.out) (G8.out.heap A2'.out) (by decide) (by decide)
      have pt10 : w10.cell? ⟨p, 0, none⟩ = some T.ptr := by rw [heap_cell (ho10.out.heap ((Grow.trans G6.out G8.out).heap HIX.out.box) (by have := heap_lt HIX.out.box; have := HRBE.out; omega) (by have := heap_lt HIX.out.box; have := HRBE.out; omega))]; rfl
      have HQB := hid (Meet1B_c w9.heap.size allStep (fun _ => True) (AllJ w10 w9.heap.size) p (-9223372036854775808) 9223372036854775807 (z6 + 3) (z6 + 3 + 1) (z6 + 3 + 2) T 0 w10 HBXx.out pt10 trivial ⟨E1.out, Oth.refl _ _ _⟩ (all_yield T w10 w9.heap.size 0 it10 E1.out) (by omega))
      rw [HWB.out, feed_all L 0 (by omega) (by have := HNL.out; omega), ← HNL.out] at HQB
      clear it10 pt10
      generalize w9.heap.size = zb at *
      clear asz' s8'
      go_wp2_with fail
      refine HQB.out.mono ?_
      rintro e w11 ⟨⟨u11, rfl⟩, d1, d2⟩
      rw [Int.zero_add] at d1
      clear HQB
      have asz' := ASZ.out
      have s8' := S8.out
      have hR1 := d2.heap (ho10.out.heap (G8.out.heap R1.out) (by omega) (by omega)) (by omega) (by omega)
      have hR2 := d2.heap (ho10.out.heap (G8.out.heap R2.out) (by omega) (by omega)) (by omega) (by omega)
      have hN := d2.heap (EG.out.heap B1.out) (by omega) (by omega)
      have hG := d2.heap (EG.out.heap B2.out) (by omega) (by omega)
      have y0 : w11.cell? ⟨w.heap.size, 0, none⟩ = some (.int .i64 f) := by rw [heap_cell hR1]; rfl
      have y1 : w11.cell? ⟨rb, 0, none⟩ = some (.slice A1 nl c1) := by rw [heap_cell hR2]; rfl
      have y2 : w11.cell? ⟨rb, 1, none⟩ = some (.int .i64 nx) := by rw [heap_cell hR2]; rfl
      have y3 : w11.cell? ⟨nb, 0, none⟩ = some (.int .i64 ((metL L f f).length : Int)) := by rw [heap_cell hN]; rfl
      have y4 : w11.cell? ⟨nb + 1, 0, none⟩ = some (.bool true) := by rw [heap_cell hG]; rfl
      have y5 : w11.cell? ⟨zb, 0, none⟩ = some (.int .i64 (nl : Int)) := by rw [heap_cell d1]; rfl
      have z0 := heap_lt hR1
      have z1 := heap_lt hR2
      have z2 := heap_lt hN
      have z3 := heap_lt hG
      have z4 := heap_lt d1
      have HRM2 := hid (show ∀ w', Grow w11 w' → Calls Try.prog 14 #[.agg #[.slice A1 nl c1, .int .i64 nx], .int .i64 f, .int .i64 f] w' fun e w'' => (∃ B c, e = .returned (.slice B (metL L f f).length c)) ∧ Grow w' w'' from fun w' g => by
        have hro11 : ROwn w' (.slice A1 nl c1) L := HROX.out w' (fun k o hk h => g.heap (d2.heap (ho10.out.heap ((Grow.trans G6.out G8.out).heap hk) (by have := heap_lt hk; have := HRBE.out; omega) (by have := heap_lt hk; have := HRBE.out; omega)) (by have := heap_lt hk; have := HRBE.out; have := (Grow.trans G6.out G8.out).size; omega) (by have := heap_lt hk; have := HRBE.out; have := (Grow.trans G6.out G8.out).size; omega)))
        refine (RMeet_c nx _ L f f w' hro11).mono ?_
        rintro e w'' ⟨B5, c5, rfl, -, g5⟩
        exact ⟨⟨B5, c5, rfl⟩, g5⟩)
      generalize (metL L f f).length = K at *
      have HBB := hid (show Below w.heap.size w w11 from Below.trans HBA.out ((Below.trans (Below.trans ((Grow.trans G6.out G8.out).below HBA.out.size) (ho10.out.below (by omega) (by omega) (by omega))) (d2.below (by omega) (by omega) (by omega)))))
      clear d1 d2 hR1 hR2 hN hG q0 q1 q2 asz' s8'
      go_wp2_with fail
      refine wp_rely [.eq (.bool true), .eq (.bool true), .eq (.int .i64 (K : Int)), .eq (.agg #[.slice A1 nl c1, .int .i64 nx]), .eq (.int .i64 f), .eq (.int .i64 f), (⟨fun v w => ∃ B c, v = .slice B K c, fun _ _ _ h g => h⟩ : Per), .eq (.int .i64 (K : Int)), .eq (.bool true), .eq (.bool true), .eq (.bool true), .eq (.int .i64 (nl : Int)), .eq (.pointer (some ⟨rb, 0, none⟩)), .eq (.slice A1 nl c1), .eq (.int .i64 (nl : Int)), .eq (.bool true), .eq (.bool true), .eq (.bool true), .eq (.bool true), .eq (.bool true), .eq (.bool true)] (by kernel_rfl) (by kernel_rfl) (by kernel_rfl) ?_ ?_
      · simp only [relyGoals]
        refine ⟨?_, ?_, ?_, ?_, ?_, ?_, ?_, ?_, ?_, ?_, ?_, ?_, ?_, ?_, ?_, ?_, ?_, ?_, ?_, ?_, ?_, trivial⟩
        all_goals intro t w' hsz hg hdd hfr
        all_goals simp only [depsDid, Did, perAt, List.getElem?_cons_zero, List.getElem?_cons_succ, List.getD_cons_zero, List.getD_cons_succ, Per.eq, Per.row, Per.of, and_true, Array.getD_eq_getD_getElem?] at hdd
        · rw [if_pos (by rfl)]
          try simp only [perAt, List.getD_cons_zero, List.getD_cons_succ, Per.eq, Per.row, Per.of]
          have hs13 := hfr 13 (by kernel_rfl)
          simp only [Array.getD_eq_getD_getElem?] at hs13
          have kc := hg.cells
          simp [execOp, Act.eval, hdd, hs13, relyUpon, go_sem, Grow.refl, kc, y0, y1, y2, y3, y4, y5, z0, z1, z2, z3, z4]
        · rw [if_pos (by rfl)]
          try simp only [perAt, List.getD_cons_zero, List.getD_cons_succ, Per.eq, Per.row, Per.of]
          simp [execOp, Act.eval, hdd, relyUpon, go_sem, Grow.refl]
        · rw [if_pos (by simp only [Region.wanted]; rw [yielded_of (d := 63) (b := true) rfl (by simp only [hdd])]; rfl)]
          try simp only [perAt, List.getD_cons_zero, List.getD_cons_succ, Per.eq, Per.row, Per.of]
          have hs12 := hfr 12 (by kernel_rfl)
          simp only [Array.getD_eq_getD_getElem?] at hs12
          have kc := hg.cells
          simp [execOp, Act.eval, hdd, hs12, relyUpon, go_sem, Grow.refl, kc, y0, y1, y2, y3, y4, y5, z0, z1, z2, z3, z4]
        · rw [if_pos (by simp only [Region.wanted]; rw [yielded_of (d := 63) (b := true) rfl (by simp only [hdd])]; rfl)]
          try simp only [perAt, List.getD_cons_zero, List.getD_cons_succ, Per.eq, Per.row, Per.of]
          have hs10 := hfr 10 (by kernel_rfl)
          simp only [Array.getD_eq_getD_getElem?] at hs10
          have kc := hg.cells
          simp [execOp, Act.eval, hdd, hs10, relyUpon, go_sem, Grow.refl, kc, y0, y1, y2, y3, y4, y5, z0, z1, z2, z3, z4]
        · rw [if_pos (by simp only [Region.wanted]; rw [yielded_of (d := 63) (b := true) rfl (by simp only [hdd])]; rfl)]
          try simp only [perAt, List.getD_cons_zero, List.getD_cons_succ, Per.eq, Per.row, Per.of]
          have hs5 := hfr 5 (by kernel_rfl)
          simp only [Array.getD_eq_getD_getElem?] at hs5
          have kc := hg.cells
          simp [execOp, Act.eval, hdd, hs5, relyUpon, go_sem, Grow.refl, kc, y0, y1, y2, y3, y4, y5, z0, z1, z2, z3, z4]
        · rw [if_pos (by simp only [Region.wanted]; rw [yielded_of (d := 63) (b := true) rfl (by simp only [hdd])]; rfl)]
          try simp only [perAt, List.getD_cons_zero, List.getD_cons_succ, Per.eq, Per.row, Per.of]
          have hs5 := hfr 5 (by kernel_rfl)
          simp only [Array.getD_eq_getD_getElem?] at hs5
          have kc := hg.cells
          simp [execOp, Act.eval, hdd, hs5, relyUpon, go_sem, Grow.refl, kc, y0, y1, y2, y3, y4, y5, z0, z1, z2, z3, z4]
        · rw [if_pos (by simp only [Region.wanted]; rw [yielded_of (d := 63) (b := true) rfl (by simp only [hdd])]; rfl)]
          try simp only [perAt, List.getD_cons_zero, List.getD_cons_succ, Per.eq, Per.row, Per.of]
          simp [execOp, Act.eval, hdd, relyUpon, go_sem]
          refine (HRM2.out w' hg).mono fun e w'' h => ?_
          obtain ⟨⟨B5, c5, h1⟩, h2⟩ := h
          subst h1
          first | exact ⟨_, rfl, h2, _, _, rfl⟩ | exact ⟨h2, _, _, rfl⟩
        · rw [if_pos (by simp only [Region.wanted]; rw [yielded_of (d := 63) (b := true) rfl (by simp only [hdd])]; rfl)]
          try simp only [perAt, List.getD_cons_zero, List.getD_cons_succ, Per.eq, Per.row, Per.of]
          obtain ⟨⟨B5, c5, k9⟩, -⟩ := hdd
          simp [execOp, Act.eval, k9, relyUpon, go_sem, Grow.refl]
        · rw [if_pos (by simp only [Region.wanted]; rw [yielded_of (d := 63) (b := true) rfl (by simp only [hdd])]; rfl)]
          try simp only [perAt, List.getD_cons_zero, List.getD_cons_succ, Per.eq, Per.row, Per.of]
          simp [execOp, Act.eval, hdd, relyUpon, go_sem, Grow.refl]
        · rw [if_pos (by rfl)]
          try simp only [perAt, List.getD_cons_zero, List.getD_cons_succ, Per.eq, Per.row, Per.of]
          simp [execOp, Act.eval, hdd, relyUpon, go_sem, Grow.refl]
        · rw [if_pos (by rfl)]
          try simp only [perAt, List.getD_cons_zero, List.getD_cons_succ, Per.eq, Per.row, Per.of]
          simp [execOp, Act.eval, hdd, relyUpon, go_sem, Grow.refl]
        · rw [if_pos (by simp only [Region.wanted]; rw [yielded_of (d := 72) (b := true) rfl (by simp only [hdd])]; rfl)]
          try simp only [perAt, List.getD_cons_zero, List.getD_cons_succ, Per.eq, Per.row, Per.of]
          have hs16 := hfr 16 (by kernel_rfl)
          simp only [Array.getD_eq_getD_getElem?] at hs16
          have kc := hg.cells
          simp [execOp, Act.eval, hdd, hs16, relyUpon, go_sem, Grow.refl, kc, y0, y1, y2, y3, y4, y5, z0, z1, z2, z3, z4]
        · rw [if_pos (by simp only [Region.wanted]; rw [yielded_of (d := 72) (b := true) rfl (by simp only [hdd])]; rfl)]
          try simp only [perAt, List.getD_cons_zero, List.getD_cons_succ, Per.eq, Per.row, Per.of]
          have hs10 := hfr 10 (by kernel_rfl)
          simp only [Array.getD_eq_getD_getElem?] at hs10
          simp [execOp, Act.eval, hdd, hs10, relyUpon, go_sem, Grow.refl]
        · rw [if_pos (by simp only [Region.wanted]; rw [yielded_of (d := 72) (b := true) rfl (by simp only [hdd])]; rfl)]
          try simp only [perAt, List.getD_cons_zero, List.getD_cons_succ, Per.eq, Per.row, Per.of]
          have kc := hg.cells
          simp [execOp, Act.eval, hdd, relyUpon, go_sem, Grow.refl, kc, y0, y1, y2, y3, y4, y5, z0, z1, z2, z3, z4]
        · rw [if_pos (by simp only [Region.wanted]; rw [yielded_of (d := 72) (b := true) rfl (by simp only [hdd])]; rfl)]
          try simp only [perAt, List.getD_cons_zero, List.getD_cons_succ, Per.eq, Per.row, Per.of]
          simp [execOp, Act.eval, hdd, relyUpon, go_sem, Grow.refl]
        · rw [if_pos (by simp only [Region.wanted]; rw [yielded_of (d := 72) (b := true) rfl (by simp only [hdd])]; rfl)]
          try simp only [perAt, List.getD_cons_zero, List.getD_cons_succ, Per.eq, Per.row, Per.of]
          simp [execOp, Act.eval, hdd, relyUpon, go_sem, Grow.refl]
        · rw [if_pos (by rfl)]
          try simp only [perAt, List.getD_cons_zero, List.getD_cons_succ, Per.eq, Per.row, Per.of]
          simp [execOp, Act.eval, hdd, relyUpon, go_sem, Grow.refl]
        · rw [if_pos (by rfl)]
          try simp only [perAt, List.getD_cons_zero, List.getD_cons_succ, Per.eq, Per.row, Per.of]
          simp [execOp, Act.eval, hdd, relyUpon, go_sem, Grow.refl]
        · rw [if_pos (by simp only [Region.wanted]; rw [yielded_of (d := 79) (b := true) rfl (by simp only [hdd])]; rfl)]
          try simp only [perAt, List.getD_cons_zero, List.getD_cons_succ, Per.eq, Per.row, Per.of]
          simp [execOp, Act.eval, hdd, relyUpon, go_sem]
          refine (HW.out w').mono fun e w'' h => ?_
          obtain ⟨h1, h2⟩ := h
          have h3 : Grow w' w'' := by first | exact h2 | (rw [← h2]; exact Grow.refl _)
          first | exact ⟨h3, h1⟩ | exact ⟨_, h1, h3, rfl⟩ | exact ⟨h1, h3⟩
        · rw [if_pos (by rfl)]
          try simp only [perAt, List.getD_cons_zero, List.getD_cons_succ, Per.eq, Per.row, Per.of]
          simp [execOp, Act.eval, hdd, relyUpon, go_sem, Grow.refl]
        · rw [if_pos (by rfl)]
          try simp only [perAt, List.getD_cons_zero, List.getD_cons_succ, Per.eq, Per.row, Per.of]
          simp [execOp, Act.eval, hdd, relyUpon, go_sem, Grow.refl]
      intro wz hgz
      simp only [relyEnd, List.headD_cons, List.tail_cons, Per.eq, Per.row, Per.of]
      rintro _ rfl _ rfl _ rfl _ rfl _ rfl _ rfl _ _ _ rfl _ rfl _ rfl _ rfl _ rfl _ rfl _ rfl _ rfl _ rfl _ rfl _ rfl _ rfl _ rfl _ rfl
      go_simp
      go_wp2_with fail
      go_ret
      exact ⟨rfl, Below.trans HBB.out (Below.mono hgz HBB.out.size)⟩
namespace LawIntervalMeets
open Go.ChangeShapes Go.WideShapes Go.ChangeAt Go.RowKit
open Go.ChangeMaps (open_string shut_string)
theorem own : ownKnob Try.prog.godebug = none := by kernel_rfl
theorem laidOut : laidOutB Try.prog = true := by kernel_rfl
set_option maxRecDepth 100000 in
theorem lifted (os : Os) (started : os.Started) (H : Type) (enc : TypeId × Value → H) :
    ReturnsInHanded {} Try.checked os 5 .any (Rows.intervalMeetsSpec.pre6 enc Try.prog Try.f5 Rows.intervalMeetsRow.domain false) (Rows.intervalMeetsSpec.post enc Try.prog Try.f5 false true false false) := by
  refine returnsInHanded_of_change_sized (C := Try.checked) own started (by kernel_rfl) Try.func5
    (ChangeSpec.witness6 (enc := enc) (C := Try.checked) false ⟨#[], #[.slice none 0 0, .int .i64 0, .int .i64 0, .int .i64 0], []⟩ 8 (by kernel_rfl) (by kernel_rfl) (by kernel_rfl) (by kernel_rfl)) ?_
  intro W base args ds gs before hval0 hW hcnd hsz _
  have hval : ∀ (j : Nat) t v, Try.f5.params[j]? = some t → args[j]? = some v → Value.okWide Try.prog W .any base t v := hval0
  have hW' := hW
  obtain ⟨p, q, hA0, hV, rfl, hfz, hnd⟩ := hW
  have hA : DataW.TrodAll enc Try.prog W 0 (fun _ => true) true Try.f5.params.toList args.toList ds p := hA0
  rw [Try.params5] at hA hval hsz
  obtain ⟨v0, vs0, d0, ds0, p0, q0, hargs, rfl, rfl, h0, r0⟩ := trodAll_cons hA
  obtain ⟨v1, vs1, d1, ds1, p1, q1, rfl, rfl, rfl, h1, r1⟩ := trodAll_cons r0
  obtain ⟨v2, vs2, d2, ds2, p2, q2, rfl, rfl, rfl, h2, r2⟩ := trodAll_cons r1
  obtain ⟨v3, vs3, d3, ds3, p3, q3, rfl, rfl, rfl, h3, r3⟩ := trodAll_cons r2
  obtain ⟨rfl, rfl, rfl⟩ := trodAll_nil r3
  obtain rfl : args = #[v0, v1, v2, v3] := by cases args; simp_all
  obtain ⟨rfl, rfl⟩ := trodVars_none hV
  obtain ⟨a0, n0, c0, rfl⟩ := okWide_slice Try.underlying22 (hval 0 22 v0 rfl rfl)
  have k0 := h0
  have lt0 : ∀ x ∈ p0, x.block < W.heap.size := by obtain ⟨m, hm⟩ := k0; exact DataW.trod_lt m _ _ _ hm
  obtain ⟨z0, w0⟩ : ∃ l, Acts W (.slice a0 n0 c0) l := by
    obtain ⟨fuel, hf⟩ := h0
    obtain ⟨l, v, hcs, hl⟩ := open_acts hf (fun elems sp hx => by
      simp only at hx
      subst hx
      have hre := sized_slice hsz (j := 0) (t := 22) rfl rfl Try.underlying22
      have hby : Try.checked.prog.bytesOf 63 = 48 := by kernel_rfl
      rw [hby] at hre
      simp only [reachBytes] at hre
      omega)
    simp [Value.cells] at hcs
    subst hcs
    exact ⟨l, hl⟩
  obtain ⟨a1, rfl, rfl, rfl, w1⟩ := open_int Try.underlying3 (hval 1 3 v1 rfl rfl) h1
  have b1 := wf_i64 w1
  obtain ⟨a2, rfl, rfl, rfl, w2⟩ := open_int Try.underlying3 (hval 2 3 v2 rfl rfl) h2
  have b2 := wf_i64 w2
  obtain ⟨a3, rfl, rfl, rfl, w3⟩ := open_int Try.underlying3 (hval 3 3 v3 rfl rfl) h3
  have b3 := wf_i64 w3
  clear hA0 hval0
  refine (IntervalMeets_walk z0 (.slice a0 n0 c0) a1 a2 a3 W w0 b1.1 b1.2 b2.1 b2.2 b3.1 b3.2).mono fun e W' ⟨he, bel⟩ => ?_
  subst he
  exact ⟨_, rfl, _, _, _, [], _, [], hW', trodAll_mk1 (shut_bool Try.underlying4 _), (trodAll_cons_mk (Below.trod laidOut (by kernel_rfl) (of_decide_eq_true (by kernel_rfl)) k0 bel lt0) (trodAll_cons_mk (shut_int Try.underlying3 w1) (trodAll_cons_mk (shut_int Try.underlying3 w2) (trodAll_cons_mk (shut_int Try.underlying3 w3) trodAll_mk0)))), rfl, bel.frame _, fun h => by cases h⟩
theorem over : Rows.intervalMeetsRow.holds Try.pinned (OpenSpec.ofChange Rows.intervalMeetsSpec) :=
  OpenClaim.holds_of_wide 5 Try.f5 rfl rfl rfl rfl rfl rfl rfl ⟨rfl, rfl, rfl, rfl, rfl⟩ rfl rfl rfl rfl rfl (by kernel_rfl) Try.func5 (by kernel_rfl)
    (of_decide_eq_true (by kernel_rfl)) (by unfold Func.isWrapper; first | (rw [if_pos (by decide +kernel)]; kernel_rfl) | (rw [if_neg (by decide +kernel)]; exact ⟨rfl, rfl⟩))
    (fun os started H enc _ => lifted os started H enc)
end LawIntervalMeets
/-- The given statement. -/
theorem intervalMeets_proved : Rows.IntervalMeetsSaid := LawIntervalMeets.over
#print axioms intervalMeets_proved
end Go.Proofs.Ythmbnffddpnehaa
