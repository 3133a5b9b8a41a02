/- What the reference's Remove and Meet compute. -/
import Derived.Test.YthmbnffddpnehaaIRef
import Derived.Test.YthmbnffddpnehaaPush
import Derived.Deep.RegionHeld3
namespace Go.Proofs.Ythmbnffddpnehaa
open Go.RowKit
set_option linter.unusedVariables false
set_option linter.unusedSimpArgs false
set_option maxRecDepth 100000 in
set_option maxHeartbeats 4000000 in
theorem RRemove_c (last : Int) (v : Value) (l : List It) (k : Int) (w : World) (hv : ROwn w v l) :
    Calls Try.prog 22 #[.agg #[v, .int .i64 last], .int .i64 k] w fun e w' => ∃ v', e = .returned (.tuple #[.agg #[v', .int .i64 last], .bool (decide (((wout k l).length : Int) < (l.length : Int)))]) ∧ ROwn w' v' (wout k l) ∧ Grow w w' := by
  have hl4 := hv.2
  obtain ⟨A, c, rfl, hl, -, hca⟩ := hv.items
  clear hv
  have HX := hid (show ∀ j (hj : j < l.length), ∃ g, A = some ⟨g, 0, none⟩ ∧ RItAt w g (j * 4) l[j] from fun j hj => by
    obtain ⟨g, e, h⟩ := hca (by omega)
    exact ⟨g, e, h j hj⟩)
  clear hca hl
  have hl := hl4
  clear hl4
  have HLL := hid (show wout k l = wout k (l.take l.length) from by rw [List.take_length])
  have HST := hid (fun j hj => wout_snoc k l j hj)
  have HLE := hid (fun j => wout_len k l j)
  rw [HLL.out]
  obtain ⟨n, hN⟩ : ∃ n, n = l.length := ⟨_, rfl⟩
  rw [← hN] at hl ⊢
  have HN := hid hN
  clear hN HLL
  have HG := hid (Grow.trans (Grow.alloc w (.cells #[.slice A n c, .int .i64 last] 26)) (Grow.alloc _ (.cells #[.slice none 0 0, .int .i64 0] 26)))
  have HR0 := hid (heap_alloc_keep (heap_new w (.cells #[.slice A n c, .int .i64 last] 26)) (.cells #[.slice none 0 0, .int .i64 0] 26))
  have HR1 := hid (heap_newAt (n := w.heap.size + 1) (w.alloc (.cells #[.slice A n c, .int .i64 last] 26)) (.cells #[.slice none 0 0, .int .i64 0] 26) (by simp))
  have hsz : ((w.alloc (.cells #[.slice A n c, .int .i64 last] 26)).alloc (.cells #[.slice none 0 0, .int .i64 0] 26)).heap.size = w.heap.size + 1 + 1 := by simp
  have HSZ := hid hsz
  clear hsz
  go_enter Try.func22, Try.ntmps22
  go_wp2_with fail
  generalize ((w.alloc (.cells #[.slice A n c, .int .i64 last] 26)).alloc (.cells #[.slice none 0 0, .int .i64 0] 26)) = w2 at *
  have hs2 := HSZ.out
  go_loopw [6, 7] (fun lv q wr => ∃ (j : Nat) (B : Option Addr) (m cc : Nat), j ≤ n ∧ q = .int .i64 (j : Int) ∧ lv = .slice B m cc ∧ Hid (m = (wout k (l.take j)).length) ∧ Grow w2 wr ∧ Hid (wr.ownsRow w2.heap.size 50 4 (.slice B m cc) m (rCells (wout k (l.take j))))) (fun _ q _ => n - (intOf q).toNat)
  case atStart => exact ⟨0, none, 0, 0, by omega, rfl, rfl, hid (by simp [wout]), Grow.refl _, hid (World.ownsRow_nil _ _ _ _)⟩
  case round =>
    obtain ⟨j, B, m, cc, hj, rfl, rfl, HM, hg2, HO⟩ := hrel
    have hj0 : (0 : Int) ≤ (j : Int) := by omega
    have hmj : m ≤ j := by rw [HM.out]; exact HLE.out j
    have r0 := hg2.heap HR0.out
    have r1 := hg2.heap HR1.out
    have p0 : wr.cell? ⟨w.heap.size, 0, none⟩ = some (.slice A n c) := by rw [heap_cell r0]; rfl
    have p1 : wr.cell? ⟨w.heap.size, 1, none⟩ = some (.int .i64 last) := by rw [heap_cell r0]; rfl
    have q0 : wr.cell? ⟨w.heap.size + 1, 0, none⟩ = some (.slice none 0 0) := by rw [heap_cell r1]; rfl
    have q1 : wr.cell? ⟨w.heap.size + 1, 1, none⟩ = some (.int .i64 0) := by rw [heap_cell r1]; rfl
    have k0 : wr.frozen? ⟨w.heap.size + 1, 0, none⟩ = false := heap_frozen r1 0 (by omega)
    have k1 : wr.frozen? ⟨w.heap.size + 1, 1, none⟩ = false := heap_frozen r1 1 (by omega)
    have hgs := hg2.size
    have HR1' := hid r1
    have hlw0 := heap_lt r0
    have hlw1 := heap_lt r1
    clear r0 r1
    by_cases hlt : j < n
    · have hj1 : (j : Int) < (n : Int) := by omega
      have hj2 : j < l.length := by have := HN.out; omega
      have hst := HST.out j hj2
      obtain ⟨g, rfl, ha⟩ := HX.out j hj2
      obtain ⟨x, hx⟩ : ∃ x, l[j] = x := ⟨_, rfl⟩
      rw [hx] at ha hst
      clear hx
      obtain ⟨id, f, t, s⟩ := x
      unfold RItAt at ha
      dsimp only at ha hst
      obtain ⟨a0, a1, a2, a3⟩ := ha
      replace a0 := hg2.cell (HG.out.cell a0)
      replace a1 := hg2.cell (HG.out.cell a1)
      replace a2 := hg2.cell (HG.out.cell a2)
      replace a3 := hg2.cell (HG.out.cell a3)
      by_cases hk : id = k
      · rw [if_pos hk] at hst
        have HST1 := hid hst
        have e0 : (id != k) = false := by simp [hk]
        clear hst hk
        go_wp2_with fail
        refine ⟨⟨j + 1, B, m, cc, by omega, by push_cast; rfl, rfl, ?_, hg2, ?_⟩, ?_⟩
        · rw [HST1.out]; exact HM
        · rw [HST1.out]; exact HO
        · simp [intOf]; omega
      · rw [if_neg hk] at hst
        have HST1 := hid hst
        have e0 : (id != k) = true := by simpa using hk
        have hOB := HO.out
        clear hst hk
        go_wp2_with (at_builtin; refine wpList_pushH _ rfl rfl _ _ 24 rfl 50 (.agg #[.int .i64 0, .int .i64 0, .int .i64 0, .string ByteArray.empty]) 4 40 Try.underlying24 infoRItem rfl (by omega) w2.heap.size _ m _ rfl HO.out [_, _, _, _] rfl rfl (by simp [Value.oneCell']) (by unfold maxLen; omega) (by omega) hgs ?_)
        intro v' w5 ho5 hg5 hs5
        obtain ⟨A5, c5, rfl⟩ := own_form ho5
        have HST2 := hid (show m + 1 = (wout k (l.take (j + 1))).length from by rw [HST1.out, List.length_append, ← HM.out]; rfl)
        have HO5 := hid (show w5.ownsRow w2.heap.size 50 4 (.slice A5 (m + 1) c5) (m + 1) (rCells (wout k (l.take (j + 1)))) from by
          rw [HST1.out, rCells_append]
          rw [hs2]
          exact ho5)
        have hg6 : Grow w2 w5 := Below.grown hg2 hg5 (by omega) (fun q hq => hOB.own_le q hq)
        clear ho5 hg5 HO hOB
        go_wp2_with fail
        refine ⟨⟨j + 1, A5, m + 1, c5, by omega, by push_cast; rfl, rfl, HST2, hg6, HO5⟩, ?_⟩
        simp [intOf]
        omega
    · obtain rfl : j = n := by omega
      go_wp2_with fail
      go_region_held3 (fun w' => w'.cell? ⟨w.heap.size, 0, none⟩ = some (.slice A j c) ∧ w'.cell? ⟨w.heap.size, 1, none⟩ = some (.int .i64 last)) (go_keep) (fail)
      go_wp2_with fail
      (try simp only [Exit.inBlock, Exit.then])
      have hm := HM.out
      have ho := own_set (own_set HO.out (w.heap.size + 1) 0 (.slice B m cc) (by omega)) (w.heap.size + 1) 1 (.int .i64 last) (by omega)
      refine bodyPost_ret (v := .tuple #[.agg #[.slice B m cc, .int .i64 last], .bool (decide (m < j))]) ?_ rfl ⟨.slice B m cc, by rw [← hm, show (decide ((m : Int) < (j : Int))) = decide (m < j) from by simp], ?_, ?_⟩
      · refine results_cellK2 (fn := Try.f22) (p := 4) (u := 5) rfl _ _ (w.heap.size + 1) 26 _ (0, 0) _ rfl ((Grow.drew _).heap (heap_set (heap_set HR1'.out 0 _) 1 _)) Try.underlying26 rfl ?_
        kernel_rfl
      · refine ⟨⟨w2.heap.size, ?_⟩, by omega⟩
        rw [← hm]
        exact ho
      · exact Below.drew (Below.setCell (Below.setCell (Grow.trans HG.out hg2) (Nat.le_succ _) _) (Nat.le_succ _) _)
theorem metL_snoc (f t : Int) (l : List It) (j : Nat) (hj : j < l.length) : metL (l.take (j + 1)) f t = if f ≤ t ∧ (l[j]).f ≤ t ∧ f ≤ (l[j]).t then metL (l.take j) f t ++ [l[j]] else metL (l.take j) f t := by
  unfold metL
  rw [List.take_succ_eq_append_getElem hj, List.filter_append]
  by_cases h0 : f ≤ t
  · simp only [h0, if_true, true_and]
    by_cases h : (l[j]).f ≤ t ∧ f ≤ (l[j]).t
    · rw [if_pos h]
      simp [Tr.meets, h.1, h.2]
    · rw [if_neg h]
      have : Tr.meets f t l[j] = false := by
        simp only [Tr.meets]
        by_cases h1 : (l[j]).f ≤ t
        · have h2 : ¬ f ≤ (l[j]).t := fun h2 => h ⟨h1, h2⟩
          simp [h2]
        · simp [h1]
      simp [this]
  · simp [h0]
theorem metL_len (f t : Int) (l : List It) (j : Nat) : (metL (l.take j) f t).length ≤ j := by
  unfold metL
  split
  · exact Nat.le_trans (List.length_filter_le _ _) (by rw [List.length_take]; omega)
  · simp
set_option maxRecDepth 100000 in
set_option maxHeartbeats 4000000 in
theorem RMeet_c (last : Int) (v : Value) (l : List It) (f t : Int) (w : World) (hv : ROwn w v l) :
    Calls Try.prog 14 #[.agg #[v, .int .i64 last], .int .i64 f, .int .i64 t] w fun e w' => ∃ B c, e = .returned (.slice B (metL l f t).length c) ∧ ROwn w' (.slice B (metL l f t).length c) (metL l f t) ∧ Grow w w' := by
  have hl4 := hv.2
  obtain ⟨A, c, rfl, hl, -, hca⟩ := hv.items
  clear hv
  have HX := hid (show ∀ j (hj : j < l.length), ∃ g, A = some ⟨g, 0, none⟩ ∧ RItAt w g (j * 4) l[j] from fun j hj => by
    obtain ⟨g, e, h⟩ := hca (by omega)
    exact ⟨g, e, h j hj⟩)
  clear hca hl
  have hl := hl4
  clear hl4
  have HLL := hid (show metL l f t = metL (l.take l.length) f t from by rw [List.take_length])
  have HST := hid (fun j hj => metL_snoc f t l j hj)
  have HLE := hid (fun j => metL_len f t l j)
  rw [HLL.out]
  obtain ⟨n, hN⟩ : ∃ n, n = l.length := ⟨_, rfl⟩
  rw [← hN] at hl ⊢
  have HN := hid hN
  clear hN HLL
  have HG := hid (Grow.alloc w (.cells #[.slice A n c, .int .i64 last] 26))
  have HR0 := hid (heap_new w (.cells #[.slice A n c, .int .i64 last] 26))
  have hsz : (w.alloc (.cells #[.slice A n c, .int .i64 last] 26)).heap.size = w.heap.size + 1 := by simp
  have HSZ := hid hsz
  clear hsz
  go_enter Try.func14, Try.ntmps14
  go_wp2_with fail
  generalize w.alloc (.cells #[.slice A n c, .int .i64 last] 26) = w2 at *
  have hs2 := HSZ.out
  go_loopw [7, 8] (fun lv q wr => ∃ (j : Nat) (B : Option Addr) (m cc : Nat), j ≤ n ∧ q = .int .i64 (j : Int) ∧ lv = .slice B m cc ∧ Hid (m = (metL (l.take j) f t).length) ∧ Grow w2 wr ∧ Hid (wr.ownsRow w2.heap.size 50 4 (.slice B m cc) m (rCells (metL (l.take j) f t)))) (fun _ q _ => n - (intOf q).toNat)
  case atStart => exact ⟨0, none, 0, 0, by omega, rfl, rfl, hid (by simp [metL]), Grow.refl _, hid (by rw [show metL (l.take 0) f t = [] from by simp [metL]]; exact World.ownsRow_nil _ _ _ _)⟩
  case round =>
    obtain ⟨j, B, m, cc, hj, rfl, rfl, HM, hg2, HO⟩ := hrel
    have hj0 : (0 : Int) ≤ (j : Int) := by omega
    have hmj : m ≤ j := by rw [HM.out]; exact HLE.out j
    have r0 := hg2.heap HR0.out
    have p0 : wr.cell? ⟨w.heap.size, 0, none⟩ = some (.slice A n c) := by rw [heap_cell r0]; rfl
    have hgs := hg2.size
    have hlw0 := heap_lt r0
    clear r0
    by_cases hlt : j < n
    · have hj1 : (j : Int) < (n : Int) := by omega
      have hj2 : j < l.length := by have := HN.out; omega
      have hst := HST.out j hj2
      obtain ⟨g, rfl, ha⟩ := HX.out j hj2
      obtain ⟨x, hx⟩ : ∃ x, l[j] = x := ⟨_, rfl⟩
      rw [hx] at ha hst
      clear hx
      obtain ⟨id, xf, xt, s⟩ := x
      unfold RItAt at ha
      dsimp only at ha hst
      obtain ⟨a0, a1, a2, a3⟩ := ha
      replace a0 := hg2.cell (HG.out.cell a0)
      replace a1 := hg2.cell (HG.out.cell a1)
      replace a2 := hg2.cell (HG.out.cell a2)
      replace a3 := hg2.cell (HG.out.cell a3)
      by_cases hk : f ≤ t ∧ xf ≤ t ∧ f ≤ xt
      · rw [if_pos hk] at hst
        have HST1 := hid hst
        have hOB := HO.out
        obtain ⟨k1, k2, k3⟩ := hk
        clear hst
        go_wp2_with (at_builtin; refine wpList_pushH _ rfl rfl _ _ 24 rfl 50 (.agg #[.int .i64 0, .int .i64 0, .int .i64 0, .string ByteArray.empty]) 4 40 Try.underlying24 infoRItem rfl (by omega) w2.heap.size _ m _ rfl HO.out [_, _, _, _] rfl rfl (by simp [Value.oneCell']) (by unfold maxLen; omega) (by omega) hgs ?_)
        intro v' w5 ho5 hg5 hs5
        obtain ⟨A5, c5, rfl⟩ := own_form ho5
        have HST2 := hid (show m + 1 = (metL (l.take (j + 1)) f t).length from by rw [HST1.out, List.length_append, ← HM.out]; rfl)
        have HO5 := hid (show w5.ownsRow w2.heap.size 50 4 (.slice A5 (m + 1) c5) (m + 1) (rCells (metL (l.take (j + 1)) f t)) from by
          rw [HST1.out, rCells_append]
          rw [hs2]
          exact ho5)
        have hg6 : Grow w2 w5 := Below.grown hg2 hg5 (by omega) (fun q hq => hOB.own_le q hq)
        clear ho5 hg5 HO hOB
        go_wp2_with fail
        refine ⟨⟨j + 1, A5, m + 1, c5, by omega, by push_cast; rfl, rfl, HST2, hg6, HO5⟩, ?_⟩
        simp [intOf]
        omega
      · rw [if_neg hk] at hst
        have HST1 := hid hst
        clear hst
        have hk2 : t < f ∨ (f ≤ t ∧ t < xf) ∨ (f ≤ t ∧ xf ≤ t ∧ xt < f) := by omega
        clear hk
        rcases hk2 with k1 | ⟨k1, k2⟩ | ⟨k1, k2, k3⟩
        all_goals
          go_wp2_with fail
          refine ⟨⟨j + 1, B, m, cc, by omega, by push_cast; rfl, rfl, ?_, hg2, ?_⟩, ?_⟩
          · rw [HST1.out]; exact HM
          · rw [HST1.out]; exact HO
          · simp [intOf]; omega
    · obtain rfl : j = n := by omega
      go_wp2_with fail
      go_ret
      have hm := HM.out
      rw [← hm]
      refine ⟨_, _, rfl, ⟨⟨w2.heap.size, ?_⟩, by omega⟩, Grow.trans HG.out hg2⟩
      rw [← hm]
      exact HO.out
end Go.Proofs.Ythmbnffddpnehaa
