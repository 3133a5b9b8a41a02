/- What the reference's Gaps computes, number by number. -/
import Derived.Test.YthmbnffddpnehaaIRef2
import Derived.Test.YthmbnffddpnehaaISame
import Derived.Laws.OwnMore
namespace Go.Proofs.Ythmbnffddpnehaa
open Go.RowKit
set_option linter.unusedVariables false
set_option linter.unusedSimpArgs false
/-- One number more. -/
def gstep (l : List (Int × Int)) (u : Int) : List (Int × Int) := match l.getLast? with
  | some s => if s.2 = u - 1 then l.dropLast ++ [(s.1, u)] else l ++ [(u, u)]
  | none => l ++ [(u, u)]
/-- So many numbers. -/
def refG (L : List It) (f : Int) : Nat → List (Int × Int)
  | 0 => []
  | n + 1 => if metL L (f + n) (f + n) = [] then gstep (refG L f n) (f + n) else refG L f n
theorem gstep_len (l : List (Int × Int)) (u : Int) : (gstep l u).length ≤ l.length + 1 := by
  unfold gstep
  split
  · rename_i s h
    split
    · simp
    · simp
  · simp
theorem refG_len (L : List It) (f : Int) : ∀ n, (refG L f n).length ≤ n
  | 0 => by simp [refG]
  | n + 1 => by
    have := refG_len L f n
    simp only [refG]
    split
    · have := gstep_len (refG L f n) (f + n)
      omega
    · omega
theorem sCells_last (l : List (Int × Int)) (a b u : Int) : (sCells (l ++ [(a, b)])).set (l.length * 2 + 1) (.int .i64 u) = sCells (l ++ [(a, u)]) := by
  rw [sCells_append, sCells_append, List.set_append_right _ _ (by rw [sCells_length]; omega), sCells_length]
  congr 1
  have : l.length * 2 + 1 - l.length * 2 = 1 := by omega
  rw [this]
  rfl
set_option maxRecDepth 100000 in
set_option maxHeartbeats 8000000 in
theorem RGaps_c (last : Int) (v : Value) (l : List It) (f t : Int) (N : Nat) (w : World) (hv : ROwn w v l) (hN : t = f + (N : Int) - 1) (hn : N ≤ 1000) (hf : -4611686018427387904 ≤ f ∧ f ≤ 4611686018427387904) :
    Calls Try.prog 11 #[.agg #[v, .int .i64 last], .int .i64 f, .int .i64 t] w fun e w' => ∃ B c, e = .returned (.slice B (refG l f N).length c) ∧ RSpans w' (.slice B (refG l f N).length c) (refG l f N) ∧ Grow w w' := by
  obtain ⟨A, c, rfl, -, -, hca⟩ := hv.items
  have HV := hid (fun (w' : World) (g : Grow w w') (a : Int) => RMeet_c last _ l a a w' (hv.grow g))
  clear hca hv
  generalize l.length = nl at *
  have HG := hid (Grow.alloc w (.cells #[.slice A nl c, .int .i64 last] 26))
  have HR0 := hid (heap_new w (.cells #[.slice A nl c, .int .i64 last] 26))
  have hsz : (w.alloc (.cells #[.slice A nl c, .int .i64 last] 26)).heap.size = w.heap.size + 1 := by simp
  have HSZ := hid hsz
  have HLE := hid (fun n => refG_len l f n)
  clear hsz
  subst hN
  go_enter Try.func11, Try.ntmps11
  go_wp2_with fail
  generalize w.alloc (.cells #[.slice A nl c, .int .i64 last] 26) = w2 at *
  have hs2 := HSZ.out
  go_loopw [7, 8] (fun lv q wr => ∃ (j : Nat) (B : Option Addr) (m cc : Nat), j ≤ N ∧ q = .int .i64 (f + (j : Int)) ∧ lv = .slice B m cc ∧ m ≤ j ∧ Hid (m = (refG l f j).length) ∧ Grow w2 wr ∧ Hid (wr.ownsRow w2.heap.size 36 2 (.slice B m cc) m (sCells (refG l f j)))) (fun _ q _ => (f + N - intOf q).toNat)
  case atStart => exact ⟨0, none, 0, 0, by omega, by simp, rfl, by omega, hid rfl, Grow.refl _, hid (World.ownsRow_nil _ _ _ _)⟩
  case round =>
    obtain ⟨j, B, m, cc, hj, rfl, rfl, hmj, HM, hg2, HO⟩ := hrel
    have r0 := hg2.heap HR0.out
    have p0 : wr.cell? ⟨w.heap.size, 0, none⟩ = some (.slice A nl c) := by rw [heap_cell r0]; rfl
    have p1 : wr.cell? ⟨w.heap.size, 1, none⟩ = some (.int .i64 last) := by rw [heap_cell r0]; rfl
    have hgs := hg2.size
    have hlw0 := heap_lt r0
    clear r0
    by_cases hlt : j < N
    · have hj1 : f + (j : Int) ≤ f + (N : Int) - 1 := by omega
      have hst : refG l f (j + 1) = if metL l (f + j) (f + j) = [] then gstep (refG l f j) (f + j) else refG l f j := rfl
      go_wp2_with fail
      refine (HV.out wr (Grow.trans HG.out hg2) _).mono ?_
      rintro e w4 ⟨B', c', rfl, -, g4⟩
      by_cases hme : metL l (f + j) (f + j) = []
      · rw [if_pos hme] at hst
        rw [hme]
        dsimp only [List.length_nil]
        have HM1 := HM.out
        have HO4 := hid (own_grow HO.out g4)
        have hg5 := Grow.trans hg2 g4
        clear HO p0 p1 hgs hlw0
        rcases List.eq_nil_or_concat (refG l f j) with h0 | ⟨L0, ⟨a, b⟩, h0⟩
        · rw [h0] at hst HM1 HO4
          obtain rfl : m = 0 := HM1
          have HST := hid (show refG l f (j + 1) = [] ++ [(f + (j : Int), f + (j : Int))] from hst)
          clear hst h0 hme
          have hgs := hg5.size
          go_wp2_with (at_builtin; refine wpList_pushH _ rfl rfl _ _ 30 rfl 36 (.agg #[.int .i64 0, .int .i64 0]) 2 16 Try.underlying30 infoSpan rfl (by omega) w2.heap.size _ 0 _ rfl HO4.out [_, _] rfl rfl (by simp [Value.oneCell']) (by unfold maxLen; omega) (by omega) hgs ?_)
          intro v' w5 ho5 hg5' hs5
          obtain ⟨A5, c5, rfl⟩ := own_form ho5
          have HO5 := hid (show w5.ownsRow w2.heap.size 36 2 (.slice A5 1 c5) 1 (sCells (refG l f (j + 1))) from by rw [HST.out, hs2]; exact ho5)
          have hg6 : Grow w2 w5 := Below.grown hg5 hg5' (by omega) (fun q hq => HO4.out.own_le q hq)
          clear ho5 hg5' hs5 HO4
          go_wp2_with fail
          refine ⟨⟨j + 1, A5, 1, c5, by omega, by push_cast; rw [Int.add_assoc], rfl, by omega, hid (by rw [HST.out]; rfl), hg6, HO5⟩, ?_⟩
          simp [intOf]
          omega
        · rw [List.concat_eq_append] at h0
          rw [h0] at hst HM1 HO4
          obtain ⟨m', rfl⟩ : ∃ m', m = m' + 1 := ⟨m - 1, by simp at HM1; omega⟩
          have hm' : m' = L0.length := by simpa using HM1
          have hB := HO4.out
          rcases hB.2 with ⟨h9, -⟩ | ⟨g, cap, cur, h9, hbl, -⟩
          · injection h9 with _ h9 _; omega
          · injection h9 with h9 _ h99
            subst h9
            subst h99
            have c1 := hB.cellAt (m' * 2 + 1) (by omega)
            have e1 := sCells_at (L0 ++ [(a, b)]) m' 1 (by simp; omega) (by omega)
            subst hm'
            simp only [List.getElem_append_right (Nat.le_refl _), Nat.sub_self, List.getElem_cons_zero] at e1
            have c2 : w4.cell? ⟨g, L0.length * 2 + 1, none⟩ = some (.int .i64 b) := c1.trans e1
            have hgl := World.block_lt_of_cell? w4 _ c2
            simp only at hgl
            have hf1 := hB.frozenAt (L0.length * 2 + 1)
            clear c1 e1 hB HM1 hme
            by_cases hb : b = f + (j : Int) - 1
            · have HST := hid (show refG l f (j + 1) = L0 ++ [(a, f + (j : Int))] from by rw [hst]; unfold gstep; simp [hb])
              clear hst h0
              have hst2 := HO4.out.stored (L0.length * 2 + 1) (.int .i64 (f + (j : Int)))
              rw [sCells_last, ← HST.out] at hst2
              have HO5 := hid hst2.1
              have hg6 : Grow w2 (w4.setCell ⟨g, L0.length * 2 + 1, none⟩ (.int .i64 (f + (j : Int)))) := Below.grown hg5 hst2.2 (by have := hg5.size; omega) (fun q hq => by cases hq; exact hbl)
              clear hst2 HO4
              go_wp2_with fail
              refine ⟨⟨j + 1, _, L0.length + 1, cc, by omega, by push_cast; rw [Int.add_assoc], rfl, by omega, hid (by rw [HST.out]; simp), hg6, HO5⟩, ?_⟩
              simp [intOf]
              omega
            · have HST := hid (show refG l f (j + 1) = (L0 ++ [(a, b)]) ++ [(f + (j : Int), f + (j : Int))] from by rw [hst]; unfold gstep; simp [hb])
              clear hst h0
              have hgs := hg5.size
              go_wp2_with (at_builtin; refine wpList_pushH _ rfl rfl _ _ 30 rfl 36 (.agg #[.int .i64 0, .int .i64 0]) 2 16 Try.underlying30 infoSpan rfl (by omega) w2.heap.size _ (L0.length + 1) _ rfl HO4.out [_, _] rfl rfl (by simp [Value.oneCell']) (by unfold maxLen; omega) (by omega) hgs ?_)
              intro v' w5 ho5 hg5' hs5
              obtain ⟨A5, c5, rfl⟩ := own_form ho5
              have HO5 := hid (show w5.ownsRow w2.heap.size 36 2 (.slice A5 (L0.length + 1 + 1) c5) (L0.length + 1 + 1) (sCells (refG l f (j + 1))) from by rw [HST.out, hs2, sCells_append]; exact ho5)
              have hg6 : Grow w2 w5 := Below.grown hg5 hg5' (by omega) (fun q hq => HO4.out.own_le q hq)
              clear ho5 hg5' hs5 HO4 c2 hf1 hgl
              go_wp2_with fail
              refine ⟨⟨j + 1, A5, L0.length + 1 + 1, c5, by omega, by push_cast; rw [Int.add_assoc], rfl, by omega, hid (by rw [HST.out]; simp), hg6, HO5⟩, ?_⟩
              simp [intOf]
              omega
      · rw [if_neg hme] at hst
        have HST := hid hst
        have hpos : 0 < (metL l (f + j) (f + j)).length := List.length_pos_iff.2 hme
        generalize (metL l (f + j) (f + j)).length = K at *
        clear hst hme
        have HO4 := hid (own_grow HO.out g4)
        have hg5 := Grow.trans hg2 g4
        clear HO p0 p1 hgs hlw0
        go_wp2_with fail
        refine ⟨⟨j + 1, B, m, cc, by omega, by push_cast; rw [Int.add_assoc], rfl, by omega, hid (by rw [HST.out]; exact HM.out), hg5, hid (by rw [HST.out]; exact HO4.out)⟩, ?_⟩
        simp [intOf]
        omega
    · obtain rfl : j = N := by omega
      have hj1 : ¬ f + (j : Int) ≤ f + (j : Int) - 1 := by omega
      go_wp2_with fail
      go_ret
      have hm := HM.out
      have := RSpans.of_own (L := refG l f j) (by rw [← hm]; exact HO.out) (by omega)
      rw [← hm]
      exact ⟨_, _, rfl, this, Grow.trans HG.out hg2⟩
end Go.Proofs.Ythmbnffddpnehaa
