/- What the reference's Add computes. -/
import Derived.Test.YthmbnffddpnehaaIRef2
namespace Go.Proofs.Ythmbnffddpnehaa
open Go.RowKit
set_option linter.unusedVariables false
set_option linter.unusedSimpArgs false
theorem results_cellK3 {P : Program} {fn : Func} {p u v : Tmp} {ty : TypeId} (h : fn.results = #[.cell p ty, .tmp u, .tmp v]) (tmps : Array Value) (w : World) (g : Nat) (t : TypeId) (cs : Array Value) (fr : Nat × Nat) (d : TypeDesc)
    (hp : tmps.getD p undef = .pointer (some ⟨g, 0, none⟩)) (hg : w.heap[g]? = some (.cells cs t fr))
    (hu : P.underlying ty = some d) (hd : (match d with | .struct _ | .array _ _ => true | _ => false) = true) (hi : (P.info? ty).map (·.size) = some cs.size) :
    (results fn tmps).run P w = .ok (.tuple #[.agg cs, tmps.getD u undef, tmps.getD v undef]) w := by
  have hp' : tmps[p]?.getD undef = .pointer (some ⟨g, 0, none⟩) := by simpa using hp
  simp [results, h, hp', asAddr, Result.andThen, run_loadVar_row w g t ty cs fr d hg hu hd hi]
/-- The reference's loop: what has been laid, and whether the new one is among it. -/
def addS (y : It) (l : List It) : List It × Bool := l.foldl (fun s x => if s.2 = false ∧ y.f < x.f then (s.1 ++ [y] ++ [x], true) else (s.1 ++ [x], s.2)) ([], false)
theorem addS_true (y : It) : ∀ (l acc : List It), l.foldl (fun s x => if s.2 = false ∧ y.f < x.f then (s.1 ++ [y] ++ [x], true) else (s.1 ++ [x], s.2)) (acc, true) = (acc ++ l, true)
  | [], acc => by simp
  | x :: l, acc => by
    rw [List.foldl_cons]
    have : ¬ ((acc, true).2 = false ∧ y.f < x.f) := by simp
    rw [if_neg this, addS_true y l]
    simp
theorem addS_false (y : It) : ∀ (l acc : List It), (let s := l.foldl (fun s x => if s.2 = false ∧ y.f < x.f then (s.1 ++ [y] ++ [x], true) else (s.1 ++ [x], s.2)) (acc, false); if s.2 then s.1 else s.1 ++ [y]) = acc ++ addL y l
  | [], acc => by simp [addL]
  | x :: l, acc => by
    rw [List.foldl_cons]
    by_cases h : y.f < x.f
    · have : ((acc, false).2 = false ∧ y.f < x.f) := by simp [h]
      rw [if_pos this, addS_true y l]
      simp [addL, h]
    · have : ¬ ((acc, false).2 = false ∧ y.f < x.f) := by simp [h]
      rw [if_neg this]
      have := addS_false y l (acc ++ [x])
      simp only at this ⊢
      rw [this]
      simp [addL, h]
theorem addS_end (y : It) (l : List It) : (if (addS y l).2 then (addS y l).1 else (addS y l).1 ++ [y]) = addL y l := by
  have := addS_false y l []
  simpa [addS] using this
theorem addS_snoc (y : It) (l : List It) (j : Nat) (hj : j < l.length) : addS y (l.take (j + 1)) = if (addS y (l.take j)).2 = false ∧ y.f < (l[j]).f then ((addS y (l.take j)).1 ++ [y] ++ [l[j]], true) else ((addS y (l.take j)).1 ++ [l[j]], (addS y (l.take j)).2) := by
  unfold addS
  rw [List.take_succ_eq_append_getElem hj, List.foldl_append]
  rfl
theorem addS_len (y : It) (l : List It) (j : Nat) (hj : j ≤ l.length) : (addS y (l.take j)).1.length = if (addS y (l.take j)).2 then j + 1 else j := by
  induction j with
  | zero => simp [addS]
  | succ j ih =>
    have := ih (by omega)
    rw [addS_snoc y l j (by omega)]
    by_cases h : (addS y (l.take j)).2 = false ∧ y.f < (l[j]).f
    · rw [if_pos h]
      rw [h.1] at this
      simp at this ⊢
      omega
    · rw [if_neg h]
      simp only [List.length_append, List.length_cons, List.length_nil]
      rw [this]
      split <;> omega
set_option maxRecDepth 100000 in
set_option maxHeartbeats 4000000 in
theorem RAddBad_c (last : Int) (v : Value) (l : List It) (f t : Int) (s : ByteArray) (w : World) (hv : ROwn w v l) (hft : t < f) :
    Calls Try.prog 31 #[.agg #[v, .int .i64 last], .int .i64 f, .int .i64 t, .string s] w fun e w' => e = .returned (.tuple #[.agg #[v, .int .i64 last], .int .i64 0, .int .i64 31]) ∧ Grow w w' := by
  obtain ⟨A, c, rfl, -, -, -⟩ := hv.items
  clear hv
  generalize l.length = n
  go_enter Try.func31, Try.ntmps31
  go_wp2_with fail
  (try simp only [Exit.inBlock, Exit.then])
  refine bodyPost_ret (v := .tuple #[.agg #[.slice A n c, .int .i64 last], .int .i64 0, .int .i64 31]) ?_ rfl ⟨rfl, Grow.trans (Grow.alloc _ _) (Grow.alloc _ _)⟩
  refine results_cellK3 (fn := Try.f31) (p := 8) (u := 9) (v := 10) rfl _ _ (w.heap.size + 1) 26 _ (0, 0) _ rfl (heap_newAt _ _ (by simp)) Try.underlying26 rfl ?_
  kernel_rfl
set_option maxRecDepth 100000 in
set_option maxHeartbeats 8000000 in
theorem RAddGood_c (last : Int) (v : Value) (l : List It) (f t : Int) (s : ByteArray) (w : World) (hv : ROwn w v l) (hft : ¬ t < f) (hl0 : 0 ≤ last) (hl1 : last ≤ 500000) (hln : l.length ≤ 9000) :
    Calls Try.prog 31 #[.agg #[v, .int .i64 last], .int .i64 f, .int .i64 t, .string s] w fun e w' => ∃ v', e = .returned (.tuple #[.agg #[v', .int .i64 (last + 1)], .int .i64 (last + 1), .int .i64 0]) ∧ ROwn w' v' (addL ⟨last + 1, f, t, s⟩ l) ∧ Grow w w' := by
  obtain ⟨A, c, rfl, -, -, hca⟩ := hv.items
  clear hv
  have HX := hid (show ∀ j (hj : j < l.length), ∃ g, A = some ⟨g, 0, none⟩ ∧ RItAt w g (j * 4) l[j] from fun j hj => by
    obtain ⟨g, e, h⟩ := hca (by omega)
    exact ⟨g, e, h j hj⟩)
  clear hca
  obtain ⟨y, hy⟩ : ∃ y : It, y = ⟨last + 1, f, t, s⟩ := ⟨_, rfl⟩
  have hyf : y.f = f := by rw [hy]
  have hyr : rRow y = [.int .i64 (last + 1), .int .i64 f, .int .i64 t, .string s] := by rw [hy]; rfl
  rw [← hy]
  clear hy
  have HYR := hid hyr
  clear hyr
  have HEND := hid (addS_end y l)
  rw [show l = l.take l.length from by rw [List.take_length]] at HEND
  have HST := hid (fun j hj => addS_snoc y l j hj)
  have HLE := hid (fun j hj => addS_len y l j hj)
  have hlen := hid (len_addL y l)
  rw [hyf] at HST
  clear hyf
  have hAL : addL y l = addL y (l.take l.length) := by rw [List.take_length]
  obtain ⟨n, hN⟩ : ∃ n, n = l.length := ⟨_, rfl⟩
  rw [hAL]
  rw [← hN] at hln HEND ⊢
  have HN := hid hN
  clear hN hAL
  have hw : IntKind.i64.wrap (last + 1) = last + 1 := IntWalk.i64_in _ (by omega)
  have HG := hid (Grow.trans (Grow.trans (Grow.alloc w (.cells #[.slice A n c, .int .i64 last] 26)) (Grow.alloc _ (.cells #[.slice none 0 0, .int .i64 0] 26))) (Grow.alloc _ (.cells #[.int .i64 (last + 1), .int .i64 f, .int .i64 t, .string s] 50)))
  have HR0 := hid (heap_alloc_keep (heap_alloc_keep (heap_new w (.cells #[.slice A n c, .int .i64 last] 26)) (.cells #[.slice none 0 0, .int .i64 0] 26)) (.cells #[.int .i64 (last + 1), .int .i64 f, .int .i64 t, .string s] 50))
  have HR1 := hid (heap_alloc_keep (heap_newAt (n := w.heap.size + 1) (w.alloc (.cells #[.slice A n c, .int .i64 last] 26)) (.cells #[.slice none 0 0, .int .i64 0] 26) (by simp)) (.cells #[.int .i64 (last + 1), .int .i64 f, .int .i64 t, .string s] 50))
  have HR2 := hid (heap_newAt (n := w.heap.size + 1 + 1) ((w.alloc (.cells #[.slice A n c, .int .i64 last] 26)).alloc (.cells #[.slice none 0 0, .int .i64 0] 26)) (.cells #[.int .i64 (last + 1), .int .i64 f, .int .i64 t, .string s] 50) (by simp))
  have HSZ := hid (show (((w.alloc (.cells #[.slice A n c, .int .i64 last] 26)).alloc (.cells #[.slice none 0 0, .int .i64 0] 26)).alloc (.cells #[.int .i64 (last + 1), .int .i64 f, .int .i64 t, .string s] 50)).heap.size = w.heap.size + 1 + 1 + 1 by simp)
  go_enter Try.func31, Try.ntmps31
  go_wp2_with fail
  generalize (((w.alloc (.cells #[.slice A n c, .int .i64 last] 26)).alloc (.cells #[.slice none 0 0, .int .i64 0] 26)).alloc (.cells #[.int .i64 (last + 1), .int .i64 f, .int .i64 t, .string s] 50)) = w2 at *
  have hs2 := HSZ.out
  go_loopw [12, 13, 14] (fun lv d q wr => ∃ (j : Nat) (B : Option Addr) (m cc : Nat) (db : Bool) (acc : List It), j ≤ n ∧ q = .int .i64 (j : Int) ∧ lv = .slice B m cc ∧ d = .bool db ∧ m ≤ j + 1 ∧ Hid (m = acc.length) ∧ Hid (addS y (l.take j) = (acc, db)) ∧ Grow w2 wr ∧ Hid (wr.ownsRow w2.heap.size 50 4 (.slice B m cc) m (rCells acc))) (fun _ _ q _ => n - (intOf q).toNat)
  case atStart => exact ⟨0, none, 0, 0, false, [], by omega, rfl, rfl, rfl, by omega, hid rfl, hid (by simp [addS]), Grow.refl _, hid (World.ownsRow_nil _ _ _ _)⟩
  case round =>
    obtain ⟨j, B, m, cc, db, acc, hj, rfl, rfl, rfl, hmj, HM, HS, hg2, HO⟩ := hrel
    have hj0 : (0 : Int) ≤ (j : Int) := by omega
    have r0 := hg2.heap HR0.out
    have r1 := hg2.heap HR1.out
    have r2 := hg2.heap HR2.out
    have p0 : wr.cell? ⟨w.heap.size, 0, none⟩ = some (.slice A n c) := by rw [heap_cell r0]; rfl
    have p1 : wr.cell? ⟨w.heap.size, 1, none⟩ = some (.int .i64 last) := by rw [heap_cell r0]; rfl
    have q0 : wr.cell? ⟨w.heap.size + 1, 0, none⟩ = some (.slice none 0 0) := by rw [heap_cell r1]; rfl
    have q1 : wr.cell? ⟨w.heap.size + 1, 1, none⟩ = some (.int .i64 0) := by rw [heap_cell r1]; rfl
    have k0 : wr.frozen? ⟨w.heap.size + 1, 0, none⟩ = false := heap_frozen r1 0 (by omega)
    have k1 : wr.frozen? ⟨w.heap.size + 1, 1, none⟩ = false := heap_frozen r1 1 (by omega)
    have y0 : wr.cell? ⟨w.heap.size + 1 + 1, 0, none⟩ = some (.int .i64 (last + 1)) := by rw [heap_cell r2]; rfl
    have y1 : wr.cell? ⟨w.heap.size + 1 + 1, 1, none⟩ = some (.int .i64 f) := by rw [heap_cell r2]; rfl
    have y2 : wr.cell? ⟨w.heap.size + 1 + 1, 2, none⟩ = some (.int .i64 t) := by rw [heap_cell r2]; rfl
    have y3 : wr.cell? ⟨w.heap.size + 1 + 1, 3, none⟩ = some (.string s) := by rw [heap_cell r2]; rfl
    have hgs := hg2.size
    have HR1' := hid r1
    have hlw0 := heap_lt r0
    have hlw1 := heap_lt r1
    have hlw2 := heap_lt r2
    clear r0 r1 r2
    by_cases hlt : j < n
    · have hj1 : (j : Int) < (n : Int) := by omega
      have hj2 : j < l.length := by have := HN.out; omega
      have hst := HST.out j hj2
      have hle := HLE.out (j + 1) hj2
      rw [HS.out] at hst
      obtain ⟨g, rfl, ha⟩ := HX.out j hj2
      obtain ⟨x, hx⟩ : ∃ x, l[j] = x := ⟨_, rfl⟩
      rw [hx] at ha hst
      clear hx
      obtain ⟨id, xf, xt, xs⟩ := x
      unfold RItAt at ha
      dsimp only at ha hst
      obtain ⟨a0, a1, a2, a3⟩ := ha
      have HA := hid (And.intro (HG.out.cell a0) (And.intro (HG.out.cell a1) (And.intro (HG.out.cell a2) (HG.out.cell a3))))
      clear a0 a1 a2 a3
      have a0 := hg2.cell HA.out.1
      have a1 := hg2.cell HA.out.2.1
      have a2 := hg2.cell HA.out.2.2.1
      have a3 := hg2.cell HA.out.2.2.2
      by_cases hk : db = false ∧ f < xf
      · rw [if_pos hk] at hst
        rw [hst] at hle
        have HLN := hid hle
        have HST1 := hid hst
        obtain ⟨rfl, hk2⟩ := hk
        clear hst hle
        go_wp2_with (at_builtin; refine wpList_pushH _ rfl rfl _ _ 24 rfl 50 (.agg #[.int .i64 0, .int .i64 0, .int .i64 0, .string ByteArray.empty]) 4 40 Try.underlying24 infoRItem rfl (by omega) w2.heap.size _ m _ rfl HO.out [_, _, _, _] rfl rfl (by simp [Value.oneCell']) (by unfold maxLen; omega) (by omega) hgs ?_)
        intro v' w5 ho9 hg9 hs9
        obtain ⟨A5, c5, rfl⟩ := own_form ho9
        have HO5 := hid (show w5.ownsRow w2.heap.size 50 4 (.slice A5 (m + 1) c5) (m + 1) (rCells (acc ++ [y])) from by rw [rCells_append, hs2]; first | exact ho9 | (rw [show rCells [y] = rRow y from by simp [rCells], HYR.out]; exact ho9))
        have hg5 : Grow w2 w5 := Below.grown hg2 hg9 (by omega) (fun q hq => HO.out.own_le q hq)
        clear ho9 hg9 hs9 HO
        clear a0 a1 a2 a3
        clear p0 p1 q0 q1 k0 k1 y0 y1 y2 y3 hgs HR1' hlw0 hlw1 hlw2
        have r0 := hg5.heap HR0.out
        have r1 := hg5.heap HR1.out
        have r2 := hg5.heap HR2.out
        have p0 : w5.cell? ⟨w.heap.size, 0, none⟩ = some (.slice (some ⟨g, 0, none⟩) n c) := by rw [heap_cell r0]; rfl
        have p1 : w5.cell? ⟨w.heap.size, 1, none⟩ = some (.int .i64 last) := by rw [heap_cell r0]; rfl
        have q0 : w5.cell? ⟨w.heap.size + 1, 0, none⟩ = some (.slice none 0 0) := by rw [heap_cell r1]; rfl
        have q1 : w5.cell? ⟨w.heap.size + 1, 1, none⟩ = some (.int .i64 0) := by rw [heap_cell r1]; rfl
        have k0 : w5.frozen? ⟨w.heap.size + 1, 0, none⟩ = false := heap_frozen r1 0 (by omega)
        have k1 : w5.frozen? ⟨w.heap.size + 1, 1, none⟩ = false := heap_frozen r1 1 (by omega)
        have y0 : w5.cell? ⟨w.heap.size + 1 + 1, 0, none⟩ = some (.int .i64 (last + 1)) := by rw [heap_cell r2]; rfl
        have y1 : w5.cell? ⟨w.heap.size + 1 + 1, 1, none⟩ = some (.int .i64 f) := by rw [heap_cell r2]; rfl
        have y2 : w5.cell? ⟨w.heap.size + 1 + 1, 2, none⟩ = some (.int .i64 t) := by rw [heap_cell r2]; rfl
        have y3 : w5.cell? ⟨w.heap.size + 1 + 1, 3, none⟩ = some (.string s) := by rw [heap_cell r2]; rfl
        have hgs := hg5.size
        have HR1' := hid r1
        have hlw0 := heap_lt r0
        have hlw1 := heap_lt r1
        have hlw2 := heap_lt r2
        clear r0 r1 r2
        have a0 := hg5.cell HA.out.1
        have a1 := hg5.cell HA.out.2.1
        have a2 := hg5.cell HA.out.2.2.1
        have a3 := hg5.cell HA.out.2.2.2
        go_wp2_with (at_builtin; refine wpList_pushH _ rfl rfl _ _ 24 rfl 50 (.agg #[.int .i64 0, .int .i64 0, .int .i64 0, .string ByteArray.empty]) 4 40 Try.underlying24 infoRItem rfl (by omega) w2.heap.size _ (m + 1) _ rfl HO5.out [_, _, _, _] rfl rfl (by simp [Value.oneCell']) (by unfold maxLen; omega) (by omega) hgs ?_)
        intro v' w6 ho9 hg9 hs9
        obtain ⟨A6, c6, rfl⟩ := own_form ho9
        have HO6 := hid (show w6.ownsRow w2.heap.size 50 4 (.slice A6 (m + 1 + 1) c6) (m + 1 + 1) (rCells ((acc ++ [y]) ++ [⟨id, xf, xt, xs⟩])) from by rw [rCells_append, hs2]; first | exact ho9 | (rw [show rCells [y] = rRow y from by simp [rCells], HYR.out]; exact ho9))
        have hg6 : Grow w2 w6 := Below.grown hg5 hg9 (by omega) (fun q hq => HO5.out.own_le q hq)
        clear ho9 hg9 hs9 HO5
        clear a0 a1 a2 a3
        clear p0 p1 q0 q1 k0 k1 y0 y1 y2 y3 hgs HR1' hlw0 hlw1 hlw2
        go_wp2_with fail
        have hm := HM.out
        have hln := HLN.out
        refine ⟨⟨j + 1, A6, m + 1 + 1, c6, true, _, by omega, by push_cast; rfl, rfl, rfl, ?_, hid (by simp; omega), HST1, hg6, HO6⟩, ?_⟩
        · simp at hln; omega
        · simp [intOf]; omega
      · rw [if_neg hk] at hst
        rw [hst] at hle
        have HLN := hid hle
        have HST1 := hid hst
        clear hst hle
        have hk2 : db = true ∨ (db = false ∧ ¬ f < xf) := by cases db <;> simp_all
        clear hk
        rcases hk2 with rfl | ⟨rfl, hk3⟩
        all_goals
          go_wp2_with (at_builtin; refine wpList_pushH _ rfl rfl _ _ 24 rfl 50 (.agg #[.int .i64 0, .int .i64 0, .int .i64 0, .string ByteArray.empty]) 4 40 Try.underlying24 infoRItem rfl (by omega) w2.heap.size _ m _ rfl HO.out [_, _, _, _] rfl rfl (by simp [Value.oneCell']) (by unfold maxLen; omega) (by omega) hgs ?_)
          intro v' w5 ho9 hg9 hs9
          obtain ⟨A5, c5, rfl⟩ := own_form ho9
          have HO5 := hid (show w5.ownsRow w2.heap.size 50 4 (.slice A5 (m + 1) c5) (m + 1) (rCells (acc ++ [⟨id, xf, xt, xs⟩])) from by rw [rCells_append, hs2]; first | exact ho9 | (rw [show rCells [y] = rRow y from by simp [rCells], HYR.out]; exact ho9))
          have hg5 : Grow w2 w5 := Below.grown hg2 hg9 (by omega) (fun q hq => HO.out.own_le q hq)
          clear ho9 hg9 hs9 HO
          clear a0 a1 a2 a3
          clear p0 p1 q0 q1 k0 k1 y0 y1 y2 y3 hgs HR1' hlw0 hlw1 hlw2
          go_wp2_with fail
          have hm := HM.out
          have hln := HLN.out
          refine ⟨⟨j + 1, A5, m + 1, c5, _, _, by omega, by push_cast; rfl, rfl, rfl, by omega, hid (by simp; omega), HST1, hg5, HO5⟩, ?_⟩
          simp [intOf]; omega
    · obtain rfl : j = n := by omega
      have hend := HEND.out
      rw [HS.out] at hend
      dsimp only at hend
      have HE := hid hend
      clear hend
      cases db
      · go_wp2_with (at_builtin; refine wpList_pushH _ rfl rfl _ _ 24 rfl 50 (.agg #[.int .i64 0, .int .i64 0, .int .i64 0, .string ByteArray.empty]) 4 40 Try.underlying24 infoRItem rfl (by omega) w2.heap.size _ m _ rfl HO.out [_, _, _, _] rfl rfl (by simp [Value.oneCell']) (by unfold maxLen; omega) (by omega) hgs ?_)
        intro v' w5 ho9 hg9 hs9
        obtain ⟨A5, c5, rfl⟩ := own_form ho9
        have HO5 := hid (show w5.ownsRow w2.heap.size 50 4 (.slice A5 (m + 1) c5) (m + 1) (rCells (acc ++ [y])) from by rw [rCells_append, hs2]; first | exact ho9 | (rw [show rCells [y] = rRow y from by simp [rCells], HYR.out]; exact ho9))
        have hg5 : Grow w2 w5 := Below.grown hg2 hg9 (by omega) (fun q hq => HO.out.own_le q hq)
        clear ho9 hg9 hs9 HO
        clear p0 p1 q0 q1 k0 k1 y0 y1 y2 y3 hgs HR1' hlw0 hlw1 hlw2
        have r0 := hg5.heap HR0.out
        have r1 := hg5.heap HR1.out
        have r2 := hg5.heap HR2.out
        have p0 : w5.cell? ⟨w.heap.size, 0, none⟩ = some (.slice A j c) := by rw [heap_cell r0]; rfl
        have p1 : w5.cell? ⟨w.heap.size, 1, none⟩ = some (.int .i64 last) := by rw [heap_cell r0]; rfl
        have q0 : w5.cell? ⟨w.heap.size + 1, 0, none⟩ = some (.slice none 0 0) := by rw [heap_cell r1]; rfl
        have q1 : w5.cell? ⟨w.heap.size + 1, 1, none⟩ = some (.int .i64 0) := by rw [heap_cell r1]; rfl
        have k0 : w5.frozen? ⟨w.heap.size + 1, 0, none⟩ = false := heap_frozen r1 0 (by omega)
        have k1 : w5.frozen? ⟨w.heap.size + 1, 1, none⟩ = false := heap_frozen r1 1 (by omega)
        have y0 : w5.cell? ⟨w.heap.size + 1 + 1, 0, none⟩ = some (.int .i64 (last + 1)) := by rw [heap_cell r2]; rfl
        have y1 : w5.cell? ⟨w.heap.size + 1 + 1, 1, none⟩ = some (.int .i64 f) := by rw [heap_cell r2]; rfl
        have y2 : w5.cell? ⟨w.heap.size + 1 + 1, 2, none⟩ = some (.int .i64 t) := by rw [heap_cell r2]; rfl
        have y3 : w5.cell? ⟨w.heap.size + 1 + 1, 3, none⟩ = some (.string s) := by rw [heap_cell r2]; rfl
        have hgs := hg5.size
        have HR1' := hid r1
        have hlw0 := heap_lt r0
        have hlw1 := heap_lt r1
        have hlw2 := heap_lt r2
        clear r0 r1 r2
        go_wp2_with fail
        go_region_held3 (fun w' => w'.cell? ⟨w.heap.size + 1 + 1, 0, none⟩ = some (.int .i64 (last + 1))) (go_keep) (fail)
        go_wp2_with fail
        (try simp only [Exit.inBlock, Exit.then])
        have hm := HM.out
        have hlen' := hlen.out
        have hnn := HN.out
        have ho := own_set (own_set HO5.out (w.heap.size + 1) 0 (.slice A5 (m + 1) c5) (by omega)) (w.heap.size + 1) 1 (.int .i64 (last + 1)) (by omega)
        refine bodyPost_ret (v := .tuple #[.agg #[.slice A5 (m + 1) c5, .int .i64 (last + 1)], .int .i64 (last + 1), .int .i64 0]) ?_ rfl ⟨.slice A5 (m + 1) c5, rfl, ?_, ?_⟩
        · refine results_cellK3 (fn := Try.f31) (p := 8) (u := 9) (v := 10) rfl _ _ (w.heap.size + 1) 26 _ (0, 0) _ rfl ((Grow.drew _).heap (heap_set (heap_set HR1'.out 0 _) 1 _)) Try.underlying26 rfl ?_
          kernel_rfl
        · rw [← HE.out]
          refine ⟨⟨w2.heap.size, ?_⟩, by first | omega | (simp; omega)⟩
          have e : (m + 1) = (acc ++ [y]).length := by first | omega | (simp; omega)
          simp only [if_true, if_false, Bool.false_eq_true]
          rw [← e]
          exact ho
        · exact Below.drew (Below.setCell (Below.setCell (Grow.trans HG.out hg5) (Nat.le_succ _) _) (Nat.le_succ _) _)
      · go_wp2_with fail
        go_region_held3 (fun w' => w'.cell? ⟨w.heap.size + 1 + 1, 0, none⟩ = some (.int .i64 (last + 1))) (go_keep) (fail)
        go_wp2_with fail
        (try simp only [Exit.inBlock, Exit.then])
        have hm := HM.out
        have hlen' := hlen.out
        have hnn := HN.out
        have ho := own_set (own_set HO.out (w.heap.size + 1) 0 (.slice B m cc) (by omega)) (w.heap.size + 1) 1 (.int .i64 (last + 1)) (by omega)
        refine bodyPost_ret (v := .tuple #[.agg #[.slice B m cc, .int .i64 (last + 1)], .int .i64 (last + 1), .int .i64 0]) ?_ rfl ⟨.slice B m cc, rfl, ?_, ?_⟩
        · refine results_cellK3 (fn := Try.f31) (p := 8) (u := 9) (v := 10) rfl _ _ (w.heap.size + 1) 26 _ (0, 0) _ rfl ((Grow.drew _).heap (heap_set (heap_set HR1'.out 0 _) 1 _)) Try.underlying26 rfl ?_
          kernel_rfl
        · rw [← HE.out]
          refine ⟨⟨w2.heap.size, ?_⟩, by first | omega | (simp; omega)⟩
          have e : m = (acc).length := by first | omega | (simp; omega)
          simp only [if_true, if_false, Bool.false_eq_true]
          rw [← e]
          exact ho
        · exact Below.drew (Below.setCell (Below.setCell (Grow.trans HG.out hg2) (Nat.le_succ _) _) (Nat.le_succ _) _)
end Go.Proofs.Ythmbnffddpnehaa
