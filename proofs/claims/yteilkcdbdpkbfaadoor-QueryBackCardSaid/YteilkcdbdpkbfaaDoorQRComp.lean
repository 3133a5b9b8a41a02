/- The reference reads a comparison. -/
import Derived.Test.YteilkcdbdpkbfaaDoorQRWords
import Derived.Deep.RegionHeld3
import Derived.Deep.QuietTactic
import Derived.BigQuiet
namespace Go.Proofs.YteilkcdbdpkbfaaDoor
open Go.RowKit
set_option linter.unusedVariables false
set_option linter.unusedSimpArgs false
attribute [local go_sem ↓ high] setCell_twice
abbrev ReadZ : Obj := .cells #[.slice none 0 0, .int .i64 0, .int .i64 0, .int .i64 0, .int .i64 0] 52
/-- Behind the reference's reading of a node. -/
def RPost (T : List Tok) (p : Option Addr) (n cap fin : Nat) (res : PR NodeR) (w : World) (e : Ending) (w' : World) : Prop := ∃ (at' e' pos' : Nat) (nd : NodeR) (v : Value), e = .returned (.tuple #[rdV p n cap fin at' e' pos', v]) ∧ nd.In (fun b => w.heap.size ≤ b) w' v ∧ Grow w w' ∧ at' ≤ T.length ∧ e' ≤ 100 ∧
  (match res with
   | .ok a R => a = nd ∧ e' = 0 ∧ pos' = 0 ∧ T.drop at' = R
   | .bad k q => e' = k ∧ pos' = q ∧ k ≠ 0)
theorem failE_ne (k : Nat) (L : List Tok) (h : k ≠ 0) (hk : k ≤ 100) : failE k L ≠ 0 ∧ failE k L ≤ 100 := by
  unfold failE
  split
  · split <;> omega
  · exact ⟨h, hk⟩
theorem store10 {w w1 : World} {r4 r5 : Nat} {s t : TypeId} (g : Grow w w1) (n4 : w.heap.size ≤ r4) (n5 : w.heap.size ≤ r5) (hne : r4 ≠ r5) {a0 a1 a2 a3 a4 b0 b1 b2 b3 b4 : Value} (h4 : w1.heap[r4]? = some (.cells #[a0, a1, a2, a3, a4] s)) (h5 : w1.heap[r5]? = some (.cells #[b0, b1, b2, b3, b4] t)) (c0 c1 c2 c3 c4 d0 d1 d2 d3 d4 : Value) :
    ((((((((((w1.setCell ⟨r4, 0, none⟩ c0).setCell ⟨r4, 1, none⟩ c1).setCell ⟨r4, 2, none⟩ c2).setCell ⟨r4, 3, none⟩ c3).setCell ⟨r4, 4, none⟩ c4).setCell ⟨r5, 0, none⟩ d0).setCell ⟨r5, 1, none⟩ d1).setCell ⟨r5, 2, none⟩ d2).setCell ⟨r5, 3, none⟩ d3).setCell ⟨r5, 4, none⟩ d4).heap[r4]? = some (.cells #[c0, c1, c2, c3, c4] s) ∧
    ((((((((((w1.setCell ⟨r4, 0, none⟩ c0).setCell ⟨r4, 1, none⟩ c1).setCell ⟨r4, 2, none⟩ c2).setCell ⟨r4, 3, none⟩ c3).setCell ⟨r4, 4, none⟩ c4).setCell ⟨r5, 0, none⟩ d0).setCell ⟨r5, 1, none⟩ d1).setCell ⟨r5, 2, none⟩ d2).setCell ⟨r5, 3, none⟩ d3).setCell ⟨r5, 4, none⟩ d4).heap[r5]? = some (.cells #[d0, d1, d2, d3, d4] t) ∧
    Grow w ((((((((((w1.setCell ⟨r4, 0, none⟩ c0).setCell ⟨r4, 1, none⟩ c1).setCell ⟨r4, 2, none⟩ c2).setCell ⟨r4, 3, none⟩ c3).setCell ⟨r4, 4, none⟩ c4).setCell ⟨r5, 0, none⟩ d0).setCell ⟨r5, 1, none⟩ d1).setCell ⟨r5, 2, none⟩ d2).setCell ⟨r5, 3, none⟩ d3).setCell ⟨r5, 4, none⟩ d4) := by
  have k : ∀ (u : World) (g1 g2 j : Nat) (v : Value) (o : Obj), g1 ≠ g2 → u.heap[g1]? = some o → (u.setCell ⟨g2, j, none⟩ v).heap[g1]? = some o := fun u g1 g2 j v o hn hh => heap_keep hh ⟨g2, j, none⟩ v hn
  have x0 := heap_set h4 0 c0
  have x1 := heap_set (cs := #[c0, a1, a2, a3, a4]) x0 1 c1
  have x2 := heap_set (cs := #[c0, c1, a2, a3, a4]) x1 2 c2
  have x3 := heap_set (cs := #[c0, c1, c2, a3, a4]) x2 3 c3
  have x4 := heap_set (cs := #[c0, c1, c2, c3, a4]) x3 4 c4
  have hne' := Ne.symm hne
  have y := k _ r5 r4 4 c4 _ hne' (k _ r5 r4 3 c3 _ hne' (k _ r5 r4 2 c2 _ hne' (k _ r5 r4 1 c1 _ hne' (k _ r5 r4 0 c0 _ hne' h5))))
  have y0 := heap_set y 0 d0
  have y1 := heap_set (cs := #[d0, b1, b2, b3, b4]) y0 1 d1
  have y2 := heap_set (cs := #[d0, d1, b2, b3, b4]) y1 2 d2
  have y3 := heap_set (cs := #[d0, d1, d2, b3, b4]) y2 3 d3
  have y4 := heap_set (cs := #[d0, d1, d2, d3, b4]) y3 4 d4
  refine ⟨?_, y4, ?_⟩
  · exact k _ r4 r5 4 d4 _ hne (k _ r4 r5 3 d3 _ hne (k _ r4 r5 2 d2 _ hne (k _ r4 r5 1 d1 _ hne (k _ r4 r5 0 d0 _ hne x4))))
  · refine Grow.set ?_ r5 4 n5 _
    refine Grow.set ?_ r5 3 n5 _
    refine Grow.set ?_ r5 2 n5 _
    refine Grow.set ?_ r5 1 n5 _
    refine Grow.set ?_ r5 0 n5 _
    refine Grow.set ?_ r4 4 n4 _
    refine Grow.set ?_ r4 3 n4 _
    refine Grow.set ?_ r4 2 n4 _
    refine Grow.set ?_ r4 1 n4 _
    exact Grow.set g r4 0 n4 _
theorem set5 {w w1 : World} {r : Nat} {s : TypeId} (g : Grow w w1) (n4 : w.heap.size ≤ r) {a0 a1 a2 a3 a4 : Value} (h4 : w1.heap[r]? = some (.cells #[a0, a1, a2, a3, a4] s)) (c0 c1 c2 c3 c4 : Value) :
    (((((w1.setCell ⟨r, 0, none⟩ c0).setCell ⟨r, 1, none⟩ c1).setCell ⟨r, 2, none⟩ c2).setCell ⟨r, 3, none⟩ c3).setCell ⟨r, 4, none⟩ c4).heap[r]? = some (.cells #[c0, c1, c2, c3, c4] s) ∧ Grow w (((((w1.setCell ⟨r, 0, none⟩ c0).setCell ⟨r, 1, none⟩ c1).setCell ⟨r, 2, none⟩ c2).setCell ⟨r, 3, none⟩ c3).setCell ⟨r, 4, none⟩ c4) ∧ (∀ (q : Nat) (o : Obj), q ≠ r → w1.heap[q]? = some o → (((((w1.setCell ⟨r, 0, none⟩ c0).setCell ⟨r, 1, none⟩ c1).setCell ⟨r, 2, none⟩ c2).setCell ⟨r, 3, none⟩ c3).setCell ⟨r, 4, none⟩ c4).heap[q]? = some o) ∧ w1.heap.size = (((((w1.setCell ⟨r, 0, none⟩ c0).setCell ⟨r, 1, none⟩ c1).setCell ⟨r, 2, none⟩ c2).setCell ⟨r, 3, none⟩ c3).setCell ⟨r, 4, none⟩ c4).heap.size := by
  have x0 := heap_set h4 0 c0
  have x1 := heap_set (cs := #[c0, a1, a2, a3, a4]) x0 1 c1
  have x2 := heap_set (cs := #[c0, c1, a2, a3, a4]) x1 2 c2
  have x3 := heap_set (cs := #[c0, c1, c2, a3, a4]) x2 3 c3
  have x4 := heap_set (cs := #[c0, c1, c2, c3, a4]) x3 4 c4
  refine ⟨x4, ?_, fun q o hq h => ?_, by simp⟩
  · refine Grow.set ?_ r 4 n4 _
    refine Grow.set ?_ r 3 n4 _
    refine Grow.set ?_ r 2 n4 _
    refine Grow.set ?_ r 1 n4 _
    exact Grow.set g r 0 n4 _
  · exact heap_keep (heap_keep (heap_keep (heap_keep (heap_keep h _ _ hq) _ _ hq) _ _ hq) _ _ hq) _ _ hq
theorem keep10 {w w' : World} {a0 a1 a2 a3 a4 a5 a6 a7 a8 a9 : Addr} {v0 v1 v2 v3 v4 v5 v6 v7 v8 v9 : Value} (h : w.cell? a0 = some v0 ∧ w.cell? a1 = some v1 ∧ w.cell? a2 = some v2 ∧ w.cell? a3 = some v3 ∧ w.cell? a4 = some v4 ∧ w.cell? a5 = some v5 ∧ w.cell? a6 = some v6 ∧ w.cell? a7 = some v7 ∧ w.cell? a8 = some v8 ∧ w.cell? a9 = some v9) (g : Grow w w') : w'.cell? a0 = some v0 ∧ w'.cell? a1 = some v1 ∧ w'.cell? a2 = some v2 ∧ w'.cell? a3 = some v3 ∧ w'.cell? a4 = some v4 ∧ w'.cell? a5 = some v5 ∧ w'.cell? a6 = some v6 ∧ w'.cell? a7 = some v7 ∧ w'.cell? a8 = some v8 ∧ w'.cell? a9 = some v9 := by
  obtain ⟨h0, h1, h2, h3, h4, h5, h6, h7, h8, h9⟩ := h
  exact ⟨g.cell h0, g.cell h1, g.cell h2, g.cell h3, g.cell h4, g.cell h5, g.cell h6, g.cell h7, g.cell h8, g.cell h9⟩
theorem results_cells2 {P : Program} {fn : Func} {p q : Tmp} {t1 t2 : TypeId} (h : fn.results = #[.cell p t1, .cell q t2]) (tmps : Array Value) (w : World) (g a : Nat) (cs ds : Array Value) (d1 d2 : TypeDesc)
    (hp : tmps.getD p undef = .pointer (some ⟨g, 0, none⟩)) (hq : tmps.getD q undef = .pointer (some ⟨a, 0, none⟩)) (hg : w.heap[g]? = some (.cells cs t1 (0, 0))) (ha : w.heap[a]? = some (.cells ds t2 (0, 0)))
    (hu : P.underlying t1 = some d1) (hd : (match d1 with | .struct _ | .array _ _ => true | _ => false) = true) (hi : (P.info? t1).map (·.size) = some cs.size)
    (hu2 : P.underlying t2 = some d2) (hd2 : (match d2 with | .struct _ | .array _ _ => true | _ => false) = true) (hi2 : (P.info? t2).map (·.size) = some ds.size) :
    (results fn tmps).run P w = .ok (.tuple #[.agg cs, .agg ds]) w := by
  have hp' : tmps[p]?.getD undef = .pointer (some ⟨g, 0, none⟩) := by simpa using hp
  have hq' : tmps[q]?.getD undef = .pointer (some ⟨a, 0, none⟩) := by simpa using hq
  simp [results, h, hp', hq', asAddr, Result.andThen, run_loadVar_row w g t1 t1 cs (0, 0) d1 hg hu hd hi, run_loadVar_row w a t2 t2 ds (0, 0) d2 ha hu2 hd2 hi2]
/-- A function that gives a reading and a node back. -/
theorem read_ret {fn : Func} {a b : Tmp} (hfr : fn.results = #[.cell a 52, .cell b 24]) {T : List Tok} {p : Option Addr} {n cap fin r4 r5 : Nat} {w W : World} {res : PR NodeR} {at' e' pos' : Nat} {nd : NodeR} {d0 d1 d2 d3 d4 : Value} {tm : Array Value} (h1 : tm.getD a undef = .pointer (some ⟨r4, 0, none⟩)) (h2 : tm.getD b undef = .pointer (some ⟨r5, 0, none⟩))
    (H4 : W.heap[r4]? = some (.cells #[.slice p n cap, .int .i64 (fin : Int), .int .i64 (at' : Int), .int .i64 (e' : Int), .int .i64 (pos' : Int)] 52)) (H5 : W.heap[r5]? = some (.cells #[d0, d1, d2, d3, d4] 24)) (G : Grow w W) (hin : nd.In (fun b => w.heap.size ≤ b) W (.agg #[d0, d1, d2, d3, d4])) (ha : at' ≤ T.length) (he : e' ≤ 100)
    (hres : match res with
     | .ok a R => a = nd ∧ e' = 0 ∧ pos' = 0 ∧ T.drop at' = R
     | .bad k q => e' = k ∧ pos' = q ∧ k ≠ 0) :
    bodyPost Tryd.prog fn (RPost T p n cap fin res w) Exit.ret { tmps := tm, defers := [] } W :=
  bodyPost_ret (results_cells2 hfr _ _ r4 r5 _ _ _ _ h1 h2 H4 H5 Tryd.underlying52 rfl (by kernel_rfl) Tryd.underlying24 rfl (by kernel_rfl)) rfl ⟨at', e', pos', nd, _, rfl, hin, G, ha, he, hres⟩

/-- The words of a field, and what a word is. -/
theorem words_no {f : ByteArray} (h : namesB f = false) (s : ByteArray) : (wordsW f).1 = [] ∧ (valueQ f s).2 = false := by
  unfold namesB at h
  simp only [Bool.or_eq_false_iff, beq_eq_false_iff_ne, ne_eq] at h
  obtain ⟨⟨h1, h2⟩, h3⟩ := h
  unfold wordsW valueQ
  simp [h1, h2, h3]
theorem words_yes {f : ByteArray} (h : namesB f = true) (s : ByteArray) : 0 < (wordsW f).1.length ∧ (wordsW f).1.length ≤ 100 ∧ (valueQ f s).2 = decide (0 ≤ Lib.idxOfS (wordsW f).1 s) ∧ (0 ≤ Lib.idxOfS (wordsW f).1 s → (valueQ f s).1 = Lib.idxOfS (wordsW f).1 s + (wordsW f).2) ∧ 0 ≤ (wordsW f).2 ∧ (wordsW f).2 ≤ 1 := by
  unfold namesB at h
  simp only [Bool.or_eq_true, beq_iff_eq] at h
  unfold wordsW valueQ
  by_cases h1 : f.toList = [107, 105, 110, 100]
  · simp only [h1, if_true]
    exact ⟨by decide, by decide, by simp, by simp, by decide, by decide⟩
  · by_cases h2 : f.toList = [109, 101, 116, 104, 111, 100]
    · simp only [h2, if_true]
      rw [if_neg (by decide), if_neg (by decide)]
      exact ⟨by decide, by decide, by simp, by simp, by decide, by decide⟩
    · have h3 : f.toList = [100, 111, 110, 101] := by
        rcases h with (h | h) | h
        · exact absurd h h1
        · exact absurd h h2
        · exact h
      simp only [h3]
      rw [if_neg (by decide), if_neg (by decide), if_pos trivial, if_neg (by decide), if_neg (by decide), if_pos trivial]
      have eT : (s.toList == [116, 114, 117, 101]) = decide (sTrue = s) := by
        rw [Bool.eq_iff_iff]
        simp only [beq_iff_eq, decide_eq_true_eq]
        constructor
        · intro e; apply toList_injR; rw [e, ByteArray.toList_eq]; rfl
        · rintro rfl; rw [ByteArray.toList_eq]; rfl
      have eF : (s.toList == [102, 97, 108, 115, 101]) = decide (sFalse = s) := by
        rw [Bool.eq_iff_iff]
        simp only [beq_iff_eq, decide_eq_true_eq]
        constructor
        · intro e; apply toList_injR; rw [e, ByteArray.toList_eq]; rfl
        · rintro rfl; rw [ByteArray.toList_eq]; rfl
      rw [eT, eF]
      refine ⟨by decide, by decide, ?_, ?_, by decide, by decide⟩
      · simp only [Lib.idxOfS, Lib.idxFromS]
        by_cases e1 : sFalse = s
        · simp [e1]
        · by_cases e2 : sTrue = s
          · simp [e1, e2]
          · simp [e1, e2]
      · simp only [Lib.idxOfS, Lib.idxFromS, flagI]
        by_cases e1 : sFalse = s
        · subst e1
          intro _
          rw [if_neg (by decide)]
          decide
        · by_cases e2 : sTrue = s
          · simp [e1, e2]
          · simp [e1, e2]
theorem compR_bad (fin : Nat) {t : Tok} {L1 : List Tok} (hf : fieldB t.str = true) (h : (L1.headD ⟨0, [], 0, 0⟩).kind ≠ 3 ∨ isT L1 bOpen = true ∨ isT L1 bShut = true) : compareP fin (t :: L1) = failP fin 41 L1 := by
  by_cases hp : (isT L1 bOpen || isT L1 bShut) = true
  · exact compareP_par fin hf hp
  · have hp : (isT L1 bOpen || isT L1 bShut) = false := by simpa using hp
    refine compareP_mark fin hf hp (fun m R e => ?_)
    subst e
    simp only [Bool.or_eq_false_iff] at hp
    rcases h with h | h | h
    · exact h
    · rw [hp.1] at h; cases h
    · rw [hp.2] at h; cases h
theorem getD_drop (T : List Tok) (i : Nat) (z : Tok) : T.getD i z = (T.drop i).headD z := by
  rw [List.getD_eq_getElem?_getD, List.headD_eq_head?_getD, List.head?_drop]
set_option maxRecDepth 100000 in
set_option maxHeartbeats 8000000 in
theorem RCompare_c (t : Tok) (f : ByteArray) (p : Option Addr) (n cap fin at_ : Nat) (T : List Tok) (w : World) (hT : TokS w p n cap T) (hok : ∀ t ∈ T, t.Ok) (hat : at_ ≤ T.length) (hf : fieldB t.str = true) (hts : t.str = f) :
    Calls Tryd.prog 55 #[rdV p n cap fin at_ 0 0, .string f] w (RPost T p n cap fin (compareP fin (t :: T.drop at_)) w) := by
  have HT := hid hT
  have hn4 : T.length ≤ 4096 := by rw [← hT.1]; exact hT.cells.1
  unfold rdV
  have G0 := hid (Grow.trans (Grow.trans (Grow.alloc w (.cells #[.slice p n cap, .int .i64 (fin : Int), .int .i64 (at_ : Int), .int .i64 0, .int .i64 0] 52)) (Grow.alloc _ ReadZ)) (Grow.alloc _ NodeZ))
  have B0 := hid (heap_alloc_keep (heap_alloc_keep (heap_new w (.cells #[.slice p n cap, .int .i64 (fin : Int), .int .i64 (at_ : Int), .int .i64 0, .int .i64 0] 52)) ReadZ) NodeZ)
  have R40 := hid (heap_alloc_keep (heap_newAt (w.alloc (.cells #[.slice p n cap, .int .i64 (fin : Int), .int .i64 (at_ : Int), .int .i64 0, .int .i64 0] 52)) ReadZ (g := w.heap.size + 1) (by simp)) NodeZ)
  have R50 := hid (heap_newAt ((w.alloc (.cells #[.slice p n cap, .int .i64 (fin : Int), .int .i64 (at_ : Int), .int .i64 0, .int .i64 0] 52)).alloc ReadZ) NodeZ (g := w.heap.size + 1 + 1) (by simp))
  have NX := hid (fun (w' : World) (g : Grow w w') => Rnext_c p n cap fin at_ 0 0 T w' (hT.grow g) (by omega) (by omega))
  unfold rdV at NX
  have HNK := hid (show nextK T at_ 0 = T.getD at_ ⟨0, [], 0, 0⟩ from by unfold nextK; rw [if_neg (by simp)])
  clear hT
  go_enter Tryd.func55, Tryd.ntmps55
  go_wp2_with fail
  refine (NX.out _ G0.out).mono ?_
  rintro e w1 ⟨rfl, g1⟩
  have G1 := hid (G0.out.trans g1)
  have B1 := hid (g1.heap B0.out)
  have R41 := hid (g1.heap R40.out)
  have R51 := hid (g1.heap R50.out)
  have hz1 := heap_lt R51.out
  clear g1 NX G0 B0 R40 R50
  generalize hH : w.heap.size = H at *
  have hws : w.heap.size ≤ H := Nat.le_of_eq hH
  replace hH := hid hH
  have hA1 : H < H + 1 := by omega
  have hB1 : H + 1 < H + 1 + 1 := by omega
  generalize H + 1 = RA at *
  generalize RA + 1 = RB at *
  have n41 : H ≠ RA := by omega
  have n51 : H ≠ RB := by omega
  have n45 : RA ≠ RB := by omega
  have n14 : RA ≠ H := by omega
  have n15 : RB ≠ H := by omega
  have n54 : RB ≠ RA := by omega
  have HG : Hid (nextK T at_ 0 = (T.drop at_).headD ⟨0, [], 0, 0⟩) := hid (HNK.out.trans (getD_drop T at_ _))
  clear HNK
  generalize hm : nextK T at_ 0 = m at *
  replace hm := hid hm
  have hways : (m.kind ≠ 3) ∨ (m.kind = 3 ∧ isT (T.drop at_) bOpen = true) ∨ (m.kind = 3 ∧ isT (T.drop at_) bOpen = false ∧ isT (T.drop at_) bShut = true) ∨ (m.kind = 3 ∧ isT (T.drop at_) bOpen = false ∧ isT (T.drop at_) bShut = false) := by
    by_cases h : m.kind = 3
    · right
      cases isT (T.drop at_) bOpen <;> cases isT (T.drop at_) bShut <;> simp [h]
    · exact .inl h
  have hstr : ∀ (b : ByteArray) (v : Bool), m.kind = 3 → isT (T.drop at_) b = v → (m.str.toList == b.toList) = v := by
    intro b v h3 hv
    cases hd : T.drop at_ with
    | nil =>
      have := HG.out
      rw [hd] at this
      rw [this] at h3
      cases h3
    | cons a l =>
      have := HG.out
      rw [hd] at this hv
      rw [this]
      exact hv
  have hO : bOpen.toList = [40] := by rw [ByteArray.toList_eq]; rfl
  have hS : bShut.toList = [41] := by rw [ByteArray.toList_eq]; rfl
  replace hstr := hid hstr
  replace hO := hid hO
  replace hS := hid hS
  unfold tokV
  have G2 := hid (G1.out.trans (Grow.alloc w1 (.cells #[.int .i64 (m.kind : Int), .string m.str, .int .i64 m.num, .int .i64 (m.pos : Int)] 54)))
  have B2 := hid (heap_alloc_keep B1.out (.cells #[.int .i64 (m.kind : Int), .string m.str, .int .i64 m.num, .int .i64 (m.pos : Int)] 54))
  have R42 := hid (heap_alloc_keep R41.out (.cells #[.int .i64 (m.kind : Int), .string m.str, .int .i64 m.num, .int .i64 (m.pos : Int)] 54))
  have R52 := hid (heap_alloc_keep R51.out (.cells #[.int .i64 (m.kind : Int), .string m.str, .int .i64 m.num, .int .i64 (m.pos : Int)] 54))
  have hzH : H < w1.heap.size := by omega
  have r0 : w1.cell? ⟨H, 0, none⟩ = some (.slice p n cap) := by rw [heap_cell B1.out]; rfl
  have r1 : w1.cell? ⟨H, 1, none⟩ = some (.int .i64 (fin : Int)) := by rw [heap_cell B1.out]; rfl
  have r2 : w1.cell? ⟨H, 2, none⟩ = some (.int .i64 (at_ : Int)) := by rw [heap_cell B1.out]; rfl
  have r3 : w1.cell? ⟨H, 3, none⟩ = some (.int .i64 0) := by rw [heap_cell B1.out]; rfl
  have r4 : w1.cell? ⟨H, 4, none⟩ = some (.int .i64 0) := by rw [heap_cell B1.out]; rfl
  rcases hways with h3 | ⟨h3, hp⟩ | ⟨h3, hp, hq⟩ | ⟨h3, hp, hq⟩
  · have HC := hid (compR_bad fin hf (L1 := T.drop at_) (.inl (by rw [← HG.out]; exact h3)))
    have k1 : ((m.kind : Int) != 3) = true := by simp; omega
    replace h3 := hid h3
    clear hm
    go_wp2_with fail
    refine (RfailNew_c p n cap fin at_ 0 41 T _ (HT.out.grow G2.out) (by omega)).mono ?_
    rintro e wF ⟨rfl, gF⟩
    unfold rdV
    have HF4 := gF.heap R42.out
    have HF5 := gF.heap R52.out
    have z0 : wF.cell? ⟨RA, 0, none⟩ = some (.slice none 0 0) := by rw [heap_cell HF4]; rfl
    have y0 : wF.frozen? ⟨RA, 0, none⟩ = false := heap_frozen HF4 0 (by omega)
    have z1 : wF.cell? ⟨RA, 1, none⟩ = some (.int .i64 0) := by rw [heap_cell HF4]; rfl
    have y1 : wF.frozen? ⟨RA, 1, none⟩ = false := heap_frozen HF4 1 (by omega)
    have z2 : wF.cell? ⟨RA, 2, none⟩ = some (.int .i64 0) := by rw [heap_cell HF4]; rfl
    have y2 : wF.frozen? ⟨RA, 2, none⟩ = false := heap_frozen HF4 2 (by omega)
    have z3 : wF.cell? ⟨RA, 3, none⟩ = some (.int .i64 0) := by rw [heap_cell HF4]; rfl
    have y3 : wF.frozen? ⟨RA, 3, none⟩ = false := heap_frozen HF4 3 (by omega)
    have z4 : wF.cell? ⟨RA, 4, none⟩ = some (.int .i64 0) := by rw [heap_cell HF4]; rfl
    have y4 : wF.frozen? ⟨RA, 4, none⟩ = false := heap_frozen HF4 4 (by omega)
    have x0 : wF.cell? ⟨RB, 0, none⟩ = some (.int .i64 0) := by rw [heap_cell HF5]; rfl
    have v0 : wF.frozen? ⟨RB, 0, none⟩ = false := heap_frozen HF5 0 (by omega)
    have x1 : wF.cell? ⟨RB, 1, none⟩ = some (.slice none 0 0) := by rw [heap_cell HF5]; rfl
    have v1 : wF.frozen? ⟨RB, 1, none⟩ = false := heap_frozen HF5 1 (by omega)
    have x2 : wF.cell? ⟨RB, 2, none⟩ = some (.string ⟨#[]⟩) := by rw [heap_cell HF5]; rfl
    have v2 : wF.frozen? ⟨RB, 2, none⟩ = false := heap_frozen HF5 2 (by omega)
    have x3 : wF.cell? ⟨RB, 3, none⟩ = some (.string ⟨#[]⟩) := by rw [heap_cell HF5]; rfl
    have v3 : wF.frozen? ⟨RB, 3, none⟩ = false := heap_frozen HF5 3 (by omega)
    have x4 : wF.cell? ⟨RB, 4, none⟩ = some (.int .i64 0) := by rw [heap_cell HF5]; rfl
    have v4 : wF.frozen? ⟨RB, 4, none⟩ = false := heap_frozen HF5 4 (by omega)
    have E := hid (store10 (G2.out.trans gF) (r4 := RA) (r5 := RB) (by omega) (by omega) (by omega) HF4 HF5 (.slice p n cap) (.int .i64 (fin : Int)) (.int .i64 ((at_ : Nat) : Int)) (.int .i64 ((failE 41 (T.drop (at_)) : Nat) : Int)) (.int .i64 ((failAt fin (T.drop (at_)) : Nat) : Int)) (.int .i64 0) (.slice none 0 0) (.string ⟨#[]⟩) (.string ⟨#[]⟩) (.int .i64 0))
    clear HF4 HF5 gF
    go_wp2_with fail
    (try simp only [Exit.inBlock, Exit.then])
    have E1 := E.out
    have hF := failE_ne 41 (T.drop (at_)) (by omega) (by omega)
    refine read_ret (nd := .zero) rfl rfl rfl E1.1 E1.2.1 E1.2.2 (NodeR.In.leaf _ _ 0 ⟨#[]⟩ ⟨#[]⟩ 0) (by omega) hF.2 ?_
    rw [HC.out]
    exact ⟨rfl, rfl, hF.1⟩
  · have HC := hid (compR_bad fin hf (L1 := T.drop at_) (.inr (.inl hp)))
    have k1 : ((m.kind : Int) != 3) = false := by simp; omega
    have k2 : (m.str.toList == [40]) = true := by rw [← hO.out]; exact hstr.out _ _ h3 hp
    have k2' : m.str.toList = [40] := by simpa using k2
    replace h3 := hid h3
    replace hp := hid hp
    clear hm
    go_wp2_with fail
    refine (RfailNew_c p n cap fin at_ 0 41 T _ (HT.out.grow G2.out) (by omega)).mono ?_
    rintro e wF ⟨rfl, gF⟩
    unfold rdV
    have HF4 := gF.heap R42.out
    have HF5 := gF.heap R52.out
    have z0 : wF.cell? ⟨RA, 0, none⟩ = some (.slice none 0 0) := by rw [heap_cell HF4]; rfl
    have y0 : wF.frozen? ⟨RA, 0, none⟩ = false := heap_frozen HF4 0 (by omega)
    have z1 : wF.cell? ⟨RA, 1, none⟩ = some (.int .i64 0) := by rw [heap_cell HF4]; rfl
    have y1 : wF.frozen? ⟨RA, 1, none⟩ = false := heap_frozen HF4 1 (by omega)
    have z2 : wF.cell? ⟨RA, 2, none⟩ = some (.int .i64 0) := by rw [heap_cell HF4]; rfl
    have y2 : wF.frozen? ⟨RA, 2, none⟩ = false := heap_frozen HF4 2 (by omega)
    have z3 : wF.cell? ⟨RA, 3, none⟩ = some (.int .i64 0) := by rw [heap_cell HF4]; rfl
    have y3 : wF.frozen? ⟨RA, 3, none⟩ = false := heap_frozen HF4 3 (by omega)
    have z4 : wF.cell? ⟨RA, 4, none⟩ = some (.int .i64 0) := by rw [heap_cell HF4]; rfl
    have y4 : wF.frozen? ⟨RA, 4, none⟩ = false := heap_frozen HF4 4 (by omega)
    have x0 : wF.cell? ⟨RB, 0, none⟩ = some (.int .i64 0) := by rw [heap_cell HF5]; rfl
    have v0 : wF.frozen? ⟨RB, 0, none⟩ = false := heap_frozen HF5 0 (by omega)
    have x1 : wF.cell? ⟨RB, 1, none⟩ = some (.slice none 0 0) := by rw [heap_cell HF5]; rfl
    have v1 : wF.frozen? ⟨RB, 1, none⟩ = false := heap_frozen HF5 1 (by omega)
    have x2 : wF.cell? ⟨RB, 2, none⟩ = some (.string ⟨#[]⟩) := by rw [heap_cell HF5]; rfl
    have v2 : wF.frozen? ⟨RB, 2, none⟩ = false := heap_frozen HF5 2 (by omega)
    have x3 : wF.cell? ⟨RB, 3, none⟩ = some (.string ⟨#[]⟩) := by rw [heap_cell HF5]; rfl
    have v3 : wF.frozen? ⟨RB, 3, none⟩ = false := heap_frozen HF5 3 (by omega)
    have x4 : wF.cell? ⟨RB, 4, none⟩ = some (.int .i64 0) := by rw [heap_cell HF5]; rfl
    have v4 : wF.frozen? ⟨RB, 4, none⟩ = false := heap_frozen HF5 4 (by omega)
    have E := hid (store10 (G2.out.trans gF) (r4 := RA) (r5 := RB) (by omega) (by omega) (by omega) HF4 HF5 (.slice p n cap) (.int .i64 (fin : Int)) (.int .i64 ((at_ : Nat) : Int)) (.int .i64 ((failE 41 (T.drop (at_)) : Nat) : Int)) (.int .i64 ((failAt fin (T.drop (at_)) : Nat) : Int)) (.int .i64 0) (.slice none 0 0) (.string ⟨#[]⟩) (.string ⟨#[]⟩) (.int .i64 0))
    clear HF4 HF5 gF
    go_wp2_with fail
    (try simp only [Exit.inBlock, Exit.then])
    have E1 := E.out
    have hF := failE_ne 41 (T.drop (at_)) (by omega) (by omega)
    refine read_ret (nd := .zero) rfl rfl rfl E1.1 E1.2.1 E1.2.2 (NodeR.In.leaf _ _ 0 ⟨#[]⟩ ⟨#[]⟩ 0) (by omega) hF.2 ?_
    rw [HC.out]
    exact ⟨rfl, rfl, hF.1⟩
  · have HC := hid (compR_bad fin hf (L1 := T.drop at_) (.inr (.inr hq)))
    have k1 : ((m.kind : Int) != 3) = false := by simp; omega
    have k2 : (m.str.toList == [40]) = false := by rw [← hO.out]; exact hstr.out _ _ h3 hp
    have k2' : ¬m.str.toList = [40] := by simpa using k2
    have k3 : (m.str.toList == [41]) = true := by rw [← hS.out]; exact hstr.out _ _ h3 hq
    have k3' : m.str.toList = [41] := by simpa using k3
    replace h3 := hid h3
    replace hp := hid hp
    replace hq := hid hq
    clear hm
    go_wp2_with fail
    refine (RfailNew_c p n cap fin at_ 0 41 T _ (HT.out.grow G2.out) (by omega)).mono ?_
    rintro e wF ⟨rfl, gF⟩
    unfold rdV
    have HF4 := gF.heap R42.out
    have HF5 := gF.heap R52.out
    have z0 : wF.cell? ⟨RA, 0, none⟩ = some (.slice none 0 0) := by rw [heap_cell HF4]; rfl
    have y0 : wF.frozen? ⟨RA, 0, none⟩ = false := heap_frozen HF4 0 (by omega)
    have z1 : wF.cell? ⟨RA, 1, none⟩ = some (.int .i64 0) := by rw [heap_cell HF4]; rfl
    have y1 : wF.frozen? ⟨RA, 1, none⟩ = false := heap_frozen HF4 1 (by omega)
    have z2 : wF.cell? ⟨RA, 2, none⟩ = some (.int .i64 0) := by rw [heap_cell HF4]; rfl
    have y2 : wF.frozen? ⟨RA, 2, none⟩ = false := heap_frozen HF4 2 (by omega)
    have z3 : wF.cell? ⟨RA, 3, none⟩ = some (.int .i64 0) := by rw [heap_cell HF4]; rfl
    have y3 : wF.frozen? ⟨RA, 3, none⟩ = false := heap_frozen HF4 3 (by omega)
    have z4 : wF.cell? ⟨RA, 4, none⟩ = some (.int .i64 0) := by rw [heap_cell HF4]; rfl
    have y4 : wF.frozen? ⟨RA, 4, none⟩ = false := heap_frozen HF4 4 (by omega)
    have x0 : wF.cell? ⟨RB, 0, none⟩ = some (.int .i64 0) := by rw [heap_cell HF5]; rfl
    have v0 : wF.frozen? ⟨RB, 0, none⟩ = false := heap_frozen HF5 0 (by omega)
    have x1 : wF.cell? ⟨RB, 1, none⟩ = some (.slice none 0 0) := by rw [heap_cell HF5]; rfl
    have v1 : wF.frozen? ⟨RB, 1, none⟩ = false := heap_frozen HF5 1 (by omega)
    have x2 : wF.cell? ⟨RB, 2, none⟩ = some (.string ⟨#[]⟩) := by rw [heap_cell HF5]; rfl
    have v2 : wF.frozen? ⟨RB, 2, none⟩ = false := heap_frozen HF5 2 (by omega)
    have x3 : wF.cell? ⟨RB, 3, none⟩ = some (.string ⟨#[]⟩) := by rw [heap_cell HF5]; rfl
    have v3 : wF.frozen? ⟨RB, 3, none⟩ = false := heap_frozen HF5 3 (by omega)
    have x4 : wF.cell? ⟨RB, 4, none⟩ = some (.int .i64 0) := by rw [heap_cell HF5]; rfl
    have v4 : wF.frozen? ⟨RB, 4, none⟩ = false := heap_frozen HF5 4 (by omega)
    have E := hid (store10 (G2.out.trans gF) (r4 := RA) (r5 := RB) (by omega) (by omega) (by omega) HF4 HF5 (.slice p n cap) (.int .i64 (fin : Int)) (.int .i64 ((at_ : Nat) : Int)) (.int .i64 ((failE 41 (T.drop (at_)) : Nat) : Int)) (.int .i64 ((failAt fin (T.drop (at_)) : Nat) : Int)) (.int .i64 0) (.slice none 0 0) (.string ⟨#[]⟩) (.string ⟨#[]⟩) (.int .i64 0))
    clear HF4 HF5 gF
    go_wp2_with fail
    (try simp only [Exit.inBlock, Exit.then])
    have E1 := E.out
    have hF := failE_ne 41 (T.drop (at_)) (by omega) (by omega)
    refine read_ret (nd := .zero) rfl rfl rfl E1.1 E1.2.1 E1.2.2 (NodeR.In.leaf _ _ 0 ⟨#[]⟩ ⟨#[]⟩ 0) (by omega) hF.2 ?_
    rw [HC.out]
    exact ⟨rfl, rfl, hF.1⟩
  · have k1 : ((m.kind : Int) != 3) = false := by simp; omega
    have k2 : (m.str.toList == [40]) = false := by rw [← hO.out]; exact hstr.out _ _ h3 hp
    have k2' : ¬m.str.toList = [40] := by simpa using k2
    have k3 : (m.str.toList == [41]) = false := by rw [← hS.out]; exact hstr.out _ _ h3 hq
    have k3' : ¬m.str.toList = [41] := by simpa using k3
    obtain ⟨L2, hL2⟩ : ∃ L2, T.drop at_ = m :: L2 := by
      cases hd : T.drop at_ with
      | nil =>
        have := HG.out
        rw [hd] at this
        rw [this] at h3
        cases h3
      | cons a l =>
        have := HG.out
        rw [hd] at this
        exact ⟨l, by rw [this]; rfl⟩
    have hat2 : at_ + 1 ≤ T.length := by
      have := congrArg List.length hL2
      simp at this
      omega
    have hD2 : T.drop (at_ + 1) = L2 := by
      rw [← List.drop_drop, hL2]
      rfl
    have hpq := hid (show (isT (m :: L2) bOpen || isT (m :: L2) bShut) = false from by rw [← hL2, hp, hq]; rfl)
    have hok2 : ∀ t ∈ L2, t.Ok := fun x hx => hok x (List.mem_of_mem_drop (i := at_ + 1) (by rw [hD2]; exact hx))
    have hm3 := hid h3
    replace hL2 := hid hL2
    replace hD2 := hid hD2
    replace hok2 := hid hok2
    have TB2 := hid (heap_new w1 (.cells #[.int .i64 (m.kind : Int), .string m.str, .int .i64 m.num, .int .i64 (m.pos : Int)] 54))
    have ON := hid (fun (w' : World) => Ron_c p n cap fin at_ 0 0 w' (by omega))
    unfold rdV at ON
    have hat3 : (at_ : Int) + 1 ≤ 10000 := by omega
    have hz2 : w1.heap.size < (w1.alloc (.cells #[.int .i64 (m.kind : Int), .string m.str, .int .i64 m.num, .int .i64 (m.pos : Int)] 54)).heap.size := by simp
    clear hm h3 hp hq hok
    generalize hA : at_ + 1 = a1 at *
    have hA2 : a1 ≤ 9000 := by omega
    replace hA := hid hA
    go_wp2_with fail
    generalize hw2 : w1.alloc (.cells #[.int .i64 (m.kind : Int), .string m.str, .int .i64 m.num, .int .i64 (m.pos : Int)] 54) = w2 at *
    generalize htb : w1.heap.size = tb at *
    clear hw2 r0 r1 r2 r3 r4
    refine (ON.out w2).mono ?_
    rintro e w3 ⟨rfl, g3⟩
    have hs3 := g3.size
    have B3 := g3.heap B2.out
    have s0 : w3.cell? ⟨H, 0, none⟩ = some (.slice p n cap) := by rw [heap_cell B3]; rfl
    have s1 : w3.cell? ⟨H, 1, none⟩ = some (.int .i64 (fin : Int)) := by rw [heap_cell B3]; rfl
    have s2 : w3.cell? ⟨H, 2, none⟩ = some (.int .i64 (at_ : Int)) := by rw [heap_cell B3]; rfl
    have s3 : w3.cell? ⟨H, 3, none⟩ = some (.int .i64 0) := by rw [heap_cell B3]; rfl
    have s4 : w3.cell? ⟨H, 4, none⟩ = some (.int .i64 0) := by rw [heap_cell B3]; rfl
    have f0 : w3.frozen? ⟨H, 0, none⟩ = false := heap_frozen B3 0 (by omega)
    have f1 : w3.frozen? ⟨H, 1, none⟩ = false := heap_frozen B3 1 (by omega)
    have f2 : w3.frozen? ⟨H, 2, none⟩ = false := heap_frozen B3 2 (by omega)
    have f3 : w3.frozen? ⟨H, 3, none⟩ = false := heap_frozen B3 3 (by omega)
    have f4 : w3.frozen? ⟨H, 4, none⟩ = false := heap_frozen B3 4 (by omega)
    have S5 := set5 (G2.out.trans g3) hws B3 (.slice p n cap) (.int .i64 (fin : Int)) (.int .i64 (a1 : Int)) (.int .i64 0) (.int .i64 0)
    have TB3 := hid (S5.2.2.1 _ _ (by omega) (g3.heap TB2.out))
    have R43 := hid (S5.2.2.1 _ _ (by omega) (g3.heap R42.out))
    have R53 := hid (S5.2.2.1 _ _ (by omega) (g3.heap R52.out))
    have B4 := hid S5.1
    have G3 := hid S5.2.1
    have hs4 := hid S5.2.2.2
    clear S5 B3 g3 ON
    have NX := hid (fun (w' : World) (g : Grow w w') => Rnext_c p n cap fin a1 0 0 T w' (HT.out.grow g) (by omega) (by omega))
    unfold rdV at NX
    have HNK : Hid (nextK T a1 0 = L2.headD ⟨0, [], 0, 0⟩) := hid (by
      rw [show nextK T a1 0 = T.getD a1 ⟨0, [], 0, 0⟩ from by unfold nextK; rw [if_neg (by simp)], getD_drop, hD2.out])
    go_wp2_with fail
    generalize (((((w3.setCell ⟨H, 0, none⟩ (.slice p n cap)).setCell ⟨H, 1, none⟩ (.int .i64 (fin : Int))).setCell ⟨H, 2, none⟩ (.int .i64 (a1 : Int))).setCell ⟨H, 3, none⟩ (.int .i64 0)).setCell ⟨H, 4, none⟩ (.int .i64 0)) = w4 at *
    refine (NX.out w4 G3.out).mono ?_
    rintro e w5 ⟨rfl, g5⟩
    have hs5 := g5.size
    have hs45 := hs4.out
    have G5 := hid (G3.out.trans g5)
    have B5 := hid (g5.heap B4.out)
    have R45 := hid (g5.heap R43.out)
    have R55 := hid (g5.heap R53.out)
    have TB5 := hid (g5.heap TB3.out)
    generalize nextK T a1 0 = v at *
    unfold tokV
    have r0 : w5.cell? ⟨H, 0, none⟩ = some (.slice p n cap) := by rw [heap_cell B5.out]; rfl
    have r1 : w5.cell? ⟨H, 1, none⟩ = some (.int .i64 (fin : Int)) := by rw [heap_cell B5.out]; rfl
    have r2 : w5.cell? ⟨H, 2, none⟩ = some (.int .i64 (a1 : Int)) := by rw [heap_cell B5.out]; rfl
    have r3 : w5.cell? ⟨H, 3, none⟩ = some (.int .i64 0) := by rw [heap_cell B5.out]; rfl
    have r4 : w5.cell? ⟨H, 4, none⟩ = some (.int .i64 0) := by rw [heap_cell B5.out]; rfl
    have t0 : w5.cell? ⟨tb, 0, none⟩ = some (.int .i64 (m.kind : Int)) := by rw [heap_cell TB5.out]; rfl
    have t1 : w5.cell? ⟨tb, 1, none⟩ = some (.string m.str) := by rw [heap_cell TB5.out]; rfl
    have hzH5 : H < w5.heap.size := by omega
    have hzt5 : tb < w5.heap.size := heap_lt TB5.out
    have hvs := hid (show (v.kind = 1 ∨ v.kind = 2) ∨ ((v.kind ≠ 1 ∧ v.kind ≠ 2) ∧ ∀ x R, L2 = x :: R → x.kind = 3) from by
      cases hd : L2 with
      | nil =>
        have := HNK.out
        rw [hd] at this
        right
        rw [this]
        exact ⟨by decide, fun x R e => by cases e⟩
      | cons a l =>
        have := HNK.out
        rw [hd] at this
        have hk := (hok2.out a (by rw [hd]; simp)).1
        rw [show v = a from this]
        rcases hk with hk | hk | hk
        · exact .inl (.inl hk)
        · exact .inl (.inr hk)
        · exact .inr ⟨by omega, fun x R e => by cases e; exact hk⟩)
    clear g5 NX s0 s1 s2 s3 s4 f0 f1 f2 f3 f4 hs4
    rcases hvs.out with hv | ⟨hv, hall⟩
    · have G6 := hid (G5.out.trans (Grow.alloc w5 (.cells #[.int .i64 (v.kind : Int), .string v.str, .int .i64 v.num, .int .i64 (v.pos : Int)] 54)))
      have R46 := hid (heap_alloc_keep R45.out (.cells #[.int .i64 (v.kind : Int), .string v.str, .int .i64 v.num, .int .i64 (v.pos : Int)] 54))
      have R56 := hid (heap_alloc_keep R55.out (.cells #[.int .i64 (v.kind : Int), .string v.str, .int .i64 v.num, .int .i64 (v.pos : Int)] 54))
      have B6 := hid (heap_alloc_keep B5.out (.cells #[.int .i64 (v.kind : Int), .string v.str, .int .i64 v.num, .int .i64 (v.pos : Int)] 54))
      have TB6 := hid (heap_alloc_keep TB5.out (.cells #[.int .i64 (v.kind : Int), .string v.str, .int .i64 v.num, .int .i64 (v.pos : Int)] 54))
      have VB6 := hid (heap_new w5 (.cells #[.int .i64 (v.kind : Int), .string v.str, .int .i64 v.num, .int .i64 (v.pos : Int)] 54))
      have WD := hid (fun (w' : World) => Rwords_c f w')
      obtain ⟨L3, hL3⟩ : ∃ L3, L2 = v :: L3 := by
        cases hd : L2 with
        | nil =>
          have := HNK.out
          rw [hd] at this
          rw [this] at hv
          rcases hv with hv | hv <;> cases hv
        | cons a l =>
          have := HNK.out
          rw [hd] at this
          exact ⟨l, by rw [this]; rfl⟩
      have hvk3 := hid (show v.kind ≠ 3 by omega)
      have hL := hid (show T.drop at_ = m :: v :: L3 from by rw [hL2.out, hL3])
      have hD3 := hid (show T.drop (a1 + 1) = L3 ∧ a1 + 1 ≤ T.length from by
        have e : T.drop a1 = v :: L3 := by rw [hD2.out, hL3]
        refine ⟨by rw [← List.drop_drop, e]; rfl, ?_⟩
        have := congrArg List.length e
        simp at this
        omega)
      replace hpq := hid (show (isT (m :: v :: L3) bOpen || isT (m :: v :: L3) bShut) = false from by rw [← hL3]; exact hpq.out)
      replace hL3 := hid hL3
      clear hvs
      rcases hv with hv | hv
      · have k4 : ((v.kind : Int) != 1) = false := by simp; omega
        have k5 : ((v.kind : Int) != 2) = true := by simp; omega
        replace hv := hid hv
        go_wp2_with fail
        refine (WD.out _).mono ?_
        rintro e w7 ⟨lv, rfl, hW, g7⟩
        generalize hvb : w5.heap.size = vb at *
        have hvb1 := hid hvb
        clear hvb
        have G7 := hid (G6.out.trans g7)
        have R47 := hid (g7.heap R46.out)
        have R57 := hid (g7.heap R56.out)
        have B7 := hid (g7.heap B6.out)
        have TB7 := g7.heap TB6.out
        have VB7 := g7.heap VB6.out
        have u1 : w7.cell? ⟨tb, 1, none⟩ = some (.string m.str) := by rw [heap_cell TB7]; rfl
        have u0 : w7.cell? ⟨vb, 0, none⟩ = some (.int .i64 (v.kind : Int)) := by rw [heap_cell VB7]; rfl
        have u2 : w7.cell? ⟨vb, 2, none⟩ = some (.int .i64 v.num) := by rw [heap_cell VB7]; rfl
        have u3 : w7.cell? ⟨vb, 1, none⟩ = some (.string v.str) := by rw [heap_cell VB7]; rfl
        have hz7 : tb < w7.heap.size := heap_lt TB7
        have hz8 : vb < w7.heap.size := heap_lt VB7
        have hz9 : H < w7.heap.size := heap_lt B7.out
        replace TB7 := hid TB7
        replace VB7 := hid VB7
        clear g7 WD
        cases hnm : namesB f with
        | false =>
          obtain ⟨hw0, hq0⟩ := words_no hnm v.str
          rw [hw0] at hW
          obtain rfl : lv = .slice none 0 0 := by
            rcases hW with ⟨_, h⟩ | ⟨b, _, h, _⟩
            · exact h
            · simp at h
          have HC := hid (show compareP fin (t :: m :: v :: L3) = failP fin 43 (T.drop a1) from by
            rw [hD2.out, hL3.out]
            exact compareP_type fin hf hpq.out hm3.out hvk3.out (by
              rw [hts, hnm, hq0]
              exact .inr (.inl ⟨rfl, by have := hv.out; omega⟩)))
          clear hW hnm
          have NB8 := hid (heap_new w7 (.cells #[.int .i64 4, .slice none 0 0, .string f, .string m.str, .int .i64 v.num] 24))
          have B8 := hid (heap_alloc_keep B7.out (.cells #[.int .i64 4, .slice none 0 0, .string f, .string m.str, .int .i64 v.num] 24))
          have R48 := hid (heap_alloc_keep R47.out (.cells #[.int .i64 4, .slice none 0 0, .string f, .string m.str, .int .i64 v.num] 24))
          have R58 := hid (heap_alloc_keep R57.out (.cells #[.int .i64 4, .slice none 0 0, .string f, .string m.str, .int .i64 v.num] 24))
          have G8 := hid (G7.out.trans (Grow.alloc w7 (.cells #[.int .i64 4, .slice none 0 0, .string f, .string m.str, .int .i64 v.num] 24)))
          have b0 : w7.cell? ⟨H, 0, none⟩ = some (.slice p n cap) := by rw [heap_cell B7.out]; rfl
          have b1 : w7.cell? ⟨H, 1, none⟩ = some (.int .i64 (fin : Int)) := by rw [heap_cell B7.out]; rfl
          have b2 : w7.cell? ⟨H, 2, none⟩ = some (.int .i64 (a1 : Int)) := by rw [heap_cell B7.out]; rfl
          have b3 : w7.cell? ⟨H, 3, none⟩ = some (.int .i64 0) := by rw [heap_cell B7.out]; rfl
          have b4 : w7.cell? ⟨H, 4, none⟩ = some (.int .i64 0) := by rw [heap_cell B7.out]; rfl
          go_wp2_with fail
          clear b0 b1 b2 b3 b4
          generalize w7.alloc (.cells #[.int .i64 4, .slice none 0 0, .string f, .string m.str, .int .i64 v.num] 24) = w8 at *
          generalize hnb : w7.heap.size = nb at *
          have hnb1 : nb ≠ RA := by have := heap_lt R57.out; omega
          have hnb2 : nb ≠ RB := by have := heap_lt R57.out; omega
          have hnb3 : RA ≠ nb := Ne.symm hnb1
          have hnb4 : RB ≠ nb := Ne.symm hnb2
          replace hnb := hid hnb
          clear u0 u1 u2 u3
          have R4z := R48
          refine (RfailNew_c p n cap fin a1 0 43 T _ (HT.out.grow G8.out) (by omega)).mono ?_
          rintro e wF ⟨rfl, gF⟩
          unfold rdV
          have HF4 := gF.heap R48.out
          have HF5 := gF.heap R58.out
          have z0 : wF.cell? ⟨RA, 0, none⟩ = some (.slice none 0 0) := by rw [heap_cell HF4]; rfl
          have y0 : wF.frozen? ⟨RA, 0, none⟩ = false := heap_frozen HF4 0 (by omega)
          have z1 : wF.cell? ⟨RA, 1, none⟩ = some (.int .i64 0) := by rw [heap_cell HF4]; rfl
          have y1 : wF.frozen? ⟨RA, 1, none⟩ = false := heap_frozen HF4 1 (by omega)
          have z2 : wF.cell? ⟨RA, 2, none⟩ = some (.int .i64 0) := by rw [heap_cell HF4]; rfl
          have y2 : wF.frozen? ⟨RA, 2, none⟩ = false := heap_frozen HF4 2 (by omega)
          have z3 : wF.cell? ⟨RA, 3, none⟩ = some (.int .i64 0) := by rw [heap_cell HF4]; rfl
          have y3 : wF.frozen? ⟨RA, 3, none⟩ = false := heap_frozen HF4 3 (by omega)
          have z4 : wF.cell? ⟨RA, 4, none⟩ = some (.int .i64 0) := by rw [heap_cell HF4]; rfl
          have y4 : wF.frozen? ⟨RA, 4, none⟩ = false := heap_frozen HF4 4 (by omega)
          have x0 : wF.cell? ⟨RB, 0, none⟩ = some (.int .i64 0) := by rw [heap_cell HF5]; rfl
          have v0 : wF.frozen? ⟨RB, 0, none⟩ = false := heap_frozen HF5 0 (by omega)
          have x1 : wF.cell? ⟨RB, 1, none⟩ = some (.slice none 0 0) := by rw [heap_cell HF5]; rfl
          have v1 : wF.frozen? ⟨RB, 1, none⟩ = false := heap_frozen HF5 1 (by omega)
          have x2 : wF.cell? ⟨RB, 2, none⟩ = some (.string ⟨#[]⟩) := by rw [heap_cell HF5]; rfl
          have v2 : wF.frozen? ⟨RB, 2, none⟩ = false := heap_frozen HF5 2 (by omega)
          have x3 : wF.cell? ⟨RB, 3, none⟩ = some (.string ⟨#[]⟩) := by rw [heap_cell HF5]; rfl
          have v3 : wF.frozen? ⟨RB, 3, none⟩ = false := heap_frozen HF5 3 (by omega)
          have x4 : wF.cell? ⟨RB, 4, none⟩ = some (.int .i64 0) := by rw [heap_cell HF5]; rfl
          have v4 : wF.frozen? ⟨RB, 4, none⟩ = false := heap_frozen HF5 4 (by omega)
          have E := hid (store10 (G8.out.trans gF) (r4 := RA) (r5 := RB) (by omega) (by omega) (by omega) HF4 HF5 (.slice p n cap) (.int .i64 (fin : Int)) (.int .i64 ((a1 : Nat) : Int)) (.int .i64 ((failE 43 (T.drop (a1)) : Nat) : Int)) (.int .i64 ((failAt fin (T.drop (a1)) : Nat) : Int)) (.int .i64 0) (.slice none 0 0) (.string ⟨#[]⟩) (.string ⟨#[]⟩) (.int .i64 0))
          clear HF4 HF5 gF
          go_wp2_with fail
          (try simp only [Exit.inBlock, Exit.then])
          have E1 := E.out
          have hF := failE_ne 43 (T.drop (a1)) (by omega) (by omega)
          refine read_ret (nd := .zero) rfl rfl rfl E1.1 E1.2.1 E1.2.2 (NodeR.In.leaf _ _ 0 ⟨#[]⟩ ⟨#[]⟩ 0) (by omega) hF.2 ?_
          rw [hL.out, HC.out]
          exact ⟨rfl, rfl, hF.1⟩
        | true =>
          obtain ⟨q1, q2, q3, q4, q5, q6⟩ := words_yes hnm v.str
          rcases hW with ⟨h, _⟩ | ⟨wb, rfl, _, _, hcw⟩
          · exact absurd (show (wordsW f).1.length = 0 from by rw [h]; rfl) (Nat.ne_of_gt q1)
          have PL := hid (fun (w' : World) (g : Grow w7 w') => Rplace_c (wordsW f).1 wb (wordsW f).1.length v.str w' q2 (fun j hj => g.cell (hcw j hj)))
          have hidx := idxOfS_lo (wordsW f).1 v.str
          clear hcw
          generalize (wordsW f).1 = wl at *
          generalize (wordsW f).2 = wf at *
          generalize Lib.idxOfS wl v.str = ix at *
          obtain ⟨hx0, hx1⟩ := hidx
          have hx2 : ix ≤ 100 := by omega
          have hwl : (wl.length : Int) ≤ 100 := by omega
          have kl : ((wl.length : Int) == 0) = false := by rw [beq_eq_false_iff_ne]; omega
          have kl2 : ¬(wl.length : Int) = 0 := by omega
          have kl3 : (0 : Int) < (wl.length : Int) := by omega
          have kl4 : ¬wl.length = 0 := by omega
          have hq3 := hid q3
          have hq4 := hid q4
          clear q3 q4
          have NB8 := hid (heap_new w7 (.cells #[.int .i64 4, .slice none 0 0, .string f, .string m.str, .int .i64 v.num] 24))
          have B8 := hid (heap_alloc_keep B7.out (.cells #[.int .i64 4, .slice none 0 0, .string f, .string m.str, .int .i64 v.num] 24))
          have R48 := hid (heap_alloc_keep R47.out (.cells #[.int .i64 4, .slice none 0 0, .string f, .string m.str, .int .i64 v.num] 24))
          have R58 := hid (heap_alloc_keep R57.out (.cells #[.int .i64 4, .slice none 0 0, .string f, .string m.str, .int .i64 v.num] 24))
          have G8 := hid (G7.out.trans (Grow.alloc w7 (.cells #[.int .i64 4, .slice none 0 0, .string f, .string m.str, .int .i64 v.num] 24)))
          have g78 := hid (Grow.alloc w7 (.cells #[.int .i64 4, .slice none 0 0, .string f, .string m.str, .int .i64 v.num] 24))
          have ON2 := hid (fun (w' : World) => Ron_c p n cap fin a1 0 0 w' (by omega))
          unfold rdV at ON2
          go_wp2_with fail
          refine (PL.out _ g78.out).mono ?_
          rintro e w8 ⟨rfl, h8⟩
          subst h8
          have hu1 := hid (g78.out.cell u1)
          have hu3 := hid (g78.out.cell u3)
          generalize w7.alloc (.cells #[.int .i64 4, .slice none 0 0, .string f, .string m.str, .int .i64 v.num] 24) = w8 at *
          generalize hnb : w7.heap.size = nb at *
          have hnb1 : nb ≠ RA := by have := heap_lt R57.out; omega
          have hnb2 : nb ≠ RB := by have := heap_lt R57.out; omega
          have hnb3 : RA ≠ nb := Ne.symm hnb1
          have hnb4 : RB ≠ nb := Ne.symm hnb2
          have hnb5 : H ≠ nb := by omega
          have hnb6 : w.heap.size ≤ nb := by have := G7.out.size; omega
          replace hnb := hid hnb
          clear u0 u1 u2 u3
          have u1 := hu1.out
          have u3 := hu3.out
          have b0 : w8.cell? ⟨H, 0, none⟩ = some (.slice p n cap) := by rw [heap_cell B8.out]; rfl
          have b1 : w8.cell? ⟨H, 1, none⟩ = some (.int .i64 (fin : Int)) := by rw [heap_cell B8.out]; rfl
          have b2 : w8.cell? ⟨H, 2, none⟩ = some (.int .i64 (a1 : Int)) := by rw [heap_cell B8.out]; rfl
          have b3 : w8.cell? ⟨H, 3, none⟩ = some (.int .i64 0) := by rw [heap_cell B8.out]; rfl
          have b4 : w8.cell? ⟨H, 4, none⟩ = some (.int .i64 0) := by rw [heap_cell B8.out]; rfl
          by_cases hix : ix < 0
          · have HC := hid (show compareP fin (t :: m :: v :: L3) = failP fin 43 (T.drop a1) from by
              rw [hD2.out, hL3.out]
              exact compareP_type fin hf hpq.out hm3.out hvk3.out (.inl (by
                rw [hts, hnm, hq3.out]
                simp; omega)))
            have R4z := R48
            clear hnm
            go_wp2_with fail
            clear b0 b1 b2 b3 b4
            refine (RfailNew_c p n cap fin a1 0 43 T _ (HT.out.grow G8.out) (by omega)).mono ?_
            rintro e wF ⟨rfl, gF⟩
            unfold rdV
            have HF4 := gF.heap R48.out
            have HF5 := gF.heap R58.out
            have z0 : wF.cell? ⟨RA, 0, none⟩ = some (.slice none 0 0) := by rw [heap_cell HF4]; rfl
            have y0 : wF.frozen? ⟨RA, 0, none⟩ = false := heap_frozen HF4 0 (by omega)
            have z1 : wF.cell? ⟨RA, 1, none⟩ = some (.int .i64 0) := by rw [heap_cell HF4]; rfl
            have y1 : wF.frozen? ⟨RA, 1, none⟩ = false := heap_frozen HF4 1 (by omega)
            have z2 : wF.cell? ⟨RA, 2, none⟩ = some (.int .i64 0) := by rw [heap_cell HF4]; rfl
            have y2 : wF.frozen? ⟨RA, 2, none⟩ = false := heap_frozen HF4 2 (by omega)
            have z3 : wF.cell? ⟨RA, 3, none⟩ = some (.int .i64 0) := by rw [heap_cell HF4]; rfl
            have y3 : wF.frozen? ⟨RA, 3, none⟩ = false := heap_frozen HF4 3 (by omega)
            have z4 : wF.cell? ⟨RA, 4, none⟩ = some (.int .i64 0) := by rw [heap_cell HF4]; rfl
            have y4 : wF.frozen? ⟨RA, 4, none⟩ = false := heap_frozen HF4 4 (by omega)
            have x0 : wF.cell? ⟨RB, 0, none⟩ = some (.int .i64 0) := by rw [heap_cell HF5]; rfl
            have v0 : wF.frozen? ⟨RB, 0, none⟩ = false := heap_frozen HF5 0 (by omega)
            have x1 : wF.cell? ⟨RB, 1, none⟩ = some (.slice none 0 0) := by rw [heap_cell HF5]; rfl
            have v1 : wF.frozen? ⟨RB, 1, none⟩ = false := heap_frozen HF5 1 (by omega)
            have x2 : wF.cell? ⟨RB, 2, none⟩ = some (.string ⟨#[]⟩) := by rw [heap_cell HF5]; rfl
            have v2 : wF.frozen? ⟨RB, 2, none⟩ = false := heap_frozen HF5 2 (by omega)
            have x3 : wF.cell? ⟨RB, 3, none⟩ = some (.string ⟨#[]⟩) := by rw [heap_cell HF5]; rfl
            have v3 : wF.frozen? ⟨RB, 3, none⟩ = false := heap_frozen HF5 3 (by omega)
            have x4 : wF.cell? ⟨RB, 4, none⟩ = some (.int .i64 0) := by rw [heap_cell HF5]; rfl
            have v4 : wF.frozen? ⟨RB, 4, none⟩ = false := heap_frozen HF5 4 (by omega)
            have E := hid (store10 (G8.out.trans gF) (r4 := RA) (r5 := RB) (by omega) (by omega) (by omega) HF4 HF5 (.slice p n cap) (.int .i64 (fin : Int)) (.int .i64 ((a1 : Nat) : Int)) (.int .i64 ((failE 43 (T.drop (a1)) : Nat) : Int)) (.int .i64 ((failAt fin (T.drop (a1)) : Nat) : Int)) (.int .i64 0) (.slice none 0 0) (.string ⟨#[]⟩) (.string ⟨#[]⟩) (.int .i64 0))
            clear HF4 HF5 gF
            go_wp2_with fail
            (try simp only [Exit.inBlock, Exit.then])
            have E1 := E.out
            have hF := failE_ne 43 (T.drop (a1)) (by omega) (by omega)
            refine read_ret (nd := .zero) rfl rfl rfl E1.1 E1.2.1 E1.2.2 (NodeR.In.leaf _ _ 0 ⟨#[]⟩ ⟨#[]⟩ 0) (by omega) hF.2 ?_
            rw [hL.out, HC.out]
            exact ⟨rfl, rfl, hF.1⟩
          have hix2 : 0 ≤ ix := by omega
          have hix3 : ¬ix < 0 := by omega
          have hq5 := hq3.out
          rw [show decide (0 ≤ ix) = true from by simpa using hix2] at hq5
          have hq6 := hid (hq4.out hix2)
          replace hq5 := hid hq5
          by_cases hms : m.str ≠ bEq ∧ m.str ≠ bNe
          · have HC := hid (show compareP fin (t :: m :: v :: L3) = failP fin 43 (T.drop a1) from by
              rw [hD2.out, hL3.out]
              exact compareP_type fin hf hpq.out hm3.out hvk3.out (.inr (.inr (by
                rw [hts, hq5.out]
                exact ⟨rfl, hms⟩))))
            have hm5 : ¬m.str.toList = [61] := fun e => hms.1 (toList_injR (by rw [e]; kernel_rfl))
            have hm6 : ¬m.str.toList = [33, 61] := fun e => hms.2 (toList_injR (by rw [e]; kernel_rfl))
            have hm7 : (m.str.toList == [61]) = false := by simpa using hm5
            have hm8 : (m.str.toList == [33, 61]) = false := by simpa using hm6
            have R4z := R48
            clear hnm hms
            go_wp2_with fail
            clear b0 b1 b2 b3 b4
            refine (RfailNew_c p n cap fin a1 0 43 T _ (HT.out.grow G8.out) (by omega)).mono ?_
            rintro e wF ⟨rfl, gF⟩
            unfold rdV
            have HF4 := gF.heap R48.out
            have HF5 := gF.heap R58.out
            have z0 : wF.cell? ⟨RA, 0, none⟩ = some (.slice none 0 0) := by rw [heap_cell HF4]; rfl
            have y0 : wF.frozen? ⟨RA, 0, none⟩ = false := heap_frozen HF4 0 (by omega)
            have z1 : wF.cell? ⟨RA, 1, none⟩ = some (.int .i64 0) := by rw [heap_cell HF4]; rfl
            have y1 : wF.frozen? ⟨RA, 1, none⟩ = false := heap_frozen HF4 1 (by omega)
            have z2 : wF.cell? ⟨RA, 2, none⟩ = some (.int .i64 0) := by rw [heap_cell HF4]; rfl
            have y2 : wF.frozen? ⟨RA, 2, none⟩ = false := heap_frozen HF4 2 (by omega)
            have z3 : wF.cell? ⟨RA, 3, none⟩ = some (.int .i64 0) := by rw [heap_cell HF4]; rfl
            have y3 : wF.frozen? ⟨RA, 3, none⟩ = false := heap_frozen HF4 3 (by omega)
            have z4 : wF.cell? ⟨RA, 4, none⟩ = some (.int .i64 0) := by rw [heap_cell HF4]; rfl
            have y4 : wF.frozen? ⟨RA, 4, none⟩ = false := heap_frozen HF4 4 (by omega)
            have x0 : wF.cell? ⟨RB, 0, none⟩ = some (.int .i64 0) := by rw [heap_cell HF5]; rfl
            have v0 : wF.frozen? ⟨RB, 0, none⟩ = false := heap_frozen HF5 0 (by omega)
            have x1 : wF.cell? ⟨RB, 1, none⟩ = some (.slice none 0 0) := by rw [heap_cell HF5]; rfl
            have v1 : wF.frozen? ⟨RB, 1, none⟩ = false := heap_frozen HF5 1 (by omega)
            have x2 : wF.cell? ⟨RB, 2, none⟩ = some (.string ⟨#[]⟩) := by rw [heap_cell HF5]; rfl
            have v2 : wF.frozen? ⟨RB, 2, none⟩ = false := heap_frozen HF5 2 (by omega)
            have x3 : wF.cell? ⟨RB, 3, none⟩ = some (.string ⟨#[]⟩) := by rw [heap_cell HF5]; rfl
            have v3 : wF.frozen? ⟨RB, 3, none⟩ = false := heap_frozen HF5 3 (by omega)
            have x4 : wF.cell? ⟨RB, 4, none⟩ = some (.int .i64 0) := by rw [heap_cell HF5]; rfl
            have v4 : wF.frozen? ⟨RB, 4, none⟩ = false := heap_frozen HF5 4 (by omega)
            have E := hid (store10 (G8.out.trans gF) (r4 := RA) (r5 := RB) (by omega) (by omega) (by omega) HF4 HF5 (.slice p n cap) (.int .i64 (fin : Int)) (.int .i64 ((a1 : Nat) : Int)) (.int .i64 ((failE 43 (T.drop (a1)) : Nat) : Int)) (.int .i64 ((failAt fin (T.drop (a1)) : Nat) : Int)) (.int .i64 0) (.slice none 0 0) (.string ⟨#[]⟩) (.string ⟨#[]⟩) (.int .i64 0))
            clear HF4 HF5 gF
            go_wp2_with fail
            (try simp only [Exit.inBlock, Exit.then])
            have E1 := E.out
            have hF := failE_ne 43 (T.drop (a1)) (by omega) (by omega)
            refine read_ret (nd := .zero) rfl rfl rfl E1.1 E1.2.1 E1.2.2 (NodeR.In.leaf _ _ 0 ⟨#[]⟩ ⟨#[]⟩ 0) (by omega) hF.2 ?_
            rw [hL.out, HC.out]
            exact ⟨rfl, rfl, hF.1⟩
          have HC := hid (show compareP fin (t :: m :: v :: L3) = .ok (.mk 4 [] f m.str (ix + wf)) L3 from by
            have h := compareP_ok fin hf hpq.out hm3.out hvk3.out (by
              rw [hts, hnm, hq5.out]
              rintro (h | ⟨h, -⟩ | ⟨-, h⟩)
              · exact h rfl
              · cases h
              · exact hms h)
            rw [hts, hq5.out, hq6.out] at h
            simpa using h)
          have hms2 : m.str.toList = [61] ∨ m.str.toList = [33, 61] := by
            by_cases h1 : m.str = bEq
            · exact .inl ((congrArg ByteArray.toList h1).trans (by kernel_rfl))
            · right
              have h2 : m.str = bNe := by
                by_cases h3 : m.str = bNe
                · exact h3
                · exact absurd ⟨h1, h3⟩ hms
              exact (congrArg ByteArray.toList h2).trans (by kernel_rfl)
          clear hms
          have e4 : w8.cell? ⟨nb, 4, none⟩ = some (.int .i64 v.num) := by rw [heap_cell NB8.out]; rfl
          have f4 : w8.frozen? ⟨nb, 4, none⟩ = false := heap_frozen NB8.out 4 (by omega)
          have hz8' := heap_lt NB8.out
          rcases hms2 with hms2 | hms2
          all_goals
            have hnm' := hid hnm
            clear hnm
            go_wp2_with fail
            refine (PL.out _ g78.out).mono ?_
            rintro e w9 ⟨rfl, h9⟩
            subst h9
            replace NB8 := hid (heap_set NB8.out 4 (.int .i64 (ix + wf)))
            replace B8 := hid (heap_keep B8.out ⟨nb, 4, none⟩ (.int .i64 (ix + wf)) hnb5)
            replace R48 := hid (heap_keep R48.out ⟨nb, 4, none⟩ (.int .i64 (ix + wf)) hnb3)
            replace R58 := hid (heap_keep R58.out ⟨nb, 4, none⟩ (.int .i64 (ix + wf)) hnb4)
            replace G8 := hid (Grow.set G8.out nb 4 hnb6 (.int .i64 (ix + wf)))
            clear b0 b1 b2 b3 b4
            have hms3 := hid hms2
            go_wp2_with fail
            clear e4 f4
            clear hms2 u1 u3
            generalize w8.setCell ⟨nb, 4, none⟩ (.int .i64 (ix + wf)) = w8x at *
            have hc10 : w8x.cell? ⟨H, 0, none⟩ = some (.slice p n cap) ∧ w8x.cell? ⟨H, 1, none⟩ = some (.int .i64 (fin : Int)) ∧ w8x.cell? ⟨H, 2, none⟩ = some (.int .i64 (a1 : Int)) ∧ w8x.cell? ⟨H, 3, none⟩ = some (.int .i64 0) ∧ w8x.cell? ⟨H, 4, none⟩ = some (.int .i64 0) ∧ w8x.cell? ⟨nb, 0, none⟩ = some (.int .i64 4) ∧ w8x.cell? ⟨nb, 1, none⟩ = some (.slice none 0 0) ∧ w8x.cell? ⟨nb, 2, none⟩ = some (.string f) ∧ w8x.cell? ⟨nb, 3, none⟩ = some (.string m.str) ∧ w8x.cell? ⟨nb, 4, none⟩ = some (.int .i64 (ix + wf)) := by
              rw [heap_cell B8.out, heap_cell B8.out, heap_cell B8.out, heap_cell B8.out, heap_cell B8.out, heap_cell NB8.out, heap_cell NB8.out, heap_cell NB8.out, heap_cell NB8.out, heap_cell NB8.out]
              exact ⟨rfl, rfl, rfl, rfl, rfl, rfl, rfl, rfl, rfl, rfl⟩
            go_region_held3 (fun w' => w'.cell? ⟨H, 0, none⟩ = some (.slice p n cap) ∧ w'.cell? ⟨H, 1, none⟩ = some (.int .i64 (fin : Int)) ∧ w'.cell? ⟨H, 2, none⟩ = some (.int .i64 (a1 : Int)) ∧ w'.cell? ⟨H, 3, none⟩ = some (.int .i64 0) ∧ w'.cell? ⟨H, 4, none⟩ = some (.int .i64 0) ∧ w'.cell? ⟨nb, 0, none⟩ = some (.int .i64 4) ∧ w'.cell? ⟨nb, 1, none⟩ = some (.slice none 0 0) ∧ w'.cell? ⟨nb, 2, none⟩ = some (.string f) ∧ w'.cell? ⟨nb, 3, none⟩ = some (.string m.str) ∧ w'.cell? ⟨nb, 4, none⟩ = some (.int .i64 (ix + wf)))
              (first | (with_reducible exact keep10 hc10 (Grow.trans (Grow.drew _) (by assumption))) | go_keep)
              ((go_at_call 21
                refine (ON2.out _).mono ?_
                rintro e w9 ⟨rfl, g9⟩
                have HF4 := ((Grow.drew _).trans g9).heap R48.out
                have HF5 := ((Grow.drew _).trans g9).heap R58.out
                have G9 := hid ((G8.out.trans (Grow.drew _)).trans g9)
                obtain ⟨kk0, kk1, kk2, kk3, kk4, kk5, kk6, kk7, kk8, kk9⟩ := keep10 hc10 ((Grow.drew _).trans g9)
                have z0 : w9.cell? ⟨RA, 0, none⟩ = some (.slice none 0 0) := by rw [heap_cell HF4]; rfl
                have y0 : w9.frozen? ⟨RA, 0, none⟩ = false := heap_frozen HF4 0 (by omega)
                have z1 : w9.cell? ⟨RA, 1, none⟩ = some (.int .i64 0) := by rw [heap_cell HF4]; rfl
                have y1 : w9.frozen? ⟨RA, 1, none⟩ = false := heap_frozen HF4 1 (by omega)
                have z2 : w9.cell? ⟨RA, 2, none⟩ = some (.int .i64 0) := by rw [heap_cell HF4]; rfl
                have y2 : w9.frozen? ⟨RA, 2, none⟩ = false := heap_frozen HF4 2 (by omega)
                have z3 : w9.cell? ⟨RA, 3, none⟩ = some (.int .i64 0) := by rw [heap_cell HF4]; rfl
                have y3 : w9.frozen? ⟨RA, 3, none⟩ = false := heap_frozen HF4 3 (by omega)
                have z4 : w9.cell? ⟨RA, 4, none⟩ = some (.int .i64 0) := by rw [heap_cell HF4]; rfl
                have y4 : w9.frozen? ⟨RA, 4, none⟩ = false := heap_frozen HF4 4 (by omega)
                have x0 : w9.cell? ⟨RB, 0, none⟩ = some (.int .i64 0) := by rw [heap_cell HF5]; rfl
                have v0 : w9.frozen? ⟨RB, 0, none⟩ = false := heap_frozen HF5 0 (by omega)
                have x1 : w9.cell? ⟨RB, 1, none⟩ = some (.slice none 0 0) := by rw [heap_cell HF5]; rfl
                have v1 : w9.frozen? ⟨RB, 1, none⟩ = false := heap_frozen HF5 1 (by omega)
                have x2 : w9.cell? ⟨RB, 2, none⟩ = some (.string ⟨#[]⟩) := by rw [heap_cell HF5]; rfl
                have v2 : w9.frozen? ⟨RB, 2, none⟩ = false := heap_frozen HF5 2 (by omega)
                have x3 : w9.cell? ⟨RB, 3, none⟩ = some (.string ⟨#[]⟩) := by rw [heap_cell HF5]; rfl
                have v3 : w9.frozen? ⟨RB, 3, none⟩ = false := heap_frozen HF5 3 (by omega)
                have x4 : w9.cell? ⟨RB, 4, none⟩ = some (.int .i64 0) := by rw [heap_cell HF5]; rfl
                have v4 : w9.frozen? ⟨RB, 4, none⟩ = false := heap_frozen HF5 4 (by omega)
                replace HF4 := hid HF4
                replace HF5 := hid HF5))
            go_wp2_with fail
            (try simp only [Exit.inBlock, Exit.then])
            have E := store10 G9.out (r4 := RA) (r5 := RB) (by omega) (by omega) n45 HF4.out HF5.out (.slice p n cap) (.int .i64 (fin : Int)) (.int .i64 ((a1 : Int) + 1)) (.int .i64 0) (.int .i64 0) (.int .i64 4) (.slice none 0 0) (.string f) (.string m.str) (.int .i64 (ix + wf))
            refine read_ret (nd := .mk 4 [] f m.str (ix + wf)) (at' := a1 + 1) (e' := 0) (pos' := 0) rfl rfl rfl (E.1.trans (by push_cast; rfl)) E.2.1 E.2.2 (NodeR.In.leaf _ _ 4 f m.str (ix + wf)) hD3.out.2 (by omega) ?_
            rw [hL.out, HC.out]
            exact ⟨by simp, rfl, rfl, hD3.out.1⟩
      · have k4 : ((v.kind : Int) != 1) = true := by simp; omega
        have k5 : ((v.kind : Int) != 2) = false := by simp; omega
        replace hv := hid hv
        go_wp2_with fail
        refine (WD.out _).mono ?_
        rintro e w7 ⟨lv, rfl, hW, g7⟩
        generalize hvb : w5.heap.size = vb at *
        have hvb1 := hid hvb
        clear hvb
        have G7 := hid (G6.out.trans g7)
        have R47 := hid (g7.heap R46.out)
        have R57 := hid (g7.heap R56.out)
        have B7 := hid (g7.heap B6.out)
        have TB7 := g7.heap TB6.out
        have VB7 := g7.heap VB6.out
        have u1 : w7.cell? ⟨tb, 1, none⟩ = some (.string m.str) := by rw [heap_cell TB7]; rfl
        have u0 : w7.cell? ⟨vb, 0, none⟩ = some (.int .i64 (v.kind : Int)) := by rw [heap_cell VB7]; rfl
        have u2 : w7.cell? ⟨vb, 2, none⟩ = some (.int .i64 v.num) := by rw [heap_cell VB7]; rfl
        have u3 : w7.cell? ⟨vb, 1, none⟩ = some (.string v.str) := by rw [heap_cell VB7]; rfl
        have hz7 : tb < w7.heap.size := heap_lt TB7
        have hz8 : vb < w7.heap.size := heap_lt VB7
        have hz9 : H < w7.heap.size := heap_lt B7.out
        replace TB7 := hid TB7
        replace VB7 := hid VB7
        clear g7 WD
        cases hnm : namesB f with
        | false =>
          obtain ⟨hw0, hq0⟩ := words_no hnm v.str
          rw [hw0] at hW
          obtain rfl : lv = .slice none 0 0 := by
            rcases hW with ⟨_, h⟩ | ⟨b, _, h, _⟩
            · exact h
            · simp at h
          have HC := hid (compareP_ok fin hf hpq.out hm3.out hvk3.out (by
            rw [hts, hnm, hq0]
            simp
            exact hv.out))
          rw [hts, hq0] at HC
          clear hW hnm
          have NB8 := hid (heap_new w7 (.cells #[.int .i64 4, .slice none 0 0, .string f, .string m.str, .int .i64 v.num] 24))
          have B8 := hid (heap_alloc_keep B7.out (.cells #[.int .i64 4, .slice none 0 0, .string f, .string m.str, .int .i64 v.num] 24))
          have R48 := hid (heap_alloc_keep R47.out (.cells #[.int .i64 4, .slice none 0 0, .string f, .string m.str, .int .i64 v.num] 24))
          have R58 := hid (heap_alloc_keep R57.out (.cells #[.int .i64 4, .slice none 0 0, .string f, .string m.str, .int .i64 v.num] 24))
          have G8 := hid (G7.out.trans (Grow.alloc w7 (.cells #[.int .i64 4, .slice none 0 0, .string f, .string m.str, .int .i64 v.num] 24)))
          have ON2 := hid (fun (w' : World) => Ron_c p n cap fin a1 0 0 w' (by omega))
          unfold rdV at ON2
          go_wp2_with fail
          generalize w7.alloc (.cells #[.int .i64 4, .slice none 0 0, .string f, .string m.str, .int .i64 v.num] 24) = w8 at *
          generalize hnb : w7.heap.size = nb at *
          have hnb1 : nb ≠ RA := by have := heap_lt R57.out; omega
          have hnb2 : nb ≠ RB := by have := heap_lt R57.out; omega
          have hnb3 : RA ≠ nb := Ne.symm hnb1
          have hnb4 : RB ≠ nb := Ne.symm hnb2
          replace hnb := hid hnb
          clear u0 u1 u2 u3
          have hc10 : w8.cell? ⟨H, 0, none⟩ = some (.slice p n cap) ∧ w8.cell? ⟨H, 1, none⟩ = some (.int .i64 (fin : Int)) ∧ w8.cell? ⟨H, 2, none⟩ = some (.int .i64 (a1 : Int)) ∧ w8.cell? ⟨H, 3, none⟩ = some (.int .i64 0) ∧ w8.cell? ⟨H, 4, none⟩ = some (.int .i64 0) ∧ w8.cell? ⟨nb, 0, none⟩ = some (.int .i64 4) ∧ w8.cell? ⟨nb, 1, none⟩ = some (.slice none 0 0) ∧ w8.cell? ⟨nb, 2, none⟩ = some (.string f) ∧ w8.cell? ⟨nb, 3, none⟩ = some (.string m.str) ∧ w8.cell? ⟨nb, 4, none⟩ = some (.int .i64 v.num) := by
            rw [heap_cell B8.out, heap_cell B8.out, heap_cell B8.out, heap_cell B8.out, heap_cell B8.out, heap_cell NB8.out, heap_cell NB8.out, heap_cell NB8.out, heap_cell NB8.out, heap_cell NB8.out]
            exact ⟨rfl, rfl, rfl, rfl, rfl, rfl, rfl, rfl, rfl, rfl⟩
          go_region_held3 (fun w' => w'.cell? ⟨H, 0, none⟩ = some (.slice p n cap) ∧ w'.cell? ⟨H, 1, none⟩ = some (.int .i64 (fin : Int)) ∧ w'.cell? ⟨H, 2, none⟩ = some (.int .i64 (a1 : Int)) ∧ w'.cell? ⟨H, 3, none⟩ = some (.int .i64 0) ∧ w'.cell? ⟨H, 4, none⟩ = some (.int .i64 0) ∧ w'.cell? ⟨nb, 0, none⟩ = some (.int .i64 4) ∧ w'.cell? ⟨nb, 1, none⟩ = some (.slice none 0 0) ∧ w'.cell? ⟨nb, 2, none⟩ = some (.string f) ∧ w'.cell? ⟨nb, 3, none⟩ = some (.string m.str) ∧ w'.cell? ⟨nb, 4, none⟩ = some (.int .i64 v.num))
            (first | (with_reducible exact keep10 hc10 (Grow.trans (Grow.drew _) (by assumption))) | go_keep)
            ((go_at_call 21
              refine (ON2.out _).mono ?_
              rintro e w9 ⟨rfl, g9⟩
              have HF4 := ((Grow.drew _).trans g9).heap R48.out
              have HF5 := ((Grow.drew _).trans g9).heap R58.out
              have G9 := hid ((G8.out.trans (Grow.drew _)).trans g9)
              obtain ⟨kk0, kk1, kk2, kk3, kk4, kk5, kk6, kk7, kk8, kk9⟩ := keep10 hc10 ((Grow.drew _).trans g9)
              have z0 : w9.cell? ⟨RA, 0, none⟩ = some (.slice none 0 0) := by rw [heap_cell HF4]; rfl
              have y0 : w9.frozen? ⟨RA, 0, none⟩ = false := heap_frozen HF4 0 (by omega)
              have z1 : w9.cell? ⟨RA, 1, none⟩ = some (.int .i64 0) := by rw [heap_cell HF4]; rfl
              have y1 : w9.frozen? ⟨RA, 1, none⟩ = false := heap_frozen HF4 1 (by omega)
              have z2 : w9.cell? ⟨RA, 2, none⟩ = some (.int .i64 0) := by rw [heap_cell HF4]; rfl
              have y2 : w9.frozen? ⟨RA, 2, none⟩ = false := heap_frozen HF4 2 (by omega)
              have z3 : w9.cell? ⟨RA, 3, none⟩ = some (.int .i64 0) := by rw [heap_cell HF4]; rfl
              have y3 : w9.frozen? ⟨RA, 3, none⟩ = false := heap_frozen HF4 3 (by omega)
              have z4 : w9.cell? ⟨RA, 4, none⟩ = some (.int .i64 0) := by rw [heap_cell HF4]; rfl
              have y4 : w9.frozen? ⟨RA, 4, none⟩ = false := heap_frozen HF4 4 (by omega)
              have x0 : w9.cell? ⟨RB, 0, none⟩ = some (.int .i64 0) := by rw [heap_cell HF5]; rfl
              have v0 : w9.frozen? ⟨RB, 0, none⟩ = false := heap_frozen HF5 0 (by omega)
              have x1 : w9.cell? ⟨RB, 1, none⟩ = some (.slice none 0 0) := by rw [heap_cell HF5]; rfl
              have v1 : w9.frozen? ⟨RB, 1, none⟩ = false := heap_frozen HF5 1 (by omega)
              have x2 : w9.cell? ⟨RB, 2, none⟩ = some (.string ⟨#[]⟩) := by rw [heap_cell HF5]; rfl
              have v2 : w9.frozen? ⟨RB, 2, none⟩ = false := heap_frozen HF5 2 (by omega)
              have x3 : w9.cell? ⟨RB, 3, none⟩ = some (.string ⟨#[]⟩) := by rw [heap_cell HF5]; rfl
              have v3 : w9.frozen? ⟨RB, 3, none⟩ = false := heap_frozen HF5 3 (by omega)
              have x4 : w9.cell? ⟨RB, 4, none⟩ = some (.int .i64 0) := by rw [heap_cell HF5]; rfl
              have v4 : w9.frozen? ⟨RB, 4, none⟩ = false := heap_frozen HF5 4 (by omega)
              replace HF4 := hid HF4
              replace HF5 := hid HF5))
          go_wp2_with fail
          (try simp only [Exit.inBlock, Exit.then])
          have E := store10 G9.out (r4 := RA) (r5 := RB) (by omega) (by omega) n45 HF4.out HF5.out (.slice p n cap) (.int .i64 (fin : Int)) (.int .i64 ((a1 : Int) + 1)) (.int .i64 0) (.int .i64 0) (.int .i64 4) (.slice none 0 0) (.string f) (.string m.str) (.int .i64 v.num)
          refine read_ret (nd := .mk 4 [] f m.str v.num) (at' := a1 + 1) (e' := 0) (pos' := 0) rfl rfl rfl (E.1.trans (by push_cast; rfl)) E.2.1 E.2.2 (NodeR.In.leaf _ _ 4 f m.str v.num) hD3.out.2 (by omega) ?_
          rw [hL.out, HC.out]
          exact ⟨by simp, rfl, rfl, hD3.out.1⟩
        | true =>
          obtain ⟨q1, q2, q3, q4, q5, q6⟩ := words_yes hnm v.str
          rcases hW with ⟨h, _⟩ | ⟨wb, rfl, _, _, hcw⟩
          · exact absurd (show (wordsW f).1.length = 0 from by rw [h]; rfl) (Nat.ne_of_gt q1)
          have PL := hid (fun (w' : World) (g : Grow w7 w') => Rplace_c (wordsW f).1 wb (wordsW f).1.length v.str w' q2 (fun j hj => g.cell (hcw j hj)))
          have hidx := idxOfS_lo (wordsW f).1 v.str
          clear hcw
          generalize (wordsW f).1 = wl at *
          generalize (wordsW f).2 = wf at *
          generalize Lib.idxOfS wl v.str = ix at *
          obtain ⟨hx0, hx1⟩ := hidx
          have hx2 : ix ≤ 100 := by omega
          have hwl : (wl.length : Int) ≤ 100 := by omega
          have kl : ((wl.length : Int) == 0) = false := by rw [beq_eq_false_iff_ne]; omega
          have kl2 : ¬(wl.length : Int) = 0 := by omega
          have kl3 : (0 : Int) < (wl.length : Int) := by omega
          have kl4 : ¬wl.length = 0 := by omega
          have hq3 := hid q3
          have hq4 := hid q4
          clear q3 q4
          have NB8 := hid (heap_new w7 (.cells #[.int .i64 4, .slice none 0 0, .string f, .string m.str, .int .i64 v.num] 24))
          have B8 := hid (heap_alloc_keep B7.out (.cells #[.int .i64 4, .slice none 0 0, .string f, .string m.str, .int .i64 v.num] 24))
          have R48 := hid (heap_alloc_keep R47.out (.cells #[.int .i64 4, .slice none 0 0, .string f, .string m.str, .int .i64 v.num] 24))
          have R58 := hid (heap_alloc_keep R57.out (.cells #[.int .i64 4, .slice none 0 0, .string f, .string m.str, .int .i64 v.num] 24))
          have G8 := hid (G7.out.trans (Grow.alloc w7 (.cells #[.int .i64 4, .slice none 0 0, .string f, .string m.str, .int .i64 v.num] 24)))
          have g78 := hid (Grow.alloc w7 (.cells #[.int .i64 4, .slice none 0 0, .string f, .string m.str, .int .i64 v.num] 24))
          have ON2 := hid (fun (w' : World) => Ron_c p n cap fin a1 0 0 w' (by omega))
          unfold rdV at ON2
          go_wp2_with fail
          refine (PL.out _ g78.out).mono ?_
          rintro e w8 ⟨rfl, h8⟩
          subst h8
          have hu1 := hid (g78.out.cell u1)
          have hu3 := hid (g78.out.cell u3)
          generalize w7.alloc (.cells #[.int .i64 4, .slice none 0 0, .string f, .string m.str, .int .i64 v.num] 24) = w8 at *
          generalize hnb : w7.heap.size = nb at *
          have hnb1 : nb ≠ RA := by have := heap_lt R57.out; omega
          have hnb2 : nb ≠ RB := by have := heap_lt R57.out; omega
          have hnb3 : RA ≠ nb := Ne.symm hnb1
          have hnb4 : RB ≠ nb := Ne.symm hnb2
          have hnb5 : H ≠ nb := by omega
          have hnb6 : w.heap.size ≤ nb := by have := G7.out.size; omega
          replace hnb := hid hnb
          clear u0 u1 u2 u3
          have u1 := hu1.out
          have u3 := hu3.out
          have b0 : w8.cell? ⟨H, 0, none⟩ = some (.slice p n cap) := by rw [heap_cell B8.out]; rfl
          have b1 : w8.cell? ⟨H, 1, none⟩ = some (.int .i64 (fin : Int)) := by rw [heap_cell B8.out]; rfl
          have b2 : w8.cell? ⟨H, 2, none⟩ = some (.int .i64 (a1 : Int)) := by rw [heap_cell B8.out]; rfl
          have b3 : w8.cell? ⟨H, 3, none⟩ = some (.int .i64 0) := by rw [heap_cell B8.out]; rfl
          have b4 : w8.cell? ⟨H, 4, none⟩ = some (.int .i64 0) := by rw [heap_cell B8.out]; rfl
          by_cases hix : ix < 0
          · have HC := hid (show compareP fin (t :: m :: v :: L3) = failP fin 43 (T.drop a1) from by
              rw [hD2.out, hL3.out]
              exact compareP_type fin hf hpq.out hm3.out hvk3.out (.inl (by
                rw [hts, hnm, hq3.out]
                simp; omega)))
            have R4z := R48
            clear hnm
            go_wp2_with fail
            clear b0 b1 b2 b3 b4
            refine (RfailNew_c p n cap fin a1 0 43 T _ (HT.out.grow G8.out) (by omega)).mono ?_
            rintro e wF ⟨rfl, gF⟩
            unfold rdV
            have HF4 := gF.heap R48.out
            have HF5 := gF.heap R58.out
            have z0 : wF.cell? ⟨RA, 0, none⟩ = some (.slice none 0 0) := by rw [heap_cell HF4]; rfl
            have y0 : wF.frozen? ⟨RA, 0, none⟩ = false := heap_frozen HF4 0 (by omega)
            have z1 : wF.cell? ⟨RA, 1, none⟩ = some (.int .i64 0) := by rw [heap_cell HF4]; rfl
            have y1 : wF.frozen? ⟨RA, 1, none⟩ = false := heap_frozen HF4 1 (by omega)
            have z2 : wF.cell? ⟨RA, 2, none⟩ = some (.int .i64 0) := by rw [heap_cell HF4]; rfl
            have y2 : wF.frozen? ⟨RA, 2, none⟩ = false := heap_frozen HF4 2 (by omega)
            have z3 : wF.cell? ⟨RA, 3, none⟩ = some (.int .i64 0) := by rw [heap_cell HF4]; rfl
            have y3 : wF.frozen? ⟨RA, 3, none⟩ = false := heap_frozen HF4 3 (by omega)
            have z4 : wF.cell? ⟨RA, 4, none⟩ = some (.int .i64 0) := by rw [heap_cell HF4]; rfl
            have y4 : wF.frozen? ⟨RA, 4, none⟩ = false := heap_frozen HF4 4 (by omega)
            have x0 : wF.cell? ⟨RB, 0, none⟩ = some (.int .i64 0) := by rw [heap_cell HF5]; rfl
            have v0 : wF.frozen? ⟨RB, 0, none⟩ = false := heap_frozen HF5 0 (by omega)
            have x1 : wF.cell? ⟨RB, 1, none⟩ = some (.slice none 0 0) := by rw [heap_cell HF5]; rfl
            have v1 : wF.frozen? ⟨RB, 1, none⟩ = false := heap_frozen HF5 1 (by omega)
            have x2 : wF.cell? ⟨RB, 2, none⟩ = some (.string ⟨#[]⟩) := by rw [heap_cell HF5]; rfl
            have v2 : wF.frozen? ⟨RB, 2, none⟩ = false := heap_frozen HF5 2 (by omega)
            have x3 : wF.cell? ⟨RB, 3, none⟩ = some (.string ⟨#[]⟩) := by rw [heap_cell HF5]; rfl
            have v3 : wF.frozen? ⟨RB, 3, none⟩ = false := heap_frozen HF5 3 (by omega)
            have x4 : wF.cell? ⟨RB, 4, none⟩ = some (.int .i64 0) := by rw [heap_cell HF5]; rfl
            have v4 : wF.frozen? ⟨RB, 4, none⟩ = false := heap_frozen HF5 4 (by omega)
            have E := hid (store10 (G8.out.trans gF) (r4 := RA) (r5 := RB) (by omega) (by omega) (by omega) HF4 HF5 (.slice p n cap) (.int .i64 (fin : Int)) (.int .i64 ((a1 : Nat) : Int)) (.int .i64 ((failE 43 (T.drop (a1)) : Nat) : Int)) (.int .i64 ((failAt fin (T.drop (a1)) : Nat) : Int)) (.int .i64 0) (.slice none 0 0) (.string ⟨#[]⟩) (.string ⟨#[]⟩) (.int .i64 0))
            clear HF4 HF5 gF
            go_wp2_with fail
            (try simp only [Exit.inBlock, Exit.then])
            have E1 := E.out
            have hF := failE_ne 43 (T.drop (a1)) (by omega) (by omega)
            refine read_ret (nd := .zero) rfl rfl rfl E1.1 E1.2.1 E1.2.2 (NodeR.In.leaf _ _ 0 ⟨#[]⟩ ⟨#[]⟩ 0) (by omega) hF.2 ?_
            rw [hL.out, HC.out]
            exact ⟨rfl, rfl, hF.1⟩
          have hix2 : 0 ≤ ix := by omega
          have hix3 : ¬ix < 0 := by omega
          have hq5 := hq3.out
          rw [show decide (0 ≤ ix) = true from by simpa using hix2] at hq5
          have hq6 := hid (hq4.out hix2)
          replace hq5 := hid hq5
          by_cases hms : m.str ≠ bEq ∧ m.str ≠ bNe
          · have HC := hid (show compareP fin (t :: m :: v :: L3) = failP fin 43 (T.drop a1) from by
              rw [hD2.out, hL3.out]
              exact compareP_type fin hf hpq.out hm3.out hvk3.out (.inr (.inr (by
                rw [hts, hq5.out]
                exact ⟨rfl, hms⟩))))
            have hm5 : ¬m.str.toList = [61] := fun e => hms.1 (toList_injR (by rw [e]; kernel_rfl))
            have hm6 : ¬m.str.toList = [33, 61] := fun e => hms.2 (toList_injR (by rw [e]; kernel_rfl))
            have hm7 : (m.str.toList == [61]) = false := by simpa using hm5
            have hm8 : (m.str.toList == [33, 61]) = false := by simpa using hm6
            have R4z := R48
            clear hnm hms
            go_wp2_with fail
            clear b0 b1 b2 b3 b4
            refine (RfailNew_c p n cap fin a1 0 43 T _ (HT.out.grow G8.out) (by omega)).mono ?_
            rintro e wF ⟨rfl, gF⟩
            unfold rdV
            have HF4 := gF.heap R48.out
            have HF5 := gF.heap R58.out
            have z0 : wF.cell? ⟨RA, 0, none⟩ = some (.slice none 0 0) := by rw [heap_cell HF4]; rfl
            have y0 : wF.frozen? ⟨RA, 0, none⟩ = false := heap_frozen HF4 0 (by omega)
            have z1 : wF.cell? ⟨RA, 1, none⟩ = some (.int .i64 0) := by rw [heap_cell HF4]; rfl
            have y1 : wF.frozen? ⟨RA, 1, none⟩ = false := heap_frozen HF4 1 (by omega)
            have z2 : wF.cell? ⟨RA, 2, none⟩ = some (.int .i64 0) := by rw [heap_cell HF4]; rfl
            have y2 : wF.frozen? ⟨RA, 2, none⟩ = false := heap_frozen HF4 2 (by omega)
            have z3 : wF.cell? ⟨RA, 3, none⟩ = some (.int .i64 0) := by rw [heap_cell HF4]; rfl
            have y3 : wF.frozen? ⟨RA, 3, none⟩ = false := heap_frozen HF4 3 (by omega)
            have z4 : wF.cell? ⟨RA, 4, none⟩ = some (.int .i64 0) := by rw [heap_cell HF4]; rfl
            have y4 : wF.frozen? ⟨RA, 4, none⟩ = false := heap_frozen HF4 4 (by omega)
            have x0 : wF.cell? ⟨RB, 0, none⟩ = some (.int .i64 0) := by rw [heap_cell HF5]; rfl
            have v0 : wF.frozen? ⟨RB, 0, none⟩ = false := heap_frozen HF5 0 (by omega)
            have x1 : wF.cell? ⟨RB, 1, none⟩ = some (.slice none 0 0) := by rw [heap_cell HF5]; rfl
            have v1 : wF.frozen? ⟨RB, 1, none⟩ = false := heap_frozen HF5 1 (by omega)
            have x2 : wF.cell? ⟨RB, 2, none⟩ = some (.string ⟨#[]⟩) := by rw [heap_cell HF5]; rfl
            have v2 : wF.frozen? ⟨RB, 2, none⟩ = false := heap_frozen HF5 2 (by omega)
            have x3 : wF.cell? ⟨RB, 3, none⟩ = some (.string ⟨#[]⟩) := by rw [heap_cell HF5]; rfl
            have v3 : wF.frozen? ⟨RB, 3, none⟩ = false := heap_frozen HF5 3 (by omega)
            have x4 : wF.cell? ⟨RB, 4, none⟩ = some (.int .i64 0) := by rw [heap_cell HF5]; rfl
            have v4 : wF.frozen? ⟨RB, 4, none⟩ = false := heap_frozen HF5 4 (by omega)
            have E := hid (store10 (G8.out.trans gF) (r4 := RA) (r5 := RB) (by omega) (by omega) (by omega) HF4 HF5 (.slice p n cap) (.int .i64 (fin : Int)) (.int .i64 ((a1 : Nat) : Int)) (.int .i64 ((failE 43 (T.drop (a1)) : Nat) : Int)) (.int .i64 ((failAt fin (T.drop (a1)) : Nat) : Int)) (.int .i64 0) (.slice none 0 0) (.string ⟨#[]⟩) (.string ⟨#[]⟩) (.int .i64 0))
            clear HF4 HF5 gF
            go_wp2_with fail
            (try simp only [Exit.inBlock, Exit.then])
            have E1 := E.out
            have hF := failE_ne 43 (T.drop (a1)) (by omega) (by omega)
            refine read_ret (nd := .zero) rfl rfl rfl E1.1 E1.2.1 E1.2.2 (NodeR.In.leaf _ _ 0 ⟨#[]⟩ ⟨#[]⟩ 0) (by omega) hF.2 ?_
            rw [hL.out, HC.out]
            exact ⟨rfl, rfl, hF.1⟩
          have HC := hid (show compareP fin (t :: m :: v :: L3) = .ok (.mk 4 [] f m.str (ix + wf)) L3 from by
            have h := compareP_ok fin hf hpq.out hm3.out hvk3.out (by
              rw [hts, hnm, hq5.out]
              rintro (h | ⟨h, -⟩ | ⟨-, h⟩)
              · exact h rfl
              · cases h
              · exact hms h)
            rw [hts, hq5.out, hq6.out] at h
            simpa using h)
          have hms2 : m.str.toList = [61] ∨ m.str.toList = [33, 61] := by
            by_cases h1 : m.str = bEq
            · exact .inl ((congrArg ByteArray.toList h1).trans (by kernel_rfl))
            · right
              have h2 : m.str = bNe := by
                by_cases h3 : m.str = bNe
                · exact h3
                · exact absurd ⟨h1, h3⟩ hms
              exact (congrArg ByteArray.toList h2).trans (by kernel_rfl)
          clear hms
          have e4 : w8.cell? ⟨nb, 4, none⟩ = some (.int .i64 v.num) := by rw [heap_cell NB8.out]; rfl
          have f4 : w8.frozen? ⟨nb, 4, none⟩ = false := heap_frozen NB8.out 4 (by omega)
          have hz8' := heap_lt NB8.out
          rcases hms2 with hms2 | hms2
          all_goals
            have hnm' := hid hnm
            clear hnm
            go_wp2_with fail
            refine (PL.out _ g78.out).mono ?_
            rintro e w9 ⟨rfl, h9⟩
            subst h9
            replace NB8 := hid (heap_set NB8.out 4 (.int .i64 (ix + wf)))
            replace B8 := hid (heap_keep B8.out ⟨nb, 4, none⟩ (.int .i64 (ix + wf)) hnb5)
            replace R48 := hid (heap_keep R48.out ⟨nb, 4, none⟩ (.int .i64 (ix + wf)) hnb3)
            replace R58 := hid (heap_keep R58.out ⟨nb, 4, none⟩ (.int .i64 (ix + wf)) hnb4)
            replace G8 := hid (Grow.set G8.out nb 4 hnb6 (.int .i64 (ix + wf)))
            clear b0 b1 b2 b3 b4
            have hms3 := hid hms2
            go_wp2_with fail
            clear e4 f4
            clear hms2 u1 u3
            generalize w8.setCell ⟨nb, 4, none⟩ (.int .i64 (ix + wf)) = w8x at *
            have hc10 : w8x.cell? ⟨H, 0, none⟩ = some (.slice p n cap) ∧ w8x.cell? ⟨H, 1, none⟩ = some (.int .i64 (fin : Int)) ∧ w8x.cell? ⟨H, 2, none⟩ = some (.int .i64 (a1 : Int)) ∧ w8x.cell? ⟨H, 3, none⟩ = some (.int .i64 0) ∧ w8x.cell? ⟨H, 4, none⟩ = some (.int .i64 0) ∧ w8x.cell? ⟨nb, 0, none⟩ = some (.int .i64 4) ∧ w8x.cell? ⟨nb, 1, none⟩ = some (.slice none 0 0) ∧ w8x.cell? ⟨nb, 2, none⟩ = some (.string f) ∧ w8x.cell? ⟨nb, 3, none⟩ = some (.string m.str) ∧ w8x.cell? ⟨nb, 4, none⟩ = some (.int .i64 (ix + wf)) := by
              rw [heap_cell B8.out, heap_cell B8.out, heap_cell B8.out, heap_cell B8.out, heap_cell B8.out, heap_cell NB8.out, heap_cell NB8.out, heap_cell NB8.out, heap_cell NB8.out, heap_cell NB8.out]
              exact ⟨rfl, rfl, rfl, rfl, rfl, rfl, rfl, rfl, rfl, rfl⟩
            go_region_held3 (fun w' => w'.cell? ⟨H, 0, none⟩ = some (.slice p n cap) ∧ w'.cell? ⟨H, 1, none⟩ = some (.int .i64 (fin : Int)) ∧ w'.cell? ⟨H, 2, none⟩ = some (.int .i64 (a1 : Int)) ∧ w'.cell? ⟨H, 3, none⟩ = some (.int .i64 0) ∧ w'.cell? ⟨H, 4, none⟩ = some (.int .i64 0) ∧ w'.cell? ⟨nb, 0, none⟩ = some (.int .i64 4) ∧ w'.cell? ⟨nb, 1, none⟩ = some (.slice none 0 0) ∧ w'.cell? ⟨nb, 2, none⟩ = some (.string f) ∧ w'.cell? ⟨nb, 3, none⟩ = some (.string m.str) ∧ w'.cell? ⟨nb, 4, none⟩ = some (.int .i64 (ix + wf)))
              (first | (with_reducible exact keep10 hc10 (Grow.trans (Grow.drew _) (by assumption))) | go_keep)
              ((go_at_call 21
                refine (ON2.out _).mono ?_
                rintro e w9 ⟨rfl, g9⟩
                have HF4 := ((Grow.drew _).trans g9).heap R48.out
                have HF5 := ((Grow.drew _).trans g9).heap R58.out
                have G9 := hid ((G8.out.trans (Grow.drew _)).trans g9)
                obtain ⟨kk0, kk1, kk2, kk3, kk4, kk5, kk6, kk7, kk8, kk9⟩ := keep10 hc10 ((Grow.drew _).trans g9)
                have z0 : w9.cell? ⟨RA, 0, none⟩ = some (.slice none 0 0) := by rw [heap_cell HF4]; rfl
                have y0 : w9.frozen? ⟨RA, 0, none⟩ = false := heap_frozen HF4 0 (by omega)
                have z1 : w9.cell? ⟨RA, 1, none⟩ = some (.int .i64 0) := by rw [heap_cell HF4]; rfl
                have y1 : w9.frozen? ⟨RA, 1, none⟩ = false := heap_frozen HF4 1 (by omega)
                have z2 : w9.cell? ⟨RA, 2, none⟩ = some (.int .i64 0) := by rw [heap_cell HF4]; rfl
                have y2 : w9.frozen? ⟨RA, 2, none⟩ = false := heap_frozen HF4 2 (by omega)
                have z3 : w9.cell? ⟨RA, 3, none⟩ = some (.int .i64 0) := by rw [heap_cell HF4]; rfl
                have y3 : w9.frozen? ⟨RA, 3, none⟩ = false := heap_frozen HF4 3 (by omega)
                have z4 : w9.cell? ⟨RA, 4, none⟩ = some (.int .i64 0) := by rw [heap_cell HF4]; rfl
                have y4 : w9.frozen? ⟨RA, 4, none⟩ = false := heap_frozen HF4 4 (by omega)
                have x0 : w9.cell? ⟨RB, 0, none⟩ = some (.int .i64 0) := by rw [heap_cell HF5]; rfl
                have v0 : w9.frozen? ⟨RB, 0, none⟩ = false := heap_frozen HF5 0 (by omega)
                have x1 : w9.cell? ⟨RB, 1, none⟩ = some (.slice none 0 0) := by rw [heap_cell HF5]; rfl
                have v1 : w9.frozen? ⟨RB, 1, none⟩ = false := heap_frozen HF5 1 (by omega)
                have x2 : w9.cell? ⟨RB, 2, none⟩ = some (.string ⟨#[]⟩) := by rw [heap_cell HF5]; rfl
                have v2 : w9.frozen? ⟨RB, 2, none⟩ = false := heap_frozen HF5 2 (by omega)
                have x3 : w9.cell? ⟨RB, 3, none⟩ = some (.string ⟨#[]⟩) := by rw [heap_cell HF5]; rfl
                have v3 : w9.frozen? ⟨RB, 3, none⟩ = false := heap_frozen HF5 3 (by omega)
                have x4 : w9.cell? ⟨RB, 4, none⟩ = some (.int .i64 0) := by rw [heap_cell HF5]; rfl
                have v4 : w9.frozen? ⟨RB, 4, none⟩ = false := heap_frozen HF5 4 (by omega)
                replace HF4 := hid HF4
                replace HF5 := hid HF5))
            go_wp2_with fail
            (try simp only [Exit.inBlock, Exit.then])
            have E := store10 G9.out (r4 := RA) (r5 := RB) (by omega) (by omega) n45 HF4.out HF5.out (.slice p n cap) (.int .i64 (fin : Int)) (.int .i64 ((a1 : Int) + 1)) (.int .i64 0) (.int .i64 0) (.int .i64 4) (.slice none 0 0) (.string f) (.string m.str) (.int .i64 (ix + wf))
            refine read_ret (nd := .mk 4 [] f m.str (ix + wf)) (at' := a1 + 1) (e' := 0) (pos' := 0) rfl rfl rfl (E.1.trans (by push_cast; rfl)) E.2.1 E.2.2 (NodeR.In.leaf _ _ 4 f m.str (ix + wf)) hD3.out.2 (by omega) ?_
            rw [hL.out, HC.out]
            exact ⟨by simp, rfl, rfl, hD3.out.1⟩
    · have G6 := hid (G5.out.trans (Grow.alloc w5 (.cells #[.int .i64 (v.kind : Int), .string v.str, .int .i64 v.num, .int .i64 (v.pos : Int)] 54)))
      have R46 := hid (heap_alloc_keep R45.out (.cells #[.int .i64 (v.kind : Int), .string v.str, .int .i64 v.num, .int .i64 (v.pos : Int)] 54))
      have R56 := hid (heap_alloc_keep R55.out (.cells #[.int .i64 (v.kind : Int), .string v.str, .int .i64 v.num, .int .i64 (v.pos : Int)] 54))
      have HC := hid (show compareP fin (t :: T.drop at_) = failP fin 41 (T.drop a1) from by
        rw [hL2.out, hD2.out]
        exact compareP_val fin hf hpq.out hm3.out hall)
      have k4 : ((v.kind : Int) != 1) = true := by simp; omega
      have k5 : ((v.kind : Int) != 2) = true := by simp; omega
      clear hall hv hvs
      go_wp2_with fail
      refine (RfailNew_c p n cap fin a1 0 41 T _ (HT.out.grow G6.out) (by omega)).mono ?_
      rintro e wF ⟨rfl, gF⟩
      unfold rdV
      have HF4 := gF.heap R46.out
      have HF5 := gF.heap R56.out
      have z0 : wF.cell? ⟨RA, 0, none⟩ = some (.slice none 0 0) := by rw [heap_cell HF4]; rfl
      have y0 : wF.frozen? ⟨RA, 0, none⟩ = false := heap_frozen HF4 0 (by omega)
      have z1 : wF.cell? ⟨RA, 1, none⟩ = some (.int .i64 0) := by rw [heap_cell HF4]; rfl
      have y1 : wF.frozen? ⟨RA, 1, none⟩ = false := heap_frozen HF4 1 (by omega)
      have z2 : wF.cell? ⟨RA, 2, none⟩ = some (.int .i64 0) := by rw [heap_cell HF4]; rfl
      have y2 : wF.frozen? ⟨RA, 2, none⟩ = false := heap_frozen HF4 2 (by omega)
      have z3 : wF.cell? ⟨RA, 3, none⟩ = some (.int .i64 0) := by rw [heap_cell HF4]; rfl
      have y3 : wF.frozen? ⟨RA, 3, none⟩ = false := heap_frozen HF4 3 (by omega)
      have z4 : wF.cell? ⟨RA, 4, none⟩ = some (.int .i64 0) := by rw [heap_cell HF4]; rfl
      have y4 : wF.frozen? ⟨RA, 4, none⟩ = false := heap_frozen HF4 4 (by omega)
      have x0 : wF.cell? ⟨RB, 0, none⟩ = some (.int .i64 0) := by rw [heap_cell HF5]; rfl
      have v0 : wF.frozen? ⟨RB, 0, none⟩ = false := heap_frozen HF5 0 (by omega)
      have x1 : wF.cell? ⟨RB, 1, none⟩ = some (.slice none 0 0) := by rw [heap_cell HF5]; rfl
      have v1 : wF.frozen? ⟨RB, 1, none⟩ = false := heap_frozen HF5 1 (by omega)
      have x2 : wF.cell? ⟨RB, 2, none⟩ = some (.string ⟨#[]⟩) := by rw [heap_cell HF5]; rfl
      have v2 : wF.frozen? ⟨RB, 2, none⟩ = false := heap_frozen HF5 2 (by omega)
      have x3 : wF.cell? ⟨RB, 3, none⟩ = some (.string ⟨#[]⟩) := by rw [heap_cell HF5]; rfl
      have v3 : wF.frozen? ⟨RB, 3, none⟩ = false := heap_frozen HF5 3 (by omega)
      have x4 : wF.cell? ⟨RB, 4, none⟩ = some (.int .i64 0) := by rw [heap_cell HF5]; rfl
      have v4 : wF.frozen? ⟨RB, 4, none⟩ = false := heap_frozen HF5 4 (by omega)
      have E := hid (store10 (G6.out.trans gF) (r4 := RA) (r5 := RB) (by omega) (by omega) (by omega) HF4 HF5 (.slice p n cap) (.int .i64 (fin : Int)) (.int .i64 ((a1 : Nat) : Int)) (.int .i64 ((failE 41 (T.drop (a1)) : Nat) : Int)) (.int .i64 ((failAt fin (T.drop (a1)) : Nat) : Int)) (.int .i64 0) (.slice none 0 0) (.string ⟨#[]⟩) (.string ⟨#[]⟩) (.int .i64 0))
      clear HF4 HF5 gF
      go_wp2_with fail
      (try simp only [Exit.inBlock, Exit.then])
      have E1 := E.out
      have hF := failE_ne 41 (T.drop (a1)) (by omega) (by omega)
      refine read_ret (nd := .zero) rfl rfl rfl E1.1 E1.2.1 E1.2.2 (NodeR.In.leaf _ _ 0 ⟨#[]⟩ ⟨#[]⟩ 0) (by omega) hF.2 ?_
      rw [HC.out]
      exact ⟨rfl, rfl, hF.1⟩
end Go.Proofs.YteilkcdbdpkbfaaDoor
