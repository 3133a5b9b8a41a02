/- What lies in memory as the reference makes a history. The reference's below and methods, and what a number drawn leaves as it was. The reference's place: nobody answers. The reference's place: the answer, and another one. The reference's place: the answer. The reference's place: it is done. The reference's place, whole. -/
import Derived.Test.YtlhgdbangnohjaaGAt2
import Derived.Test.YtlhgdbangnohjaaGHeld
import Derived.Test.YtlhgdbangnohjaaGChoose
import Derived.Test.YtlhgdbangnohjaaGStepU
import Derived.Test.YtlhgdbangnohjaaGenBelow
import Derived.Test.YtlhgdbangnohjaaRDoM
import Derived.Test.YtlhgdbangnohjaaGStepA
import Derived.Test.YtlhgdbangnohjaaGOk
import Derived.Deep.AppendLies
namespace Go.Proofs.Ytlhgdbangnohjaa
open Go.RowKit
set_option linter.unusedVariables false
set_option linter.unusedSimpArgs false
/-- The cells of the whole. -/
def hcells (c : GenC) (R : GR) (x now : Int) : Array Value := #[.int .u64 c.seed, .int .i64 c.procs, .int .i64 c.objects, .int .i64 c.ops, .int .i64 c.wrong, .int .i64 c.pending, .int .u64 x,
  .slice (some ⟨R.gf, 0, none⟩) c.procs.toNat c.procs.toNat, .slice (some ⟨R.gg, 0, none⟩) c.procs.toNat c.procs.toNat, .slice (some ⟨R.gst, 0, none⟩) c.objects.toNat R.cst, .int .i64 now, R.lv]
/-- What there is lies here. -/
structure HAt (base : Nat) (w : World) (c : GenC) (R : GR) (G : GenW) : Prop where
  cells : w.heap[R.g]? = some (.cells (hcells c R G.x G.now) 70 (0, 0))
  ux : U64 G.x
  free : w.heap[R.gf]? = some (.cells (i64s G.free).toArray 3 (0, 0))
  freeN : G.free.length = c.procs.toNat
  gone : w.heap[R.gg]? = some (.cells (boolCells G.gone).toArray 4 (0, 0))
  goneN : G.gone.length = c.procs.toNat
  st : w.ownsRow base 23 1 (.slice (some ⟨R.gst, 0, none⟩) c.objects.toNat R.cst) c.objects.toNat R.svs
  stN : G.states.length = c.objects.toNat
  rows : ∀ i, i < c.objects.toNat → Ints w (R.svs.getD i (.slice none 0 0)) (G.states.getD i [])
  own : w.ownsRow base 52 11 R.lv G.l.length (opCells G.l)
  apart : R.g ≠ R.gf ∧ R.g ≠ R.gg ∧ R.g ≠ R.gst ∧ R.gf ≠ R.gg ∧ R.gf ≠ R.gst ∧ R.gg ≠ R.gst
  lvd : ∀ k, R.lv.ownBlock = some k → k ≠ R.g ∧ k ≠ R.gf ∧ k ≠ R.gg ∧ k ≠ R.gst
  rowd : ∀ i, i < c.objects.toNat → ∀ a n m, R.svs.getD i (.slice none 0 0) = .slice (some a) n m → 0 < n → a.block < w.heap.size ∧ a.block ≠ R.g ∧ a.block ≠ R.gf ∧ a.block ≠ R.gg ∧ a.block ≠ R.gst ∧ R.lv.ownBlock ≠ some a.block
  lo : base ≤ R.g ∧ base ≤ R.gf ∧ base ≤ R.gg
section
variable {base : Nat} {w w' : World} {c : GenC} {R : GR} {G : GenW}
theorem HAt.grow (h : HAt base w c R G) (hg : Grow w w') : HAt base w' c R G where
  cells := hg.heap h.cells
  ux := h.ux
  free := hg.heap h.free
  freeN := h.freeN
  gone := hg.heap h.gone
  goneN := h.goneN
  st := own_keep h.st (fun k hk => hg.block k (h.st.lt k hk).2)
  stN := h.stN
  rows := fun i hi => (h.rows i hi).grow hg
  own := own_keep h.own (fun k hk => hg.block k (h.own.lt k hk).2)
  apart := h.apart
  lvd := h.lvd
  rowd := fun i hi a n m e e0 => by
    obtain ⟨h1, h2⟩ := h.rowd i hi a n m e e0
    exact ⟨Nat.lt_of_lt_of_le h1 hg.size, h2⟩
  lo := h.lo
theorem HAt.rowsO (h : HAt base w c R G) {p : Nat} (ho : Only p w w') (hp : p = R.g ∨ p = R.gf ∨ p = R.gg ∨ p = R.gst) : ∀ i, i < c.objects.toNat → Ints w' (R.svs.getD i (.slice none 0 0)) (G.states.getD i []) :=
  fun i hi => (h.rows i hi).keep (fun a n m e e0 => ho.block _ (by
    obtain ⟨-, h1, h3, h4, h5, -⟩ := h.rowd i hi a n m e e0
    rcases hp with rfl | rfl | rfl | rfl
    · exact h1
    · exact h3
    · exact h4
    · exact h5))
theorem HAt.ownO (h : HAt base w c R G) {p : Nat} (ho : Only p w w') (hp : p = R.g ∨ p = R.gf ∨ p = R.gg ∨ p = R.gst) : w'.ownsRow base 52 11 R.lv G.l.length (opCells G.l) :=
  own_keep h.own (fun k hk => ho.block k (by
    obtain ⟨h1, h3, h4, h5⟩ := h.lvd k hk
    rcases hp with rfl | rfl | rfl | rfl
    · exact h1
    · exact h3
    · exact h4
    · exact h5))
theorem HAt.rowdO (h : HAt base w c R G) {p : Nat} (ho : Only p w w') : ∀ i, i < c.objects.toNat → ∀ a n m, R.svs.getD i (.slice none 0 0) = .slice (some a) n m → 0 < n → a.block < w'.heap.size ∧ a.block ≠ R.g ∧ a.block ≠ R.gf ∧ a.block ≠ R.gg ∧ a.block ≠ R.gst ∧ R.lv.ownBlock ≠ some a.block :=
  fun i hi a n m e e0 => by
    obtain ⟨h1, h2⟩ := h.rowd i hi a n m e e0
    exact ⟨by rw [ho.size]; exact h1, h2⟩
theorem HAt.stO (h : HAt base w c R G) {p : Nat} (ho : Only p w w') (hp : R.gst ≠ p) : w'.ownsRow base 23 1 (.slice (some ⟨R.gst, 0, none⟩) c.objects.toNat R.cst) c.objects.toNat R.svs :=
  own_keep h.st (fun k hk => ho.block k (fun e => by have e2 : R.gst = k := Option.some.inj hk; exact hp (e2.trans e)))
/-- The number. -/
theorem HAt.setX (h : HAt base w c R G) (x : Int) (hx : U64 x) : HAt base (w.setCell ⟨R.g, 6, none⟩ (.int .u64 x)) c R { G with x := x } := by
  obtain ⟨a2, a3, a4, a8, a9, a10⟩ := h.apart
  have ho := only_set w R.g 6 (.int .u64 x)
  exact {
    cells := heap_setV h.cells 6 _ _ rfl
    ux := hx
    free := (ho.block _ (fun e => a2 e.symm)).trans h.free
    freeN := h.freeN
    gone := (ho.block _ (fun e => a3 e.symm)).trans h.gone
    goneN := h.goneN
    st := h.stO ho (fun e => a4 e.symm)
    stN := h.stN
    rows := h.rowsO ho (.inl rfl)
    own := h.ownO ho (.inl rfl)
    apart := h.apart
    lvd := h.lvd
    rowd := h.rowdO ho
    lo := h.lo }
/-- The time. -/
theorem HAt.time (h : HAt base w c R G) (t : Int) : HAt base (w.setCell ⟨R.g, 10, none⟩ (.int .i64 t)) c R { G with now := t } := by
  obtain ⟨a2, a3, a4, a8, a9, a10⟩ := h.apart
  have ho := only_set w R.g 10 (.int .i64 t)
  exact {
    cells := heap_setV h.cells 10 _ _ rfl
    ux := h.ux
    free := (ho.block _ (fun e => a2 e.symm)).trans h.free
    freeN := h.freeN
    gone := (ho.block _ (fun e => a3 e.symm)).trans h.gone
    goneN := h.goneN
    st := h.stO ho (fun e => a4 e.symm)
    stN := h.stN
    rows := h.rowsO ho (.inl rfl)
    own := h.ownO ho (.inl rfl)
    apart := h.apart
    lvd := h.lvd
    rowd := h.rowdO ho
    lo := h.lo }
/-- When a process is free. -/
theorem HAt.setFree (h : HAt base w c R G) (i : Nat) (t : Int) : HAt base (w.setCell ⟨R.gf, i, none⟩ (.int .i64 t)) c R { G with free := G.free.set i t } := by
  obtain ⟨a2, a3, a4, a8, a9, a10⟩ := h.apart
  have ho := only_set w R.gf i (.int .i64 t)
  exact {
    cells := (ho.block _ a2).trans h.cells
    ux := h.ux
    free := heap_setV h.free i _ _ (i64s_set _ _ _)
    freeN := by rw [List.length_set]; exact h.freeN
    gone := (ho.block _ (fun e => a8 e.symm)).trans h.gone
    goneN := h.goneN
    st := h.stO ho (fun e => a9 e.symm)
    stN := h.stN
    rows := h.rowsO ho (.inr (.inl rfl))
    own := h.ownO ho (.inr (.inl rfl))
    apart := h.apart
    lvd := h.lvd
    rowd := h.rowdO ho
    lo := h.lo }
/-- Who still asks. -/
theorem HAt.setGone (h : HAt base w c R G) (i : Nat) (t : Bool) : HAt base (w.setCell ⟨R.gg, i, none⟩ (.bool t)) c R { G with gone := G.gone.set i t } := by
  obtain ⟨a2, a3, a4, a8, a9, a10⟩ := h.apart
  have ho := only_set w R.gg i (.bool t)
  exact {
    cells := (ho.block _ a3).trans h.cells
    ux := h.ux
    free := (ho.block _ a8).trans h.free
    freeN := h.freeN
    gone := heap_setV h.gone i _ _ (boolCells_set _ _ _)
    goneN := by rw [List.length_set]; exact h.goneN
    st := h.stO ho (fun e => a10 e.symm)
    stN := h.stN
    rows := h.rowsO ho (.inr (.inr (.inl rfl)))
    own := h.ownO ho (.inr (.inr (.inl rfl)))
    apart := h.apart
    lvd := h.lvd
    rowd := h.rowdO ho
    lo := h.lo }
/-- An object's state. -/
theorem HAt.setState (h : HAt base w c R G) (i : Nat) (hi : i < c.objects.toNat) (v : Value) (xs : List Int) (hv : Ints w v xs)
    (hd : ∀ a n m, v = .slice (some a) n m → 0 < n → a.block < w.heap.size ∧ a.block ≠ R.g ∧ a.block ≠ R.gf ∧ a.block ≠ R.gg ∧ a.block ≠ R.gst ∧ R.lv.ownBlock ≠ some a.block) :
    HAt base (w.setCell ⟨R.gst, i, none⟩ v) c { R with svs := R.svs.set i v } { G with states := G.states.set i xs } := by
  obtain ⟨a2, a3, a4, a8, a9, a10⟩ := h.apart
  have ho := only_set w R.gst i v
  have hsl : R.svs.length = c.objects.toNat := by have := h.st.1; omega
  have hget : ∀ j, (R.svs.set i v).getD j (.slice none 0 0) = if j = i then v else R.svs.getD j (.slice none 0 0) := fun j => by
    rw [List.getD_eq_getElem?_getD, List.getElem?_set]
    by_cases e : i = j
    · subst e
      rw [if_pos rfl, if_pos rfl, if_pos (by omega)]
      rfl
    · rw [if_neg e, if_neg (fun e2 => e e2.symm), List.getD_eq_getElem?_getD]
  have hget2 : ∀ j, (G.states.set i xs).getD j [] = if j = i then xs else G.states.getD j [] := fun j => by
    rw [List.getD_eq_getElem?_getD, List.getElem?_set]
    by_cases e : i = j
    · subst e
      rw [if_pos rfl, if_pos rfl, if_pos (by rw [h.stN]; exact hi)]
      rfl
    · rw [if_neg e, if_neg (fun e2 => e e2.symm), List.getD_eq_getElem?_getD]
  exact {
    cells := (ho.block _ a4).trans h.cells
    ux := h.ux
    free := (ho.block _ a9).trans h.free
    freeN := h.freeN
    gone := (ho.block _ a10).trans h.gone
    goneN := h.goneN
    st := (h.st.stored i v).1
    stN := by rw [List.length_set]; exact h.stN
    rows := fun j hj => by
      dsimp only
      rw [hget, hget2]
      by_cases e : j = i
      · rw [if_pos e, if_pos e]
        exact hv.keep (fun a n m e2 e0 => ho.block _ (hd a n m e2 e0).2.2.2.2.1)
      · rw [if_neg e, if_neg e]
        exact h.rowsO ho (.inr (.inr (.inr rfl))) j hj
    own := h.ownO ho (.inr (.inr (.inr rfl)))
    apart := h.apart
    lvd := h.lvd
    rowd := fun j hj a n m e e0 => by
      dsimp only at e
      rw [hget] at e
      by_cases e2 : j = i
      · rw [if_pos e2] at e
        obtain ⟨h1, h2⟩ := hd a n m e e0
        exact ⟨by rw [ho.size]; exact h1, h2⟩
      · rw [if_neg e2] at e
        exact h.rowdO ho j hj a n m e e0
    lo := h.lo }
/-- One more operation. -/
theorem HAt.push (h : HAt base w c R G) (lv' : Value) (L : List OpR) (ho' : w'.ownsRow base 52 11 lv' L.length (opCells L)) (hg : w.grownBy w' R.lv.ownBlock) (hn : ∀ k, lv'.ownBlock = some k → R.lv.ownBlock = some k ∨ w.heap.size ≤ k) :
    HAt base (w'.setCell ⟨R.g, 11, none⟩ lv') c { R with lv := lv' } { G with l := L } := by
  obtain ⟨a2, a3, a4, a8, a9, a10⟩ := h.apart
  have hlt1 := heap_lt h.cells
  have hlt3 := heap_lt h.free
  have hlt4 := heap_lt h.gone
  have hlt5 : R.gst < w.heap.size := (h.st.lt R.gst rfl).2
  have ho := only_set w' R.g 11 lv'
  have hk : ∀ k, k < w.heap.size → R.lv.ownBlock ≠ some k → w'.heap[k]? = w.heap[k]? := fun k h1 h2 => hg.block k h1 (fun e => h2 e.symm)
  have q := h.lvd
  have hl : ∀ k, k = R.g ∨ k = R.gf ∨ k = R.gg ∨ k = R.gst → R.lv.ownBlock ≠ some k := fun k hk e => by
    obtain ⟨h1, h3, h4, h5⟩ := q k e
    rcases hk with rfl | rfl | rfl | rfl
    · exact h1 rfl
    · exact h3 rfl
    · exact h4 rfl
    · exact h5 rfl
  have hnew : ∀ k, lv'.ownBlock = some k → k ≠ R.g ∧ k ≠ R.gf ∧ k ≠ R.gg ∧ k ≠ R.gst := fun k e => by
    rcases hn k e with e2 | e2
    · exact q k e2
    · exact ⟨by omega, by omega, by omega, by omega⟩
  exact {
    cells := heap_setV ((hk _ hlt1 (hl _ (.inl rfl))).trans h.cells) 11 _ _ rfl
    ux := h.ux
    free := (ho.block _ (fun e => a2 e.symm)).trans ((hk _ hlt3 (hl _ (.inr (.inl rfl)))).trans h.free)
    freeN := h.freeN
    gone := (ho.block _ (fun e => a3 e.symm)).trans ((hk _ hlt4 (hl _ (.inr (.inr (.inl rfl))))).trans h.gone)
    goneN := h.goneN
    st := own_keep h.st (fun k e => by
      have e2 : R.gst = k := Option.some.inj e
      rw [← e2]
      exact (ho.block _ (fun e => a4 e.symm)).trans (hk _ hlt5 (hl _ (.inr (.inr (.inr rfl))))))
    stN := h.stN
    rows := fun i hi => (h.rows i hi).keep (fun a n m e e0 => by
      obtain ⟨h1, h2, -, -, -, h7⟩ := h.rowd i hi a n m e e0
      exact (ho.block _ h2).trans (hk _ h1 h7))
    own := own_keep ho' (fun k e => ho.block k (hnew k e).1)
    apart := h.apart
    lvd := hnew
    rowd := fun i hi a n m e e0 => by
      obtain ⟨h1, h2, h4, h5, h6, h7⟩ := h.rowd i hi a n m e e0
      refine ⟨by rw [ho.size]; exact Nat.lt_of_lt_of_le h1 hg.size, h2, h4, h5, h6, fun e2 => ?_⟩
      rcases hn _ e2 with e3 | e3
      · exact h7 e3
      · omega
    lo := h.lo }
end
section
variable {base : Nat} {w w' : World} {c : GenC} {R : GR} {G : GenW}
theorem HAt.wc (h : HAt base w c R G) :
    w.cell? ⟨R.g, 0, none⟩ = some (.int .u64 c.seed) ∧ w.cell? ⟨R.g, 1, none⟩ = some (.int .i64 c.procs) ∧ w.cell? ⟨R.g, 2, none⟩ = some (.int .i64 c.objects) ∧ w.cell? ⟨R.g, 3, none⟩ = some (.int .i64 c.ops) ∧
    w.cell? ⟨R.g, 4, none⟩ = some (.int .i64 c.wrong) ∧ w.cell? ⟨R.g, 5, none⟩ = some (.int .i64 c.pending) ∧ w.cell? ⟨R.g, 6, none⟩ = some (.int .u64 G.x) ∧
    w.cell? ⟨R.g, 7, none⟩ = some (.slice (some ⟨R.gf, 0, none⟩) c.procs.toNat c.procs.toNat) ∧ w.cell? ⟨R.g, 8, none⟩ = some (.slice (some ⟨R.gg, 0, none⟩) c.procs.toNat c.procs.toNat) ∧
    w.cell? ⟨R.g, 9, none⟩ = some (.slice (some ⟨R.gst, 0, none⟩) c.objects.toNat R.cst) ∧ w.cell? ⟨R.g, 10, none⟩ = some (.int .i64 G.now) ∧ w.cell? ⟨R.g, 11, none⟩ = some R.lv := by
  have hc := h.cells
  refine ⟨?_, ?_, ?_, ?_, ?_, ?_, ?_, ?_, ?_, ?_, ?_, ?_⟩
  all_goals rw [heap_cell hc]; rfl
/-- An object's state, as it lies. -/
theorem HAt.row {base : Nat} {w : World} {c : GenC} {R : GR} {G : GenW} (h : HAt base w c R G) (o : Nat) (ho : o < c.objects.toNat) :
    ∃ p m, R.svs.getD o (.slice none 0 0) = .slice p (G.states.getD o []).length m ∧ w.cell? ⟨R.gst, o, none⟩ = some (.slice p (G.states.getD o []).length m) ∧
      (0 < (G.states.getD o []).length → ∃ b off, p = some ⟨b, off, none⟩ ∧ w.cell? ⟨b, off, none⟩ = some (.int .i64 ((G.states.getD o []).getD 0 0))) := by
  obtain ⟨p, m, e, hl, hc, -⟩ := h.rows o ho
  have hn : R.svs.length = c.objects.toNat := by have := h.st.1; omega
  refine ⟨p, m, e, ?_, fun h0 => ?_⟩
  · rw [h.st.cellAt o (by omega), ← e, List.getD_eq_getElem?_getD, List.getElem?_eq_getElem (by omega)]
    rfl
  · obtain ⟨b, off, e2, H⟩ := hc h0
    refine ⟨b, off, e2, ?_⟩
    have := H 0 h0
    simpa using this
theorem HAt.goneAt {base : Nat} {w : World} {c : GenC} {R : GR} {G : GenW} (h : HAt base w c R G) (p : Nat) (hp : p < c.procs.toNat) : w.cell? ⟨R.gg, p, none⟩ = some (.bool (G.gone.getD p false)) := by
  rw [heap_cell h.gone]
  have := h.goneN
  simp [boolCells, List.getD_eq_getElem?_getD, List.getElem?_eq_getElem (show p < G.gone.length by omega)]
theorem HAt.freeAt {base : Nat} {w : World} {c : GenC} {R : GR} {G : GenW} (h : HAt base w c R G) (p : Nat) (hp : p < c.procs.toNat) : w.cell? ⟨R.gf, p, none⟩ = some (.int .i64 (G.free.getD p 0)) := by
  rw [heap_cell h.free]
  have := h.freeN
  simp [i64s, List.getD_eq_getElem?_getD, List.getElem?_eq_getElem (show p < G.free.length by omega)]
theorem HAt.gcells {base : Nat} {w w' : World} {c : GenC} {R : GR} {G : GenW} (h : HAt base w c R G) (hg : w.grownBy w' R.lv.ownBlock) : w'.heap[R.g]? = some (.cells (hcells c R G.x G.now) 70 (0, 0)) :=
  (hg.block R.g (heap_lt h.cells) (fun e => (h.lvd R.g e.symm).1 rfl)).trans h.cells
theorem HAt.pushed {base : Nat} {w w' : World} {c : GenC} {R : GR} {G : GenW} (h : HAt base w c R G) (o : OpR) {g cap : Nat} (ho : w'.ownsRow base 52 11 (.slice (some ⟨g, 0, none⟩) (G.l.length + 1) cap) (G.l.length + 1) (opCells G.l ++ o.row)) (hg : w.grownBy w' R.lv.ownBlock) (hat : R.lv.ownBlock = some g ∨ g = w.heap.size) :
    HAt base (w'.setCell ⟨R.g, 11, none⟩ (.slice (some ⟨g, 0, none⟩) (G.l.length + 1) cap)) c { R with lv := .slice (some ⟨g, 0, none⟩) (G.l.length + 1) cap } { G with l := G.l ++ [o] } := by
  refine h.push _ (G.l ++ [o]) ?_ hg ?_
  · rw [opCells_append, List.length_append, show opCells [o] = o.row by simp [opCells]]
    exact ho
  · intro k hk
    obtain rfl : g = k := Option.some.inj hk
    rcases hat with e | e
    · exact .inl e
    · exact .inr (Nat.le_of_eq e.symm)
theorem HAt.pushedB {base : Nat} {w0 w w' : World} {c : GenC} {R : GR} {G : GenW} (h : HAt base w c R G) (hb : Below base w0 w) (hg : w.grownBy w' R.lv.ownBlock) : Below base w0 w' :=
  Below.grown hb hg (Nat.le_trans h.lo.1 (Nat.le_of_lt (heap_lt h.cells))) (fun k hk => (h.own.lt k hk).1)
theorem HAt.base_le {base : Nat} {w : World} {c : GenC} {R : GR} {G : GenW} (h : HAt base w c R G) : base ≤ w.heap.size := Nat.le_trans h.lo.1 (Nat.le_of_lt (heap_lt h.cells))
/-- A store into a block that is none of the whole's. -/
theorem HAt.other {base : Nat} {w : World} {c : GenC} {R : GR} {G : GenW} (h : HAt base w c R G) (b o : Nat) (u : Value) (m1 : b ≠ R.g) (m3 : b ≠ R.gf) (m4 : b ≠ R.gg) (m5 : b ≠ R.gst) (hl : R.lv.ownBlock ≠ some b)
    (hr : ∀ i, i < c.objects.toNat → ∀ a n m, R.svs.getD i (.slice none 0 0) = .slice (some a) n m → 0 < n → a.block ≠ b) : HAt base (w.setCell ⟨b, o, none⟩ u) c R G := by
  have ho := only_set w b o u
  exact {
    cells := (ho.block _ (Ne.symm m1)).trans h.cells
    ux := h.ux
    free := (ho.block _ (Ne.symm m3)).trans h.free
    freeN := h.freeN
    gone := (ho.block _ (Ne.symm m4)).trans h.gone
    goneN := h.goneN
    st := h.stO ho (Ne.symm m5)
    stN := h.stN
    rows := fun i hi => (h.rows i hi).keep (fun a n m e e0 => ho.block _ (hr i hi a n m e e0))
    own := own_keep h.own (fun k hk => ho.block k (fun e => hl (by rw [hk, e])))
    apart := h.apart
    lvd := h.lvd
    rowd := h.rowdO ho
    lo := h.lo }
end
/-- A step has come to an end. -/
def HStepPost (base : Nat) (w : World) (c : GenC) (g : Nat) (X : GenW) (e : Ending) (w' : World) : Prop := (∃ v, e = .returned v) ∧ (∃ R' : GR, R'.g = g ∧ HAt base w' c R' X) ∧ Below base w w'
theorem HStepPost.intro {base : Nat} {w : World} {c : GenC} {g : Nat} {X : GenW} {e : Ending} {w' : World} {v : Value} (R' : GR) (he : e = .returned v) (hg : R'.g = g) (hx : HAt base w' c R' X) (hb : Below base w w') : HStepPost base w c g X e w' := ⟨⟨v, he⟩, ⟨R', hg, hx⟩, hb⟩
end Go.Proofs.Ytlhgdbangnohjaa
namespace Go.Proofs.Ytlhgdbangnohjaa
open Go.RowKit
set_option linter.unusedVariables false
set_option linter.unusedSimpArgs false
/-- The number has gone on, and what is new may be there. -/
def XSet (g : Nat) (x : Int) (w w' : World) : Prop := ∃ w1, Grow w w1 ∧ w' = w1.setCell ⟨g, 6, none⟩ (.int .u64 x)
theorem XSet.drew {g : Nat} {x : Int} {w w' : World} (h : XSet g x w w') : XSet g x w w'.drew := by
  obtain ⟨w1, h1, rfl⟩ := h
  exact ⟨w1.drew, Grow.trans h1 (Grow.drew _), rfl⟩
theorem XSet.after {g : Nat} {x : Int} {w w0 w' : World} (hg : Grow w0 w) (h : XSet g x w w') : XSet g x w0 w' := by
  obtain ⟨w1, h1, rfl⟩ := h
  exact ⟨w1, Grow.trans hg h1, rfl⟩
theorem XSet.size {g : Nat} {x : Int} {w w' : World} (h : XSet g x w w') : w.heap.size ≤ w'.heap.size := by
  obtain ⟨w1, h1, rfl⟩ := h
  have := (only_set w1 g 6 (.int .u64 x)).size
  have := h1.size
  omega
theorem XSet.block {g : Nat} {x : Int} {w w' : World} (h : XSet g x w w') {b : Nat} (hb : b < w.heap.size) (hne : b ≠ g) : w'.heap[b]? = w.heap[b]? := by
  obtain ⟨w1, h1, rfl⟩ := h
  exact ((only_set w1 g 6 (.int .u64 x)).block b hne).trans (h1.block b hb)
theorem XSet.below {g base : Nat} {x : Int} {w w' : World} (h : XSet g x w w') (hg : base ≤ g) (hb : base ≤ w.heap.size) : Below base w w' := by
  obtain ⟨w1, h1, rfl⟩ := h
  exact (h1.mono hb).setCell (p := ⟨g, 6, none⟩) hg _
theorem XSet.far {g : Nat} {x : Int} {w w' : World} (h : XSet g x w w') {b o : Nat} {v : Value} (hc : w.cell? ⟨b, o, none⟩ = some v) (hne : b ≠ g) : w'.cell? ⟨b, o, none⟩ = some v := by
  have hl := World.block_lt_of_cell? w _ hc
  have := h.block hl hne
  simp only [World.cell?, this] at hc ⊢
  exact hc
theorem XSet.off {g : Nat} {x : Int} {w w' : World} (h : XSet g x w w') {o : Nat} {v : Value} (hc : w.cell? ⟨g, o, none⟩ = some v) (hne : o ≠ 6) : w'.cell? ⟨g, o, none⟩ = some v := by
  obtain ⟨w1, h1, rfl⟩ := h
  exact cell_off (h1.cell hc) hne
theorem XSet.box {g b : Nat} {x : Int} {w w' : World} {o : OpR} (h : XSet g x w w') (hb : OpBox w b o) (hne : b ≠ g) : OpBox w' b o := (h.block hb.lt hne).trans hb
theorem HAt.xset {base : Nat} {w w' : World} {c : GenC} {R : GR} {G : GenW} {x : Int} (h : HAt base w c R G) (hs : XSet R.g x w w') (hx : U64 x) : HAt base w' c R { G with x := x } := by
  obtain ⟨w1, h1, rfl⟩ := hs
  exact (h.grow h1).setX x hx
theorem HAt.fx {base : Nat} {w : World} {c : GenC} {R : GR} {G : GenW} (h : HAt base w c R G) (i : Nat) (hi : i < 12) : w.frozen? ⟨R.g, i, none⟩ = false := heap_frozen h.cells i (by omega)
set_option maxRecDepth 100000 in
theorem rbelow_c (x n : Int) (g : Nat) (w : World) (h : U64 x) (h2 : n ≤ 9223372036854775807) (hc : w.cell? ⟨g, 6, none⟩ = some (.int .u64 x)) (hf : w.frozen? ⟨g, 6, none⟩ = false) :
    Calls Try.prog 43 #[.pointer (some ⟨g, 0, none⟩), .int .i64 n] w fun e w' => e = .returned (.int .i64 (belV x n)) ∧ XSet g (belX x n) w w' := by
  have HB := hid (RBelow_c x n w h h2)
  have hl := World.block_lt_of_cell? w _ hc
  go_enter Try.func43, Try.ntmps43
  go_wp2_with fail
  refine (HB.out).mono ?_
  rintro e w1 ⟨rfl, b1⟩
  have hc1 := b1.cell hc
  have hf1 : w1.frozen? ⟨g, 6, none⟩ = false := by
    have := b1.block g hl
    simp only [World.frozen?, this] at hf ⊢
    exact hf
  have HG := hid b1
  clear b1
  go_wp2_with fail
  go_ret
  exact ⟨rfl, w1, HG.out, rfl⟩
theorem hbelow_c {base : Nat} {w : World} {c : GenC} {R : GR} {G : GenW} (h : HAt base w c R G) (n : Int) (h1 : 1 ≤ n) (h2 : n ≤ 100) :
    Calls Try.prog 43 #[.pointer (some ⟨R.g, 0, none⟩), .int .i64 n] w fun e w' => e = .returned (.int .i64 (belowV G.x n)) ∧ XSet R.g (nxt G.x) w w' := by
  have := rbelow_c G.x n R.g w h.ux (by omega) h.wc.2.2.2.2.2.2.1 (h.fx 6 (by omega))
  rw [belV_pos h1, belX_pos h1] at this
  exact this
set_option maxRecDepth 100000 in
set_option maxHeartbeats 2000000 in
theorem rmethods_c (k : Int) (h0 : 1 ≤ k) (h1 : k ≤ 6) (w : World) : Calls Try.prog 44 #[.int .i64 k] w fun e w' => ∃ b, e = .returned (.slice (some ⟨b, 0, none⟩) (methodsL k).length (methodsL k).length) ∧ w'.heap[b]? = some (.cells (i64s (methodsL k)).toArray 3 (0, 0)) ∧ Grow w w' := by
  have : k = 1 ∨ k = 2 ∨ k = 3 ∨ k = 4 ∨ k = 5 ∨ k = 6 := by omega
  rcases this with rfl | rfl | rfl | rfl | rfl | rfl
  all_goals
    go_enter Try.func44, Try.ntmps44
    go_wp2_with fail
    go_ret
    first
      | exact ⟨_, rfl, (heap_alloc_keep (heap_alloc_keep (heap_alloc_keep (heap_alloc_keep (heap_alloc_keep (heap_alloc_keep (heap_newAt _ _ (by simp)) _) _) _) _) _) _), (Grow.trans (Grow.trans (Grow.trans (Grow.trans (Grow.trans (Grow.trans (Grow.alloc _ _) (Grow.alloc _ _)) (Grow.alloc _ _)) (Grow.alloc _ _)) (Grow.alloc _ _)) (Grow.alloc _ _)) (Grow.alloc _ _))⟩
      | exact ⟨_, rfl, (heap_alloc_keep (heap_alloc_keep (heap_alloc_keep (heap_alloc_keep (heap_alloc_keep (heap_newAt _ _ (by simp)) _) _) _) _) _), (Grow.trans (Grow.trans (Grow.trans (Grow.trans (Grow.trans (Grow.trans (Grow.alloc _ _) (Grow.alloc _ _)) (Grow.alloc _ _)) (Grow.alloc _ _)) (Grow.alloc _ _)) (Grow.alloc _ _)) (Grow.alloc _ _))⟩
      | exact ⟨_, rfl, (heap_alloc_keep (heap_alloc_keep (heap_alloc_keep (heap_alloc_keep (heap_newAt _ _ (by simp)) _) _) _) _), (Grow.trans (Grow.trans (Grow.trans (Grow.trans (Grow.trans (Grow.trans (Grow.alloc _ _) (Grow.alloc _ _)) (Grow.alloc _ _)) (Grow.alloc _ _)) (Grow.alloc _ _)) (Grow.alloc _ _)) (Grow.alloc _ _))⟩
      | exact ⟨_, rfl, (heap_alloc_keep (heap_alloc_keep (heap_alloc_keep (heap_newAt _ _ (by simp)) _) _) _), (Grow.trans (Grow.trans (Grow.trans (Grow.trans (Grow.trans (Grow.trans (Grow.alloc _ _) (Grow.alloc _ _)) (Grow.alloc _ _)) (Grow.alloc _ _)) (Grow.alloc _ _)) (Grow.alloc _ _)) (Grow.alloc _ _))⟩
      | exact ⟨_, rfl, (heap_alloc_keep (heap_alloc_keep (heap_newAt _ _ (by simp)) _) _), (Grow.trans (Grow.trans (Grow.trans (Grow.trans (Grow.trans (Grow.trans (Grow.alloc _ _) (Grow.alloc _ _)) (Grow.alloc _ _)) (Grow.alloc _ _)) (Grow.alloc _ _)) (Grow.alloc _ _)) (Grow.alloc _ _))⟩
      | exact ⟨_, rfl, (heap_alloc_keep (heap_newAt _ _ (by simp)) _), (Grow.trans (Grow.trans (Grow.trans (Grow.trans (Grow.trans (Grow.trans (Grow.alloc _ _) (Grow.alloc _ _)) (Grow.alloc _ _)) (Grow.alloc _ _)) (Grow.alloc _ _)) (Grow.alloc _ _)) (Grow.alloc _ _))⟩
end Go.Proofs.Ytlhgdbangnohjaa
namespace Go.Proofs.Ytlhgdbangnohjaa
open Go.RowKit
set_option linter.unusedVariables false
set_option linter.unusedSimpArgs false
attribute [local go_sem ↓ high] run_imax
set_option maxRecDepth 100000 in
set_option maxHeartbeats 40000000 in
theorem rplaceC_c {cd : Code} (hcd : funcCond Try.f45 101 = some cd) {base : Nat} {w wc : World} {c : GenC} {R : GR} {k : Nat} {a1v : Value} {n bk pp P : Nat} {RES G1 : GenW} {qi qk qm qar qse : Int} {qd : Bool} {qre qrt IV PT : Int} {XS' : List Int} {p8 : Option Addr} {LN8 cap8 db : Nat} {NA : Int} {K : Act → World → Prop} {u6 u7 u8 u9 u10 u11 u12 u13 u14 u15 u16 u17 u18 u19 u20 u21 u22 u23 u24 u25 u26 u27 u28 u29 u30 u31 u32 u33 u34 u35 u36 u37 u38 u39 u40 u41 u42 u43 u44 u45 u46 u47 u48 u49 u50 u51 u52 u53 u54 u55 u56 u57 u58 u59 u60 u61 u62 u63 u64 u65 u66 u67 u68 u69 u70 u71 u72 u73 u74 u75 u76 u77 u78 u79 u80 u81 u82 u83 u84 u85 u86 u87 u88 u89 u90 u91 u92 u93 u94 u95 u96 u97 u98 u99 u100 u102 u103 u104 u105 u106 u107 u108 u109 u110 u111 u112 u113 u114 u115 u116 u117 u118 u119 u120 u121 u122 u123 u124 u125 u126 u127 u128 u129 u130 u131 u132 u133 u134 u135 u136 u137 u138 u139 u140 u141 u142 u143 u144 u145 u146 u147 u148 u149 u150 u151 u152 u153 u154 u155 u156 u157 u158 u159 u160 u161 u162 u163 u164 u165 u166 u167 u168 u169 u170 u171 u172 u173 u174 u175 u176 u177 u178 u179 u180 u181 u182 u183 u184 u185 : Value} (hk : k ≤ 1000) (hok1 : GOk c G1 k) (m1 : bk ≠ R.g) (m3 : bk ≠ R.gf) (m4 : bk ≠ R.gg) (m5 : bk ≠ R.gst) (hlv : R.lv.ownBlock ≠ some bk) (hbb : base ≤ bk) (hlo1 : base ≤ R.g ∧ base ≤ R.gf ∧ base ≤ R.gg) (hap : R.g ≠ R.gf ∧ R.g ≠ R.gg ∧ R.g ≠ R.gst ∧ R.gf ≠ R.gg ∧ R.gf ≠ R.gst ∧ R.gg ≠ R.gst) (hpP : pp < P) (HP : Hid (c.procs.toNat = P)) (hp0 : (0 : Int) ≤ (pp : Int)) (hp1 : (pp : Int) < (P : Int)) (hpt0 : 1 ≤ PT) (hpt1 : PT ≤ 20 * (k : Int) + 4) (hrd9 : ∀ i, i < c.objects.toNat → ∀ a q m, (R.svs.set n (.slice p8 LN8 cap8)).getD i (.slice none 0 0) = .slice (some a) q m → 0 < q → a.block ≠ bk) (HR : Hid (RES = { x := nxt (nxt (nxt G1.x)), free := G1.free, gone := G1.gone.set pp true, states := G1.states.set n XS', now := PT, l := G1.l ++ [⟨qi, (pp : Int), (n : Int), qk, qm, qar, qse, qd, qre, IV, qrt⟩] })) (g11 : HAt base wc c { R with svs := R.svs.set n (.slice p8 LN8 cap8) } { G1 with x := nxt (nxt (nxt G1.x)), now := PT, states := G1.states.set n XS' }) (o11 : OpBox wc bk ⟨qi, (pp : Int), (n : Int), qk, qm, qar, qse, qd, qre, IV, qrt⟩) (b11 : Below base w wc) : cd.wp Try.prog (Exit.then K (bodyPost Try.prog Try.f45 (HStepPost base w c R.g RES))) ⟨List.toArray [.pointer (some ⟨R.g, 0, none⟩), a1v, undef, .pointer (some ⟨bk, 0, none⟩), .int .i64 PT, .pointer (some ⟨db, 0, none⟩), u6, u7, u8, u9, u10, u11, u12, u13, u14, u15, u16, u17, u18, u19, u20, u21, u22, u23, u24, u25, u26, u27, u28, u29, u30, u31, u32, u33, u34, u35, u36, u37, u38, u39, u40, u41, u42, u43, u44, u45, u46, u47, u48, u49, u50, u51, u52, u53, u54, u55, u56, u57, u58, u59, u60, u61, u62, u63, u64, u65, u66, u67, u68, u69, u70, u71, u72, u73, u74, u75, u76, u77, u78, u79, u80, u81, u82, u83, u84, u85, u86, u87, u88, u89, u90, u91, u92, u93, u94, u95, u96, u97, u98, u99, u100, .bool true, u102, u103, u104, u105, u106, u107, u108, u109, u110, u111, u112, u113, u114, u115, u116, u117, u118, u119, u120, u121, u122, u123, u124, u125, u126, u127, u128, u129, u130, u131, u132, u133, u134, u135, u136, u137, u138, u139, u140, u141, u142, u143, u144, u145, u146, u147, u148, u149, u150, u151, u152, u153, u154, u155, u156, u157, u158, u159, u160, u161, u162, u163, u164, u165, u166, u167, u168, u169, u170, u171, u172, u173, u174, u175, u176, u177, u178, u179, u180, u181, u182, u183, u184, u185], []⟩ wc := by
  refine code_of hcd rfl ?_
  clear hcd
  dsimp only
  have g11' := hid g11
  have g12 := hid (g11.setGone pp true)
  have o12 := hid (o11.only (only_set wc R.gg pp (.bool true)) m4)
  have b12 := hid (b11.setCell (p := ⟨R.gg, pp, none⟩) hlo1.2.2 (.bool true))
  have cg := g11.goneAt pp (by rw [HP.out]; exact hpP)
  have fg := heap_frozen g11.gone pp (by omega)
  have c8 := g11.wc.2.2.2.2.2.2.2.2.1
  rw [HP.out] at c8
  have a1 := (box_all o11).2.1
  clear g11 o11 b11
  go_upto_region 12 with fail
  go_cut [] from 6 (fun wr => HAt base wr c { R with svs := R.svs.set n (.slice p8 LN8 cap8) } { G1 with x := nxt (nxt (nxt G1.x)), now := PT, states := G1.states.set n XS', gone := G1.gone.set pp true } ∧ OpBox wr bk ⟨qi, (pp : Int), (n : Int), qk, qm, qar, qse, qd, qre, IV, qrt⟩ ∧ Below base w wr)
  case first =>
    --F
    go_region_held3 (fun w' => w'.cell? ⟨R.g, 8, none⟩ = some (.slice (some ⟨R.gg, 0, none⟩) P P) ∧ w'.cell? ⟨bk, 1, none⟩ = some (.int .i64 (pp : Int)))
      (first | (with_reducible exact ⟨cell_drew c8, cell_drew a1⟩) | (with_reducible exact ⟨c8, a1⟩) | (with_reducible exact ⟨cell_drew (cell_far c8 hap.2.1), cell_drew (cell_far a1 m4)⟩) | (with_reducible exact ⟨cell_far c8 hap.2.1, cell_far a1 m4⟩))
      (fail)
    all_goals (go_wp2_with fail; go_meet)
    all_goals first | exact ⟨g12.out, o12.out, b12.out⟩ | exact ⟨g12.out.grow (Grow.drew _), o12.out.grow (Grow.drew _), b12.out.drew⟩
    --/F
  clear g11' g12 o12 b12 cg fg c8 a1
  obtain ⟨g12, o12, b12⟩ := hcut
  --F
  have HG := hid g12
  have HO' := hid o12
  have HB := hid b12
  have c11 := HG.out.wc.2.2.2.2.2.2.2.2.2.2.2
  have hgs : R.g ≠ wc.heap.size := Nat.ne_of_lt (heap_lt HG.out.cells)
  have hL : G1.l.length ≤ 1000 := by have := hok1.len; omega
  obtain ⟨i0, hi0, hz0, hz1, hz2⟩ := info_parts infoOpM
  clear g12 o12 b12
  obtain ⟨lA, lk, hlf⟩ := own_formM HG.out.own
  dsimp only at hlf c11
  rw [hlf] at c11
  have cA := (Grow.trans (Grow.alloc wc (.cells #[.int .i64 qi, .int .i64 (pp : Int), .int .i64 (n : Int), .int .i64 qk, .int .i64 qm, .int .i64 qar, .int .i64 qse, .bool qd, .int .i64 qre, .int .i64 IV, .int .i64 qrt] 52)) (Grow.drew _)).cell c11
  have HLF := hid hlf
  clear hlf
  go_upto_region 13 with fail
  obtain ⟨a0, a1, a2, a3, a4, a5, a6, a7, a8, a9, a10⟩ := box_all HO'.out
  go_region_law
    ((refine step_append_lies _ rfl _ _ 38 rfl base 52 i0 _ 11 88 Try.underlying38 hi0 hz0 hz1 hz2 rfl (by omega) (.slice lA G1.l.length lk) G1.l.length (opCells G1.l) rfl (own_turn HLF.out (HG.out.grow (Grow.trans (Grow.alloc wc (.cells #[.int .i64 qi, .int .i64 (pp : Int), .int .i64 (n : Int), .int .i64 qk, .int .i64 qm, .int .i64 qar, .int .i64 qse, .bool qd, .int .i64 qre, .int .i64 IV, .int .i64 qrt] 52)) (Grow.drew _))).own) ⟨wc.heap.size, 0, none⟩ 1 1 (OpR.row ⟨qi, (pp : Int), (n : Int), qk, qm, qar, qse, qd, qre, IV, qrt⟩) rfl rfl (World.news_of_block (cs := #[.int .i64 qi, .int .i64 (pp : Int), .int .i64 (n : Int), .int .i64 qk, .int .i64 qm, .int .i64 qar, .int .i64 qse, .bool qd, .int .i64 qre, .int .i64 IV, .int .i64 qrt]) ((Grow.drew _).heap (heap_new wc _))) (by simp [OpR.row, Value.oneCell']) (by omega) (by unfold maxLen; omega) (by omega) (HG.out.grow (Grow.trans (Grow.alloc wc (.cells #[.int .i64 qi, .int .i64 (pp : Int), .int .i64 (n : Int), .int .i64 qk, .int .i64 qm, .int .i64 qar, .int .i64 qse, .bool qd, .int .i64 qre, .int .i64 IV, .int .i64 qrt] 52)) (Grow.drew _))).base_le _ rfl ?_
      intro g2 cap2 wn hown hgr hat hlt
      rw [← HLF.out] at hgr hat
      have GP := HG.out.grow (Grow.trans (Grow.alloc wc (.cells #[.int .i64 qi, .int .i64 (pp : Int), .int .i64 (n : Int), .int .i64 qk, .int .i64 qm, .int .i64 qar, .int .i64 qse, .bool qd, .int .i64 qre, .int .i64 IV, .int .i64 qrt] 52)) (Grow.drew _))
      have gn := hid (GP.pushed ⟨qi, (pp : Int), (n : Int), qk, qm, qar, qse, qd, qre, IV, qrt⟩ hown hgr hat)
      have bn := hid ((GP.pushedB (HB.out.trans ((Grow.trans (Grow.alloc wc (.cells #[.int .i64 qi, .int .i64 (pp : Int), .int .i64 (n : Int), .int .i64 qk, .int .i64 qm, .int .i64 qar, .int .i64 qse, .bool qd, .int .i64 qre, .int .i64 IV, .int .i64 qrt] 52)) (Grow.drew _)).mono (Nat.le_trans hlo1.1 (Nat.le_of_lt (heap_lt HG.out.cells))))) hgr).setCell (p := ⟨R.g, 11, none⟩) hlo1.1 (.slice (some ⟨g2, 0, none⟩) (G1.l.length + 1) cap2))
      have c11' : wn.cell? ⟨R.g, 11, none⟩ = some R.lv := heap_cell (GP.gcells hgr) 11
      have f11' : wn.frozen? ⟨R.g, 11, none⟩ = false := heap_frozen (GP.gcells hgr) 11 (by omega)
      clear GP hown hgr hat hlt))
  all_goals go_wp2_with fail
  all_goals (first | go_end0 | ((try simp only [Exit.inBlock, Exit.then]); refine bodyPost_ret (results_none rfl _ _ _) rfl ?_))
  all_goals exact .intro { R with svs := R.svs.set n (.slice p8 LN8 cap8), lv := .slice (some ⟨g2, 0, none⟩) (G1.l.length + 1) cap2 } rfl rfl (by rw [HR.out]; exact gn.out) bn.out
  --/F
end Go.Proofs.Ytlhgdbangnohjaa
namespace Go.Proofs.Ytlhgdbangnohjaa
open Go.RowKit
set_option linter.unusedVariables false
set_option linter.unusedSimpArgs false
attribute [local go_sem ↓ high] run_imax
set_option maxRecDepth 100000 in
set_option maxHeartbeats 40000000 in
theorem rplaceE_c {cd : Code} (hcd : funcFrom Try.f45 16 = some cd) {base : Nat} {w wc : World} {c : GenC} {R : GR} {k : Nat} {a1v : Value} {n bk pp P : Nat} {RES G1 : GenW} {qi qk qm qar qse : Int} {qd : Bool} {qre qrt IV PT : Int} {XS' : List Int} {p8 : Option Addr} {LN8 cap8 db : Nat} {NA : Int} {RT RS : Int} {u6 u7 u8 u9 u10 u11 u12 u13 u14 u15 u16 u17 u18 u19 u20 u21 u22 u23 u24 u25 u26 u27 u28 u29 u30 u31 u32 u33 u34 u35 u36 u37 u38 u39 u40 u41 u42 u43 u44 u45 u46 u47 u48 u49 u50 u51 u52 u53 u54 u55 u56 u57 u58 u59 u60 u61 u62 u63 u64 u65 u66 u67 u68 u69 u70 u71 u72 u73 u74 u75 u76 u77 u78 u79 u80 u81 u82 u83 u84 u85 u86 u87 u88 u89 u90 u91 u92 u93 u94 u95 u96 u97 u98 u99 u100 u101 u102 u103 u104 u105 u106 u107 u108 u109 u110 u111 u112 u113 u114 u115 u116 u117 u118 u119 u120 u121 u122 u123 u124 u125 u126 u127 u128 u129 u130 u131 u132 u133 u134 u135 u136 u137 u138 u139 u140 u141 u142 u143 u144 u145 u146 u147 u148 u149 u150 u151 u152 u153 u154 u155 u156 u157 u158 u159 u160 u161 u162 u163 u164 u165 u166 u167 u168 u169 u170 u171 u172 u173 u174 u175 u176 u177 u178 u179 u180 u181 u182 u183 u184 u185 : Value} (hk : k ≤ 1000) (hok1 : GOk c G1 k) (m1 : bk ≠ R.g) (m3 : bk ≠ R.gf) (m4 : bk ≠ R.gg) (m5 : bk ≠ R.gst) (hlv : R.lv.ownBlock ≠ some bk) (hbb : base ≤ bk) (hlo1 : base ≤ R.g ∧ base ≤ R.gf ∧ base ≤ R.gg) (hap : R.g ≠ R.gf ∧ R.g ≠ R.gg ∧ R.g ≠ R.gst ∧ R.gf ≠ R.gg ∧ R.gf ≠ R.gst ∧ R.gg ≠ R.gst) (hpP : pp < P) (HP : Hid (c.procs.toNat = P)) (hp0 : (0 : Int) ≤ (pp : Int)) (hp1 : (pp : Int) < (P : Int)) (hpt0 : 1 ≤ PT) (hpt1 : PT ≤ 20 * (k : Int) + 4) (hrd9 : ∀ i, i < c.objects.toNat → ∀ a q m, (R.svs.set n (.slice p8 LN8 cap8)).getD i (.slice none 0 0) = .slice (some a) q m → 0 < q → a.block ≠ bk) (hna : -((k : Int) + 1) ≤ NA ∧ NA ≤ (k : Int) + 4) (HRS : Hid (RS = (if belowV (nxt (nxt (nxt (nxt G1.x)))) 100 < c.wrong then wrongL ⟨qi, (pp : Int), (n : Int), qk, qm, qar, qse, true, NA, IV, RT⟩ else NA))) (HR2 : Hid (RES = { x := nxt (nxt (nxt (nxt (nxt G1.x)))), free := G1.free.set pp RT, gone := G1.gone, states := G1.states.set n XS', now := PT, l := G1.l ++ [⟨qi, (pp : Int), (n : Int), qk, qm, qar, qse, true, RS, IV, RT⟩] })) (n1 : db ≠ R.g) (n6 : db ≠ bk) (d15 : wc.heap[db]? = some (.cells #[.slice p8 LN8 cap8, .int .i64 NA, .bool true] 96 (0, 0))) (g15 : HAt base wc c { R with svs := R.svs.set n (.slice p8 LN8 cap8) } { x := nxt (nxt (nxt (nxt G1.x))), free := G1.free.set pp RT, gone := G1.gone, states := G1.states.set n XS', now := PT, l := G1.l }) (o15 : OpBox wc bk ⟨qi, (pp : Int), (n : Int), qk, qm, qar, qse, true, NA, IV, RT⟩) (b15 : Below base w wc) : cd.wp Try.prog (bodyPost Try.prog Try.f45 (HStepPost base w c R.g RES)) ⟨List.toArray [.pointer (some ⟨R.g, 0, none⟩), a1v, undef, .pointer (some ⟨bk, 0, none⟩), .int .i64 PT, .pointer (some ⟨db, 0, none⟩), u6, u7, u8, u9, u10, u11, u12, u13, u14, u15, u16, u17, u18, u19, u20, u21, u22, u23, u24, u25, u26, u27, u28, u29, u30, u31, u32, u33, u34, u35, u36, u37, u38, u39, u40, u41, u42, u43, u44, u45, u46, u47, u48, u49, u50, u51, u52, u53, u54, u55, u56, u57, u58, u59, u60, u61, u62, u63, u64, u65, u66, u67, u68, u69, u70, u71, u72, u73, u74, u75, u76, u77, u78, u79, u80, u81, u82, u83, u84, u85, u86, u87, u88, u89, u90, u91, u92, u93, u94, u95, u96, u97, u98, u99, u100, u101, u102, u103, u104, u105, u106, u107, u108, u109, u110, u111, u112, u113, u114, u115, u116, u117, u118, u119, u120, u121, u122, u123, u124, u125, u126, u127, u128, u129, u130, u131, u132, u133, u134, u135, u136, u137, u138, u139, u140, u141, u142, u143, u144, u145, u146, u147, u148, u149, u150, u151, u152, u153, u154, u155, u156, u157, u158, u159, u160, u161, u162, u163, u164, u165, u166, u167, u168, u169, u170, u171, u172, u173, u174, u175, u176, u177, u178, u179, u180, u181, u182, u183, u184, u185], []⟩ wc := by
  refine code_of hcd rfl ?_
  clear hcd
  dsimp only
  -- region 17: a chance
  have gx := hid g15
  have ox := hid o15
  have bx := hid b15
  have dx := hid d15
  have cp := gx.out.wc.2.2.2.2.1
  have a4 := (box_all o15).2.2.2.2.1
  have HCH := hid (fun w' (s : HAt base w' c { R with svs := R.svs.set n (.slice p8 LN8 cap8) } { x := nxt (nxt (nxt (nxt G1.x))), free := G1.free.set pp RT, gone := G1.gone, states := G1.states.set n XS', now := PT, l := G1.l }) => hbelow_c s 100 (by omega) (by omega))
  dsimp only at HCH
  clear g15 o15 b15 d15
  go_upto_region 17 with fail
  go_cut [147] from 7 (fun s wr => s = .bool (decide (belowV (nxt (nxt (nxt (nxt G1.x)))) 100 < c.wrong)) ∧ wr.heap[db]? = some (.cells #[.slice p8 LN8 cap8, .int .i64 NA, .bool true] 96 (0, 0)) ∧ HAt base wr c { R with svs := R.svs.set n (.slice p8 LN8 cap8) } { x := nxt (nxt (nxt (nxt (nxt G1.x)))), free := G1.free.set pp RT, gone := G1.gone, states := G1.states.set n XS', now := PT, l := G1.l } ∧ OpBox wr bk ⟨qi, (pp : Int), (n : Int), qk, qm, qar, qse, true, NA, IV, RT⟩ ∧ Below base w wr)
  case first =>
    --F
    go_region_held3 (fun w' => w'.cell? ⟨R.g, 4, none⟩ = some (.int .i64 c.wrong))
      (first | (with_reducible exact cell_drew cp) | (with_reducible exact cp) | (with_reducible exact cp'))
      ((go_at_call 43
        refine (HCH.out wc.drew (gx.out.grow (Grow.drew _))).mono ?_
        rintro e wn ⟨rfl, xn⟩
        have xs := xn.after (Grow.drew wc)
        have gn := hid (gx.out.xset xs (nxt_u _))
        have on := hid (xs.box ox.out m1)
        have bn := hid (bx.out.trans (xs.below hlo1.1 gx.out.base_le))
        have dn := hid ((xs.block (heap_lt dx.out) n1).trans dx.out)
        have cp' := xs.off cp (by decide)
        clear xn xs))
    all_goals (go_wp2_with fail; go_meet)
    all_goals exact ⟨rfl, dn.out, gn.out, on.out, bn.out⟩
    --/F
  clear gx ox bx dx cp a4 HCH
  obtain ⟨es, d16, g16, o16, b16⟩ := hcut
  -- regions 18 to 21: another answer
  have HG := hid g16
  have HO' := hid o16
  have HB := hid b16
  have d1 : wc.cell? ⟨db, 1, none⟩ = some (.int .i64 NA) := heap_cell d16 1
  have f8 := o16.open.2.2.2.2.2.2.2.2.1
  have a8 := (box_all o16).2.2.2.2.2.2.2.2.1
  clear g16 o16 b16 d16
  go_upto_if 147 with fail
  go_cut [] from 7 (fun wr => HAt base wr c { R with svs := R.svs.set n (.slice p8 LN8 cap8) } { x := nxt (nxt (nxt (nxt (nxt G1.x)))), free := G1.free.set pp RT, gone := G1.gone, states := G1.states.set n XS', now := PT, l := G1.l } ∧ OpBox wr bk ⟨qi, (pp : Int), (n : Int), qk, qm, qar, qse, true, RS, IV, RT⟩ ∧ Below base w wr)
  case first =>
    --F
    by_cases hw : belowV (nxt (nxt (nxt (nxt G1.x)))) 100 < c.wrong
    · rw [decide_eq_true hw] at es
      subst es
      have hrs := HRS.out
      rw [if_pos hw] at hrs
      clear hw HRS
      unfold wrongL at hrs
      dsimp only at hrs
      by_cases hA : qm = 3 ∨ qm = 10 ∨ qm = 11 ∨ qm = 12
      · rw [if_pos hA] at hrs
        have HN := hid hrs
        have hwr : IntKind.i64.wrap (1 - NA) = 1 - NA := by rw [IntKind.wrap_i64]; omega
        clear hrs
        have gE := hid (HG.out.other bk 8 (.int .i64 (1 - NA)) m1 m3 m4 m5 hlv hrd9)
        have bE := hid (HB.out.setCell (p := ⟨bk, 8, none⟩) hbb (.int .i64 (1 - NA)))
        have oE := hid (show OpBox (wc.setCell ⟨bk, 8, none⟩ (.int .i64 (1 - NA))) bk ⟨qi, (pp : Int), (n : Int), qk, qm, qar, qse, true, RS, IV, RT⟩ from heap_setV HO'.out 8 _ _ (by rw [HN.out]; rfl))
        rcases hA with rfl | rfl | rfl | rfl
        all_goals (go_wp2_with fail; go_meet)
        all_goals exact ⟨gE.out, oE.out, bE.out⟩
      · rw [if_neg hA] at hrs
        have q3 : (qm == 3) = false := by simp; omega
        have qL : 10 ≤ qm → decide (qm ≤ 12) = false := fun h => by simp; omega
        by_cases hC : qm = 1 ∨ qm = 7 ∨ qm = 9
        · rw [if_pos hC] at hrs
          have HN := hid hrs
          have hwr : IntKind.i64.wrap (NA + 1) = NA + 1 := by rw [IntKind.wrap_i64]; omega
          clear hrs hA q3 qL
          have gE := hid (HG.out.other bk 8 (.int .i64 (NA + 1)) m1 m3 m4 m5 hlv hrd9)
          have bE := hid (HB.out.setCell (p := ⟨bk, 8, none⟩) hbb (.int .i64 (NA + 1)))
          have oE := hid (show OpBox (wc.setCell ⟨bk, 8, none⟩ (.int .i64 (NA + 1))) bk ⟨qi, (pp : Int), (n : Int), qk, qm, qar, qse, true, RS, IV, RT⟩ from heap_setV HO'.out 8 _ _ (by rw [HN.out]; rfl))
          rcases hC with rfl | rfl | rfl
          all_goals (go_wp2_with fail; go_meet)
          all_goals exact ⟨gE.out, oE.out, bE.out⟩
        · rw [if_neg hC] at hrs
          have HN := hid hrs
          have q1 : (qm == 1) = false := by simp; omega
          have q7 : (qm == 7) = false := by simp; omega
          have q9 : (qm == 9) = false := by simp; omega
          clear hrs
          by_cases hT : 10 ≤ qm
          · have qT := decide_eq_true hT
            have qU := qL hT
            clear hA hC qL hT
            go_wp2_with fail
            go_meet
            refine ⟨HG.out, ?_, HB.out⟩
            rw [HN.out]
            exact HO'.out
          · have qT := decide_eq_false hT
            clear hA hC qL hT
            go_wp2_with fail
            go_meet
            refine ⟨HG.out, ?_, HB.out⟩
            rw [HN.out]
            exact HO'.out
    · rw [decide_eq_false hw] at es
      subst es
      have hrs := HRS.out
      rw [if_neg hw] at hrs
      have HN := hid hrs
      clear hrs hw HRS
      go_wp2_with fail
      go_meet
      refine ⟨HG.out, ?_, HB.out⟩
      rw [HN.out]
      exact HO'.out
    --/F
  clear HG HO' HB HRS es d1 f8 a8
  obtain ⟨g12, o12, b12⟩ := hcut
  --F
  have HG := hid g12
  have HO' := hid o12
  have HB := hid b12
  have c11 := HG.out.wc.2.2.2.2.2.2.2.2.2.2.2
  have hgs : R.g ≠ wc.heap.size := Nat.ne_of_lt (heap_lt HG.out.cells)
  have hL : G1.l.length ≤ 1000 := by have := hok1.len; omega
  obtain ⟨i0, hi0, hz0, hz1, hz2⟩ := info_parts infoOpM
  clear g12 o12 b12
  obtain ⟨lA, lk, hlf⟩ := own_formM HG.out.own
  dsimp only at hlf c11
  rw [hlf] at c11
  have cA := (Grow.trans (Grow.alloc wc (.cells #[.int .i64 qi, .int .i64 (pp : Int), .int .i64 (n : Int), .int .i64 qk, .int .i64 qm, .int .i64 qar, .int .i64 qse, .bool true, .int .i64 RS, .int .i64 IV, .int .i64 RT] 52)) (Grow.drew _)).cell c11
  have HLF := hid hlf
  clear hlf
  go_upto_region 22 with fail
  obtain ⟨a0, a1, a2, a3, a4, a5, a6, a7, a8, a9, a10⟩ := box_all HO'.out
  go_region_law
    ((refine step_append_lies _ rfl _ _ 38 rfl base 52 i0 _ 11 88 Try.underlying38 hi0 hz0 hz1 hz2 rfl (by omega) (.slice lA G1.l.length lk) G1.l.length (opCells G1.l) rfl (own_turn HLF.out (HG.out.grow (Grow.trans (Grow.alloc wc (.cells #[.int .i64 qi, .int .i64 (pp : Int), .int .i64 (n : Int), .int .i64 qk, .int .i64 qm, .int .i64 qar, .int .i64 qse, .bool true, .int .i64 RS, .int .i64 IV, .int .i64 RT] 52)) (Grow.drew _))).own) ⟨wc.heap.size, 0, none⟩ 1 1 (OpR.row ⟨qi, (pp : Int), (n : Int), qk, qm, qar, qse, true, RS, IV, RT⟩) rfl rfl (World.news_of_block (cs := #[.int .i64 qi, .int .i64 (pp : Int), .int .i64 (n : Int), .int .i64 qk, .int .i64 qm, .int .i64 qar, .int .i64 qse, .bool true, .int .i64 RS, .int .i64 IV, .int .i64 RT]) ((Grow.drew _).heap (heap_new wc _))) (by simp [OpR.row, Value.oneCell']) (by omega) (by unfold maxLen; omega) (by omega) (HG.out.grow (Grow.trans (Grow.alloc wc (.cells #[.int .i64 qi, .int .i64 (pp : Int), .int .i64 (n : Int), .int .i64 qk, .int .i64 qm, .int .i64 qar, .int .i64 qse, .bool true, .int .i64 RS, .int .i64 IV, .int .i64 RT] 52)) (Grow.drew _))).base_le _ rfl ?_
      intro g2 cap2 wn hown hgr hat hlt
      rw [← HLF.out] at hgr hat
      have GP := HG.out.grow (Grow.trans (Grow.alloc wc (.cells #[.int .i64 qi, .int .i64 (pp : Int), .int .i64 (n : Int), .int .i64 qk, .int .i64 qm, .int .i64 qar, .int .i64 qse, .bool true, .int .i64 RS, .int .i64 IV, .int .i64 RT] 52)) (Grow.drew _))
      have gn := hid (GP.pushed ⟨qi, (pp : Int), (n : Int), qk, qm, qar, qse, true, RS, IV, RT⟩ hown hgr hat)
      have bn := hid ((GP.pushedB (HB.out.trans ((Grow.trans (Grow.alloc wc (.cells #[.int .i64 qi, .int .i64 (pp : Int), .int .i64 (n : Int), .int .i64 qk, .int .i64 qm, .int .i64 qar, .int .i64 qse, .bool true, .int .i64 RS, .int .i64 IV, .int .i64 RT] 52)) (Grow.drew _)).mono (Nat.le_trans hlo1.1 (Nat.le_of_lt (heap_lt HG.out.cells))))) hgr).setCell (p := ⟨R.g, 11, none⟩) hlo1.1 (.slice (some ⟨g2, 0, none⟩) (G1.l.length + 1) cap2))
      have c11' : wn.cell? ⟨R.g, 11, none⟩ = some R.lv := heap_cell (GP.gcells hgr) 11
      have f11' : wn.frozen? ⟨R.g, 11, none⟩ = false := heap_frozen (GP.gcells hgr) 11 (by omega)
      clear GP hown hgr hat hlt))
  all_goals go_wp2_with fail
  all_goals (first | go_end0 | ((try simp only [Exit.inBlock, Exit.then]); refine bodyPost_ret (results_none rfl _ _ _) rfl ?_))
  all_goals exact .intro { R with svs := R.svs.set n (.slice p8 LN8 cap8), lv := .slice (some ⟨g2, 0, none⟩) (G1.l.length + 1) cap2 } rfl rfl (by rw [HR2.out]; exact gn.out) bn.out
  --/F
end Go.Proofs.Ytlhgdbangnohjaa
namespace Go.Proofs.Ytlhgdbangnohjaa
open Go.RowKit
set_option linter.unusedVariables false
set_option linter.unusedSimpArgs false
attribute [local go_sem ↓ high] run_imax
set_option maxRecDepth 100000 in
set_option maxHeartbeats 40000000 in
theorem rplaceD_c {cd : Code} (hcd : funcFrom Try.f45 14 = some cd) {base : Nat} {w wc : World} {c : GenC} {R : GR} {k : Nat} {a1v : Value} {n bk pp P : Nat} {RES G1 : GenW} {qi qk qm qar qse : Int} {qd : Bool} {qre qrt IV PT : Int} {XS' : List Int} {p8 : Option Addr} {LN8 cap8 db : Nat} {NA : Int} {u6 u7 u8 u9 u10 u11 u12 u13 u14 u15 u16 u17 u18 u19 u20 u21 u22 u23 u24 u25 u26 u27 u28 u29 u30 u31 u32 u33 u34 u35 u36 u37 u38 u39 u40 u41 u42 u43 u44 u45 u46 u47 u48 u49 u50 u51 u52 u53 u54 u55 u56 u57 u58 u59 u60 u61 u62 u63 u64 u65 u66 u67 u68 u69 u70 u71 u72 u73 u74 u75 u76 u77 u78 u79 u80 u81 u82 u83 u84 u85 u86 u87 u88 u89 u90 u91 u92 u93 u94 u95 u96 u97 u98 u99 u100 u102 u103 u104 u105 u106 u107 u108 u109 u110 u111 u112 u113 u114 u115 u116 u117 u118 u119 u120 u121 u122 u123 u124 u125 u126 u127 u128 u129 u130 u131 u132 u133 u134 u135 u136 u137 u138 u139 u140 u141 u142 u143 u144 u145 u146 u147 u148 u149 u150 u151 u152 u153 u154 u155 u156 u157 u158 u159 u160 u161 u162 u163 u164 u165 u166 u167 u168 u169 u170 u171 u172 u173 u174 u175 u176 u177 u178 u179 u180 u181 u182 u183 u184 u185 : Value} (hk : k ≤ 1000) (hok1 : GOk c G1 k) (m1 : bk ≠ R.g) (m3 : bk ≠ R.gf) (m4 : bk ≠ R.gg) (m5 : bk ≠ R.gst) (hlv : R.lv.ownBlock ≠ some bk) (hbb : base ≤ bk) (hlo1 : base ≤ R.g ∧ base ≤ R.gf ∧ base ≤ R.gg) (hap : R.g ≠ R.gf ∧ R.g ≠ R.gg ∧ R.g ≠ R.gst ∧ R.gf ≠ R.gg ∧ R.gf ≠ R.gst ∧ R.gg ≠ R.gst) (hpP : pp < P) (HP : Hid (c.procs.toNat = P)) (hp0 : (0 : Int) ≤ (pp : Int)) (hp1 : (pp : Int) < (P : Int)) (hpt0 : 1 ≤ PT) (hpt1 : PT ≤ 20 * (k : Int) + 4) (hrd9 : ∀ i, i < c.objects.toNat → ∀ a q m, (R.svs.set n (.slice p8 LN8 cap8)).getD i (.slice none 0 0) = .slice (some a) q m → 0 < q → a.block ≠ bk) (hna : -((k : Int) + 1) ≤ NA ∧ NA ≤ (k : Int) + 4) (HR : Hid (RES = { x := nxt (nxt (nxt (nxt (nxt G1.x)))), free := G1.free.set pp (PT + 1 + belowV (nxt (nxt (nxt G1.x))) 8), gone := G1.gone, states := G1.states.set n XS', now := PT, l := G1.l ++ [if belowV (nxt (nxt (nxt (nxt G1.x)))) 100 < c.wrong then ⟨qi, (pp : Int), (n : Int), qk, qm, qar, qse, true, wrongL ⟨qi, (pp : Int), (n : Int), qk, qm, qar, qse, true, NA, IV, PT + 1 + belowV (nxt (nxt (nxt G1.x))) 8⟩, IV, PT + 1 + belowV (nxt (nxt (nxt G1.x))) 8⟩ else ⟨qi, (pp : Int), (n : Int), qk, qm, qar, qse, true, NA, IV, PT + 1 + belowV (nxt (nxt (nxt G1.x))) 8⟩] })) (n1 : db ≠ R.g) (n3 : db ≠ R.gf) (n6 : db ≠ bk) (d11 : wc.heap[db]? = some (.cells #[.slice p8 LN8 cap8, .int .i64 NA, .bool true] 96 (0, 0))) (g11 : HAt base wc c { R with svs := R.svs.set n (.slice p8 LN8 cap8) } { G1 with x := nxt (nxt (nxt G1.x)), now := PT, states := G1.states.set n XS' }) (o11 : OpBox wc bk ⟨qi, (pp : Int), (n : Int), qk, qm, qar, qse, qd, qre, IV, qrt⟩) (b11 : Below base w wc) : cd.wp Try.prog (bodyPost Try.prog Try.f45 (HStepPost base w c R.g RES)) ⟨List.toArray [.pointer (some ⟨R.g, 0, none⟩), a1v, undef, .pointer (some ⟨bk, 0, none⟩), .int .i64 PT, .pointer (some ⟨db, 0, none⟩), u6, u7, u8, u9, u10, u11, u12, u13, u14, u15, u16, u17, u18, u19, u20, u21, u22, u23, u24, u25, u26, u27, u28, u29, u30, u31, u32, u33, u34, u35, u36, u37, u38, u39, u40, u41, u42, u43, u44, u45, u46, u47, u48, u49, u50, u51, u52, u53, u54, u55, u56, u57, u58, u59, u60, u61, u62, u63, u64, u65, u66, u67, u68, u69, u70, u71, u72, u73, u74, u75, u76, u77, u78, u79, u80, u81, u82, u83, u84, u85, u86, u87, u88, u89, u90, u91, u92, u93, u94, u95, u96, u97, u98, u99, u100, .bool false, u102, u103, u104, u105, u106, u107, u108, u109, u110, u111, u112, u113, u114, u115, u116, u117, u118, u119, u120, u121, u122, u123, u124, u125, u126, u127, u128, u129, u130, u131, u132, u133, u134, u135, u136, u137, u138, u139, u140, u141, u142, u143, u144, u145, u146, u147, u148, u149, u150, u151, u152, u153, u154, u155, u156, u157, u158, u159, u160, u161, u162, u163, u164, u165, u166, u167, u168, u169, u170, u171, u172, u173, u174, u175, u176, u177, u178, u179, u180, u181, u182, u183, u184, u185], []⟩ wc := by
  refine code_of hcd rfl ?_
  clear hcd
  dsimp only
  obtain ⟨RT, hRT⟩ : ∃ z, z = PT + 1 + belowV (nxt (nxt (nxt G1.x))) 8 := ⟨_, rfl⟩
  rw [← hRT] at HR
  obtain ⟨RS, hRS⟩ : ∃ z, z = (if belowV (nxt (nxt (nxt (nxt G1.x)))) 100 < c.wrong then wrongL ⟨qi, (pp : Int), (n : Int), qk, qm, qar, qse, true, NA, IV, RT⟩ else NA) := ⟨_, rfl⟩
  have HR2 : Hid (RES = { x := nxt (nxt (nxt (nxt (nxt G1.x)))), free := G1.free.set pp RT, gone := G1.gone, states := G1.states.set n XS', now := PT, l := G1.l ++ [⟨qi, (pp : Int), (n : Int), qk, qm, qar, qse, true, RS, IV, RT⟩] }) := by
    refine hid ?_
    rw [HR.out, hRS]
    by_cases hw : belowV (nxt (nxt (nxt (nxt G1.x)))) 100 < c.wrong
    · rw [if_pos hw, if_pos hw]
    · rw [if_neg hw, if_neg hw]
  have HRS := hid hRS
  clear HR hRS
  -- region 14: the answer
  have HB14 := hid (fun w' (s : HAt base w' c { R with svs := R.svs.set n (.slice p8 LN8 cap8) } { G1 with x := nxt (nxt (nxt G1.x)), now := PT, states := G1.states.set n XS' }) => hbelow_c s 8 (by omega) (by omega))
  dsimp only at HB14
  have v80 := belowV_lo (x := nxt (nxt (nxt G1.x))) (n := 8) (by decide)
  have v88 := belowV_hi (x := nxt (nxt (nxt G1.x))) (n := 8) (by decide)
  generalize belowV (nxt (nxt (nxt G1.x))) 8 = V13 at *
  have hw1 : IntKind.i64.wrap (PT + 1) = PT + 1 := by rw [IntKind.wrap_i64]; omega
  have hw2 : IntKind.i64.wrap (PT + 1 + V13) = RT := by rw [IntKind.wrap_i64]; omega
  clear hRT v80 v88
  have g11' := hid g11
  have o11' := hid o11
  have b11' := hid b11
  have d11' := hid d11
  have d1 : wc.cell? ⟨db, 1, none⟩ = some (.int .i64 NA) := heap_cell d11 1
  clear g11 o11 b11 d11
  go_upto_region 14 with fail
  go_cut [] from 6 (fun wr => wr.heap[db]? = some (.cells #[.slice p8 LN8 cap8, .int .i64 NA, .bool true] 96 (0, 0)) ∧ HAt base wr c { R with svs := R.svs.set n (.slice p8 LN8 cap8) } { G1 with x := nxt (nxt (nxt (nxt G1.x))), now := PT, states := G1.states.set n XS' } ∧ OpBox wr bk ⟨qi, (pp : Int), (n : Int), qk, qm, qar, qse, true, NA, IV, RT⟩ ∧ Below base w wr)
  case first =>
    --F
    go_region_held3 (fun w' => w'.cell? ⟨db, 1, none⟩ = some (.int .i64 NA))
      (first | (with_reducible exact cell_drew d1) | (with_reducible exact d1) | (with_reducible exact d1') | (with_reducible exact cell_far d1' n6) | (with_reducible exact cell_far (cell_far d1' n6) n6) | (with_reducible exact cell_far (cell_far (cell_far d1' n6) n6) n6))
      ((go_at_call 43
        refine (HB14.out wc.drew (g11'.out.grow (Grow.drew _))).mono ?_
        rintro e wn ⟨rfl, xn⟩
        have xs := xn.after (Grow.drew wc)
        have gn := hid (g11'.out.xset xs (nxt_u _))
        have onn := xs.box o11'.out m1
        have on := hid onn
        have bn := hid (b11'.out.trans (xs.below hlo1.1 g11'.out.base_le))
        have dn := hid ((xs.block (heap_lt d11'.out) n1).trans d11'.out)
        have d1' := xs.far d1 n1
        have fa := onn.open
        have aa := box_all onn
        have f7 := fa.2.2.2.2.2.2.2.1
        have f8 := fa.2.2.2.2.2.2.2.2.1
        have f10 := fa.2.2.2.2.2.2.2.2.2.2
        have a7 := aa.2.2.2.2.2.2.2.1
        have a8 := aa.2.2.2.2.2.2.2.2.1
        have a10 := aa.2.2.2.2.2.2.2.2.2.2
        clear xn xs onn fa aa))
    all_goals (go_wp2_with fail; go_meet)
    all_goals exact ⟨((only_set _ bk 10 (.int .i64 RT)).block db n6).trans (((only_set _ bk 8 (.int .i64 NA)).block db n6).trans (((only_set wn bk 7 (.bool true)).block db n6).trans dn.out)), ((gn.out.other bk 7 (.bool true) m1 m3 m4 m5 hlv hrd9).other bk 8 (.int .i64 NA) m1 m3 m4 m5 hlv hrd9).other bk 10 (.int .i64 RT) m1 m3 m4 m5 hlv hrd9, heap_setV (heap_setV (heap_setV on.out 7 (.bool true) _ rfl) 8 (.int .i64 NA) _ rfl) 10 (.int .i64 RT) _ rfl, ((bn.out.setCell (p := ⟨bk, 7, none⟩) hbb (.bool true)).setCell (p := ⟨bk, 8, none⟩) hbb (.int .i64 NA)).setCell (p := ⟨bk, 10, none⟩) hbb (.int .i64 RT)⟩
    --/F
  clear g11' o11' b11' d11' HB14 hw1 hw2 d1
  obtain ⟨d14, g14, o14, b14⟩ := hcut
  -- region 15: when it is free
  have d15 := hid (((only_set wc R.gf pp (.int .i64 RT)).block db n3).trans d14)
  have g15 := hid (g14.setFree pp RT)
  have o15 := hid (o14.only (only_set wc R.gf pp (.int .i64 RT)) m3)
  have b15 := hid (b14.setCell (p := ⟨R.gf, pp, none⟩) hlo1.2.1 (.int .i64 RT))
  have cf := g14.freeAt pp (by rw [HP.out]; exact hpP)
  have ff := heap_frozen g14.free pp (by omega)
  have c7 := g14.wc.2.2.2.2.2.2.2.1
  rw [HP.out] at c7
  have a1 := (box_all o14).2.1
  have a10 := (box_all o14).2.2.2.2.2.2.2.2.2.2
  clear g14 o14 b14 d14
  go_upto_region 15 with fail
  go_cut [] from 6 (fun wr => wr.heap[db]? = some (.cells #[.slice p8 LN8 cap8, .int .i64 NA, .bool true] 96 (0, 0)) ∧ HAt base wr c { R with svs := R.svs.set n (.slice p8 LN8 cap8) } { x := nxt (nxt (nxt (nxt G1.x))), free := G1.free.set pp RT, gone := G1.gone, states := G1.states.set n XS', now := PT, l := G1.l } ∧ OpBox wr bk ⟨qi, (pp : Int), (n : Int), qk, qm, qar, qse, true, NA, IV, RT⟩ ∧ Below base w wr)
  case first =>
    --F
    go_region_held3 (fun w' => w'.cell? ⟨R.g, 7, none⟩ = some (.slice (some ⟨R.gf, 0, none⟩) P P) ∧ w'.cell? ⟨bk, 1, none⟩ = some (.int .i64 (pp : Int)) ∧ w'.cell? ⟨bk, 10, none⟩ = some (.int .i64 RT))
      (first | (with_reducible exact ⟨cell_drew c7, cell_drew a1, cell_drew a10⟩) | (with_reducible exact ⟨c7, a1, a10⟩) | (with_reducible exact ⟨cell_drew (cell_far c7 hap.1), cell_drew (cell_far a1 m3), cell_drew (cell_far a10 m3)⟩) | (with_reducible exact ⟨cell_far c7 hap.1, cell_far a1 m3, cell_far a10 m3⟩))
      (fail)
    all_goals (go_wp2_with fail; go_meet)
    all_goals first | exact ⟨d15.out, g15.out, o15.out, b15.out⟩ | exact ⟨d15.out, g15.out.grow (Grow.drew _), o15.out.grow (Grow.drew _), b15.out.drew⟩
    --/F
  clear g15 o15 b15 d15 cf ff c7 a1 a10
  obtain ⟨d15, g15, o15, b15⟩ := hcut
  go_step
  exact rplaceE_c (qd := qd) (qre := qre) (qrt := qrt) rfl hk hok1 m1 m3 m4 m5 hlv hbb hlo1 hap hpP HP hp0 hp1 hpt0 hpt1 hrd9 hna HRS HR2 n1 n6 d15 g15 o15 b15
end Go.Proofs.Ytlhgdbangnohjaa
namespace Go.Proofs.Ytlhgdbangnohjaa
open Go.RowKit
set_option linter.unusedVariables false
set_option linter.unusedSimpArgs false
attribute [local go_sem ↓ high] run_imax
theorem Kin.place {w : World} {R : GR} {bk HS : Nat} {rp : Option Addr} {LN rm : Nat} {v : Value} {xs : List Int} (hi : Ints w v xs) (hk : Kin (.slice rp LN rm) HS v) (hH : R.g < HS ∧ R.gf < HS ∧ R.gg < HS ∧ R.gst < HS ∧ bk < HS ∧ ∀ q, R.lv.ownBlock = some q → q < HS)
    (h0 : ∀ a, 0 < LN → rp = some a → (a.block ≠ R.g ∧ a.block ≠ R.gf ∧ a.block ≠ R.gg ∧ a.block ≠ R.gst ∧ R.lv.ownBlock ≠ some a.block) ∧ a.block ≠ bk) : ∀ a n m, v = .slice (some a) n m → 0 < n → a.block < w.heap.size ∧ (a.block ≠ R.g ∧ a.block ≠ R.gf ∧ a.block ≠ R.gg ∧ a.block ≠ R.gst ∧ R.lv.ownBlock ≠ some a.block) ∧ a.block ≠ bk := fun a n m e e0 => by
  obtain ⟨p, cap, e1, -, hc, -⟩ := hi
  rw [e] at e1
  cases e1
  obtain ⟨b, off, e2, e4⟩ := hc e0
  cases e2
  have hl := World.block_lt_of_cell? w _ (e4 0 e0)
  refine ⟨hl, ?_⟩
  rcases hk b off _ _ e e0 with q | ⟨off', n', c', q, q0⟩
  · obtain ⟨y1, y3, y4, y5, y6, y7⟩ := hH
    dsimp only
    exact ⟨⟨by omega, by omega, by omega, by omega, fun e5 => by have := y7 _ e5; omega⟩, by omega⟩
  · cases q
    exact h0 ⟨b, off', none⟩ q0 rfl
theorem ints_done {W : World} {db : Nat} {v a b c : Value} {xs : List Int} (h : Ints W v xs) (hne : ∀ a n m, v = .slice (some a) n m → 0 < n → a.block ≠ db) : Ints (((W.setCell ⟨db, 0, none⟩ a).setCell ⟨db, 1, none⟩ b).setCell ⟨db, 2, none⟩ c) v xs :=
  h.keep (fun a n m e e0 => done3_other (hne a n m e e0) _ _ _)
theorem box_done {W : World} {bk db : Nat} {o : OpR} {a b c : Value} (h : OpBox W bk o) (hne : bk ≠ db) : OpBox (((W.setCell ⟨db, 0, none⟩ a).setCell ⟨db, 1, none⟩ b).setCell ⟨db, 2, none⟩ c) bk o := (done3_other hne a b c).trans h
theorem Kin.mono {v0 v : Value} {B C : Nat} (h : Kin v0 B v) (hc : C ≤ B) : Kin v0 C v := fun b off n c e e0 => (h b off n c e e0).elim (fun q => .inl (Nat.le_trans hc q)) .inr
theorem Kin.apart {W : World} {v0 v : Value} {B d : Nat} {xs : List Int} (hi : Ints W v xs) (hk : Kin v0 B v) (hd : d < B) (h0 : ∀ a n m, v0 = .slice (some a) n m → 0 < n → a.block ≠ d) : ∀ a n m, v = .slice (some a) n m → 0 < n → a.block ≠ d := fun a n m e e0 => by
  obtain ⟨p, cap, e1, -, hc, -⟩ := hi
  rw [e] at e1
  cases e1
  obtain ⟨b, off, e2, -⟩ := hc e0
  cases e2
  rcases hk b off _ _ e e0 with q | ⟨off', n', c', q, q0⟩
  · dsimp only
    omega
  · exact h0 ⟨b, off', none⟩ n' c' q q0
theorem HAt.done {base : Nat} {w : World} {c : GenC} {R : GR} {G : GenW} {db : Nat} {v n t : Value} (h : HAt base w c R G) (m1 : db ≠ R.g) (m3 : db ≠ R.gf) (m4 : db ≠ R.gg) (m5 : db ≠ R.gst) (hl : R.lv.ownBlock ≠ some db)
    (hr : ∀ i, i < c.objects.toNat → ∀ a n m, R.svs.getD i (.slice none 0 0) = .slice (some a) n m → 0 < n → a.block ≠ db) : HAt base (((w.setCell ⟨db, 0, none⟩ v).setCell ⟨db, 1, none⟩ n).setCell ⟨db, 2, none⟩ t) c R G :=
  ((h.other db 0 v m1 m3 m4 m5 hl hr).other db 1 n m1 m3 m4 m5 hl hr).other db 2 t m1 m3 m4 m5 hl hr
theorem done_below {base db : Nat} {w : World} {v n t : Value} (hb : base ≤ db) : Below base w (((w.setCell ⟨db, 0, none⟩ v).setCell ⟨db, 1, none⟩ n).setCell ⟨db, 2, none⟩ t) :=
  (((Below.refl base w).setCell (p := ⟨db, 0, none⟩) hb v).setCell (p := ⟨db, 1, none⟩) hb n).setCell (p := ⟨db, 2, none⟩) hb t
theorem cell_done {w : World} {g i db : Nat} {A : Value} (h : w.cell? ⟨g, i, none⟩ = some A) (hne : g ≠ db) (v n t : Value) : (((w.setCell ⟨db, 0, none⟩ v).setCell ⟨db, 1, none⟩ n).setCell ⟨db, 2, none⟩ t).cell? ⟨g, i, none⟩ = some A := cell_far (cell_far (cell_far h hne) hne) hne
set_option maxRecDepth 100000 in
set_option maxHeartbeats 40000000 in
theorem rplaceB_c {cd : Code} (hcd : funcFrom Try.f45 8 = some cd) {base : Nat} {w wc : World} {c : GenC} {R : GR} {k : Nat} {a1v : Value} {n bk pp P : Nat} {RES G1 : GenW} {qi qk qm qar qse : Int} {qd : Bool} {qre qrt IV PT : Int} {NO : Nat} {qin F NW M V V8 : Int} {u7 u8 u9 u10 u11 u12 u13 u14 u15 u16 u17 u18 u19 u20 u21 u22 u23 u24 u25 u26 u27 u28 u29 u30 u31 u32 u33 u34 u35 u36 u37 u38 u39 u40 u41 u42 u43 u44 u45 u46 u47 u48 u49 u50 u51 u52 u53 u54 u55 u56 u57 u58 u59 u60 u61 u62 u63 u64 u65 u66 u67 u68 u69 u70 u71 u72 u73 u74 u75 u76 u77 u78 u79 u80 u81 u82 u83 u84 u85 u86 u87 u88 u89 u90 u91 u92 u93 u94 u95 u96 u97 u98 u99 u100 u101 u102 u103 u104 u105 u106 u107 u108 u109 u110 u111 u112 u113 u114 u115 u116 u117 u118 u119 u120 u121 u122 u123 u124 u125 u126 u127 u128 u129 u130 u131 u132 u133 u134 u135 u136 u137 u138 u139 u140 u141 u142 u143 u144 u145 u146 u147 u148 u149 u150 u151 u152 u153 u154 u155 u156 u157 u158 u159 u160 u161 u162 u163 u164 u165 u166 u167 u168 u169 u170 u171 u172 u173 u174 u175 u176 u177 u178 u179 u180 u181 u182 u183 u184 u185 : Value} (hk : k ≤ 1000) (hok1 : GOk c G1 k) (m1 : bk ≠ R.g) (m3 : bk ≠ R.gf) (m4 : bk ≠ R.gg) (m5 : bk ≠ R.gst) (hlv : R.lv.ownBlock ≠ some bk) (hbb : base ≤ bk) (hlo1 : base ≤ R.g ∧ base ≤ R.gf ∧ base ≤ R.gg) (hap : R.g ≠ R.gf ∧ R.g ≠ R.gg ∧ R.g ≠ R.gst ∧ R.gf ≠ R.gg ∧ R.gf ≠ R.gst ∧ R.gg ≠ R.gst) (hpP : pp < P) (HP : Hid (c.procs.toNat = P)) (hp0 : (0 : Int) ≤ (pp : Int)) (hp1 : (pp : Int) < (P : Int)) (hpt0 : 1 ≤ PT) (hpt1 : PT ≤ 20 * (k : Int) + 4) (hnn : n < NO) (HO : Hid (c.objects.toNat = NO)) (hlo5 : base ≤ R.gst) (hrd : ∀ i, i < c.objects.toNat → ∀ a q m, R.svs.getD i (.slice none 0 0) = .slice (some a) q m → 0 < q → a.block ≠ bk) (qa : AskOk c.procs ⟨qi, (pp : Int), (n : Int), qk, qm, qar, qse, qd, qre, qin, qrt⟩) (hr1 : Hid (RES = placeG c G1 ⟨qi, (pp : Int), (n : Int), qk, qm, qar, qse, qd, qre, qin, qrt⟩)) (HK : Hid (qk = (n : Int) % 6 + 1)) (HF : Hid (G1.free.getD pp 0 = F)) (HNW : Hid (G1.now = NW)) (HM : Hid (M = imax NW F)) (HV4 : Hid (belowV G1.x 4 = V)) (HPT : Hid (PT = M + 1 + V)) (HV8 : Hid (belowV (nxt G1.x) 8 = V8)) (HIV : Hid (IV = imax (F + 1) (PT - V8))) (g10 : HAt base wc c R { G1 with x := nxt (nxt G1.x), now := PT }) (o10 : OpBox wc bk ⟨qi, (pp : Int), (n : Int), qk, qm, qar, qse, qd, qre, IV, qrt⟩) (b10 : Below base w wc) : cd.wp Try.prog (bodyPost Try.prog Try.f45 (HStepPost base w c R.g RES)) ⟨List.toArray [.pointer (some ⟨R.g, 0, none⟩), a1v, undef, .pointer (some ⟨bk, 0, none⟩), .int .i64 PT, undef, undef, u7, u8, u9, u10, u11, u12, u13, u14, u15, u16, u17, u18, u19, u20, u21, u22, u23, u24, u25, u26, u27, u28, u29, u30, u31, u32, u33, u34, u35, u36, u37, u38, u39, u40, u41, u42, u43, u44, u45, u46, u47, u48, u49, u50, u51, u52, u53, u54, u55, u56, u57, u58, u59, u60, u61, u62, u63, u64, u65, u66, u67, u68, u69, u70, u71, u72, u73, u74, u75, u76, u77, u78, u79, u80, u81, u82, u83, u84, u85, u86, u87, u88, u89, u90, u91, u92, u93, u94, u95, u96, u97, u98, u99, u100, u101, u102, u103, u104, u105, u106, u107, u108, u109, u110, u111, u112, u113, u114, u115, u116, u117, u118, u119, u120, u121, u122, u123, u124, u125, u126, u127, u128, u129, u130, u131, u132, u133, u134, u135, u136, u137, u138, u139, u140, u141, u142, u143, u144, u145, u146, u147, u148, u149, u150, u151, u152, u153, u154, u155, u156, u157, u158, u159, u160, u161, u162, u163, u164, u165, u166, u167, u168, u169, u170, u171, u172, u173, u174, u175, u176, u177, u178, u179, u180, u181, u182, u183, u184, u185], []⟩ wc := by
  refine code_of hcd rfl ?_
  clear hcd
  dsimp only
  have hnO : n < c.objects.toNat := by rw [HO.out]; exact hnn
  obtain ⟨rp, rm, re, crow, -⟩ := g10.row n hnO
  have hrow := g10.rows n hnO
  rw [re] at hrow
  dsimp only at hrow crow re
  have hst := hok1.st n hnO
  generalize hXS : G1.states.getD n [] = XS at *
  have HXS := hid hXS
  have hlen : XS.length + 1 ≤ 17592186044416 := by have := hst.len (by omega) (by omega); omega
  obtain ⟨O1, hO1⟩ : ∃ z : OpR, z = ⟨qi, (pp : Int), (n : Int), qk, qm, qar, qse, qd, qre, IV, qrt⟩ := ⟨_, rfl⟩
  have HDo := hid (fun w' (hv : Ints w' (.slice rp XS.length rm) XS) => RDo_c XS O1 (.slice rp XS.length rm) w' hv hlen)
  rw [hO1] at HDo
  generalize hD : doL XS ⟨qi, (pp : Int), (n : Int), qk, qm, qar, qse, qd, qre, IV, qrt⟩ = D at *
  obtain ⟨XS', NA, OKB⟩ := D
  have HDD := hid hD
  have c9 := g10.wc.2.2.2.2.2.2.2.2.2.1
  rw [HO.out] at c9
  have q0 := o10.at
  unfold OpAt at q0
  dsimp only at q0
  simp only [Nat.zero_add] at q0
  obtain ⟨a0, a1, a2, a3, a4, a5, a6, a7, a8, a9, a10⟩ := q0
  obtain ⟨HS, hHS⟩ : ∃ z, z = wc.heap.size := ⟨_, rfl⟩
  have kg : R.g < HS := by rw [hHS]; exact heap_lt g10.cells
  have kt : R.gst < HS := by rw [hHS]; exact (g10.st.lt R.gst rfl).2
  have kb : bk < HS := by rw [hHS]; exact o10.lt
  have hH := hid (And.intro kg (And.intro (show R.gf < HS by rw [hHS]; exact heap_lt g10.free) (And.intro (show R.gg < HS by rw [hHS]; exact heap_lt g10.gone) (And.intro kt (And.intro kb (show ∀ q, R.lv.ownBlock = some q → q < HS from fun q hq => by rw [hHS]; exact (g10.own.lt q hq).2))))))
  have HHS := hid hHS
  have kg' : R.g < wc.heap.size := by rw [← hHS]; exact kg
  have kt' : R.gst < wc.heap.size := by rw [← hHS]; exact kt
  have kb' : bk < wc.heap.size := by rw [← hHS]; exact kb
  clear hHS
  have HG7 := hid g10
  have HOB7 := hid o10
  have HB7 := hid b10
  have HRE := hid re
  have HROW := hid hrow
  have hrlt : 0 < XS.length → ∀ a, rp = some a → a.block < HS := fun h0 a e => by
    rw [HHS.out]
    exact (g10.rowd n hnO a _ _ (by rw [re, e]) h0).1
  generalize hLN : XS.length = LN at *
  have HRL := hid hrlt
  have hn0 : (0 : Int) ≤ (n : Int) := by omega
  have hn1 : (n : Int) < (NO : Int) := by omega
  clear g10 o10 b10 hD hXS hst hO1 O1 re hlen hrow hLN hrlt
  go_upto_region 8 with fail
  go_cut [4, 5] from 6 (fun s4 s5 wr => s4 = .int .i64 PT ∧ ∃ db p8 cap8, s5 = .pointer (some ⟨db, 0, none⟩) ∧ wr.heap[db]? = some (.cells #[.slice p8 XS'.length cap8, .int .i64 NA, .bool OKB] 96 (0, 0)) ∧ HS ≤ db ∧ Ints wr (.slice p8 XS'.length cap8) XS' ∧ Kin (.slice rp LN rm) HS (.slice p8 XS'.length cap8) ∧ HAt base wr c R { G1 with x := nxt (nxt G1.x), now := PT } ∧ OpBox wr bk ⟨qi, (pp : Int), (n : Int), qk, qm, qar, qse, qd, qre, IV, qrt⟩ ∧ Below base w wr)
  case first =>
    --F
    go_region_held3 (fun w' => w'.cell? ⟨R.g, 9, none⟩ = some (.slice (some ⟨R.gst, 0, none⟩) NO R.cst) ∧ w'.cell? ⟨R.gst, n, none⟩ = some (.slice rp LN rm) ∧ w'.cell? ⟨bk, 0, none⟩ = some (.int .i64 qi) ∧ w'.cell? ⟨bk, 1, none⟩ = some (.int .i64 (pp : Int)) ∧ w'.cell? ⟨bk, 2, none⟩ = some (.int .i64 (n : Int)) ∧ w'.cell? ⟨bk, 3, none⟩ = some (.int .i64 qk) ∧ w'.cell? ⟨bk, 4, none⟩ = some (.int .i64 qm) ∧ w'.cell? ⟨bk, 5, none⟩ = some (.int .i64 qar) ∧ w'.cell? ⟨bk, 6, none⟩ = some (.int .i64 qse) ∧ w'.cell? ⟨bk, 7, none⟩ = some (.bool qd) ∧ w'.cell? ⟨bk, 8, none⟩ = some (.int .i64 qre) ∧ w'.cell? ⟨bk, 9, none⟩ = some (.int .i64 IV) ∧ w'.cell? ⟨bk, 10, none⟩ = some (.int .i64 qrt))
      (first | (with_reducible exact ⟨cell_drew c9, cell_drew crow, cell_drew a0, cell_drew a1, cell_drew a2, cell_drew a3, cell_drew a4, cell_drew a5, cell_drew a6, cell_drew a7, cell_drew a8, cell_drew a9, cell_drew a10⟩) | (with_reducible exact ⟨c9, crow, a0, a1, a2, a3, a4, a5, a6, a7, a8, a9, a10⟩) | (with_reducible exact ⟨(Grow.alloc _ _).cell c9, (Grow.alloc _ _).cell crow, (Grow.alloc _ _).cell a0, (Grow.alloc _ _).cell a1, (Grow.alloc _ _).cell a2, (Grow.alloc _ _).cell a3, (Grow.alloc _ _).cell a4, (Grow.alloc _ _).cell a5, (Grow.alloc _ _).cell a6, (Grow.alloc _ _).cell a7, (Grow.alloc _ _).cell a8, (Grow.alloc _ _).cell a9, (Grow.alloc _ _).cell a10⟩) | (with_reducible exact ⟨(Grow.trans (Grow.alloc _ _) (Grow.drew _)).cell c9, (Grow.trans (Grow.alloc _ _) (Grow.drew _)).cell crow, (Grow.trans (Grow.alloc _ _) (Grow.drew _)).cell a0, (Grow.trans (Grow.alloc _ _) (Grow.drew _)).cell a1, (Grow.trans (Grow.alloc _ _) (Grow.drew _)).cell a2, (Grow.trans (Grow.alloc _ _) (Grow.drew _)).cell a3, (Grow.trans (Grow.alloc _ _) (Grow.drew _)).cell a4, (Grow.trans (Grow.alloc _ _) (Grow.drew _)).cell a5, (Grow.trans (Grow.alloc _ _) (Grow.drew _)).cell a6, (Grow.trans (Grow.alloc _ _) (Grow.drew _)).cell a7, (Grow.trans (Grow.alloc _ _) (Grow.drew _)).cell a8, (Grow.trans (Grow.alloc _ _) (Grow.drew _)).cell a9, (Grow.trans (Grow.alloc _ _) (Grow.drew _)).cell a10⟩) | (with_reducible exact ⟨(Grow.alloc _ _).cell (cell_drew c9), (Grow.alloc _ _).cell (cell_drew crow), (Grow.alloc _ _).cell (cell_drew a0), (Grow.alloc _ _).cell (cell_drew a1), (Grow.alloc _ _).cell (cell_drew a2), (Grow.alloc _ _).cell (cell_drew a3), (Grow.alloc _ _).cell (cell_drew a4), (Grow.alloc _ _).cell (cell_drew a5), (Grow.alloc _ _).cell (cell_drew a6), (Grow.alloc _ _).cell (cell_drew a7), (Grow.alloc _ _).cell (cell_drew a8), (Grow.alloc _ _).cell (cell_drew a9), (Grow.alloc _ _).cell (cell_drew a10)⟩) | (with_reducible exact ⟨g8.cell c9, g8.cell crow, g8.cell a0, g8.cell a1, g8.cell a2, g8.cell a3, g8.cell a4, g8.cell a5, g8.cell a6, g8.cell a7, g8.cell a8, g8.cell a9, g8.cell a10⟩) | (with_reducible exact ⟨(Grow.trans g8 (Grow.alloc _ _)).cell c9, (Grow.trans g8 (Grow.alloc _ _)).cell crow, (Grow.trans g8 (Grow.alloc _ _)).cell a0, (Grow.trans g8 (Grow.alloc _ _)).cell a1, (Grow.trans g8 (Grow.alloc _ _)).cell a2, (Grow.trans g8 (Grow.alloc _ _)).cell a3, (Grow.trans g8 (Grow.alloc _ _)).cell a4, (Grow.trans g8 (Grow.alloc _ _)).cell a5, (Grow.trans g8 (Grow.alloc _ _)).cell a6, (Grow.trans g8 (Grow.alloc _ _)).cell a7, (Grow.trans g8 (Grow.alloc _ _)).cell a8, (Grow.trans g8 (Grow.alloc _ _)).cell a9, (Grow.trans g8 (Grow.alloc _ _)).cell a10⟩) | (with_reducible exact ⟨cell_done (g8.cell c9) (by omega) _ _ _, cell_done (g8.cell crow) (by omega) _ _ _, cell_done (g8.cell a0) (by omega) _ _ _, cell_done (g8.cell a1) (by omega) _ _ _, cell_done (g8.cell a2) (by omega) _ _ _, cell_done (g8.cell a3) (by omega) _ _ _, cell_done (g8.cell a4) (by omega) _ _ _, cell_done (g8.cell a5) (by omega) _ _ _, cell_done (g8.cell a6) (by omega) _ _ _, cell_done (g8.cell a7) (by omega) _ _ _, cell_done (g8.cell a8) (by omega) _ _ _, cell_done (g8.cell a9) (by omega) _ _ _, cell_done (g8.cell a10) (by omega) _ _ _⟩))
      ((go_at_call 56
        first
          | (refine (HDo.out wc.drew (HROW.out.grow (Grow.drew _))).mono ?_
             rintro e w8 ⟨v8, rfl, i8, b8, k8⟩
             obtain ⟨p8, cap8, rfl, -⟩ := i8.at
             have g8 : Grow wc w8 := Grow.trans (Grow.drew wc) b8
             have z8 : wc.heap.size ≤ w8.heap.size := g8.size
             have HK8 : Hid (Kin (.slice rp LN rm) HS (.slice p8 XS'.length cap8)) := hid (by rw [HHS.out]; exact k8)
             have HI8 := hid i8
             have HG8 := hid (HG7.out.grow g8)
             have HOB8 := hid (HOB7.out.grow g8)
             have HB8 := hid (HB7.out.trans (g8.mono HG7.out.base_le))
             clear i8 b8 k8)
          | (refine (HDo.out (wc.alloc (.cells #[.slice none 0 0, .int .i64 0, .bool false] 96)).drew (HROW.out.grow (Grow.trans (Grow.alloc _ _) (Grow.drew _)))).mono ?_
             rintro e w8 ⟨v8, rfl, i8, b8, k8⟩
             obtain ⟨p8, cap8, rfl, -⟩ := i8.at
             have g8 : Grow wc w8 := Grow.trans (Grow.trans (Grow.alloc wc _) (Grow.drew _)) b8
             have z8 : wc.heap.size ≤ w8.heap.size := g8.size
             have HZ8 : Hid (w8.heap[wc.heap.size]? = some (.cells #[.slice none 0 0, .int .i64 0, .bool false] 96 (0, 0))) := hid (b8.heap (heap_new wc _))
             have e0 : w8.cell? ⟨wc.heap.size, 0, none⟩ = some (.slice none 0 0) := heap_cell HZ8.out 0
             have e1 : w8.cell? ⟨wc.heap.size, 1, none⟩ = some (.int .i64 0) := heap_cell HZ8.out 1
             have e2 : w8.cell? ⟨wc.heap.size, 2, none⟩ = some (.bool false) := heap_cell HZ8.out 2
             have f0 : w8.frozen? ⟨wc.heap.size, 0, none⟩ = false := heap_frozen HZ8.out 0 (by omega)
             have f1 : w8.frozen? ⟨wc.heap.size, 1, none⟩ = false := heap_frozen HZ8.out 1 (by omega)
             have f2 : w8.frozen? ⟨wc.heap.size, 2, none⟩ = false := heap_frozen HZ8.out 2 (by omega)
             have HK8 : Hid (Kin (.slice rp LN rm) (HS + 1) (.slice p8 XS'.length cap8)) := hid (by rw [HHS.out]; simpa using k8)
             have HI8 := hid i8
             have HG8 := hid (HG7.out.grow g8)
             have HOB8 := hid (HOB7.out.grow g8)
             have HB8 := hid (HB7.out.trans (g8.mono HG7.out.base_le))
             clear i8 b8 k8)))
    all_goals (go_wp2_with fail; go_meet)
    case rel =>
      have hdb : HS ≤ w8.heap.size := by rw [HHS.out]; exact z8
      exact ⟨rfl, w8.heap.size, p8, cap8, rfl, heap_new _ _, hdb, HI8.out.grow (Grow.alloc _ _), HK8.out, HG8.out.grow (Grow.alloc _ _), HOB8.out.grow (Grow.alloc _ _), HB8.out.trans ((Grow.alloc _ _).mono HG8.out.base_le)⟩
    case rel =>
      have hdb : wc.heap.size = HS := HHS.out.symm
      obtain ⟨y1, y3, y4, y5, y6, y7⟩ := hH.out
      have hl : R.lv.ownBlock ≠ some wc.heap.size := fun e => by have := y7 _ e; omega
      have hr : ∀ i, i < c.objects.toNat → ∀ a n m, R.svs.getD i (.slice none 0 0) = .slice (some a) n m → 0 < n → a.block ≠ wc.heap.size := fun i hi a n m e e0 => by have := (HG7.out.rowd i hi a n m e e0).1; omega
      have hq : ∀ a n m, Value.slice p8 XS'.length cap8 = .slice (some a) n m → 0 < n → a.block ≠ wc.heap.size := Kin.apart HI8.out HK8.out (by omega) (fun a n m e e0 => by cases e; have := HRL.out e0 a rfl; omega)
      exact ⟨rfl, wc.heap.size, p8, cap8, rfl, done3 HZ8.out _ _ _, by omega, ints_done HI8.out hq, HK8.out.mono (Nat.le_succ _), HG8.out.done (by omega) (by omega) (by omega) (by omega) hl hr, box_done HOB8.out (by omega), HB8.out.trans (done_below HG7.out.base_le)⟩
    --/F
  case rest =>
    clear c9 crow a0 a1 a2 a3 a4 a5 a6 a7 a8 a9 a10 HROW HDo HG7 HOB7 HB7 kg' kt' kb' hn0 hn1
    obtain ⟨e4, db, p8, cap8, e5, hdb, hdl, i8, k8, g8, ob8, hb8⟩ := hcut
    subst e4 e5
    have HR := hid (hr1.out.trans (placeG_eq c G1 qi qk qm qar qse qd qre qin qrt pp n F PT IV NA XS' OKB HF.out (by rw [HNW.out, ← HM.out, HV4.out, HPT.out]) (by rw [HV8.out, HIV.out]) (by rw [HXS.out]; exact HDD.out)))
    clear hr1
    have d2 : wc.cell? ⟨db, 2, none⟩ = some (.bool OKB) := heap_cell hdb 2
    cases OKB
    · have HG8 := hid g8
      have HB8 := hid hb8
      clear g8 hb8 ob8 i8 k8 hdb hdl
      go_wp2_with fail
      first | go_end0 | ((try simp only [Exit.inBlock, Exit.then]); refine bodyPost_ret (results_none rfl _ _ _) rfl ?_)
      exact .intro R rfl rfl (by rw [HR.out]; exact HG8.out) HB8.out
    have hna : -((k : Int) + 1) ≤ NA ∧ NA ≤ (k : Int) + 4 := by
      have := doL_ok (xs := XS) (procs := c.procs) (o := ⟨qi, (pp : Int), (n : Int), qk, qm, qar, qse, qd, qre, IV, qrt⟩) hk (by dsimp only; rw [HK.out, ← HXS.out]; exact hok1.st n hnO) ⟨qa.arg, qa.sec, qa.proc⟩ (by rw [HDD.out])
      rw [HDD.out] at this
      exact this.2
    rw [if_neg (by decide)] at HR
    obtain ⟨y1, y3, y4, y5, y6, y7⟩ := hH.out
    have n1 : db ≠ R.g := by omega
    have n3 : db ≠ R.gf := by omega
    have n4 : db ≠ R.gg := by omega
    have n5 : db ≠ R.gst := by omega
    have n6 : db ≠ bk := by omega
    have n7 : R.lv.ownBlock ≠ some db := fun e => by have := y7 _ e; omega
    have h9 := Kin.place (R := R) (bk := bk) i8 k8 hH.out (fun a h0 e => by
      have := g8.rowd n hnO a _ _ (by rw [HRE.out, e]) h0
      exact ⟨this.2, hrd n hnO a _ _ (by rw [HRE.out, e]) h0⟩)
    have hrd9 := svs_set (v := .slice p8 XS'.length cap8) (n := n) c.objects.toNat hrd (fun a k m e e0 => (h9 a k m e e0).2.2)
    have g9 := hid (g8.setState n hnO (.slice p8 XS'.length cap8) XS' i8 (fun a k m e e0 => ⟨(h9 a k m e e0).1, (h9 a k m e e0).2.1⟩))
    have b9 := hid (hb8.setCell (p := ⟨R.gst, n, none⟩) hlo5 (.slice p8 XS'.length cap8))
    have o9 := hid (ob8.only (only_set wc R.gst n (.slice p8 XS'.length cap8)) m5)
    have d9 := hid (((only_set wc R.gst n (.slice p8 XS'.length cap8)).block db n5).trans hdb)
    have fst := g8.st.frozenAt n
    obtain ⟨rp2, rm2, re2, crow, -⟩ := g8.row n hnO
    have c9 := g8.wc.2.2.2.2.2.2.2.2.2.1
    rw [HO.out] at c9
    have a2 := (box_all ob8).2.2.1
    have d0 : wc.cell? ⟨db, 0, none⟩ = some (.slice p8 XS'.length cap8) := heap_cell hdb 0
    have hn0 : (0 : Int) ≤ (n : Int) := by omega
    have hn1 : (n : Int) < (NO : Int) := by omega
    clear h9 g8 hb8 ob8 re2 i8 k8 hdb hdl hH HRE HHS HDD y1 y3 y4 y5 y6 y7 HRL hnO hnn kg kt kb
    generalize XS'.length = LN8 at *
    go_upto_region 10 with fail
    clear d2
    go_cut [] from 6 (fun wr => wr.heap[db]? = some (.cells #[.slice p8 LN8 cap8, .int .i64 NA, .bool true] 96 (0, 0)) ∧ HAt base wr c { R with svs := R.svs.set n (.slice p8 LN8 cap8) } { G1 with x := nxt (nxt G1.x), now := PT, states := G1.states.set n XS' } ∧ OpBox wr bk ⟨qi, (pp : Int), (n : Int), qk, qm, qar, qse, qd, qre, IV, qrt⟩ ∧ Below base w wr)
    case first =>
      --F
      go_region_held3 (fun w' => w'.cell? ⟨R.g, 9, none⟩ = some (.slice (some ⟨R.gst, 0, none⟩) NO R.cst) ∧ w'.cell? ⟨bk, 2, none⟩ = some (.int .i64 (n : Int)) ∧ w'.cell? ⟨db, 0, none⟩ = some (.slice p8 LN8 cap8))
        (first | (with_reducible exact ⟨cell_drew c9, cell_drew a2, cell_drew d0⟩) | (with_reducible exact ⟨c9, a2, d0⟩) | (with_reducible exact ⟨cell_drew (cell_far c9 hap.2.2.1), cell_drew (cell_far a2 m5), cell_drew (cell_far d0 n5)⟩) | (with_reducible exact ⟨cell_far c9 hap.2.2.1, cell_far a2 m5, cell_far d0 n5⟩))
        (fail)
      all_goals (go_wp2_with fail; go_meet)
      all_goals first | exact ⟨d9.out, g9.out, o9.out, b9.out⟩ | exact ⟨d9.out, g9.out.grow (Grow.drew _), o9.out.grow (Grow.drew _), b9.out.drew⟩
      --/F
    clear g9 b9 o9 d9 fst crow c9 a2 d0 hn0 hn1
    obtain ⟨d9, g9, o9, b9⟩ := hcut
    -- region 11: a chance
    have g10 := hid g9
    have o10 := hid o9
    have b10 := hid b9
    have d10 := hid d9
    have cp := g10.out.wc.2.2.2.2.2.1
    have HCH := hid (fun w' (s : HAt base w' c { R with svs := R.svs.set n (.slice p8 LN8 cap8) } { G1 with x := nxt (nxt G1.x), now := PT, states := G1.states.set n XS' }) => hbelow_c s 100 (by omega) (by omega))
    dsimp only at HCH
    clear g9 o9 b9 d9
    go_upto_region 11 with fail
    go_cut [101] from 6 (fun s wr => s = .bool (decide (belowV (nxt (nxt G1.x)) 100 < c.pending)) ∧ wr.heap[db]? = some (.cells #[.slice p8 LN8 cap8, .int .i64 NA, .bool true] 96 (0, 0)) ∧ HAt base wr c { R with svs := R.svs.set n (.slice p8 LN8 cap8) } { G1 with x := nxt (nxt (nxt G1.x)), now := PT, states := G1.states.set n XS' } ∧ OpBox wr bk ⟨qi, (pp : Int), (n : Int), qk, qm, qar, qse, qd, qre, IV, qrt⟩ ∧ Below base w wr)
    case first =>
      --F
      go_region_held3 (fun w' => w'.cell? ⟨R.g, 5, none⟩ = some (.int .i64 c.pending))
        (first | (with_reducible exact cell_drew cp) | (with_reducible exact cp) | (with_reducible exact cp'))
        ((go_at_call 43
          refine (HCH.out wc.drew (g10.out.grow (Grow.drew _))).mono ?_
          rintro e wn ⟨rfl, xn⟩
          have xs := xn.after (Grow.drew wc)
          have gn := hid (g10.out.xset xs (nxt_u _))
          have on := hid (xs.box o10.out m1)
          have bn := hid (b10.out.trans (xs.below hlo1.1 g10.out.base_le))
          have dn := hid ((xs.block (heap_lt d10.out) n1).trans d10.out)
          have cp' := xs.off cp (by decide)
          clear xn xs))
      all_goals (go_wp2_with fail; go_meet)
      all_goals exact ⟨rfl, dn.out, gn.out, on.out, bn.out⟩
      --/F
    clear g10 o10 b10 d10 cp HCH
    obtain ⟨es, d11, g11, o11, b11⟩ := hcut
    by_cases hpe : belowV (nxt (nxt G1.x)) 100 < c.pending
    · rw [if_pos hpe] at HR
      rw [decide_eq_true hpe] at es
      subst es
      go_step
      exact rplaceC_c (NA := NA) rfl hk hok1 m1 m3 m4 m5 hlv hbb hlo1 hap hpP HP hp0 hp1 hpt0 hpt1 hrd9 HR g11 o11 b11
    · rw [if_neg hpe] at HR
      rw [decide_eq_false hpe] at es
      subst es
      go_step
      go_step
      go_step
      go_step
      go_step
      exact rplaceD_c rfl hk hok1 m1 m3 m4 m5 hlv hbb hlo1 hap hpP HP hp0 hp1 hpt0 hpt1 hrd9 hna HR n1 n3 n6 d11 g11 o11 b11
end Go.Proofs.Ytlhgdbangnohjaa
namespace Go.Proofs.Ytlhgdbangnohjaa
open Go.RowKit
set_option linter.unusedVariables false
set_option linter.unusedSimpArgs false
attribute [local go_sem ↓ high] run_imax
set_option maxRecDepth 100000 in
set_option maxHeartbeats 40000000 in
theorem place_c {base : Nat} {w : World} {c : GenC} {R : GR} {G1 : GenW} {k : Nat} (h : HAt base w c R G1) (hk : k ≤ 1000) (hok1 : GOk c G1 k) (qi qk qm qar qse : Int) (qd : Bool) (qre qin qrt : Int) (pp n : Nat) (hpP : pp < c.procs.toNat) (hnn : n < c.objects.toNat)
    (qa : AskOk c.procs ⟨qi, (pp : Int), (n : Int), qk, qm, qar, qse, qd, qre, qin, qrt⟩) (hkd : qk = (n : Int) % 6 + 1) :
    Calls Try.prog 45 #[.pointer (some ⟨R.g, 0, none⟩), .agg #[.int .i64 qi, .int .i64 (pp : Int), .int .i64 (n : Int), .int .i64 qk, .int .i64 qm, .int .i64 qar, .int .i64 qse, .bool qd, .int .i64 qre, .int .i64 qin, .int .i64 qrt]] w (HStepPost base w c R.g (placeG c G1 ⟨qi, (pp : Int), (n : Int), qk, qm, qar, qse, qd, qre, qin, qrt⟩)) := by
  obtain ⟨RES, hRES⟩ : ∃ X, X = placeG c G1 ⟨qi, (pp : Int), (n : Int), qk, qm, qar, qse, qd, qre, qin, qrt⟩ := ⟨_, rfl⟩
  rw [← hRES]
  have hr1 := hid hRES
  have HK := hid hkd
  clear hRES hkd
  have hk1 : R.g < w.heap.size := heap_lt h.cells
  have hk3 : R.gf < w.heap.size := heap_lt h.free
  have hk4 : R.gg < w.heap.size := heap_lt h.gone
  have hlst : base ≤ R.gst ∧ R.gst < w.heap.size := h.st.lt R.gst rfl
  obtain ⟨bk, hbk⟩ : ∃ b, b = w.heap.size := ⟨_, rfl⟩
  have hlv : R.lv.ownBlock ≠ some bk := fun e => by have := (h.own.lt bk e).2; omega
  have hrd : ∀ i, i < c.objects.toNat → ∀ a n m, R.svs.getD i (.slice none 0 0) = .slice (some a) n m → 0 < n → a.block ≠ bk := fun i hi a n m e e0 => by have := (h.rowd i hi a n m e e0).1; omega
  have m1 : bk ≠ R.g := by omega
  have m3 : bk ≠ R.gf := by omega
  have m4 : bk ≠ R.gg := by omega
  have m5 : bk ≠ R.gst := by omega
  have hlo1 := h.lo
  have hbb : base ≤ bk := by omega
  have hlo5 := hlst.1
  have hap := h.apart
  have HH := hid h
  clear hk1 hk3 hk4 hlst
  have hF := hok1.free pp
  have hNo := hok1.now
  generalize hFv : G1.free.getD pp 0 = F at hF
  have HF := hid hFv
  generalize hNow : G1.now = NW at hNo
  have HNW := hid hNow
  generalize hPv : c.procs.toNat = P at hpP
  have HP := hid hPv
  generalize hOv : c.objects.toNat = NO at hnn
  have HO := hid hOv
  clear hFv hNow hPv hOv
  have hp0 : (0 : Int) ≤ (pp : Int) := by omega
  have hp1 : (pp : Int) < (P : Int) := by omega
  clear h
  go_enter Try.func45, Try.ntmps45
  go_upto_region 1 with fail
  have HB1 : Hid (Below base w (w.alloc (.cells #[.int .i64 qi, .int .i64 (pp : Int), .int .i64 (n : Int), .int .i64 qk, .int .i64 qm, .int .i64 qar, .int .i64 qse, .bool qd, .int .i64 qre, .int .i64 qin, .int .i64 qrt] 52))) := hid ((Grow.alloc w _).mono HH.out.base_le)
  have HG1 := hid (HH.out.grow (Grow.alloc w (.cells #[.int .i64 qi, .int .i64 (pp : Int), .int .i64 (n : Int), .int .i64 qk, .int .i64 qm, .int .i64 qar, .int .i64 qse, .bool qd, .int .i64 qre, .int .i64 qin, .int .i64 qrt] 52)))
  have HOB1 : Hid (OpBox (w.alloc (.cells #[.int .i64 qi, .int .i64 (pp : Int), .int .i64 (n : Int), .int .i64 qk, .int .i64 qm, .int .i64 qar, .int .i64 qse, .bool qd, .int .i64 qre, .int .i64 qin, .int .i64 qrt] 52)) bk ⟨qi, (pp : Int), (n : Int), qk, qm, qar, qse, qd, qre, qin, qrt⟩) := hid (by rw [hbk]; exact heap_new _ _)
  rw [← hbk]
  generalize w.alloc (.cells #[.int .i64 qi, .int .i64 (pp : Int), .int .i64 (n : Int), .int .i64 qk, .int .i64 qm, .int .i64 qar, .int .i64 qse, .bool qd, .int .i64 qre, .int .i64 qin, .int .i64 qrt] 52) = W1 at *
  clear HH hbk
  -- the time that is not behind the process
  have c7 := HG1.out.wc.2.2.2.2.2.2.2.1
  have c10 := HG1.out.wc.2.2.2.2.2.2.2.2.2.2.1
  rw [HP.out] at c7
  rw [HNW.out] at c10
  have cf := HG1.out.freeAt pp (by rw [HP.out]; exact hpP)
  rw [HF.out] at cf
  have a1 := (box_all HOB1.out).2.1
  go_cut [19] from 7 (fun s wr => s = .bool (decide (NW < F)) ∧ HAt base wr c R G1 ∧ OpBox wr bk ⟨qi, (pp : Int), (n : Int), qk, qm, qar, qse, qd, qre, qin, qrt⟩ ∧ Below base w wr)
  case first =>
    go_region_held3 (fun w' => w'.cell? ⟨R.g, 7, none⟩ = some (.slice (some ⟨R.gf, 0, none⟩) P P) ∧ w'.cell? ⟨R.gf, pp, none⟩ = some (.int .i64 F) ∧ w'.cell? ⟨bk, 1, none⟩ = some (.int .i64 (pp : Int)) ∧ w'.cell? ⟨R.g, 10, none⟩ = some (.int .i64 NW))
      (first | (with_reducible exact ⟨cell_drew c7, cell_drew cf, cell_drew a1, cell_drew c10⟩) | (with_reducible exact ⟨c7, cf, a1, c10⟩))
      (fail)
    all_goals (go_wp2_with fail; go_meet)
    all_goals first | exact ⟨rfl, HG1.out, HOB1.out, HB1.out⟩ | exact ⟨rfl, HG1.out.grow (Grow.drew _), HOB1.out.grow (Grow.drew _), HB1.out.drew⟩
  obtain ⟨es, g2, o2, b2⟩ := hcut
  clear c7 c10 cf a1 HG1 HOB1 HB1
  have HG2 := hid g2
  have HO2 := hid o2
  have HB2 := hid b2
  clear g2 o2 b2
  go_upto_if 19 with fail
  go_cut [] from 7 (fun wr => HAt base wr c R { G1 with now := imax NW F } ∧ OpBox wr bk ⟨qi, (pp : Int), (n : Int), qk, qm, qar, qse, qd, qre, qin, qrt⟩ ∧ Below base w wr)
  case first =>
    by_cases hlt : NW < F
    · rw [decide_eq_true hlt] at es
      subst es
      have him : imax NW F = F := by unfold imax; split <;> omega
      have HIM := hid him
      clear him hlt
      have c7 := HG2.out.wc.2.2.2.2.2.2.2.1
      have fr := HG2.out.fx 10 (by omega)
      have c10 := HG2.out.wc.2.2.2.2.2.2.2.2.2.2.1
      rw [HP.out] at c7
      have cf := HG2.out.freeAt pp (by rw [HP.out]; exact hpP)
      rw [HF.out] at cf
      have a1 := (box_all HO2.out).2.1
      have g3 := hid (HG2.out.time F)
      have o3 := hid (HO2.out.only (only_set wc R.g 10 (.int .i64 F)) m1)
      have b3 := hid (HB2.out.setCell (p := ⟨R.g, 10, none⟩) hlo1.1 (.int .i64 F))
      go_upto_region 2 with fail
      go_region_held3 (fun w' => w'.cell? ⟨R.g, 7, none⟩ = some (.slice (some ⟨R.gf, 0, none⟩) P P) ∧ w'.cell? ⟨R.gf, pp, none⟩ = some (.int .i64 F) ∧ w'.cell? ⟨bk, 1, none⟩ = some (.int .i64 (pp : Int)))
        (first | (with_reducible exact ⟨cell_drew c7, cell_drew cf, cell_drew a1⟩) | (with_reducible exact ⟨c7, cf, a1⟩) | (with_reducible exact ⟨cell_drew (cell_off c7 (by decide)), cell_drew (cell_far cf (Ne.symm hap.1)), cell_drew (cell_far a1 m1)⟩) | (with_reducible exact ⟨cell_off c7 (by decide), cell_far cf (Ne.symm hap.1), cell_far a1 m1⟩))
        (fail)
      all_goals (go_wp2_with fail; go_meet)
      all_goals rw [HIM.out]
      all_goals first | exact ⟨g3.out, o3.out, b3.out⟩ | exact ⟨g3.out.grow (Grow.drew _), o3.out.grow (Grow.drew _), b3.out.drew⟩
    · rw [decide_eq_false hlt] at es
      subst es
      have him : imax NW F = NW := by unfold imax; split <;> omega
      have HIM := hid him
      clear him hlt
      go_wp2_with fail
      go_meet
      rw [HIM.out]
      have g3 := HG2.out
      rw [← HNW.out]
      exact ⟨g3, HO2.out, HB2.out⟩
  clear HG2 HO2 HB2 es
  obtain ⟨g3, o3, b3⟩ := hcut
  -- the point
  obtain ⟨M, hM⟩ : ∃ M, M = imax NW F := ⟨_, rfl⟩
  have hM0 : 0 ≤ M := by rw [hM]; exact le_imax hNo.1
  have hM1 : M ≤ 20 * (k : Int) := by rw [hM]; exact imax_le hNo.2 hF.2
  rw [← hM] at g3
  have HM := hid hM
  clear hM
  have HG3 := hid g3
  have HO3 := hid o3
  have HB3 := hid b3
  clear g3 o3 b3
  have HBel := hid (fun w' (g : HAt base w' c R { G1 with now := M }) => hbelow_c g 4 (by omega) (by omega))
  dsimp only at HBel
  have v40 := belowV_lo (x := G1.x) (n := 4) (by decide)
  have v44 := belowV_hi (x := G1.x) (n := 4) (by decide)
  generalize hV : belowV G1.x 4 = V at *
  have HV4 := hid hV
  obtain ⟨PT, hPT⟩ : ∃ z, z = M + 1 + V := ⟨_, rfl⟩
  have hw1 : IntKind.i64.wrap (M + 1) = M + 1 := by rw [IntKind.wrap_i64]; omega
  have hw2 : IntKind.i64.wrap (M + 1 + V) = PT := by rw [IntKind.wrap_i64]; omega
  have HPT := hid hPT
  have hpt0 : 1 ≤ PT := by omega
  have hpt1 : PT ≤ 20 * (k : Int) + 4 := by omega
  clear hV hPT
  have c10 := HG3.out.wc.2.2.2.2.2.2.2.2.2.2.1
  dsimp only at c10
  have c10d := cell_drew c10
  go_upto_region 3 with fail
  go_cut [] from 7 (fun wr => HAt base wr c R { G1 with x := nxt G1.x, now := PT } ∧ OpBox wr bk ⟨qi, (pp : Int), (n : Int), qk, qm, qar, qse, qd, qre, qin, qrt⟩ ∧ Below base w wr)
  case first =>
    go_region_law
      ((go_simp; go_at_call 43
        refine (HBel.out wc.drew (HG3.out.grow (Grow.drew _))).mono ?_
        rintro e w5 ⟨rfl, x5⟩
        have x5' : XSet R.g (nxt G1.x) wc w5 := x5.after (Grow.drew _)
        have g5 := HG3.out.xset x5' (nxt_u _)
        have HG5 := hid g5
        have HO5 := hid (x5'.box HO3.out m1)
        have HB5 := hid (HB3.out.trans (x5'.below hlo1.1 HG3.out.base_le))
        have c10' := x5'.off c10 (by decide)
        have f10' := g5.fx 10 (by omega)
        clear g5 x5 x5'))
    all_goals (go_wp2_with fail; go_meet)
    all_goals exact ⟨HG5.out.time PT, HO5.out.only (only_set _ R.g 10 (.int .i64 PT)) m1, HB5.out.setCell (p := ⟨R.g, 10, none⟩) hlo1.1 _⟩
  clear HG3 HO3 HB3 HBel c10 c10d hw1 hw2 v40 v44
  obtain ⟨g6, o6, b6⟩ := hcut
  have HG6 := hid g6
  have HO6 := hid o6
  have HB6 := hid b6
  have c10 := g6.wc.2.2.2.2.2.2.2.2.2.2.1
  dsimp only at c10
  clear g6 o6 b6
  have HBel := hid (hbelow_c HG6.out 8 (by omega) (by omega))
  dsimp only at HBel
  have v80 := belowV_lo (x := nxt G1.x) (n := 8) (by decide)
  have v88 := belowV_hi (x := nxt G1.x) (n := 8) (by decide)
  generalize hV : belowV (nxt G1.x) 8 = V8 at *
  have HV8 := hid hV
  obtain ⟨IV0, hIV0⟩ : ∃ z, z = PT - V8 := ⟨_, rfl⟩
  have hw2 : IntKind.i64.wrap (PT - V8) = IV0 := by rw [IntKind.wrap_i64]; omega
  have hw1 : IntKind.i64.wrap (F + 1) = F + 1 := by rw [IntKind.wrap_i64]; omega
  have HIV0 := hid hIV0
  clear hV hIV0
  go_wp2_with fail
  refine (HBel.out).mono ?_
  rintro e w7 ⟨rfl, x7⟩
  have g7 := HG6.out.xset x7 (nxt_u _)
  have o7 := x7.box HO6.out m1
  have b7 := HB6.out.trans (x7.below hlo1.1 HG6.out.base_le)
  have a9 := (box_all o7).2.2.2.2.2.2.2.2.2.1
  have f9 := heap_frozen o7 9 (by omega)
  have g8 := g7.other bk 9 (.int .i64 IV0) m1 m3 m4 m5 hlv hrd
  have o8 : OpBox (w7.setCell ⟨bk, 9, none⟩ (.int .i64 IV0)) bk ⟨qi, (pp : Int), (n : Int), qk, qm, qar, qse, qd, qre, IV0, qrt⟩ := heap_setV o7 9 _ _ rfl
  have b8 := b7.setCell (p := ⟨bk, 9, none⟩) hbb (.int .i64 IV0)
  clear HG6 HO6 HB6 HBel c10 g7 o7 b7 x7
  go_upto_region 6 with fail
  generalize w7.setCell ⟨bk, 9, none⟩ (.int .i64 IV0) = W8 at *
  clear a9 f9 hw2
  have HG8 := hid g8
  have HO8 := hid o8
  have HB8 := hid b8
  have c7 := g8.wc.2.2.2.2.2.2.2.1
  rw [HP.out] at c7
  have cf := g8.freeAt pp (by rw [HP.out]; exact hpP)
  dsimp only at cf
  rw [HF.out] at cf
  have a1 := (box_all o8).2.1
  have a9 := (box_all o8).2.2.2.2.2.2.2.2.2.1
  clear g8 o8 b8
  go_cut [4, 61] from 7 (fun s4 s wr => s4 = .int .i64 PT ∧ s = .bool (decide (IV0 ≤ F)) ∧ HAt base wr c R { G1 with x := nxt (nxt G1.x), now := PT } ∧ OpBox wr bk ⟨qi, (pp : Int), (n : Int), qk, qm, qar, qse, qd, qre, IV0, qrt⟩ ∧ Below base w wr)
  case first =>
    go_region_held3 (fun w' => w'.cell? ⟨R.g, 7, none⟩ = some (.slice (some ⟨R.gf, 0, none⟩) P P) ∧ w'.cell? ⟨R.gf, pp, none⟩ = some (.int .i64 F) ∧ w'.cell? ⟨bk, 1, none⟩ = some (.int .i64 (pp : Int)) ∧ w'.cell? ⟨bk, 9, none⟩ = some (.int .i64 IV0))
      (first | (with_reducible exact ⟨cell_drew c7, cell_drew cf, cell_drew a1, cell_drew a9⟩) | (with_reducible exact ⟨c7, cf, a1, a9⟩))
      (fail)
    all_goals (go_wp2_with fail; go_meet)
    all_goals first | exact ⟨rfl, rfl, HG8.out, HO8.out, HB8.out⟩ | exact ⟨rfl, rfl, HG8.out.grow (Grow.drew _), HO8.out.grow (Grow.drew _), HB8.out.drew⟩
  obtain ⟨e4, es, g9, o9, b9⟩ := hcut
  subst e4
  clear c7 cf a1 a9 HG8 HO8 HB8
  have HG9 := hid g9
  have HO9 := hid o9
  have HB9 := hid b9
  clear g9 o9 b9
  obtain ⟨IV, hIV⟩ : ∃ z, z = imax (F + 1) (PT - V8) := ⟨_, rfl⟩
  have HIV := hid hIV
  go_upto_if 61 with fail
  go_cut [4] from 7 (fun s4 wr => s4 = .int .i64 PT ∧ HAt base wr c R { G1 with x := nxt (nxt G1.x), now := PT } ∧ OpBox wr bk ⟨qi, (pp : Int), (n : Int), qk, qm, qar, qse, qd, qre, IV, qrt⟩ ∧ Below base w wr)
  case first =>
    rw [← HIV0.out] at hIV
    by_cases hle : IV0 ≤ F
    · rw [decide_eq_true hle] at es
      subst es
      have him : IV = F + 1 := by rw [hIV]; unfold imax; split <;> omega
      have HIM := hid him
      clear him hle hIV
      have c7 := HG9.out.wc.2.2.2.2.2.2.2.1
      rw [HP.out] at c7
      have cf := HG9.out.freeAt pp (by rw [HP.out]; exact hpP)
      dsimp only at cf
      rw [HF.out] at cf
      have a1 := (box_all HO9.out).2.1
      have a9 := (box_all HO9.out).2.2.2.2.2.2.2.2.2.1
      have f9 := heap_frozen HO9.out 9 (by omega)
      have g10 := hid (HG9.out.other bk 9 (.int .i64 (F + 1)) m1 m3 m4 m5 hlv hrd)
      have o10 : Hid (OpBox (wc.setCell ⟨bk, 9, none⟩ (.int .i64 (F + 1))) bk ⟨qi, (pp : Int), (n : Int), qk, qm, qar, qse, qd, qre, F + 1, qrt⟩) := hid (heap_setV HO9.out 9 _ _ rfl)
      have b10 := hid (HB9.out.setCell (p := ⟨bk, 9, none⟩) hbb (.int .i64 (F + 1)))
      go_upto_region 7 with fail
      go_region_held3 (fun w' => w'.cell? ⟨R.g, 7, none⟩ = some (.slice (some ⟨R.gf, 0, none⟩) P P) ∧ w'.cell? ⟨R.gf, pp, none⟩ = some (.int .i64 F) ∧ w'.cell? ⟨bk, 1, none⟩ = some (.int .i64 (pp : Int)))
        (first | (with_reducible exact ⟨cell_drew c7, cell_drew cf, cell_drew a1⟩) | (with_reducible exact ⟨c7, cf, a1⟩) | (with_reducible exact ⟨cell_drew (cell_far c7 (Ne.symm m1)), cell_drew (cell_far cf (Ne.symm m3)), cell_drew (cell_off a1 (by decide))⟩) | (with_reducible exact ⟨cell_far c7 (Ne.symm m1), cell_far cf (Ne.symm m3), cell_off a1 (by decide)⟩))
        (fail)
      all_goals (go_wp2_with fail; go_meet)
      all_goals rw [HIM.out]
      all_goals first | exact ⟨rfl, g10.out, o10.out, b10.out⟩ | exact ⟨rfl, g10.out.grow (Grow.drew _), o10.out.grow (Grow.drew _), b10.out.drew⟩
    · rw [decide_eq_false hle] at es
      subst es
      have him : IV = IV0 := by rw [hIV]; unfold imax; split <;> omega
      have HIM := hid him
      clear him hle hIV
      go_wp2_with fail
      go_meet
      rw [HIM.out]
      exact ⟨rfl, HG9.out, HO9.out, HB9.out⟩
  obtain ⟨e4, g10, o10, b10⟩ := hcut
  subst e4
  clear HG9 HO9 HB9 es hIV hw1
  go_step
  exact rplaceB_c rfl hk hok1 m1 m3 m4 m5 hlv hbb hlo1 hap hpP HP hp0 hp1 hpt0 hpt1 hnn HO hlo5 hrd qa hr1 HK HF HNW HM HV4 HPT HV8 HIV g10 o10 b10
end Go.Proofs.Ytlhgdbangnohjaa
