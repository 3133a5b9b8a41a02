/- What lies in memory as a history is made, once a part of it is written. -/
import Derived.Test.YtlhgdbangnohjaaGAt
namespace Go.Proofs.Ytlhgdbangnohjaa
open Go.RowKit
set_option linter.unusedVariables false
set_option linter.unusedSimpArgs false
theorem i64s_set (l : List Int) (i : Nat) (x : Int) : (i64s l).toArray.setIfInBounds i (.int .i64 x) = (i64s (l.set i x)).toArray := by
  simp [i64s, List.map_set]
theorem boolCells_set (l : List Bool) (i : Nat) (x : Bool) : (boolCells l).toArray.setIfInBounds i (.bool x) = (boolCells (l.set i x)).toArray := by
  simp [boolCells, List.map_set]
section
variable {base : Nat} {w w' : World} {c : GenC} {R : GR} {G : GenW}
theorem only_set (w : World) (g o : Nat) (u : Value) : Only g w (w.setCell ⟨g, o, none⟩ u) := (Only.refl g w).set o u
theorem GAt.rowsO (h : GAt base w c R G) {p : Nat} (ho : Only p w w') (hp : p = R.g ∨ p = R.gs ∨ p = R.gf ∨ p = R.gg ∨ p = R.gst) : ∀ i, i < c.objects.toNat → Ints w' (R.svs.getD i (.slice none 0 0)) (G.states.getD i []) :=
  fun i hi => (h.rows i hi).keep (fun a n m e e0 => ho.block _ (by
    obtain ⟨-, h1, h2, h3, h4, h5, -⟩ := h.rowd i hi a n m e e0
    rcases hp with rfl | rfl | rfl | rfl | rfl
    · exact h1
    · exact h2
    · exact h3
    · exact h4
    · exact h5))
theorem GAt.ownO (h : GAt base w c R G) {p : Nat} (ho : Only p w w') (hp : p = R.g ∨ p = R.gs ∨ p = R.gf ∨ p = R.gg ∨ p = R.gst) : w'.ownsRow base 52 11 R.lv G.l.length (opCells G.l) :=
  own_keep h.own (fun k hk => ho.block k (by
    obtain ⟨h1, h2, h3, h4, h5⟩ := h.lvd k hk
    rcases hp with rfl | rfl | rfl | rfl | rfl
    · exact h1
    · exact h2
    · exact h3
    · exact h4
    · exact h5))
theorem GAt.rowdO (h : GAt base w c R G) {p : Nat} (ho : Only p w w') : ∀ i, i < c.objects.toNat → ∀ a n m, R.svs.getD i (.slice none 0 0) = .slice (some a) n m → 0 < n → a.block < w'.heap.size ∧ a.block ≠ R.g ∧ a.block ≠ R.gs ∧ a.block ≠ R.gf ∧ a.block ≠ R.gg ∧ a.block ≠ R.gst ∧ R.lv.ownBlock ≠ some a.block :=
  fun i hi a n m e e0 => by
    obtain ⟨h1, h2⟩ := h.rowd i hi a n m e e0
    exact ⟨by rw [ho.size]; exact h1, h2⟩
theorem GAt.stO (h : GAt base w c R G) {p : Nat} (ho : Only p w w') (hp : R.gst ≠ p) : w'.ownsRow base 23 1 (.slice (some ⟨R.gst, 0, none⟩) c.objects.toNat R.cst) c.objects.toNat R.svs :=
  own_keep h.st (fun k hk => ho.block k (fun e => by have e2 : R.gst = k := Option.some.inj hk; exact hp (e2.trans e)))
/-- The time. -/
theorem GAt.time (h : GAt base w c R G) (t : Int) : GAt base (w.setCell ⟨R.g, 10, none⟩ (.int .i64 t)) c R { G with now := t } := by
  obtain ⟨a1, a2, a3, a4, a5, a6, a7, a8, a9, a10⟩ := h.apart
  have ho := only_set w R.g 10 (.int .i64 t)
  exact {
    cells := heap_setV h.cells 10 _ _ rfl
    src := (ho.block _ (fun e => a1 e.symm)).trans h.src
    ux := h.ux
    free := (ho.block _ (fun e => a2 e.symm)).trans h.free
    freeN := h.freeN
    gone := (ho.block _ (fun e => a3 e.symm)).trans h.gone
    goneN := h.goneN
    st := h.stO ho (fun e => a4 e.symm)
    stN := h.stN
    rows := h.rowsO ho (.inl rfl)
    own := h.ownO ho (.inl rfl)
    apart := h.apart
    lvd := h.lvd
    rowd := h.rowdO ho
    lo := h.lo }
/-- When a process is free. -/
theorem GAt.setFree (h : GAt base w c R G) (i : Nat) (t : Int) : GAt base (w.setCell ⟨R.gf, i, none⟩ (.int .i64 t)) c R { G with free := G.free.set i t } := by
  obtain ⟨a1, a2, a3, a4, a5, a6, a7, a8, a9, a10⟩ := h.apart
  have ho := only_set w R.gf i (.int .i64 t)
  exact {
    cells := (ho.block _ a2).trans h.cells
    src := (ho.block _ a5).trans h.src
    ux := h.ux
    free := heap_setV h.free i _ _ (i64s_set _ _ _)
    freeN := by rw [List.length_set]; exact h.freeN
    gone := (ho.block _ (fun e => a8 e.symm)).trans h.gone
    goneN := h.goneN
    st := h.stO ho (fun e => a9 e.symm)
    stN := h.stN
    rows := h.rowsO ho (.inr (.inr (.inl rfl)))
    own := h.ownO ho (.inr (.inr (.inl rfl)))
    apart := h.apart
    lvd := h.lvd
    rowd := h.rowdO ho
    lo := h.lo }
/-- Who still asks. -/
theorem GAt.setGone (h : GAt base w c R G) (i : Nat) (t : Bool) : GAt base (w.setCell ⟨R.gg, i, none⟩ (.bool t)) c R { G with gone := G.gone.set i t } := by
  obtain ⟨a1, a2, a3, a4, a5, a6, a7, a8, a9, a10⟩ := h.apart
  have ho := only_set w R.gg i (.bool t)
  exact {
    cells := (ho.block _ a3).trans h.cells
    src := (ho.block _ a6).trans h.src
    ux := h.ux
    free := (ho.block _ a8).trans h.free
    freeN := h.freeN
    gone := heap_setV h.gone i _ _ (boolCells_set _ _ _)
    goneN := by rw [List.length_set]; exact h.goneN
    st := h.stO ho (fun e => a10 e.symm)
    stN := h.stN
    rows := h.rowsO ho (.inr (.inr (.inr (.inl rfl))))
    own := h.ownO ho (.inr (.inr (.inr (.inl rfl))))
    apart := h.apart
    lvd := h.lvd
    rowd := h.rowdO ho
    lo := h.lo }
/-- An object's state. -/
theorem GAt.setState (h : GAt base w c R G) (i : Nat) (hi : i < c.objects.toNat) (v : Value) (xs : List Int) (hv : Ints w v xs)
    (hd : ∀ a n m, v = .slice (some a) n m → 0 < n → a.block < w.heap.size ∧ a.block ≠ R.g ∧ a.block ≠ R.gs ∧ a.block ≠ R.gf ∧ a.block ≠ R.gg ∧ a.block ≠ R.gst ∧ R.lv.ownBlock ≠ some a.block) :
    GAt base (w.setCell ⟨R.gst, i, none⟩ v) c { R with svs := R.svs.set i v } { G with states := G.states.set i xs } := by
  obtain ⟨a1, a2, a3, a4, a5, a6, a7, a8, a9, a10⟩ := h.apart
  have ho := only_set w R.gst i v
  have hsl : R.svs.length = c.objects.toNat := by have := h.st.1; omega
  have hget : ∀ j, (R.svs.set i v).getD j (.slice none 0 0) = if j = i then v else R.svs.getD j (.slice none 0 0) := fun j => by
    rw [List.getD_eq_getElem?_getD, List.getElem?_set]
    by_cases e : i = j
    · subst e
      rw [if_pos rfl, if_pos rfl, if_pos (by omega)]
      rfl
    · rw [if_neg e, if_neg (fun e2 => e e2.symm), List.getD_eq_getElem?_getD]
  have hget2 : ∀ j, (G.states.set i xs).getD j [] = if j = i then xs else G.states.getD j [] := fun j => by
    rw [List.getD_eq_getElem?_getD, List.getElem?_set]
    by_cases e : i = j
    · subst e
      rw [if_pos rfl, if_pos rfl, if_pos (by rw [h.stN]; exact hi)]
      rfl
    · rw [if_neg e, if_neg (fun e2 => e e2.symm), List.getD_eq_getElem?_getD]
  exact {
    cells := (ho.block _ a4).trans h.cells
    src := (ho.block _ a7).trans h.src
    ux := h.ux
    free := (ho.block _ a9).trans h.free
    freeN := h.freeN
    gone := (ho.block _ a10).trans h.gone
    goneN := h.goneN
    st := (h.st.stored i v).1
    stN := by rw [List.length_set]; exact h.stN
    rows := fun j hj => by
      dsimp only
      rw [hget, hget2]
      by_cases e : j = i
      · rw [if_pos e, if_pos e]
        exact hv.keep (fun a n m e2 e0 => ho.block _ (hd a n m e2 e0).2.2.2.2.2.1)
      · rw [if_neg e, if_neg e]
        exact h.rowsO ho (.inr (.inr (.inr (.inr rfl)))) j hj
    own := h.ownO ho (.inr (.inr (.inr (.inr rfl))))
    apart := h.apart
    lvd := h.lvd
    rowd := fun j hj a n m e e0 => by
      dsimp only at e
      rw [hget] at e
      by_cases e2 : j = i
      · rw [if_pos e2] at e
        obtain ⟨h1, h2⟩ := hd a n m e e0
        exact ⟨by rw [ho.size]; exact h1, h2⟩
      · rw [if_neg e2] at e
        exact h.rowdO ho j hj a n m e e0
    lo := h.lo }
/-- One more operation. -/
theorem GAt.push (h : GAt base w c R G) (lv' : Value) (L : List OpR) (ho' : w'.ownsRow base 52 11 lv' L.length (opCells L)) (hg : w.grownBy w' R.lv.ownBlock) (hn : ∀ k, lv'.ownBlock = some k → R.lv.ownBlock = some k ∨ w.heap.size ≤ k) :
    GAt base (w'.setCell ⟨R.g, 11, none⟩ lv') c { R with lv := lv' } { G with l := L } := by
  obtain ⟨a1, a2, a3, a4, a5, a6, a7, a8, a9, a10⟩ := h.apart
  have hlt1 := heap_lt h.cells
  have hlt2 := heap_lt h.src
  have hlt3 := heap_lt h.free
  have hlt4 := heap_lt h.gone
  have hlt5 : R.gst < w.heap.size := (h.st.lt R.gst rfl).2
  have ho := only_set w' R.g 11 lv'
  have hk : ∀ k, k < w.heap.size → R.lv.ownBlock ≠ some k → w'.heap[k]? = w.heap[k]? := fun k h1 h2 => hg.block k h1 (fun e => h2 e.symm)
  have q := h.lvd
  have hl : ∀ k, k = R.g ∨ k = R.gs ∨ k = R.gf ∨ k = R.gg ∨ k = R.gst → R.lv.ownBlock ≠ some k := fun k hk e => by
    obtain ⟨h1, h2, h3, h4, h5⟩ := q k e
    rcases hk with rfl | rfl | rfl | rfl | rfl
    · exact h1 rfl
    · exact h2 rfl
    · exact h3 rfl
    · exact h4 rfl
    · exact h5 rfl
  have hnew : ∀ k, lv'.ownBlock = some k → k ≠ R.g ∧ k ≠ R.gs ∧ k ≠ R.gf ∧ k ≠ R.gg ∧ k ≠ R.gst := fun k e => by
    rcases hn k e with e2 | e2
    · exact q k e2
    · exact ⟨by omega, by omega, by omega, by omega, by omega⟩
  exact {
    cells := heap_setV ((hk _ hlt1 (hl _ (.inl rfl))).trans h.cells) 11 _ _ rfl
    src := (ho.block _ (fun e => a1 e.symm)).trans ((hk _ hlt2 (hl _ (.inr (.inl rfl)))).trans h.src)
    ux := h.ux
    free := (ho.block _ (fun e => a2 e.symm)).trans ((hk _ hlt3 (hl _ (.inr (.inr (.inl rfl))))).trans h.free)
    freeN := h.freeN
    gone := (ho.block _ (fun e => a3 e.symm)).trans ((hk _ hlt4 (hl _ (.inr (.inr (.inr (.inl rfl)))))).trans h.gone)
    goneN := h.goneN
    st := own_keep h.st (fun k e => by
      have e2 : R.gst = k := Option.some.inj e
      rw [← e2]
      exact (ho.block _ (fun e => a4 e.symm)).trans (hk _ hlt5 (hl _ (.inr (.inr (.inr (.inr rfl)))))))
    stN := h.stN
    rows := fun i hi => (h.rows i hi).keep (fun a n m e e0 => by
      obtain ⟨h1, h2, -, -, -, -, h7⟩ := h.rowd i hi a n m e e0
      exact (ho.block _ h2).trans (hk _ h1 h7))
    own := own_keep ho' (fun k e => ho.block k (hnew k e).1)
    apart := h.apart
    lvd := hnew
    rowd := fun i hi a n m e e0 => by
      obtain ⟨h1, h2, h3, h4, h5, h6, h7⟩ := h.rowd i hi a n m e e0
      refine ⟨by rw [ho.size]; exact Nat.lt_of_lt_of_le h1 hg.size, h2, h3, h4, h5, h6, fun e2 => ?_⟩
      rcases hn _ e2 with e3 | e3
      · exact h7 e3
      · omega
    lo := h.lo }
end
end Go.Proofs.Ytlhgdbangnohjaa
