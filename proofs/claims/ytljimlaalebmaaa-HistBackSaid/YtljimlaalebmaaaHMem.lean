/- Blocks that are written in place: what is moved, what is sized; operations' rows. -/
import Derived.Test.YtljimlaalebmaaaHPlain
import Derived.Test.YtljimlaalebmaaaMOpsRow
import Derived.Laws.IdiomCopy
namespace Go.Proofs.Ytljimlaalebmaaa
open Go.RowKit
set_option linter.unusedVariables false
set_option linter.unusedSimpArgs false
/-- What may have changed: the block p, a row; all else that was there is as it was. -/
structure Moved (p : Nat) (row : Option Nat) (w w' : World) : Prop where
  os : w'.os = w.os
  tape : w'.tape = w.tape
  output : w'.output = w.output
  size : w.heap.size ≤ w'.heap.size
  block : ∀ k, k < w.heap.size → k ≠ p → some k ≠ row → w'.heap[k]? = w.heap[k]?
theorem Moved.of_grow {p : Nat} {row : Option Nat} {w w' : World} (h : Grow w w') : Moved p row w w' := ⟨h.os, h.tape, h.output, h.size, fun k hk _ _ => h.block k hk⟩
theorem Moved.refl (p : Nat) (row : Option Nat) (w : World) : Moved p row w w := Moved.of_grow (Grow.refl w)
theorem Moved.trans {p : Nat} {r r1 : Option Nat} {a b c : World} (h : Moved p r a b) (k : Moved p r1 b c) (hr : ∀ j, r1 = some j → r = some j ∨ a.heap.size ≤ j) : Moved p r a c where
  os := k.os.trans h.os
  tape := k.tape.trans h.tape
  output := k.output.trans h.output
  size := Nat.le_trans h.size k.size
  block := fun j hj hp hjr => by
    rw [k.block j (Nat.lt_of_lt_of_le hj h.size) hp (fun e => by
      rcases hr j e.symm with h1 | h1
      · exact hjr h1.symm
      · omega), h.block j hj hp hjr]
theorem Moved.below {p B : Nat} {r : Option Nat} {a b : World} (h : Moved p r a b) (hB : B ≤ a.heap.size) (hp : B ≤ p) (hr : ∀ j, r = some j → B ≤ j) : Below B a b :=
  ⟨h.os, h.tape, h.output, h.size, fun k hk => h.block k (by omega) (by omega) (fun e => by have := hr k e.symm; omega)⟩
theorem Moved.setCell {p : Nat} {row : Option Nat} {a w : World} (h : Moved p row a w) (x : Addr) (v : Value) (hx : x.block = p ∨ some x.block = row ∨ a.heap.size ≤ x.block) : Moved p row a (w.setCell x v) where
  os := by rw [← h.os]; rfl
  tape := by rw [← h.tape]; rfl
  output := by rw [← h.output]; rfl
  size := by simpa using h.size
  block := fun k hk hp hr => by
    rw [Below.heap_setCell _ _ _ _ (fun e => ?_), h.block k hk hp hr]
    rcases hx with h1 | h1 | h1
    · exact hp (e.trans h1)
    · exact hr (by rw [e]; exact h1)
    · omega
theorem Moved.setCells {p g : Nat} {row : Option Nat} {a : World} (hx : g = p ∨ some g = row ∨ a.heap.size ≤ g) : ∀ (vs : List Value) (o : Nat) (w : World), Moved p row a w → Moved p row a (w.setCells g o vs)
  | [], _, _, h => h
  | v :: r, o, w, h => by
    rw [World.setCells]
    exact Moved.setCells hx r (o + 1) _ (h.setCell _ v hx)
theorem Moved.grow {p : Nat} {row : Option Nat} {a b c : World} (h : Moved p row a b) (g : Grow b c) : Moved p row a c := h.trans (Moved.of_grow (row := none) g) (fun _ e => by cases e)
/-- A block of so many cells. -/
def Sized (w : World) (g : Nat) (e : TypeId) (N : Nat) : Prop := ∃ cur : Array Value, w.heap[g]? = some (.cells cur e (0, 0)) ∧ cur.size = N
theorem Sized.set {w : World} {g : Nat} {e : TypeId} {N : Nat} (h : Sized w g e N) (b o : Nat) (v : Value) : Sized (w.setCell ⟨b, o, none⟩ v) g e N := by
  obtain ⟨cur, h1, h2⟩ := h
  by_cases hb : b = g
  · subst hb
    exact ⟨_, heap_set h1 o v, by simpa using h2⟩
  · exact ⟨cur, heap_keep h1 ⟨b, o, none⟩ v (fun e => hb e.symm), h2⟩
theorem Sized.sets {g : Nat} {e : TypeId} {N : Nat} (b : Nat) : ∀ (vs : List Value) (o : Nat) (w : World), Sized w g e N → Sized (w.setCells b o vs) g e N
  | [], _, _, h => h
  | v :: r, o, w, h => by
    rw [World.setCells]
    exact Sized.sets b r (o + 1) _ (h.set b o v)
theorem Sized.grow {w w' : World} {g : Nat} {e : TypeId} {N : Nat} (h : Sized w g e N) (hg : Grow w w') : Sized w' g e N := by
  obtain ⟨cur, h1, h2⟩ := h
  exact ⟨cur, hg.heap h1, h2⟩
theorem Sized.isSome {w : World} {g : Nat} {e : TypeId} {N : Nat} (h : Sized w g e N) (j : Nat) (hj : j < N) : (w.cell? ⟨g, j, none⟩).isSome = true := by
  obtain ⟨cur, h1, h2⟩ := h
  rw [heap_cell h1, Array.getElem?_eq_getElem (by omega)]
  rfl
theorem Sized.free {w : World} {g : Nat} {e : TypeId} {N : Nat} (h : Sized w g e N) (j : Nat) : w.frozen? ⟨g, j, none⟩ = false := by
  obtain ⟨cur, h1, h2⟩ := h
  exact heap_frozen h1 j (by omega)
theorem own_of_cells {w : World} {base g : Nat} {e : TypeId} {size n cap : Nat} {xs : List Value} (hb : base ≤ g) (h : Sized w g e (cap * size)) (hn : n ≤ cap) (hcm : cap ≤ maxLen) (hl : xs.length = n * size)
    (hc : ∀ j, j < n * size → w.cell? ⟨g, j, none⟩ = xs[j]?) : w.ownsRow base e size (.slice (some ⟨g, 0, none⟩) n cap) n xs := by
  obtain ⟨cur, h1, h2⟩ := h
  refine ⟨hl, .inr ⟨g, cap, cur, rfl, hb, h1, hn, hcm, h2, ?_⟩⟩
  apply List.ext_getElem?
  intro j
  rw [List.getElem?_take]
  by_cases hj : j < n * size
  · rw [if_pos hj, ← hc j hj, heap_cell h1]
    simp
  · rw [if_neg hj, List.getElem?_eq_none (by omega)]
theorem own_sized {w : World} {base g : Nat} {e : TypeId} {size n m cap : Nat} {xs : List Value} (h : w.ownsRow base e size (.slice (some ⟨g, 0, none⟩) m cap) n xs) : Sized w g e (cap * size) ∧ n ≤ cap ∧ cap ≤ maxLen ∧ base ≤ g ∧ m = n := by
  rcases h.2 with ⟨h', _⟩ | ⟨g', cap', cur, h', h2, hg, h4, h5, h6, _⟩
  · cases h'
  · cases h'
    exact ⟨⟨cur, hg, h6⟩, h4, h5, h2, rfl⟩
theorem run_copy_cellsK {P : Program} (w : World) (dT sT ty elem : TypeId) (b o dLen dCap : Nat) (a : Addr) (sLen sCap size m : Nat) (cs : List Value)
    (hu : P.underlying dT = some (.slice elem)) (hs : (P.info? elem).map (·.size) = some size) (hm : m = Nat.min sLen dLen) (hn : cs.length = m * size)
    (hsrc : ∀ j v, cs[j]? = some v → w.cell? (a.add j) = some v) (hc : ∀ j, j < cs.length → (w.cell? ⟨b, o + j, none⟩).isSome = true) (hf : ∀ j, j < cs.length → w.frozen? ⟨b, o + j, none⟩ = false) (h1 : ∀ v ∈ cs, v.oneCell' = true) :
    (Builtin.copy_ #[dT, sT] ty #[.slice (some ⟨b, o, none⟩) dLen dCap, .slice (some a) sLen sCap]).run P w = .ok (goInt m) (w.setCells b o cs) := by
  have hl := run_loadCells_list (P := P) w a cs hsrc
  have hst := run_storeCells_cells (P := P) b o cs 0 w (by simpa using hc) (by simpa using hf) h1
  cases hq : P.info? elem with
  | none => simp [hq] at hs
  | some i =>
    have hi : i.size = size := by simpa [hq] using hs
    rw [hn] at hl
    simp [Builtin.copy_, run_underlying hu, Builtin.lenOf, Builtin.firstCells, sizeOf, typeInfo, hq, hi, ← hm, hl, hst]
/-- A list without the one at a place. -/
def cutL (i : Nat) (l : List OpR) : List OpR := l.take i ++ l.drop (i + 1)
theorem split_at (i : Nat) (l : List OpR) (hi : i < l.length) : l = l.take i ++ ([l[i]] ++ l.drop (i + 1)) := by
  rw [List.singleton_append, List.getElem_cons_drop]; exact (List.take_append_drop i l).symm
theorem row_length (x : OpR) : x.row.length = 11 := rfl
theorem cells_one (x : OpR) : opCells [x] = x.row := by simp [opCells]
/-- What is behind a call that writes a row of one's own in place, or makes another. -/
def InsPost (base : Nat) (v : Value) (l : List OpR) (w : World) (e : Ending) (w' : World) : Prop :=
  ∃ v', e = .returned v' ∧ w'.ownsRow base 25 11 v' l.length (opCells l) ∧ (∀ p, Moved p v.ownBlock w w') ∧ ∀ k, v'.ownBlock = some k → v.ownBlock = some k ∨ w.heap.size ≤ k
end Go.Proofs.Ytljimlaalebmaaa
