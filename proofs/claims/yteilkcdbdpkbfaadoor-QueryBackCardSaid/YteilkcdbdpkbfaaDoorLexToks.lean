/- Signs in memory: a slice that holds them, in a world and in every later one. -/
import Derived.Test.YteilkcdbdpkbfaaDoorLexMark
import Derived.Test.YteilkcdbdpkbfaaDoorLawBase
namespace Go.Proofs.YteilkcdbdpkbfaaDoor
open Go.RowKit
set_option linter.unusedVariables false
set_option linter.unusedSimpArgs false

theorem Grow.cell {a b : World} (h : Grow a b) {p : Addr} {v : Value} (hc : a.cell? p = some v) : b.cell? p = some v :=
  (Below.cell h (World.block_lt_of_cell? a p hc)).trans hc
theorem own_grow {w w' : World} {base : Nat} {e : TypeId} {size : Nat} {v : Value} {n : Nat} {xs : List Value} (h : w.ownsRow base e size v n xs) (hg : Grow w w') : w'.ownsRow base e size v n xs :=
  h.kept (row := none) ⟨hg.os, hg.tape, hg.output, hg.size, fun k hk _ => hg.block k hk⟩ (by cases v.ownBlock <;> simp)
theorem Grow.set {a b : World} (h : Grow a b) (g o : Nat) (hg : a.heap.size ≤ g) (u : Value) : Grow a (b.setCell ⟨g, o, none⟩ u) := Below.setCell h (p := ⟨g, o, none⟩) hg u
theorem Grow.drewR {a b : World} (h : Grow a b) : Grow a b.drew := Below.drew h
def tokCells (t : Tok) : List Value := [.int .i64 (t.kind : Int), .string ⟨t.text.toArray⟩, .int .i64 t.num, .int .i64 (t.pos : Int)]
def toksCells (l : List Tok) : List Value := l.flatMap tokCells
theorem toksCells_snoc (l : List Tok) (t : Tok) : toksCells l ++ [.int .i64 (t.kind : Int), .string ⟨t.text.toArray⟩, .int .i64 t.num, .int .i64 (t.pos : Int)] = toksCells (l ++ [t]) := by
  simp [toksCells, tokCells]
theorem toksCells_at : ∀ (l : List Tok) (i : Nat) (h : i < l.length) (j : Nat) (hj : j < 4), (toksCells l)[i * 4 + j]? = (tokCells l[i])[j]?
  | [], i, h, _, _ => by simp at h
  | t :: l, 0, _, j, hj => by
    simp only [Nat.zero_mul, Nat.zero_add, List.getElem_cons_zero]
    show (tokCells t ++ toksCells l)[j]? = _
    rw [List.getElem?_append_left (by simp [tokCells]; omega)]
  | t :: l, i + 1, h, j, hj => by
    show (tokCells t ++ toksCells l)[(i + 1) * 4 + j]? = _
    rw [List.getElem?_append_right (by simp [tokCells]; omega), List.getElem_cons_succ, ← toksCells_at l i (by simpa using h) j hj]
    congr 1
    simp [tokCells]
    omega
/-- The value is a slice of just these signs. -/
def Toks (w : World) (v : Value) (l : List Tok) : Prop := ∃ p cap, v = .slice p l.length cap ∧ (l.length ≤ 4096 ∧ l.length ≤ cap) ∧
  (0 < l.length → ∃ b, p = some ⟨b, 0, none⟩ ∧ ∀ i (h : i < l.length), w.cell? ⟨b, i * 4, none⟩ = some (.int .i64 (l[i].kind : Int)) ∧ w.cell? ⟨b, i * 4 + 1, none⟩ = some (.string ⟨l[i].text.toArray⟩) ∧
    w.cell? ⟨b, i * 4 + 2, none⟩ = some (.int .i64 l[i].num) ∧ w.cell? ⟨b, i * 4 + 3, none⟩ = some (.int .i64 (l[i].pos : Int)))
theorem Toks.grow {w w' : World} {v : Value} {l : List Tok} (h : Toks w v l) (hg : Grow w w') : Toks w' v l := by
  obtain ⟨p, cap, hv, hl, hc⟩ := h
  refine ⟨p, cap, hv, hl, fun h0 => ?_⟩
  obtain ⟨b, hp, hcell⟩ := hc h0
  refine ⟨b, hp, fun i hi => ?_⟩
  obtain ⟨c0, c1, c2, c3⟩ := hcell i hi
  exact ⟨hg.cell c0, hg.cell c1, hg.cell c2, hg.cell c3⟩
theorem Toks.nil (w : World) : Toks w (.slice none 0 0) [] := ⟨none, 0, rfl, ⟨by simp, by simp⟩, fun h => by simp at h⟩
theorem Toks.of_own {w : World} {base : Nat} {e : TypeId} {v : Value} {n : Nat} {l : List Tok} (h : w.ownsRow base e 4 v n (toksCells l)) (hn : l.length = n) (hl : n ≤ 4096) : Toks w v l := by
  rcases h.2 with ⟨rfl, h0⟩ | ⟨g, cap, cur, rfl, hb, hg, hnc, hcm, hcs, htake⟩
  · have : l = [] := List.eq_nil_of_length_eq_zero (by omega)
    subst this
    exact Toks.nil w
  · refine ⟨_, cap, by rw [hn], ⟨by omega, by omega⟩, fun _ => ⟨g, rfl, fun i hi => ?_⟩⟩
    have H : ∀ j u, j < 4 → (tokCells l[i])[j]? = some u → w.cell? ⟨g, i * 4 + j, none⟩ = some u := by
      intro j u hj hu
      have := h.cells (g := g) rfl (i * 4 + j) u (by rw [toksCells_at l i hi j hj]; exact hu)
      rwa [Addr.add_lit, Nat.zero_add] at this
    exact ⟨H 0 _ (by omega) rfl, H 1 _ (by omega) rfl, H 2 _ (by omega) rfl, H 3 _ (by omega) rfl⟩
theorem sub_bytes (s : ByteArray) (i n : Nat) : s.extract i (i + n) = ⟨((s.data.toList.drop i).take n).toArray⟩ := by
  apply ByteArray.ext
  apply Array.toList_inj.1
  simp [ByteArray.data_extract]
theorem rest_bytes (s : ByteArray) (i : Nat) : (s.extract i s.size).data.toList = s.data.toList.drop i := by
  have : s.data.toList.drop i = (s.data.toList.drop i).take (s.size - i) := by rw [List.take_of_length_le (by simp)]
  rw [this]
  simp [ByteArray.data_extract]
theorem scanL_step {L : List UInt8} {b : UInt8} {l : List UInt8} (hL : L = b :: l) (hb : isBl b = false) {k n : Nat} {v : Int} (hst : stepT L = .tok k n v) (i : Nat) : scanL L i = Sc.cons [⟨k, L.take n, v, i⟩] (scanL (L.drop n) (i + n)) := by
  subst hL
  exact scanL_tok b l i hb hst
theorem scanL_stop {L : List UInt8} {b : UInt8} {l : List UInt8} (hL : L = b :: l) (hb : isBl b = false) {e : Nat} (hst : stepT L = .bad e) (i : Nat) : scanL L i = ⟨[], i, e⟩ := by
  subst hL
  exact scanL_bad b l i hb hst
/-- What is handed back of a text: the signs in new memory, where it stopped, the error. -/
def ScanPost (r : Sc) (w : World) (e : Ending) (w' : World) : Prop := ∃ v, e = .returned (.tuple #[v, .int .i64 (r.stop : Int), .int .i64 (r.err : Int)]) ∧ Toks w' v r.toks ∧ Grow w w'
theorem Sc.cons_err (a : List Tok) (i e : Nat) (he : e ≠ 0) : Sc.cons a ⟨[], i, e⟩ = ⟨[], i, e⟩ := by unfold Sc.cons; rw [if_neg he]
end Go.Proofs.YteilkcdbdpkbfaaDoor
