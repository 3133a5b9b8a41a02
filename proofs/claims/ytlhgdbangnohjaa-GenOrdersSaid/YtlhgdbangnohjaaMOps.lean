/- A list of operations that is read: what it holds, in a world and in every later one; how one that came in is opened. -/
import Derived.Test.YtlhgdbangnohjaaInts
import Derived.Test.YtlhgdbangnohjaaOpLift
import Derived.Deep.Slices
import Derived.Deep.Fields
import Derived.ChangeSame
namespace Go.Proofs.Ytlhgdbangnohjaa
open Go.RowKit
set_option linter.unusedVariables false
/-- An operation's eleven cells. -/
def OpAt (w : World) (b o : Nat) (x : OpR) : Prop := w.cell? ⟨b, o, none⟩ = some (.int .i64 x.id) ∧ w.cell? ⟨b, o + 1, none⟩ = some (.int .i64 x.proc) ∧ w.cell? ⟨b, o + 2, none⟩ = some (.int .i64 x.obj) ∧ w.cell? ⟨b, o + 3, none⟩ = some (.int .i64 x.kind) ∧ w.cell? ⟨b, o + 4, none⟩ = some (.int .i64 x.meth) ∧ w.cell? ⟨b, o + 5, none⟩ = some (.int .i64 x.arg) ∧ w.cell? ⟨b, o + 6, none⟩ = some (.int .i64 x.sec) ∧ w.cell? ⟨b, o + 7, none⟩ = some (.bool x.done) ∧ w.cell? ⟨b, o + 8, none⟩ = some (.int .i64 x.res) ∧ w.cell? ⟨b, o + 9, none⟩ = some (.int .i64 x.inv) ∧ w.cell? ⟨b, o + 10, none⟩ = some (.int .i64 x.ret)
theorem OpAt.grow {w w' : World} {b o : Nat} {x : OpR} (h : OpAt w b o x) (hg : Grow w w') : OpAt w' b o x := by
  unfold OpAt at *
  obtain ⟨h0, h1, h2, h3, h4, h5, h6, h7, h8, h9, h10⟩ := h
  exact ⟨hg.cell h0, hg.cell h1, hg.cell h2, hg.cell h3, hg.cell h4, hg.cell h5, hg.cell h6, hg.cell h7, hg.cell h8, hg.cell h9, hg.cell h10⟩
/-- The value is a slice of just these operations. -/
def Ops (w : World) (v : Value) (l : List OpR) : Prop := ∃ p cap, v = .slice p l.length cap ∧ l.length ≤ 1600000000000 ∧
  (0 < l.length → ∃ b off, p = some ⟨b, off, none⟩ ∧ ∀ i (h : i < l.length), OpAt w b (off + i * 11) l[i])
theorem Ops.grow {w w' : World} {v : Value} {l : List OpR} (h : Ops w v l) (hg : Grow w w') : Ops w' v l := by
  obtain ⟨p, cap, hv, hl, hc⟩ := h
  refine ⟨p, cap, hv, hl, fun h0 => ?_⟩
  obtain ⟨b, off, hp, hcell⟩ := hc h0
  exact ⟨b, off, hp, fun i hi => (hcell i hi).grow hg⟩
theorem Ops.nil (w : World) : Ops w (.slice none 0 0) [] := ⟨none, 0, rfl, by simp, fun h => by simp at h⟩
theorem Ops.at {w : World} {v : Value} {l : List OpR} (h : Ops w v l) : ∃ p cap, v = .slice p l.length cap ∧ ∀ k (hk : k < l.length), ∃ (b off : Nat), p = some ⟨b, off, none⟩ ∧ OpAt w b (off + k * 11) l[k] := by
  obtain ⟨p, cap, rfl, hl, hc⟩ := h
  refine ⟨p, cap, rfl, fun k hk => ?_⟩
  obtain ⟨b, off, e, H⟩ := hc (by omega)
  exact ⟨b, off, e, H k hk⟩
section
open Go.Joins Go.ChangeShapes Go.WideShapes Go.Deep Go.WideElems Go.Maps
variable {H : Type} {enc : TypeId × Value → H} {P : Program} {w : World} {base : Nat} {spare : Nat → Bool} {held : Bool}
/-- A slice of structs whose fields take one cell each. -/
theorem open_flat_slice {t e : TypeId} {fs : Array Field} {fuel : Nat} {cs : List Value} {x : DataW H × List MemPlace} (ht : P.underlying t = some (.slice e)) (he : P.underlying e = some (.struct fs))
    (hone : oneCellFields P fs = true) (hC : P.cellsOf e = fs.size) (h : DataW.trod enc P w base spare held fuel t cs = some x) :
    cs = [.slice none 0 0] ∨
    ∃ (a : Addr) (len cap m : Nat) (D : Nat → DataW H), cs = [.slice (some a) len cap] ∧ len ≤ cap ∧ cap ≤ maxLen ∧ len ≤ m ∧ x.1 = .slice ((List.range len).map D) ((List.range (m - len)).map fun j => D (len + j)) ∧
      ∀ i, i < len → ∀ (j : Nat) (f : Field), fs[j]? = some f → ∃ (v : Value) (y : DataW H × List MemPlace) (n : Nat), w.cell? (a.add (i * fs.size + j)) = some v ∧ DataW.trod enc P w base spare held n f.type [v] = some y := by
  rcases open_slice ht h with h0 | ⟨a, len, cap, m, n, D, Pl, hcs, hb, hl, hm, hmm, hx, hi⟩
  · exact .inl h0.1
  · refine .inr ⟨a, len, cap, m, D, hcs, hl, hm, by rw [hmm]; split <;> omega, by rw [hx], fun i him j f hj => ?_⟩
    obtain ⟨cs', hc, ht'⟩ := hi i (by rw [hmm]; split <;> omega)
    rw [hC] at hc
    obtain ⟨ys, n', hn', hy, hlen, hyl, hf⟩ := DataW.trod_struct he ht'
    obtain ⟨_, hcl, hat⟩ := World.cells?_some hc
    obtain ⟨ho, hk⟩ := hone_of hone j f hj
    have hjl : j < fs.size := (Array.getElem?_eq_some_iff.1 hj).1
    have hcell := hat j hjl
    have hv : cs'[j]? = some (cs'[j]'(by omega)) := List.getElem?_eq_getElem (by omega)
    have h1 := hf j f hj
    rw [ho, hk] at h1
    have hone' : (cs'.drop j).take 1 = [cs'[j]'(by omega)] := by
      rw [List.drop_eq_getElem_cons (by omega)]
      rfl
    rw [hone'] at h1
    have hys : ys[j]? = some (ys[j]'(by omega)) := List.getElem?_eq_getElem (by omega)
    refine ⟨_, _, _, ?_, h1.trans hys⟩
    rw [← Go.Deep.add_add, hcell, hv]
set_option maxRecDepth 100000 in
/-- A list of operations that came in. -/
theorem open_ops {fuel : Nat} {cs : List Value} {x : DataW H × List MemPlace} {B : Nat} (hB : B ≤ 1600000000000)
    (h : DataW.trod enc Try.prog w base spare held fuel 38 cs = some x)
    (hs : ∀ (elems sp : List (DataW H)), x.1 = .slice elems sp → elems.length + sp.length ≤ B) :
    ∃ l : List OpR, ∃ v, cs = [v] ∧ Ops w v l ∧ l.length ≤ B := by
  rcases open_flat_slice Try.underlying38 Try.underlying52 (by kernel_rfl) (by kernel_rfl) h with h0 | ⟨a, len, cap, m, D, hcs, hl, hm, hlm, hx, hi⟩
  · exact ⟨[], _, h0, Ops.nil w, by simp⟩
  · have hre := hs _ _ hx
    rw [List.length_map, List.length_map, List.length_range, List.length_range] at hre
    have key : ∀ i, i < len → ∃ o : OpR, w.cell? (a.add (i * 11 + 0)) = some (.int .i64 o.id) ∧ w.cell? (a.add (i * 11 + 1)) = some (.int .i64 o.proc) ∧ w.cell? (a.add (i * 11 + 2)) = some (.int .i64 o.obj) ∧ w.cell? (a.add (i * 11 + 3)) = some (.int .i64 o.kind) ∧ w.cell? (a.add (i * 11 + 4)) = some (.int .i64 o.meth) ∧ w.cell? (a.add (i * 11 + 5)) = some (.int .i64 o.arg) ∧ w.cell? (a.add (i * 11 + 6)) = some (.int .i64 o.sec) ∧ w.cell? (a.add (i * 11 + 7)) = some (.bool o.done) ∧ w.cell? (a.add (i * 11 + 8)) = some (.int .i64 o.res) ∧ w.cell? (a.add (i * 11 + 9)) = some (.int .i64 o.inv) ∧ w.cell? (a.add (i * 11 + 10)) = some (.int .i64 o.ret) := by
      intro i hi'
      obtain ⟨v0, y0, n0, c0, t0⟩ := hi i hi' 0 _ rfl
      obtain ⟨v1, y1, n1, c1, t1⟩ := hi i hi' 1 _ rfl
      obtain ⟨v2, y2, n2, c2, t2⟩ := hi i hi' 2 _ rfl
      obtain ⟨v3, y3, n3, c3, t3⟩ := hi i hi' 3 _ rfl
      obtain ⟨v4, y4, n4, c4, t4⟩ := hi i hi' 4 _ rfl
      obtain ⟨v5, y5, n5, c5, t5⟩ := hi i hi' 5 _ rfl
      obtain ⟨v6, y6, n6, c6, t6⟩ := hi i hi' 6 _ rfl
      obtain ⟨v7, y7, n7, c7, t7⟩ := hi i hi' 7 _ rfl
      obtain ⟨v8, y8, n8, c8, t8⟩ := hi i hi' 8 _ rfl
      obtain ⟨v9, y9, n9, c9, t9⟩ := hi i hi' 9 _ rfl
      obtain ⟨v10, y10, n10, c10, t10⟩ := hi i hi' 10 _ rfl
      obtain ⟨a0, e0, -, -⟩ := DataW.trod_int Try.underlying3 t0
      obtain ⟨a1, e1, -, -⟩ := DataW.trod_int Try.underlying3 t1
      obtain ⟨a2, e2, -, -⟩ := DataW.trod_int Try.underlying3 t2
      obtain ⟨a3, e3, -, -⟩ := DataW.trod_int Try.underlying3 t3
      obtain ⟨a4, e4, -, -⟩ := DataW.trod_int Try.underlying3 t4
      obtain ⟨a5, e5, -, -⟩ := DataW.trod_int Try.underlying3 t5
      obtain ⟨a6, e6, -, -⟩ := DataW.trod_int Try.underlying3 t6
      obtain ⟨a7, e7, -⟩ := DataW.trod_bool Try.underlying4 t7
      obtain ⟨a8, e8, -, -⟩ := DataW.trod_int Try.underlying3 t8
      obtain ⟨a9, e9, -, -⟩ := DataW.trod_int Try.underlying3 t9
      obtain ⟨a10, e10, -, -⟩ := DataW.trod_int Try.underlying3 t10
      simp only [List.cons.injEq, and_true] at e0 e1 e2 e3 e4 e5 e6 e7 e8 e9 e10
      subst e0 e1 e2 e3 e4 e5 e6 e7 e8 e9 e10
      exact ⟨⟨a0, a1, a2, a3, a4, a5, a6, a7, a8, a9, a10⟩, c0, c1, c2, c3, c4, c5, c6, c7, c8, c9, c10⟩
    have hch : ∃ f : Nat → OpR, ∀ i, i < len → w.cell? (a.add (i * 11 + 0)) = some (.int .i64 (f i).id) ∧ w.cell? (a.add (i * 11 + 1)) = some (.int .i64 (f i).proc) ∧ w.cell? (a.add (i * 11 + 2)) = some (.int .i64 (f i).obj) ∧ w.cell? (a.add (i * 11 + 3)) = some (.int .i64 (f i).kind) ∧ w.cell? (a.add (i * 11 + 4)) = some (.int .i64 (f i).meth) ∧ w.cell? (a.add (i * 11 + 5)) = some (.int .i64 (f i).arg) ∧ w.cell? (a.add (i * 11 + 6)) = some (.int .i64 (f i).sec) ∧ w.cell? (a.add (i * 11 + 7)) = some (.bool (f i).done) ∧ w.cell? (a.add (i * 11 + 8)) = some (.int .i64 (f i).res) ∧ w.cell? (a.add (i * 11 + 9)) = some (.int .i64 (f i).inv) ∧ w.cell? (a.add (i * 11 + 10)) = some (.int .i64 (f i).ret) := by
      classical
      refine ⟨fun i => if h : i < len then Classical.choose (key i h) else ⟨0, 0, 0, 0, 0, 0, 0, false, 0, 0, 0⟩, fun i hi' => ?_⟩
      simp only [dif_pos hi']
      exact Classical.choose_spec (key i hi')
    obtain ⟨f, hf⟩ := hch
    refine ⟨(List.range len).map f, _, hcs, ⟨some a, cap, by simp, by simp; omega, fun h0 => ?_⟩, by simp; omega⟩
    have h0' : 0 < len := by simpa using h0
    obtain ⟨b, off, sp⟩ := a
    obtain ⟨f0, _⟩ := hf 0 h0'
    have hsp : sp = none := by
      cases sp with
      | none => rfl
      | some q => exact absurd f0 (by simp [World.cell?, Addr.add]; split <;> simp)
    subst hsp
    refine ⟨b, off, rfl, fun i hi' => ?_⟩
    have hi'' : i < len := by simpa using hi'
    obtain ⟨g0, g1, g2, g3, g4, g5, g6, g7, g8, g9, g10⟩ := hf i hi''
    simp only [Addr.add_lit, ← Nat.add_assoc] at g0 g1 g2 g3 g4 g5 g6 g7 g8 g9 g10
    simp only [List.getElem_map, List.getElem_range]
    exact ⟨g0, g1, g2, g3, g4, g5, g6, g7, g8, g9, g10⟩
end
end Go.Proofs.Ytlhgdbangnohjaa
