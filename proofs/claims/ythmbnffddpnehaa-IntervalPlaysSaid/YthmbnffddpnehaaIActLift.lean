/- How a call's data that came in by value is opened. -/
import Derived.Test.YthmbnffddpnehaaLawBase
import Derived.Lib.SmallJoins
import Derived.Deep.Slices
import Derived.Deep.Fields
import Derived.Test.YthmbnffddpnehaaInts
namespace Go.Proofs.Ythmbnffddpnehaa
open Go.RowKit Go.Joins Go.ChangeShapes Go.WideShapes Go.Deep Go.WideElems Go.Maps
open Go.ChangeMaps (open_string shut_string)
set_option linter.unusedVariables false
/-- A call. -/
structure ActR where
  kind : Int
  f : Int
  t : Int
  val : ByteArray
  id : Int
section
variable {H : Type} {enc : TypeId × Value → H} {P : Program} {w : World} {base : Nat} {spare : Nat → Bool} {held : Bool}
/-- A struct whose fields take one cell each, by value: its cells, each read as its field. -/
theorem open_flat {r : Reach} {b0 : Nat} {t : TypeId} {fs : Array Field} {v : Value} {d : DataW H} {p : List MemPlace} (hs : P.underlying t = some (.struct fs)) (hone : oneCellFields P fs = true) (hC : P.cellsOf t = fs.size)
    (hv : Value.okWide P w r b0 t v) (h : DataW.Trod enc P w base spare held t v d p) :
    ∃ cs : Array Value, v = .agg cs ∧ cs.size = fs.size ∧ ∀ (j : Nat) (f : Field) (c : Value), fs[j]? = some f → cs[j]? = some c → ∃ n y, DataW.trod enc P w base spare held n f.type [c] = some y := by
  obtain ⟨cs, rfl, hsz⟩ := okWide_struct hs hv
  obtain ⟨fuel, hf⟩ := h
  obtain ⟨xs, n, _, _, hl, hlen, hr⟩ := DataW.trod_struct hs hf
  refine ⟨cs, rfl, hsz.trans hC, fun j f c hj hc => ?_⟩
  have h1 := hr j f hj
  obtain ⟨o1, k1⟩ := hone_of hone j f hj
  rw [o1, k1] at h1
  have hjl : j < cs.size := (Array.getElem?_eq_some_iff.1 hc).1
  have hcl : cs[j] = c := (Array.getElem?_eq_some_iff.1 hc).2
  have e : ((Value.agg cs).cells.toList.drop j).take 1 = [c] := by
    have hl2 : j < cs.toList.length := by simpa using hjl
    simp only [Value.cells]
    rw [List.drop_eq_getElem_cons hl2, List.take_succ_cons, List.take_zero]
    simpa using hcl
  rw [e] at h1
  rw [List.getElem?_eq_getElem (by have := (Array.getElem?_eq_some_iff.1 hj).1; omega)] at h1
  exact ⟨_, _, h1⟩
theorem array5 {α : Type} {cs : Array α} (h : cs.size = 5) : ∃ c0 c1 c2 c3 c4, cs = #[c0, c1, c2, c3, c4] := by
  obtain ⟨l⟩ := cs
  match l, h with
  | [c0, c1, c2, c3, c4], _ => exact ⟨c0, c1, c2, c3, c4, rfl⟩
/-- A slice of structs whose fields take one cell each. -/
theorem open_flat_slice {t e : TypeId} {fs : Array Field} {fuel : Nat} {cs : List Value} {x : DataW H × List MemPlace} (ht : P.underlying t = some (.slice e)) (he : P.underlying e = some (.struct fs))
    (hone : oneCellFields P fs = true) (hC : P.cellsOf e = fs.size) (h : DataW.trod enc P w base spare held fuel t cs = some x) :
    cs = [.slice none 0 0] ∨
    ∃ (a : Addr) (len cap m : Nat) (D : Nat → DataW H), cs = [.slice (some a) len cap] ∧ len ≤ cap ∧ cap ≤ maxLen ∧ len ≤ m ∧ x.1 = .slice ((List.range len).map D) ((List.range (m - len)).map fun j => D (len + j)) ∧
      ∀ i, i < len → ∀ (j : Nat) (f : Field), fs[j]? = some f → ∃ (v : Value) (y : DataW H × List MemPlace) (n : Nat), w.cell? (a.add (i * fs.size + j)) = some v ∧ DataW.trod enc P w base spare held n f.type [v] = some y := by
  rcases open_slice ht h with h0 | ⟨a, len, cap, m, n, D, Pl, hcs, hb, hl, hm, hmm, hx, hi⟩
  · exact .inl h0.1
  · refine .inr ⟨a, len, cap, m, D, hcs, hl, hm, by rw [hmm]; split <;> omega, by rw [hx], fun i him j f hj => ?_⟩
    obtain ⟨cs', hc, ht'⟩ := hi i (by rw [hmm]; split <;> omega)
    rw [hC] at hc
    obtain ⟨ys, n', hn', hy, hlen, hyl, hf⟩ := DataW.trod_struct he ht'
    obtain ⟨_, hcl, hat⟩ := World.cells?_some hc
    obtain ⟨ho, hk⟩ := hone_of hone j f hj
    have hjl : j < fs.size := (Array.getElem?_eq_some_iff.1 hj).1
    have hcell := hat j hjl
    have hv : cs'[j]? = some (cs'[j]'(by omega)) := List.getElem?_eq_getElem (by omega)
    have h1 := hf j f hj
    rw [ho, hk] at h1
    have hone' : (cs'.drop j).take 1 = [cs'[j]'(by omega)] := by
      rw [List.drop_eq_getElem_cons (by omega)]
      rfl
    rw [hone'] at h1
    have hys : ys[j]? = some (ys[j]'(by omega)) := List.getElem?_eq_getElem (by omega)
    refine ⟨_, _, _, ?_, h1.trans hys⟩
    rw [← Go.Deep.add_add, hcell, hv]
end
def ActR.Fit (x : ActR) : Prop := (-9223372036854775808 ≤ x.f ∧ x.f ≤ 9223372036854775807) ∧ (-9223372036854775808 ≤ x.t ∧ x.t ≤ 9223372036854775807) ∧ (-9223372036854775808 ≤ x.id ∧ x.id ≤ 9223372036854775807)
set_option maxRecDepth 100000 in
theorem open_act {H : Type} {enc : TypeId × Value → H} {w : World} {base : Nat} {spare : Nat → Bool} {held : Bool} {r : Reach} {b0 : Nat} {v : Value} {d : DataW H} {p : List MemPlace}
    (hv : Value.okWide Try.prog w r b0 63 v) (h : DataW.Trod enc Try.prog w base spare held 63 v d p) : ∃ o : ActR, v = .agg #[.int .i64 o.kind, .int .i64 o.f, .int .i64 o.t, .string o.val, .int .i64 o.id] ∧ o.Fit := by
  obtain ⟨cs, rfl, hsz, hr⟩ := open_flat Try.underlying63 (by kernel_rfl) (by kernel_rfl) hv h
  obtain ⟨c0, c1, c2, c3, c4, rfl⟩ := array5 (hsz.trans rfl)
  obtain ⟨n0, y0, h0⟩ := hr 0 _ _ rfl rfl
  obtain ⟨n1, y1, h1⟩ := hr 1 _ _ rfl rfl
  obtain ⟨n2, y2, h2⟩ := hr 2 _ _ rfl rfl
  obtain ⟨n3, y3, h3⟩ := hr 3 _ _ rfl rfl
  obtain ⟨n4, y4, h4⟩ := hr 4 _ _ rfl rfl
  clear hr
  obtain ⟨a0, e0, -, w0⟩ := DataW.trod_int Try.underlying3 h0
  obtain ⟨a1, e1, -, w1⟩ := DataW.trod_int Try.underlying3 h1
  obtain ⟨a2, e2, -, w2⟩ := DataW.trod_int Try.underlying3 h2
  obtain ⟨a3, e3, -⟩ := DataW.trod_string Try.underlying9 h3
  obtain ⟨a4, e4, -, w4⟩ := DataW.trod_int Try.underlying3 h4
  simp only [List.cons.injEq, and_true] at e0 e1 e2 e3 e4
  subst e0 e1 e2 e3 e4
  exact ⟨⟨a0, a1, a2, a3, a4⟩, rfl, wf_i64 w1, wf_i64 w2, wf_i64 w4⟩
/-- One call of a list that is read. -/
def ActAt (w : World) (b o : Nat) (x : ActR) : Prop := w.cell? ⟨b, o, none⟩ = some (.int .i64 x.kind) ∧ w.cell? ⟨b, o + 1, none⟩ = some (.int .i64 x.f) ∧ w.cell? ⟨b, o + 2, none⟩ = some (.int .i64 x.t) ∧ w.cell? ⟨b, o + 3, none⟩ = some (.string x.val) ∧ w.cell? ⟨b, o + 4, none⟩ = some (.int .i64 x.id)
def Acts (w : World) (v : Value) (l : List ActR) : Prop := ∃ p cap, v = .slice p l.length cap ∧ l.length ≤ 5000000000000 ∧ (∀ x ∈ l, x.Fit) ∧
  (0 < l.length → ∃ b off, p = some ⟨b, off, none⟩ ∧ ∀ i (hi : i < l.length), ActAt w b (off + i * 5) l[i])
theorem Acts.nil (w : World) : Acts w (.slice none 0 0) [] := ⟨none, 0, rfl, by simp, (fun x hx => by cases hx), fun h => by simp at h⟩
section
variable {H : Type} {enc : TypeId × Value → H} {w : World} {base : Nat} {spare : Nat → Bool} {held : Bool}
set_option maxRecDepth 100000 in
/-- A list of calls that came in. -/
theorem open_acts {fuel : Nat} {cs : List Value} {x : DataW H × List MemPlace}
    (h : DataW.trod enc Try.prog w base spare held fuel 22 cs = some x)
    (hs : ∀ (elems sp : List (DataW H)), x.1 = .slice elems sp → elems.length + sp.length ≤ 5000000000000) :
    ∃ l : List ActR, ∃ v, cs = [v] ∧ Acts w v l := by
  rcases open_flat_slice Try.underlying22 Try.underlying63 (by kernel_rfl) (by kernel_rfl) h with h0 | ⟨a, len, cap, m, D, hcs, hl, hm, hlm, hx, hi⟩
  · exact ⟨[], _, h0, Acts.nil w⟩
  · have hre := hs _ _ hx
    rw [List.length_map, List.length_map, List.length_range, List.length_range] at hre
    have key : ∀ i, i < len → ∃ o : ActR, (w.cell? (a.add (i * 5 + 0)) = some (.int .i64 o.kind) ∧ w.cell? (a.add (i * 5 + 1)) = some (.int .i64 o.f) ∧ w.cell? (a.add (i * 5 + 2)) = some (.int .i64 o.t) ∧ w.cell? (a.add (i * 5 + 3)) = some (.string o.val) ∧ w.cell? (a.add (i * 5 + 4)) = some (.int .i64 o.id)) ∧ o.Fit := by
      intro i hi'
      obtain ⟨v0, y0, n0, c0, t0⟩ := hi i hi' 0 _ rfl
      obtain ⟨v1, y1, n1, c1, t1⟩ := hi i hi' 1 _ rfl
      obtain ⟨v2, y2, n2, c2, t2⟩ := hi i hi' 2 _ rfl
      obtain ⟨v3, y3, n3, c3, t3⟩ := hi i hi' 3 _ rfl
      obtain ⟨v4, y4, n4, c4, t4⟩ := hi i hi' 4 _ rfl
      obtain ⟨a0, e0, -, -⟩ := DataW.trod_int Try.underlying3 t0
      obtain ⟨a1, e1, -, w1⟩ := DataW.trod_int Try.underlying3 t1
      obtain ⟨a2, e2, -, w2⟩ := DataW.trod_int Try.underlying3 t2
      obtain ⟨a3, e3, -, w3⟩ := DataW.trod_string Try.underlying9 t3
      obtain ⟨a4, e4, -, w4⟩ := DataW.trod_int Try.underlying3 t4
      simp only [List.cons.injEq, and_true] at e0 e1 e2 e3 e4
      subst e0 e1 e2 e3 e4
      exact ⟨⟨a0, a1, a2, a3, a4⟩, ⟨c0, c1, c2, c3, c4⟩, wf_i64 w1, wf_i64 w2, wf_i64 w4⟩
    have hch : ∃ f : Nat → ActR, ∀ i, i < len → (w.cell? (a.add (i * 5 + 0)) = some (.int .i64 (f i).kind) ∧ w.cell? (a.add (i * 5 + 1)) = some (.int .i64 (f i).f) ∧ w.cell? (a.add (i * 5 + 2)) = some (.int .i64 (f i).t) ∧ w.cell? (a.add (i * 5 + 3)) = some (.string (f i).val) ∧ w.cell? (a.add (i * 5 + 4)) = some (.int .i64 (f i).id)) ∧ (f i).Fit := by
      classical
      refine ⟨fun i => if h : i < len then Classical.choose (key i h) else ⟨0, 0, 0, ByteArray.empty, 0⟩, fun i hi' => ?_⟩
      simp only [dif_pos hi']
      exact Classical.choose_spec (key i hi')
    obtain ⟨f, hf⟩ := hch
    refine ⟨(List.range len).map f, _, hcs, ⟨some a, cap, by simp, by simp; omega, ?_, fun h0 => ?_⟩⟩
    · intro x hx
      obtain ⟨i, hi', rfl⟩ := List.mem_map.1 hx
      exact (hf i (List.mem_range.1 hi')).2
    · have h0' : 0 < len := by simpa using h0
      obtain ⟨b, off, sp⟩ := a
      obtain ⟨⟨f0, _⟩, _⟩ := hf 0 h0'
      have hsp : sp = none := by
        cases sp with
        | none => rfl
        | some q => exact absurd f0 (by simp [World.cell?, Addr.add]; split <;> simp)
      subst hsp
      refine ⟨b, off, rfl, fun i hi' => ?_⟩
      have hi'' : i < len := by simpa using hi'
      obtain ⟨⟨g0, g1, g2, g3, g4⟩, _⟩ := hf i hi''
      simp only [Addr.add_lit, ← Nat.add_assoc] at g0 g1 g2 g3 g4
      simp only [List.getElem_map, List.getElem_range]
      exact ⟨g0, g1, g2, g3, g4⟩
end
end Go.Proofs.Ythmbnffddpnehaa
