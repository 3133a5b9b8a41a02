/- How heads and lists of pages that came in are opened. -/
import Derived.Test.YtcfkcdfjianeiaaJMem
import Derived.Test.YtcfkcdfjianeiaaJHead
import Derived.Test.YtcfkcdfjianeiaaLawBase
import Derived.Lib.SmallJoins
import Derived.Deep.Slices
import Derived.Deep.Fields
import Derived.ChangeSame
namespace Go.Proofs.Ytcfkcdfjianeiaa
open Go.RowKit Go.Joins Go.ChangeShapes Go.WideShapes Go.Deep Go.WideElems Go.Maps
set_option linter.unusedVariables false
section
variable {H : Type} {enc : TypeId × Value → H} {P : Program} {w : World} {base : Nat} {spare : Nat → Bool} {held : Bool}
/-- A struct whose fields take one cell each, by value: its cells, each read as its field. -/
theorem open_flat {r : Reach} {b0 : Nat} {t : TypeId} {fs : Array Field} {v : Value} {d : DataW H} {p : List MemPlace} (hs : P.underlying t = some (.struct fs)) (hone : oneCellFields P fs = true) (hC : P.cellsOf t = fs.size)
    (hv : Value.okWide P w r b0 t v) (h : DataW.Trod enc P w base spare held t v d p) :
    ∃ cs : Array Value, v = .agg cs ∧ cs.size = fs.size ∧ ∀ (j : Nat) (f : Field) (c : Value), fs[j]? = some f → cs[j]? = some c → ∃ n y, DataW.trod enc P w base spare held n f.type [c] = some y := by
  obtain ⟨cs, rfl, hsz⟩ := okWide_struct hs hv
  obtain ⟨fuel, hf⟩ := h
  obtain ⟨xs, n, _, _, hl, hlen, hr⟩ := DataW.trod_struct hs hf
  refine ⟨cs, rfl, hsz.trans hC, fun j f c hj hc => ?_⟩
  have h1 := hr j f hj
  obtain ⟨o1, k1⟩ := hone_of hone j f hj
  rw [o1, k1] at h1
  have hjl : j < cs.size := (Array.getElem?_eq_some_iff.1 hc).1
  have hcl : cs[j] = c := (Array.getElem?_eq_some_iff.1 hc).2
  have e : ((Value.agg cs).cells.toList.drop j).take 1 = [c] := by
    have hl2 : j < cs.toList.length := by simpa using hjl
    simp only [Value.cells]
    rw [List.drop_eq_getElem_cons hl2, List.take_succ_cons, List.take_zero]
    simpa using hcl
  rw [e] at h1
  rw [List.getElem?_eq_getElem (by have := (Array.getElem?_eq_some_iff.1 hj).1; omega)] at h1
  exact ⟨_, _, h1⟩
theorem array4 {α : Type} {cs : Array α} (h : cs.size = 4) : ∃ c0 c1 c2 c3, cs = #[c0, c1, c2, c3] := by
  obtain ⟨l⟩ := cs
  match l, h with
  | [c0, c1, c2, c3], _ => exact ⟨c0, c1, c2, c3, rfl⟩
/-- A slice of structs whose fields take one cell each. -/
theorem open_flat_slice {t e : TypeId} {fs : Array Field} {fuel : Nat} {cs : List Value} {x : DataW H × List MemPlace} (ht : P.underlying t = some (.slice e)) (he : P.underlying e = some (.struct fs))
    (hone : oneCellFields P fs = true) (hC : P.cellsOf e = fs.size) (h : DataW.trod enc P w base spare held fuel t cs = some x) :
    cs = [.slice none 0 0] ∨
    ∃ (a : Addr) (len cap m : Nat) (D : Nat → DataW H), cs = [.slice (some a) len cap] ∧ len ≤ cap ∧ cap ≤ maxLen ∧ len ≤ m ∧ x.1 = .slice ((List.range len).map D) ((List.range (m - len)).map fun j => D (len + j)) ∧
      ∀ i, i < len → ∀ (j : Nat) (f : Field), fs[j]? = some f → ∃ (v : Value) (y : DataW H × List MemPlace) (n : Nat), w.cell? (a.add (i * fs.size + j)) = some v ∧ DataW.trod enc P w base spare held n f.type [v] = some y := by
  rcases open_slice ht h with h0 | ⟨a, len, cap, m, n, D, Pl, hcs, hb, hl, hm, hmm, hx, hi⟩
  · exact .inl h0.1
  · refine .inr ⟨a, len, cap, m, D, hcs, hl, hm, by rw [hmm]; split <;> omega, by rw [hx], fun i him j f hj => ?_⟩
    obtain ⟨cs', hc, ht'⟩ := hi i (by rw [hmm]; split <;> omega)
    rw [hC] at hc
    obtain ⟨ys, n', hn', hy, hlen, hyl, hf⟩ := DataW.trod_struct he ht'
    obtain ⟨_, hcl, hat⟩ := World.cells?_some hc
    obtain ⟨ho, hk⟩ := hone_of hone j f hj
    have hjl : j < fs.size := (Array.getElem?_eq_some_iff.1 hj).1
    have hcell := hat j hjl
    have hv : cs'[j]? = some (cs'[j]'(by omega)) := List.getElem?_eq_getElem (by omega)
    have h1 := hf j f hj
    rw [ho, hk] at h1
    have hone' : (cs'.drop j).take 1 = [cs'[j]'(by omega)] := by
      rw [List.drop_eq_getElem_cons (by omega)]
      rfl
    rw [hone'] at h1
    have hys : ys[j]? = some (ys[j]'(by omega)) := List.getElem?_eq_getElem (by omega)
    refine ⟨_, _, _, ?_, h1.trans hys⟩
    rw [← Go.Deep.add_add, hcell, hv]
end
/-- A head that came in by value. -/
def HeadR.Fit (h : HeadR) : Prop := h.seq < 18446744073709551616
theorem open_head {H : Type} {enc : TypeId × Value → H} {w : World} {base : Nat} {spare : Nat → Bool} {held : Bool} {r : Reach} {b0 : Nat} {v : Value} {d : DataW H} {p : List MemPlace}
    (hv : Value.okWide Try.prog w r b0 35 v) (h : DataW.Trod enc Try.prog w base spare held 35 v d p) : ∃ o : HeadR, v = headV o ∧ o.Fit := by
  obtain ⟨cs, rfl, hsz, hr⟩ := open_flat Try.underlying35 (by kernel_rfl) (by kernel_rfl) hv h
  obtain ⟨c0, c1, c2, c3, rfl⟩ := array4 (hsz.trans rfl)
  obtain ⟨n0, y0, h0⟩ := hr 0 _ _ rfl rfl
  obtain ⟨n1, y1, h1⟩ := hr 1 _ _ rfl rfl
  obtain ⟨n2, y2, h2⟩ := hr 2 _ _ rfl rfl
  obtain ⟨n3, y3, h3⟩ := hr 3 _ _ rfl rfl
  clear hr
  obtain ⟨a0, e0, -, w0⟩ := DataW.trod_int Try.underlying33 h0
  obtain ⟨a1, e1, -, w1⟩ := DataW.trod_int Try.underlying3 h1
  obtain ⟨a2, e2, -, w2⟩ := DataW.trod_int Try.underlying3 h2
  obtain ⟨a3, e3, -, w3⟩ := DataW.trod_int Try.underlying3 h3
  simp only [List.cons.injEq, and_true] at e0 e1 e2 e3
  subst e0 e1 e2 e3
  have b0 := wf_u64 w0
  obtain ⟨m, rfl⟩ : ∃ m : Nat, a0 = m := ⟨a0.toNat, by omega⟩
  exact ⟨⟨m, a1, a2, a3⟩, rfl, by show m < _; omega⟩
def PagesFit (l : List PageR) : Prop := ∀ p ∈ l, -9223372036854775808 ≤ p.pos ∧ p.pos ≤ 9223372036854775807 ∧ p.data.size ≤ 9223372036854775807
/-- A list of pages that came in. -/
theorem open_pages {H : Type} {enc : TypeId × Value → H} {w : World} {base : Nat} {spare : Nat → Bool} {held : Bool} {fuel : Nat} {cs : List Value} {x : DataW H × List MemPlace}
    (h : DataW.trod enc Try.prog w base spare held fuel 22 cs = some x)
    (hs : ∀ (elems sp : List (DataW H)), x.1 = .slice elems sp → (elems.length + sp.length) * Try.prog.bytesOf 50 ≤ 140737488351232) :
    ∃ l : List PageR, ∃ v, cs = [v] ∧ Pages w v l ∧ PagesFit l := by
  rcases open_flat_slice Try.underlying22 Try.underlying50 (by kernel_rfl) (by kernel_rfl) h with h0 | ⟨a, len, cap, m, D, hcs, hl, hm, hlm, hx, hi⟩
  · exact ⟨[], _, h0, ⟨none, 0, rfl, by simp, fun h => by simp at h⟩, fun p hp => by cases hp⟩
  · have hby : Try.prog.bytesOf 50 = 24 := by kernel_rfl
    have hre := hs _ _ hx
    rw [hby, List.length_map, List.length_map, List.length_range, List.length_range] at hre
    have key : ∀ i, i < len → ∃ p : PageR, w.cell? (a.add (i * 2)) = some (.int .i64 p.pos) ∧ w.cell? (a.add (i * 2 + 1)) = some (.string p.data) ∧ -9223372036854775808 ≤ p.pos ∧ p.pos ≤ 9223372036854775807 ∧ p.data.size ≤ 9223372036854775807 := by
      intro i hi'
      obtain ⟨v0, y0, n0, c0, t0⟩ := hi i hi' 0 _ rfl
      obtain ⟨v1, y1, n1, c1, t1⟩ := hi i hi' 1 _ rfl
      obtain ⟨a0, e0, -, w0⟩ := DataW.trod_int Try.underlying3 t0
      obtain ⟨s1, e1, -, w1⟩ := DataW.trod_string Try.underlying9 t1
      simp only [List.cons.injEq, and_true] at e0 e1
      subst e0 e1
      have b0 := wf_i64 w0
      unfold maxLen at w1
      exact ⟨⟨a0, s1⟩, c0, c1, b0.1, b0.2, w1⟩
    have hch : ∃ f : Nat → PageR, ∀ i, i < len → w.cell? (a.add (i * 2)) = some (.int .i64 (f i).pos) ∧ w.cell? (a.add (i * 2 + 1)) = some (.string (f i).data) ∧ -9223372036854775808 ≤ (f i).pos ∧ (f i).pos ≤ 9223372036854775807 ∧ (f i).data.size ≤ 9223372036854775807 := by
      classical
      refine ⟨fun i => if h : i < len then Classical.choose (key i h) else ⟨0, ⟨#[]⟩⟩, fun i hi' => ?_⟩
      simp only [dif_pos hi']
      exact Classical.choose_spec (key i hi')
    obtain ⟨f, hf⟩ := hch
    refine ⟨(List.range len).map f, _, hcs, ⟨some a, cap, by simp, by simp; omega, fun h0 => ?_⟩, ?_⟩
    · have h0' : 0 < len := by simpa using h0
      obtain ⟨b, off, sp⟩ := a
      obtain ⟨f0, _⟩ := hf 0 h0'
      have hsp : sp = none := by
        cases sp with
        | none => rfl
        | some q => exact absurd f0 (by simp [World.cell?, Addr.add]; split <;> simp)
      subst hsp
      refine ⟨b, off, rfl, fun i hi' => ?_⟩
      have hi'' : i < len := by simpa using hi'
      obtain ⟨g0, g1, _⟩ := hf i hi''
      rw [Addr.add_lit] at g0 g1
      simp only [List.getElem_map, List.getElem_range]
      exact ⟨g0, by rw [Nat.add_assoc]; exact g1⟩
    · intro p hp
      obtain ⟨i, hi', rfl⟩ := List.mem_map.1 hp
      obtain ⟨_, _, h1⟩ := hf i (by simpa using hi')
      exact h1
end Go.Proofs.Ytcfkcdfjianeiaa
