/- How a call's data that came in by value is opened. -/
import Derived.Test.YtjccfodadiaokaaLawBase
import Derived.Lib.SmallJoins
namespace Go.Proofs.Ytjccfodadiaokaa
open Go.RowKit Go.Joins Go.ChangeShapes Go.WideShapes Go.Deep Go.WideElems Go.Maps
open Go.ChangeMaps (open_string shut_string)
set_option linter.unusedVariables false
/-- A call. -/
structure ActR where
  kind : Int
  key : Int
  val : ByteArray
section
variable {H : Type} {enc : TypeId × Value → H} {P : Program} {w : World} {base : Nat} {spare : Nat → Bool} {held : Bool}
/-- A struct whose fields take one cell each, by value: its cells, each read as its field. -/
theorem open_flat {r : Reach} {b0 : Nat} {t : TypeId} {fs : Array Field} {v : Value} {d : DataW H} {p : List MemPlace} (hs : P.underlying t = some (.struct fs)) (hone : oneCellFields P fs = true) (hC : P.cellsOf t = fs.size)
    (hv : Value.okWide P w r b0 t v) (h : DataW.Trod enc P w base spare held t v d p) :
    ∃ cs : Array Value, v = .agg cs ∧ cs.size = fs.size ∧ ∀ (j : Nat) (f : Field) (c : Value), fs[j]? = some f → cs[j]? = some c → ∃ n y, DataW.trod enc P w base spare held n f.type [c] = some y := by
  obtain ⟨cs, rfl, hsz⟩ := okWide_struct hs hv
  obtain ⟨fuel, hf⟩ := h
  obtain ⟨xs, n, _, _, hl, hlen, hr⟩ := DataW.trod_struct hs hf
  refine ⟨cs, rfl, hsz.trans hC, fun j f c hj hc => ?_⟩
  have h1 := hr j f hj
  obtain ⟨o1, k1⟩ := hone_of hone j f hj
  rw [o1, k1] at h1
  have hjl : j < cs.size := (Array.getElem?_eq_some_iff.1 hc).1
  have hcl : cs[j] = c := (Array.getElem?_eq_some_iff.1 hc).2
  have e : ((Value.agg cs).cells.toList.drop j).take 1 = [c] := by
    have hl2 : j < cs.toList.length := by simpa using hjl
    simp only [Value.cells]
    rw [List.drop_eq_getElem_cons hl2, List.take_succ_cons, List.take_zero]
    simpa using hcl
  rw [e] at h1
  rw [List.getElem?_eq_getElem (by have := (Array.getElem?_eq_some_iff.1 hj).1; omega)] at h1
  exact ⟨_, _, h1⟩
theorem array3 {α : Type} {cs : Array α} (h : cs.size = 3) : ∃ c0 c1 c2, cs = #[c0, c1, c2] := by
  obtain ⟨l⟩ := cs
  match l, h with
  | [c0, c1, c2], _ => exact ⟨c0, c1, c2, rfl⟩
end
set_option maxRecDepth 100000 in
theorem open_act {H : Type} {enc : TypeId × Value → H} {w : World} {base : Nat} {spare : Nat → Bool} {held : Bool} {r : Reach} {b0 : Nat} {v : Value} {d : DataW H} {p : List MemPlace}
    (hv : Value.okWide Try.prog w r b0 37 v) (h : DataW.Trod enc Try.prog w base spare held 37 v d p) : ∃ o : ActR, v = .agg #[.int .i64 o.kind, .int .i64 o.key, .string o.val] := by
  obtain ⟨cs, rfl, hsz, hr⟩ := open_flat Try.underlying37 (by kernel_rfl) (by kernel_rfl) hv h
  obtain ⟨c0, c1, c2, rfl⟩ := array3 (hsz.trans rfl)
  obtain ⟨n0, y0, h0⟩ := hr 0 _ _ rfl rfl
  obtain ⟨n1, y1, h1⟩ := hr 1 _ _ rfl rfl
  obtain ⟨n2, y2, h2⟩ := hr 2 _ _ rfl rfl
  clear hr
  obtain ⟨a0, e0, -, w0⟩ := DataW.trod_int Try.underlying3 h0
  obtain ⟨a1, e1, -, w1⟩ := DataW.trod_int Try.underlying3 h1
  obtain ⟨a2, e2, -⟩ := DataW.trod_string Try.underlying9 h2
  simp only [List.cons.injEq, and_true] at e0 e1 e2
  subst e0 e1 e2
  exact ⟨⟨a0, a1, a2⟩, rfl⟩
end Go.Proofs.Ytjccfodadiaokaa
