/- How an operation that came in by value is opened. -/
import Derived.Test.YtlhgdbangnohjaaOpPlain
import Derived.Test.YtlhgdbangnohjaaLawBase
import Derived.Lib.SmallJoins
namespace Go.Proofs.Ytlhgdbangnohjaa
open Go.RowKit Go.Joins Go.ChangeShapes Go.WideShapes Go.Deep Go.WideElems Go.Maps
set_option linter.unusedVariables false
section
variable {H : Type} {enc : TypeId × Value → H} {P : Program} {w : World} {base : Nat} {spare : Nat → Bool} {held : Bool}
/-- A struct whose fields take one cell each, by value: its cells, each read as its field. -/
theorem open_flat {r : Reach} {b0 : Nat} {t : TypeId} {fs : Array Field} {v : Value} {d : DataW H} {p : List MemPlace} (hs : P.underlying t = some (.struct fs)) (hone : oneCellFields P fs = true) (hC : P.cellsOf t = fs.size)
    (hv : Value.okWide P w r b0 t v) (h : DataW.Trod enc P w base spare held t v d p) :
    ∃ cs : Array Value, v = .agg cs ∧ cs.size = fs.size ∧ ∀ (j : Nat) (f : Field) (c : Value), fs[j]? = some f → cs[j]? = some c → ∃ n y, DataW.trod enc P w base spare held n f.type [c] = some y := by
  obtain ⟨cs, rfl, hsz⟩ := okWide_struct hs hv
  obtain ⟨fuel, hf⟩ := h
  obtain ⟨xs, n, _, _, hl, hlen, hr⟩ := DataW.trod_struct hs hf
  refine ⟨cs, rfl, hsz.trans hC, fun j f c hj hc => ?_⟩
  have h1 := hr j f hj
  obtain ⟨o1, k1⟩ := hone_of hone j f hj
  rw [o1, k1] at h1
  have hjl : j < cs.size := (Array.getElem?_eq_some_iff.1 hc).1
  have hcl : cs[j] = c := (Array.getElem?_eq_some_iff.1 hc).2
  have e : ((Value.agg cs).cells.toList.drop j).take 1 = [c] := by
    have hl2 : j < cs.toList.length := by simpa using hjl
    simp only [Value.cells]
    rw [List.drop_eq_getElem_cons hl2, List.take_succ_cons, List.take_zero]
    simpa using hcl
  rw [e] at h1
  rw [List.getElem?_eq_getElem (by have := (Array.getElem?_eq_some_iff.1 hj).1; omega)] at h1
  exact ⟨_, _, h1⟩
theorem array11 {α : Type} {cs : Array α} (h : cs.size = 11) : ∃ c0 c1 c2 c3 c4 c5 c6 c7 c8 c9 c10, cs = #[c0, c1, c2, c3, c4, c5, c6, c7, c8, c9, c10] := by
  obtain ⟨l⟩ := cs
  match l, h with
  | [c0, c1, c2, c3, c4, c5, c6, c7, c8, c9, c10], _ => exact ⟨c0, c1, c2, c3, c4, c5, c6, c7, c8, c9, c10, rfl⟩
end
/-- An int64. -/
def I64 (a : Int) : Prop := -9223372036854775808 ≤ a ∧ a ≤ 9223372036854775807
/-- An operation's numbers are int64. -/
structure OpR.Fit (o : OpR) : Prop where
  id : I64 o.id
  proc : I64 o.proc
  obj : I64 o.obj
  kind : I64 o.kind
  meth : I64 o.meth
  arg : I64 o.arg
  sec : I64 o.sec
  res : I64 o.res
  inv : I64 o.inv
  ret : I64 o.ret
set_option maxRecDepth 100000 in
/-- An operation that came in by value. -/
theorem open_op {H : Type} {enc : TypeId × Value → H} {w : World} {base : Nat} {spare : Nat → Bool} {held : Bool} {r : Reach} {b0 : Nat} {v : Value} {d : DataW H} {p : List MemPlace}
    (hv : Value.okWide Try.prog w r b0 52 v) (h : DataW.Trod enc Try.prog w base spare held 52 v d p) : ∃ o : OpR, v = .agg #[.int .i64 o.id, .int .i64 o.proc, .int .i64 o.obj, .int .i64 o.kind, .int .i64 o.meth, .int .i64 o.arg, .int .i64 o.sec, .bool o.done, .int .i64 o.res, .int .i64 o.inv, .int .i64 o.ret] ∧ o.Fit := by
  obtain ⟨cs, rfl, hsz, hr⟩ := open_flat Try.underlying52 (by kernel_rfl) (by kernel_rfl) hv h
  obtain ⟨c0, c1, c2, c3, c4, c5, c6, c7, c8, c9, c10, rfl⟩ := array11 (hsz.trans rfl)
  obtain ⟨n0, y0, h0⟩ := hr 0 _ _ rfl rfl
  obtain ⟨n1, y1, h1⟩ := hr 1 _ _ rfl rfl
  obtain ⟨n2, y2, h2⟩ := hr 2 _ _ rfl rfl
  obtain ⟨n3, y3, h3⟩ := hr 3 _ _ rfl rfl
  obtain ⟨n4, y4, h4⟩ := hr 4 _ _ rfl rfl
  obtain ⟨n5, y5, h5⟩ := hr 5 _ _ rfl rfl
  obtain ⟨n6, y6, h6⟩ := hr 6 _ _ rfl rfl
  obtain ⟨n7, y7, h7⟩ := hr 7 _ _ rfl rfl
  obtain ⟨n8, y8, h8⟩ := hr 8 _ _ rfl rfl
  obtain ⟨n9, y9, h9⟩ := hr 9 _ _ rfl rfl
  obtain ⟨n10, y10, h10⟩ := hr 10 _ _ rfl rfl
  clear hr
  obtain ⟨a0, e0, -, w0⟩ := DataW.trod_int Try.underlying3 h0
  obtain ⟨a1, e1, -, w1⟩ := DataW.trod_int Try.underlying3 h1
  obtain ⟨a2, e2, -, w2⟩ := DataW.trod_int Try.underlying3 h2
  obtain ⟨a3, e3, -, w3⟩ := DataW.trod_int Try.underlying3 h3
  obtain ⟨a4, e4, -, w4⟩ := DataW.trod_int Try.underlying3 h4
  obtain ⟨a5, e5, -, w5⟩ := DataW.trod_int Try.underlying3 h5
  obtain ⟨a6, e6, -, w6⟩ := DataW.trod_int Try.underlying3 h6
  obtain ⟨a7, e7, -⟩ := DataW.trod_bool Try.underlying4 h7
  obtain ⟨a8, e8, -, w8⟩ := DataW.trod_int Try.underlying3 h8
  obtain ⟨a9, e9, -, w9⟩ := DataW.trod_int Try.underlying3 h9
  obtain ⟨a10, e10, -, w10⟩ := DataW.trod_int Try.underlying3 h10
  simp only [List.cons.injEq, and_true] at e0 e1 e2 e3 e4 e5 e6 e7 e8 e9 e10
  subst e0 e1 e2 e3 e4 e5 e6 e7 e8 e9 e10
  exact ⟨⟨a0, a1, a2, a3, a4, a5, a6, a7, a8, a9, a10⟩, rfl, ⟨wf_i64 w0, wf_i64 w1, wf_i64 w2, wf_i64 w3, wf_i64 w4, wf_i64 w5, wf_i64 w6, wf_i64 w8, wf_i64 w9, wf_i64 w10⟩⟩
end Go.Proofs.Ytlhgdbangnohjaa
