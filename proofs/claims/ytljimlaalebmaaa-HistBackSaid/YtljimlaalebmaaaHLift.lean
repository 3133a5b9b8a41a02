/- A list of operations that came in: its answers are int64. -/
import Derived.Test.YtljimlaalebmaaaHCheck
namespace Go.Proofs.Ytljimlaalebmaaa
open Go.RowKit
set_option linter.unusedVariables false
section
open Go.Joins Go.ChangeShapes Go.WideShapes Go.Deep Go.WideElems Go.Maps
variable {H : Type} {enc : TypeId × Value → H} {P : Program} {w : World} {base : Nat} {spare : Nat → Bool} {held : Bool}
/-- A list of operations that came in. -/
theorem open_opsF {fuel : Nat} {cs : List Value} {x : DataW H × List MemPlace} {B : Nat} (hB : B ≤ 1600000000000)
    (h : DataW.trod enc Try.prog w base spare held fuel 23 cs = some x)
    (hs : ∀ (elems sp : List (DataW H)), x.1 = .slice elems sp → elems.length + sp.length ≤ B) :
    ∃ l : List OpR, ∃ v, cs = [v] ∧ Ops w v l ∧ l.length ≤ B ∧ ∀ k, k < l.length → I64 (opAt l k).res := by
  rcases open_flat_slice Try.underlying23 Try.underlying25 (by kernel_rfl) (by kernel_rfl) h with h0 | ⟨a, len, cap, m, D, hcs, hl, hm, hlm, hx, hi⟩
  · exact ⟨[], _, h0, Ops.nil w, by simp, fun k hk => by simp at hk⟩
  · have hre := hs _ _ hx
    rw [List.length_map, List.length_map, List.length_range, List.length_range] at hre
    have key : ∀ i, i < len → ∃ o : OpR, w.cell? (a.add (i * 11 + 0)) = some (.int .i64 o.id) ∧ w.cell? (a.add (i * 11 + 1)) = some (.int .i64 o.proc) ∧ w.cell? (a.add (i * 11 + 2)) = some (.int .i64 o.obj) ∧ w.cell? (a.add (i * 11 + 3)) = some (.int .i64 o.kind) ∧ w.cell? (a.add (i * 11 + 4)) = some (.int .i64 o.meth) ∧ w.cell? (a.add (i * 11 + 5)) = some (.int .i64 o.arg) ∧ w.cell? (a.add (i * 11 + 6)) = some (.int .i64 o.sec) ∧ w.cell? (a.add (i * 11 + 7)) = some (.bool o.done) ∧ w.cell? (a.add (i * 11 + 8)) = some (.int .i64 o.res) ∧ w.cell? (a.add (i * 11 + 9)) = some (.int .i64 o.inv) ∧ w.cell? (a.add (i * 11 + 10)) = some (.int .i64 o.ret) ∧ I64 o.res := by
      intro i hi'
      obtain ⟨v0, y0, n0, c0, t0⟩ := hi i hi' 0 _ rfl
      obtain ⟨v1, y1, n1, c1, t1⟩ := hi i hi' 1 _ rfl
      obtain ⟨v2, y2, n2, c2, t2⟩ := hi i hi' 2 _ rfl
      obtain ⟨v3, y3, n3, c3, t3⟩ := hi i hi' 3 _ rfl
      obtain ⟨v4, y4, n4, c4, t4⟩ := hi i hi' 4 _ rfl
      obtain ⟨v5, y5, n5, c5, t5⟩ := hi i hi' 5 _ rfl
      obtain ⟨v6, y6, n6, c6, t6⟩ := hi i hi' 6 _ rfl
      obtain ⟨v7, y7, n7, c7, t7⟩ := hi i hi' 7 _ rfl
      obtain ⟨v8, y8, n8, c8, t8⟩ := hi i hi' 8 _ rfl
      obtain ⟨v9, y9, n9, c9, t9⟩ := hi i hi' 9 _ rfl
      obtain ⟨v10, y10, n10, c10, t10⟩ := hi i hi' 10 _ rfl
      obtain ⟨a0, e0, -, -⟩ := DataW.trod_int Try.underlying3 t0
      obtain ⟨a1, e1, -, -⟩ := DataW.trod_int Try.underlying3 t1
      obtain ⟨a2, e2, -, -⟩ := DataW.trod_int Try.underlying3 t2
      obtain ⟨a3, e3, -, -⟩ := DataW.trod_int Try.underlying3 t3
      obtain ⟨a4, e4, -, -⟩ := DataW.trod_int Try.underlying3 t4
      obtain ⟨a5, e5, -, -⟩ := DataW.trod_int Try.underlying3 t5
      obtain ⟨a6, e6, -, -⟩ := DataW.trod_int Try.underlying3 t6
      obtain ⟨a7, e7, -⟩ := DataW.trod_bool Try.underlying4 t7
      obtain ⟨a8, e8, -, u8⟩ := DataW.trod_int Try.underlying3 t8
      obtain ⟨a9, e9, -, -⟩ := DataW.trod_int Try.underlying3 t9
      obtain ⟨a10, e10, -, -⟩ := DataW.trod_int Try.underlying3 t10
      simp only [List.cons.injEq, and_true] at e0 e1 e2 e3 e4 e5 e6 e7 e8 e9 e10
      subst e0 e1 e2 e3 e4 e5 e6 e7 e8 e9 e10
      exact ⟨⟨a0, a1, a2, a3, a4, a5, a6, a7, a8, a9, a10⟩, c0, c1, c2, c3, c4, c5, c6, c7, c8, c9, c10, wf_i64 u8⟩
    have hch : ∃ f : Nat → OpR, ∀ i, i < len → w.cell? (a.add (i * 11 + 0)) = some (.int .i64 (f i).id) ∧ w.cell? (a.add (i * 11 + 1)) = some (.int .i64 (f i).proc) ∧ w.cell? (a.add (i * 11 + 2)) = some (.int .i64 (f i).obj) ∧ w.cell? (a.add (i * 11 + 3)) = some (.int .i64 (f i).kind) ∧ w.cell? (a.add (i * 11 + 4)) = some (.int .i64 (f i).meth) ∧ w.cell? (a.add (i * 11 + 5)) = some (.int .i64 (f i).arg) ∧ w.cell? (a.add (i * 11 + 6)) = some (.int .i64 (f i).sec) ∧ w.cell? (a.add (i * 11 + 7)) = some (.bool (f i).done) ∧ w.cell? (a.add (i * 11 + 8)) = some (.int .i64 (f i).res) ∧ w.cell? (a.add (i * 11 + 9)) = some (.int .i64 (f i).inv) ∧ w.cell? (a.add (i * 11 + 10)) = some (.int .i64 (f i).ret) ∧ I64 (f i).res := by
      classical
      refine ⟨fun i => if h : i < len then Classical.choose (key i h) else ⟨0, 0, 0, 0, 0, 0, 0, false, 0, 0, 0⟩, fun i hi' => ?_⟩
      simp only [dif_pos hi']
      exact Classical.choose_spec (key i hi')
    obtain ⟨f, hf⟩ := hch
    refine ⟨(List.range len).map f, _, hcs, ⟨some a, cap, by simp, by simp; omega, fun h0 => ?_⟩, by simp; omega, fun k hk => ?_⟩
    rotate_left
    · have hk' : k < len := by simpa using hk
      rw [opAt_eq hk]
      simp only [List.getElem_map, List.getElem_range]
      exact (hf k hk').2.2.2.2.2.2.2.2.2.2.2
    have h0' : 0 < len := by simpa using h0
    obtain ⟨b, off, sp⟩ := a
    obtain ⟨f0, _⟩ := hf 0 h0'
    have hsp : sp = none := by
      cases sp with
      | none => rfl
      | some q => exact absurd f0 (by simp [World.cell?, Addr.add]; split <;> simp)
    subst hsp
    refine ⟨b, off, rfl, fun i hi' => ?_⟩
    have hi'' : i < len := by simpa using hi'
    obtain ⟨g0, g1, g2, g3, g4, g5, g6, g7, g8, g9, g10, -⟩ := hf i hi''
    simp only [Addr.add_lit, ← Nat.add_assoc] at g0 g1 g2 g3 g4 g5 g6 g7 g8 g9 g10
    simp only [List.getElem_map, List.getElem_range]
    exact ⟨g0, g1, g2, g3, g4, g5, g6, g7, g8, g9, g10⟩
end
end Go.Proofs.Ytljimlaalebmaaa
