/- Edits that came in, by value or as a list. -/
import Derived.Test.YtljimlaalebmaaaHLift
import Derived.Test.YtljimlaalebmaaaHApp
namespace Go.Proofs.Ytljimlaalebmaaa
open Go.RowKit
set_option linter.unusedVariables false
set_option linter.unusedSimpArgs false
/-- An edit. -/
structure EdR where
  k : Int
  op : OpR
def edZ : EdR := ⟨0, opZ⟩
def edAt (l : List EdR) (i : Nat) : EdR := l.getD i edZ
/-- An edit's cells. -/
def EdAt (w : World) (b o : Nat) (x : EdR) : Prop := w.cell? ⟨b, o, none⟩ = some (.int .i64 x.k) ∧ w.cell? ⟨b, o + 1, none⟩ = some (.int .i64 x.op.id) ∧ w.cell? ⟨b, o + 2, none⟩ = some (.int .i64 x.op.proc) ∧ w.cell? ⟨b, o + 3, none⟩ = some (.int .i64 x.op.obj) ∧ w.cell? ⟨b, o + 4, none⟩ = some (.int .i64 x.op.kind) ∧ w.cell? ⟨b, o + 5, none⟩ = some (.int .i64 x.op.meth) ∧ w.cell? ⟨b, o + 6, none⟩ = some (.int .i64 x.op.arg) ∧ w.cell? ⟨b, o + 7, none⟩ = some (.int .i64 x.op.sec) ∧ w.cell? ⟨b, o + 8, none⟩ = some (.bool x.op.done) ∧ w.cell? ⟨b, o + 9, none⟩ = some (.int .i64 x.op.res) ∧ w.cell? ⟨b, o + 10, none⟩ = some (.int .i64 x.op.inv) ∧ w.cell? ⟨b, o + 11, none⟩ = some (.int .i64 x.op.ret)
theorem EdAt.grow {w w' : World} {b o : Nat} {x : EdR} (h : EdAt w b o x) (hg : Grow w w') : EdAt w' b o x := by
  unfold EdAt at *
  obtain ⟨h, h0, h1, h2, h3, h4, h5, h6, h7, h8, h9, h10⟩ := h
  exact ⟨hg.cell h, hg.cell h0, hg.cell h1, hg.cell h2, hg.cell h3, hg.cell h4, hg.cell h5, hg.cell h6, hg.cell h7, hg.cell h8, hg.cell h9, hg.cell h10⟩
/-- The value is a slice of just these edits. -/
def Eds (w : World) (v : Value) (l : List EdR) : Prop := ∃ p cap, v = .slice p l.length cap ∧ l.length ≤ 1600000000000 ∧
  ∀ i, i < l.length → ∃ b off, p = some ⟨b, off, none⟩ ∧ EdAt w b (off + i * 12) (edAt l i)
theorem list11 {α : Type} {l : List α} (h : l.length = 11) : ∃ c0 c1 c2 c3 c4 c5 c6 c7 c8 c9 c10, l = [c0, c1, c2, c3, c4, c5, c6, c7, c8, c9, c10] := by
  match l, h with
  | [c0, c1, c2, c3, c4, c5, c6, c7, c8, c9, c10], _ => exact ⟨c0, c1, c2, c3, c4, c5, c6, c7, c8, c9, c10, rfl⟩
section
open Go.Joins Go.ChangeShapes Go.WideShapes Go.Deep Go.WideElems Go.Maps
variable {H : Type} {enc : TypeId × Value → H} {w : World} {base : Nat} {spare : Nat → Bool} {held : Bool}
/-- An operation's cells, that came in. -/
theorem trod_op {n : Nat} {cs : List Value} {y : DataW H × List MemPlace} (h : DataW.trod enc Try.prog w base spare held n 25 cs = some y) : ∃ o : OpR, cs = o.row ∧ I64 o.res := by
  obtain ⟨xs, m, -, -, hl, hlen, hf⟩ := DataW.trod_struct Try.underlying25 h
  have hC : Try.prog.cellsOf 25 = 11 := by kernel_rfl
  rw [hC] at hl
  obtain ⟨c0, c1, c2, c3, c4, c5, c6, c7, c8, c9, c10, rfl⟩ := list11 hl
  have c3' : Try.prog.cellsOf 3 = 1 := by kernel_rfl
  have c4' : Try.prog.cellsOf 4 = 1 := by kernel_rfl
  have hx : ∀ i, i < 11 → ∃ z, xs[i]? = some z := fun i hi => ⟨xs[i]'(by rw [hlen]; exact hi), List.getElem?_eq_getElem _⟩
  obtain ⟨z0, hz0⟩ := hx 0 (by omega)
  have h0 : DataW.trod enc Try.prog w base spare held m 3 ((List.drop 0 [c0, c1, c2, c3, c4, c5, c6, c7, c8, c9, c10]).take (Try.prog.cellsOf 3)) = xs[0]? := hf 0 _ rfl
  rw [hz0] at h0
  (try dsimp only at h0)
  rw [c3'] at h0
  simp only [List.drop_succ_cons, List.drop_zero, List.take_succ_cons, List.take_zero] at h0
  obtain ⟨a0, e0, -, w0⟩ := DataW.trod_int Try.underlying3 h0
  obtain ⟨z1, hz1⟩ := hx 1 (by omega)
  have h1 : DataW.trod enc Try.prog w base spare held m 3 ((List.drop 1 [c0, c1, c2, c3, c4, c5, c6, c7, c8, c9, c10]).take (Try.prog.cellsOf 3)) = xs[1]? := hf 1 _ rfl
  rw [hz1] at h1
  (try dsimp only at h1)
  rw [c3'] at h1
  simp only [List.drop_succ_cons, List.drop_zero, List.take_succ_cons, List.take_zero] at h1
  obtain ⟨a1, e1, -, w1⟩ := DataW.trod_int Try.underlying3 h1
  obtain ⟨z2, hz2⟩ := hx 2 (by omega)
  have h2 : DataW.trod enc Try.prog w base spare held m 3 ((List.drop 2 [c0, c1, c2, c3, c4, c5, c6, c7, c8, c9, c10]).take (Try.prog.cellsOf 3)) = xs[2]? := hf 2 _ rfl
  rw [hz2] at h2
  (try dsimp only at h2)
  rw [c3'] at h2
  simp only [List.drop_succ_cons, List.drop_zero, List.take_succ_cons, List.take_zero] at h2
  obtain ⟨a2, e2, -, w2⟩ := DataW.trod_int Try.underlying3 h2
  obtain ⟨z3, hz3⟩ := hx 3 (by omega)
  have h3 : DataW.trod enc Try.prog w base spare held m 3 ((List.drop 3 [c0, c1, c2, c3, c4, c5, c6, c7, c8, c9, c10]).take (Try.prog.cellsOf 3)) = xs[3]? := hf 3 _ rfl
  rw [hz3] at h3
  (try dsimp only at h3)
  rw [c3'] at h3
  simp only [List.drop_succ_cons, List.drop_zero, List.take_succ_cons, List.take_zero] at h3
  obtain ⟨a3, e3, -, w3⟩ := DataW.trod_int Try.underlying3 h3
  obtain ⟨z4, hz4⟩ := hx 4 (by omega)
  have h4 : DataW.trod enc Try.prog w base spare held m 3 ((List.drop 4 [c0, c1, c2, c3, c4, c5, c6, c7, c8, c9, c10]).take (Try.prog.cellsOf 3)) = xs[4]? := hf 4 _ rfl
  rw [hz4] at h4
  (try dsimp only at h4)
  rw [c3'] at h4
  simp only [List.drop_succ_cons, List.drop_zero, List.take_succ_cons, List.take_zero] at h4
  obtain ⟨a4, e4, -, w4⟩ := DataW.trod_int Try.underlying3 h4
  obtain ⟨z5, hz5⟩ := hx 5 (by omega)
  have h5 : DataW.trod enc Try.prog w base spare held m 3 ((List.drop 5 [c0, c1, c2, c3, c4, c5, c6, c7, c8, c9, c10]).take (Try.prog.cellsOf 3)) = xs[5]? := hf 5 _ rfl
  rw [hz5] at h5
  (try dsimp only at h5)
  rw [c3'] at h5
  simp only [List.drop_succ_cons, List.drop_zero, List.take_succ_cons, List.take_zero] at h5
  obtain ⟨a5, e5, -, w5⟩ := DataW.trod_int Try.underlying3 h5
  obtain ⟨z6, hz6⟩ := hx 6 (by omega)
  have h6 : DataW.trod enc Try.prog w base spare held m 3 ((List.drop 6 [c0, c1, c2, c3, c4, c5, c6, c7, c8, c9, c10]).take (Try.prog.cellsOf 3)) = xs[6]? := hf 6 _ rfl
  rw [hz6] at h6
  (try dsimp only at h6)
  rw [c3'] at h6
  simp only [List.drop_succ_cons, List.drop_zero, List.take_succ_cons, List.take_zero] at h6
  obtain ⟨a6, e6, -, w6⟩ := DataW.trod_int Try.underlying3 h6
  obtain ⟨z7, hz7⟩ := hx 7 (by omega)
  have h7 : DataW.trod enc Try.prog w base spare held m 4 ((List.drop 7 [c0, c1, c2, c3, c4, c5, c6, c7, c8, c9, c10]).take (Try.prog.cellsOf 4)) = xs[7]? := hf 7 _ rfl
  rw [hz7] at h7
  (try dsimp only at h7)
  rw [c4'] at h7
  simp only [List.drop_succ_cons, List.drop_zero, List.take_succ_cons, List.take_zero] at h7
  obtain ⟨a7, e7, -⟩ := DataW.trod_bool Try.underlying4 h7
  obtain ⟨z8, hz8⟩ := hx 8 (by omega)
  have h8 : DataW.trod enc Try.prog w base spare held m 3 ((List.drop 8 [c0, c1, c2, c3, c4, c5, c6, c7, c8, c9, c10]).take (Try.prog.cellsOf 3)) = xs[8]? := hf 8 _ rfl
  rw [hz8] at h8
  (try dsimp only at h8)
  rw [c3'] at h8
  simp only [List.drop_succ_cons, List.drop_zero, List.take_succ_cons, List.take_zero] at h8
  obtain ⟨a8, e8, -, w8⟩ := DataW.trod_int Try.underlying3 h8
  obtain ⟨z9, hz9⟩ := hx 9 (by omega)
  have h9 : DataW.trod enc Try.prog w base spare held m 3 ((List.drop 9 [c0, c1, c2, c3, c4, c5, c6, c7, c8, c9, c10]).take (Try.prog.cellsOf 3)) = xs[9]? := hf 9 _ rfl
  rw [hz9] at h9
  (try dsimp only at h9)
  rw [c3'] at h9
  simp only [List.drop_succ_cons, List.drop_zero, List.take_succ_cons, List.take_zero] at h9
  obtain ⟨a9, e9, -, w9⟩ := DataW.trod_int Try.underlying3 h9
  obtain ⟨z10, hz10⟩ := hx 10 (by omega)
  have h10 : DataW.trod enc Try.prog w base spare held m 3 ((List.drop 10 [c0, c1, c2, c3, c4, c5, c6, c7, c8, c9, c10]).take (Try.prog.cellsOf 3)) = xs[10]? := hf 10 _ rfl
  rw [hz10] at h10
  (try dsimp only at h10)
  rw [c3'] at h10
  simp only [List.drop_succ_cons, List.drop_zero, List.take_succ_cons, List.take_zero] at h10
  obtain ⟨a10, e10, -, w10⟩ := DataW.trod_int Try.underlying3 h10
  simp only [List.cons.injEq, and_true] at e0 e1 e2 e3 e4 e5 e6 e7 e8 e9 e10
  subst e0 e1 e2 e3 e4 e5 e6 e7 e8 e9 e10
  exact ⟨⟨a0, a1, a2, a3, a4, a5, a6, a7, a8, a9, a10⟩, rfl, wf_i64 w8⟩
/-- An edit's cells, that came in. -/
theorem trod_edit {n : Nat} {cs : List Value} {y : DataW H × List MemPlace} (h : DataW.trod enc Try.prog w base spare held n 30 cs = some y) : ∃ x : EdR, cs = .int .i64 x.k :: x.op.row ∧ I64 x.op.res := by
  obtain ⟨xs, m, -, -, hl, hlen, hf⟩ := DataW.trod_struct Try.underlying30 h
  have hC : Try.prog.cellsOf 30 = 12 := by kernel_rfl
  rw [hC] at hl
  have c3' : Try.prog.cellsOf 3 = 1 := by kernel_rfl
  have c25 : Try.prog.cellsOf 25 = 11 := by kernel_rfl
  have hx : ∀ i, i < 2 → ∃ z, xs[i]? = some z := fun i hi => ⟨xs[i]'(by rw [hlen]; exact hi), List.getElem?_eq_getElem _⟩
  cases cs with
  | nil => simp at hl
  | cons c cs =>
    obtain ⟨z0, hz0⟩ := hx 0 (by omega)
    obtain ⟨z1, hz1⟩ := hx 1 (by omega)
    have h0 : DataW.trod enc Try.prog w base spare held m 3 ((List.drop 0 (c :: cs)).take (Try.prog.cellsOf 3)) = xs[0]? := hf 0 _ rfl
    have h1 : DataW.trod enc Try.prog w base spare held m 25 ((List.drop 1 (c :: cs)).take (Try.prog.cellsOf 25)) = xs[1]? := hf 1 _ rfl
    rw [hz0] at h0
    rw [hz1] at h1
    (try dsimp only at h0 h1)
    rw [c3'] at h0
    rw [c25] at h1
    have hcl : cs.length = 11 := by simpa using hl
    have t0 : (List.drop 0 (c :: cs)).take 1 = [c] := by simp
    have t1 : (List.drop 1 (c :: cs)).take 11 = cs := by simp [List.take_of_length_le (by omega : cs.length ≤ 11)]
    rw [t0] at h0
    rw [t1] at h1
    obtain ⟨a0, e0, -, -⟩ := DataW.trod_int Try.underlying3 h0
    obtain ⟨o, e1, ho⟩ := trod_op h1
    simp only [List.cons.injEq, and_true] at e0
    exact ⟨⟨a0, o⟩, by rw [e0, e1], ho⟩
/-- An edit that came in by value. -/
theorem open_edit {r : Reach} {b0 : Nat} {v : Value} {d : DataW H} {p : List MemPlace} (hv : Value.okWide Try.prog w r b0 30 v) (h : DataW.Trod enc Try.prog w base spare held 30 v d p) :
    ∃ x : EdR, v = .agg #[.int .i64 x.k, .int .i64 x.op.id, .int .i64 x.op.proc, .int .i64 x.op.obj, .int .i64 x.op.kind, .int .i64 x.op.meth, .int .i64 x.op.arg, .int .i64 x.op.sec, .bool x.op.done, .int .i64 x.op.res, .int .i64 x.op.inv, .int .i64 x.op.ret] ∧ I64 x.op.res := by
  obtain ⟨cs, rfl, hsz⟩ := okWide_struct Try.underlying30 hv
  obtain ⟨fuel, hf⟩ := h
  obtain ⟨x, hx, hr⟩ := trod_edit hf
  refine ⟨x, ?_, hr⟩
  have : cs = (Value.int .i64 x.k :: x.op.row).toArray := by rw [← hx]; simp [Value.cells]
  rw [this]
  rfl
theorem open_eds {fuel : Nat} {cs : List Value} {x : DataW H × List MemPlace} (h : DataW.trod enc Try.prog w base spare held fuel 22 cs = some x)
    (hs : ∀ (elems sp : List (DataW H)), x.1 = .slice elems sp → elems.length + sp.length ≤ 1600000000000) :
    ∃ l : List EdR, ∃ v, cs = [v] ∧ Eds w v l ∧ ∀ i, i < l.length → I64 (edAt l i).op.res := by
  rcases open_slice Try.underlying22 h with ⟨h0, -⟩ | ⟨a, len, cap, m, n, D, Pl, hcs, hb, hl, hm, hmm, hx, hi⟩
  · exact ⟨[], _, h0, ⟨none, 0, rfl, by simp, fun i hi => by simp at hi⟩, fun i hi => by simp at hi⟩
  · have hre := hs _ _ (by rw [hx])
    rw [List.length_map, List.length_map, List.length_range, List.length_range] at hre
    have hC : Try.prog.cellsOf 30 = 12 := by kernel_rfl
    have key : ∀ i, i < len → ∃ x : EdR, (∀ j, j < 12 → w.cell? (a.add (i * 12 + j)) = (Value.int .i64 x.k :: x.op.row)[j]?) ∧ I64 x.op.res := by
      intro i hi'
      obtain ⟨cs', hc, ht⟩ := hi i (by rw [hmm]; split <;> omega)
      rw [hC] at hc
      obtain ⟨y, hy, hr⟩ := trod_edit ht
      obtain ⟨_, hcl, hat⟩ := World.cells?_some hc
      refine ⟨y, fun j hj => ?_, hr⟩
      rw [← hy, ← Go.Deep.add_add]
      exact hat j hj
    have hch : ∃ f : Nat → EdR, ∀ i, i < len → (∀ j, j < 12 → w.cell? (a.add (i * 12 + j)) = (Value.int .i64 (f i).k :: (f i).op.row)[j]?) ∧ I64 (f i).op.res := by
      classical
      refine ⟨fun i => if h : i < len then Classical.choose (key i h) else edZ, fun i hi' => ?_⟩
      simp only [dif_pos hi']
      exact Classical.choose_spec (key i hi')
    obtain ⟨f, hf⟩ := hch
    have hat : ∀ k, k < len → edAt ((List.range len).map f) k = f k := fun k hk => by simp [edAt, hk]
    refine ⟨(List.range len).map f, _, hcs, ⟨some a, cap, by simp, by simp; omega, fun i hi' => ?_⟩, fun i hi' => ?_⟩
    · have hi2 : i < len := by simpa using hi'
      obtain ⟨b, off, sp⟩ := a
      obtain ⟨f0, -⟩ := hf i hi2
      obtain ⟨f00, -⟩ := hf 0 (by omega)
      have hsp : sp = none := by
        cases sp with
        | none => rfl
        | some q => exact absurd (f00 0 (by omega)) (by simp [World.cell?, Addr.add]; split <;> simp)
      subst hsp
      refine ⟨b, off, rfl, ?_⟩
      rw [hat i hi2]
      have key2 : ∀ j, j < 12 → w.cell? ⟨b, off + i * 12 + j, none⟩ = (Value.int .i64 (f i).k :: (f i).op.row)[j]? := fun j hj => by
        have := f0 j hj
        rw [Addr.add_lit, ← Nat.add_assoc] at this
        exact this
      exact ⟨key2 0 (by omega), key2 1 (by omega), key2 2 (by omega), key2 3 (by omega), key2 4 (by omega), key2 5 (by omega), key2 6 (by omega), key2 7 (by omega), key2 8 (by omega), key2 9 (by omega), key2 10 (by omega), key2 11 (by omega)⟩
    · have hi2 : i < len := by simpa using hi'
      rw [hat i hi2]
      exact (hf i hi2).2
end
end Go.Proofs.Ytljimlaalebmaaa
