/- The cache that a law has made, beside a map of the law's own. -/
import Derived.Test.YtjccfodadiaokaaCIn
import Derived.Test.YtjccfodadiaokaaCSame
import Derived.Maps.OwnOps
import Derived.Maps.OwnSet
import Derived.Maps.Views
import Derived.Maps.StringElems
namespace Go.Proofs.Ytjccfodadiaokaa
open Go.RowKit Go.Maps
set_option linter.unusedVariables false
set_option linter.unusedSimpArgs false
theorem keyedInt : Keyed Try.prog 3 := int_keyed Try.underlying3
theorem zeroStr (w : World) : (zeroValue 9).run Try.prog w = .ok (.string ByteArray.empty) w := by kernel_rfl
theorem wf_mk {k : Int} (h : -9223372036854775808 ≤ k ∧ k ≤ 9223372036854775807) : (Lit.int .i64 k).wf = true := by
  have e1 : IntKind.min .i64 = -9223372036854775808 := by decide
  have e2 : IntKind.max .i64 = 9223372036854775807 := by decide
  simp [Lit.wf, e1, e2]
  omega
theorem wpList_mapUpdate_run {P : Program} (w w' : World) {ops : Array Oper} {rest : List Oper} {o : Oper} {a : Go.Act} {Q : Exit → Go.Act → World → Prop}
    (hg : Region.wanted o (yielded ops a.tmps) = true) (m x v : Operand) (t : TypeId) (hop : o.op = Op.mapUpdate t m x v) (vm vx vv : Value) (hm : a.eval m = vm) (hx : a.eval x = vx) (hv : a.eval v = vv)
    (hrun : (Instr.mapUpdate t vm vx vv).run P w = .ok () w') (hK : wpList P ops Q rest (a.put o.dst undef) w') : wpList P ops Q (o :: rest) a w := by
  refine BigFrame.wpList_want hg fun K' hK' => ?_
  unfold Oper.wp
  simp [execOp, hop, hm, hx, hv, hrun, Result.andThen]
  exact hK' _ _ hK
theorem wpList_lookup_run {P : Program} (w : World) {ops : Array Oper} {rest : List Oper} {o : Oper} {a : Go.Act} {Q : Exit → Go.Act → World → Prop}
    (hg : Region.wanted o (yielded ops a.tmps) = true) (m x : Operand) (t : TypeId) (hop : o.op = Op.lookup t m x false) (vm vx v : Value) (hm : a.eval m = vm) (hx : a.eval x = vx)
    (hrun : (Instr.lookup t vm vx false).run P w = .ok v w) (hK : wpList P ops Q rest (a.put o.dst v) w) : wpList P ops Q (o :: rest) a w := by
  refine BigFrame.wpList_want hg fun K' hK' => ?_
  unfold Oper.wp
  simp [execOp, hop, hm, hx, hrun, Result.andThen]
  exact hK' _ _ hK
/-- The map that is read. -/
def MapAt (w : World) (mb n : Nat) (f : Int → ByteArray) : Prop := ∃ D : DataW Nat, w.ownsMap Try.prog 3 (plainElem Try.prog 9) mb n D ∧ ∀ k : Int, D.atKey (.int .i64 k) (.lit (.string [])) = .lit (.string (f k).data.toList)
theorem MapAt.of_block {w w' : World} {mb n : Nat} {f : Int → ByteArray} (h : MapAt w mb n f) (hb : w'.heap[mb]? = w.heap[mb]?) : MapAt w' mb n f := by
  obtain ⟨D, ⟨es, clock, h1, h2, h3, h4⟩, h5⟩ := h
  exact ⟨D, ⟨es, clock, hb.trans h1, h2, h3, h4⟩, h5⟩
theorem MapAt.lt {w : World} {mb n : Nat} {f : Int → ByteArray} (h : MapAt w mb n f) : mb < w.heap.size := by
  obtain ⟨D, h1, _⟩ := h
  exact h1.lt
theorem MapAt.made (w : World) : MapAt (w.alloc (.map #[] 0)) w.heap.size 0 (fun _ => ByteArray.empty) :=
  ⟨.map [], World.ownsMap_made w Try.prog _ _, fun k => rfl⟩
set_option maxRecDepth 100000 in
theorem MapAt.look {w : World} {mb n : Nat} {f : Int → ByteArray} (h : MapAt w mb n f) (k : Int) (hk : -9223372036854775808 ≤ k ∧ k ≤ 9223372036854775807) : (Instr.lookup 35 (.map (some mb)) (.int .i64 k) false).run Try.prog w = .ok (.string (f k)) w := by
  obtain ⟨D, h1, h2⟩ := h
  obtain ⟨v, ps, hrun, hv⟩ := h1.lookup keyedInt Try.underlying35 (zeroStr w) (plainElem_string Try.underlying9 (by unfold maxLen; decide)) (keyOf_int_mk Try.underlying3 (a := k) (q := .i64) (wf_mk hk))
  obtain ⟨s, rfl, e, -⟩ := plainElem_string_inv Try.underlying9 hv
  rw [hrun]
  have e2 := h2 k
  have e3 : (DataW.lit (H := Nat) (.string (f k).data.toList)) = .lit (.string s.data.toList) := by
    have := congrArg Prod.fst e
    exact e2.symm.trans this
  injection e3 with e4
  injection e4 with e5
  have : f k = s := by
    apply ByteArray.ext
    exact Array.toList_inj.1 e5
  rw [this]
/-- The cache, and the map. -/
def InMap (w wr : World) (p : Nat) (most : Int) (l : List CItem) (mb n : Nat) (f : Int → ByteArray) : Prop :=
  ∃ v, CacheAt wr p most v l ∧ (∀ k, v.ownBlock = some k → w.heap.size ≤ k ∧ k ≠ mb) ∧ Below w.heap.size w wr ∧ w.heap.size ≤ p ∧ p ≠ mb ∧ w.heap.size ≤ mb ∧ MapAt wr mb n f
theorem InMap.below {w wr : World} {p : Nat} {most : Int} {l : List CItem} {mb n : Nat} {f : Int → ByteArray} (h : InMap w wr p most l mb n f) : Below w.heap.size w wr := by
  obtain ⟨v, -, -, hb, -⟩ := h
  exact hb
theorem InMap.step {w wr w' : World} {p : Nat} {most : Int} {l l' : List CItem} {v : Value} {mb n : Nat} {f : Int → ByteArray} (ho : ∀ k, v.ownBlock = some k → w.heap.size ≤ k ∧ k ≠ mb) (hb : Below w.heap.size w wr) (hp : w.heap.size ≤ p) (hpm : p ≠ mb) (hmb : w.heap.size ≤ mb) (hm : MapAt wr mb n f) (h : Behind p most v l' wr w') : InMap w w' p most l' mb n f := by
  obtain ⟨v', h1, h2, h3⟩ := h
  have hml := hm.lt
  refine ⟨v', h1, fun k hk => ?_, Below.trans hb (h2.below hb.size hp (fun k hk => (ho k hk).1)), hp, hpm, hmb, hm.of_block (h2.block mb hml (fun e => hpm e.symm) (fun e => (ho mb e.symm).2 rfl))⟩
  rcases h3 k hk with h | h
  · exact ho k h
  · exact ⟨Nat.le_trans hb.size h, by omega⟩
theorem InMap.grow {w wr w' : World} {p : Nat} {most : Int} {l : List CItem} {mb n : Nat} {f : Int → ByteArray} (h : InMap w wr p most l mb n f) (g : Grow wr w') : InMap w w' p most l mb n f := by
  obtain ⟨v, h1, h2, h3, h4, h5, h6, h7⟩ := h
  exact ⟨v, h1.grow g, h2, Below.trans h3 (Below.mono g h3.size), h4, h5, h6, h7.of_block (g.block mb h7.lt)⟩
theorem kept_act {wr w' : World} {p : Nat} {most : Int} {v : Value} {l l' : List CItem} (hc : CacheAt wr p most v l) (h : Behind p most v l' wr w') :
    ∀ (q : Nat) (cs : Array Value), wr.heap[q]? = some (.cells cs 37 (0, 0)) → w'.heap[q]? = some (.cells cs 37 (0, 0)) := by
  intro q cs hq
  obtain ⟨v', -, hm, -⟩ := h
  have hlt := heap_lt hq
  refine (hm.block q hlt ?_ ?_).trans hq
  · rintro rfl
    rw [hc.1] at hq
    injection hq with hq
    injection hq with _ e _
    exact absurd e (by decide)
  · intro e
    rcases hc.2.2 with ⟨h, -⟩ | ⟨g, cc, cur, h, -, hg, -⟩
    · rw [h] at e; cases e
    · rw [h] at e
      have e2 : q = g := Option.some.inj e
      rw [e2, hg] at hq
      injection hq with hq
      injection hq with _ e3 _
      exact absurd e3 (by decide)
theorem InMap.put {w wr : World} {p : Nat} {most : Int} {l : List CItem} {mb n : Nat} {f : Int → ByteArray} (h : InMap w wr p most l mb n f) (hl : l.length ≤ 1000000) (hm : 1 ≤ most) (k : Int) (s : ByteArray) :
    Calls Try.prog 11 #[.pointer (some ⟨p, 0, none⟩), .int .i64 k, .string s] wr fun e w' => e = .returned (.tuple #[.int .i64 (putP most l k s).2.1, .bool (putP most l k s).2.2.1, .int .i64 (putP most l k s).2.2.2]) ∧ InMap w w' p most (putP most l k s).1 mb n f ∧ ∀ (q : Nat) (cs : Array Value), wr.heap[q]? = some (.cells cs 37 (0, 0)) → w'.heap[q]? = some (.cells cs 37 (0, 0)) := by
  obtain ⟨v, h1, h2, h3, h4, h5, h6, h7⟩ := h
  refine (Put_c p most v l k s wr h1 hl hm).mono ?_
  rintro e w' ⟨rfl, h⟩
  exact ⟨rfl, InMap.step (l := l) h2 h3 h4 h5 h6 h7 h, kept_act h1 h⟩
theorem InMap.get {w wr : World} {p : Nat} {most : Int} {l : List CItem} {mb n : Nat} {f : Int → ByteArray} (h : InMap w wr p most l mb n f) (hl : l.length ≤ 1000000) (k : Int) :
    Calls Try.prog 13 #[.pointer (some ⟨p, 0, none⟩), .int .i64 k] wr fun e w' => e = .returned (.tuple #[.string (getP l k).2.1, .bool (getP l k).2.2]) ∧ InMap w w' p most (getP l k).1 mb n f ∧ ∀ (q : Nat) (cs : Array Value), wr.heap[q]? = some (.cells cs 37 (0, 0)) → w'.heap[q]? = some (.cells cs 37 (0, 0)) := by
  obtain ⟨v, h1, h2, h3, h4, h5, h6, h7⟩ := h
  refine (Get_c p most v l k wr h1 hl).mono ?_
  rintro e w' ⟨rfl, h⟩
  exact ⟨rfl, InMap.step (l := l) h2 h3 h4 h5 h6 h7 h, kept_act h1 h⟩
theorem InMap.len {w wr : World} {p : Nat} {most : Int} {l : List CItem} {mb n : Nat} {f : Int → ByteArray} (h : InMap w wr p most l mb n f) : Calls Try.prog 14 #[.pointer (some ⟨p, 0, none⟩)] wr fun e w' => e = .returned (.int .i64 (l.length : Int)) ∧ wr = w' := by
  obtain ⟨v, h1, -⟩ := h
  exact Len_c p most v l wr h1
/-- A store into the map. -/
theorem InMap.upd {w wr : World} {p : Nat} {most : Int} {l : List CItem} {mb n : Nat} {f : Int → ByteArray} (h : InMap w wr p most l mb n f) (hn : n < maxLen) (k : Int) (s : ByteArray) (hk : -9223372036854775808 ≤ k ∧ k ≤ 9223372036854775807) (hs : s.size ≤ maxLen) :
    ∃ w', (Instr.mapUpdate 35 (.map (some mb)) (.int .i64 k) (.string s)).run Try.prog wr = .ok () w' ∧ InMap w w' p most l mb (n + 1) (fun q => if k = q then s else f q) ∧ wr.grownBy w' (some mb) := by
  obtain ⟨v, h1, h2, h3, h4, h5, h6, D, h7, h8⟩ := h
  obtain ⟨w', hrun, hown, hg⟩ := h7.update keyedInt Try.underlying35 hn (keyOf_int_mk Try.underlying3 (a := k) (q := .i64) (wf_mk hk)) (plainElem_string Try.underlying9 hs)
  refine ⟨w', hrun, ⟨v, ?_, h2, ?_, h4, h5, h6, _, hown, fun q => ?_⟩, hg⟩
  · have hpl := heap_lt h1.1
    refine ⟨(hg.block p hpl (fun e => h5 (Option.some.inj e))).trans h1.1, h1.2.1, ?_⟩
    rcases h1.2.2 with h | ⟨gg, cc, cur, h, hb, hh, hx⟩
    · exact .inl h
    · exact .inr ⟨gg, cc, cur, h, hb, (hg.block gg (heap_lt hh) (fun e => (h2 gg (by rw [h]; rfl)).2 (Option.some.inj e))).trans hh, hx⟩
  · exact Below.trans h3 ⟨hg.os, hg.tape, hg.output, hg.size, fun j hj => hg.block j (Nat.lt_of_lt_of_le hj h3.size) (fun e => by have := Option.some.inj e; omega)⟩
  · by_cases hq : k = q
    · subst hq
      dsimp only
      rw [if_pos rfl, atKey_put_same h7.isMap (by trivial)]
    · dsimp only
      rw [if_neg hq, atKey_put_other (by intro e; injection e with _ e2; exact hq e2.symm)]
      exact h8 q
end Go.Proofs.Ytjccfodadiaokaa
