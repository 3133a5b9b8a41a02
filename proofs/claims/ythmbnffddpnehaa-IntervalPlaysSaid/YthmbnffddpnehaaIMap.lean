/- A map of numbers to numbers of the call's own. -/
import Derived.Test.YthmbnffddpnehaaInts
import Derived.Maps.OwnOps
import Derived.Maps.OwnSet
import Derived.Maps.Views
namespace Go.Proofs.Ythmbnffddpnehaa
open Go.RowKit Go.Maps
set_option linter.unusedVariables false
set_option linter.unusedSimpArgs false
theorem keyedInt : Keyed Try.prog 3 := int_keyed Try.underlying3
theorem zeroI (w : World) : (zeroValue 3).run Try.prog w = .ok (.int .i64 0) w := by kernel_rfl
theorem wf_i {k : Int} (h : -9223372036854775808 ≤ k ∧ k ≤ 9223372036854775807) : (Lit.int .i64 k).wf = true := by
  have e1 : IntKind.min .i64 = -9223372036854775808 := by decide
  have e2 : IntKind.max .i64 = 9223372036854775807 := by decide
  simp [Lit.wf, e1, e2]
  omega
theorem wpList_mapUpdate_run {P : Program} (w w' : World) {ops : Array Oper} {rest : List Oper} {o : Oper} {a : Go.Act} {Q : Exit → Go.Act → World → Prop}
    (hg : Region.wanted o (yielded ops a.tmps) = true) (m x v : Operand) (t : TypeId) (hop : o.op = Op.mapUpdate t m x v) (vm vx vv : Value) (hm : a.eval m = vm) (hx : a.eval x = vx) (hv : a.eval v = vv)
    (hrun : (Instr.mapUpdate t vm vx vv).run P w = .ok () w') (hK : wpList P ops Q rest (a.put o.dst undef) w') : wpList P ops Q (o :: rest) a w := by
  refine BigFrame.wpList_want hg fun K' hK' => ?_
  unfold Oper.wp
  simp [execOp, hop, hm, hx, hv, hrun, Result.andThen]
  exact hK' _ _ hK
theorem wpList_lookupc_run {P : Program} (w : World) {ops : Array Oper} {rest : List Oper} {o : Oper} {a : Go.Act} {Q : Exit → Go.Act → World → Prop}
    (hg : Region.wanted o (yielded ops a.tmps) = true) (m x : Operand) (t : TypeId) (ok : Bool) (hop : o.op = Op.lookup t m x ok) (vm vx v : Value) (hm : a.eval m = vm) (hx : a.eval x = vx)
    (hrun : (Instr.lookup t vm vx ok).run P w = .ok v w) (hK : wpList P ops Q rest (a.put o.dst v) w) : wpList P ops Q (o :: rest) a w := by
  refine BigFrame.wpList_want hg fun K' hK' => ?_
  unfold Oper.wp
  simp [execOp, hop, hm, hx, hrun, Result.andThen]
  exact hK' _ _ hK
/-- The map, read: at most N stores were made, sz entries are there. -/
def MapAt (w : World) (mb N sz : Nat) (f : Int → Option Int) : Prop := ∃ D : DataW Nat, w.ownsMap Try.prog 3 (plainElem Try.prog 3) mb N D ∧ Maps.size D = sz ∧
  ∀ k : Int, has D (.int .i64 k) = (f k).isSome ∧ D.atKey (.int .i64 k) (.lit (.int .i64 0)) = .lit (.int .i64 ((f k).getD 0))
variable {w w' : World} {mb N sz : Nat} {f : Int → Option Int}
theorem MapAt.of_block (h : MapAt w mb N sz f) (hb : w'.heap[mb]? = w.heap[mb]?) : MapAt w' mb N sz f := by
  obtain ⟨D, ⟨es, clock, h1, h2, h3, h4⟩, h5⟩ := h
  exact ⟨D, ⟨es, clock, hb.trans h1, h2, h3, h4⟩, h5⟩
theorem MapAt.lt (h : MapAt w mb N sz f) : mb < w.heap.size := by
  obtain ⟨D, h1, _⟩ := h
  exact h1.lt
theorem MapAt.obj (h : MapAt w mb N sz f) : ∃ es clock, w.heap[mb]? = some (.map es clock) := by
  obtain ⟨D, ⟨es, clock, h1, -⟩, -⟩ := h
  exact ⟨es, clock, h1⟩
theorem MapAt.same (h : MapAt w mb N sz f) {f' : Int → Option Int} (e : ∀ k, f k = f' k) : MapAt w mb N sz f' := by
  obtain ⟨D, h1, h2, h3⟩ := h
  exact ⟨D, h1, h2, fun k => by rw [← e k]; exact h3 k⟩
theorem MapAt.made (w : World) : MapAt (w.alloc (.map #[] 0)) w.heap.size 0 0 (fun _ => none) :=
  ⟨.map [], World.ownsMap_made w Try.prog _ _, rfl, fun k => ⟨rfl, rfl⟩⟩
set_option maxRecDepth 100000 in
theorem MapAt.look_ok (h : MapAt w mb N sz f) (k : Int) (hk : -9223372036854775808 ≤ k ∧ k ≤ 9223372036854775807) : (Instr.lookup 67 (.map (some mb)) (.int .i64 k) true).run Try.prog w = .ok (.tuple #[.int .i64 ((f k).getD 0), .bool (f k).isSome]) w := by
  obtain ⟨D, h1, -, h2⟩ := h
  obtain ⟨v, ps, hrun, hv⟩ := h1.look_ok keyedInt Try.underlying67 (zeroI w) (plainElem_int Try.underlying3 (by decide)) (keyOf_int_mk Try.underlying3 (a := k) (q := .i64) (wf_i hk))
  obtain ⟨c, rfl, hc, -⟩ := plainElem_int_inv Try.underlying3 hv
  rw [hrun, (h2 k).1]
  have e := (h2 k).2
  have := congrArg Prod.fst hc
  simp only at this
  rw [e] at this
  injection this with this
  injection this with _ this
  rw [this]
theorem MapAt.len (h : MapAt w mb N sz f) (ty : TypeId) : (Builtin.len_ #[67] ty #[.map (some mb)]).run Try.prog w = .ok (.int .i64 (sz : Int)) w := by
  obtain ⟨D, h1, h2, -⟩ := h
  rw [h1.len Try.underlying67 ty, h2]
theorem MapAt.upd (h : MapAt w mb N sz f) (hn : N < maxLen) (k : Int) (s : Int) (hk : -9223372036854775808 ≤ k ∧ k ≤ 9223372036854775807) (hs : -9223372036854775808 ≤ s ∧ s ≤ 9223372036854775807) (hnew : f k = none) :
    ∃ w', (Instr.mapUpdate 67 (.map (some mb)) (.int .i64 k) (.int .i64 s)).run Try.prog w = .ok () w' ∧ MapAt w' mb (N + 1) (sz + 1) (fun q => if k = q then some s else f q) ∧ w.grownBy w' (some mb) := by
  obtain ⟨D, h7, h9, h8⟩ := h
  obtain ⟨w', hrun, hown, hg⟩ := h7.update keyedInt Try.underlying67 hn (keyOf_int_mk Try.underlying3 (a := k) (q := .i64) (wf_i hk)) (plainElem_int Try.underlying3 (wf_i hs))
  refine ⟨w', hrun, ⟨_, hown, ?_, fun q => ?_⟩, hg⟩
  · rw [size_put (h7.tidy keyedInt), (h8 k).1, hnew, h9]
    rfl
  · by_cases hq : k = q
    · subst hq
      dsimp only
      rw [if_pos rfl, atKey_put_same h7.isMap (by trivial), has_put_same h7.isMap (by trivial)]
      exact ⟨rfl, rfl⟩
    · dsimp only
      have hne : (Lit.int .i64 q) ≠ .int .i64 k := by
        intro e
        injection e with _ e
        exact hq e.symm
      rw [if_neg hq, atKey_put_other hne, has_put_other hne]
      exact h8 q
theorem MapAt.drop (h : MapAt w mb N sz f) (k : Int) (hk : -9223372036854775808 ≤ k ∧ k ≤ 9223372036854775807) (hold : (f k).isSome = true) (ty : TypeId) :
    ∃ w', (Builtin.delete_ #[67, 3] ty #[.map (some mb), .int .i64 k]).run Try.prog w = .ok (.tuple #[]) w' ∧ MapAt w' mb N (sz - 1) (fun q => if k = q then none else f q) ∧ w.grownBy w' (some mb) := by
  obtain ⟨D, h7, h9, h8⟩ := h
  obtain ⟨w', hrun, hown, hg⟩ := h7.drop keyedInt Try.underlying67 (keyOf_int_mk Try.underlying3 (a := k) (q := .i64) (wf_i hk)) ty
  refine ⟨w', hrun, ⟨_, hown, ?_, fun q => ?_⟩, hg.grown⟩
  · have := size_del (k := .int .i64 k) (h7.tidy keyedInt)
    rw [(h8 k).1, hold] at this
    simp only [if_true] at this
    omega
  · by_cases hq : k = q
    · subst hq
      dsimp only
      rw [if_pos rfl, atKey_del_same, has_del_same]
      exact ⟨rfl, rfl⟩
    · dsimp only
      have hne : (Lit.int .i64 q) ≠ .int .i64 k := by
        intro e
        injection e with _ e
        exact hq e.symm
      rw [if_neg hq, atKey_del_other hne, has_del_other hne]
      exact h8 q
end Go.Proofs.Ythmbnffddpnehaa
