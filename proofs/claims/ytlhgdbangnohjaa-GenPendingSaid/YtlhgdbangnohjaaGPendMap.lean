/- Who still asks, by a law's own map. -/
import Derived.Test.YtlhgdbangnohjaaGTail
import Derived.Maps.OwnOps
import Derived.Maps.OwnSet
import Derived.Maps.Views
namespace Go.Proofs.Ytlhgdbangnohjaa
open Go.RowKit Go.Maps
set_option linter.unusedVariables false
set_option linter.unusedSimpArgs false
theorem keyedIntG : Keyed Try.prog 3 := int_keyed Try.underlying3
theorem zeroBoolG (w : World) : (zeroValue 4).run Try.prog w = .ok (.bool false) w := by kernel_rfl
theorem wf_ig {k : Int} (h : -9223372036854775808 ≤ k ∧ k ≤ 9223372036854775807) : (Lit.int .i64 k).wf = true := by
  have e1 : IntKind.min .i64 = -9223372036854775808 := by decide
  have e2 : IntKind.max .i64 = 9223372036854775807 := by decide
  simp [Lit.wf, e1, e2]
  omega
theorem wpList_mapUpdate_runG {P : Program} (w w' : World) {ops : Array Oper} {rest : List Oper} {o : Oper} {a : Go.Act} {Q : Exit → Go.Act → World → Prop}
    (hg : Region.wanted o (yielded ops a.tmps) = true) (m x v : Operand) (t : TypeId) (hop : o.op = Op.mapUpdate t m x v) (vm vx vv : Value) (hm : a.eval m = vm) (hx : a.eval x = vx) (hv : a.eval v = vv)
    (hrun : (Instr.mapUpdate t vm vx vv).run P w = .ok () w') (hK : wpList P ops Q rest (a.put o.dst undef) w') : wpList P ops Q (o :: rest) a w := by
  refine BigFrame.wpList_want hg fun K' hK' => ?_
  unfold Oper.wp
  simp [execOp, hop, hm, hx, hv, hrun, Result.andThen]
  exact hK' _ _ hK
theorem wpList_lookup_runG {P : Program} (w : World) {ops : Array Oper} {rest : List Oper} {o : Oper} {a : Go.Act} {Q : Exit → Go.Act → World → Prop}
    (hg : Region.wanted o (yielded ops a.tmps) = true) (m x : Operand) (t : TypeId) (hop : o.op = Op.lookup t m x false) (vm vx v : Value) (hm : a.eval m = vm) (hx : a.eval x = vx)
    (hrun : (Instr.lookup t vm vx false).run P w = .ok v w) (hK : wpList P ops Q rest (a.put o.dst v) w) : wpList P ops Q (o :: rest) a w := by
  refine BigFrame.wpList_want hg fun K' hK' => ?_
  unfold Oper.wp
  simp [execOp, hop, hm, hx, hrun, Result.andThen]
  exact hK' _ _ hK
/-- The map that is read. -/
def BMapAt (w : World) (mb n : Nat) (f : Int → Bool) : Prop := ∃ D : DataW Nat, w.ownsMap Try.prog 3 (plainElem Try.prog 4) mb n D ∧ ∀ k : Int, D.atKey (.int .i64 k) (.lit (.bool false)) = .lit (.bool (f k))
theorem BMapAt.of_block {w w' : World} {mb n : Nat} {f : Int → Bool} (h : BMapAt w mb n f) (hb : w'.heap[mb]? = w.heap[mb]?) : BMapAt w' mb n f := by
  obtain ⟨D, ⟨es, clock, h1, h2, h3, h4⟩, h5⟩ := h
  exact ⟨D, ⟨es, clock, hb.trans h1, h2, h3, h4⟩, h5⟩
theorem BMapAt.lt {w : World} {mb n : Nat} {f : Int → Bool} (h : BMapAt w mb n f) : mb < w.heap.size := by
  obtain ⟨D, h1, _⟩ := h
  exact h1.lt
theorem BMapAt.grow {w w' : World} {mb n : Nat} {f : Int → Bool} (h : BMapAt w mb n f) (hg : Grow w w') : BMapAt w' mb n f := h.of_block (hg.block mb h.lt)
theorem BMapAt.made (w : World) : BMapAt (w.alloc (.map #[] 0)) w.heap.size 0 (fun _ => false) := ⟨.map [], World.ownsMap_made w Try.prog _ _, fun k => rfl⟩
set_option maxRecDepth 100000 in
theorem BMapAt.look {w : World} {mb n : Nat} {f : Int → Bool} (h : BMapAt w mb n f) (k : Int) (hk : -9223372036854775808 ≤ k ∧ k ≤ 9223372036854775807) : (Instr.lookup 56 (.map (some mb)) (.int .i64 k) false).run Try.prog w = .ok (.bool (f k)) w := by
  obtain ⟨D, h1, h2⟩ := h
  obtain ⟨v, ps, hrun, hv⟩ := h1.lookup keyedIntG Try.underlying56 (zeroBoolG w) (plainElem_bool Try.underlying4 false) (keyOf_int_mk Try.underlying3 (a := k) (q := .i64) (wf_ig hk))
  rw [h2 k] at hv
  rw [hrun]
  have : v = .bool (f k) := by
    unfold plainElem at hv
    rw [Try.underlying4] at hv
    cases v <;> simp at hv
    rename_i b
    rw [hv.1]
  rw [this]
theorem BMapAt.upd {w : World} {mb n : Nat} {f : Int → Bool} (h : BMapAt w mb n f) (hn : n < maxLen) (k : Int) (s : Bool) (hk : -9223372036854775808 ≤ k ∧ k ≤ 9223372036854775807) :
    ∃ w', (Instr.mapUpdate 56 (.map (some mb)) (.int .i64 k) (.bool s)).run Try.prog w = .ok () w' ∧ BMapAt w' mb (n + 1) (fun q => if k = q then s else f q) ∧ w.grownBy w' (some mb) := by
  obtain ⟨D, h7, h8⟩ := h
  obtain ⟨w', hrun, hown, hg⟩ := h7.update keyedIntG Try.underlying56 hn (keyOf_int_mk Try.underlying3 (a := k) (q := .i64) (wf_ig hk)) (plainElem_bool Try.underlying4 s)
  refine ⟨w', hrun, ⟨_, hown, fun q => ?_⟩, hg⟩
  by_cases hq : k = q
  · subst hq
    dsimp only
    rw [if_pos rfl, atKey_put_same h7.isMap (by trivial)]
  · dsimp only
    have hne : (Lit.int .i64 q) ≠ .int .i64 k := by
      intro e
      injection e with _ e
      exact hq e.symm
    rw [if_neg hq, atKey_put_other hne]
    exact h8 q
/-- Whether a process' last operation so far has no answer. -/
def goneF (l : List OpR) (q : Int) : Bool := l.foldl (fun b o => if o.proc = q then !o.done else b) false
theorem goneF_snoc (l : List OpR) (o : OpR) (q : Int) : goneF (l ++ [o]) q = if o.proc = q then !o.done else goneF l q := by unfold goneF; rw [List.foldl_append]; rfl
theorem goneF_last {l : List OpR} (h : l.Pairwise (fun a b => a.proc = b.proc → a.done = true)) {j : Nat} (hj : j < l.length) : goneF (l.take j) l[j].proc = false := by
  have key : ∀ m : List OpR, (∀ a ∈ m, a.proc = l[j].proc → a.done = true) → goneF m l[j].proc = false := by
    intro m
    unfold goneF
    induction m with
    | nil => intro _; rfl
    | cons o m ih =>
      intro hm
      rw [List.foldl_cons]
      have e0 : (if o.proc = l[j].proc then !o.done else false) = false := by
        by_cases e : o.proc = l[j].proc
        · rw [if_pos e, hm o (by simp) e]
          rfl
        · rw [if_neg e]
      rw [e0]
      exact ih (fun a ha => hm a (by simp [ha]))
  refine key _ (fun a ha e => ?_)
  rw [List.mem_take_iff_getElem] at ha
  obtain ⟨i, hi, rfl⟩ := ha
  exact (List.pairwise_iff_getElem.1 h) i j (by omega) hj (by omega) e
end Go.Proofs.Ytlhgdbangnohjaa
