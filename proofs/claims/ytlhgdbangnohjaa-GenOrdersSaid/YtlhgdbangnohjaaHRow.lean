/- An operation in a block of its own: its cells, and what is there when one is stored. -/
import Derived.Test.YtlhgdbangnohjaaHPlain
import Derived.Laws.ResultCell
import Derived.Laws.Rows
namespace Go.Proofs.Ytlhgdbangnohjaa
open Go.RowKit
set_option linter.unusedVariables false
set_option linter.unusedSimpArgs false
/-- A function's results, the first a variable that lies whole in a block. -/
theorem results_row2 {P : Program} {fn : Func} {p u : Tmp} {ty : TypeId} (h : fn.results = #[.cell p ty, .tmp u]) (tmps : Array Value) (w : World) (g : Nat) (t : TypeId) (cs : Array Value) (fr : Nat × Nat) (d : TypeDesc)
    (hp : tmps.getD p undef = .pointer (some ⟨g, 0, none⟩)) (hg : w.heap[g]? = some (.cells cs t fr))
    (hu : P.underlying ty = some d) (hd : (match d with | .struct _ | .array _ _ => true | _ => false) = true) (hi : (P.info? ty).map (·.size) = some cs.size) :
    (results fn tmps).run P w = .ok (.tuple #[.agg cs, tmps.getD u undef]) w := by
  rw [results_cell_tmp h, hp]
  simp [asAddr, Result.andThen, run_loadVar_row w g t ty cs fr d hg hu hd hi]
theorem Grow.setD {a b : World} (h : Grow a b) (g o : Nat) (hg : a.heap.size ≤ g) (u : Value) : Grow a (b.setCell ⟨g, o, none⟩ u) := Below.setCell h (p := ⟨g, o, none⟩) hg u
theorem heap_setV {w : World} {g : Nat} {cs : Array Value} {e : TypeId} {fr : Nat × Nat} (h : w.heap[g]? = some (.cells cs e fr)) (j : Nat) (u : Value) (cs' : Array Value) (hc : cs.setIfInBounds j u = cs') : (w.setCell ⟨g, j, none⟩ u).heap[g]? = some (.cells cs' e fr) := by
  rw [← hc]; exact heap_set h j u
/-- An operation in a block. -/
def OpBox (w : World) (g : Nat) (o : OpR) : Prop := w.heap[g]? = some (.cells #[.int .i64 o.id, .int .i64 o.proc, .int .i64 o.obj, .int .i64 o.kind, .int .i64 o.meth, .int .i64 o.arg, .int .i64 o.sec, .bool o.done, .int .i64 o.res, .int .i64 o.inv, .int .i64 o.ret] 52 (0, 0))
theorem OpBox.at {w : World} {g : Nat} {o : OpR} (h : OpBox w g o) : OpAt w g 0 o := by
  unfold OpBox at h
  unfold OpAt
  refine ⟨?_, ?_, ?_, ?_, ?_, ?_, ?_, ?_, ?_, ?_, ?_⟩
  all_goals rw [heap_cell h]; rfl
theorem OpBox.lt {w : World} {g : Nat} {o : OpR} (h : OpBox w g o) : g < w.heap.size := heap_lt h
theorem OpBox.grow {w w' : World} {g : Nat} {o : OpR} (h : OpBox w g o) (hg : Grow w w') : OpBox w' g o := hg.heap h
theorem OpBox.open {w : World} {g : Nat} {o : OpR} (h : OpBox w g o) : w.frozen? ⟨g, 0, none⟩ = false ∧ w.frozen? ⟨g, 1, none⟩ = false ∧ w.frozen? ⟨g, 2, none⟩ = false ∧ w.frozen? ⟨g, 3, none⟩ = false ∧ w.frozen? ⟨g, 4, none⟩ = false ∧ w.frozen? ⟨g, 5, none⟩ = false ∧ w.frozen? ⟨g, 6, none⟩ = false ∧ w.frozen? ⟨g, 7, none⟩ = false ∧ w.frozen? ⟨g, 8, none⟩ = false ∧ w.frozen? ⟨g, 9, none⟩ = false ∧ w.frozen? ⟨g, 10, none⟩ = false := by
  unfold OpBox at h
  refine ⟨heap_frozen h 0 (by omega), heap_frozen h 1 (by omega), heap_frozen h 2 (by omega), heap_frozen h 3 (by omega), heap_frozen h 4 (by omega), heap_frozen h 5 (by omega), heap_frozen h 6 (by omega), heap_frozen h 7 (by omega), heap_frozen h 8 (by omega), heap_frozen h 9 (by omega), heap_frozen h 10 (by omega)⟩
/-- What is there once one is stored. -/
theorem OpBox.store {w : World} {g : Nat} {o : OpR} (h : OpBox w g o) (o' : OpR) : OpBox (((((((((((w.setCell ⟨g, 0, none⟩ (.int .i64 o'.id)).setCell ⟨g, 1, none⟩ (.int .i64 o'.proc)).setCell ⟨g, 2, none⟩ (.int .i64 o'.obj)).setCell ⟨g, 3, none⟩ (.int .i64 o'.kind)).setCell ⟨g, 4, none⟩ (.int .i64 o'.meth)).setCell ⟨g, 5, none⟩ (.int .i64 o'.arg)).setCell ⟨g, 6, none⟩ (.int .i64 o'.sec)).setCell ⟨g, 7, none⟩ (.bool o'.done)).setCell ⟨g, 8, none⟩ (.int .i64 o'.res)).setCell ⟨g, 9, none⟩ (.int .i64 o'.inv)).setCell ⟨g, 10, none⟩ (.int .i64 o'.ret)) g o' := by
  unfold OpBox at h ⊢
  exact (heap_setV (heap_setV (heap_setV (heap_setV (heap_setV (heap_setV (heap_setV (heap_setV (heap_setV (heap_setV (heap_setV h 0 (.int .i64 o'.id) #[.int .i64 o'.id, .int .i64 o.proc, .int .i64 o.obj, .int .i64 o.kind, .int .i64 o.meth, .int .i64 o.arg, .int .i64 o.sec, .bool o.done, .int .i64 o.res, .int .i64 o.inv, .int .i64 o.ret] rfl) 1 (.int .i64 o'.proc) #[.int .i64 o'.id, .int .i64 o'.proc, .int .i64 o.obj, .int .i64 o.kind, .int .i64 o.meth, .int .i64 o.arg, .int .i64 o.sec, .bool o.done, .int .i64 o.res, .int .i64 o.inv, .int .i64 o.ret] rfl) 2 (.int .i64 o'.obj) #[.int .i64 o'.id, .int .i64 o'.proc, .int .i64 o'.obj, .int .i64 o.kind, .int .i64 o.meth, .int .i64 o.arg, .int .i64 o.sec, .bool o.done, .int .i64 o.res, .int .i64 o.inv, .int .i64 o.ret] rfl) 3 (.int .i64 o'.kind) #[.int .i64 o'.id, .int .i64 o'.proc, .int .i64 o'.obj, .int .i64 o'.kind, .int .i64 o.meth, .int .i64 o.arg, .int .i64 o.sec, .bool o.done, .int .i64 o.res, .int .i64 o.inv, .int .i64 o.ret] rfl) 4 (.int .i64 o'.meth) #[.int .i64 o'.id, .int .i64 o'.proc, .int .i64 o'.obj, .int .i64 o'.kind, .int .i64 o'.meth, .int .i64 o.arg, .int .i64 o.sec, .bool o.done, .int .i64 o.res, .int .i64 o.inv, .int .i64 o.ret] rfl) 5 (.int .i64 o'.arg) #[.int .i64 o'.id, .int .i64 o'.proc, .int .i64 o'.obj, .int .i64 o'.kind, .int .i64 o'.meth, .int .i64 o'.arg, .int .i64 o.sec, .bool o.done, .int .i64 o.res, .int .i64 o.inv, .int .i64 o.ret] rfl) 6 (.int .i64 o'.sec) #[.int .i64 o'.id, .int .i64 o'.proc, .int .i64 o'.obj, .int .i64 o'.kind, .int .i64 o'.meth, .int .i64 o'.arg, .int .i64 o'.sec, .bool o.done, .int .i64 o.res, .int .i64 o.inv, .int .i64 o.ret] rfl) 7 (.bool o'.done) #[.int .i64 o'.id, .int .i64 o'.proc, .int .i64 o'.obj, .int .i64 o'.kind, .int .i64 o'.meth, .int .i64 o'.arg, .int .i64 o'.sec, .bool o'.done, .int .i64 o.res, .int .i64 o.inv, .int .i64 o.ret] rfl) 8 (.int .i64 o'.res) #[.int .i64 o'.id, .int .i64 o'.proc, .int .i64 o'.obj, .int .i64 o'.kind, .int .i64 o'.meth, .int .i64 o'.arg, .int .i64 o'.sec, .bool o'.done, .int .i64 o'.res, .int .i64 o.inv, .int .i64 o.ret] rfl) 9 (.int .i64 o'.inv) #[.int .i64 o'.id, .int .i64 o'.proc, .int .i64 o'.obj, .int .i64 o'.kind, .int .i64 o'.meth, .int .i64 o'.arg, .int .i64 o'.sec, .bool o'.done, .int .i64 o'.res, .int .i64 o'.inv, .int .i64 o.ret] rfl) 10 (.int .i64 o'.ret) #[.int .i64 o'.id, .int .i64 o'.proc, .int .i64 o'.obj, .int .i64 o'.kind, .int .i64 o'.meth, .int .i64 o'.arg, .int .i64 o'.sec, .bool o'.done, .int .i64 o'.res, .int .i64 o'.inv, .int .i64 o'.ret] rfl)
theorem Grow.store {a b : World} (h : Grow a b) (g : Nat) (hg : a.heap.size ≤ g) (o' : OpR) : Grow a (((((((((((b.setCell ⟨g, 0, none⟩ (.int .i64 o'.id)).setCell ⟨g, 1, none⟩ (.int .i64 o'.proc)).setCell ⟨g, 2, none⟩ (.int .i64 o'.obj)).setCell ⟨g, 3, none⟩ (.int .i64 o'.kind)).setCell ⟨g, 4, none⟩ (.int .i64 o'.meth)).setCell ⟨g, 5, none⟩ (.int .i64 o'.arg)).setCell ⟨g, 6, none⟩ (.int .i64 o'.sec)).setCell ⟨g, 7, none⟩ (.bool o'.done)).setCell ⟨g, 8, none⟩ (.int .i64 o'.res)).setCell ⟨g, 9, none⟩ (.int .i64 o'.inv)).setCell ⟨g, 10, none⟩ (.int .i64 o'.ret)) := (Grow.setD (Grow.setD (Grow.setD (Grow.setD (Grow.setD (Grow.setD (Grow.setD (Grow.setD (Grow.setD (Grow.setD (Grow.setD h _ _ hg _) _ _ hg _) _ _ hg _) _ _ hg _) _ _ hg _) _ _ hg _) _ _ hg _) _ _ hg _) _ _ hg _) _ _ hg _) _ _ hg _)
end Go.Proofs.Ytlhgdbangnohjaa
