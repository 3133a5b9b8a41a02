/- What hist.add tells. -/
import Derived.Test.YtljimlaalebmaaaHInsert
import Derived.Test.YtljimlaalebmaaaHClone
import Derived.Test.YtljimlaalebmaaaHCheck
import Derived.Test.YtljimlaalebmaaaHChanged
import Derived.Test.YtljimlaalebmaaaHApplyPlain
import Derived.Deep.RegionHeld3
import Derived.Deep.QuietTactic
namespace Go.Proofs.Ytljimlaalebmaaa
open Go.RowKit
set_option linter.unusedVariables false
set_option linter.unusedSimpArgs false
/-- A function's results: a slot, two variables that lie whole in blocks, a slot. -/
theorem results_rows4 {P : Program} {fn : Func} {p q s u : Tmp} {ty : TypeId} (h : fn.results = #[.tmp s, .cell p ty, .cell q ty, .tmp u]) (tmps : Array Value) (w : World) (g g2 : Nat) (t : TypeId) (cs cs2 : Array Value) (fr fr2 : Nat × Nat) (d : TypeDesc)
    (hp : tmps.getD p undef = .pointer (some ⟨g, 0, none⟩)) (hg : w.heap[g]? = some (.cells cs t fr))
    (hq : tmps.getD q undef = .pointer (some ⟨g2, 0, none⟩)) (hg2 : w.heap[g2]? = some (.cells cs2 t fr2))
    (hu : P.underlying ty = some d) (hd : (match d with | .struct _ | .array _ _ => true | _ => false) = true) (hi : (P.info? ty).map (·.size) = some cs.size) (hi2 : (P.info? ty).map (·.size) = some cs2.size) :
    (results fn tmps).run P w = .ok (.tuple #[tmps.getD s undef, .agg cs, .agg cs2, tmps.getD u undef]) w := by
  have e1 : (asAddr (tmps.getD p undef)).run P w = .ok ⟨g, 0, none⟩ w := by rw [hp]; rfl
  have e2 : (asAddr (tmps.getD q undef)).run P w = .ok ⟨g2, 0, none⟩ w := by rw [hq]; rfl
  simp only [results, h]
  simp [-Array.getD_eq_getD_getElem?, Sem.run_bind, Result.andThen, e1, e2, run_loadVar_row w g t ty cs fr d hg hu hd hi, run_loadVar_row w g2 t ty cs2 fr2 d hg2 hu hd hi2]
/-- One stored in a block, another block is as it was. -/
theorem OpBox.past {w : World} {g g2 : Nat} {o : OpR} (h : OpBox w g o) (o' : OpR) (hne : g ≠ g2) : OpBox (((((((((((w.setCell ⟨g2, 0, none⟩ (.int .i64 o'.id)).setCell ⟨g2, 1, none⟩ (.int .i64 o'.proc)).setCell ⟨g2, 2, none⟩ (.int .i64 o'.obj)).setCell ⟨g2, 3, none⟩ (.int .i64 o'.kind)).setCell ⟨g2, 4, none⟩ (.int .i64 o'.meth)).setCell ⟨g2, 5, none⟩ (.int .i64 o'.arg)).setCell ⟨g2, 6, none⟩ (.int .i64 o'.sec)).setCell ⟨g2, 7, none⟩ (.bool o'.done)).setCell ⟨g2, 8, none⟩ (.int .i64 o'.res)).setCell ⟨g2, 9, none⟩ (.int .i64 o'.inv)).setCell ⟨g2, 10, none⟩ (.int .i64 o'.ret)) g o := by
  unfold OpBox at h ⊢
  exact (heap_keep (heap_keep (heap_keep (heap_keep (heap_keep (heap_keep (heap_keep (heap_keep (heap_keep (heap_keep (heap_keep h _ _ hne) _ _ hne) _ _ hne) _ _ hne) _ _ hne) _ _ hne) _ _ hne) _ _ hne) _ _ hne) _ _ hne) _ _ hne)
theorem drew_heapL (w : World) : w.drew.heap = w.heap := rfl
theorem heap_past {w : World} {g2 k : Nat} (o' : OpR) (hne : k ≠ g2) : (((((((((((w.setCell ⟨g2, 0, none⟩ (.int .i64 o'.id)).setCell ⟨g2, 1, none⟩ (.int .i64 o'.proc)).setCell ⟨g2, 2, none⟩ (.int .i64 o'.obj)).setCell ⟨g2, 3, none⟩ (.int .i64 o'.kind)).setCell ⟨g2, 4, none⟩ (.int .i64 o'.meth)).setCell ⟨g2, 5, none⟩ (.int .i64 o'.arg)).setCell ⟨g2, 6, none⟩ (.int .i64 o'.sec)).setCell ⟨g2, 7, none⟩ (.bool o'.done)).setCell ⟨g2, 8, none⟩ (.int .i64 o'.res)).setCell ⟨g2, 9, none⟩ (.int .i64 o'.inv)).setCell ⟨g2, 10, none⟩ (.int .i64 o'.ret)).heap[k]? = w.heap[k]? := by
  rw [Below.heap_setCell _ _ _ _ hne, Below.heap_setCell _ _ _ _ hne, Below.heap_setCell _ _ _ _ hne, Below.heap_setCell _ _ _ _ hne, Below.heap_setCell _ _ _ _ hne, Below.heap_setCell _ _ _ _ hne, Below.heap_setCell _ _ _ _ hne, Below.heap_setCell _ _ _ _ hne, Below.heap_setCell _ _ _ _ hne, Below.heap_setCell _ _ _ _ hne, Below.heap_setCell _ _ _ _ hne]
/-- Two stored, one behind the other. -/
theorem two_stores {w w1 : World} {g g2 : Nat} {x y : OpR} (hg : Grow w w1) (h : OpBox w1 g x) (h2 : OpBox w1 g2 y) (hne : g ≠ g2) (l1 : w.heap.size ≤ g) (l2 : w.heap.size ≤ g2) (a b : OpR) :
    OpBox (((((((((((((((((((((((w1.setCell ⟨g, 0, none⟩ (.int .i64 a.id)).setCell ⟨g, 1, none⟩ (.int .i64 a.proc)).setCell ⟨g, 2, none⟩ (.int .i64 a.obj)).setCell ⟨g, 3, none⟩ (.int .i64 a.kind)).setCell ⟨g, 4, none⟩ (.int .i64 a.meth)).setCell ⟨g, 5, none⟩ (.int .i64 a.arg)).setCell ⟨g, 6, none⟩ (.int .i64 a.sec)).setCell ⟨g, 7, none⟩ (.bool a.done)).setCell ⟨g, 8, none⟩ (.int .i64 a.res)).setCell ⟨g, 9, none⟩ (.int .i64 a.inv)).setCell ⟨g, 10, none⟩ (.int .i64 a.ret)).setCell ⟨g2, 0, none⟩ (.int .i64 b.id)).setCell ⟨g2, 1, none⟩ (.int .i64 b.proc)).setCell ⟨g2, 2, none⟩ (.int .i64 b.obj)).setCell ⟨g2, 3, none⟩ (.int .i64 b.kind)).setCell ⟨g2, 4, none⟩ (.int .i64 b.meth)).setCell ⟨g2, 5, none⟩ (.int .i64 b.arg)).setCell ⟨g2, 6, none⟩ (.int .i64 b.sec)).setCell ⟨g2, 7, none⟩ (.bool b.done)).setCell ⟨g2, 8, none⟩ (.int .i64 b.res)).setCell ⟨g2, 9, none⟩ (.int .i64 b.inv)).setCell ⟨g2, 10, none⟩ (.int .i64 b.ret)).drew) g a ∧ OpBox (((((((((((((((((((((((w1.setCell ⟨g, 0, none⟩ (.int .i64 a.id)).setCell ⟨g, 1, none⟩ (.int .i64 a.proc)).setCell ⟨g, 2, none⟩ (.int .i64 a.obj)).setCell ⟨g, 3, none⟩ (.int .i64 a.kind)).setCell ⟨g, 4, none⟩ (.int .i64 a.meth)).setCell ⟨g, 5, none⟩ (.int .i64 a.arg)).setCell ⟨g, 6, none⟩ (.int .i64 a.sec)).setCell ⟨g, 7, none⟩ (.bool a.done)).setCell ⟨g, 8, none⟩ (.int .i64 a.res)).setCell ⟨g, 9, none⟩ (.int .i64 a.inv)).setCell ⟨g, 10, none⟩ (.int .i64 a.ret)).setCell ⟨g2, 0, none⟩ (.int .i64 b.id)).setCell ⟨g2, 1, none⟩ (.int .i64 b.proc)).setCell ⟨g2, 2, none⟩ (.int .i64 b.obj)).setCell ⟨g2, 3, none⟩ (.int .i64 b.kind)).setCell ⟨g2, 4, none⟩ (.int .i64 b.meth)).setCell ⟨g2, 5, none⟩ (.int .i64 b.arg)).setCell ⟨g2, 6, none⟩ (.int .i64 b.sec)).setCell ⟨g2, 7, none⟩ (.bool b.done)).setCell ⟨g2, 8, none⟩ (.int .i64 b.res)).setCell ⟨g2, 9, none⟩ (.int .i64 b.inv)).setCell ⟨g2, 10, none⟩ (.int .i64 b.ret)).drew) g2 b ∧ Grow w (((((((((((((((((((((((w1.setCell ⟨g, 0, none⟩ (.int .i64 a.id)).setCell ⟨g, 1, none⟩ (.int .i64 a.proc)).setCell ⟨g, 2, none⟩ (.int .i64 a.obj)).setCell ⟨g, 3, none⟩ (.int .i64 a.kind)).setCell ⟨g, 4, none⟩ (.int .i64 a.meth)).setCell ⟨g, 5, none⟩ (.int .i64 a.arg)).setCell ⟨g, 6, none⟩ (.int .i64 a.sec)).setCell ⟨g, 7, none⟩ (.bool a.done)).setCell ⟨g, 8, none⟩ (.int .i64 a.res)).setCell ⟨g, 9, none⟩ (.int .i64 a.inv)).setCell ⟨g, 10, none⟩ (.int .i64 a.ret)).setCell ⟨g2, 0, none⟩ (.int .i64 b.id)).setCell ⟨g2, 1, none⟩ (.int .i64 b.proc)).setCell ⟨g2, 2, none⟩ (.int .i64 b.obj)).setCell ⟨g2, 3, none⟩ (.int .i64 b.kind)).setCell ⟨g2, 4, none⟩ (.int .i64 b.meth)).setCell ⟨g2, 5, none⟩ (.int .i64 b.arg)).setCell ⟨g2, 6, none⟩ (.int .i64 b.sec)).setCell ⟨g2, 7, none⟩ (.bool b.done)).setCell ⟨g2, 8, none⟩ (.int .i64 b.res)).setCell ⟨g2, 9, none⟩ (.int .i64 b.inv)).setCell ⟨g2, 10, none⟩ (.int .i64 b.ret)).drew) ∧ ∀ k, k ≠ g → k ≠ g2 → (((((((((((((((((((((((w1.setCell ⟨g, 0, none⟩ (.int .i64 a.id)).setCell ⟨g, 1, none⟩ (.int .i64 a.proc)).setCell ⟨g, 2, none⟩ (.int .i64 a.obj)).setCell ⟨g, 3, none⟩ (.int .i64 a.kind)).setCell ⟨g, 4, none⟩ (.int .i64 a.meth)).setCell ⟨g, 5, none⟩ (.int .i64 a.arg)).setCell ⟨g, 6, none⟩ (.int .i64 a.sec)).setCell ⟨g, 7, none⟩ (.bool a.done)).setCell ⟨g, 8, none⟩ (.int .i64 a.res)).setCell ⟨g, 9, none⟩ (.int .i64 a.inv)).setCell ⟨g, 10, none⟩ (.int .i64 a.ret)).setCell ⟨g2, 0, none⟩ (.int .i64 b.id)).setCell ⟨g2, 1, none⟩ (.int .i64 b.proc)).setCell ⟨g2, 2, none⟩ (.int .i64 b.obj)).setCell ⟨g2, 3, none⟩ (.int .i64 b.kind)).setCell ⟨g2, 4, none⟩ (.int .i64 b.meth)).setCell ⟨g2, 5, none⟩ (.int .i64 b.arg)).setCell ⟨g2, 6, none⟩ (.int .i64 b.sec)).setCell ⟨g2, 7, none⟩ (.bool b.done)).setCell ⟨g2, 8, none⟩ (.int .i64 b.res)).setCell ⟨g2, 9, none⟩ (.int .i64 b.inv)).setCell ⟨g2, 10, none⟩ (.int .i64 b.ret)).drew).heap[k]? = w1.heap[k]? :=
  ⟨((h.store a).past b hne).grow (Grow.drew _), ((h2.past a (fun e => hne e.symm)).store b).grow (Grow.drew _), Grow.trans (Grow.store (Grow.store hg g l1 a) g2 l2 b) (Grow.drew _), fun k h1 h2 => by
    have e1 := heap_past (w := w1) (g2 := g) (k := k) a h1
    generalize (((((((((((w1.setCell ⟨g, 0, none⟩ (.int .i64 a.id)).setCell ⟨g, 1, none⟩ (.int .i64 a.proc)).setCell ⟨g, 2, none⟩ (.int .i64 a.obj)).setCell ⟨g, 3, none⟩ (.int .i64 a.kind)).setCell ⟨g, 4, none⟩ (.int .i64 a.meth)).setCell ⟨g, 5, none⟩ (.int .i64 a.arg)).setCell ⟨g, 6, none⟩ (.int .i64 a.sec)).setCell ⟨g, 7, none⟩ (.bool a.done)).setCell ⟨g, 8, none⟩ (.int .i64 a.res)).setCell ⟨g, 9, none⟩ (.int .i64 a.inv)).setCell ⟨g, 10, none⟩ (.int .i64 a.ret)) = W1 at e1 ⊢
    rw [drew_heapL]
    exact (heap_past (w := W1) b h2).trans e1⟩
theorem addBoxes (w w1 : World) (o : OpR) (b1 : Grow ((((w.alloc (.cells #[.int .i64 o.id, .int .i64 o.proc, .int .i64 o.obj, .int .i64 o.kind, .int .i64 o.meth, .int .i64 o.arg, .int .i64 o.sec, .bool o.done, .int .i64 o.res, .int .i64 o.inv, .int .i64 o.ret] 25)).alloc (.cells #[.int .i64 0, .int .i64 0, .int .i64 0, .int .i64 0, .int .i64 0, .int .i64 0, .int .i64 0, .bool false, .int .i64 0, .int .i64 0, .int .i64 0] 25)).alloc (.cells #[.int .i64 0, .int .i64 0, .int .i64 0, .int .i64 0, .int .i64 0, .int .i64 0, .int .i64 0, .bool false, .int .i64 0, .int .i64 0, .int .i64 0] 25)).alloc (.cells #[.int .i64 0, .int .i64 0, .int .i64 0, .int .i64 0, .int .i64 0, .int .i64 0, .int .i64 0, .bool false, .int .i64 0, .int .i64 0, .int .i64 0] 25)) w1) :
    OpBox w1 w.heap.size o ∧ OpBox w1 (w.heap.size + 1) opZ ∧ OpBox w1 (w.heap.size + 1 + 1) opZ ∧ OpBox w1 (w.heap.size + 1 + 1 + 1) opZ ∧ Grow w w1 := by
  refine ⟨OpBox.grow ?_ b1, OpBox.grow ?_ b1, OpBox.grow ?_ b1, OpBox.grow ?_ b1, Grow.trans (Grow.trans (Grow.trans (Grow.trans (Grow.alloc _ _) (Grow.alloc _ _)) (Grow.alloc _ _)) (Grow.alloc _ _)) b1⟩
  · exact heap_alloc_keep (heap_alloc_keep (heap_alloc_keep (heap_newZ _ _ rfl) _) _) _
  · exact heap_alloc_keep (heap_alloc_keep (heap_newZ _ _ (by simp)) _) _
  · exact heap_alloc_keep (heap_newZ _ _ (by simp)) _
  · exact heap_newZ _ _ (by simp)
set_option maxRecDepth 100000 in
set_option maxHeartbeats 4000000 in
/-- What can't be. -/
theorem addA_c (o : OpR) (i : Int) (there : Bool) (v : Value) (c : Int) (w : World) (hck : ∀ w : World, Calls Try.prog 19 #[.agg #[.int .i64 o.id, .int .i64 o.proc, .int .i64 o.obj, .int .i64 o.kind, .int .i64 o.meth, .int .i64 o.arg, .int .i64 o.sec, .bool o.done, .int .i64 o.res, .int .i64 o.inv, .int .i64 o.ret]] w fun e w' => e = .returned (.int .i64 c) ∧ Grow w w') (hc : ¬ c = 0) :
    Calls Try.prog 15 #[v, .agg #[.int .i64 o.id, .int .i64 o.proc, .int .i64 o.obj, .int .i64 o.kind, .int .i64 o.meth, .int .i64 o.arg, .int .i64 o.sec, .bool o.done, .int .i64 o.res, .int .i64 o.inv, .int .i64 o.ret], .int .i64 i, .bool there] w fun e w' => e = .returned (.tuple #[.slice none 0 0, .agg #[.int .i64 0, .int .i64 0, .int .i64 0, .int .i64 0, .int .i64 0, .int .i64 0, .int .i64 0, .bool false, .int .i64 0, .int .i64 0, .int .i64 0], .agg #[.int .i64 0, .int .i64 0, .int .i64 0, .int .i64 0, .int .i64 0, .int .i64 0, .int .i64 0, .bool false, .int .i64 0, .int .i64 0, .int .i64 0], .int .i64 c]) ∧ Grow w w' := by
  have HK := hid hck
  clear hck
  obtain ⟨id, proc, obj, kind, meth, arg, sec, done, res, inv, ret⟩ := o
  go_enter Try.func15, Try.ntmps15
  go_wp2_with fail
  refine (HK.out _).mono ?_
  rintro e w1 ⟨rfl, b1⟩
  obtain ⟨B0, B1, B2, B3, G1⟩ := addBoxes w w1 ⟨id, proc, obj, kind, meth, arg, sec, done, res, inv, ret⟩ b1
  clear b1
  have z1 : w.heap.size + 1 + 1 + 1 < w1.heap.size := B3.lt
  have HG1 := hid G1
  clear G1
  have HB1 := hid B1
  have HB2 := hid B2
  have HB3 := hid B3
  have q1 := B1.at
  have q2 := B2.at
  have q3 := B3.at
  obtain ⟨f0, f1, f2, f3, f4, f5, f6, f7, f8, f9, f10⟩ := B1.open
  obtain ⟨g0, g1, g2, g3, g4, g5, g6, g7, g8, g9, g10⟩ := B2.open
  unfold OpAt opZ at q1 q2 q3
  dsimp only at q1 q2 q3
  simp only [Nat.zero_add] at q1 q2 q3
  obtain ⟨d0, d1, d2, d3, d4, d5, d6, d7, d8, d9, d10⟩ := q1
  obtain ⟨e0, e1, e2, e3, e4, e5, e6, e7, e8, e9, e10⟩ := q2
  obtain ⟨h0, h1, h2, h3, h4, h5, h6, h7, h8, h9, h10⟩ := q3
  clear B1 B2 B3
  go_wp2_with fail
  go_region_held3 (fun w' => w'.cell? ⟨w.heap.size + 1 + 1 + 1, 0, none⟩ = some (.int .i64 0) ∧ w'.cell? ⟨w.heap.size + 1 + 1 + 1, 1, none⟩ = some (.int .i64 0) ∧ w'.cell? ⟨w.heap.size + 1 + 1 + 1, 2, none⟩ = some (.int .i64 0) ∧ w'.cell? ⟨w.heap.size + 1 + 1 + 1, 3, none⟩ = some (.int .i64 0) ∧ w'.cell? ⟨w.heap.size + 1 + 1 + 1, 4, none⟩ = some (.int .i64 0) ∧ w'.cell? ⟨w.heap.size + 1 + 1 + 1, 5, none⟩ = some (.int .i64 0) ∧ w'.cell? ⟨w.heap.size + 1 + 1 + 1, 6, none⟩ = some (.int .i64 0) ∧ w'.cell? ⟨w.heap.size + 1 + 1 + 1, 7, none⟩ = some (.bool false) ∧ w'.cell? ⟨w.heap.size + 1 + 1 + 1, 8, none⟩ = some (.int .i64 0) ∧ w'.cell? ⟨w.heap.size + 1 + 1 + 1, 9, none⟩ = some (.int .i64 0) ∧ w'.cell? ⟨w.heap.size + 1 + 1 + 1, 10, none⟩ = some (.int .i64 0)) (go_keep) (fail)
  go_wp2_with fail
  obtain ⟨E1, E2, E3, -⟩ := two_stores HG1.out HB1.out HB2.out (by omega) (by omega) (by omega) opZ opZ
  (try simp only [Exit.inBlock, Exit.then])
  refine bodyPost_ret (results_rows4 (fn := Try.f15) (p := 9) (q := 10) (s := 8) (u := 11) rfl _ _ (w.heap.size + 1) (w.heap.size + 1 + 1) 25 _ _ (0, 0) (0, 0) _ rfl E1 rfl E2 Try.underlying25 rfl (by kernel_rfl) (by kernel_rfl)) rfl ⟨rfl, E3⟩
set_option maxRecDepth 100000 in
set_option maxHeartbeats 4000000 in
/-- What is there. -/
theorem addB_c (o : OpR) (i : Int) (v : Value) (w : World) (hck : ∀ w : World, Calls Try.prog 19 #[.agg #[.int .i64 o.id, .int .i64 o.proc, .int .i64 o.obj, .int .i64 o.kind, .int .i64 o.meth, .int .i64 o.arg, .int .i64 o.sec, .bool o.done, .int .i64 o.res, .int .i64 o.inv, .int .i64 o.ret]] w fun e w' => e = .returned (.int .i64 0) ∧ Grow w w') :
    Calls Try.prog 15 #[v, .agg #[.int .i64 o.id, .int .i64 o.proc, .int .i64 o.obj, .int .i64 o.kind, .int .i64 o.meth, .int .i64 o.arg, .int .i64 o.sec, .bool o.done, .int .i64 o.res, .int .i64 o.inv, .int .i64 o.ret], .int .i64 i, .bool true] w fun e w' => e = .returned (.tuple #[.slice none 0 0, .agg #[.int .i64 0, .int .i64 0, .int .i64 0, .int .i64 0, .int .i64 0, .int .i64 0, .int .i64 0, .bool false, .int .i64 0, .int .i64 0, .int .i64 0], .agg #[.int .i64 0, .int .i64 0, .int .i64 0, .int .i64 0, .int .i64 0, .int .i64 0, .int .i64 0, .bool false, .int .i64 0, .int .i64 0, .int .i64 0], .int .i64 7]) ∧ Grow w w' := by
  have HK := hid hck
  clear hck
  obtain ⟨id, proc, obj, kind, meth, arg, sec, done, res, inv, ret⟩ := o
  go_enter Try.func15, Try.ntmps15
  go_wp2_with fail
  refine (HK.out _).mono ?_
  rintro e w1 ⟨rfl, b1⟩
  obtain ⟨B0, B1, B2, B3, G1⟩ := addBoxes w w1 ⟨id, proc, obj, kind, meth, arg, sec, done, res, inv, ret⟩ b1
  clear b1
  have z1 : w.heap.size + 1 + 1 + 1 < w1.heap.size := B3.lt
  have HG1 := hid G1
  clear G1
  have HB1 := hid B1
  have HB2 := hid B2
  have HB3 := hid B3
  have q1 := B1.at
  have q2 := B2.at
  have q3 := B3.at
  obtain ⟨f0, f1, f2, f3, f4, f5, f6, f7, f8, f9, f10⟩ := B1.open
  obtain ⟨g0, g1, g2, g3, g4, g5, g6, g7, g8, g9, g10⟩ := B2.open
  unfold OpAt opZ at q1 q2 q3
  dsimp only at q1 q2 q3
  simp only [Nat.zero_add] at q1 q2 q3
  obtain ⟨d0, d1, d2, d3, d4, d5, d6, d7, d8, d9, d10⟩ := q1
  obtain ⟨e0, e1, e2, e3, e4, e5, e6, e7, e8, e9, e10⟩ := q2
  obtain ⟨h0, h1, h2, h3, h4, h5, h6, h7, h8, h9, h10⟩ := q3
  clear B1 B2 B3
  go_wp2_with fail
  go_region_held3 (fun w' => w'.cell? ⟨w.heap.size + 1 + 1 + 1, 0, none⟩ = some (.int .i64 0) ∧ w'.cell? ⟨w.heap.size + 1 + 1 + 1, 1, none⟩ = some (.int .i64 0) ∧ w'.cell? ⟨w.heap.size + 1 + 1 + 1, 2, none⟩ = some (.int .i64 0) ∧ w'.cell? ⟨w.heap.size + 1 + 1 + 1, 3, none⟩ = some (.int .i64 0) ∧ w'.cell? ⟨w.heap.size + 1 + 1 + 1, 4, none⟩ = some (.int .i64 0) ∧ w'.cell? ⟨w.heap.size + 1 + 1 + 1, 5, none⟩ = some (.int .i64 0) ∧ w'.cell? ⟨w.heap.size + 1 + 1 + 1, 6, none⟩ = some (.int .i64 0) ∧ w'.cell? ⟨w.heap.size + 1 + 1 + 1, 7, none⟩ = some (.bool false) ∧ w'.cell? ⟨w.heap.size + 1 + 1 + 1, 8, none⟩ = some (.int .i64 0) ∧ w'.cell? ⟨w.heap.size + 1 + 1 + 1, 9, none⟩ = some (.int .i64 0) ∧ w'.cell? ⟨w.heap.size + 1 + 1 + 1, 10, none⟩ = some (.int .i64 0)) (go_keep) (fail)
  go_wp2_with fail
  obtain ⟨E1, E2, E3, -⟩ := two_stores HG1.out HB1.out HB2.out (by omega) (by omega) (by omega) opZ opZ
  (try simp only [Exit.inBlock, Exit.then])
  refine bodyPost_ret (results_rows4 (fn := Try.f15) (p := 9) (q := 10) (s := 8) (u := 11) rfl _ _ (w.heap.size + 1) (w.heap.size + 1 + 1) 25 _ _ (0, 0) (0, 0) _ rfl E1 rfl E2 Try.underlying25 rfl (by kernel_rfl) (by kernel_rfl)) rfl ⟨rfl, E3⟩
set_option maxRecDepth 100000 in
set_option maxHeartbeats 4000000 in
/-- What can't be beside others. -/
theorem addC_c (o : OpR) (i : Int) (v : Value) (c : Int) (w : World) (hck : ∀ w : World, Calls Try.prog 19 #[.agg #[.int .i64 o.id, .int .i64 o.proc, .int .i64 o.obj, .int .i64 o.kind, .int .i64 o.meth, .int .i64 o.arg, .int .i64 o.sec, .bool o.done, .int .i64 o.res, .int .i64 o.inv, .int .i64 o.ret]] w fun e w' => e = .returned (.int .i64 0) ∧ Grow w w') (hbk : ∀ w' : World, Grow w w' → Calls Try.prog 20 #[v, .agg #[.int .i64 o.id, .int .i64 o.proc, .int .i64 o.obj, .int .i64 o.kind, .int .i64 o.meth, .int .i64 o.arg, .int .i64 o.sec, .bool o.done, .int .i64 o.res, .int .i64 o.inv, .int .i64 o.ret]] w' fun e w'' => e = .returned (.int .i64 c) ∧ Grow w' w'') (hc : ¬ c = 0) :
    Calls Try.prog 15 #[v, .agg #[.int .i64 o.id, .int .i64 o.proc, .int .i64 o.obj, .int .i64 o.kind, .int .i64 o.meth, .int .i64 o.arg, .int .i64 o.sec, .bool o.done, .int .i64 o.res, .int .i64 o.inv, .int .i64 o.ret], .int .i64 i, .bool false] w fun e w' => e = .returned (.tuple #[.slice none 0 0, .agg #[.int .i64 0, .int .i64 0, .int .i64 0, .int .i64 0, .int .i64 0, .int .i64 0, .int .i64 0, .bool false, .int .i64 0, .int .i64 0, .int .i64 0], .agg #[.int .i64 0, .int .i64 0, .int .i64 0, .int .i64 0, .int .i64 0, .int .i64 0, .int .i64 0, .bool false, .int .i64 0, .int .i64 0, .int .i64 0], .int .i64 c]) ∧ Grow w w' := by
  have HK := hid hck
  have HBK := hid hbk
  clear hck hbk
  obtain ⟨id, proc, obj, kind, meth, arg, sec, done, res, inv, ret⟩ := o
  go_enter Try.func15, Try.ntmps15
  go_wp2_with fail
  refine (HK.out _).mono ?_
  rintro e w1 ⟨rfl, b1⟩
  obtain ⟨B0, B1, B2, B3, G1⟩ := addBoxes w w1 ⟨id, proc, obj, kind, meth, arg, sec, done, res, inv, ret⟩ b1
  clear b1
  have z1 : w.heap.size + 1 + 1 + 1 < w1.heap.size := B3.lt
  have HB0 := hid B0
  have HB1 := hid B1
  have HB2 := hid B2
  have HB3 := hid B3
  have HG1 := hid G1
  have q0 := B0.at
  unfold OpAt at q0
  dsimp only at q0
  simp only [Nat.zero_add] at q0
  obtain ⟨a0, a1, a2, a3, a4, a5, a6, a7, a8, a9, a10⟩ := q0
  clear B0 B1 B2 B3 G1
  go_wp2_with fail
  refine (HBK.out _ HG1.out).mono ?_
  rintro e w2 ⟨rfl, b2⟩
  have B0 := HB0.out.grow b2
  have B1 := HB1.out.grow b2
  have B2 := HB2.out.grow b2
  have B3 := HB3.out.grow b2
  have G1 := Grow.trans HG1.out b2
  have z2 : w.heap.size + 1 + 1 + 1 < w2.heap.size := B3.lt
  clear a0 a1 a2 a3 a4 a5 a6 a7 a8 a9 a10 HB0 HB1 HB2 HB3 HG1 b2 z1
  have HG1 := hid G1
  clear G1
  have HB1 := hid B1
  have HB2 := hid B2
  have HB3 := hid B3
  have q1 := B1.at
  have q2 := B2.at
  have q3 := B3.at
  obtain ⟨f0, f1, f2, f3, f4, f5, f6, f7, f8, f9, f10⟩ := B1.open
  obtain ⟨g0, g1, g2, g3, g4, g5, g6, g7, g8, g9, g10⟩ := B2.open
  unfold OpAt opZ at q1 q2 q3
  dsimp only at q1 q2 q3
  simp only [Nat.zero_add] at q1 q2 q3
  obtain ⟨d0, d1, d2, d3, d4, d5, d6, d7, d8, d9, d10⟩ := q1
  obtain ⟨e0, e1, e2, e3, e4, e5, e6, e7, e8, e9, e10⟩ := q2
  obtain ⟨h0, h1, h2, h3, h4, h5, h6, h7, h8, h9, h10⟩ := q3
  clear B1 B2 B3
  go_wp2_with fail
  go_region_held3 (fun w' => w'.cell? ⟨w.heap.size + 1 + 1 + 1, 0, none⟩ = some (.int .i64 0) ∧ w'.cell? ⟨w.heap.size + 1 + 1 + 1, 1, none⟩ = some (.int .i64 0) ∧ w'.cell? ⟨w.heap.size + 1 + 1 + 1, 2, none⟩ = some (.int .i64 0) ∧ w'.cell? ⟨w.heap.size + 1 + 1 + 1, 3, none⟩ = some (.int .i64 0) ∧ w'.cell? ⟨w.heap.size + 1 + 1 + 1, 4, none⟩ = some (.int .i64 0) ∧ w'.cell? ⟨w.heap.size + 1 + 1 + 1, 5, none⟩ = some (.int .i64 0) ∧ w'.cell? ⟨w.heap.size + 1 + 1 + 1, 6, none⟩ = some (.int .i64 0) ∧ w'.cell? ⟨w.heap.size + 1 + 1 + 1, 7, none⟩ = some (.bool false) ∧ w'.cell? ⟨w.heap.size + 1 + 1 + 1, 8, none⟩ = some (.int .i64 0) ∧ w'.cell? ⟨w.heap.size + 1 + 1 + 1, 9, none⟩ = some (.int .i64 0) ∧ w'.cell? ⟨w.heap.size + 1 + 1 + 1, 10, none⟩ = some (.int .i64 0)) (go_keep) (fail)
  go_wp2_with fail
  obtain ⟨E1, E2, E3, -⟩ := two_stores HG1.out HB1.out HB2.out (by omega) (by omega) (by omega) opZ opZ
  (try simp only [Exit.inBlock, Exit.then])
  refine bodyPost_ret (results_rows4 (fn := Try.f15) (p := 9) (q := 10) (s := 8) (u := 11) rfl _ _ (w.heap.size + 1) (w.heap.size + 1 + 1) 25 _ _ (0, 0) (0, 0) _ rfl E1 rfl E2 Try.underlying25 rfl (by kernel_rfl) (by kernel_rfl)) rfl ⟨rfl, E3⟩
set_option maxRecDepth 100000 in
set_option maxHeartbeats 4000000 in
/-- One too many. -/
theorem addD_c (o : OpR) (i : Int) (p : Option Addr) (n cap : Nat) (w : World) (hck : ∀ w : World, Calls Try.prog 19 #[.agg #[.int .i64 o.id, .int .i64 o.proc, .int .i64 o.obj, .int .i64 o.kind, .int .i64 o.meth, .int .i64 o.arg, .int .i64 o.sec, .bool o.done, .int .i64 o.res, .int .i64 o.inv, .int .i64 o.ret]] w fun e w' => e = .returned (.int .i64 0) ∧ Grow w w') (hbk : ∀ w' : World, Grow w w' → Calls Try.prog 20 #[.slice p n cap, .agg #[.int .i64 o.id, .int .i64 o.proc, .int .i64 o.obj, .int .i64 o.kind, .int .i64 o.meth, .int .i64 o.arg, .int .i64 o.sec, .bool o.done, .int .i64 o.res, .int .i64 o.inv, .int .i64 o.ret]] w' fun e w'' => e = .returned (.int .i64 0) ∧ Grow w' w'') (hn : (64 : Int) ≤ (n : Int)) :
    Calls Try.prog 15 #[.slice p n cap, .agg #[.int .i64 o.id, .int .i64 o.proc, .int .i64 o.obj, .int .i64 o.kind, .int .i64 o.meth, .int .i64 o.arg, .int .i64 o.sec, .bool o.done, .int .i64 o.res, .int .i64 o.inv, .int .i64 o.ret], .int .i64 i, .bool false] w fun e w' => e = .returned (.tuple #[.slice none 0 0, .agg #[.int .i64 0, .int .i64 0, .int .i64 0, .int .i64 0, .int .i64 0, .int .i64 0, .int .i64 0, .bool false, .int .i64 0, .int .i64 0, .int .i64 0], .agg #[.int .i64 0, .int .i64 0, .int .i64 0, .int .i64 0, .int .i64 0, .int .i64 0, .int .i64 0, .bool false, .int .i64 0, .int .i64 0, .int .i64 0], .int .i64 34]) ∧ Grow w w' := by
  have HK := hid hck
  have HBK := hid hbk
  clear hck hbk
  obtain ⟨id, proc, obj, kind, meth, arg, sec, done, res, inv, ret⟩ := o
  go_enter Try.func15, Try.ntmps15
  go_wp2_with fail
  refine (HK.out _).mono ?_
  rintro e w1 ⟨rfl, b1⟩
  obtain ⟨B0, B1, B2, B3, G1⟩ := addBoxes w w1 ⟨id, proc, obj, kind, meth, arg, sec, done, res, inv, ret⟩ b1
  clear b1
  have z1 : w.heap.size + 1 + 1 + 1 < w1.heap.size := B3.lt
  have HB0 := hid B0
  have HB1 := hid B1
  have HB2 := hid B2
  have HB3 := hid B3
  have HG1 := hid G1
  have q0 := B0.at
  unfold OpAt at q0
  dsimp only at q0
  simp only [Nat.zero_add] at q0
  obtain ⟨a0, a1, a2, a3, a4, a5, a6, a7, a8, a9, a10⟩ := q0
  clear B0 B1 B2 B3 G1
  go_wp2_with fail
  refine (HBK.out _ HG1.out).mono ?_
  rintro e w2 ⟨rfl, b2⟩
  have B0 := HB0.out.grow b2
  have B1 := HB1.out.grow b2
  have B2 := HB2.out.grow b2
  have B3 := HB3.out.grow b2
  have G1 := Grow.trans HG1.out b2
  have z2 : w.heap.size + 1 + 1 + 1 < w2.heap.size := B3.lt
  clear a0 a1 a2 a3 a4 a5 a6 a7 a8 a9 a10 HB0 HB1 HB2 HB3 HG1 b2 z1
  have HG1 := hid G1
  clear G1
  have HB1 := hid B1
  have HB2 := hid B2
  have HB3 := hid B3
  have q1 := B1.at
  have q2 := B2.at
  have q3 := B3.at
  obtain ⟨f0, f1, f2, f3, f4, f5, f6, f7, f8, f9, f10⟩ := B1.open
  obtain ⟨g0, g1, g2, g3, g4, g5, g6, g7, g8, g9, g10⟩ := B2.open
  unfold OpAt opZ at q1 q2 q3
  dsimp only at q1 q2 q3
  simp only [Nat.zero_add] at q1 q2 q3
  obtain ⟨d0, d1, d2, d3, d4, d5, d6, d7, d8, d9, d10⟩ := q1
  obtain ⟨e0, e1, e2, e3, e4, e5, e6, e7, e8, e9, e10⟩ := q2
  obtain ⟨h0, h1, h2, h3, h4, h5, h6, h7, h8, h9, h10⟩ := q3
  clear B1 B2 B3
  go_wp2_with fail
  go_region_held3 (fun w' => w'.cell? ⟨w.heap.size + 1 + 1 + 1, 0, none⟩ = some (.int .i64 0) ∧ w'.cell? ⟨w.heap.size + 1 + 1 + 1, 1, none⟩ = some (.int .i64 0) ∧ w'.cell? ⟨w.heap.size + 1 + 1 + 1, 2, none⟩ = some (.int .i64 0) ∧ w'.cell? ⟨w.heap.size + 1 + 1 + 1, 3, none⟩ = some (.int .i64 0) ∧ w'.cell? ⟨w.heap.size + 1 + 1 + 1, 4, none⟩ = some (.int .i64 0) ∧ w'.cell? ⟨w.heap.size + 1 + 1 + 1, 5, none⟩ = some (.int .i64 0) ∧ w'.cell? ⟨w.heap.size + 1 + 1 + 1, 6, none⟩ = some (.int .i64 0) ∧ w'.cell? ⟨w.heap.size + 1 + 1 + 1, 7, none⟩ = some (.bool false) ∧ w'.cell? ⟨w.heap.size + 1 + 1 + 1, 8, none⟩ = some (.int .i64 0) ∧ w'.cell? ⟨w.heap.size + 1 + 1 + 1, 9, none⟩ = some (.int .i64 0) ∧ w'.cell? ⟨w.heap.size + 1 + 1 + 1, 10, none⟩ = some (.int .i64 0)) (go_keep) (fail)
  go_wp2_with fail
  obtain ⟨E1, E2, E3, -⟩ := two_stores HG1.out HB1.out HB2.out (by omega) (by omega) (by omega) opZ opZ
  (try simp only [Exit.inBlock, Exit.then])
  refine bodyPost_ret (results_rows4 (fn := Try.f15) (p := 9) (q := 10) (s := 8) (u := 11) rfl _ _ (w.heap.size + 1) (w.heap.size + 1 + 1) 25 _ _ (0, 0) (0, 0) _ rfl E1 rfl E2 Try.underlying25 rfl (by kernel_rfl) (by kernel_rfl)) rfl ⟨rfl, E3⟩
/-- A world that grew, then a row of new ones that was written. -/
theorem Grow.moved {a b c : World} {r : Option Nat} (g : Grow a b) (m : ∀ p, Moved p r b c) (hr : ∀ j, r = some j → a.heap.size ≤ j) : Grow a c :=
  ⟨(m 0).os.trans g.os, (m 0).tape.trans g.tape, (m 0).output.trans g.output, Nat.le_trans g.size (m 0).size, fun k hk =>
    ((m a.heap.size).block k (Nat.lt_of_lt_of_le hk g.size) (by omega) (fun e => by have := hr k e.symm; omega)).trans (g.block k hk)⟩
theorem own_less {w : World} {base b : Nat} {e : TypeId} {size n : Nat} {v : Value} {xs : List Value} (h : w.ownsRow base e size v n xs) (hb : b ≤ base) : w.ownsRow b e size v n xs := by
  refine ⟨h.1, ?_⟩
  rcases h.2 with h1 | ⟨g, cap, cur, h1, h2, h3⟩
  · exact .inl h1
  · exact .inr ⟨g, cap, cur, h1, Nat.le_trans hb h2, h3⟩
theorem own_same {w w' : World} {base : Nat} {e : TypeId} {size n : Nat} {v : Value} {xs : List Value} (h : w.ownsRow base e size v n xs) (hs : ∀ k, base ≤ k → w'.heap[k]? = w.heap[k]?) : w'.ownsRow base e size v n xs := by
  refine ⟨h.1, ?_⟩
  rcases h.2 with h1 | ⟨g, cap, cur, h1, h2, h3, h4⟩
  · exact .inl h1
  · exact .inr ⟨g, cap, cur, h1, h2, (hs g h2).trans h3, h4⟩
end Go.Proofs.Ytljimlaalebmaaa
