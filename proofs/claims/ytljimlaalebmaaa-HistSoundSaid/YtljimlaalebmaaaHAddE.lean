/- What hist.add tells of one that is added. -/
import Derived.Test.YtljimlaalebmaaaHAdd
namespace Go.Proofs.Ytljimlaalebmaaa
open Go.RowKit
set_option linter.unusedVariables false
set_option linter.unusedSimpArgs false
theorem two_stores0 {w w1 : World} {g g2 : Nat} {x y : OpR} (hg : Grow w w1) (h : OpBox w1 g x) (h2 : OpBox w1 g2 y) (hne : g ≠ g2) (l1 : w.heap.size ≤ g) (l2 : w.heap.size ≤ g2) (a b : OpR) :
    OpBox ((((((((((((((((((((((w1.setCell ⟨g, 0, none⟩ (.int .i64 a.id)).setCell ⟨g, 1, none⟩ (.int .i64 a.proc)).setCell ⟨g, 2, none⟩ (.int .i64 a.obj)).setCell ⟨g, 3, none⟩ (.int .i64 a.kind)).setCell ⟨g, 4, none⟩ (.int .i64 a.meth)).setCell ⟨g, 5, none⟩ (.int .i64 a.arg)).setCell ⟨g, 6, none⟩ (.int .i64 a.sec)).setCell ⟨g, 7, none⟩ (.bool a.done)).setCell ⟨g, 8, none⟩ (.int .i64 a.res)).setCell ⟨g, 9, none⟩ (.int .i64 a.inv)).setCell ⟨g, 10, none⟩ (.int .i64 a.ret)).setCell ⟨g2, 0, none⟩ (.int .i64 b.id)).setCell ⟨g2, 1, none⟩ (.int .i64 b.proc)).setCell ⟨g2, 2, none⟩ (.int .i64 b.obj)).setCell ⟨g2, 3, none⟩ (.int .i64 b.kind)).setCell ⟨g2, 4, none⟩ (.int .i64 b.meth)).setCell ⟨g2, 5, none⟩ (.int .i64 b.arg)).setCell ⟨g2, 6, none⟩ (.int .i64 b.sec)).setCell ⟨g2, 7, none⟩ (.bool b.done)).setCell ⟨g2, 8, none⟩ (.int .i64 b.res)).setCell ⟨g2, 9, none⟩ (.int .i64 b.inv)).setCell ⟨g2, 10, none⟩ (.int .i64 b.ret)) g a ∧ OpBox ((((((((((((((((((((((w1.setCell ⟨g, 0, none⟩ (.int .i64 a.id)).setCell ⟨g, 1, none⟩ (.int .i64 a.proc)).setCell ⟨g, 2, none⟩ (.int .i64 a.obj)).setCell ⟨g, 3, none⟩ (.int .i64 a.kind)).setCell ⟨g, 4, none⟩ (.int .i64 a.meth)).setCell ⟨g, 5, none⟩ (.int .i64 a.arg)).setCell ⟨g, 6, none⟩ (.int .i64 a.sec)).setCell ⟨g, 7, none⟩ (.bool a.done)).setCell ⟨g, 8, none⟩ (.int .i64 a.res)).setCell ⟨g, 9, none⟩ (.int .i64 a.inv)).setCell ⟨g, 10, none⟩ (.int .i64 a.ret)).setCell ⟨g2, 0, none⟩ (.int .i64 b.id)).setCell ⟨g2, 1, none⟩ (.int .i64 b.proc)).setCell ⟨g2, 2, none⟩ (.int .i64 b.obj)).setCell ⟨g2, 3, none⟩ (.int .i64 b.kind)).setCell ⟨g2, 4, none⟩ (.int .i64 b.meth)).setCell ⟨g2, 5, none⟩ (.int .i64 b.arg)).setCell ⟨g2, 6, none⟩ (.int .i64 b.sec)).setCell ⟨g2, 7, none⟩ (.bool b.done)).setCell ⟨g2, 8, none⟩ (.int .i64 b.res)).setCell ⟨g2, 9, none⟩ (.int .i64 b.inv)).setCell ⟨g2, 10, none⟩ (.int .i64 b.ret)) g2 b ∧ Grow w ((((((((((((((((((((((w1.setCell ⟨g, 0, none⟩ (.int .i64 a.id)).setCell ⟨g, 1, none⟩ (.int .i64 a.proc)).setCell ⟨g, 2, none⟩ (.int .i64 a.obj)).setCell ⟨g, 3, none⟩ (.int .i64 a.kind)).setCell ⟨g, 4, none⟩ (.int .i64 a.meth)).setCell ⟨g, 5, none⟩ (.int .i64 a.arg)).setCell ⟨g, 6, none⟩ (.int .i64 a.sec)).setCell ⟨g, 7, none⟩ (.bool a.done)).setCell ⟨g, 8, none⟩ (.int .i64 a.res)).setCell ⟨g, 9, none⟩ (.int .i64 a.inv)).setCell ⟨g, 10, none⟩ (.int .i64 a.ret)).setCell ⟨g2, 0, none⟩ (.int .i64 b.id)).setCell ⟨g2, 1, none⟩ (.int .i64 b.proc)).setCell ⟨g2, 2, none⟩ (.int .i64 b.obj)).setCell ⟨g2, 3, none⟩ (.int .i64 b.kind)).setCell ⟨g2, 4, none⟩ (.int .i64 b.meth)).setCell ⟨g2, 5, none⟩ (.int .i64 b.arg)).setCell ⟨g2, 6, none⟩ (.int .i64 b.sec)).setCell ⟨g2, 7, none⟩ (.bool b.done)).setCell ⟨g2, 8, none⟩ (.int .i64 b.res)).setCell ⟨g2, 9, none⟩ (.int .i64 b.inv)).setCell ⟨g2, 10, none⟩ (.int .i64 b.ret)) ∧ ∀ k, k ≠ g → k ≠ g2 → ((((((((((((((((((((((w1.setCell ⟨g, 0, none⟩ (.int .i64 a.id)).setCell ⟨g, 1, none⟩ (.int .i64 a.proc)).setCell ⟨g, 2, none⟩ (.int .i64 a.obj)).setCell ⟨g, 3, none⟩ (.int .i64 a.kind)).setCell ⟨g, 4, none⟩ (.int .i64 a.meth)).setCell ⟨g, 5, none⟩ (.int .i64 a.arg)).setCell ⟨g, 6, none⟩ (.int .i64 a.sec)).setCell ⟨g, 7, none⟩ (.bool a.done)).setCell ⟨g, 8, none⟩ (.int .i64 a.res)).setCell ⟨g, 9, none⟩ (.int .i64 a.inv)).setCell ⟨g, 10, none⟩ (.int .i64 a.ret)).setCell ⟨g2, 0, none⟩ (.int .i64 b.id)).setCell ⟨g2, 1, none⟩ (.int .i64 b.proc)).setCell ⟨g2, 2, none⟩ (.int .i64 b.obj)).setCell ⟨g2, 3, none⟩ (.int .i64 b.kind)).setCell ⟨g2, 4, none⟩ (.int .i64 b.meth)).setCell ⟨g2, 5, none⟩ (.int .i64 b.arg)).setCell ⟨g2, 6, none⟩ (.int .i64 b.sec)).setCell ⟨g2, 7, none⟩ (.bool b.done)).setCell ⟨g2, 8, none⟩ (.int .i64 b.res)).setCell ⟨g2, 9, none⟩ (.int .i64 b.inv)).setCell ⟨g2, 10, none⟩ (.int .i64 b.ret)).heap[k]? = w1.heap[k]? :=
  ⟨(h.store a).past b hne, (h2.past a (fun e => hne e.symm)).store b, Grow.store (Grow.store hg g l1 a) g2 l2 b, fun k h1 h2 => by
    have e1 := heap_past (w := w1) (g2 := g) (k := k) a h1
    generalize (((((((((((w1.setCell ⟨g, 0, none⟩ (.int .i64 a.id)).setCell ⟨g, 1, none⟩ (.int .i64 a.proc)).setCell ⟨g, 2, none⟩ (.int .i64 a.obj)).setCell ⟨g, 3, none⟩ (.int .i64 a.kind)).setCell ⟨g, 4, none⟩ (.int .i64 a.meth)).setCell ⟨g, 5, none⟩ (.int .i64 a.arg)).setCell ⟨g, 6, none⟩ (.int .i64 a.sec)).setCell ⟨g, 7, none⟩ (.bool a.done)).setCell ⟨g, 8, none⟩ (.int .i64 a.res)).setCell ⟨g, 9, none⟩ (.int .i64 a.inv)).setCell ⟨g, 10, none⟩ (.int .i64 a.ret)) = W1 at e1 ⊢
    exact (heap_past (w := W1) b h2).trans e1⟩
theorem keepE {w : World} {G3 G0 : Nat} {id proc obj kind meth arg sec : Int} {done : Bool} {res inv ret : Int} (h3 : OpBox w G3 opZ) (h0 : OpBox w G0 ⟨id, proc, obj, kind, meth, arg, sec, done, res, inv, ret⟩) :
    w.cell? ⟨G3, 0, none⟩ = some (.int .i64 0) ∧ w.cell? ⟨G3, 1, none⟩ = some (.int .i64 0) ∧ w.cell? ⟨G3, 2, none⟩ = some (.int .i64 0) ∧ w.cell? ⟨G3, 3, none⟩ = some (.int .i64 0) ∧ w.cell? ⟨G3, 4, none⟩ = some (.int .i64 0) ∧ w.cell? ⟨G3, 5, none⟩ = some (.int .i64 0) ∧ w.cell? ⟨G3, 6, none⟩ = some (.int .i64 0) ∧ w.cell? ⟨G3, 7, none⟩ = some (.bool false) ∧ w.cell? ⟨G3, 8, none⟩ = some (.int .i64 0) ∧ w.cell? ⟨G3, 9, none⟩ = some (.int .i64 0) ∧ w.cell? ⟨G3, 10, none⟩ = some (.int .i64 0) ∧ w.cell? ⟨G0, 0, none⟩ = some (.int .i64 id) ∧ w.cell? ⟨G0, 1, none⟩ = some (.int .i64 proc) ∧ w.cell? ⟨G0, 2, none⟩ = some (.int .i64 obj) ∧ w.cell? ⟨G0, 3, none⟩ = some (.int .i64 kind) ∧ w.cell? ⟨G0, 4, none⟩ = some (.int .i64 meth) ∧ w.cell? ⟨G0, 5, none⟩ = some (.int .i64 arg) ∧ w.cell? ⟨G0, 6, none⟩ = some (.int .i64 sec) ∧ w.cell? ⟨G0, 7, none⟩ = some (.bool done) ∧ w.cell? ⟨G0, 8, none⟩ = some (.int .i64 res) ∧ w.cell? ⟨G0, 9, none⟩ = some (.int .i64 inv) ∧ w.cell? ⟨G0, 10, none⟩ = some (.int .i64 ret) := by
  obtain ⟨a0, a1, a2, a3, a4, a5, a6, a7, a8, a9, a10⟩ := h3.at
  obtain ⟨b0, b1, b2, b3, b4, b5, b6, b7, b8, b9, b10⟩ := h0.at
  exact ⟨a0, a1, a2, a3, a4, a5, a6, a7, a8, a9, a10, b0, b1, b2, b3, b4, b5, b6, b7, b8, b9, b10⟩
theorem past_opZ {w : World} {g g2 : Nat} {o : OpR} (h : OpBox w g o) (hne : g ≠ g2) : OpBox (((((((((((w.setCell ⟨g2, 0, none⟩ (.int .i64 0)).setCell ⟨g2, 1, none⟩ (.int .i64 0)).setCell ⟨g2, 2, none⟩ (.int .i64 0)).setCell ⟨g2, 3, none⟩ (.int .i64 0)).setCell ⟨g2, 4, none⟩ (.int .i64 0)).setCell ⟨g2, 5, none⟩ (.int .i64 0)).setCell ⟨g2, 6, none⟩ (.int .i64 0)).setCell ⟨g2, 7, none⟩ (.bool false)).setCell ⟨g2, 8, none⟩ (.int .i64 0)).setCell ⟨g2, 9, none⟩ (.int .i64 0)).setCell ⟨g2, 10, none⟩ (.int .i64 0)) g o := OpBox.past h opZ hne
theorem past_op {w : World} {g g2 : Nat} {o : OpR} {id proc obj kind meth arg sec : Int} {done : Bool} {res inv ret : Int} (h : OpBox w g o) (hne : g ≠ g2) : OpBox (((((((((((w.setCell ⟨g2, 0, none⟩ (.int .i64 id)).setCell ⟨g2, 1, none⟩ (.int .i64 proc)).setCell ⟨g2, 2, none⟩ (.int .i64 obj)).setCell ⟨g2, 3, none⟩ (.int .i64 kind)).setCell ⟨g2, 4, none⟩ (.int .i64 meth)).setCell ⟨g2, 5, none⟩ (.int .i64 arg)).setCell ⟨g2, 6, none⟩ (.int .i64 sec)).setCell ⟨g2, 7, none⟩ (.bool done)).setCell ⟨g2, 8, none⟩ (.int .i64 res)).setCell ⟨g2, 9, none⟩ (.int .i64 inv)).setCell ⟨g2, 10, none⟩ (.int .i64 ret)) g o := OpBox.past h ⟨id, proc, obj, kind, meth, arg, sec, done, res, inv, ret⟩ hne
set_option maxRecDepth 100000 in
set_option maxHeartbeats 4000000 in
/-- One that is added. -/
theorem addE_c (o : OpR) (i : Nat) (l : List OpR) (p : Option Addr) (n cap : Nat) (w : World) (hck : ∀ w : World, Calls Try.prog 19 #[.agg #[.int .i64 o.id, .int .i64 o.proc, .int .i64 o.obj, .int .i64 o.kind, .int .i64 o.meth, .int .i64 o.arg, .int .i64 o.sec, .bool o.done, .int .i64 o.res, .int .i64 o.inv, .int .i64 o.ret]] w fun e w' => e = .returned (.int .i64 0) ∧ Grow w w') (hbk : ∀ w' : World, Grow w w' → Calls Try.prog 20 #[.slice p n cap, .agg #[.int .i64 o.id, .int .i64 o.proc, .int .i64 o.obj, .int .i64 o.kind, .int .i64 o.meth, .int .i64 o.arg, .int .i64 o.sec, .bool o.done, .int .i64 o.res, .int .i64 o.inv, .int .i64 o.ret]] w' fun e w'' => e = .returned (.int .i64 0) ∧ Grow w' w'') (hn : ¬ (64 : Int) ≤ (n : Int)) (hv : Ops w (.slice p n cap) l) (hi : i ≤ l.length) (hl : l.length ≤ 1000000) :
    Calls Try.prog 15 #[.slice p n cap, .agg #[.int .i64 o.id, .int .i64 o.proc, .int .i64 o.obj, .int .i64 o.kind, .int .i64 o.meth, .int .i64 o.arg, .int .i64 o.sec, .bool o.done, .int .i64 o.res, .int .i64 o.inv, .int .i64 o.ret], .int .i64 (i : Int), .bool false] w fun e w' => ∃ v', e = .returned (.tuple #[v', .agg #[.int .i64 0, .int .i64 0, .int .i64 0, .int .i64 0, .int .i64 0, .int .i64 0, .int .i64 0, .bool false, .int .i64 0, .int .i64 0, .int .i64 0], .agg #[.int .i64 o.id, .int .i64 o.proc, .int .i64 o.obj, .int .i64 o.kind, .int .i64 o.meth, .int .i64 o.arg, .int .i64 o.sec, .bool o.done, .int .i64 o.res, .int .i64 o.inv, .int .i64 o.ret], .int .i64 0]) ∧ w'.ownsRow w.heap.size 25 11 v' (putAt i o l).length (opCells (putAt i o l)) ∧ Grow w w' := by
  have HK := hid hck
  have HBK := hid hbk
  have HCL := hid (fun w' (g : Grow w w') => HClone_c l _ w' (hv.grow g) hl)
  have HIN := hid (fun v vb w base hb hv hx hne => Insert_c l o i v vb w base hb hv hi hl hx hne)
  have HLZ := hid (putAt_length i o l hi)
  have HL := hid hl
  clear hck hbk hv hi hl
  obtain ⟨id, proc, obj, kind, meth, arg, sec, done, res, inv, ret⟩ := o
  generalize putAt i ⟨id, proc, obj, kind, meth, arg, sec, done, res, inv, ret⟩ l = z at *
  go_enter Try.func15, Try.ntmps15
  go_wp2_with fail
  refine (HK.out _).mono ?_
  rintro e w1 ⟨rfl, b1⟩
  obtain ⟨B0, B1, B2, B3, G1⟩ := addBoxes w w1 ⟨id, proc, obj, kind, meth, arg, sec, done, res, inv, ret⟩ b1
  clear b1
  have z1 : w.heap.size + 1 + 1 + 1 < w1.heap.size := B3.lt
  have HB0 := hid B0
  have HB1 := hid B1
  have HB2 := hid B2
  have HB3 := hid B3
  have HG1 := hid G1
  have q0 := B0.at
  unfold OpAt at q0
  dsimp only at q0
  simp only [Nat.zero_add] at q0
  obtain ⟨a0, a1, a2, a3, a4, a5, a6, a7, a8, a9, a10⟩ := q0
  clear B0 B1 B2 B3 G1
  go_wp2_with fail
  refine (HBK.out _ HG1.out).mono ?_
  rintro e w2 ⟨rfl, b2⟩
  have B0 := HB0.out.grow b2
  have B1 := HB1.out.grow b2
  have B2 := HB2.out.grow b2
  have B3 := HB3.out.grow b2
  have G1 := Grow.trans HG1.out b2
  have z2 : w.heap.size + 1 + 1 + 1 < w2.heap.size := B3.lt
  clear a0 a1 a2 a3 a4 a5 a6 a7 a8 a9 a10 HB0 HB1 HB2 HB3 HG1 b2 z1
  have HG1 := hid G1
  clear G1
  have HB0 := hid B0
  have HB1 := hid B1
  have HB2 := hid B2
  have HB3 := hid B3
  have q1 := B1.at
  have q2 := B2.at
  have q3 := B3.at
  obtain ⟨f0, f1, f2, f3, f4, f5, f6, f7, f8, f9, f10⟩ := B1.open
  obtain ⟨g0, g1, g2, g3, g4, g5, g6, g7, g8, g9, g10⟩ := B2.open
  unfold OpAt opZ at q1 q2 q3
  dsimp only at q1 q2 q3
  simp only [Nat.zero_add] at q1 q2 q3
  obtain ⟨d0, d1, d2, d3, d4, d5, d6, d7, d8, d9, d10⟩ := q1
  obtain ⟨e0, e1, e2, e3, e4, e5, e6, e7, e8, e9, e10⟩ := q2
  obtain ⟨h0, h1, h2, h3, h4, h5, h6, h7, h8, h9, h10⟩ := q3
  clear B1 B2 B3
  have q0 := HB0.out.at
  unfold OpAt at q0
  dsimp only at q0
  simp only [Nat.zero_add] at q0
  obtain ⟨a0, a1, a2, a3, a4, a5, a6, a7, a8, a9, a10⟩ := q0
  clear B0
  have n1 : w.heap.size ≠ w.heap.size + 1 := by omega
  have n5 : w.heap.size + 1 ≠ w.heap.size := by omega
  have n6 : w.heap.size + 1 + 1 ≠ w.heap.size := by omega
  have n7 : w.heap.size + 1 ≠ w.heap.size + 1 + 1 + 1 := by omega
  have n8 : w.heap.size + 1 + 1 ≠ w.heap.size + 1 + 1 + 1 := by omega
  have n2 : w.heap.size ≠ w.heap.size + 1 + 1 := by omega
  have n3 : w.heap.size + 1 + 1 + 1 ≠ w.heap.size + 1 := by omega
  have n4 : w.heap.size + 1 + 1 + 1 ≠ w.heap.size + 1 + 1 := by omega
  go_wp2_with fail
  have X0 := HB0.out
  have X3 := HB3.out
  have X0d := X0.grow (Grow.drew _)
  have X3d := X3.grow (Grow.drew _)
  have X0a := X0d.grow (Grow.alloc _ (.cells #[.int .i64 id, .int .i64 proc, .int .i64 obj, .int .i64 kind, .int .i64 meth, .int .i64 arg, .int .i64 sec, .bool done, .int .i64 res, .int .i64 inv, .int .i64 ret] 25))
  have X3a := X3d.grow (Grow.alloc _ (.cells #[.int .i64 id, .int .i64 proc, .int .i64 obj, .int .i64 kind, .int .i64 meth, .int .i64 arg, .int .i64 sec, .bool done, .int .i64 res, .int .i64 inv, .int .i64 ret] 25))
  have X0b := (X0.grow (Grow.alloc _ (.cells #[.int .i64 id, .int .i64 proc, .int .i64 obj, .int .i64 kind, .int .i64 meth, .int .i64 arg, .int .i64 sec, .bool done, .int .i64 res, .int .i64 inv, .int .i64 ret] 25))).grow (Grow.drew _)
  have X3b := (X3.grow (Grow.alloc _ (.cells #[.int .i64 id, .int .i64 proc, .int .i64 obj, .int .i64 kind, .int .i64 meth, .int .i64 arg, .int .i64 sec, .bool done, .int .i64 res, .int .i64 inv, .int .i64 ret] 25))).grow (Grow.drew _)
  clear a0 a1 a2 a3 a4 a5 a6 a7 a8 a9 a10 h0 h1 h2 h3 h4 h5 h6 h7 h8 h9 h10 d0 d1 d2 d3 d4 d5 d6 d7 d8 d9 d10 e0 e1 e2 e3 e4 e5 e6 e7 e8 e9 e10 f0 f1 f2 f3 f4 f5 f6 f7 f8 f9 f10 g0 g1 g2 g3 g4 g5 g6 g7 g8 g9 g10
  go_region_held3 (fun w' => w'.cell? ⟨w.heap.size + 1 + 1 + 1, 0, none⟩ = some (.int .i64 0) ∧ w'.cell? ⟨w.heap.size + 1 + 1 + 1, 1, none⟩ = some (.int .i64 0) ∧ w'.cell? ⟨w.heap.size + 1 + 1 + 1, 2, none⟩ = some (.int .i64 0) ∧ w'.cell? ⟨w.heap.size + 1 + 1 + 1, 3, none⟩ = some (.int .i64 0) ∧ w'.cell? ⟨w.heap.size + 1 + 1 + 1, 4, none⟩ = some (.int .i64 0) ∧ w'.cell? ⟨w.heap.size + 1 + 1 + 1, 5, none⟩ = some (.int .i64 0) ∧ w'.cell? ⟨w.heap.size + 1 + 1 + 1, 6, none⟩ = some (.int .i64 0) ∧ w'.cell? ⟨w.heap.size + 1 + 1 + 1, 7, none⟩ = some (.bool false) ∧ w'.cell? ⟨w.heap.size + 1 + 1 + 1, 8, none⟩ = some (.int .i64 0) ∧ w'.cell? ⟨w.heap.size + 1 + 1 + 1, 9, none⟩ = some (.int .i64 0) ∧ w'.cell? ⟨w.heap.size + 1 + 1 + 1, 10, none⟩ = some (.int .i64 0) ∧ w'.cell? ⟨w.heap.size, 0, none⟩ = some (.int .i64 id) ∧ w'.cell? ⟨w.heap.size, 1, none⟩ = some (.int .i64 proc) ∧ w'.cell? ⟨w.heap.size, 2, none⟩ = some (.int .i64 obj) ∧ w'.cell? ⟨w.heap.size, 3, none⟩ = some (.int .i64 kind) ∧ w'.cell? ⟨w.heap.size, 4, none⟩ = some (.int .i64 meth) ∧ w'.cell? ⟨w.heap.size, 5, none⟩ = some (.int .i64 arg) ∧ w'.cell? ⟨w.heap.size, 6, none⟩ = some (.int .i64 sec) ∧ w'.cell? ⟨w.heap.size, 7, none⟩ = some (.bool done) ∧ w'.cell? ⟨w.heap.size, 8, none⟩ = some (.int .i64 res) ∧ w'.cell? ⟨w.heap.size, 9, none⟩ = some (.int .i64 inv) ∧ w'.cell? ⟨w.heap.size, 10, none⟩ = some (.int .i64 ret))
    (refine keepE ?_ ?_ <;> first
      | with_reducible assumption
      | (with_reducible refine past_opZ ?_ (by omega); with_reducible assumption)
      | (with_reducible refine past_op (past_opZ ?_ (by omega)) (by omega); with_reducible assumption))
    ((first
      | (go_at_call 17; first
        | (refine (HCL.out w2.drew (Grow.trans HG1.out (Grow.drew _))).mono ?_; rintro e w3 ⟨v3, rfl, o3, g3⟩; have way1 := True.intro; have Y0 := HB0.out.grow (Grow.trans (Grow.drew _) g3); have Y3 := HB3.out.grow (Grow.trans (Grow.drew _) g3); have Y0a := Y0.grow (Grow.alloc _ (.cells #[.int .i64 id, .int .i64 proc, .int .i64 obj, .int .i64 kind, .int .i64 meth, .int .i64 arg, .int .i64 sec, .bool done, .int .i64 res, .int .i64 inv, .int .i64 ret] 25)); have Y3a := Y3.grow (Grow.alloc _ (.cells #[.int .i64 id, .int .i64 proc, .int .i64 obj, .int .i64 kind, .int .i64 meth, .int .i64 arg, .int .i64 sec, .bool done, .int .i64 res, .int .i64 inv, .int .i64 ret] 25)))
        | (refine (HCL.out _ (Grow.trans HG1.out (Grow.trans (Grow.alloc _ (.cells #[.int .i64 id, .int .i64 proc, .int .i64 obj, .int .i64 kind, .int .i64 meth, .int .i64 arg, .int .i64 sec, .bool done, .int .i64 res, .int .i64 inv, .int .i64 ret] 25)) (Grow.drew _)))).mono ?_; rintro e w3 ⟨v3, rfl, o3, g3⟩; have way2 := True.intro; have Y0 := HB0.out.grow (Grow.trans (Grow.alloc _ _) (Grow.trans (Grow.drew _) g3)); have Y3 := HB3.out.grow (Grow.trans (Grow.alloc _ _) (Grow.trans (Grow.drew _) g3))))
      | (go_at_call 26; first
        | (have := way1; refine (HIN.out v3 w3.heap.size _ w2.heap.size (by have := g3.size; simp at this ⊢; omega) (o3.alloc _) (heap_new w3 _) (fun k hk e => by have := (o3.lt k hk).2; omega)).mono ?_
           rintro e w4 ⟨v4, rfl, o4, m4, b4⟩
           have G4 := hid (Grow.moved (Grow.trans (Grow.trans (Grow.drew _) g3) (Grow.alloc _ _)) m4 (fun j hj => (o3.lt j hj).1))
           have Y0 := HB0.out.grow G4.out; have Y3 := HB3.out.grow G4.out; have q := (HB1.out.grow G4.out).at; unfold OpAt at q; (try unfold opZ at q); dsimp only at q; simp only [Nat.zero_add] at q; obtain ⟨d0, d1, d2, d3, d4, d5, d6, d7, d8, d9, d10⟩ := q; have q := (HB2.out.grow G4.out).at; unfold OpAt at q; (try unfold opZ at q); dsimp only at q; simp only [Nat.zero_add] at q; obtain ⟨e0, e1, e2, e3, e4, e5, e6, e7, e8, e9, e10⟩ := q; obtain ⟨f0, f1, f2, f3, f4, f5, f6, f7, f8, f9, f10⟩ := (HB1.out.grow G4.out).open; obtain ⟨g0, g1, g2, g3, g4, g5, g6, g7, g8, g9, g10⟩ := (HB2.out.grow G4.out).open)
        | (have := way2; refine (HIN.out v3 w2.heap.size _ _ g3.size o3 (g3.heap ((Grow.drew _).heap (heap_new w2 _))) (fun k hk e => by have := (o3.lt k hk).1; simp at this; omega)).mono ?_
           rintro e w4 ⟨v4, rfl, o4, m4, b4⟩
           have G4 := hid (Grow.moved (Grow.trans (Grow.trans (Grow.alloc _ _) (Grow.drew _)) g3) m4 (fun j hj => by have := (o3.lt j hj).1; simp at this; omega))
           have Y0 := HB0.out.grow G4.out; have Y3 := HB3.out.grow G4.out; have q := (HB1.out.grow G4.out).at; unfold OpAt at q; (try unfold opZ at q); dsimp only at q; simp only [Nat.zero_add] at q; obtain ⟨d0, d1, d2, d3, d4, d5, d6, d7, d8, d9, d10⟩ := q; have q := (HB2.out.grow G4.out).at; unfold OpAt at q; (try unfold opZ at q); dsimp only at q; simp only [Nat.zero_add] at q; obtain ⟨e0, e1, e2, e3, e4, e5, e6, e7, e8, e9, e10⟩ := q; obtain ⟨f0, f1, f2, f3, f4, f5, f6, f7, f8, f9, f10⟩ := (HB1.out.grow G4.out).open; obtain ⟨g0, g1, g2, g3, g4, g5, g6, g7, g8, g9, g10⟩ := (HB2.out.grow G4.out).open))))
  all_goals
    go_wp2_with fail
    obtain ⟨E1, E2, E3, E4⟩ := two_stores0 (Grow.trans HG1.out G4.out) (HB1.out.grow G4.out) (HB2.out.grow G4.out) (by omega) (by omega) (by omega) opZ ⟨id, proc, obj, kind, meth, arg, sec, done, res, inv, ret⟩
    have hz := HLZ.out
    have hl := HL.out
    (try simp only [Exit.inBlock, Exit.then])
    refine bodyPost_ret (results_rows4 (fn := Try.f15) (p := 9) (q := 10) (s := 8) (u := 11) rfl _ _ (w.heap.size + 1) (w.heap.size + 1 + 1) 25 _ _ (0, 0) (0, 0) _ rfl E1 rfl E2 Try.underlying25 rfl (by kernel_rfl) (by kernel_rfl)) rfl ⟨_, rfl, own_less (own_same o4 (fun k hk => E4 k ?_ ?_)) ?_, E3⟩
    all_goals first | omega | (simp; omega) | (have hk2 := hk; (try simp at hk2); omega)
end Go.Proofs.Ytljimlaalebmaaa
