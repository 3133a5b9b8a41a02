/- What hist.Apply tells of an edit: one that is changed, and can't be. -/
import Derived.Test.YtljimlaalebmaaaHAppD
import Derived.Test.YtljimlaalebmaaaHChanged
namespace Go.Proofs.Ytljimlaalebmaaa
open Go.RowKit
set_option linter.unusedVariables false
set_option linter.unusedSimpArgs false
theorem keepF {w : World} {G0 b off : Nat} {k id proc obj kind meth arg sec : Int} {done : Bool} {res inv ret : Int} {yid yproc yobj ykind ymeth yarg ysec yres yinv yret : Int} {ydone : Bool} (h0 : EdBox w G0 k ⟨id, proc, obj, kind, meth, arg, sec, done, res, inv, ret⟩) (hy : OpAt w b off ⟨yid, yproc, yobj, ykind, ymeth, yarg, ysec, ydone, yres, yinv, yret⟩) :
    w.cell? ⟨G0, 0, none⟩ = some (.int .i64 k) ∧ w.cell? ⟨G0, 1, none⟩ = some (.int .i64 id) ∧ w.cell? ⟨G0, 2, none⟩ = some (.int .i64 proc) ∧ w.cell? ⟨G0, 3, none⟩ = some (.int .i64 obj) ∧ w.cell? ⟨G0, 4, none⟩ = some (.int .i64 kind) ∧ w.cell? ⟨G0, 5, none⟩ = some (.int .i64 meth) ∧ w.cell? ⟨G0, 6, none⟩ = some (.int .i64 arg) ∧ w.cell? ⟨G0, 7, none⟩ = some (.int .i64 sec) ∧ w.cell? ⟨G0, 8, none⟩ = some (.bool done) ∧ w.cell? ⟨G0, 9, none⟩ = some (.int .i64 res) ∧ w.cell? ⟨G0, 10, none⟩ = some (.int .i64 inv) ∧ w.cell? ⟨G0, 11, none⟩ = some (.int .i64 ret) ∧ w.cell? ⟨b, off, none⟩ = some (.int .i64 yid) ∧ w.cell? ⟨b, off + 1, none⟩ = some (.int .i64 yproc) ∧ w.cell? ⟨b, off + 2, none⟩ = some (.int .i64 yobj) ∧ w.cell? ⟨b, off + 3, none⟩ = some (.int .i64 ykind) ∧ w.cell? ⟨b, off + 4, none⟩ = some (.int .i64 ymeth) ∧ w.cell? ⟨b, off + 5, none⟩ = some (.int .i64 yarg) ∧ w.cell? ⟨b, off + 6, none⟩ = some (.int .i64 ysec) ∧ w.cell? ⟨b, off + 7, none⟩ = some (.bool ydone) ∧ w.cell? ⟨b, off + 8, none⟩ = some (.int .i64 yres) ∧ w.cell? ⟨b, off + 9, none⟩ = some (.int .i64 yinv) ∧ w.cell? ⟨b, off + 10, none⟩ = some (.int .i64 yret) := by
  obtain ⟨a, a0, a1, a2, a3, a4, a5, a6, a7, a8, a9, a10⟩ := h0.at
  obtain ⟨b0, b1, b2, b3, b4, b5, b6, b7, b8, b9, b10⟩ := hy
  exact ⟨a, a0, a1, a2, a3, a4, a5, a6, a7, a8, a9, a10, b0, b1, b2, b3, b4, b5, b6, b7, b8, b9, b10⟩
theorem EdBox.past {w : World} {g g2 : Nat} {k : Int} {e : OpR} (h : EdBox w g k e) (o' : OpR) (hne : g ≠ g2) : EdBox (((((((((((w.setCell ⟨g2, 0, none⟩ (.int .i64 o'.id)).setCell ⟨g2, 1, none⟩ (.int .i64 o'.proc)).setCell ⟨g2, 2, none⟩ (.int .i64 o'.obj)).setCell ⟨g2, 3, none⟩ (.int .i64 o'.kind)).setCell ⟨g2, 4, none⟩ (.int .i64 o'.meth)).setCell ⟨g2, 5, none⟩ (.int .i64 o'.arg)).setCell ⟨g2, 6, none⟩ (.int .i64 o'.sec)).setCell ⟨g2, 7, none⟩ (.bool o'.done)).setCell ⟨g2, 8, none⟩ (.int .i64 o'.res)).setCell ⟨g2, 9, none⟩ (.int .i64 o'.inv)).setCell ⟨g2, 10, none⟩ (.int .i64 o'.ret)) g k e := by
  unfold EdBox at h ⊢
  exact (heap_keep (heap_keep (heap_keep (heap_keep (heap_keep (heap_keep (heap_keep (heap_keep (heap_keep (heap_keep (heap_keep h _ _ hne) _ _ hne) _ _ hne) _ _ hne) _ _ hne) _ _ hne) _ _ hne) _ _ hne) _ _ hne) _ _ hne) _ _ hne)
theorem edPast_r {w : World} {g g2 : Nat} {k : Int} {e : OpR} {rid rproc robj rkind rmeth rarg rsec rres rinv rret : Int} {rdone : Bool} (h : EdBox w g k e) (hne : g ≠ g2) : EdBox (((((((((((w.setCell ⟨g2, 0, none⟩ (.int .i64 rid)).setCell ⟨g2, 1, none⟩ (.int .i64 rproc)).setCell ⟨g2, 2, none⟩ (.int .i64 robj)).setCell ⟨g2, 3, none⟩ (.int .i64 rkind)).setCell ⟨g2, 4, none⟩ (.int .i64 rmeth)).setCell ⟨g2, 5, none⟩ (.int .i64 rarg)).setCell ⟨g2, 6, none⟩ (.int .i64 rsec)).setCell ⟨g2, 7, none⟩ (.bool rdone)).setCell ⟨g2, 8, none⟩ (.int .i64 rres)).setCell ⟨g2, 9, none⟩ (.int .i64 rinv)).setCell ⟨g2, 10, none⟩ (.int .i64 rret)) g k e := EdBox.past h ⟨rid, rproc, robj, rkind, rmeth, rarg, rsec, rdone, rres, rinv, rret⟩ hne
theorem atPast_r {w : World} {b o g2 : Nat} {x : OpR} {rid rproc robj rkind rmeth rarg rsec rres rinv rret : Int} {rdone : Bool} (h : OpAt w b o x) (hne : b ≠ g2) : OpAt (((((((((((w.setCell ⟨g2, 0, none⟩ (.int .i64 rid)).setCell ⟨g2, 1, none⟩ (.int .i64 rproc)).setCell ⟨g2, 2, none⟩ (.int .i64 robj)).setCell ⟨g2, 3, none⟩ (.int .i64 rkind)).setCell ⟨g2, 4, none⟩ (.int .i64 rmeth)).setCell ⟨g2, 5, none⟩ (.int .i64 rarg)).setCell ⟨g2, 6, none⟩ (.int .i64 rsec)).setCell ⟨g2, 7, none⟩ (.bool rdone)).setCell ⟨g2, 8, none⟩ (.int .i64 rres)).setCell ⟨g2, 9, none⟩ (.int .i64 rinv)).setCell ⟨g2, 10, none⟩ (.int .i64 rret)) b o x := OpAt.past h ⟨rid, rproc, robj, rkind, rmeth, rarg, rsec, rdone, rres, rinv, rret⟩ hne
set_option maxRecDepth 100000 in
set_option maxHeartbeats 4000000 in
/-- The change can't be. -/
theorem appE_c (k : Int) (e y r : OpR) (c : Int) (i : Nat) (p : Option Addr) (n cap : Nat) (w : World) (l : List OpR) (hv : Ops w (.slice p n cap) l) (hn : l.length = n) (hi : i < n) (hl : n ≤ 1000000) (hy : opAt l i = y) (hp : ∀ w' : World, Grow w w' → Calls Try.prog 14 #[.slice p n cap, .int .i64 e.id] w' fun en w'' => en = .returned (.tuple #[.int .i64 (i : Int), .bool true]) ∧ Grow w' w'') (hch : ∀ w' : World, Calls Try.prog 18 #[.agg #[.int .i64 y.id, .int .i64 y.proc, .int .i64 y.obj, .int .i64 y.kind, .int .i64 y.meth, .int .i64 y.arg, .int .i64 y.sec, .bool y.done, .int .i64 y.res, .int .i64 y.inv, .int .i64 y.ret], .agg #[.int .i64 k, .int .i64 e.id, .int .i64 e.proc, .int .i64 e.obj, .int .i64 e.kind, .int .i64 e.meth, .int .i64 e.arg, .int .i64 e.sec, .bool e.done, .int .i64 e.res, .int .i64 e.inv, .int .i64 e.ret]] w' fun en w'' => en = .returned (.tuple #[.agg #[.int .i64 r.id, .int .i64 r.proc, .int .i64 r.obj, .int .i64 r.kind, .int .i64 r.meth, .int .i64 r.arg, .int .i64 r.sec, .bool r.done, .int .i64 r.res, .int .i64 r.inv, .int .i64 r.ret], .int .i64 c]) ∧ Grow w' w'') (hc : ¬ c = 0) (hk : ¬ k < 1) (hk2 : ¬ 6 < k) (hk3 : ¬ k = 1) (hk4 : ¬ k = 2) :
    Calls Try.prog 7 #[.slice p n cap, .agg #[.int .i64 k, .int .i64 e.id, .int .i64 e.proc, .int .i64 e.obj, .int .i64 e.kind, .int .i64 e.meth, .int .i64 e.arg, .int .i64 e.sec, .bool e.done, .int .i64 e.res, .int .i64 e.inv, .int .i64 e.ret]] w fun en w' => en = .returned (.tuple #[.slice none 0 0, .agg #[.int .i64 0, .int .i64 0, .int .i64 0, .int .i64 0, .int .i64 0, .int .i64 0, .int .i64 0, .bool false, .int .i64 0, .int .i64 0, .int .i64 0], .agg #[.int .i64 0, .int .i64 0, .int .i64 0, .int .i64 0, .int .i64 0, .int .i64 0, .int .i64 0, .bool false, .int .i64 0, .int .i64 0, .int .i64 0], .int .i64 c]) ∧ Grow w w' := by
  have HP := hid hp
  have HCL := hid (fun w' (g : Grow w w') => HClone_c l _ w' (hv.grow g) (by omega))
  obtain ⟨p', cap', e1, -, hcc⟩ := hv.read
  rw [hn] at e1
  cases e1
  obtain ⟨b, off, rfl, hya⟩ := hcc i (by omega)
  rw [hy] at hya
  have hbw : b < w.heap.size := World.block_lt_of_cell? w _ hya.1
  have HY := hid (fun w' (g : Grow w w') => hya.grow g)
  have HCH := hid hch
  clear hp hv hcc hya hy hn hch HCL
  obtain ⟨id, proc, obj, kind, meth, arg, sec, done, res, inv, ret⟩ := e
  obtain ⟨yid, yproc, yobj, ykind, ymeth, yarg, ysec, ydone, yres, yinv, yret⟩ := y
  obtain ⟨rid, rproc, robj, rkind, rmeth, rarg, rsec, rdone, rres, rinv, rret⟩ := r
  have hk0 : (0 : Int) ≤ (i : Int) := by omega
  have hk1 : (i : Int) < (n : Int) := by omega
  go_enter Try.func7, Try.ntmps7
  go_wp2_with fail
  refine (HP.out _ (Grow.trans (Grow.trans (Grow.trans (Grow.alloc _ _) (Grow.alloc _ _)) (Grow.alloc _ _)) (Grow.alloc _ _))).mono ?_
  rintro en w1 ⟨rfl, b1⟩
  obtain ⟨B0, B1, B2, B3, G1⟩ := appBoxes w w1 k ⟨id, proc, obj, kind, meth, arg, sec, done, res, inv, ret⟩ b1
  clear b1
  have z1 : w.heap.size + 1 + 1 + 1 < w1.heap.size := B3.lt
  have q0 := B0.at
  unfold OpAt at q0
  dsimp only at q0
  simp only [Nat.reduceAdd] at q0
  obtain ⟨ak, a0, a1, a2, a3, a4, a5, a6, a7, a8, a9, a10⟩ := q0
  have HB0 := hid B0
  have HB1 := hid B1
  have HB2 := hid B2
  have HB3 := hid B3
  have HG1 := hid G1
  clear B0 B1 B2 B3 G1
  have hnew : w1.heap.size ≠ b := by omega
  have hnew0 : w1.heap.size ≠ w.heap.size := by omega
  go_wp2_with fail
  clear ak a0 a1 a2 a3 a4 a5 a6 a7 a8 a9 a10
  have X0d := HB0.out.grow (Grow.drew _)
  have XYd := HY.out _ (Grow.trans HG1.out (Grow.drew _))
  have X0a := X0d.grow (Grow.alloc _ (.cells #[.int .i64 0, .int .i64 0, .int .i64 0, .int .i64 0, .int .i64 0, .int .i64 0, .int .i64 0, .bool false, .int .i64 0, .int .i64 0, .int .i64 0] 25))
  have XYa := XYd.grow (Grow.alloc _ (.cells #[.int .i64 0, .int .i64 0, .int .i64 0, .int .i64 0, .int .i64 0, .int .i64 0, .int .i64 0, .bool false, .int .i64 0, .int .i64 0, .int .i64 0] 25))
  have X0b := (HB0.out.grow (Grow.alloc _ (.cells #[.int .i64 0, .int .i64 0, .int .i64 0, .int .i64 0, .int .i64 0, .int .i64 0, .int .i64 0, .bool false, .int .i64 0, .int .i64 0, .int .i64 0] 25))).grow (Grow.drew _)
  have XYb := ((HY.out _ HG1.out).grow (Grow.alloc _ (.cells #[.int .i64 0, .int .i64 0, .int .i64 0, .int .i64 0, .int .i64 0, .int .i64 0, .int .i64 0, .bool false, .int .i64 0, .int .i64 0, .int .i64 0] 25))).grow (Grow.drew _)
  go_region_held3 (fun w' => w'.cell? ⟨w.heap.size, 0, none⟩ = some (.int .i64 k) ∧ w'.cell? ⟨w.heap.size, 1, none⟩ = some (.int .i64 id) ∧ w'.cell? ⟨w.heap.size, 2, none⟩ = some (.int .i64 proc) ∧ w'.cell? ⟨w.heap.size, 3, none⟩ = some (.int .i64 obj) ∧ w'.cell? ⟨w.heap.size, 4, none⟩ = some (.int .i64 kind) ∧ w'.cell? ⟨w.heap.size, 5, none⟩ = some (.int .i64 meth) ∧ w'.cell? ⟨w.heap.size, 6, none⟩ = some (.int .i64 arg) ∧ w'.cell? ⟨w.heap.size, 7, none⟩ = some (.int .i64 sec) ∧ w'.cell? ⟨w.heap.size, 8, none⟩ = some (.bool done) ∧ w'.cell? ⟨w.heap.size, 9, none⟩ = some (.int .i64 res) ∧ w'.cell? ⟨w.heap.size, 10, none⟩ = some (.int .i64 inv) ∧ w'.cell? ⟨w.heap.size, 11, none⟩ = some (.int .i64 ret) ∧ w'.cell? ⟨b, off + i * 11, none⟩ = some (.int .i64 yid) ∧ w'.cell? ⟨b, off + i * 11 + 1, none⟩ = some (.int .i64 yproc) ∧ w'.cell? ⟨b, off + i * 11 + 2, none⟩ = some (.int .i64 yobj) ∧ w'.cell? ⟨b, off + i * 11 + 3, none⟩ = some (.int .i64 ykind) ∧ w'.cell? ⟨b, off + i * 11 + 4, none⟩ = some (.int .i64 ymeth) ∧ w'.cell? ⟨b, off + i * 11 + 5, none⟩ = some (.int .i64 yarg) ∧ w'.cell? ⟨b, off + i * 11 + 6, none⟩ = some (.int .i64 ysec) ∧ w'.cell? ⟨b, off + i * 11 + 7, none⟩ = some (.bool ydone) ∧ w'.cell? ⟨b, off + i * 11 + 8, none⟩ = some (.int .i64 yres) ∧ w'.cell? ⟨b, off + i * 11 + 9, none⟩ = some (.int .i64 yinv) ∧ w'.cell? ⟨b, off + i * 11 + 10, none⟩ = some (.int .i64 yret))
    (refine keepF ?_ ?_ <;> first
      | with_reducible assumption
      | (with_reducible refine edPast_r ?_ (by omega); with_reducible assumption)
      | (with_reducible refine atPast_r ?_ (by omega); with_reducible assumption))
    ((first
      | (go_at_call 18; first
        | (refine (HCH.out w1.drew).mono ?_; rintro en w2 ⟨rfl, g2⟩; have way1 := True.intro; have G2 := hid (Grow.trans (Grow.drew _) g2); have Y0 := HB0.out.grow G2.out; have YL := HY.out _ (Grow.trans HG1.out G2.out); have Y0a := Y0.grow (Grow.alloc _ (.cells #[.int .i64 0, .int .i64 0, .int .i64 0, .int .i64 0, .int .i64 0, .int .i64 0, .int .i64 0, .bool false, .int .i64 0, .int .i64 0, .int .i64 0] 25)); have YLa := YL.grow (Grow.alloc _ (.cells #[.int .i64 0, .int .i64 0, .int .i64 0, .int .i64 0, .int .i64 0, .int .i64 0, .int .i64 0, .bool false, .int .i64 0, .int .i64 0, .int .i64 0] 25)); have Y0r := Y0.grow (Grow.alloc _ (.cells #[.int .i64 rid, .int .i64 rproc, .int .i64 robj, .int .i64 rkind, .int .i64 rmeth, .int .i64 rarg, .int .i64 rsec, .bool rdone, .int .i64 rres, .int .i64 rinv, .int .i64 rret] 25)); have YLr := YL.grow (Grow.alloc _ (.cells #[.int .i64 rid, .int .i64 rproc, .int .i64 robj, .int .i64 rkind, .int .i64 rmeth, .int .i64 rarg, .int .i64 rsec, .bool rdone, .int .i64 rres, .int .i64 rinv, .int .i64 rret] 25)))
        | (refine (HCH.out _).mono ?_; rintro en w2 ⟨rfl, g2⟩; have way2 := True.intro
           have NB := hid (OpBox.grow (o := opZ) ((Grow.drew _).heap (heap_new w1 (.cells #[.int .i64 0, .int .i64 0, .int .i64 0, .int .i64 0, .int .i64 0, .int .i64 0, .int .i64 0, .bool false, .int .i64 0, .int .i64 0, .int .i64 0] 25))) g2)
           have G2 := hid (Grow.trans (Grow.trans (Grow.alloc _ (.cells #[.int .i64 0, .int .i64 0, .int .i64 0, .int .i64 0, .int .i64 0, .int .i64 0, .int .i64 0, .bool false, .int .i64 0, .int .i64 0, .int .i64 0] 25)) (Grow.drew _)) g2); have Y0 := HB0.out.grow G2.out; have YL := HY.out _ (Grow.trans HG1.out G2.out)
           obtain ⟨f0, f1, f2, f3, f4, f5, f6, f7, f8, f9, f10⟩ := NB.out.open
           have q1 := NB.out.at
           unfold OpAt opZ at q1
           dsimp only at q1
           simp only [Nat.zero_add] at q1
           obtain ⟨d0, d1, d2, d3, d4, d5, d6, d7, d8, d9, d10⟩ := q1)))) 
  all_goals first
    | (have := way1
       have WB : OpBox (w2.alloc (.cells #[.int .i64 rid, .int .i64 rproc, .int .i64 robj, .int .i64 rkind, .int .i64 rmeth, .int .i64 rarg, .int .i64 rsec, .bool rdone, .int .i64 rres, .int .i64 rinv, .int .i64 rret] 25)) w2.heap.size ⟨rid, rproc, robj, rkind, rmeth, rarg, rsec, rdone, rres, rinv, rret⟩ := heap_new w2 (.cells #[.int .i64 rid, .int .i64 rproc, .int .i64 robj, .int .i64 rkind, .int .i64 rmeth, .int .i64 rarg, .int .i64 rsec, .bool rdone, .int .i64 rres, .int .i64 rinv, .int .i64 rret] 25)
       have WG : Grow w1 (w2.alloc (.cells #[.int .i64 rid, .int .i64 rproc, .int .i64 robj, .int .i64 rkind, .int .i64 rmeth, .int .i64 rarg, .int .i64 rsec, .bool rdone, .int .i64 rres, .int .i64 rinv, .int .i64 rret] 25)) := Grow.trans G2.out (Grow.alloc _ _)
       have hg1 : w1.heap.size ≤ w2.heap.size := G2.out.size
       clear G2 g2 Y0 YL Y0a YLa Y0r YLr
       generalize w2.alloc (.cells #[.int .i64 rid, .int .i64 rproc, .int .i64 robj, .int .i64 rkind, .int .i64 rmeth, .int .i64 rarg, .int .i64 rsec, .bool rdone, .int .i64 rres, .int .i64 rinv, .int .i64 rret] 25) = W at *
       generalize w2.heap.size = g at *)
    | (have := way2
       have WB : OpBox (((((((((((w2.setCell ⟨w1.heap.size, 0, none⟩ (.int .i64 rid)).setCell ⟨w1.heap.size, 1, none⟩ (.int .i64 rproc)).setCell ⟨w1.heap.size, 2, none⟩ (.int .i64 robj)).setCell ⟨w1.heap.size, 3, none⟩ (.int .i64 rkind)).setCell ⟨w1.heap.size, 4, none⟩ (.int .i64 rmeth)).setCell ⟨w1.heap.size, 5, none⟩ (.int .i64 rarg)).setCell ⟨w1.heap.size, 6, none⟩ (.int .i64 rsec)).setCell ⟨w1.heap.size, 7, none⟩ (.bool rdone)).setCell ⟨w1.heap.size, 8, none⟩ (.int .i64 rres)).setCell ⟨w1.heap.size, 9, none⟩ (.int .i64 rinv)).setCell ⟨w1.heap.size, 10, none⟩ (.int .i64 rret)) w1.heap.size ⟨rid, rproc, robj, rkind, rmeth, rarg, rsec, rdone, rres, rinv, rret⟩ := NB.out.store ⟨rid, rproc, robj, rkind, rmeth, rarg, rsec, rdone, rres, rinv, rret⟩
       have WG : Grow w1 (((((((((((w2.setCell ⟨w1.heap.size, 0, none⟩ (.int .i64 rid)).setCell ⟨w1.heap.size, 1, none⟩ (.int .i64 rproc)).setCell ⟨w1.heap.size, 2, none⟩ (.int .i64 robj)).setCell ⟨w1.heap.size, 3, none⟩ (.int .i64 rkind)).setCell ⟨w1.heap.size, 4, none⟩ (.int .i64 rmeth)).setCell ⟨w1.heap.size, 5, none⟩ (.int .i64 rarg)).setCell ⟨w1.heap.size, 6, none⟩ (.int .i64 rsec)).setCell ⟨w1.heap.size, 7, none⟩ (.bool rdone)).setCell ⟨w1.heap.size, 8, none⟩ (.int .i64 rres)).setCell ⟨w1.heap.size, 9, none⟩ (.int .i64 rinv)).setCell ⟨w1.heap.size, 10, none⟩ (.int .i64 rret)) := Grow.store G2.out _ (Nat.le_refl _) ⟨rid, rproc, robj, rkind, rmeth, rarg, rsec, rdone, rres, rinv, rret⟩
       have hg1 : w1.heap.size ≤ w1.heap.size := Nat.le_refl _
       clear G2 g2 Y0 YL NB f0 f1 f2 f3 f4 f5 f6 f7 f8 f9 f10 d0 d1 d2 d3 d4 d5 d6 d7 d8 d9 d10
       generalize (((((((((((w2.setCell ⟨w1.heap.size, 0, none⟩ (.int .i64 rid)).setCell ⟨w1.heap.size, 1, none⟩ (.int .i64 rproc)).setCell ⟨w1.heap.size, 2, none⟩ (.int .i64 robj)).setCell ⟨w1.heap.size, 3, none⟩ (.int .i64 rkind)).setCell ⟨w1.heap.size, 4, none⟩ (.int .i64 rmeth)).setCell ⟨w1.heap.size, 5, none⟩ (.int .i64 rarg)).setCell ⟨w1.heap.size, 6, none⟩ (.int .i64 rsec)).setCell ⟨w1.heap.size, 7, none⟩ (.bool rdone)).setCell ⟨w1.heap.size, 8, none⟩ (.int .i64 rres)).setCell ⟨w1.heap.size, 9, none⟩ (.int .i64 rinv)).setCell ⟨w1.heap.size, 10, none⟩ (.int .i64 rret)) = W at *
       generalize hgw : w1.heap.size = g at *)
  all_goals
    have B1 := HB1.out.grow WG
    have B2 := HB2.out.grow WG
    have B3 := HB3.out.grow WG
    have G1 := Grow.trans HG1.out WG
    have HG1 := hid G1
    clear G1
    have HB1 := hid B1
    have HB2 := hid B2
    have HB3 := hid B3
    have q1 := B1.at
    have q2 := B2.at
    have q3 := B3.at
    obtain ⟨f0, f1, f2, f3, f4, f5, f6, f7, f8, f9, f10⟩ := B1.open
    obtain ⟨g0, g1, g2, g3, g4, g5, g6, g7, g8, g9, g10⟩ := B2.open
    unfold OpAt opZ at q1 q2 q3
    dsimp only at q1 q2 q3
    simp only [Nat.zero_add] at q1 q2 q3
    obtain ⟨d0, d1, d2, d3, d4, d5, d6, d7, d8, d9, d10⟩ := q1
    obtain ⟨e0, e1, e2, e3, e4, e5, e6, e7, e8, e9, e10⟩ := q2
    obtain ⟨h0, h1, h2, h3, h4, h5, h6, h7, h8, h9, h10⟩ := q3
    clear B1 B2 B3
    go_wp2_with fail
    go_region_held3 (fun w' => w'.cell? ⟨w.heap.size + 1 + 1 + 1, 0, none⟩ = some (.int .i64 0) ∧ w'.cell? ⟨w.heap.size + 1 + 1 + 1, 1, none⟩ = some (.int .i64 0) ∧ w'.cell? ⟨w.heap.size + 1 + 1 + 1, 2, none⟩ = some (.int .i64 0) ∧ w'.cell? ⟨w.heap.size + 1 + 1 + 1, 3, none⟩ = some (.int .i64 0) ∧ w'.cell? ⟨w.heap.size + 1 + 1 + 1, 4, none⟩ = some (.int .i64 0) ∧ w'.cell? ⟨w.heap.size + 1 + 1 + 1, 5, none⟩ = some (.int .i64 0) ∧ w'.cell? ⟨w.heap.size + 1 + 1 + 1, 6, none⟩ = some (.int .i64 0) ∧ w'.cell? ⟨w.heap.size + 1 + 1 + 1, 7, none⟩ = some (.bool false) ∧ w'.cell? ⟨w.heap.size + 1 + 1 + 1, 8, none⟩ = some (.int .i64 0) ∧ w'.cell? ⟨w.heap.size + 1 + 1 + 1, 9, none⟩ = some (.int .i64 0) ∧ w'.cell? ⟨w.heap.size + 1 + 1 + 1, 10, none⟩ = some (.int .i64 0)) (go_keep) (fail)
    go_wp2_with fail
    obtain ⟨E1, E2, E3, -⟩ := two_stores HG1.out HB1.out HB2.out (by omega) (by omega) (by omega) opZ opZ
    (try simp only [Exit.inBlock, Exit.then])
    refine bodyPost_ret (results_rows4 (fn := Try.f7) (p := 5) (q := 6) (s := 4) (u := 7) rfl _ _ (w.heap.size + 1) (w.heap.size + 1 + 1) 25 _ _ (0, 0) (0, 0) _ rfl E1 rfl E2 Try.underlying25 rfl (by kernel_rfl) (by kernel_rfl)) rfl ⟨rfl, E3⟩
end Go.Proofs.Ytljimlaalebmaaa
