/- An edit that is taken back leaves what was. -/
import Derived.Test.YtljimlaalebmaaaHAwake
import Derived.Test.YtljimlaalebmaaaHRCheck
import Derived.Test.YtljimlaalebmaaaHEdLift
import Derived.Test.YtljimlaalebmaaaHLaws
import Derived.Test.YtljimlaalebmaaaHOps
import Derived.Test.YtljimlaalebmaaaOpEq
import Derived.Deep.Cut
namespace Go.Proofs.Ytljimlaalebmaaa
open Go.RowKit
set_option linter.unusedVariables false
set_option linter.unusedSimpArgs false
theorem EdBox.kind_alloc {w : World} {g : Nat} {k : Int} {e : OpR} (h : EdBox w g k e) (x : OpR) : (w.alloc (.cells #[.int .i64 k, .int .i64 x.id, .int .i64 x.proc, .int .i64 x.obj, .int .i64 x.kind, .int .i64 x.meth, .int .i64 x.arg, .int .i64 x.sec, .bool x.done, .int .i64 x.res, .int .i64 x.inv, .int .i64 x.ret] 30)).cell? ⟨g, 0, none⟩ = some (.int .i64 k) := (h.grow (Grow.alloc _ _)).at.1
theorem OpBox.ed_alloc {w : World} {g g0 : Nat} {k : Int} {e o : OpR} (h : OpBox w g o) (hE : EdBox w g0 k e) (x : OpR) : OpAt (w.alloc (.cells #[.int .i64 k, .int .i64 x.id, .int .i64 x.proc, .int .i64 x.obj, .int .i64 x.kind, .int .i64 x.meth, .int .i64 x.arg, .int .i64 x.sec, .bool x.done, .int .i64 x.res, .int .i64 x.inv, .int .i64 x.ret] 30)) g 0 o := (h.grow (Grow.alloc _ _)).at
theorem Apply_e (k : Int) (e : OpR) (L : List OpR) (hL : HistM L) (hx : I64 e.res) (v : Value) (w : World) (hv : Ops w v L) :
    Calls Try.prog 7 #[v, .agg #[.int .i64 k, .int .i64 e.id, .int .i64 e.proc, .int .i64 e.obj, .int .i64 e.kind, .int .i64 e.meth, .int .i64 e.arg, .int .i64 e.sec, .bool e.done, .int .i64 e.res, .int .i64 e.inv, .int .i64 e.ret]] w (EdPost (applyL L k e) w) :=
  Apply_c k e L v w hv (pairwise_rises hL.rise) (fit_hist hL) hx (by have := hL.short; omega)
set_option maxRecDepth 100000 in
set_option maxHeartbeats 8000000 in
theorem Back_some (k : Int) (e x y : OpR) (A l : List OpR) (p : Option Addr) (n cap : Nat) (w : World) (hk : k = 1 ∨ k = 2 ∨ k = 3 ∨ k = 4 ∨ k = 5 ∨ k = 6) (h80 : ¬ (80 : Int) < (n : Int))
    (hv : Ops w (.slice p n cap) l) (hA64 : A.length ≤ 1000000)
    (hck : ∀ w', Grow w w' → Calls Try.prog 8 #[.slice p n cap] w' fun e w'' => e = .returned (.int .i64 0) ∧ Grow w' w'')
    (ha : ∀ w', Grow w w' → Calls Try.prog 7 #[.slice p n cap, .agg #[.int .i64 k, .int .i64 e.id, .int .i64 e.proc, .int .i64 e.obj, .int .i64 e.kind, .int .i64 e.meth, .int .i64 e.arg, .int .i64 e.sec, .bool e.done, .int .i64 e.res, .int .i64 e.inv, .int .i64 e.ret]] w' (EdPost (A, x, y, 0) w'))
    (hb : ∀ v w', Ops w' v A → Calls Try.prog 7 #[v, .agg #[.int .i64 (backK k), .int .i64 (backO k x y).id, .int .i64 (backO k x y).proc, .int .i64 (backO k x y).obj, .int .i64 (backO k x y).kind, .int .i64 (backO k x y).meth, .int .i64 (backO k x y).arg, .int .i64 (backO k x y).sec, .bool (backO k x y).done, .int .i64 (backO k x y).res, .int .i64 (backO k x y).inv, .int .i64 (backO k x y).ret]] w' (EdPost (l, y, x, 0) w')) :
    Calls Try.prog 4 #[.slice p n cap, .agg #[.int .i64 k, .int .i64 e.id, .int .i64 e.proc, .int .i64 e.obj, .int .i64 e.kind, .int .i64 e.meth, .int .i64 e.arg, .int .i64 e.sec, .bool e.done, .int .i64 e.res, .int .i64 e.inv, .int .i64 e.ret]] w fun e w' => e = .returned (.bool true) ∧ Grow w w' := by
  have HW := hid (fun w => awake_c w)
  have HRO := hid (fun va w' (g : Grow w w') (hva : Ops w' va l) => ROps_c l va _ w' hva (hv.grow g))
  have HCK := hid hck
  have HA := hid ha
  have HB := hid hb
  have HA64 := hid hA64
  have HLL := hid (show l.length ≤ 1600000000000 from by obtain ⟨-, -, -, h, -⟩ := hv; exact h)
  clear hck ha hb hv hA64
  have hgd := op_guard
  obtain ⟨id, proc, obj, kind, meth, arg, sec, done, res, inv, ret⟩ := e
  obtain ⟨xid, xproc, xobj, xkind, xmeth, xarg, xsec, xdone, xres, xinv, xret⟩ := x
  obtain ⟨yid, yproc, yobj, ykind, ymeth, yarg, ysec, ydone, yres, yinv, yret⟩ := y
  have hxx := op_eql xid xproc xobj xkind xmeth xarg xsec xdone xres xinv xret
  have hyy := op_eql yid yproc yobj ykind ymeth yarg ysec ydone yres yinv yret
  rcases hk with rfl | rfl | rfl | rfl | rfl | rfl
  all_goals
    unfold EdPost opV at HA HB
    simp only [backK, backO, if_true, if_false, reduceIte, Int.reduceEq] at HB
    dsimp only at HA HB
    go_enter Try.func4, Try.ntmps4
    go_wp2_with fail
    refine (HCK.out _ (Grow.alloc _ _)).mono ?_
    rintro e w1 ⟨rfl, b1⟩
    have E1 : EdBox w1 w.heap.size _ ⟨id, proc, obj, kind, meth, arg, sec, done, res, inv, ret⟩ := EdBox.grow (heap_newZ w _ rfl) b1
    have z1 : w.heap.size < w1.heap.size := (by have := b1.size; simp at this; omega)
    have g1 := hid (Grow.trans (Grow.alloc _ _) b1)
    have HE1 := hid E1
    have q := E1.at
    unfold OpAt at q
    dsimp only at q
    simp only [Nat.reduceAdd] at q
    obtain ⟨ak, a0, a1, a2, a3, a4, a5, a6, a7, a8, a9, a10⟩ := q
    clear E1 b1
    go_wp2_with fail
    refine (HA.out _ g1.out).mono ?_
    rintro e w2 ⟨v2, rfl, o2, b2⟩
    have OA := hid (Ops.of_own o2 (by have := HA64.out; omega))
    clear o2 ak a0 a1 a2 a3 a4 a5 a6 a7 a8 a9 a10
    have gW := Grow.trans (Grow.alloc w2 (.cells #[.int .i64 xid, .int .i64 xproc, .int .i64 xobj, .int .i64 xkind, .int .i64 xmeth, .int .i64 xarg, .int .i64 xsec, .bool xdone, .int .i64 xres, .int .i64 xinv, .int .i64 xret] 25)) (Grow.alloc _ (.cells #[.int .i64 yid, .int .i64 yproc, .int .i64 yobj, .int .i64 ykind, .int .i64 ymeth, .int .i64 yarg, .int .i64 ysec, .bool ydone, .int .i64 yres, .int .i64 yinv, .int .i64 yret] 25))
    have E2 := HE1.out.grow (Grow.trans b2 gW)
    have X2 : OpBox ((w2.alloc (.cells #[.int .i64 xid, .int .i64 xproc, .int .i64 xobj, .int .i64 xkind, .int .i64 xmeth, .int .i64 xarg, .int .i64 xsec, .bool xdone, .int .i64 xres, .int .i64 xinv, .int .i64 xret] 25)).alloc (.cells #[.int .i64 yid, .int .i64 yproc, .int .i64 yobj, .int .i64 ykind, .int .i64 ymeth, .int .i64 yarg, .int .i64 ysec, .bool ydone, .int .i64 yres, .int .i64 yinv, .int .i64 yret] 25)) w2.heap.size ⟨xid, xproc, xobj, xkind, xmeth, xarg, xsec, xdone, xres, xinv, xret⟩ := heap_alloc_keep (heap_new _ _) _
    have Y2 : OpBox ((w2.alloc (.cells #[.int .i64 xid, .int .i64 xproc, .int .i64 xobj, .int .i64 xkind, .int .i64 xmeth, .int .i64 xarg, .int .i64 xsec, .bool xdone, .int .i64 xres, .int .i64 xinv, .int .i64 xret] 25)).alloc (.cells #[.int .i64 yid, .int .i64 yproc, .int .i64 yobj, .int .i64 ykind, .int .i64 ymeth, .int .i64 yarg, .int .i64 ysec, .bool ydone, .int .i64 yres, .int .i64 yinv, .int .i64 yret] 25)) (w2.heap.size + 1) ⟨yid, yproc, yobj, ykind, ymeth, yarg, ysec, ydone, yres, yinv, yret⟩ := heap_newZ _ _ (by simp)
    have g2 := hid (Grow.trans (Grow.trans g1.out b2) gW)
    have OA2 := hid (OA.out.grow gW)
    have z2 := b2.size
    clear b2 gW OA
    go_upto_region 4 with fail
    have zW : ((w2.alloc (.cells #[.int .i64 xid, .int .i64 xproc, .int .i64 xobj, .int .i64 xkind, .int .i64 xmeth, .int .i64 xarg, .int .i64 xsec, .bool xdone, .int .i64 xres, .int .i64 xinv, .int .i64 xret] 25)).alloc (.cells #[.int .i64 yid, .int .i64 yproc, .int .i64 yobj, .int .i64 ykind, .int .i64 ymeth, .int .i64 yarg, .int .i64 ysec, .bool ydone, .int .i64 yres, .int .i64 yinv, .int .i64 yret] 25)).heap.size = w2.heap.size + 1 + 1 := (by simp)
    generalize (w2.alloc (.cells #[.int .i64 xid, .int .i64 xproc, .int .i64 xobj, .int .i64 xkind, .int .i64 xmeth, .int .i64 xarg, .int .i64 xsec, .bool xdone, .int .i64 xres, .int .i64 xinv, .int .i64 xret] 25)).alloc (.cells #[.int .i64 yid, .int .i64 yproc, .int .i64 yobj, .int .i64 ykind, .int .i64 ymeth, .int .i64 yarg, .int .i64 ysec, .bool ydone, .int .i64 yres, .int .i64 yinv, .int .i64 yret] 25) = W at *
    generalize w2.heap.size = G at *
    have HX := hid X2
    have HY := hid Y2
    have HE2 := hid E2
    have q := E2.at
    unfold OpAt at q
    dsimp only at q
    simp only [Nat.reduceAdd] at q
    obtain ⟨mk, m0, m1, m2, m3, m4, m5, m6, m7, m8, m9, m10⟩ := q
    have q := X2.at
    unfold OpAt at q
    dsimp only at q
    simp only [Nat.zero_add] at q
    obtain ⟨c0, c1, c2, c3, c4, c5, c6, c7, c8, c9, c10⟩ := q
    have q := Y2.at
    unfold OpAt at q
    dsimp only at q
    simp only [Nat.zero_add] at q
    obtain ⟨d0, d1, d2, d3, d4, d5, d6, d7, d8, d9, d10⟩ := q
    have zW2 := hid zW
    clear E2 X2 Y2 zW
    have hkW := HE2.out.kind_alloc ⟨xid, xproc, xobj, xkind, xmeth, xarg, xsec, xdone, xres, xinv, xret⟩
    dsimp only at hkW
    have hyW := HY.out.ed_alloc HE2.out ⟨xid, xproc, xobj, xkind, xmeth, xarg, xsec, xdone, xres, xinv, xret⟩
    unfold OpAt at hyW
    dsimp only at hyW
    simp only [Nat.zero_add] at hyW
    obtain ⟨j0, j1, j2, j3, j4, j5, j6, j7, j8, j9, j10⟩ := hyW
    go_wp2_with fail
    refine (HB.out _ _ (OA2.out.grow (Grow.alloc _ _))).mono ?_
    rintro e w3 ⟨v3, rfl, o3, b3⟩
    have g23 := hid (Grow.trans (Grow.alloc _ _) b3)
    have OL := hid (Ops.of_own o3 HLL.out)
    have gV := Grow.trans (Grow.alloc w3 (.cells #[.int .i64 yid, .int .i64 yproc, .int .i64 yobj, .int .i64 ykind, .int .i64 ymeth, .int .i64 yarg, .int .i64 ysec, .bool ydone, .int .i64 yres, .int .i64 yinv, .int .i64 yret] 25)) (Grow.alloc _ (.cells #[.int .i64 xid, .int .i64 xproc, .int .i64 xobj, .int .i64 xkind, .int .i64 xmeth, .int .i64 xarg, .int .i64 xsec, .bool xdone, .int .i64 xres, .int .i64 xinv, .int .i64 xret] 25))
    have X4 := HX.out.grow (Grow.trans g23.out gV)
    have Y4 := HY.out.grow (Grow.trans g23.out gV)
    have Y5 : OpBox ((w3.alloc (.cells #[.int .i64 yid, .int .i64 yproc, .int .i64 yobj, .int .i64 ykind, .int .i64 ymeth, .int .i64 yarg, .int .i64 ysec, .bool ydone, .int .i64 yres, .int .i64 yinv, .int .i64 yret] 25)).alloc (.cells #[.int .i64 xid, .int .i64 xproc, .int .i64 xobj, .int .i64 xkind, .int .i64 xmeth, .int .i64 xarg, .int .i64 xsec, .bool xdone, .int .i64 xres, .int .i64 xinv, .int .i64 xret] 25)) w3.heap.size ⟨yid, yproc, yobj, ykind, ymeth, yarg, ysec, ydone, yres, yinv, yret⟩ := heap_alloc_keep (heap_new _ _) _
    have X5 : OpBox ((w3.alloc (.cells #[.int .i64 yid, .int .i64 yproc, .int .i64 yobj, .int .i64 ykind, .int .i64 ymeth, .int .i64 yarg, .int .i64 ysec, .bool ydone, .int .i64 yres, .int .i64 yinv, .int .i64 yret] 25)).alloc (.cells #[.int .i64 xid, .int .i64 xproc, .int .i64 xobj, .int .i64 xkind, .int .i64 xmeth, .int .i64 xarg, .int .i64 xsec, .bool xdone, .int .i64 xres, .int .i64 xinv, .int .i64 xret] 25)) (w3.heap.size + 1) ⟨xid, xproc, xobj, xkind, xmeth, xarg, xsec, xdone, xres, xinv, xret⟩ := heap_newZ _ _ (by simp)
    have g4 := hid (Grow.trans g2.out (Grow.trans g23.out gV))
    have OL2 := hid (OL.out.grow gV)
    clear o3 b3 gV OL HX HY g23 c0 d0 m0 j0 c1 d1 m1 j1 c2 d2 m2 j2 c3 d3 m3 j3 c4 d4 m4 j4 c5 d5 m5 j5 c6 d6 m6 j6 c7 d7 m7 j7 c8 d8 m8 j8 c9 d9 m9 j9 c10 d10 m10 j10 mk hkW
    go_upto_region 17 with fail
    generalize (w3.alloc (.cells #[.int .i64 yid, .int .i64 yproc, .int .i64 yobj, .int .i64 ykind, .int .i64 ymeth, .int .i64 yarg, .int .i64 ysec, .bool ydone, .int .i64 yres, .int .i64 yinv, .int .i64 yret] 25)).alloc (.cells #[.int .i64 xid, .int .i64 xproc, .int .i64 xobj, .int .i64 xkind, .int .i64 xmeth, .int .i64 xarg, .int .i64 xsec, .bool xdone, .int .i64 xres, .int .i64 xinv, .int .i64 xret] 25) = V at *
    generalize w3.heap.size = G3 at *
    have HX4 := hid X4
    have HY4 := hid Y4
    have HX5 := hid X5
    have HY5 := hid Y5
    clear X4 Y4 X5 Y5
    go_wp2_with fail
    refine (HRO.out _ _ g4.out OL2.out).mono ?_
    rintro e w5 ⟨rfl, b5⟩
    have X4 := HX4.out.grow b5
    have Y4 := HY4.out.grow b5
    have X5 := HX5.out.grow b5
    have Y5 := HY5.out.grow b5
    have g5 := hid (Grow.trans g4.out b5)
    have q := X4.at
    unfold OpAt at q
    dsimp only at q
    simp only [Nat.zero_add] at q
    obtain ⟨a0, a1, a2, a3, a4, a5, a6, a7, a8, a9, a10⟩ := q
    have q := Y4.at
    unfold OpAt at q
    dsimp only at q
    simp only [Nat.zero_add] at q
    obtain ⟨m0, m1, m2, m3, m4, m5, m6, m7, m8, m9, m10⟩ := q
    have q := X5.at
    unfold OpAt at q
    dsimp only at q
    simp only [Nat.zero_add] at q
    obtain ⟨c0, c1, c2, c3, c4, c5, c6, c7, c8, c9, c10⟩ := q
    have q := Y5.at
    unfold OpAt at q
    dsimp only at q
    simp only [Nat.zero_add] at q
    obtain ⟨d0, d1, d2, d3, d4, d5, d6, d7, d8, d9, d10⟩ := q
    clear X4 Y4 X5 Y5 HX4 HY4 HX5 HY5 b5
    go_wp2_with fail
    refine (HW.out _).mono ?_
    rintro e w9 ⟨rfl, b9⟩
    go_wp2_with fail
    go_ret
    exact ⟨rfl, Grow.trans g5.out b9⟩
set_option maxRecDepth 100000 in
set_option maxHeartbeats 8000000 in
theorem Back_none (k : Int) (e x y : OpR) (A : List OpR) (c : Int) (hc : ¬ c = 0) (p : Option Addr) (n cap : Nat) (w : World) (h80 : ¬ (80 : Int) < (n : Int))
    (hck : ∀ w', Grow w w' → Calls Try.prog 8 #[.slice p n cap] w' fun e w'' => e = .returned (.int .i64 0) ∧ Grow w' w'')
    (ha : ∀ w', Grow w w' → Calls Try.prog 7 #[.slice p n cap, .agg #[.int .i64 k, .int .i64 e.id, .int .i64 e.proc, .int .i64 e.obj, .int .i64 e.kind, .int .i64 e.meth, .int .i64 e.arg, .int .i64 e.sec, .bool e.done, .int .i64 e.res, .int .i64 e.inv, .int .i64 e.ret]] w' (EdPost (A, x, y, c) w')) :
    Calls Try.prog 4 #[.slice p n cap, .agg #[.int .i64 k, .int .i64 e.id, .int .i64 e.proc, .int .i64 e.obj, .int .i64 e.kind, .int .i64 e.meth, .int .i64 e.arg, .int .i64 e.sec, .bool e.done, .int .i64 e.res, .int .i64 e.inv, .int .i64 e.ret]] w fun e w' => e = .returned (.bool true) ∧ Grow w w' := by
  have HW := hid (fun w => awake_c w)
  have HCK := hid hck
  have HA := hid ha
  clear hck ha
  obtain ⟨id, proc, obj, kind, meth, arg, sec, done, res, inv, ret⟩ := e
  obtain ⟨xid, xproc, xobj, xkind, xmeth, xarg, xsec, xdone, xres, xinv, xret⟩ := x
  obtain ⟨yid, yproc, yobj, ykind, ymeth, yarg, ysec, ydone, yres, yinv, yret⟩ := y
  unfold EdPost opV at HA
  dsimp only at HA
  go_enter Try.func4, Try.ntmps4
  go_wp2_with fail
  refine (HCK.out _ (Grow.alloc _ _)).mono ?_
  rintro e w1 ⟨rfl, b1⟩
  have k1 := b1.cells
  have z1 : w.heap.size < w1.heap.size := (by have := b1.size; simp at this; omega)
  have g1 := hid (Grow.trans (Grow.alloc _ _) b1)
  go_wp2_with fail
  refine (HA.out _ g1.out).mono ?_
  rintro e w2 ⟨v2, rfl, -, b2⟩
  have g2 := hid (Grow.trans (Grow.trans g1.out b2) (Grow.trans (Grow.alloc _ (.cells #[.int .i64 xid, .int .i64 xproc, .int .i64 xobj, .int .i64 xkind, .int .i64 xmeth, .int .i64 xarg, .int .i64 xsec, .bool xdone, .int .i64 xres, .int .i64 xinv, .int .i64 xret] 25)) (Grow.alloc _ (.cells #[.int .i64 yid, .int .i64 yproc, .int .i64 yobj, .int .i64 ykind, .int .i64 ymeth, .int .i64 yarg, .int .i64 ysec, .bool ydone, .int .i64 yres, .int .i64 yinv, .int .i64 yret] 25))))
  go_wp2_with fail
  refine (HW.out _).mono ?_
  rintro e w9 ⟨rfl, b9⟩
  go_wp2_with fail
  go_ret
  exact ⟨rfl, Grow.trans g2.out b9⟩
set_option maxRecDepth 100000 in
set_option maxHeartbeats 8000000 in
theorem Back_walk (l : List OpR) (v : Value) (x : EdR) (w : World) (hv : Ops w v l) (hl : l.length ≤ 1600000000000) (hf : FitL l) (hx : I64 x.op.res) :
    Calls Try.prog 4 #[v, .agg #[.int .i64 x.k, .int .i64 x.op.id, .int .i64 x.op.proc, .int .i64 x.op.obj, .int .i64 x.op.kind, .int .i64 x.op.meth, .int .i64 x.op.arg, .int .i64 x.op.sec, .bool x.op.done, .int .i64 x.op.res, .int .i64 x.op.inv, .int .i64 x.op.ret]] w fun e w' => e = .returned (.bool true) ∧ Below w.heap.size w w' := by
  have HW := hid (fun w => awake_c w)
  obtain ⟨k, e⟩ := x
  dsimp only at hx ⊢
  have hR := fun w' (g : Grow w w') => HRCheck_c l v w' (hv.grow g)
  by_cases h80 : 80 < l.length
  · have hd : (80 : Int) < (l.length : Int) := by omega
    obtain ⟨p, cap, rfl, -⟩ := hv
    clear hR hf
    generalize l.length = n at *
    obtain ⟨id, proc, obj, kind, meth, arg, sec, done, res, inv, ret⟩ := e
    dsimp only
    go_enter Try.func4, Try.ntmps4
    go_wp2_with fail
    refine (HW.out _).mono ?_
    rintro e w9 ⟨rfl, b9⟩
    go_wp2_with fail
    go_ret
    exact ⟨rfl, Grow.trans (Grow.alloc _ _) b9⟩
  by_cases hE : histE l = 0
  · rw [hE] at hR
    have hM := histM_of (hist_of hE)
    have ha := fun w' (g : Grow w w') => Apply_e k e l hM hx v w' (hv.grow g)
    have hbad := fun h => applyL_bad (l := l) (k := k) (e := e) h
    have hgood := fun h => applyL_hist hM (k := k) (e := e) h
    have hback := fun h => back_law hM (k := k) (e := e) h
    have hfit := fun h => fit_apply hM (k := k) (e := e) h
    have hkind : (applyL l k e).2.2.2 = 0 → k = 1 ∨ k = 2 ∨ k = 3 ∨ k = 4 ∨ k = 5 ∨ k = 6 := by
      intro h
      by_cases h1 : k < 1 ∨ 6 < k
      · unfold applyL at h
        rw [if_pos h1] at h
        cases h
      · omega
    generalize applyL l k e = r at *
    obtain ⟨A, x, y, c⟩ := r
    dsimp only at hbad hgood hback hfit hkind
    obtain ⟨p, cap, rfl, -⟩ := id hv
    by_cases hc : c = 0
    · subst hc
      have hA := hgood rfl
      refine Back_some k e x y A l p l.length cap w (hkind rfl) (by omega) hv (by have := hA.short; omega) hR ha (fun v w' h => ?_)
      have := Apply_e (backK k) (backO k x y) A hA (by unfold backO; split; exact (hfit rfl).2; exact (hfit rfl).1) v w' h
      rw [hback rfl] at this
      exact this
    · exact Back_none k e x y A c hc p l.length cap w (by omega) hR ha
  · obtain ⟨p, cap, rfl, -⟩ := hv
    have HR := hid hR
    clear hR hf
    generalize histE l = E at *
    generalize l.length = n at *
    have hd : ¬ (80 : Int) < (n : Int) := by omega
    obtain ⟨id, proc, obj, kind, meth, arg, sec, done, res, inv, ret⟩ := e
    dsimp only
    go_enter Try.func4, Try.ntmps4
    go_wp2_with fail
    refine (HR.out _ (Grow.alloc _ _)).mono ?_
    rintro e w1 ⟨rfl, b1⟩
    have g1 := hid (Grow.trans (Grow.alloc _ _) b1)
    go_wp2_with fail
    refine (HW.out _).mono ?_
    rintro e w9 ⟨rfl, b9⟩
    go_wp2_with fail
    go_ret
    exact ⟨rfl, Grow.trans g1.out b9⟩
namespace LawHistBack
open Go.ChangeShapes Go.WideShapes Go.ChangeAt Go.RowKit
open Go.ChangeMaps (open_string shut_string)
theorem own : ownKnob Try.prog.godebug = none := by kernel_rfl
theorem laidOut : laidOutB Try.prog = true := by kernel_rfl
set_option maxRecDepth 100000 in
theorem lifted (os : Os) (started : os.Started) (H : Type) (enc : TypeId × Value → H) :
    ReturnsInHanded {} Try.checked os 4 .any (Rows.histBackSpec.pre6 enc Try.prog Try.f4 Rows.histBackRow.domain false) (Rows.histBackSpec.post enc Try.prog Try.f4 false true false false) := by
  refine returnsInHanded_of_change_sized (C := Try.checked) own started (by kernel_rfl) Try.func4
    (ChangeSpec.witness6 (enc := enc) (C := Try.checked) false ⟨#[], #[.slice none 0 0, .agg #[.int .i64 0, .int .i64 0, .int .i64 0, .int .i64 0, .int .i64 0, .int .i64 0, .int .i64 0, .int .i64 0, .bool false, .int .i64 0, .int .i64 0, .int .i64 0]], []⟩ 8 (by kernel_rfl) (by kernel_rfl) (by kernel_rfl) (by kernel_rfl)) ?_
  intro W base args ds gs before hval0 hW hcnd hsz _
  have hval : ∀ (j : Nat) t v, Try.f4.params[j]? = some t → args[j]? = some v → Value.okWide Try.prog W .any base t v := hval0
  have hW' := hW
  obtain ⟨p, q, hA0, hV, rfl, hfz, hnd⟩ := hW
  have hA : DataW.TrodAll enc Try.prog W 0 (fun _ => true) true Try.f4.params.toList args.toList ds p := hA0
  rw [Try.params4] at hA hval hsz
  obtain ⟨v0, vs0, d0, ds0, p0, q0, hargs, rfl, rfl, h0, r0⟩ := trodAll_cons hA
  obtain ⟨v1, vs1, d1, ds1, p1, q1, rfl, rfl, rfl, h1, r1⟩ := trodAll_cons r0
  obtain ⟨rfl, rfl, rfl⟩ := trodAll_nil r1
  obtain rfl : args = #[v0, v1] := by cases args; simp_all
  obtain ⟨rfl, rfl⟩ := trodVars_none hV
  obtain ⟨a0, n0, c0, rfl⟩ := okWide_slice Try.underlying23 (hval 0 23 v0 rfl rfl)
  have k0 := h0
  have lt0 : ∀ x ∈ p0, x.block < W.heap.size := by obtain ⟨m, hm⟩ := k0; exact DataW.trod_lt m _ _ _ hm
  obtain ⟨z0, w0, u0, f0⟩ : ∃ l, Ops W (.slice a0 n0 c0) l ∧ l.length ≤ 1600000000000 ∧ ∀ k, k < l.length → I64 (opAt l k).res := by
    obtain ⟨fuel, hf⟩ := h0
    obtain ⟨l, v, hcs, hl, hu, hff⟩ := open_opsF (B := 1600000000000) (by omega) hf (fun elems sp hx => by
      simp only at hx
      subst hx
      have hre := sized_slice hsz (j := 0) (t := 23) rfl rfl Try.underlying23
      have hby : Try.checked.prog.bytesOf 25 = 88 := by kernel_rfl
      rw [hby] at hre
      simp only [reachBytes] at hre
      omega)
    simp [Value.cells] at hcs
    subst hcs
    exact ⟨l, hl, hu, hff⟩
  have k1 := h1
  have lt1 : ∀ x ∈ p1, x.block < W.heap.size := by obtain ⟨m, hm⟩ := k1; exact DataW.trod_lt m _ _ _ hm
  obtain ⟨a1, rfl, w1⟩ := open_edit (hval 1 30 v1 rfl rfl) h1
  clear hA0 hval0
  refine (Back_walk z0 (.slice a0 n0 c0) a1 W w0 u0 f0 w1).mono fun e W' ⟨he, bel⟩ => ?_
  subst he
  exact ⟨_, rfl, _, _, _, [], _, [], hW', trodAll_mk1 (shut_bool Try.underlying4 _), (trodAll_cons_mk (Below.trod laidOut (by kernel_rfl) (of_decide_eq_true (by kernel_rfl)) k0 bel lt0) (trodAll_cons_mk (Below.trod laidOut (by kernel_rfl) (of_decide_eq_true (by kernel_rfl)) k1 bel lt1) trodAll_mk0)), rfl, bel.frame _, fun h => by cases h⟩
theorem over : Rows.histBackRow.holds Try.pinned (OpenSpec.ofChange Rows.histBackSpec) :=
  OpenClaim.holds_of_wide 4 Try.f4 rfl rfl rfl rfl rfl rfl rfl ⟨rfl, rfl, rfl, rfl, rfl⟩ rfl rfl rfl rfl rfl (by kernel_rfl) Try.func4 (by kernel_rfl)
    (of_decide_eq_true (by kernel_rfl)) (by unfold Func.isWrapper; first | (rw [if_pos (by decide +kernel)]; kernel_rfl) | (rw [if_neg (by decide +kernel)]; exact ⟨rfl, rfl⟩))
    (fun os started H enc _ => lifted os started H enc)
end LawHistBack
/-- The given statement. -/
theorem histBack_proved : Rows.HistBackSaid := LawHistBack.over
#print axioms histBack_proved
end Go.Proofs.Ytljimlaalebmaaa
