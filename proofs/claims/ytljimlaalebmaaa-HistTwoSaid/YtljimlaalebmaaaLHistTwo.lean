/- Two edits of different operations come to the same history in both orders, if both orders are let. -/
import Derived.Test.YtljimlaalebmaaaHAwake
import Derived.Test.YtljimlaalebmaaaHRCheck
import Derived.Test.YtljimlaalebmaaaHEdLift
import Derived.Test.YtljimlaalebmaaaHLaws
import Derived.Test.YtljimlaalebmaaaHOps
import Derived.Test.YtljimlaalebmaaaOpEq
import Derived.Deep.Cut
namespace Go.Proofs.Ytljimlaalebmaaa
open Go.RowKit
set_option linter.unusedVariables false
set_option linter.unusedSimpArgs false
theorem EdBox.kind_alloc {w : World} {g : Nat} {k : Int} {e : OpR} (h : EdBox w g k e) (x : OpR) : (w.alloc (.cells #[.int .i64 k, .int .i64 x.id, .int .i64 x.proc, .int .i64 x.obj, .int .i64 x.kind, .int .i64 x.meth, .int .i64 x.arg, .int .i64 x.sec, .bool x.done, .int .i64 x.res, .int .i64 x.inv, .int .i64 x.ret] 30)).cell? ⟨g, 0, none⟩ = some (.int .i64 k) := (h.grow (Grow.alloc _ _)).at.1
theorem OpBox.ed_alloc {w : World} {g g0 : Nat} {k : Int} {e o : OpR} (h : OpBox w g o) (hE : EdBox w g0 k e) (x : OpR) : OpAt (w.alloc (.cells #[.int .i64 k, .int .i64 x.id, .int .i64 x.proc, .int .i64 x.obj, .int .i64 x.kind, .int .i64 x.meth, .int .i64 x.arg, .int .i64 x.sec, .bool x.done, .int .i64 x.res, .int .i64 x.inv, .int .i64 x.ret] 30)) g 0 o := (h.grow (Grow.alloc _ _)).at
theorem Apply_e (k : Int) (e : OpR) (L : List OpR) (hL : HistM L) (hx : I64 e.res) (v : Value) (w : World) (hv : Ops w v L) :
    Calls Try.prog 7 #[v, .agg #[.int .i64 k, .int .i64 e.id, .int .i64 e.proc, .int .i64 e.obj, .int .i64 e.kind, .int .i64 e.meth, .int .i64 e.arg, .int .i64 e.sec, .bool e.done, .int .i64 e.res, .int .i64 e.inv, .int .i64 e.ret]] w (EdPost (applyL L k e) w) :=
  Apply_c k e L v w hv (pairwise_rises hL.rise) (fit_hist hL) hx (by have := hL.short; omega)
set_option maxRecDepth 100000 in
set_option maxHeartbeats 8000000 in
theorem Two_none (k1 k2 : Int) (e1 e2 x1 y1 x2 y2 : OpR) (A B : List OpR) (c1 c2 : Int) (p : Option Addr) (n cap : Nat) (w : World) (h80 : ¬ (80 : Int) < (n : Int)) (hne : ¬ e1.id = e2.id) (hA64 : A.length ≤ 1000000) (hB64 : B.length ≤ 1000000) (hc : ¬ c1 = 0 ∨ c1 = 0 ∧ ¬ c2 = 0)
    (hck : ∀ w', Grow w w' → Calls Try.prog 8 #[.slice p n cap] w' fun e w'' => e = .returned (.int .i64 0) ∧ Grow w' w'')
    (ha : ∀ w', Grow w w' → Calls Try.prog 7 #[.slice p n cap, .agg #[.int .i64 k1, .int .i64 e1.id, .int .i64 e1.proc, .int .i64 e1.obj, .int .i64 e1.kind, .int .i64 e1.meth, .int .i64 e1.arg, .int .i64 e1.sec, .bool e1.done, .int .i64 e1.res, .int .i64 e1.inv, .int .i64 e1.ret]] w' (EdPost (A, x1, y1, c1) w'))
    (hb : ∀ w', Grow w w' → Calls Try.prog 7 #[.slice p n cap, .agg #[.int .i64 k2, .int .i64 e2.id, .int .i64 e2.proc, .int .i64 e2.obj, .int .i64 e2.kind, .int .i64 e2.meth, .int .i64 e2.arg, .int .i64 e2.sec, .bool e2.done, .int .i64 e2.res, .int .i64 e2.inv, .int .i64 e2.ret]] w' (EdPost (B, x2, y2, c2) w')) :
    Calls Try.prog 5 #[.slice p n cap, .agg #[.int .i64 k1, .int .i64 e1.id, .int .i64 e1.proc, .int .i64 e1.obj, .int .i64 e1.kind, .int .i64 e1.meth, .int .i64 e1.arg, .int .i64 e1.sec, .bool e1.done, .int .i64 e1.res, .int .i64 e1.inv, .int .i64 e1.ret], .agg #[.int .i64 k2, .int .i64 e2.id, .int .i64 e2.proc, .int .i64 e2.obj, .int .i64 e2.kind, .int .i64 e2.meth, .int .i64 e2.arg, .int .i64 e2.sec, .bool e2.done, .int .i64 e2.res, .int .i64 e2.inv, .int .i64 e2.ret]] w fun e w' => e = .returned (.bool true) ∧ Grow w w' := by
  have HW := hid (fun w => awake_c w)
  have HCK := hid hck
  have HA := hid ha
  have HB := hid hb
  have HA64 := hid hA64
  have HB64 := hid hB64
  clear hck ha hb hA64 hB64
  obtain ⟨aid, aproc, aobj, akind, ameth, aarg, asec, adone, ares, ainv, aret⟩ := e1
  obtain ⟨bid, bproc, bobj, bkind, bmeth, barg, bsec, bdone, bres, binv, bret⟩ := e2
  obtain ⟨xid, xproc, xobj, xkind, xmeth, xarg, xsec, xdone, xres, xinv, xret⟩ := x1
  obtain ⟨yid, yproc, yobj, ykind, ymeth, yarg, ysec, ydone, yres, yinv, yret⟩ := y1
  obtain ⟨sid, sproc, sobj, skind, smeth, sarg, ssec, sdone, sres, sinv, sret⟩ := x2
  obtain ⟨tid, tproc, tobj, tkind, tmeth, targ, tsec, tdone, tres, tinv, tret⟩ := y2
  unfold EdPost opV at HA HB
  dsimp only at HA HB hne
  rcases hc with hc | ⟨hc0, hc⟩
  all_goals
    go_enter Try.func5, Try.ntmps5
    go_wp2_with fail
    refine (HCK.out _ (Grow.trans (Grow.alloc _ _) (Grow.alloc _ _))).mono ?_
    rintro e w1 ⟨rfl, b1⟩
    have E1 : EdBox w1 w.heap.size k1 ⟨aid, aproc, aobj, akind, ameth, aarg, asec, adone, ares, ainv, aret⟩ := EdBox.grow (heap_alloc_keep (heap_newZ w _ rfl) _) b1
    have E2 : EdBox w1 (w.heap.size + 1) k2 ⟨bid, bproc, bobj, bkind, bmeth, barg, bsec, bdone, bres, binv, bret⟩ := EdBox.grow (heap_newZ _ _ (by simp)) b1
    have z1 : w.heap.size + 1 < w1.heap.size := (by have := b1.size; simp at this; omega)
    have g1 := hid (Grow.trans (Grow.trans (Grow.alloc _ _) (Grow.alloc _ _)) b1)
    have HE1 := hid E1
    have HE2 := hid E2
    have q := E1.at
    unfold OpAt at q
    dsimp only at q
    simp only [Nat.reduceAdd] at q
    obtain ⟨ik, i0, i1, i2, i3, i4, i5, i6, i7, i8, i9, i10⟩ := q
    have q := E2.at
    unfold OpAt at q
    dsimp only at q
    simp only [Nat.reduceAdd] at q
    obtain ⟨jk, j0, j1, j2, j3, j4, j5, j6, j7, j8, j9, j10⟩ := q
    clear E1 E2 b1
    go_wp2_with fail
    refine (HA.out _ g1.out).mono ?_
    rintro e w2 ⟨v2, rfl, o2, b2⟩
    have ON2 := hid (Ops.of_own o2 (by have := HA64.out; omega))
    have gW := Grow.trans (Grow.alloc w2 (.cells #[.int .i64 xid, .int .i64 xproc, .int .i64 xobj, .int .i64 xkind, .int .i64 xmeth, .int .i64 xarg, .int .i64 xsec, .bool xdone, .int .i64 xres, .int .i64 xinv, .int .i64 xret] 25)) (Grow.alloc _ (.cells #[.int .i64 yid, .int .i64 yproc, .int .i64 yobj, .int .i64 ykind, .int .i64 ymeth, .int .i64 yarg, .int .i64 ysec, .bool ydone, .int .i64 yres, .int .i64 yinv, .int .i64 yret] 25))
    have E1 := HE1.out.grow (Grow.trans b2 gW)
    have E2 := HE2.out.grow (Grow.trans b2 gW)
    have gs2 := hid (Grow.trans b2 gW)
    have OM2 := hid (ON2.out.grow gW)
    clear o2 b2 gW ON2 HE1 HE2 ik jk i0 j0 i1 j1 i2 j2 i3 j3 i4 j4 i5 j5 i6 j6 i7 j7 i8 j8 i9 j9 i10 j10
    go_upto_region 4 with fail
    generalize (w2.alloc (.cells #[.int .i64 xid, .int .i64 xproc, .int .i64 xobj, .int .i64 xkind, .int .i64 xmeth, .int .i64 xarg, .int .i64 xsec, .bool xdone, .int .i64 xres, .int .i64 xinv, .int .i64 xret] 25)).alloc (.cells #[.int .i64 yid, .int .i64 yproc, .int .i64 yobj, .int .i64 ykind, .int .i64 ymeth, .int .i64 yarg, .int .i64 ysec, .bool ydone, .int .i64 yres, .int .i64 yinv, .int .i64 yret] 25) = U2 at *
    generalize w2.heap.size = G2 at *
    have HE1 := hid E1
    have HE2 := hid E2
    have q := E1.at
    unfold OpAt at q
    dsimp only at q
    simp only [Nat.reduceAdd] at q
    obtain ⟨ik, i0, i1, i2, i3, i4, i5, i6, i7, i8, i9, i10⟩ := q
    have q := E2.at
    unfold OpAt at q
    dsimp only at q
    simp only [Nat.reduceAdd] at q
    obtain ⟨jk, j0, j1, j2, j3, j4, j5, j6, j7, j8, j9, j10⟩ := q
    clear E1 E2
    go_wp2_with fail
    refine (HB.out _ (Grow.trans g1.out gs2.out)).mono ?_
    rintro e w3 ⟨v3, rfl, o3, b3⟩
    have ON3 := hid (Ops.of_own o3 (by have := HB64.out; omega))
    have gW := Grow.trans (Grow.alloc w3 (.cells #[.int .i64 sid, .int .i64 sproc, .int .i64 sobj, .int .i64 skind, .int .i64 smeth, .int .i64 sarg, .int .i64 ssec, .bool sdone, .int .i64 sres, .int .i64 sinv, .int .i64 sret] 25)) (Grow.alloc _ (.cells #[.int .i64 tid, .int .i64 tproc, .int .i64 tobj, .int .i64 tkind, .int .i64 tmeth, .int .i64 targ, .int .i64 tsec, .bool tdone, .int .i64 tres, .int .i64 tinv, .int .i64 tret] 25))
    have E1 := HE1.out.grow (Grow.trans b3 gW)
    have E2 := HE2.out.grow (Grow.trans b3 gW)
    have gs3 := hid (Grow.trans b3 gW)
    have OM3 := hid (ON3.out.grow gW)
    clear o3 b3 gW ON3 HE1 HE2 ik jk i0 j0 i1 j1 i2 j2 i3 j3 i4 j4 i5 j5 i6 j6 i7 j7 i8 j8 i9 j9 i10 j10
    go_upto_region 5 with fail
    generalize (w3.alloc (.cells #[.int .i64 sid, .int .i64 sproc, .int .i64 sobj, .int .i64 skind, .int .i64 smeth, .int .i64 sarg, .int .i64 ssec, .bool sdone, .int .i64 sres, .int .i64 sinv, .int .i64 sret] 25)).alloc (.cells #[.int .i64 tid, .int .i64 tproc, .int .i64 tobj, .int .i64 tkind, .int .i64 tmeth, .int .i64 targ, .int .i64 tsec, .bool tdone, .int .i64 tres, .int .i64 tinv, .int .i64 tret] 25) = U3 at *
    generalize w3.heap.size = G3 at *
    have HE1 := hid E1
    have HE2 := hid E2
    have q := E1.at
    unfold OpAt at q
    dsimp only at q
    simp only [Nat.reduceAdd] at q
    obtain ⟨ik, i0, i1, i2, i3, i4, i5, i6, i7, i8, i9, i10⟩ := q
    have q := E2.at
    unfold OpAt at q
    dsimp only at q
    simp only [Nat.reduceAdd] at q
    obtain ⟨jk, j0, j1, j2, j3, j4, j5, j6, j7, j8, j9, j10⟩ := q
    clear E1 E2
    go_wp2_with fail
    refine (HW.out _).mono ?_
    rintro e w9 ⟨rfl, b9⟩
    go_wp2_with fail
    go_ret
    exact ⟨rfl, Grow.trans (Grow.trans (Grow.trans g1.out gs2.out) gs3.out) b9⟩
set_option maxRecDepth 100000 in
set_option maxHeartbeats 8000000 in
theorem Two_some (k1 k2 : Int) (e1 e2 x1 y1 x2 y2 u1 v1 u2 v2 : OpR) (A B C D : List OpR) (c d : Int) (p : Option Addr) (n cap : Nat) (w : World) (h80 : ¬ (80 : Int) < (n : Int)) (hne : ¬ e1.id = e2.id) (hA64 : A.length ≤ 1000000) (hB64 : B.length ≤ 1000000) (hC64 : C.length ≤ 1000000) (hD64 : D.length ≤ 1000000) (hcd : c = 0 ∧ d = 0 ∧ C = D ∨ ¬ c = 0 ∧ ¬ d = 0 ∧ (c == 0) = false ∧ (d == 0) = false)
    (hck : ∀ w', Grow w w' → Calls Try.prog 8 #[.slice p n cap] w' fun e w'' => e = .returned (.int .i64 0) ∧ Grow w' w'')
    (ha : ∀ w', Grow w w' → Calls Try.prog 7 #[.slice p n cap, .agg #[.int .i64 k1, .int .i64 e1.id, .int .i64 e1.proc, .int .i64 e1.obj, .int .i64 e1.kind, .int .i64 e1.meth, .int .i64 e1.arg, .int .i64 e1.sec, .bool e1.done, .int .i64 e1.res, .int .i64 e1.inv, .int .i64 e1.ret]] w' (EdPost (A, x1, y1, 0) w'))
    (hb : ∀ w', Grow w w' → Calls Try.prog 7 #[.slice p n cap, .agg #[.int .i64 k2, .int .i64 e2.id, .int .i64 e2.proc, .int .i64 e2.obj, .int .i64 e2.kind, .int .i64 e2.meth, .int .i64 e2.arg, .int .i64 e2.sec, .bool e2.done, .int .i64 e2.res, .int .i64 e2.inv, .int .i64 e2.ret]] w' (EdPost (B, x2, y2, 0) w'))
    (hc : ∀ v w', Ops w' v A → Calls Try.prog 7 #[v, .agg #[.int .i64 k2, .int .i64 e2.id, .int .i64 e2.proc, .int .i64 e2.obj, .int .i64 e2.kind, .int .i64 e2.meth, .int .i64 e2.arg, .int .i64 e2.sec, .bool e2.done, .int .i64 e2.res, .int .i64 e2.inv, .int .i64 e2.ret]] w' (EdPost (C, u1, v1, c) w'))
    (hd : ∀ v w', Ops w' v B → Calls Try.prog 7 #[v, .agg #[.int .i64 k1, .int .i64 e1.id, .int .i64 e1.proc, .int .i64 e1.obj, .int .i64 e1.kind, .int .i64 e1.meth, .int .i64 e1.arg, .int .i64 e1.sec, .bool e1.done, .int .i64 e1.res, .int .i64 e1.inv, .int .i64 e1.ret]] w' (EdPost (D, u2, v2, d) w')) :
    Calls Try.prog 5 #[.slice p n cap, .agg #[.int .i64 k1, .int .i64 e1.id, .int .i64 e1.proc, .int .i64 e1.obj, .int .i64 e1.kind, .int .i64 e1.meth, .int .i64 e1.arg, .int .i64 e1.sec, .bool e1.done, .int .i64 e1.res, .int .i64 e1.inv, .int .i64 e1.ret], .agg #[.int .i64 k2, .int .i64 e2.id, .int .i64 e2.proc, .int .i64 e2.obj, .int .i64 e2.kind, .int .i64 e2.meth, .int .i64 e2.arg, .int .i64 e2.sec, .bool e2.done, .int .i64 e2.res, .int .i64 e2.inv, .int .i64 e2.ret]] w fun e w' => e = .returned (.bool true) ∧ Grow w w' := by
  have HW := hid (fun w => awake_c w)
  have HCK := hid hck
  have HA := hid ha
  have HB := hid hb
  have HC := hid hc
  have HD := hid hd
  have HA64 := hid hA64
  have HB64 := hid hB64
  have HRO := hid (fun va vb w' (hva : Ops w' va C) hvb => ROps_c C va vb w' hva hvb)
  have HC64 := hid hC64
  have HD64 := hid hD64
  clear hck ha hb hc hd hA64 hB64 hC64 hD64
  obtain ⟨aid, aproc, aobj, akind, ameth, aarg, asec, adone, ares, ainv, aret⟩ := e1
  obtain ⟨bid, bproc, bobj, bkind, bmeth, barg, bsec, bdone, bres, binv, bret⟩ := e2
  obtain ⟨xid, xproc, xobj, xkind, xmeth, xarg, xsec, xdone, xres, xinv, xret⟩ := x1
  obtain ⟨yid, yproc, yobj, ykind, ymeth, yarg, ysec, ydone, yres, yinv, yret⟩ := y1
  obtain ⟨sid, sproc, sobj, skind, smeth, sarg, ssec, sdone, sres, sinv, sret⟩ := x2
  obtain ⟨tid, tproc, tobj, tkind, tmeth, targ, tsec, tdone, tres, tinv, tret⟩ := y2
  obtain ⟨lid, lproc, lobj, lkind, lmeth, larg, lsec, ldone, lres, linv, lret⟩ := u1
  obtain ⟨mid, mproc, mobj, mkind, mmeth, marg, msec, mdone, mres, minv, mret⟩ := v1
  obtain ⟨oid, oproc, oobj, okind, ometh, oarg, osec, odone, ores, oinv, oret⟩ := u2
  obtain ⟨qid, qproc, qobj, qkind, qmeth, qarg, qsec, qdone, qres, qinv, qret⟩ := v2
  unfold EdPost opV at HA HB HC HD
  dsimp only at HA HB HC HD hne
  rcases hcd with ⟨rfl, rfl, rfl⟩ | ⟨hc0, hd0, hc1, hd1⟩
  all_goals
    go_enter Try.func5, Try.ntmps5
    go_wp2_with fail
    refine (HCK.out _ (Grow.trans (Grow.alloc _ _) (Grow.alloc _ _))).mono ?_
    rintro e w1 ⟨rfl, b1⟩
    have E1 : EdBox w1 w.heap.size k1 ⟨aid, aproc, aobj, akind, ameth, aarg, asec, adone, ares, ainv, aret⟩ := EdBox.grow (heap_alloc_keep (heap_newZ w _ rfl) _) b1
    have E2 : EdBox w1 (w.heap.size + 1) k2 ⟨bid, bproc, bobj, bkind, bmeth, barg, bsec, bdone, bres, binv, bret⟩ := EdBox.grow (heap_newZ _ _ (by simp)) b1
    have z1 : w.heap.size + 1 < w1.heap.size := (by have := b1.size; simp at this; omega)
    have g1 := hid (Grow.trans (Grow.trans (Grow.alloc _ _) (Grow.alloc _ _)) b1)
    have HE1 := hid E1
    have HE2 := hid E2
    have q := E1.at
    unfold OpAt at q
    dsimp only at q
    simp only [Nat.reduceAdd] at q
    obtain ⟨ik, i0, i1, i2, i3, i4, i5, i6, i7, i8, i9, i10⟩ := q
    have q := E2.at
    unfold OpAt at q
    dsimp only at q
    simp only [Nat.reduceAdd] at q
    obtain ⟨jk, j0, j1, j2, j3, j4, j5, j6, j7, j8, j9, j10⟩ := q
    clear E1 E2 b1
    go_wp2_with fail
    refine (HA.out _ g1.out).mono ?_
    rintro e w2 ⟨v2, rfl, o2, b2⟩
    have ON2 := hid (Ops.of_own o2 (by have := HA64.out; omega))
    have gW := Grow.trans (Grow.alloc w2 (.cells #[.int .i64 xid, .int .i64 xproc, .int .i64 xobj, .int .i64 xkind, .int .i64 xmeth, .int .i64 xarg, .int .i64 xsec, .bool xdone, .int .i64 xres, .int .i64 xinv, .int .i64 xret] 25)) (Grow.alloc _ (.cells #[.int .i64 yid, .int .i64 yproc, .int .i64 yobj, .int .i64 ykind, .int .i64 ymeth, .int .i64 yarg, .int .i64 ysec, .bool ydone, .int .i64 yres, .int .i64 yinv, .int .i64 yret] 25))
    have E1 := HE1.out.grow (Grow.trans b2 gW)
    have E2 := HE2.out.grow (Grow.trans b2 gW)
    have gs2 := hid (Grow.trans b2 gW)
    have OM2 := hid (ON2.out.grow gW)
    clear o2 b2 gW ON2 HE1 HE2 ik jk i0 j0 i1 j1 i2 j2 i3 j3 i4 j4 i5 j5 i6 j6 i7 j7 i8 j8 i9 j9 i10 j10
    go_upto_region 4 with fail
    generalize (w2.alloc (.cells #[.int .i64 xid, .int .i64 xproc, .int .i64 xobj, .int .i64 xkind, .int .i64 xmeth, .int .i64 xarg, .int .i64 xsec, .bool xdone, .int .i64 xres, .int .i64 xinv, .int .i64 xret] 25)).alloc (.cells #[.int .i64 yid, .int .i64 yproc, .int .i64 yobj, .int .i64 ykind, .int .i64 ymeth, .int .i64 yarg, .int .i64 ysec, .bool ydone, .int .i64 yres, .int .i64 yinv, .int .i64 yret] 25) = U2 at *
    generalize w2.heap.size = G2 at *
    have HE1 := hid E1
    have HE2 := hid E2
    have q := E1.at
    unfold OpAt at q
    dsimp only at q
    simp only [Nat.reduceAdd] at q
    obtain ⟨ik, i0, i1, i2, i3, i4, i5, i6, i7, i8, i9, i10⟩ := q
    have q := E2.at
    unfold OpAt at q
    dsimp only at q
    simp only [Nat.reduceAdd] at q
    obtain ⟨jk, j0, j1, j2, j3, j4, j5, j6, j7, j8, j9, j10⟩ := q
    clear E1 E2
    go_wp2_with fail
    refine (HB.out _ (Grow.trans g1.out gs2.out)).mono ?_
    rintro e w3 ⟨v3, rfl, o3, b3⟩
    have ON3 := hid (Ops.of_own o3 (by have := HB64.out; omega))
    have gW := Grow.trans (Grow.alloc w3 (.cells #[.int .i64 sid, .int .i64 sproc, .int .i64 sobj, .int .i64 skind, .int .i64 smeth, .int .i64 sarg, .int .i64 ssec, .bool sdone, .int .i64 sres, .int .i64 sinv, .int .i64 sret] 25)) (Grow.alloc _ (.cells #[.int .i64 tid, .int .i64 tproc, .int .i64 tobj, .int .i64 tkind, .int .i64 tmeth, .int .i64 targ, .int .i64 tsec, .bool tdone, .int .i64 tres, .int .i64 tinv, .int .i64 tret] 25))
    have E1 := HE1.out.grow (Grow.trans b3 gW)
    have E2 := HE2.out.grow (Grow.trans b3 gW)
    have gs3 := hid (Grow.trans b3 gW)
    have OM3 := hid (ON3.out.grow gW)
    clear o3 b3 gW ON3 HE1 HE2 ik jk i0 j0 i1 j1 i2 j2 i3 j3 i4 j4 i5 j5 i6 j6 i7 j7 i8 j8 i9 j9 i10 j10
    go_upto_region 5 with fail
    generalize (w3.alloc (.cells #[.int .i64 sid, .int .i64 sproc, .int .i64 sobj, .int .i64 skind, .int .i64 smeth, .int .i64 sarg, .int .i64 ssec, .bool sdone, .int .i64 sres, .int .i64 sinv, .int .i64 sret] 25)).alloc (.cells #[.int .i64 tid, .int .i64 tproc, .int .i64 tobj, .int .i64 tkind, .int .i64 tmeth, .int .i64 targ, .int .i64 tsec, .bool tdone, .int .i64 tres, .int .i64 tinv, .int .i64 tret] 25) = U3 at *
    generalize w3.heap.size = G3 at *
    have HE1 := hid E1
    have HE2 := hid E2
    have q := E1.at
    unfold OpAt at q
    dsimp only at q
    simp only [Nat.reduceAdd] at q
    obtain ⟨ik, i0, i1, i2, i3, i4, i5, i6, i7, i8, i9, i10⟩ := q
    have q := E2.at
    unfold OpAt at q
    dsimp only at q
    simp only [Nat.reduceAdd] at q
    obtain ⟨jk, j0, j1, j2, j3, j4, j5, j6, j7, j8, j9, j10⟩ := q
    clear E1 E2
    go_wp2_with fail
    refine (HC.out _ _ (OM2.out.grow gs3.out)).mono ?_
    rintro e w4 ⟨v4, rfl, o4, b4⟩
    have ON4 := hid (Ops.of_own o4 (by have := HC64.out; omega))
    have gW := Grow.trans (Grow.alloc w4 (.cells #[.int .i64 lid, .int .i64 lproc, .int .i64 lobj, .int .i64 lkind, .int .i64 lmeth, .int .i64 larg, .int .i64 lsec, .bool ldone, .int .i64 lres, .int .i64 linv, .int .i64 lret] 25)) (Grow.alloc _ (.cells #[.int .i64 mid, .int .i64 mproc, .int .i64 mobj, .int .i64 mkind, .int .i64 mmeth, .int .i64 marg, .int .i64 msec, .bool mdone, .int .i64 mres, .int .i64 minv, .int .i64 mret] 25))
    have E1 := HE1.out.grow (Grow.trans b4 gW)
    have E2 := HE2.out.grow (Grow.trans b4 gW)
    have gs4 := hid (Grow.trans b4 gW)
    have OM4 := hid (ON4.out.grow gW)
    clear o4 b4 gW ON4 HE1 HE2 ik jk i0 j0 i1 j1 i2 j2 i3 j3 i4 j4 i5 j5 i6 j6 i7 j7 i8 j8 i9 j9 i10 j10
    go_upto_region 8 with fail
    generalize (w4.alloc (.cells #[.int .i64 lid, .int .i64 lproc, .int .i64 lobj, .int .i64 lkind, .int .i64 lmeth, .int .i64 larg, .int .i64 lsec, .bool ldone, .int .i64 lres, .int .i64 linv, .int .i64 lret] 25)).alloc (.cells #[.int .i64 mid, .int .i64 mproc, .int .i64 mobj, .int .i64 mkind, .int .i64 mmeth, .int .i64 marg, .int .i64 msec, .bool mdone, .int .i64 mres, .int .i64 minv, .int .i64 mret] 25) = U4 at *
    generalize w4.heap.size = G4 at *
    have HE1 := hid E1
    have HE2 := hid E2
    have q := E1.at
    unfold OpAt at q
    dsimp only at q
    simp only [Nat.reduceAdd] at q
    obtain ⟨ik, i0, i1, i2, i3, i4, i5, i6, i7, i8, i9, i10⟩ := q
    have q := E2.at
    unfold OpAt at q
    dsimp only at q
    simp only [Nat.reduceAdd] at q
    obtain ⟨jk, j0, j1, j2, j3, j4, j5, j6, j7, j8, j9, j10⟩ := q
    clear E1 E2
    go_wp2_with fail
    refine (HD.out _ _ (OM3.out.grow gs4.out)).mono ?_
    rintro e w5 ⟨v5, rfl, o5, b5⟩
    have ON5 := hid (Ops.of_own o5 (by have := HD64.out; omega))
    have gW := Grow.trans (Grow.alloc w5 (.cells #[.int .i64 oid, .int .i64 oproc, .int .i64 oobj, .int .i64 okind, .int .i64 ometh, .int .i64 oarg, .int .i64 osec, .bool odone, .int .i64 ores, .int .i64 oinv, .int .i64 oret] 25)) (Grow.alloc _ (.cells #[.int .i64 qid, .int .i64 qproc, .int .i64 qobj, .int .i64 qkind, .int .i64 qmeth, .int .i64 qarg, .int .i64 qsec, .bool qdone, .int .i64 qres, .int .i64 qinv, .int .i64 qret] 25))
    have E1 := HE1.out.grow (Grow.trans b5 gW)
    have E2 := HE2.out.grow (Grow.trans b5 gW)
    have gs5 := hid (Grow.trans b5 gW)
    have OM5 := hid (ON5.out.grow gW)
    clear o5 b5 gW ON5 HE1 HE2 ik jk i0 j0 i1 j1 i2 j2 i3 j3 i4 j4 i5 j5 i6 j6 i7 j7 i8 j8 i9 j9 i10 j10
    go_upto_region 9 with fail
    generalize (w5.alloc (.cells #[.int .i64 oid, .int .i64 oproc, .int .i64 oobj, .int .i64 okind, .int .i64 ometh, .int .i64 oarg, .int .i64 osec, .bool odone, .int .i64 ores, .int .i64 oinv, .int .i64 oret] 25)).alloc (.cells #[.int .i64 qid, .int .i64 qproc, .int .i64 qobj, .int .i64 qkind, .int .i64 qmeth, .int .i64 qarg, .int .i64 qsec, .bool qdone, .int .i64 qres, .int .i64 qinv, .int .i64 qret] 25) = U5 at *
    generalize w5.heap.size = G5 at *
    have HE1 := hid E1
    have HE2 := hid E2
    have q := E1.at
    unfold OpAt at q
    dsimp only at q
    simp only [Nat.reduceAdd] at q
    obtain ⟨ik, i0, i1, i2, i3, i4, i5, i6, i7, i8, i9, i10⟩ := q
    have q := E2.at
    unfold OpAt at q
    dsimp only at q
    simp only [Nat.reduceAdd] at q
    obtain ⟨jk, j0, j1, j2, j3, j4, j5, j6, j7, j8, j9, j10⟩ := q
    clear E1 E2
    go_wp2_with fail
  · refine (HRO.out _ _ _ (OM4.out.grow gs5.out) OM5.out).mono ?_
    rintro e w8 ⟨rfl, b8⟩
    have g8 := hid (Grow.trans (Grow.trans (Grow.trans (Grow.trans (Grow.trans g1.out gs2.out) gs3.out) gs4.out) gs5.out) b8)
    go_wp2_with fail
    refine (HW.out _).mono ?_
    rintro e w9 ⟨rfl, b9⟩
    go_wp2_with fail
    go_ret
    exact ⟨rfl, Grow.trans g8.out b9⟩
  · refine (HW.out _).mono ?_
    rintro e w9 ⟨rfl, b9⟩
    go_wp2_with fail
    go_ret
    exact ⟨rfl, Grow.trans (Grow.trans (Grow.trans (Grow.trans (Grow.trans g1.out gs2.out) gs3.out) gs4.out) gs5.out) b9⟩
set_option maxRecDepth 100000 in
set_option maxHeartbeats 8000000 in
theorem Two_walk (l : List OpR) (v : Value) (x y : EdR) (w : World) (hv : Ops w v l) (hl : l.length ≤ 1600000000000) (hf : FitL l) (hx : I64 x.op.res) (hy : I64 y.op.res) :
    Calls Try.prog 5 #[v, .agg #[.int .i64 x.k, .int .i64 x.op.id, .int .i64 x.op.proc, .int .i64 x.op.obj, .int .i64 x.op.kind, .int .i64 x.op.meth, .int .i64 x.op.arg, .int .i64 x.op.sec, .bool x.op.done, .int .i64 x.op.res, .int .i64 x.op.inv, .int .i64 x.op.ret], .agg #[.int .i64 y.k, .int .i64 y.op.id, .int .i64 y.op.proc, .int .i64 y.op.obj, .int .i64 y.op.kind, .int .i64 y.op.meth, .int .i64 y.op.arg, .int .i64 y.op.sec, .bool y.op.done, .int .i64 y.op.res, .int .i64 y.op.inv, .int .i64 y.op.ret]] w fun e w' => e = .returned (.bool true) ∧ Below w.heap.size w w' := by
  have HW := hid (fun w => awake_c w)
  obtain ⟨k1, e1⟩ := x
  obtain ⟨k2, e2⟩ := y
  dsimp only at hx hy ⊢
  have hR := fun w' (g : Grow w w') => HRCheck_c l v w' (hv.grow g)
  by_cases h80 : 80 < l.length
  · have hd : (80 : Int) < (l.length : Int) := by omega
    obtain ⟨p, cap, rfl, -⟩ := hv
    clear hR hf
    generalize l.length = n at *
    obtain ⟨aid, aproc, aobj, akind, ameth, aarg, asec, adone, ares, ainv, aret⟩ := e1
    obtain ⟨bid, bproc, bobj, bkind, bmeth, barg, bsec, bdone, bres, binv, bret⟩ := e2
    dsimp only
    go_enter Try.func5, Try.ntmps5
    go_wp2_with fail
    refine (HW.out _).mono ?_
    rintro e w9 ⟨rfl, b9⟩
    go_wp2_with fail
    go_ret
    exact ⟨rfl, Grow.trans (Grow.trans (Grow.alloc _ _) (Grow.alloc _ _)) b9⟩
  by_cases hE : histE l = 0
  · by_cases hne : e1.id = e2.id
    · obtain ⟨p, cap, rfl, -⟩ := hv
      rw [hE] at hR
      have HR := hid hR
      clear hR hf
      generalize l.length = n at *
      have hd : ¬ (80 : Int) < (n : Int) := by omega
      obtain ⟨aid, aproc, aobj, akind, ameth, aarg, asec, adone, ares, ainv, aret⟩ := e1
      obtain ⟨bid, bproc, bobj, bkind, bmeth, barg, bsec, bdone, bres, binv, bret⟩ := e2
      dsimp only at hne ⊢
      subst hne
      go_enter Try.func5, Try.ntmps5
      go_wp2_with fail
      refine (HR.out _ (Grow.trans (Grow.alloc _ _) (Grow.alloc _ _))).mono ?_
      rintro e w1 ⟨rfl, b1⟩
      have k1' := b1.cells
      have z1 : w.heap.size + 1 < w1.heap.size := (by have := b1.size; simp at this; omega)
      have g1 := hid (Grow.trans (Grow.trans (Grow.alloc _ _) (Grow.alloc _ _)) b1)
      go_wp2_with fail
      refine (HW.out _).mono ?_
      rintro e w9 ⟨rfl, b9⟩
      go_wp2_with fail
      go_ret
      exact ⟨rfl, Grow.trans g1.out b9⟩
    rw [hE] at hR
    have hM := histM_of (hist_of hE)
    have ha := fun w' (g : Grow w w') => Apply_e k1 e1 l hM hx v w' (hv.grow g)
    have hb := fun w' (g : Grow w w') => Apply_e k2 e2 l hM hy v w' (hv.grow g)
    have hga := fun h => applyL_hist hM (k := k1) (e := e1) h
    have hgb := fun h => applyL_hist hM (k := k2) (e := e2) h
    have hA64 := apply_len hM k1 e1
    have hB64 := apply_len hM k2 e2
    have htwo := fun h1 h2 => two_law hM (k1 := k1) (k2 := k2) hne h1 h2
    generalize applyL l k1 e1 = r1 at *
    generalize applyL l k2 e2 = r2 at *
    obtain ⟨A, x1, y1, c1⟩ := r1
    obtain ⟨B, x2, y2, c2⟩ := r2
    dsimp only at hga hgb htwo hA64 hB64
    obtain ⟨p, cap, rfl, -⟩ := id hv
    by_cases hc1 : c1 = 0
    · by_cases hc2 : c2 = 0
      · subst hc1 hc2
        have hA := hga rfl
        have hB := hgb rfl
        obtain ⟨t1, t2⟩ := htwo rfl rfl
        have hc := fun v w' h => Apply_e k2 e2 A hA hy v w' h
        have hd := fun v w' h => Apply_e k1 e1 B hB hx v w' h
        have hgc := fun h => applyL_hist hA (k := k2) (e := e2) h
        have hC64 := apply_len hA k2 e2
        have hD64 := apply_len hB k1 e1
        generalize applyL A k2 e2 = r3 at *
        generalize applyL B k1 e1 = r4 at *
        obtain ⟨C, u1, v1, c⟩ := r3
        obtain ⟨D, u2, v2, d⟩ := r4
        dsimp only at t1 t2 hgc hC64 hD64
        refine Two_some k1 k2 e1 e2 x1 y1 x2 y2 u1 v1 u2 v2 A B C D c d p l.length cap w (by omega) hne hA64 hB64 hC64 hD64 ?_ hR ha hb hc hd
        by_cases h0 : c = 0
        · exact .inl ⟨h0, t1.1 h0, t2 h0⟩
        · have h1 : ¬ d = 0 := fun h => h0 (t1.2 h)
          exact .inr ⟨h0, h1, by simpa using h0, by simpa using h1⟩
      · exact Two_none k1 k2 e1 e2 x1 y1 x2 y2 A B c1 c2 p l.length cap w (by omega) hne hA64 hB64 (.inr ⟨hc1, hc2⟩) hR ha hb
    · exact Two_none k1 k2 e1 e2 x1 y1 x2 y2 A B c1 c2 p l.length cap w (by omega) hne hA64 hB64 (.inl hc1) hR ha hb
  · obtain ⟨p, cap, rfl, -⟩ := hv
    have HR := hid hR
    clear hR hf
    generalize histE l = E at *
    generalize l.length = n at *
    have hd : ¬ (80 : Int) < (n : Int) := by omega
    obtain ⟨aid, aproc, aobj, akind, ameth, aarg, asec, adone, ares, ainv, aret⟩ := e1
    obtain ⟨bid, bproc, bobj, bkind, bmeth, barg, bsec, bdone, bres, binv, bret⟩ := e2
    dsimp only
    go_enter Try.func5, Try.ntmps5
    go_wp2_with fail
    refine (HR.out _ (Grow.trans (Grow.alloc _ _) (Grow.alloc _ _))).mono ?_
    rintro e w1 ⟨rfl, b1⟩
    have g1 := hid (Grow.trans (Grow.trans (Grow.alloc _ _) (Grow.alloc _ _)) b1)
    go_wp2_with fail
    refine (HW.out _).mono ?_
    rintro e w9 ⟨rfl, b9⟩
    go_wp2_with fail
    go_ret
    exact ⟨rfl, Grow.trans g1.out b9⟩
namespace LawHistTwo
open Go.ChangeShapes Go.WideShapes Go.ChangeAt Go.RowKit
open Go.ChangeMaps (open_string shut_string)
theorem own : ownKnob Try.prog.godebug = none := by kernel_rfl
theorem laidOut : laidOutB Try.prog = true := by kernel_rfl
set_option maxRecDepth 100000 in
theorem lifted (os : Os) (started : os.Started) (H : Type) (enc : TypeId × Value → H) :
    ReturnsInHanded {} Try.checked os 5 .any (Rows.histTwoSpec.pre6 enc Try.prog Try.f5 Rows.histTwoRow.domain false) (Rows.histTwoSpec.post enc Try.prog Try.f5 false true false false) := by
  refine returnsInHanded_of_change_sized (C := Try.checked) own started (by kernel_rfl) Try.func5
    (ChangeSpec.witness6 (enc := enc) (C := Try.checked) false ⟨#[], #[.slice none 0 0, .agg #[.int .i64 0, .int .i64 0, .int .i64 0, .int .i64 0, .int .i64 0, .int .i64 0, .int .i64 0, .int .i64 0, .bool false, .int .i64 0, .int .i64 0, .int .i64 0], .agg #[.int .i64 0, .int .i64 0, .int .i64 0, .int .i64 0, .int .i64 0, .int .i64 0, .int .i64 0, .int .i64 0, .bool false, .int .i64 0, .int .i64 0, .int .i64 0]], []⟩ 8 (by kernel_rfl) (by kernel_rfl) (by kernel_rfl) (by kernel_rfl)) ?_
  intro W base args ds gs before hval0 hW hcnd hsz _
  have hval : ∀ (j : Nat) t v, Try.f5.params[j]? = some t → args[j]? = some v → Value.okWide Try.prog W .any base t v := hval0
  have hW' := hW
  obtain ⟨p, q, hA0, hV, rfl, hfz, hnd⟩ := hW
  have hA : DataW.TrodAll enc Try.prog W 0 (fun _ => true) true Try.f5.params.toList args.toList ds p := hA0
  rw [Try.params5] at hA hval hsz
  obtain ⟨v0, vs0, d0, ds0, p0, q0, hargs, rfl, rfl, h0, r0⟩ := trodAll_cons hA
  obtain ⟨v1, vs1, d1, ds1, p1, q1, rfl, rfl, rfl, h1, r1⟩ := trodAll_cons r0
  obtain ⟨v2, vs2, d2, ds2, p2, q2, rfl, rfl, rfl, h2, r2⟩ := trodAll_cons r1
  obtain ⟨rfl, rfl, rfl⟩ := trodAll_nil r2
  obtain rfl : args = #[v0, v1, v2] := by cases args; simp_all
  obtain ⟨rfl, rfl⟩ := trodVars_none hV
  obtain ⟨a0, n0, c0, rfl⟩ := okWide_slice Try.underlying23 (hval 0 23 v0 rfl rfl)
  have k0 := h0
  have lt0 : ∀ x ∈ p0, x.block < W.heap.size := by obtain ⟨m, hm⟩ := k0; exact DataW.trod_lt m _ _ _ hm
  obtain ⟨z0, w0, u0, f0⟩ : ∃ l, Ops W (.slice a0 n0 c0) l ∧ l.length ≤ 1600000000000 ∧ ∀ k, k < l.length → I64 (opAt l k).res := by
    obtain ⟨fuel, hf⟩ := h0
    obtain ⟨l, v, hcs, hl, hu, hff⟩ := open_opsF (B := 1600000000000) (by omega) hf (fun elems sp hx => by
      simp only at hx
      subst hx
      have hre := sized_slice hsz (j := 0) (t := 23) rfl rfl Try.underlying23
      have hby : Try.checked.prog.bytesOf 25 = 88 := by kernel_rfl
      rw [hby] at hre
      simp only [reachBytes] at hre
      omega)
    simp [Value.cells] at hcs
    subst hcs
    exact ⟨l, hl, hu, hff⟩
  have k1 := h1
  have lt1 : ∀ x ∈ p1, x.block < W.heap.size := by obtain ⟨m, hm⟩ := k1; exact DataW.trod_lt m _ _ _ hm
  obtain ⟨a1, rfl, w1⟩ := open_edit (hval 1 30 v1 rfl rfl) h1
  have k2 := h2
  have lt2 : ∀ x ∈ p2, x.block < W.heap.size := by obtain ⟨m, hm⟩ := k2; exact DataW.trod_lt m _ _ _ hm
  obtain ⟨a2, rfl, w2⟩ := open_edit (hval 2 30 v2 rfl rfl) h2
  clear hA0 hval0
  refine (Two_walk z0 (.slice a0 n0 c0) a1 a2 W w0 u0 f0 w1 w2).mono fun e W' ⟨he, bel⟩ => ?_
  subst he
  exact ⟨_, rfl, _, _, _, [], _, [], hW', trodAll_mk1 (shut_bool Try.underlying4 _), (trodAll_cons_mk (Below.trod laidOut (by kernel_rfl) (of_decide_eq_true (by kernel_rfl)) k0 bel lt0) (trodAll_cons_mk (Below.trod laidOut (by kernel_rfl) (of_decide_eq_true (by kernel_rfl)) k1 bel lt1) (trodAll_cons_mk (Below.trod laidOut (by kernel_rfl) (of_decide_eq_true (by kernel_rfl)) k2 bel lt2) trodAll_mk0))), rfl, bel.frame _, fun h => by cases h⟩
theorem over : Rows.histTwoRow.holds Try.pinned (OpenSpec.ofChange Rows.histTwoSpec) :=
  OpenClaim.holds_of_wide 5 Try.f5 rfl rfl rfl rfl rfl rfl rfl ⟨rfl, rfl, rfl, rfl, rfl⟩ rfl rfl rfl rfl rfl (by kernel_rfl) Try.func5 (by kernel_rfl)
    (of_decide_eq_true (by kernel_rfl)) (by unfold Func.isWrapper; first | (rw [if_pos (by decide +kernel)]; kernel_rfl) | (rw [if_neg (by decide +kernel)]; exact ⟨rfl, rfl⟩))
    (fun os started H enc _ => lifted os started H enc)
end LawHistTwo
/-- The given statement. -/
theorem histTwo_proved : Rows.HistTwoSaid := LawHistTwo.over
#print axioms histTwo_proved
end Go.Proofs.Ytljimlaalebmaaa
