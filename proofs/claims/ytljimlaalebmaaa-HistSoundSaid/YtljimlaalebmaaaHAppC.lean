/- What hist.Apply tells of an edit: one that is added. -/
import Derived.Test.YtljimlaalebmaaaHApp
namespace Go.Proofs.Ytljimlaalebmaaa
open Go.RowKit
set_option linter.unusedVariables false
set_option linter.unusedSimpArgs false
set_option maxRecDepth 100000 in
set_option maxHeartbeats 4000000 in
/-- One that is added. -/
theorem appC_c (e x y : OpR) (L : List OpR) (c : Int) (i : Nat) (there : Bool) (v : Value) (w : World) (hp : ∀ w' : World, Grow w w' → Calls Try.prog 14 #[v, .int .i64 e.id] w' fun en w'' => en = .returned (.tuple #[.int .i64 (i : Int), .bool there]) ∧ Grow w' w'') (ha : ∀ w' : World, Grow w w' → Calls Try.prog 15 #[v, .agg #[.int .i64 e.id, .int .i64 e.proc, .int .i64 e.obj, .int .i64 e.kind, .int .i64 e.meth, .int .i64 e.arg, .int .i64 e.sec, .bool e.done, .int .i64 e.res, .int .i64 e.inv, .int .i64 e.ret], .int .i64 (i : Int), .bool there] w' (EdPost (L, x, y, c) w')) :
    Calls Try.prog 7 #[v, .agg #[.int .i64 1, .int .i64 e.id, .int .i64 e.proc, .int .i64 e.obj, .int .i64 e.kind, .int .i64 e.meth, .int .i64 e.arg, .int .i64 e.sec, .bool e.done, .int .i64 e.res, .int .i64 e.inv, .int .i64 e.ret]] w fun en w' => ∃ v', en = .returned (.tuple #[v', opV x, opV y, .int .i64 c]) ∧ w'.ownsRow w.heap.size 25 11 v' L.length (opCells L) ∧ Grow w w' := by
  have HP := hid hp
  have HA := hid ha
  clear hp ha
  unfold EdPost opV at HA
  unfold opV
  obtain ⟨id, proc, obj, kind, meth, arg, sec, done, res, inv, ret⟩ := e
  obtain ⟨xid, xproc, xobj, xkind, xmeth, xarg, xsec, xdone, xres, xinv, xret⟩ := x
  obtain ⟨yid, yproc, yobj, ykind, ymeth, yarg, ysec, ydone, yres, yinv, yret⟩ := y
  go_enter Try.func7, Try.ntmps7
  go_wp2_with fail
  refine (HP.out _ (Grow.trans (Grow.trans (Grow.trans (Grow.alloc _ _) (Grow.alloc _ _)) (Grow.alloc _ _)) (Grow.alloc _ _))).mono ?_
  rintro en w1 ⟨rfl, b1⟩
  obtain ⟨B0, B1, B2, B3, G1⟩ := appBoxes w w1 1 ⟨id, proc, obj, kind, meth, arg, sec, done, res, inv, ret⟩ b1
  clear b1
  have z1 : w.heap.size + 1 + 1 + 1 < w1.heap.size := B3.lt
  have q0 := B0.at
  unfold OpAt at q0
  dsimp only at q0
  simp only [Nat.reduceAdd] at q0
  obtain ⟨ak, a0, a1, a2, a3, a4, a5, a6, a7, a8, a9, a10⟩ := q0
  have HB1 := hid B1
  have HB2 := hid B2
  have HG1 := hid G1
  clear B0 B1 B2 B3 G1
  go_wp2_with fail
  refine (HA.out _ HG1.out).mono ?_
  rintro en w2 ⟨v2, rfl, o2, b2⟩
  clear ak a0 a1 a2 a3 a4 a5 a6 a7 a8 a9 a10
  have B1 := HB1.out.grow b2
  have B2 := HB2.out.grow b2
  have KB1 := hid B1
  have KB2 := hid B2
  have HG2 := hid (Grow.trans HG1.out b2)
  have z2 := b2.size
  have HO := hid o2
  obtain ⟨f0, f1, f2, f3, f4, f5, f6, f7, f8, f9, f10⟩ := B1.open
  obtain ⟨g0, g1, g2, g3, g4, g5, g6, g7, g8, g9, g10⟩ := B2.open
  have q1 := B1.at
  have q2 := B2.at
  unfold OpAt opZ at q1 q2
  dsimp only at q1 q2
  simp only [Nat.zero_add] at q1 q2
  obtain ⟨d0, d1, d2, d3, d4, d5, d6, d7, d8, d9, d10⟩ := q1
  obtain ⟨e0, e1, e2, e3, e4, e5, e6, e7, e8, e9, e10⟩ := q2
  clear B1 B2 b2 o2
  go_wp2_with fail
  obtain ⟨E1, E2, E3, E4⟩ := two_stores0 HG2.out KB1.out KB2.out (by omega) (by omega) (by omega) ⟨xid, xproc, xobj, xkind, xmeth, xarg, xsec, xdone, xres, xinv, xret⟩ ⟨yid, yproc, yobj, ykind, ymeth, yarg, ysec, ydone, yres, yinv, yret⟩
  (try simp only [Exit.inBlock, Exit.then])
  refine bodyPost_ret (results_rows4 (fn := Try.f7) (p := 5) (q := 6) (s := 4) (u := 7) rfl _ _ (w.heap.size + 1) (w.heap.size + 1 + 1) 25 _ _ (0, 0) (0, 0) _ rfl E1 rfl E2 Try.underlying25 rfl (by kernel_rfl) (by kernel_rfl)) rfl ⟨_, rfl, own_less (own_same HO.out (fun k hk => E4 k ?_ ?_)) ?_, E3⟩
  all_goals omega
end Go.Proofs.Ytljimlaalebmaaa
