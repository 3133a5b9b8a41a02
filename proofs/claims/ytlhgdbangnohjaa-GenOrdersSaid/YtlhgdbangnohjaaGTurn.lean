/- What a mutex can do of what it is asked for: gen's turn. -/
import Derived.Test.YtlhgdbangnohjaaGAsk
namespace Go.Proofs.Ytlhgdbangnohjaa
open Go.RowKit
set_option linter.unusedVariables false
set_option linter.unusedSimpArgs false
/-- What a mutex can do of it, and whether it can. -/
def turnV (G : GenW) (o : OpR) (n : Nat) : OpR × Bool :=
  if (heldV G n).2 = true then (if G.gone.getD (heldV G n).1.toNat false = true then (o, false) else ({ o with proc := (heldV G n).1, meth := 14 }, true))
  else if o.kind = 6 then ({ o with meth := 13 }, true) else (o, true)
theorem OpBox.setProc {w : World} {g : Nat} {q : OpR} (h : OpBox w g q) (v : Int) : OpBox (w.setCell ⟨g, 1, none⟩ (.int .i64 v)) g { q with proc := v } := heap_setV h 1 _ _ rfl
theorem OpBox.setMeth {w : World} {g : Nat} {q : OpR} (h : OpBox w g q) (v : Int) : OpBox (w.setCell ⟨g, 4, none⟩ (.int .i64 v)) g { q with meth := v } := heap_setV h 4 _ _ rfl
set_option maxRecDepth 100000 in
set_option maxHeartbeats 4000000 in
theorem turn_c {base : Nat} {w : World} {c : GenC} {R : GR} {G : GenW} (h : GAt base w c R G) (o : OpR) (n : Nat) (hn : o.obj = (n : Int)) (hn2 : n < c.objects.toNat) (h16 : c.objects ≤ 16)
    (hp : (heldV G n).2 = true → ∃ p : Nat, (heldV G n).1 = (p : Int) ∧ p < c.procs.toNat) (q : OpR) (b : Bool) (hq : turnV G o n = (q, b)) :
    Calls Try.prog 39 #[.pointer (some ⟨R.g, 0, none⟩), .agg #[.int .i64 o.id, .int .i64 o.proc, .int .i64 o.obj, .int .i64 o.kind, .int .i64 o.meth, .int .i64 o.arg, .int .i64 o.sec, .bool o.done, .int .i64 o.res, .int .i64 o.inv, .int .i64 o.ret]] w fun e w' => e = .returned (.tuple #[.agg #[.int .i64 q.id, .int .i64 q.proc, .int .i64 q.obj, .int .i64 q.kind, .int .i64 q.meth, .int .i64 q.arg, .int .i64 q.sec, .bool q.done, .int .i64 q.res, .int .i64 q.inv, .int .i64 q.ret], .bool b]) ∧ Grow w w' := by
  have gW : Grow w ((w.alloc (.cells #[.int .i64 o.id, .int .i64 o.proc, .int .i64 o.obj, .int .i64 o.kind, .int .i64 o.meth, .int .i64 o.arg, .int .i64 o.sec, .bool o.done, .int .i64 o.res, .int .i64 o.inv, .int .i64 o.ret] 52)).alloc (.cells #[.int .i64 0, .int .i64 0, .int .i64 0, .int .i64 0, .int .i64 0, .int .i64 0, .int .i64 0, .bool false, .int .i64 0, .int .i64 0, .int .i64 0] 52)) := Grow.trans (Grow.alloc _ _) (Grow.alloc _ _)
  have ob : OpBox ((w.alloc (.cells #[.int .i64 o.id, .int .i64 o.proc, .int .i64 o.obj, .int .i64 o.kind, .int .i64 o.meth, .int .i64 o.arg, .int .i64 o.sec, .bool o.done, .int .i64 o.res, .int .i64 o.inv, .int .i64 o.ret] 52)).alloc (.cells #[.int .i64 0, .int .i64 0, .int .i64 0, .int .i64 0, .int .i64 0, .int .i64 0, .int .i64 0, .bool false, .int .i64 0, .int .i64 0, .int .i64 0] 52)) w.heap.size o := heap_alloc_keep (heap_new _ _) _
  have zb : OpBox ((w.alloc (.cells #[.int .i64 o.id, .int .i64 o.proc, .int .i64 o.obj, .int .i64 o.kind, .int .i64 o.meth, .int .i64 o.arg, .int .i64 o.sec, .bool o.done, .int .i64 o.res, .int .i64 o.inv, .int .i64 o.ret] 52)).alloc (.cells #[.int .i64 0, .int .i64 0, .int .i64 0, .int .i64 0, .int .i64 0, .int .i64 0, .int .i64 0, .bool false, .int .i64 0, .int .i64 0, .int .i64 0] 52)) (w.heap.size + 1) opZ := heap_newG0 _ _ (by simp)
  obtain ⟨id, proc, obj, kind, meth, arg, sec, done, res, inv, ret⟩ := o
  obtain ⟨qid, qproc, qobj, qkind, qmeth, qarg, qsec, qdone, qres, qinv, qret⟩ := q
  dsimp only at hn gW ob zb ⊢
  subst hn
  have HQ := hid hq
  clear hq
  go_enter Try.func39, Try.ntmps39
  go_upto_region 1 with fail
  generalize ((w.alloc (.cells #[.int .i64 id, .int .i64 proc, .int .i64 (n : Int), .int .i64 kind, .int .i64 meth, .int .i64 arg, .int .i64 sec, .bool done, .int .i64 res, .int .i64 inv, .int .i64 ret] 52)).alloc (.cells #[.int .i64 0, .int .i64 0, .int .i64 0, .int .i64 0, .int .i64 0, .int .i64 0, .int .i64 0, .bool false, .int .i64 0, .int .i64 0, .int .i64 0] 52)) = W at *
  have h' := h.grow gW
  have HH := hid (held_c h' n hn2 h16)
  obtain ⟨-, -, -, -, -, -, -, -, c8, -, -, -⟩ := h'.wc
  have HG := hid (fun p hp => h'.goneAt p hp)
  have HOB := hid ob
  have HZB := hid zb
  have HGW := hid gW
  have q0 := ob.at
  unfold OpAt at q0
  dsimp only at q0
  simp only [Nat.zero_add] at q0
  obtain ⟨a0, a1, a2, a3, a4, a5, a6, a7, a8, a9, a10⟩ := q0
  obtain ⟨f0, f1, f2, f3, f4, f5, f6, f7, f8, f9, f10⟩ := ob.open
  have zq := zb.at
  unfold OpAt opZ at zq
  dsimp only at zq
  simp only [Nat.zero_add] at zq
  obtain ⟨y0, y1, y2, y3, y4, y5, y6, y7, y8, y9, y10⟩ := zq
  obtain ⟨x0, x1, x2, x3, x4, x5, x6, x7, x8, x9, x10⟩ := zb.open
  unfold turnV at HQ
  dsimp only at HQ
  generalize heldV G n = hv at *
  obtain ⟨hv1, hv2⟩ := hv
  dsimp only at hp HH HQ
  have hRg := heap_lt h.cells
  clear gW ob zb h h' h16
  generalize c.procs.toNat = P at *
  cases hv2
  · rw [if_neg (by decide)] at HQ
    clear hp
    by_cases hk : kind = 6
    · subst hk
      rw [if_pos rfl] at HQ
      simp only [Prod.mk.injEq, OpR.mk.injEq] at HQ
      obtain ⟨⟨rfl, rfl, rfl, rfl, rfl, rfl, rfl, rfl, rfl, rfl, rfl⟩, rfl⟩ := HQ.out
      go_wp2_with fail
      refine (HH.out).mono ?_
      rintro e w1 ⟨rfl, rfl⟩
      go_wp2_with fail
      (try simp only [Exit.inBlock, Exit.then])
      refine bodyPost_ret (results_row2 (fn := Try.f39) (p := 4) (u := 5) rfl _ _ (w.heap.size + 1) 52 _ (0, 0) _ rfl (OpBox.store (g := w.heap.size + 1) (o := opZ) (heap_keep HZB.out ⟨w.heap.size, 4, none⟩ _ (by show w.heap.size + 1 ≠ w.heap.size; omega)) ⟨id, proc, n, 6, 13, arg, sec, done, res, inv, ret⟩) Try.underlying52 rfl (by kernel_rfl)) rfl ⟨rfl, Grow.store (Grow.setD HGW.out _ _ (Nat.le_refl _) _) _ (by omega) ⟨id, proc, n, 6, 13, arg, sec, done, res, inv, ret⟩⟩
    · rw [if_neg hk] at HQ
      simp only [Prod.mk.injEq, OpR.mk.injEq] at HQ
      obtain ⟨⟨rfl, rfl, rfl, rfl, rfl, rfl, rfl, rfl, rfl, rfl, rfl⟩, rfl⟩ := HQ.out
      have hk6 : (kind == 6) = false := by simpa using hk
      go_wp2_with fail
      refine (HH.out).mono ?_
      rintro e w1 ⟨rfl, rfl⟩
      go_wp2_with fail
      (try simp only [Exit.inBlock, Exit.then])
      refine bodyPost_ret (results_row2 (fn := Try.f39) (p := 4) (u := 5) rfl _ _ (w.heap.size + 1) 52 _ (0, 0) _ rfl (OpBox.store (g := w.heap.size + 1) (o := opZ) (HZB.out) ⟨id, proc, n, kind, meth, arg, sec, done, res, inv, ret⟩) Try.underlying52 rfl (by kernel_rfl)) rfl ⟨rfl, Grow.store (HGW.out) _ (by omega) ⟨id, proc, n, kind, meth, arg, sec, done, res, inv, ret⟩⟩
  · rw [if_pos rfl] at HQ
    obtain ⟨p, rfl, hpP⟩ := hp rfl
    rw [Int.toNat_natCast] at HQ
    have cg := HG.out p hpP
    have hp0 : (0 : Int) ≤ (p : Int) := by omega
    have hp1 : (p : Int) < (P : Int) := by omega
    generalize G.gone.getD p false = gp at *
    clear hp HG
    cases gp
    · rw [if_neg (by decide)] at HQ
      simp only [Prod.mk.injEq, OpR.mk.injEq] at HQ
      obtain ⟨⟨rfl, rfl, rfl, rfl, rfl, rfl, rfl, rfl, rfl, rfl, rfl⟩, rfl⟩ := HQ.out
      go_wp2_with fail
      refine (HH.out).mono ?_
      rintro e w1 ⟨rfl, rfl⟩
      go_wp2_with fail
      (try simp only [Exit.inBlock, Exit.then])
      refine bodyPost_ret (results_row2 (fn := Try.f39) (p := 4) (u := 5) rfl _ _ (w.heap.size + 1) 52 _ (0, 0) _ rfl (OpBox.store (g := w.heap.size + 1) (o := opZ) (heap_keep (heap_keep HZB.out ⟨w.heap.size, 1, none⟩ _ (by show w.heap.size + 1 ≠ w.heap.size; omega)) ⟨w.heap.size, 4, none⟩ _ (by show w.heap.size + 1 ≠ w.heap.size; omega)) ⟨id, p, n, kind, 14, arg, sec, done, res, inv, ret⟩) Try.underlying52 rfl (by kernel_rfl)) rfl ⟨rfl, Grow.store (Grow.setD (Grow.setD HGW.out _ _ (Nat.le_refl _) _) _ _ (Nat.le_refl _) _) _ (by omega) ⟨id, p, n, kind, 14, arg, sec, done, res, inv, ret⟩⟩
    · rw [if_pos rfl] at HQ
      simp only [Prod.mk.injEq, OpR.mk.injEq] at HQ
      obtain ⟨⟨rfl, rfl, rfl, rfl, rfl, rfl, rfl, rfl, rfl, rfl, rfl⟩, rfl⟩ := HQ.out
      go_wp2_with fail
      refine (HH.out).mono ?_
      rintro e w1 ⟨rfl, rfl⟩
      go_wp2_with fail
      (try simp only [Exit.inBlock, Exit.then])
      refine bodyPost_ret (results_row2 (fn := Try.f39) (p := 4) (u := 5) rfl _ _ (w.heap.size + 1) 52 _ (0, 0) _ rfl (OpBox.store (g := w.heap.size + 1) (o := opZ) (HZB.out) ⟨id, proc, n, kind, meth, arg, sec, done, res, inv, ret⟩) Try.underlying52 rfl (by kernel_rfl)) rfl ⟨rfl, Grow.store (HGW.out) _ (by omega) ⟨id, proc, n, kind, meth, arg, sec, done, res, inv, ret⟩⟩
end Go.Proofs.Ytlhgdbangnohjaa
