/- How hist.changed makes an operation by an edit. -/
import Derived.Test.YtljimlaalebmaaaHRow
import Derived.Test.YtljimlaalebmaaaHApplyPlain
import Derived.Deep.RegionHeld3
import Derived.Deep.QuietTactic
namespace Go.Proofs.Ytljimlaalebmaaa
open Go.RowKit
set_option linter.unusedVariables false
set_option linter.unusedSimpArgs false
theorem heap_newZ (w : World) (o : Obj) {g : Nat} (h : g = w.heap.size) : (w.alloc o).heap[g]? = some o := by
  subst h
  exact heap_new w o
set_option maxRecDepth 100000 in
set_option maxHeartbeats 4000000 in
theorem changed_c (o : OpR) (k : Int) (e : OpR) (r : OpR) (c : Int) (hr : changedL o k e = (r, c)) (w : World) :
    Calls Try.prog 18 #[.agg #[.int .i64 o.id, .int .i64 o.proc, .int .i64 o.obj, .int .i64 o.kind, .int .i64 o.meth, .int .i64 o.arg, .int .i64 o.sec, .bool o.done, .int .i64 o.res, .int .i64 o.inv, .int .i64 o.ret], .agg #[.int .i64 k, .int .i64 e.id, .int .i64 e.proc, .int .i64 e.obj, .int .i64 e.kind, .int .i64 e.meth, .int .i64 e.arg, .int .i64 e.sec, .bool e.done, .int .i64 e.res, .int .i64 e.inv, .int .i64 e.ret]] w fun en w' =>
      en = .returned (.tuple #[.agg #[.int .i64 r.id, .int .i64 r.proc, .int .i64 r.obj, .int .i64 r.kind, .int .i64 r.meth, .int .i64 r.arg, .int .i64 r.sec, .bool r.done, .int .i64 r.res, .int .i64 r.inv, .int .i64 r.ret], .int .i64 c]) ∧ Grow w w' := by
  obtain ⟨id, proc, obj, kind, meth, arg, sec, done, res, inv, ret⟩ := o
  obtain ⟨eid, eproc, eobj, ekind, emeth, earg, esec, edone, eres, einv, eret⟩ := e
  obtain ⟨rid, rproc, robj, rkind, rmeth, rarg, rsec, rdone, rres, rinv, rret⟩ := r
  unfold changedL at hr
  by_cases h3 : k = 3
  · subst h3
    rw [if_pos rfl] at hr
    simp only [Prod.mk.injEq, OpR.mk.injEq] at hr
    obtain ⟨⟨rfl, rfl, rfl, rfl, rfl, rfl, rfl, rfl, rfl, rfl, rfl⟩, rfl⟩ := hr
    dsimp only
    go_enter Try.func18, Try.ntmps18
    go_wp2_with fail
    go_region_held3 (fun w' => w'.cell? ⟨w.heap.size + 1, 10, none⟩ = some (.int .i64 einv) ∧ w'.cell? ⟨w.heap.size + 1, 11, none⟩ = some (.int .i64 eret)) (go_keep) (fail)
    go_wp2_with fail
    (try simp only [Exit.inBlock, Exit.then])
    refine bodyPost_ret (results_row2 (fn := Try.f18) (p := 4) (u := 5) rfl _ _ (w.heap.size + 1 + 1) 25 _ (0, 0) _ rfl ((Grow.drew _).heap (heap_newZ _ _ (by simp))) Try.underlying25 rfl (by kernel_rfl)) rfl ⟨rfl, Grow.trans (Grow.trans (Grow.trans (Grow.alloc _ _) (Grow.alloc _ _)) (Grow.alloc _ _)) (Grow.drew _)⟩
  rw [if_neg h3] at hr
  by_cases h4 : k = 4
  · subst h4
    rw [if_pos rfl] at hr
    simp only [Prod.mk.injEq, OpR.mk.injEq] at hr
    obtain ⟨⟨rfl, rfl, rfl, rfl, rfl, rfl, rfl, rfl, rfl, rfl, rfl⟩, rfl⟩ := hr
    dsimp only
    go_enter Try.func18, Try.ntmps18
    go_wp2_with fail
    go_region_held3 (fun w' => w'.cell? ⟨w.heap.size + 1, 5, none⟩ = some (.int .i64 emeth) ∧ w'.cell? ⟨w.heap.size + 1, 6, none⟩ = some (.int .i64 earg) ∧ w'.cell? ⟨w.heap.size + 1, 7, none⟩ = some (.int .i64 esec) ∧ w'.cell? ⟨w.heap.size + 1, 9, none⟩ = some (.int .i64 eres)) (go_keep) (fail)
    go_wp2_with fail
    (try simp only [Exit.inBlock, Exit.then])
    refine bodyPost_ret (results_row2 (fn := Try.f18) (p := 4) (u := 5) rfl _ _ (w.heap.size + 1 + 1) 25 _ (0, 0) _ rfl ((Grow.drew _).heap (heap_newZ _ _ (by simp))) Try.underlying25 rfl (by kernel_rfl)) rfl ⟨rfl, Grow.trans (Grow.trans (Grow.trans (Grow.alloc _ _) (Grow.alloc _ _)) (Grow.alloc _ _)) (Grow.drew _)⟩
  rw [if_neg h4] at hr
  by_cases h5 : k = 5
  · subst h5
    rw [if_pos rfl] at hr
    cases done
    · rw [if_neg (by simp)] at hr
      simp only [Prod.mk.injEq, OpR.mk.injEq] at hr
      obtain ⟨⟨rfl, rfl, rfl, rfl, rfl, rfl, rfl, rfl, rfl, rfl, rfl⟩, rfl⟩ := hr
      dsimp only
      go_enter Try.func18, Try.ntmps18
      go_wp2_with fail
      go_region_held3 (fun w' => w'.cell? ⟨w.heap.size + 1, 9, none⟩ = some (.int .i64 eres) ∧ w'.cell? ⟨w.heap.size + 1, 11, none⟩ = some (.int .i64 eret)) (go_keep) (fail)
      go_wp2_with fail
      (try simp only [Exit.inBlock, Exit.then])
      refine bodyPost_ret (results_row2 (fn := Try.f18) (p := 4) (u := 5) rfl _ _ (w.heap.size + 1 + 1) 25 _ (0, 0) _ rfl ((Grow.drew _).heap (heap_newZ _ _ (by simp))) Try.underlying25 rfl (by kernel_rfl)) rfl ⟨rfl, Grow.trans (Grow.trans (Grow.trans (Grow.alloc _ _) (Grow.alloc _ _)) (Grow.alloc _ _)) (Grow.drew _)⟩
    · rw [if_pos rfl] at hr
      simp only [Prod.mk.injEq, OpR.mk.injEq] at hr
      obtain ⟨⟨rfl, rfl, rfl, rfl, rfl, rfl, rfl, rfl, rfl, rfl, rfl⟩, rfl⟩ := hr
      dsimp only
      go_enter Try.func18, Try.ntmps18
      go_wp2_with fail
      (try simp only [Exit.inBlock, Exit.then])
      refine bodyPost_ret (results_row2 (fn := Try.f18) (p := 4) (u := 5) rfl _ _ (w.heap.size + 1 + 1) 25 _ (0, 0) _ rfl (heap_newZ _ _ (by simp)) Try.underlying25 rfl (by kernel_rfl)) rfl ⟨rfl, Grow.trans (Grow.trans (Grow.alloc _ _) (Grow.alloc _ _)) (Grow.alloc _ _)⟩
  rw [if_neg h5] at hr
  by_cases h6 : k = 6
  · subst h6
    rw [if_pos rfl] at hr
    cases done
    · rw [if_neg (by simp)] at hr
      simp only [Prod.mk.injEq, OpR.mk.injEq] at hr
      obtain ⟨⟨rfl, rfl, rfl, rfl, rfl, rfl, rfl, rfl, rfl, rfl, rfl⟩, rfl⟩ := hr
      dsimp only
      go_enter Try.func18, Try.ntmps18
      go_wp2_with fail
      (try simp only [Exit.inBlock, Exit.then])
      refine bodyPost_ret (results_row2 (fn := Try.f18) (p := 4) (u := 5) rfl _ _ (w.heap.size + 1 + 1) 25 _ (0, 0) _ rfl (heap_newZ _ _ (by simp)) Try.underlying25 rfl (by kernel_rfl)) rfl ⟨rfl, Grow.trans (Grow.trans (Grow.alloc _ _) (Grow.alloc _ _)) (Grow.alloc _ _)⟩
    · rw [if_pos rfl] at hr
      simp only [Prod.mk.injEq, OpR.mk.injEq] at hr
      obtain ⟨⟨rfl, rfl, rfl, rfl, rfl, rfl, rfl, rfl, rfl, rfl, rfl⟩, rfl⟩ := hr
      dsimp only
      go_enter Try.func18, Try.ntmps18
      go_wp2_with fail
      (try simp only [Exit.inBlock, Exit.then])
      refine bodyPost_ret (results_row2 (fn := Try.f18) (p := 4) (u := 5) rfl _ _ (w.heap.size + 1 + 1) 25 _ (0, 0) _ rfl (heap_newZ _ _ (by simp)) Try.underlying25 rfl (by kernel_rfl)) rfl ⟨rfl, Grow.trans (Grow.trans (Grow.alloc _ _) (Grow.alloc _ _)) (Grow.alloc _ _)⟩
  rw [if_neg h6] at hr
  simp only [Prod.mk.injEq, OpR.mk.injEq] at hr
  obtain ⟨⟨rfl, rfl, rfl, rfl, rfl, rfl, rfl, rfl, rfl, rfl, rfl⟩, rfl⟩ := hr
  dsimp only
  go_enter Try.func18, Try.ntmps18
  go_wp2_with fail
  (try simp only [Exit.inBlock, Exit.then])
  refine bodyPost_ret (results_row2 (fn := Try.f18) (p := 4) (u := 5) rfl _ _ (w.heap.size + 1 + 1) 25 _ (0, 0) _ rfl (heap_newZ _ _ (by simp)) Try.underlying25 rfl (by kernel_rfl)) rfl ⟨rfl, Grow.trans (Grow.trans (Grow.alloc _ _) (Grow.alloc _ _)) (Grow.alloc _ _)⟩
end Go.Proofs.Ytljimlaalebmaaa
