/- What hist.Apply tells of an edit: what can't be, and one that is added. -/
import Derived.Test.YtljimlaalebmaaaHAddAll
import Derived.Test.YtljimlaalebmaaaHPlace
import Derived.Deep.RegionHeld3
import Derived.Deep.QuietTactic
namespace Go.Proofs.Ytljimlaalebmaaa
open Go.RowKit
set_option linter.unusedVariables false
set_option linter.unusedSimpArgs false
/-- An edit in a block. -/
def EdBox (w : World) (g : Nat) (k : Int) (e : OpR) : Prop := w.heap[g]? = some (.cells #[.int .i64 k, .int .i64 e.id, .int .i64 e.proc, .int .i64 e.obj, .int .i64 e.kind, .int .i64 e.meth, .int .i64 e.arg, .int .i64 e.sec, .bool e.done, .int .i64 e.res, .int .i64 e.inv, .int .i64 e.ret] 30 (0, 0))
theorem EdBox.grow {w w' : World} {g : Nat} {k : Int} {e : OpR} (h : EdBox w g k e) (hg : Grow w w') : EdBox w' g k e := hg.heap h
theorem EdBox.at {w : World} {g : Nat} {k : Int} {e : OpR} (h : EdBox w g k e) : w.cell? ⟨g, 0, none⟩ = some (.int .i64 k) ∧ OpAt w g 1 e := by
  unfold EdBox at h
  unfold OpAt
  refine ⟨?_, ?_, ?_, ?_, ?_, ?_, ?_, ?_, ?_, ?_, ?_, ?_⟩
  all_goals rw [heap_cell h]; rfl
theorem appBoxes (w w1 : World) (k : Int) (e : OpR) (b1 : Grow ((((w.alloc (.cells #[.int .i64 k, .int .i64 e.id, .int .i64 e.proc, .int .i64 e.obj, .int .i64 e.kind, .int .i64 e.meth, .int .i64 e.arg, .int .i64 e.sec, .bool e.done, .int .i64 e.res, .int .i64 e.inv, .int .i64 e.ret] 30)).alloc (.cells #[.int .i64 0, .int .i64 0, .int .i64 0, .int .i64 0, .int .i64 0, .int .i64 0, .int .i64 0, .bool false, .int .i64 0, .int .i64 0, .int .i64 0] 25)).alloc (.cells #[.int .i64 0, .int .i64 0, .int .i64 0, .int .i64 0, .int .i64 0, .int .i64 0, .int .i64 0, .bool false, .int .i64 0, .int .i64 0, .int .i64 0] 25)).alloc (.cells #[.int .i64 0, .int .i64 0, .int .i64 0, .int .i64 0, .int .i64 0, .int .i64 0, .int .i64 0, .bool false, .int .i64 0, .int .i64 0, .int .i64 0] 25)) w1) :
    EdBox w1 w.heap.size k e ∧ OpBox w1 (w.heap.size + 1) opZ ∧ OpBox w1 (w.heap.size + 1 + 1) opZ ∧ OpBox w1 (w.heap.size + 1 + 1 + 1) opZ ∧ Grow w w1 := by
  refine ⟨EdBox.grow ?_ b1, OpBox.grow ?_ b1, OpBox.grow ?_ b1, OpBox.grow ?_ b1, Grow.trans (Grow.trans (Grow.trans (Grow.trans (Grow.alloc _ _) (Grow.alloc _ _)) (Grow.alloc _ _)) (Grow.alloc _ _)) b1⟩
  · exact heap_alloc_keep (heap_alloc_keep (heap_alloc_keep (heap_newZ _ _ rfl) _) _) _
  · exact heap_alloc_keep (heap_alloc_keep (heap_newZ _ _ (by simp)) _) _
  · exact heap_alloc_keep (heap_newZ _ _ (by simp)) _
  · exact heap_newZ _ _ (by simp)
set_option maxRecDepth 100000 in
set_option maxHeartbeats 4000000 in
/-- No kind. -/
theorem appA_c (k : Int) (e : OpR) (v : Value) (w : World) (hk : k < 1 ∨ ¬ k < 1 ∧ 6 < k) :
    Calls Try.prog 7 #[v, .agg #[.int .i64 k, .int .i64 e.id, .int .i64 e.proc, .int .i64 e.obj, .int .i64 e.kind, .int .i64 e.meth, .int .i64 e.arg, .int .i64 e.sec, .bool e.done, .int .i64 e.res, .int .i64 e.inv, .int .i64 e.ret]] w fun en w' => en = .returned (.tuple #[.slice none 0 0, .agg #[.int .i64 0, .int .i64 0, .int .i64 0, .int .i64 0, .int .i64 0, .int .i64 0, .int .i64 0, .bool false, .int .i64 0, .int .i64 0, .int .i64 0], .agg #[.int .i64 0, .int .i64 0, .int .i64 0, .int .i64 0, .int .i64 0, .int .i64 0, .int .i64 0, .bool false, .int .i64 0, .int .i64 0, .int .i64 0], .int .i64 1]) ∧ Grow w w' := by
  obtain ⟨id, proc, obj, kind, meth, arg, sec, done, res, inv, ret⟩ := e
  rcases hk with hk | ⟨hk, hk2⟩
  all_goals
    go_enter Try.func7, Try.ntmps7
    go_wp2_with fail
    have b1 := Grow.refl ((((w.alloc (.cells #[.int .i64 k, .int .i64 id, .int .i64 proc, .int .i64 obj, .int .i64 kind, .int .i64 meth, .int .i64 arg, .int .i64 sec, .bool done, .int .i64 res, .int .i64 inv, .int .i64 ret] 30)).alloc (.cells #[.int .i64 0, .int .i64 0, .int .i64 0, .int .i64 0, .int .i64 0, .int .i64 0, .int .i64 0, .bool false, .int .i64 0, .int .i64 0, .int .i64 0] 25)).alloc (.cells #[.int .i64 0, .int .i64 0, .int .i64 0, .int .i64 0, .int .i64 0, .int .i64 0, .int .i64 0, .bool false, .int .i64 0, .int .i64 0, .int .i64 0] 25)).alloc (.cells #[.int .i64 0, .int .i64 0, .int .i64 0, .int .i64 0, .int .i64 0, .int .i64 0, .int .i64 0, .bool false, .int .i64 0, .int .i64 0, .int .i64 0] 25))
    have B := appBoxes w _ k ⟨id, proc, obj, kind, meth, arg, sec, done, res, inv, ret⟩ b1
    clear b1
    have z1 : w.heap.size + 1 + 1 + 1 < ((((w.alloc (.cells #[.int .i64 k, .int .i64 id, .int .i64 proc, .int .i64 obj, .int .i64 kind, .int .i64 meth, .int .i64 arg, .int .i64 sec, .bool done, .int .i64 res, .int .i64 inv, .int .i64 ret] 30)).alloc (.cells #[.int .i64 0, .int .i64 0, .int .i64 0, .int .i64 0, .int .i64 0, .int .i64 0, .int .i64 0, .bool false, .int .i64 0, .int .i64 0, .int .i64 0] 25)).alloc (.cells #[.int .i64 0, .int .i64 0, .int .i64 0, .int .i64 0, .int .i64 0, .int .i64 0, .int .i64 0, .bool false, .int .i64 0, .int .i64 0, .int .i64 0] 25)).alloc (.cells #[.int .i64 0, .int .i64 0, .int .i64 0, .int .i64 0, .int .i64 0, .int .i64 0, .int .i64 0, .bool false, .int .i64 0, .int .i64 0, .int .i64 0] 25)).heap.size := (by simp)
    generalize (((w.alloc (.cells #[.int .i64 k, .int .i64 id, .int .i64 proc, .int .i64 obj, .int .i64 kind, .int .i64 meth, .int .i64 arg, .int .i64 sec, .bool done, .int .i64 res, .int .i64 inv, .int .i64 ret] 30)).alloc (.cells #[.int .i64 0, .int .i64 0, .int .i64 0, .int .i64 0, .int .i64 0, .int .i64 0, .int .i64 0, .bool false, .int .i64 0, .int .i64 0, .int .i64 0] 25)).alloc (.cells #[.int .i64 0, .int .i64 0, .int .i64 0, .int .i64 0, .int .i64 0, .int .i64 0, .int .i64 0, .bool false, .int .i64 0, .int .i64 0, .int .i64 0] 25)).alloc (.cells #[.int .i64 0, .int .i64 0, .int .i64 0, .int .i64 0, .int .i64 0, .int .i64 0, .int .i64 0, .bool false, .int .i64 0, .int .i64 0, .int .i64 0] 25) = w1 at *
    obtain ⟨B0, B1, B2, B3, G1⟩ := B
    have HG1 := hid G1
    clear G1
    have HB1 := hid B1
    have HB2 := hid B2
    have HB3 := hid B3
    have q1 := B1.at
    have q2 := B2.at
    have q3 := B3.at
    obtain ⟨f0, f1, f2, f3, f4, f5, f6, f7, f8, f9, f10⟩ := B1.open
    obtain ⟨g0, g1, g2, g3, g4, g5, g6, g7, g8, g9, g10⟩ := B2.open
    unfold OpAt opZ at q1 q2 q3
    dsimp only at q1 q2 q3
    simp only [Nat.zero_add] at q1 q2 q3
    obtain ⟨d0, d1, d2, d3, d4, d5, d6, d7, d8, d9, d10⟩ := q1
    obtain ⟨e0, e1, e2, e3, e4, e5, e6, e7, e8, e9, e10⟩ := q2
    obtain ⟨h0, h1, h2, h3, h4, h5, h6, h7, h8, h9, h10⟩ := q3
    clear B1 B2 B3
    go_wp2_with fail
    go_region_held3 (fun w' => w'.cell? ⟨w.heap.size + 1 + 1 + 1, 0, none⟩ = some (.int .i64 0) ∧ w'.cell? ⟨w.heap.size + 1 + 1 + 1, 1, none⟩ = some (.int .i64 0) ∧ w'.cell? ⟨w.heap.size + 1 + 1 + 1, 2, none⟩ = some (.int .i64 0) ∧ w'.cell? ⟨w.heap.size + 1 + 1 + 1, 3, none⟩ = some (.int .i64 0) ∧ w'.cell? ⟨w.heap.size + 1 + 1 + 1, 4, none⟩ = some (.int .i64 0) ∧ w'.cell? ⟨w.heap.size + 1 + 1 + 1, 5, none⟩ = some (.int .i64 0) ∧ w'.cell? ⟨w.heap.size + 1 + 1 + 1, 6, none⟩ = some (.int .i64 0) ∧ w'.cell? ⟨w.heap.size + 1 + 1 + 1, 7, none⟩ = some (.bool false) ∧ w'.cell? ⟨w.heap.size + 1 + 1 + 1, 8, none⟩ = some (.int .i64 0) ∧ w'.cell? ⟨w.heap.size + 1 + 1 + 1, 9, none⟩ = some (.int .i64 0) ∧ w'.cell? ⟨w.heap.size + 1 + 1 + 1, 10, none⟩ = some (.int .i64 0)) (go_keep) (fail)
    go_wp2_with fail
    obtain ⟨E1, E2, E3, -⟩ := two_stores HG1.out HB1.out HB2.out (by omega) (by omega) (by omega) opZ opZ
    (try simp only [Exit.inBlock, Exit.then])
    refine bodyPost_ret (results_rows4 (fn := Try.f7) (p := 5) (q := 6) (s := 4) (u := 7) rfl _ _ (w.heap.size + 1) (w.heap.size + 1 + 1) 25 _ _ (0, 0) (0, 0) _ rfl E1 rfl E2 Try.underlying25 rfl (by kernel_rfl) (by kernel_rfl)) rfl ⟨rfl, E3⟩
set_option maxRecDepth 100000 in
set_option maxHeartbeats 4000000 in
/-- None there. -/
theorem appB_c (k : Int) (e : OpR) (i : Nat) (v : Value) (w : World) (hp : ∀ w' : World, Grow w w' → Calls Try.prog 14 #[v, .int .i64 e.id] w' fun en w'' => en = .returned (.tuple #[.int .i64 (i : Int), .bool false]) ∧ Grow w' w'') (hk : ¬ k < 1) (hk2 : ¬ 6 < k) (hk3 : ¬ k = 1) :
    Calls Try.prog 7 #[v, .agg #[.int .i64 k, .int .i64 e.id, .int .i64 e.proc, .int .i64 e.obj, .int .i64 e.kind, .int .i64 e.meth, .int .i64 e.arg, .int .i64 e.sec, .bool e.done, .int .i64 e.res, .int .i64 e.inv, .int .i64 e.ret]] w fun en w' => en = .returned (.tuple #[.slice none 0 0, .agg #[.int .i64 0, .int .i64 0, .int .i64 0, .int .i64 0, .int .i64 0, .int .i64 0, .int .i64 0, .bool false, .int .i64 0, .int .i64 0, .int .i64 0], .agg #[.int .i64 0, .int .i64 0, .int .i64 0, .int .i64 0, .int .i64 0, .int .i64 0, .int .i64 0, .bool false, .int .i64 0, .int .i64 0, .int .i64 0], .int .i64 6]) ∧ Grow w w' := by
  have HP := hid hp
  clear hp
  obtain ⟨id, proc, obj, kind, meth, arg, sec, done, res, inv, ret⟩ := e
  go_enter Try.func7, Try.ntmps7
  go_wp2_with fail
  refine (HP.out _ (Grow.trans (Grow.trans (Grow.trans (Grow.alloc _ _) (Grow.alloc _ _)) (Grow.alloc _ _)) (Grow.alloc _ _))).mono ?_
  rintro en w1 ⟨rfl, b1⟩
  obtain ⟨B0, B1, B2, B3, G1⟩ := appBoxes w w1 k ⟨id, proc, obj, kind, meth, arg, sec, done, res, inv, ret⟩ b1
  clear b1
  have z1 : w.heap.size + 1 + 1 + 1 < w1.heap.size := B3.lt
  have q0 := B0.at
  unfold OpAt at q0
  dsimp only at q0
  simp only [Nat.reduceAdd] at q0
  obtain ⟨ak, a0, a1, a2, a3, a4, a5, a6, a7, a8, a9, a10⟩ := q0
  clear B0
  have HG1 := hid G1
  clear G1
  have HB1 := hid B1
  have HB2 := hid B2
  have HB3 := hid B3
  have q1 := B1.at
  have q2 := B2.at
  have q3 := B3.at
  obtain ⟨f0, f1, f2, f3, f4, f5, f6, f7, f8, f9, f10⟩ := B1.open
  obtain ⟨g0, g1, g2, g3, g4, g5, g6, g7, g8, g9, g10⟩ := B2.open
  unfold OpAt opZ at q1 q2 q3
  dsimp only at q1 q2 q3
  simp only [Nat.zero_add] at q1 q2 q3
  obtain ⟨d0, d1, d2, d3, d4, d5, d6, d7, d8, d9, d10⟩ := q1
  obtain ⟨e0, e1, e2, e3, e4, e5, e6, e7, e8, e9, e10⟩ := q2
  obtain ⟨h0, h1, h2, h3, h4, h5, h6, h7, h8, h9, h10⟩ := q3
  clear B1 B2 B3
  go_wp2_with fail
  go_region_held3 (fun w' => w'.cell? ⟨w.heap.size + 1 + 1 + 1, 0, none⟩ = some (.int .i64 0) ∧ w'.cell? ⟨w.heap.size + 1 + 1 + 1, 1, none⟩ = some (.int .i64 0) ∧ w'.cell? ⟨w.heap.size + 1 + 1 + 1, 2, none⟩ = some (.int .i64 0) ∧ w'.cell? ⟨w.heap.size + 1 + 1 + 1, 3, none⟩ = some (.int .i64 0) ∧ w'.cell? ⟨w.heap.size + 1 + 1 + 1, 4, none⟩ = some (.int .i64 0) ∧ w'.cell? ⟨w.heap.size + 1 + 1 + 1, 5, none⟩ = some (.int .i64 0) ∧ w'.cell? ⟨w.heap.size + 1 + 1 + 1, 6, none⟩ = some (.int .i64 0) ∧ w'.cell? ⟨w.heap.size + 1 + 1 + 1, 7, none⟩ = some (.bool false) ∧ w'.cell? ⟨w.heap.size + 1 + 1 + 1, 8, none⟩ = some (.int .i64 0) ∧ w'.cell? ⟨w.heap.size + 1 + 1 + 1, 9, none⟩ = some (.int .i64 0) ∧ w'.cell? ⟨w.heap.size + 1 + 1 + 1, 10, none⟩ = some (.int .i64 0)) (go_keep) (fail)
  go_wp2_with fail
  obtain ⟨E1, E2, E3, -⟩ := two_stores HG1.out HB1.out HB2.out (by omega) (by omega) (by omega) opZ opZ
  (try simp only [Exit.inBlock, Exit.then])
  refine bodyPost_ret (results_rows4 (fn := Try.f7) (p := 5) (q := 6) (s := 4) (u := 7) rfl _ _ (w.heap.size + 1) (w.heap.size + 1 + 1) 25 _ _ (0, 0) (0, 0) _ rfl E1 rfl E2 Try.underlying25 rfl (by kernel_rfl) (by kernel_rfl)) rfl ⟨rfl, E3⟩
end Go.Proofs.Ytljimlaalebmaaa
