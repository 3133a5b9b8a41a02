/- What is wrong with an operation beside others: hist.beside, through its closures. -/
import Derived.Test.YtljimlaalebmaaaHRow
import Derived.Deep.QuietTactic
namespace Go.Proofs.Ytljimlaalebmaaa
open Go.RowKit
set_option linter.unusedVariables false
set_option linter.unusedSimpArgs false
theorem OpAt.at0 {w : World} {b : Nat} {x : OpR} (h : OpAt w b 0 x) : w.cell? ⟨b, 0, none⟩ = some (.int .i64 x.id) ∧ w.cell? ⟨b, 1, none⟩ = some (.int .i64 x.proc) ∧ w.cell? ⟨b, 2, none⟩ = some (.int .i64 x.obj) ∧ w.cell? ⟨b, 3, none⟩ = some (.int .i64 x.kind) ∧ w.cell? ⟨b, 4, none⟩ = some (.int .i64 x.meth) ∧ w.cell? ⟨b, 5, none⟩ = some (.int .i64 x.arg) ∧ w.cell? ⟨b, 6, none⟩ = some (.int .i64 x.sec) ∧ w.cell? ⟨b, 7, none⟩ = some (.bool x.done) ∧ w.cell? ⟨b, 8, none⟩ = some (.int .i64 x.res) ∧ w.cell? ⟨b, 9, none⟩ = some (.int .i64 x.inv) ∧ w.cell? ⟨b, 10, none⟩ = some (.int .i64 x.ret) := by
  unfold OpAt at h
  simpa only [Nat.zero_add] using h
set_option maxRecDepth 100000 in
set_option maxHeartbeats 1000000 in
theorem kind_c (p o : OpR) (ob : Nat) (w : World) (h : OpAt w ob 0 o) : Calls Try.prog 33 #[.agg #[.int .i64 p.id, .int .i64 p.proc, .int .i64 p.obj, .int .i64 p.kind, .int .i64 p.meth, .int .i64 p.arg, .int .i64 p.sec, .bool p.done, .int .i64 p.res, .int .i64 p.inv, .int .i64 p.ret], .pointer (some ⟨ob, 0, none⟩)] w fun e w' => e = .returned (.bool (p.obj == o.obj && p.kind != o.kind)) ∧ Grow w w' := by
  obtain ⟨c0, c1, c2, c3, c4, c5, c6, c7, c8, c9, c10⟩ := h.at0
  have hlt := World.block_lt_of_cell? w _ c0
  simp only at hlt
  clear h
  obtain ⟨id, proc, obj, kind, meth, arg, sec, done, res, inv, ret⟩ := p
  obtain ⟨bid, bproc, bobj, bkind, bmeth, barg, bsec, bdone, bres, binv, bret⟩ := o
  dsimp only at *
  by_cases q1 : obj = bobj
  all_goals
    have q2 : (obj == bobj) = decide (obj = bobj) := by by_cases e : obj = bobj <;> simp [e]
    rw [q2]
    first | rw [decide_eq_true q1] | rw [decide_eq_false q1]
    clear q2
    go_enter Try.func33, Try.ntmps33
    go_wp2_with fail
    go_ret
    exact ⟨rfl, Grow.alloc _ _⟩
set_option maxRecDepth 100000 in
set_option maxHeartbeats 1000000 in
theorem busy_c (p o : OpR) (ob : Nat) (w : World) (h : OpAt w ob 0 o) : Calls Try.prog 34 #[.agg #[.int .i64 p.id, .int .i64 p.proc, .int .i64 p.obj, .int .i64 p.kind, .int .i64 p.meth, .int .i64 p.arg, .int .i64 p.sec, .bool p.done, .int .i64 p.res, .int .i64 p.inv, .int .i64 p.ret], .pointer (some ⟨ob, 0, none⟩)] w fun e w' => e = .returned (.bool (p.proc == o.proc && (!befB p o && !befB o p))) ∧ Grow w w' := by
  obtain ⟨c0, c1, c2, c3, c4, c5, c6, c7, c8, c9, c10⟩ := h.at0
  have hlt := World.block_lt_of_cell? w _ c0
  simp only at hlt
  clear h
  have h1 := hid (fun w => Overlap_c p o w)
  generalize (!befB p o && !befB o p) = X at *
  obtain ⟨id, proc, obj, kind, meth, arg, sec, done, res, inv, ret⟩ := p
  obtain ⟨bid, bproc, bobj, bkind, bmeth, barg, bsec, bdone, bres, binv, bret⟩ := o
  dsimp only at *
  by_cases q1 : proc = bproc
  · subst q1
    have q2 : (proc == proc) = true := by simp
    rw [q2]
    clear q2
    go_enter Try.func34, Try.ntmps34
    go_wp2_with fail
    refine (h1.out _).mono ?_
    rintro e w1 ⟨rfl, b1⟩
    go_wp2_with fail
    go_ret
    exact ⟨by simp, Grow.trans (Grow.alloc _ _) b1⟩
  · have q2 : (proc == bproc) = false := by simpa using q1
    rw [q2]
    clear q2
    go_enter Try.func34, Try.ntmps34
    go_wp2_with fail
    go_ret
    exact ⟨rfl, Grow.alloc _ _⟩
set_option maxRecDepth 100000 in
set_option maxHeartbeats 2000000 in
theorem other_kind (p o : OpR) (ob fb : Nat) (w : World) (h : OpAt w ob 0 o) (hf : w.cell? ⟨fb, 0, none⟩ = some (.func (.func 33) #[] #[.pointer (some ⟨ob, 0, none⟩)])) : Calls Try.prog 32 #[.agg #[.int .i64 p.id, .int .i64 p.proc, .int .i64 p.obj, .int .i64 p.kind, .int .i64 p.meth, .int .i64 p.arg, .int .i64 p.sec, .bool p.done, .int .i64 p.res, .int .i64 p.inv, .int .i64 p.ret], .pointer (some ⟨ob, 0, none⟩), .pointer (some ⟨fb, 0, none⟩)] w fun e w' => e = .returned (.bool (kindB o p)) ∧ Grow w w' := by
  obtain ⟨c0, c1, c2, c3, c4, c5, c6, c7, c8, c9, c10⟩ := h.at0
  have hlt := World.block_lt_of_cell? w _ c0
  simp only at hlt
  have hlt2 := World.block_lt_of_cell? w _ hf
  simp only at hlt2
  have h1 := hid (fun (w' : World) (g : Grow w w') => kind_c p o ob w' (h.grow g))
  clear h
  unfold kindB
  generalize (p.obj == o.obj && p.kind != o.kind) = X at *
  obtain ⟨id, proc, obj, kind, meth, arg, sec, done, res, inv, ret⟩ := p
  obtain ⟨bid, bproc, bobj, bkind, bmeth, barg, bsec, bdone, bres, binv, bret⟩ := o
  dsimp only at *
  by_cases q1 : id = bid
  · have q2 : (id != bid) = false := by simpa using q1
    rw [q2]
    clear q2
    go_enter Try.func32, Try.ntmps32
    go_wp2_with fail
    go_ret
    exact ⟨rfl, Grow.alloc _ _⟩
  · have q2 : (id != bid) = true := by simpa using q1
    rw [q2]
    clear q2
    go_enter Try.func32, Try.ntmps32
    go_wp2_with fail
    refine (h1.out _ (Grow.alloc _ _)).mono ?_
    rintro e w1 ⟨rfl, b1⟩
    go_wp2_with fail
    go_ret
    exact ⟨by simp [q1], Grow.trans (Grow.alloc _ _) b1⟩
set_option maxRecDepth 100000 in
set_option maxHeartbeats 2000000 in
theorem other_busy (p o : OpR) (ob fb : Nat) (w : World) (h : OpAt w ob 0 o) (hf : w.cell? ⟨fb, 0, none⟩ = some (.func (.func 34) #[] #[.pointer (some ⟨ob, 0, none⟩)])) : Calls Try.prog 32 #[.agg #[.int .i64 p.id, .int .i64 p.proc, .int .i64 p.obj, .int .i64 p.kind, .int .i64 p.meth, .int .i64 p.arg, .int .i64 p.sec, .bool p.done, .int .i64 p.res, .int .i64 p.inv, .int .i64 p.ret], .pointer (some ⟨ob, 0, none⟩), .pointer (some ⟨fb, 0, none⟩)] w fun e w' => e = .returned (.bool (busyB o p)) ∧ Grow w w' := by
  obtain ⟨c0, c1, c2, c3, c4, c5, c6, c7, c8, c9, c10⟩ := h.at0
  have hlt := World.block_lt_of_cell? w _ c0
  simp only at hlt
  have hlt2 := World.block_lt_of_cell? w _ hf
  simp only at hlt2
  have h1 := hid (fun (w' : World) (g : Grow w w') => busy_c p o ob w' (h.grow g))
  clear h
  unfold busyB
  generalize (p.proc == o.proc && (!befB p o && !befB o p)) = X at *
  obtain ⟨id, proc, obj, kind, meth, arg, sec, done, res, inv, ret⟩ := p
  obtain ⟨bid, bproc, bobj, bkind, bmeth, barg, bsec, bdone, bres, binv, bret⟩ := o
  dsimp only at *
  by_cases q1 : id = bid
  · have q2 : (id != bid) = false := by simpa using q1
    rw [q2]
    clear q2
    go_enter Try.func32, Try.ntmps32
    go_wp2_with fail
    go_ret
    exact ⟨rfl, Grow.alloc _ _⟩
  · have q2 : (id != bid) = true := by simpa using q1
    rw [q2]
    clear q2
    go_enter Try.func32, Try.ntmps32
    go_wp2_with fail
    refine (h1.out _ (Grow.alloc _ _)).mono ?_
    rintro e w1 ⟨rfl, b1⟩
    go_wp2_with fail
    go_ret
    exact ⟨by simp [q1], Grow.trans (Grow.alloc _ _) b1⟩
set_option maxRecDepth 100000 in
set_option maxHeartbeats 4000000 in
theorem IndexFunc_c (q : OpR → Bool) (l : List OpR) (v : Value) (ob fb : Nat) (w : World) (hv : Ops w v l) (hp : ∀ (p : OpR) (w' : World), Grow w w' → Calls Try.prog 32 #[.agg #[.int .i64 p.id, .int .i64 p.proc, .int .i64 p.obj, .int .i64 p.kind, .int .i64 p.meth, .int .i64 p.arg, .int .i64 p.sec, .bool p.done, .int .i64 p.res, .int .i64 p.inv, .int .i64 p.ret], .pointer (some ⟨ob, 0, none⟩), .pointer (some ⟨fb, 0, none⟩)] w' fun e w'' => e = .returned (.bool (q p)) ∧ Grow w' w'') :
    Calls Try.prog 44 #[v, .func (.func 32) #[] #[.pointer (some ⟨ob, 0, none⟩), .pointer (some ⟨fb, 0, none⟩)]] w fun e w' => ∃ r : Int, decide (0 ≤ r) = l.any q ∧ e = .returned (.int .i64 r) ∧ Grow w w' := by
  obtain ⟨p, cap, rfl, hl, hc⟩ := hv.read
  have HC := hid hc
  have HP := hid hp
  have HF := hid (any_false (l := l) (q := q))
  have HT := hid (fun k => any_true (l := l) (q := q) (k := k))
  clear hc hv hp
  generalize l.any q = X at *
  generalize hN : l.length = n at *
  clear hN
  go_enter Try.func44, Try.ntmps44
  go_wp2_with fail
  go_loopw [8] (fun i wr => ∃ j : Nat, j ≤ n ∧ i = .int .i64 (j : Int) ∧ Hid (∀ k, k < j → q (opAt l k) = false) ∧ Grow w wr) (fun i _ => n - (intOf i).toNat)
  case atStart => exact ⟨0, by omega, rfl, hid (fun q hq => by omega), Grow.refl _⟩
  case round =>
    obtain ⟨j, hj, rfl, HK, hg⟩ := hrel
    by_cases hlt : j < n
    · obtain ⟨b, off, rfl, ha⟩ := HC.out j hlt
      have hk0 : (0 : Int) ≤ (j : Int) := by omega
      have hk1 : (j : Int) < (n : Int) := by omega
      have hp := fun w' g => HP.out (opAt l j) w' g
      have hf1 := HT.out j hlt
      have hf0 : q (opAt l j) = false → ∀ k, k < j + 1 → q (opAt l k) = false := fun h k hk => by
        by_cases e : k = j
        · subst e; exact h
        · exact HK.out k (by omega)
      have HF1 := hid hf1
      have HF0 := hid hf0
      clear hf1 hf0
      generalize hQ : q (opAt l j) = Q at hp
      replace HF1 := hid (fun h => HF1.out (hQ.trans h))
      replace HF0 := hid (fun h => HF0.out (hQ.trans h))
      clear hQ
      generalize opAt l j = o at ha hp
      obtain ⟨id, proc, obj, kind, meth, arg, sec, done, res, inv, ret⟩ := o
      have HP2 := hid hp
      clear hp
      unfold OpAt at ha
      dsimp only at ha HP2
      obtain ⟨c0, c1, c2, c3, c4, c5, c6, c7, c8, c9, c10⟩ := ha
      replace c0 := hg.cell c0
      replace c1 := hg.cell c1
      replace c2 := hg.cell c2
      replace c3 := hg.cell c3
      replace c4 := hg.cell c4
      replace c5 := hg.cell c5
      replace c6 := hg.cell c6
      replace c7 := hg.cell c7
      replace c8 := hg.cell c8
      replace c9 := hg.cell c9
      replace c10 := hg.cell c10
      cases Q
      · go_wp2_with fail
        refine (HP2.out _ hg).mono ?_
        rintro e w2 ⟨rfl, g2⟩
        go_wp2_with fail
        go_roundw
        case rel => exact ⟨j + 1, by omega, by go_num, hid (by first | exact HF0.out rfl | exact HF0.out trivial), Grow.trans hg g2⟩
        case measure => simp [intOf]; omega
      · go_wp2_with fail
        refine (HP2.out _ hg).mono ?_
        rintro e w2 ⟨rfl, g2⟩
        go_wp2_with fail
        go_ret
        exact ⟨j, by (first | rw [HF1.out rfl] | rw [HF1.out trivial]); simp, rfl, Grow.trans hg g2⟩
    · obtain rfl : j = n := by omega
      go_wp2_with fail
      go_ret
      exact ⟨-1, by rw [HF.out HK.out]; rfl, rfl, hg⟩
set_option maxRecDepth 100000 in
set_option maxHeartbeats 1000000 in
theorem Contains_c (q : OpR → Bool) (l : List OpR) (v : Value) (ob fb : Nat) (w : World) (hv : Ops w v l) (hp : ∀ (p : OpR) (w' : World), Grow w w' → Calls Try.prog 32 #[.agg #[.int .i64 p.id, .int .i64 p.proc, .int .i64 p.obj, .int .i64 p.kind, .int .i64 p.meth, .int .i64 p.arg, .int .i64 p.sec, .bool p.done, .int .i64 p.res, .int .i64 p.inv, .int .i64 p.ret], .pointer (some ⟨ob, 0, none⟩), .pointer (some ⟨fb, 0, none⟩)] w' fun e w'' => e = .returned (.bool (q p)) ∧ Grow w' w'') :
    Calls Try.prog 31 #[v, .func (.func 32) #[] #[.pointer (some ⟨ob, 0, none⟩), .pointer (some ⟨fb, 0, none⟩)]] w fun e w' => e = .returned (.bool (l.any q)) ∧ Grow w w' := by
  have h1 := hid (fun (_ : Unit) => IndexFunc_c q l v ob fb w hv hp)
  obtain ⟨p, cap, rfl, -⟩ := hv
  clear hp
  generalize l.any q = X at *
  generalize l.length = n at *
  go_enter Try.func31, Try.ntmps31
  go_wp2_with fail
  refine (h1.out ()).mono ?_
  rintro e w1 ⟨r, rfl, rfl, b1⟩
  go_wp2_with fail
  go_ret
  exact ⟨by simp, b1⟩
set_option maxRecDepth 100000 in
set_option maxHeartbeats 1000000 in
theorem others_kind (l : List OpR) (o : OpR) (v : Value) (lb ob : Nat) (w : World) (hv : Ops w v l) (hlb : w.cell? ⟨lb, 0, none⟩ = some v) (h : OpAt w ob 0 o) : Calls Try.prog 30 #[.func (.func 33) #[] #[.pointer (some ⟨ob, 0, none⟩)], .pointer (some ⟨lb, 0, none⟩), .pointer (some ⟨ob, 0, none⟩)] w fun e w' => e = .returned (.bool (l.any (kindB o))) ∧ Grow w w' := by
  have hlt := World.block_lt_of_cell? w _ hlb
  simp only at hlt
  have H1 := hid (show ∀ w1, Grow w w1 → w1.cell? ⟨w.heap.size, 0, none⟩ = some (.func (.func 33) #[] #[.pointer (some ⟨ob, 0, none⟩)]) → Calls Try.prog 31 #[v, .func (.func 32) #[] #[.pointer (some ⟨ob, 0, none⟩), .pointer (some ⟨w.heap.size, 0, none⟩)]] w1 fun e w' => e = .returned (.bool (l.any (kindB o))) ∧ Grow w1 w' from
    fun w1 g hf => Contains_c (kindB o) l v ob w.heap.size w1 (hv.grow g) (fun p w2 g2 => other_kind p o ob w.heap.size w2 ((h.grow g).grow g2) (g2.cell hf)))
  obtain ⟨p, cap, rfl, -⟩ := hv
  clear h
  generalize l.any (kindB o) = X at *
  generalize l.length = n at *
  go_enter Try.func30, Try.ntmps30
  go_wp2_with fail
  refine (H1.out _ (Grow.alloc _ _) (by go_simp)).mono ?_
  rintro e w1 ⟨rfl, b1⟩
  go_wp2_with fail
  go_ret
  exact ⟨rfl, Grow.trans (Grow.alloc _ _) b1⟩
set_option maxRecDepth 100000 in
set_option maxHeartbeats 1000000 in
theorem others_busy (l : List OpR) (o : OpR) (v : Value) (lb ob : Nat) (w : World) (hv : Ops w v l) (hlb : w.cell? ⟨lb, 0, none⟩ = some v) (h : OpAt w ob 0 o) : Calls Try.prog 30 #[.func (.func 34) #[] #[.pointer (some ⟨ob, 0, none⟩)], .pointer (some ⟨lb, 0, none⟩), .pointer (some ⟨ob, 0, none⟩)] w fun e w' => e = .returned (.bool (l.any (busyB o))) ∧ Grow w w' := by
  have hlt := World.block_lt_of_cell? w _ hlb
  simp only at hlt
  have H1 := hid (show ∀ w1, Grow w w1 → w1.cell? ⟨w.heap.size, 0, none⟩ = some (.func (.func 34) #[] #[.pointer (some ⟨ob, 0, none⟩)]) → Calls Try.prog 31 #[v, .func (.func 32) #[] #[.pointer (some ⟨ob, 0, none⟩), .pointer (some ⟨w.heap.size, 0, none⟩)]] w1 fun e w' => e = .returned (.bool (l.any (busyB o))) ∧ Grow w1 w' from
    fun w1 g hf => Contains_c (busyB o) l v ob w.heap.size w1 (hv.grow g) (fun p w2 g2 => other_busy p o ob w.heap.size w2 ((h.grow g).grow g2) (g2.cell hf)))
  obtain ⟨p, cap, rfl, -⟩ := hv
  clear h
  generalize l.any (busyB o) = X at *
  generalize l.length = n at *
  go_enter Try.func30, Try.ntmps30
  go_wp2_with fail
  refine (H1.out _ (Grow.alloc _ _) (by go_simp)).mono ?_
  rintro e w1 ⟨rfl, b1⟩
  go_wp2_with fail
  go_ret
  exact ⟨rfl, Grow.trans (Grow.alloc _ _) b1⟩
set_option maxRecDepth 100000 in
set_option maxHeartbeats 2000000 in
theorem beside_c (l : List OpR) (o : OpR) (v : Value) (w : World) (hv : Ops w v l) : Calls Try.prog 20 #[v, .agg #[.int .i64 o.id, .int .i64 o.proc, .int .i64 o.obj, .int .i64 o.kind, .int .i64 o.meth, .int .i64 o.arg, .int .i64 o.sec, .bool o.done, .int .i64 o.res, .int .i64 o.inv, .int .i64 o.ret]] w fun e w' => e = .returned (.int .i64 (besideE l o)) ∧ Grow w w' := by
  have H1 := hid (fun w1 (g : Grow w w1) hlb (h : OpAt w1 (w.heap.size + 1) 0 o) => others_kind l o v w.heap.size (w.heap.size + 1) w1 (hv.grow g) hlb h)
  have H2 := hid (fun w1 (g : Grow w w1) hlb (h : OpAt w1 (w.heap.size + 1) 0 o) => others_busy l o v w.heap.size (w.heap.size + 1) w1 (hv.grow g) hlb h)
  unfold besideE
  obtain ⟨p, cap, rfl, -⟩ := hv
  generalize l.any (kindB o) = X at *
  generalize l.any (busyB o) = Y at *
  generalize l.length = n at *
  obtain ⟨id, proc, obj, kind, meth, arg, sec, done, res, inv, ret⟩ := o
  unfold OpAt at H1 H2
  simp only [Nat.zero_add] at H1 H2
  cases X
  · cases Y
    all_goals
      go_enter Try.func20, Try.ntmps20
      go_wp2_with fail
      refine (H1.out _ (Grow.trans (Grow.alloc _ _) (Grow.alloc _ _)) (by go_simp) ⟨by go_simp, by go_simp, by go_simp, by go_simp, by go_simp, by go_simp, by go_simp, by go_simp, by go_simp, by go_simp, by go_simp⟩).mono ?_
      rintro e w1 ⟨rfl, b1⟩
      have k1 := b1.cells
      have z1 : w.heap.size + 1 < w1.heap.size := (by have := b1.size; simp at this; omega)
      have g1 := hid (Grow.trans (Grow.trans (Grow.alloc _ _) (Grow.alloc _ _)) b1)
      go_wp2_with fail
      refine (H2.out _ g1.out (by go_simp) ⟨by go_simp, by go_simp, by go_simp, by go_simp, by go_simp, by go_simp, by go_simp, by go_simp, by go_simp, by go_simp, by go_simp⟩).mono ?_
      rintro e w2 ⟨rfl, b2⟩
      go_wp2_with fail
      go_ret
      exact ⟨rfl, Grow.trans g1.out b2⟩
  · go_enter Try.func20, Try.ntmps20
    go_wp2_with fail
    refine (H1.out _ (Grow.trans (Grow.alloc _ _) (Grow.alloc _ _)) (by go_simp) ⟨by go_simp, by go_simp, by go_simp, by go_simp, by go_simp, by go_simp, by go_simp, by go_simp, by go_simp, by go_simp, by go_simp⟩).mono ?_
    rintro e w1 ⟨rfl, b1⟩
    go_wp2_with fail
    go_ret
    exact ⟨rfl, Grow.trans (Grow.trans (Grow.alloc _ _) (Grow.alloc _ _)) b1⟩
end Go.Proofs.Ytljimlaalebmaaa
