/- What a span meets: Meet, At and All, and the function that they give. -/
import Derived.Test.YthmbnffddpnehaaIYield
namespace Go.Proofs.Ythmbnffddpnehaa
open Go.RowKit
set_option linter.unusedVariables false
set_option linter.unusedSimpArgs false
set_option maxRecDepth 100000 in
theorem Meet_c (q : Option Addr) (f t : Int) (w : World) : Calls Try.prog 34 #[.pointer q, .int .i64 f, .int .i64 t] w fun e w' => e = .returned (.func (.func 41) #[] #[.pointer (some ⟨w.heap.size, 0, none⟩), .pointer (some ⟨w.heap.size + 1, 0, none⟩), .pointer (some ⟨w.heap.size + 2, 0, none⟩)]) ∧
    w' = ((w.alloc (.cells #[.pointer q] 23)).alloc (.cells #[.int .i64 f] 3)).alloc (.cells #[.int .i64 t] 3) := by
  go_enter Try.func34, Try.ntmps34
  go_wp2_with fail
  go_ret
  exact ⟨rfl, rfl⟩
/-- The three boxes that the function holds. -/
structure Boxes (w : World) (xb fb tb : Nat) (q : Option Addr) (f t : Int) : Prop where
  x : w.heap[xb]? = some (.cells #[.pointer q] 23 (0, 0))
  f : w.heap[fb]? = some (.cells #[.int .i64 f] 3 (0, 0))
  t : w.heap[tb]? = some (.cells #[.int .i64 t] 3 (0, 0))
theorem Boxes.grow {w w' : World} {xb fb tb : Nat} {q : Option Addr} {f t : Int} (h : Boxes w xb fb tb q f t) (g : Grow w w') : Boxes w' xb fb tb q f t := ⟨g.heap h.x, g.heap h.f, g.heap h.t⟩
theorem Boxes.made (w : World) (q : Option Addr) (f t : Int) : Boxes (((w.alloc (.cells #[.pointer q] 23)).alloc (.cells #[.int .i64 f] 3)).alloc (.cells #[.int .i64 t] 3)) w.heap.size (w.heap.size + 1) (w.heap.size + 2) q f t := by
  have z1 : (w.alloc (.cells #[.pointer q] 23)).heap.size = w.heap.size + 1 := by simp
  have z2 : ((w.alloc (.cells #[.pointer q] 23)).alloc (.cells #[.int .i64 f] 3)).heap.size = w.heap.size + 2 := by simp
  refine ⟨heap_alloc_keep (heap_alloc_keep (heap_new w _) _) _, heap_alloc_keep ?_ _, ?_⟩
  · have := heap_new (w.alloc (.cells #[.pointer q] 23)) (.cells #[.int .i64 f] 3)
    rw [z1] at this
    exact this
  · have := heap_new ((w.alloc (.cells #[.pointer q] 23)).alloc (.cells #[.int .i64 f] 3)) (.cells #[.int .i64 t] 3)
    rw [z2] at this
    exact this
set_option maxRecDepth 100000 in
set_option maxHeartbeats 2000000 in
theorem Meet1MNo_c {S : Type} (c0 : Nat) (c1 : Nat) (J : S → World → Prop) (q : Option Addr) (f t : Int) (xb fb tb : Nat) (s : S) (w : World) (hb : Boxes w xb fb tb q f t) (hJ : J s w) (hno : q = none ∨ (q ≠ none ∧ t < f)) :
    Calls Try.prog 41 #[.func (.func 35) #[] #[.pointer (some ⟨c0, 0, none⟩), .pointer (some ⟨c1, 0, none⟩)], .pointer (some ⟨xb, 0, none⟩), .pointer (some ⟨fb, 0, none⟩), .pointer (some ⟨tb, 0, none⟩)] w fun e w' => (∃ u, e = .returned u) ∧ J s w' := by
  have x0 : w.cell? ⟨xb, 0, none⟩ = some (.pointer q) := by rw [heap_cell hb.x]; rfl
  have f0 : w.cell? ⟨fb, 0, none⟩ = some (.int .i64 f) := by rw [heap_cell hb.f]; rfl
  have t0 : w.cell? ⟨tb, 0, none⟩ = some (.int .i64 t) := by rw [heap_cell hb.t]; rfl
  have hx := heap_lt hb.x
  have hf := heap_lt hb.f
  have ht := heap_lt hb.t
  have HJ := hid hJ
  clear hb hJ
  cases q with
  | none =>
    clear hno
    go_enter Try.func41, Try.ntmps41
    go_wp2_with fail
    first | go_end0 | ((try simp only [Exit.inBlock, Exit.then]); refine bodyPost_ret (results_none rfl _ _ _) rfl ?_)
    exact ⟨⟨_, rfl⟩, HJ.out⟩
  | some a =>
    have hlt : t < f := by rcases hno with h | h; cases h; exact h.2
    clear hno
    go_enter Try.func41, Try.ntmps41
    go_wp2_with fail
    first | go_end0 | ((try simp only [Exit.inBlock, Exit.then]); refine bodyPost_ret (results_none rfl _ _ _) rfl ?_)
    exact ⟨⟨_, rfl⟩, HJ.out⟩
set_option maxRecDepth 100000 in
set_option maxHeartbeats 2000000 in
theorem Meet1M_c {S : Type} (c0 : Nat) (c1 : Nat) (step : S → It → S × Bool) (go : S → Prop) (J : S → World → Prop) (p : Nat) (f t : Int) (xb fb tb : Nat) (T : Tr) (s : S) (w : World) (hb : Boxes w xb fb tb (some ⟨p, 0, none⟩) f t) (hp : w.cell? ⟨p, 0, none⟩ = some T.ptr) (hg : go s) (hJ : J s w) (hY : YieldM c0 c1 step go J T) (hft : f ≤ t) :
    Calls Try.prog 41 #[.func (.func 35) #[] #[.pointer (some ⟨c0, 0, none⟩), .pointer (some ⟨c1, 0, none⟩)], .pointer (some ⟨xb, 0, none⟩), .pointer (some ⟨fb, 0, none⟩), .pointer (some ⟨tb, 0, none⟩)] w fun e w' => (∃ u, e = .returned u) ∧ J (feed step s (Tr.walkT f t T)).1 w' := by
  have x0 : w.cell? ⟨xb, 0, none⟩ = some (.pointer (some ⟨p, 0, none⟩)) := by rw [heap_cell hb.x]; rfl
  have f0 : w.cell? ⟨fb, 0, none⟩ = some (.int .i64 f) := by rw [heap_cell hb.f]; rfl
  have t0 : w.cell? ⟨tb, 0, none⟩ = some (.int .i64 t) := by rw [heap_cell hb.t]; rfl
  have hx := heap_lt hb.x
  have hf := heap_lt hb.f
  have ht := heap_lt hb.t
  have hpl : p < w.heap.size := World.block_lt_of_cell? w _ hp
  have HW := hid (walkM_c c0 c1 step go J f t T s w.drew hY hg (hY.drew s w 1 hJ))
  unfold FeedPost at HW
  obtain ⟨u, hu⟩ := T.ptr_form
  rw [hu] at hp HW
  clear hb hJ hY hu
  go_enter Try.func41, Try.ntmps41
  go_wp2_with fail
  go_still_tail 7, (by kernel_rfl)
  go_wp2_with fail
  refine HW.out.mono ?_
  rintro e w2 ⟨rfl, j2⟩
  have J2 := hid j2
  clear j2 x0 f0 t0 hp
  go_wp2_with fail
  first | go_end0 | ((try simp only [Exit.inBlock, Exit.then]); refine bodyPost_ret (results_none rfl _ _ _) rfl ?_)
  exact ⟨⟨_, rfl⟩, J2.out⟩
set_option maxRecDepth 100000 in
set_option maxHeartbeats 2000000 in
theorem Meet1ANo_c {S : Type} (c0 : Nat) (c1 : Nat) (c2 : Nat) (J : S → World → Prop) (q : Option Addr) (f t : Int) (xb fb tb : Nat) (s : S) (w : World) (hb : Boxes w xb fb tb q f t) (hJ : J s w) (hno : q = none ∨ (q ≠ none ∧ t < f)) :
    Calls Try.prog 41 #[.func (.func 19) #[] #[.pointer (some ⟨c0, 0, none⟩), .pointer (some ⟨c1, 0, none⟩), .pointer (some ⟨c2, 0, none⟩)], .pointer (some ⟨xb, 0, none⟩), .pointer (some ⟨fb, 0, none⟩), .pointer (some ⟨tb, 0, none⟩)] w fun e w' => (∃ u, e = .returned u) ∧ J s w' := by
  have x0 : w.cell? ⟨xb, 0, none⟩ = some (.pointer q) := by rw [heap_cell hb.x]; rfl
  have f0 : w.cell? ⟨fb, 0, none⟩ = some (.int .i64 f) := by rw [heap_cell hb.f]; rfl
  have t0 : w.cell? ⟨tb, 0, none⟩ = some (.int .i64 t) := by rw [heap_cell hb.t]; rfl
  have hx := heap_lt hb.x
  have hf := heap_lt hb.f
  have ht := heap_lt hb.t
  have HJ := hid hJ
  clear hb hJ
  cases q with
  | none =>
    clear hno
    go_enter Try.func41, Try.ntmps41
    go_wp2_with fail
    first | go_end0 | ((try simp only [Exit.inBlock, Exit.then]); refine bodyPost_ret (results_none rfl _ _ _) rfl ?_)
    exact ⟨⟨_, rfl⟩, HJ.out⟩
  | some a =>
    have hlt : t < f := by rcases hno with h | h; cases h; exact h.2
    clear hno
    go_enter Try.func41, Try.ntmps41
    go_wp2_with fail
    first | go_end0 | ((try simp only [Exit.inBlock, Exit.then]); refine bodyPost_ret (results_none rfl _ _ _) rfl ?_)
    exact ⟨⟨_, rfl⟩, HJ.out⟩
set_option maxRecDepth 100000 in
set_option maxHeartbeats 2000000 in
theorem Meet1A_c {S : Type} (c0 : Nat) (c1 : Nat) (c2 : Nat) (step : S → It → S × Bool) (go : S → Prop) (J : S → World → Prop) (p : Nat) (f t : Int) (xb fb tb : Nat) (T : Tr) (s : S) (w : World) (hb : Boxes w xb fb tb (some ⟨p, 0, none⟩) f t) (hp : w.cell? ⟨p, 0, none⟩ = some T.ptr) (hg : go s) (hJ : J s w) (hY : YieldA c0 c1 c2 step go J T) (hft : f ≤ t) :
    Calls Try.prog 41 #[.func (.func 19) #[] #[.pointer (some ⟨c0, 0, none⟩), .pointer (some ⟨c1, 0, none⟩), .pointer (some ⟨c2, 0, none⟩)], .pointer (some ⟨xb, 0, none⟩), .pointer (some ⟨fb, 0, none⟩), .pointer (some ⟨tb, 0, none⟩)] w fun e w' => (∃ u, e = .returned u) ∧ J (feed step s (Tr.walkT f t T)).1 w' := by
  have x0 : w.cell? ⟨xb, 0, none⟩ = some (.pointer (some ⟨p, 0, none⟩)) := by rw [heap_cell hb.x]; rfl
  have f0 : w.cell? ⟨fb, 0, none⟩ = some (.int .i64 f) := by rw [heap_cell hb.f]; rfl
  have t0 : w.cell? ⟨tb, 0, none⟩ = some (.int .i64 t) := by rw [heap_cell hb.t]; rfl
  have hx := heap_lt hb.x
  have hf := heap_lt hb.f
  have ht := heap_lt hb.t
  have hpl : p < w.heap.size := World.block_lt_of_cell? w _ hp
  have HW := hid (walkA_c c0 c1 c2 step go J f t T s w.drew hY hg (hY.drew s w 1 hJ))
  unfold FeedPost at HW
  obtain ⟨u, hu⟩ := T.ptr_form
  rw [hu] at hp HW
  clear hb hJ hY hu
  go_enter Try.func41, Try.ntmps41
  go_wp2_with fail
  go_still_tail 7, (by kernel_rfl)
  go_wp2_with fail
  refine HW.out.mono ?_
  rintro e w2 ⟨rfl, j2⟩
  have J2 := hid j2
  clear j2 x0 f0 t0 hp
  go_wp2_with fail
  first | go_end0 | ((try simp only [Exit.inBlock, Exit.then]); refine bodyPost_ret (results_none rfl _ _ _) rfl ?_)
  exact ⟨⟨_, rfl⟩, J2.out⟩
set_option maxRecDepth 100000 in
set_option maxHeartbeats 2000000 in
theorem Meet1BNo_c {S : Type} (c0 : Nat) (J : S → World → Prop) (q : Option Addr) (f t : Int) (xb fb tb : Nat) (s : S) (w : World) (hb : Boxes w xb fb tb q f t) (hJ : J s w) (hno : q = none ∨ (q ≠ none ∧ t < f)) :
    Calls Try.prog 41 #[.func (.func 20) #[] #[.pointer (some ⟨c0, 0, none⟩)], .pointer (some ⟨xb, 0, none⟩), .pointer (some ⟨fb, 0, none⟩), .pointer (some ⟨tb, 0, none⟩)] w fun e w' => (∃ u, e = .returned u) ∧ J s w' := by
  have x0 : w.cell? ⟨xb, 0, none⟩ = some (.pointer q) := by rw [heap_cell hb.x]; rfl
  have f0 : w.cell? ⟨fb, 0, none⟩ = some (.int .i64 f) := by rw [heap_cell hb.f]; rfl
  have t0 : w.cell? ⟨tb, 0, none⟩ = some (.int .i64 t) := by rw [heap_cell hb.t]; rfl
  have hx := heap_lt hb.x
  have hf := heap_lt hb.f
  have ht := heap_lt hb.t
  have HJ := hid hJ
  clear hb hJ
  cases q with
  | none =>
    clear hno
    go_enter Try.func41, Try.ntmps41
    go_wp2_with fail
    first | go_end0 | ((try simp only [Exit.inBlock, Exit.then]); refine bodyPost_ret (results_none rfl _ _ _) rfl ?_)
    exact ⟨⟨_, rfl⟩, HJ.out⟩
  | some a =>
    have hlt : t < f := by rcases hno with h | h; cases h; exact h.2
    clear hno
    go_enter Try.func41, Try.ntmps41
    go_wp2_with fail
    first | go_end0 | ((try simp only [Exit.inBlock, Exit.then]); refine bodyPost_ret (results_none rfl _ _ _) rfl ?_)
    exact ⟨⟨_, rfl⟩, HJ.out⟩
set_option maxRecDepth 100000 in
set_option maxHeartbeats 2000000 in
theorem Meet1B_c {S : Type} (c0 : Nat) (step : S → It → S × Bool) (go : S → Prop) (J : S → World → Prop) (p : Nat) (f t : Int) (xb fb tb : Nat) (T : Tr) (s : S) (w : World) (hb : Boxes w xb fb tb (some ⟨p, 0, none⟩) f t) (hp : w.cell? ⟨p, 0, none⟩ = some T.ptr) (hg : go s) (hJ : J s w) (hY : YieldB c0 step go J T) (hft : f ≤ t) :
    Calls Try.prog 41 #[.func (.func 20) #[] #[.pointer (some ⟨c0, 0, none⟩)], .pointer (some ⟨xb, 0, none⟩), .pointer (some ⟨fb, 0, none⟩), .pointer (some ⟨tb, 0, none⟩)] w fun e w' => (∃ u, e = .returned u) ∧ J (feed step s (Tr.walkT f t T)).1 w' := by
  have x0 : w.cell? ⟨xb, 0, none⟩ = some (.pointer (some ⟨p, 0, none⟩)) := by rw [heap_cell hb.x]; rfl
  have f0 : w.cell? ⟨fb, 0, none⟩ = some (.int .i64 f) := by rw [heap_cell hb.f]; rfl
  have t0 : w.cell? ⟨tb, 0, none⟩ = some (.int .i64 t) := by rw [heap_cell hb.t]; rfl
  have hx := heap_lt hb.x
  have hf := heap_lt hb.f
  have ht := heap_lt hb.t
  have hpl : p < w.heap.size := World.block_lt_of_cell? w _ hp
  have HW := hid (walkB_c c0 step go J f t T s w.drew hY hg (hY.drew s w 1 hJ))
  unfold FeedPost at HW
  obtain ⟨u, hu⟩ := T.ptr_form
  rw [hu] at hp HW
  clear hb hJ hY hu
  go_enter Try.func41, Try.ntmps41
  go_wp2_with fail
  go_still_tail 7, (by kernel_rfl)
  go_wp2_with fail
  refine HW.out.mono ?_
  rintro e w2 ⟨rfl, j2⟩
  have J2 := hid j2
  clear j2 x0 f0 t0 hp
  go_wp2_with fail
  first | go_end0 | ((try simp only [Exit.inBlock, Exit.then]); refine bodyPost_ret (results_none rfl _ _ _) rfl ?_)
  exact ⟨⟨_, rfl⟩, J2.out⟩
set_option maxRecDepth 100000 in
set_option maxHeartbeats 2000000 in
/-- The function that Meet gives, called by a range. -/
theorem Meet1Y_in (l N n : Nat) (p : Nat) (f t : Int) (xb fb tb : Nat) (T : Tr) (J Jx : List It → World → Prop) (hJd : ∀ pre W, J pre W → J pre W.drew)
    (hY : ∀ m pre x W, J pre W → pre.length < N → YieldAt Fence.wide m Try.prog l (yieldArgs x) W fun e W' => (e = .returned (.bool true) ∧ J (pre ++ [x]) W' ∧ KeepN W W') ∨ (e = .returned (.bool false) ∧ Jx (pre ++ [x]) W'))
    (W : World) (hb : Boxes W xb fb tb (some ⟨p, 0, none⟩) f t) (hp : W.cell? ⟨p, 0, none⟩ = some T.ptr) (hT : T.In W) (hft : f ≤ t) (hJ : J [] W) (hN : (Tr.walkT f t T).length ≤ N) :
    CallsIn Fence.wide n Try.prog 41 #[.func (.yield l) #[] #[], .pointer (some ⟨xb, 0, none⟩), .pointer (some ⟨fb, 0, none⟩), .pointer (some ⟨tb, 0, none⟩)] W fun e W' => (∃ u, e = .returned u) ∧
      ((∃ ys, ys = Tr.walkT f t T ∧ J ys W') ∨ (∃ pre, pre <+: Tr.walkT f t T ∧ Jx pre W')) := by
  have x0 : W.cell? ⟨xb, 0, none⟩ = some (.pointer (some ⟨p, 0, none⟩)) := by rw [heap_cell hb.x]; rfl
  have f0 : W.cell? ⟨fb, 0, none⟩ = some (.int .i64 f) := by rw [heap_cell hb.f]; rfl
  have t0 : W.cell? ⟨tb, 0, none⟩ = some (.int .i64 t) := by rw [heap_cell hb.t]; rfl
  have hx := heap_lt hb.x
  have hf := heap_lt hb.f
  have ht := heap_lt hb.t
  have hpl : p < W.heap.size := World.block_lt_of_cell? W _ hp
  have HW := hid (walkY_in l N f t J Jx hJd hY T (n - 1) [] W.drew hT.drew (hJd _ _ hJ) (by simpa using hN))
  unfold WalkPost at HW
  obtain ⟨u, hu⟩ := T.ptr_form
  rw [hu] at hp HW
  clear hb hJ hY hu hT hN
  refine callsIn_of_wp Try.func41 rfl trivial ?_ rfl
  simp only [Try.ntmps41, List.size_toArray, List.length_cons, List.length_nil, Nat.reduceAdd, Nat.reduceSub, Array.replicate_succ, Array.replicate_zero, List.push_toArray, List.append_toArray, List.nil_append, List.cons_append]
  gi_wp2
  refine wpIn_region_still_tail 7 (by kernel_rfl) (by kernel_rfl) ?_
  simp only [List.take_succ_cons, List.take_zero, List.drop_succ_cons, List.drop_zero]
  repeat still_step
  (try refine wpStill_nil ?_)
  gi_wp2
  refine ⟨trivial, fun h => (by cases h), HW.out.mono ?_⟩
  rintro e W3 (⟨rfl, j3, -⟩ | ⟨rfl, q, hq, jx⟩)
  · have J3 := hid j3
    clear j3
    gi_wp2
    go_end0
    exact ⟨⟨_, rfl⟩, .inl ⟨_, rfl, by simpa using J3.out⟩⟩
  · have J3 := hid (And.intro hq jx)
    clear hq jx
    gi_wp2
    go_end0
    exact ⟨⟨_, rfl⟩, .inr ⟨q, J3.out.1, by simpa using J3.out.2⟩⟩
end Go.Proofs.Ythmbnffddpnehaa
