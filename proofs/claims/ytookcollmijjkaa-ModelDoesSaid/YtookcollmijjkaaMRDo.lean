/- What the reference's Do computes. -/
import Derived.Test.YtookcollmijjkaaMRNumber
import Derived.Test.YtookcollmijjkaaMRWith
namespace Go.Proofs.Ytookcollmijjkaa
open Go.RowKit
set_option linter.unusedVariables false
set_option linter.unusedSimpArgs false
/-- What a later world says of the two blocks that the function makes first. -/
structure Own2 (w wy : World) (proc arg : Int) : Prop where
  grow : Grow w wy
  lt : w.heap.size + 1 < wy.heap.size
  blk : wy.heap[w.heap.size + 1]? = some (.cells #[.slice none 0 0, .int .i64 0, .bool false] 30 (0, 0))
  c1 : wy.cell? ⟨w.heap.size, 1, none⟩ = some (.int .i64 proc)
  c5 : wy.cell? ⟨w.heap.size, 5, none⟩ = some (.int .i64 arg)
theorem Own2.mk' {w wy : World} {id proc obj kind meth arg sec res inv ret : Int} {done : Bool} (h : Grow ((w.alloc (.cells #[.int .i64 id, .int .i64 proc, .int .i64 obj, .int .i64 kind, .int .i64 meth, .int .i64 arg, .int .i64 sec, .bool done, .int .i64 res, .int .i64 inv, .int .i64 ret] 27)).alloc (.cells #[.slice none 0 0, .int .i64 0, .bool false] 30)) wy) : Own2 w wy proc arg where
  grow := Grow.trans (Grow.trans (Grow.alloc w _) (Grow.alloc _ _)) h
  lt := by have := h.size; simp at this; omega
  blk := h.heap (heap_newAt (g := w.heap.size + 1) _ _ (by simp))
  c1 := by rw [heap_cell (h.heap (heap_alloc_keep (heap_new w _) _))]; rfl
  c5 := by rw [heap_cell (h.heap (heap_alloc_keep (heap_new w _) _))]; rfl
theorem Own2.next {w a b : World} {proc arg : Int} (h : Own2 w a proc arg) (g : Grow a b) : Own2 w b proc arg where
  grow := Grow.trans h.grow g
  lt := Nat.lt_of_lt_of_le h.lt g.size
  blk := g.heap h.blk
  c1 := g.cell h.c1
  c5 := g.cell h.c5
theorem Own2.d0 {w a : World} {proc arg : Int} (h : Own2 w a proc arg) : a.cell? ⟨w.heap.size + 1, 0, none⟩ = some (.slice none 0 0) := by rw [heap_cell h.blk]; rfl
theorem Own2.d1 {w a : World} {proc arg : Int} (h : Own2 w a proc arg) : a.cell? ⟨w.heap.size + 1, 1, none⟩ = some (.int .i64 0) := by rw [heap_cell h.blk]; rfl
theorem Own2.d2 {w a : World} {proc arg : Int} (h : Own2 w a proc arg) : a.cell? ⟨w.heap.size + 1, 2, none⟩ = some (.bool false) := by rw [heap_cell h.blk]; rfl
theorem Own2.f0 {w a : World} {proc arg : Int} (h : Own2 w a proc arg) : a.frozen? ⟨w.heap.size + 1, 0, none⟩ = false := heap_frozen h.blk 0 (by omega)
theorem Own2.f1 {w a : World} {proc arg : Int} (h : Own2 w a proc arg) : a.frozen? ⟨w.heap.size + 1, 1, none⟩ = false := heap_frozen h.blk 1 (by omega)
theorem Own2.f2 {w a : World} {proc arg : Int} (h : Own2 w a proc arg) : a.frozen? ⟨w.heap.size + 1, 2, none⟩ = false := heap_frozen h.blk 2 (by omega)
theorem Own2.new {w a b : World} {proc arg : Int} (h : Own2 w a proc arg) (g : Grow a b) (v n t : Value) : Grow w (((b.setCell ⟨w.heap.size + 1, 0, none⟩ v).setCell ⟨w.heap.size + 1, 1, none⟩ n).setCell ⟨w.heap.size + 1, 2, none⟩ t) := done3_grow (Grow.trans h.grow g) (by omega) v n t
set_option maxRecDepth 100000 in
set_option maxHeartbeats 4000000 in
theorem RDo_x (id proc obj kind meth arg sec : Int) (done : Bool) (res inv ret : Int) (v : Value) (w : World) (k1 : (kind == 1) = false) (k2 : (kind == 2) = false) (k3 : (kind == 3) = false) (k4 : (kind == 4) = false) (k5 : (kind == 5) = false) (k6 : (kind == 6) = false) (k7 : (kind != 5) = true) :
    Calls Try.prog 12 #[v, .agg #[.int .i64 id, .int .i64 proc, .int .i64 obj, .int .i64 kind, .int .i64 meth, .int .i64 arg, .int .i64 sec, .bool done, .int .i64 res, .int .i64 inv, .int .i64 ret]] w (DonePost ([], 0, false) w) := by
  have HYF := hid (fun nq => Own2.mk' (Grow.drewNM (Grow.refl ((w.alloc (.cells #[.int .i64 id, .int .i64 proc, .int .i64 obj, .int .i64 kind, .int .i64 meth, .int .i64 arg, .int .i64 sec, .bool done, .int .i64 res, .int .i64 inv, .int .i64 ret] 27)).alloc (.cells #[.slice none 0 0, .int .i64 0, .bool false] 30))) nq))
  go_enter Try.func12, Try.ntmps12
  go_wp2_with fail
  go_quiet (fail)
  have HY := hid (HYF.out nq)
  generalize ((w.alloc (.cells #[.int .i64 id, .int .i64 proc, .int .i64 obj, .int .i64 kind, .int .i64 meth, .int .i64 arg, .int .i64 sec, .bool done, .int .i64 res, .int .i64 inv, .int .i64 ret] 27)).alloc (.cells #[.slice none 0 0, .int .i64 0, .bool false] 30)).drewN nq = wy at *
  clear HYF
  have d0 := HY.out.d0
  have d1 := HY.out.d1
  have d2 := HY.out.d2
  have f0 := HY.out.f0
  have f1 := HY.out.f1
  have f2 := HY.out.f2
  have c1 := HY.out.c1
  have c5 := HY.out.c5
  have hlt := HY.out.lt
  have h01 : w.heap.size + 1 ≠ w.heap.size := by omega
  go_wp2_with fail
  go_quiet (fail)
  go_wp2_with fail
  (try simp only [Exit.inBlock, Exit.then])
  refine done_ret (fn := Try.f12) (p := 4) (g := w.heap.size + 1) (e := 30) (fr := (0, 0)) (v := (.slice none 0 0)) (n := 0) (b := false) rfl rfl Try.underlying30 rfl (by kernel_rfl) rfl ?hg ?hP
  case hg => with_reducible exact done3 (HY.out.next (Grow.drewNM (Grow.refl wy) _)).blk _ _ _
  case hP => exact DonePost.intro rfl rfl (Ints.nil _) ((HY.out.next (Grow.drewNM (Grow.refl wy) _)).new (Grow.refl _) _ _ _)
set_option maxRecDepth 100000 in
set_option maxHeartbeats 4000000 in
theorem RDo_q (id proc obj meth arg sec : Int) (done : Bool) (res inv ret : Int) (v : Value) (w : World) (m1 : (meth == 6) = false) (m2 : (meth == 7) = false) :
    Calls Try.prog 12 #[v, .agg #[.int .i64 id, .int .i64 proc, .int .i64 obj, .int .i64 3, .int .i64 meth, .int .i64 arg, .int .i64 sec, .bool done, .int .i64 res, .int .i64 inv, .int .i64 ret]] w (DonePost ([], 0, false) w) := by
  have HYF := hid (fun nq => Own2.mk' (Grow.drewNM (Grow.refl ((w.alloc (.cells #[.int .i64 id, .int .i64 proc, .int .i64 obj, .int .i64 3, .int .i64 meth, .int .i64 arg, .int .i64 sec, .bool done, .int .i64 res, .int .i64 inv, .int .i64 ret] 27)).alloc (.cells #[.slice none 0 0, .int .i64 0, .bool false] 30))) nq))
  go_enter Try.func12, Try.ntmps12
  go_wp2_with fail
  go_quiet (fail)
  have HY := hid (HYF.out nq)
  generalize ((w.alloc (.cells #[.int .i64 id, .int .i64 proc, .int .i64 obj, .int .i64 3, .int .i64 meth, .int .i64 arg, .int .i64 sec, .bool done, .int .i64 res, .int .i64 inv, .int .i64 ret] 27)).alloc (.cells #[.slice none 0 0, .int .i64 0, .bool false] 30)).drewN nq = wy at *
  clear HYF
  have d0 := HY.out.d0
  have d1 := HY.out.d1
  have d2 := HY.out.d2
  have f0 := HY.out.f0
  have f1 := HY.out.f1
  have f2 := HY.out.f2
  have c1 := HY.out.c1
  have c5 := HY.out.c5
  have hlt := HY.out.lt
  have h01 : w.heap.size + 1 ≠ w.heap.size := by omega
  go_wp2_with fail
  go_quiet (fail)
  go_wp2_with fail
  (try simp only [Exit.inBlock, Exit.then])
  refine done_ret (fn := Try.f12) (p := 4) (g := w.heap.size + 1) (e := 30) (fr := (0, 0)) (v := (.slice none 0 0)) (n := 0) (b := false) rfl rfl Try.underlying30 rfl (by kernel_rfl) rfl ?hg ?hP
  case hg => with_reducible exact done3 (HY.out.next (Grow.drewNM (Grow.refl wy) _)).blk _ _ _
  case hP => exact DonePost.intro rfl rfl (Ints.nil _) ((HY.out.next (Grow.drewNM (Grow.refl wy) _)).new (Grow.refl _) _ _ _)
set_option maxRecDepth 100000 in
set_option maxHeartbeats 4000000 in
theorem RDo_s (id proc obj meth arg sec : Int) (done : Bool) (res inv ret : Int) (v : Value) (w : World) (m1 : (meth == 8) = false) (m2 : (meth == 9) = false) :
    Calls Try.prog 12 #[v, .agg #[.int .i64 id, .int .i64 proc, .int .i64 obj, .int .i64 4, .int .i64 meth, .int .i64 arg, .int .i64 sec, .bool done, .int .i64 res, .int .i64 inv, .int .i64 ret]] w (DonePost ([], 0, false) w) := by
  have HYF := hid (fun nq => Own2.mk' (Grow.drewNM (Grow.refl ((w.alloc (.cells #[.int .i64 id, .int .i64 proc, .int .i64 obj, .int .i64 4, .int .i64 meth, .int .i64 arg, .int .i64 sec, .bool done, .int .i64 res, .int .i64 inv, .int .i64 ret] 27)).alloc (.cells #[.slice none 0 0, .int .i64 0, .bool false] 30))) nq))
  go_enter Try.func12, Try.ntmps12
  go_wp2_with fail
  go_quiet (fail)
  have HY := hid (HYF.out nq)
  generalize ((w.alloc (.cells #[.int .i64 id, .int .i64 proc, .int .i64 obj, .int .i64 4, .int .i64 meth, .int .i64 arg, .int .i64 sec, .bool done, .int .i64 res, .int .i64 inv, .int .i64 ret] 27)).alloc (.cells #[.slice none 0 0, .int .i64 0, .bool false] 30)).drewN nq = wy at *
  clear HYF
  have d0 := HY.out.d0
  have d1 := HY.out.d1
  have d2 := HY.out.d2
  have f0 := HY.out.f0
  have f1 := HY.out.f1
  have f2 := HY.out.f2
  have c1 := HY.out.c1
  have c5 := HY.out.c5
  have hlt := HY.out.lt
  have h01 : w.heap.size + 1 ≠ w.heap.size := by omega
  go_wp2_with fail
  go_quiet (fail)
  go_wp2_with fail
  (try simp only [Exit.inBlock, Exit.then])
  refine done_ret (fn := Try.f12) (p := 4) (g := w.heap.size + 1) (e := 30) (fr := (0, 0)) (v := (.slice none 0 0)) (n := 0) (b := false) rfl rfl Try.underlying30 rfl (by kernel_rfl) rfl ?hg ?hP
  case hg => with_reducible exact done3 (HY.out.next (Grow.drewNM (Grow.refl wy) _)).blk _ _ _
  case hP => exact DonePost.intro rfl rfl (Ints.nil _) ((HY.out.next (Grow.drewNM (Grow.refl wy) _)).new (Grow.refl _) _ _ _)
set_option maxRecDepth 100000 in
set_option maxHeartbeats 4000000 in
theorem RDo_qe (id proc obj arg sec : Int) (done : Bool) (res inv ret : Int) (cap : Nat) (p : Option Addr) (w : World) :
    Calls Try.prog 12 #[.slice p 0 cap, .agg #[.int .i64 id, .int .i64 proc, .int .i64 obj, .int .i64 3, .int .i64 7, .int .i64 arg, .int .i64 sec, .bool done, .int .i64 res, .int .i64 inv, .int .i64 ret]] w (DonePost ([], -1, true) w) := by
  have HYF := hid (fun nq => Own2.mk' (Grow.drewNM (Grow.refl ((w.alloc (.cells #[.int .i64 id, .int .i64 proc, .int .i64 obj, .int .i64 3, .int .i64 7, .int .i64 arg, .int .i64 sec, .bool done, .int .i64 res, .int .i64 inv, .int .i64 ret] 27)).alloc (.cells #[.slice none 0 0, .int .i64 0, .bool false] 30))) nq))
  go_enter Try.func12, Try.ntmps12
  go_wp2_with fail
  go_quiet (fail)
  have HY := hid (HYF.out nq)
  generalize ((w.alloc (.cells #[.int .i64 id, .int .i64 proc, .int .i64 obj, .int .i64 3, .int .i64 7, .int .i64 arg, .int .i64 sec, .bool done, .int .i64 res, .int .i64 inv, .int .i64 ret] 27)).alloc (.cells #[.slice none 0 0, .int .i64 0, .bool false] 30)).drewN nq = wy at *
  clear HYF
  have d0 := HY.out.d0
  have d1 := HY.out.d1
  have d2 := HY.out.d2
  have f0 := HY.out.f0
  have f1 := HY.out.f1
  have f2 := HY.out.f2
  have c1 := HY.out.c1
  have c5 := HY.out.c5
  have hlt := HY.out.lt
  have h01 : w.heap.size + 1 ≠ w.heap.size := by omega
  go_wp2_with fail
  (try simp only [Exit.inBlock, Exit.then])
  refine done_ret (fn := Try.f12) (p := 4) (g := w.heap.size + 1) (e := 30) (fr := (0, 0)) (v := (.slice none 0 0)) (n := -1) (b := true) rfl rfl Try.underlying30 rfl (by kernel_rfl) rfl ?hg ?hP
  case hg => with_reducible exact done3 HY.out.blk _ _ _
  case hP => exact DonePost.intro rfl rfl (Ints.nil _) (HY.out.new (Grow.refl _) _ _ _)
set_option maxRecDepth 100000 in
set_option maxHeartbeats 4000000 in
theorem RDo_se (id proc obj arg sec : Int) (done : Bool) (res inv ret : Int) (cap : Nat) (p : Option Addr) (w : World) :
    Calls Try.prog 12 #[.slice p 0 cap, .agg #[.int .i64 id, .int .i64 proc, .int .i64 obj, .int .i64 4, .int .i64 9, .int .i64 arg, .int .i64 sec, .bool done, .int .i64 res, .int .i64 inv, .int .i64 ret]] w (DonePost ([], -1, true) w) := by
  have HYF := hid (fun nq => Own2.mk' (Grow.drewNM (Grow.refl ((w.alloc (.cells #[.int .i64 id, .int .i64 proc, .int .i64 obj, .int .i64 4, .int .i64 9, .int .i64 arg, .int .i64 sec, .bool done, .int .i64 res, .int .i64 inv, .int .i64 ret] 27)).alloc (.cells #[.slice none 0 0, .int .i64 0, .bool false] 30))) nq))
  go_enter Try.func12, Try.ntmps12
  go_wp2_with fail
  go_quiet (fail)
  have HY := hid (HYF.out nq)
  generalize ((w.alloc (.cells #[.int .i64 id, .int .i64 proc, .int .i64 obj, .int .i64 4, .int .i64 9, .int .i64 arg, .int .i64 sec, .bool done, .int .i64 res, .int .i64 inv, .int .i64 ret] 27)).alloc (.cells #[.slice none 0 0, .int .i64 0, .bool false] 30)).drewN nq = wy at *
  clear HYF
  have d0 := HY.out.d0
  have d1 := HY.out.d1
  have d2 := HY.out.d2
  have f0 := HY.out.f0
  have f1 := HY.out.f1
  have f2 := HY.out.f2
  have c1 := HY.out.c1
  have c5 := HY.out.c5
  have hlt := HY.out.lt
  have h01 : w.heap.size + 1 ≠ w.heap.size := by omega
  go_wp2_with fail
  (try simp only [Exit.inBlock, Exit.then])
  refine done_ret (fn := Try.f12) (p := 4) (g := w.heap.size + 1) (e := 30) (fr := (0, 0)) (v := (.slice none 0 0)) (n := -1) (b := true) rfl rfl Try.underlying30 rfl (by kernel_rfl) rfl ?hg ?hP
  case hg => with_reducible exact done3 HY.out.blk _ _ _
  case hP => exact DonePost.intro rfl rfl (Ints.nil _) (HY.out.new (Grow.refl _) _ _ _)
set_option maxRecDepth 100000 in
set_option maxHeartbeats 4000000 in
theorem RDo_l0 (id proc obj arg sec : Int) (done : Bool) (res inv ret : Int) (cap : Nat) (p : Option Addr) (w : World) :
    Calls Try.prog 12 #[.slice p 0 cap, .agg #[.int .i64 id, .int .i64 proc, .int .i64 obj, .int .i64 6, .int .i64 13, .int .i64 arg, .int .i64 sec, .bool done, .int .i64 res, .int .i64 inv, .int .i64 ret]] w (DonePost ([proc], 0, true) w) := by
  have HYF := hid (fun nq => Own2.mk' (Grow.drewNM (Grow.refl ((w.alloc (.cells #[.int .i64 id, .int .i64 proc, .int .i64 obj, .int .i64 6, .int .i64 13, .int .i64 arg, .int .i64 sec, .bool done, .int .i64 res, .int .i64 inv, .int .i64 ret] 27)).alloc (.cells #[.slice none 0 0, .int .i64 0, .bool false] 30))) nq))
  go_enter Try.func12, Try.ntmps12
  go_wp2_with fail
  go_quiet (fail)
  have HY := hid (HYF.out nq)
  generalize ((w.alloc (.cells #[.int .i64 id, .int .i64 proc, .int .i64 obj, .int .i64 6, .int .i64 13, .int .i64 arg, .int .i64 sec, .bool done, .int .i64 res, .int .i64 inv, .int .i64 ret] 27)).alloc (.cells #[.slice none 0 0, .int .i64 0, .bool false] 30)).drewN nq = wy at *
  clear HYF
  have d0 := HY.out.d0
  have d1 := HY.out.d1
  have d2 := HY.out.d2
  have f0 := HY.out.f0
  have f1 := HY.out.f1
  have f2 := HY.out.f2
  have c1 := HY.out.c1
  have c5 := HY.out.c5
  have hlt := HY.out.lt
  have h01 : w.heap.size + 1 ≠ w.heap.size := by omega
  go_wp2_with fail
  (try simp only [Exit.inBlock, Exit.then])
  refine done_ret (fn := Try.f12) (p := 4) (g := w.heap.size + 1) (e := 30) (fr := (0, 0)) (v := (.slice (some ⟨wy.heap.size, 0, none⟩) 1 1)) (n := 0) (b := true) rfl rfl Try.underlying30 rfl (by kernel_rfl) rfl ?hg ?hP
  case hg => with_reducible exact (Grow.alloc _ _).heap (done3 HY.out.blk _ _ _)
  case hP => exact DonePost.intro rfl rfl (Ints.one (heap_newAt _ _ (done3_size rfl _ _ _))) (Grow.trans (HY.out.new (Grow.refl _) _ _ _) (Grow.alloc _ _))
set_option maxRecDepth 100000 in
set_option maxHeartbeats 4000000 in
theorem RDo_l1 (id proc obj arg sec : Int) (done : Bool) (res inv ret : Int) (p : Option Addr) (n cap : Nat) (w : World) (hn : ((n : Int) == 0) = false) :
    Calls Try.prog 12 #[.slice p n cap, .agg #[.int .i64 id, .int .i64 proc, .int .i64 obj, .int .i64 6, .int .i64 13, .int .i64 arg, .int .i64 sec, .bool done, .int .i64 res, .int .i64 inv, .int .i64 ret]] w (DonePost ([], 0, false) w) := by
  have HYF := hid (fun nq => Own2.mk' (Grow.drewNM (Grow.refl ((w.alloc (.cells #[.int .i64 id, .int .i64 proc, .int .i64 obj, .int .i64 6, .int .i64 13, .int .i64 arg, .int .i64 sec, .bool done, .int .i64 res, .int .i64 inv, .int .i64 ret] 27)).alloc (.cells #[.slice none 0 0, .int .i64 0, .bool false] 30))) nq))
  go_enter Try.func12, Try.ntmps12
  go_wp2_with fail
  go_quiet (fail)
  have HY := hid (HYF.out nq)
  generalize ((w.alloc (.cells #[.int .i64 id, .int .i64 proc, .int .i64 obj, .int .i64 6, .int .i64 13, .int .i64 arg, .int .i64 sec, .bool done, .int .i64 res, .int .i64 inv, .int .i64 ret] 27)).alloc (.cells #[.slice none 0 0, .int .i64 0, .bool false] 30)).drewN nq = wy at *
  clear HYF
  have d0 := HY.out.d0
  have d1 := HY.out.d1
  have d2 := HY.out.d2
  have f0 := HY.out.f0
  have f1 := HY.out.f1
  have f2 := HY.out.f2
  have c1 := HY.out.c1
  have c5 := HY.out.c5
  have hlt := HY.out.lt
  have h01 : w.heap.size + 1 ≠ w.heap.size := by omega
  go_wp2_with fail
  go_quiet (fail)
  go_wp2_with fail
  (try simp only [Exit.inBlock, Exit.then])
  refine done_ret (fn := Try.f12) (p := 4) (g := w.heap.size + 1) (e := 30) (fr := (0, 0)) (v := (.slice none 0 0)) (n := 0) (b := false) rfl rfl Try.underlying30 rfl (by kernel_rfl) rfl ?hg ?hP
  case hg => with_reducible exact done3 (HY.out.next (Grow.drewNM (Grow.refl wy) _)).blk _ _ _
  case hP => exact DonePost.intro rfl rfl (Ints.nil _) ((HY.out.next (Grow.drewNM (Grow.refl wy) _)).new (Grow.refl _) _ _ _)
set_option maxRecDepth 100000 in
set_option maxHeartbeats 4000000 in
theorem RDo_u0 (id proc obj arg sec : Int) (done : Bool) (res inv ret : Int) (p : Option Addr) (n cap : Nat) (w : World) (hn : ((n : Int) == 1) = false) :
    Calls Try.prog 12 #[.slice p n cap, .agg #[.int .i64 id, .int .i64 proc, .int .i64 obj, .int .i64 6, .int .i64 14, .int .i64 arg, .int .i64 sec, .bool done, .int .i64 res, .int .i64 inv, .int .i64 ret]] w (DonePost ([], 0, false) w) := by
  have HYF := hid (fun nq => Own2.mk' (Grow.drewNM (Grow.refl ((w.alloc (.cells #[.int .i64 id, .int .i64 proc, .int .i64 obj, .int .i64 6, .int .i64 14, .int .i64 arg, .int .i64 sec, .bool done, .int .i64 res, .int .i64 inv, .int .i64 ret] 27)).alloc (.cells #[.slice none 0 0, .int .i64 0, .bool false] 30))) nq))
  go_enter Try.func12, Try.ntmps12
  go_wp2_with fail
  go_quiet (fail)
  have HY := hid (HYF.out nq)
  generalize ((w.alloc (.cells #[.int .i64 id, .int .i64 proc, .int .i64 obj, .int .i64 6, .int .i64 14, .int .i64 arg, .int .i64 sec, .bool done, .int .i64 res, .int .i64 inv, .int .i64 ret] 27)).alloc (.cells #[.slice none 0 0, .int .i64 0, .bool false] 30)).drewN nq = wy at *
  clear HYF
  have d0 := HY.out.d0
  have d1 := HY.out.d1
  have d2 := HY.out.d2
  have f0 := HY.out.f0
  have f1 := HY.out.f1
  have f2 := HY.out.f2
  have c1 := HY.out.c1
  have c5 := HY.out.c5
  have hlt := HY.out.lt
  have h01 : w.heap.size + 1 ≠ w.heap.size := by omega
  go_wp2_with fail
  go_quiet (fail)
  go_wp2_with fail
  (try simp only [Exit.inBlock, Exit.then])
  refine done_ret (fn := Try.f12) (p := 4) (g := w.heap.size + 1) (e := 30) (fr := (0, 0)) (v := (.slice none 0 0)) (n := 0) (b := false) rfl rfl Try.underlying30 rfl (by kernel_rfl) rfl ?hg ?hP
  case hg => with_reducible exact done3 (HY.out.next (Grow.drewNM (Grow.refl wy) _)).blk _ _ _
  case hP => exact DonePost.intro rfl rfl (Ints.nil _) ((HY.out.next (Grow.drewNM (Grow.refl wy) _)).new (Grow.refl _) _ _ _)
set_option maxRecDepth 100000 in
set_option maxHeartbeats 4000000 in
theorem RDo_u1 (id proc obj arg sec : Int) (done : Bool) (res inv ret : Int) (x : Int) (b off cap : Nat) (w : World) (hc0 : w.cell? ⟨b, off, none⟩ = some (.int .i64 x)) (hx : (x == proc) = true) :
    Calls Try.prog 12 #[.slice (some ⟨b, off, none⟩) 1 cap, .agg #[.int .i64 id, .int .i64 proc, .int .i64 obj, .int .i64 6, .int .i64 14, .int .i64 arg, .int .i64 sec, .bool done, .int .i64 res, .int .i64 inv, .int .i64 ret]] w (DonePost ([], 0, true) w) := by
  have HC0 := hid hc0
  have hblt := World.block_lt_of_cell? w _ hc0
  simp only at hblt
  clear hc0
  have HYF := hid (fun nq => Own2.mk' (Grow.drewNM (Grow.refl ((w.alloc (.cells #[.int .i64 id, .int .i64 proc, .int .i64 obj, .int .i64 6, .int .i64 14, .int .i64 arg, .int .i64 sec, .bool done, .int .i64 res, .int .i64 inv, .int .i64 ret] 27)).alloc (.cells #[.slice none 0 0, .int .i64 0, .bool false] 30))) nq))
  go_enter Try.func12, Try.ntmps12
  go_wp2_with fail
  go_quiet (fail)
  have HY := hid (HYF.out nq)
  generalize ((w.alloc (.cells #[.int .i64 id, .int .i64 proc, .int .i64 obj, .int .i64 6, .int .i64 14, .int .i64 arg, .int .i64 sec, .bool done, .int .i64 res, .int .i64 inv, .int .i64 ret] 27)).alloc (.cells #[.slice none 0 0, .int .i64 0, .bool false] 30)).drewN nq = wy at *
  clear HYF
  have d0 := HY.out.d0
  have d1 := HY.out.d1
  have d2 := HY.out.d2
  have f0 := HY.out.f0
  have f1 := HY.out.f1
  have f2 := HY.out.f2
  have c1 := HY.out.c1
  have c5 := HY.out.c5
  have hlt := HY.out.lt
  have hc0 := HY.out.grow.cell HC0.out
  have h01 : w.heap.size + 1 ≠ w.heap.size := by omega
  go_wp2_with fail
  go_quiet (fail)
  go_wp2_with fail
  (try simp only [Exit.inBlock, Exit.then])
  refine done_ret (fn := Try.f12) (p := 4) (g := w.heap.size + 1) (e := 30) (fr := (0, 0)) (v := (.slice none 0 0)) (n := 0) (b := true) rfl rfl Try.underlying30 rfl (by kernel_rfl) rfl ?hg ?hP
  case hg => with_reducible exact done3 (HY.out.next (Grow.drewNM (Grow.refl wy) _)).blk _ _ _
  case hP => exact DonePost.intro rfl rfl (Ints.nil _) ((HY.out.next (Grow.drewNM (Grow.refl wy) _)).new (Grow.refl _) _ _ _)
set_option maxRecDepth 100000 in
set_option maxHeartbeats 4000000 in
theorem RDo_u2 (id proc obj arg sec : Int) (done : Bool) (res inv ret : Int) (x : Int) (b off cap : Nat) (w : World) (hc0 : w.cell? ⟨b, off, none⟩ = some (.int .i64 x)) (hx : (x == proc) = false) :
    Calls Try.prog 12 #[.slice (some ⟨b, off, none⟩) 1 cap, .agg #[.int .i64 id, .int .i64 proc, .int .i64 obj, .int .i64 6, .int .i64 14, .int .i64 arg, .int .i64 sec, .bool done, .int .i64 res, .int .i64 inv, .int .i64 ret]] w (DonePost ([], 0, false) w) := by
  have HC0 := hid hc0
  have hblt := World.block_lt_of_cell? w _ hc0
  simp only at hblt
  clear hc0
  have HYF := hid (fun nq => Own2.mk' (Grow.drewNM (Grow.refl ((w.alloc (.cells #[.int .i64 id, .int .i64 proc, .int .i64 obj, .int .i64 6, .int .i64 14, .int .i64 arg, .int .i64 sec, .bool done, .int .i64 res, .int .i64 inv, .int .i64 ret] 27)).alloc (.cells #[.slice none 0 0, .int .i64 0, .bool false] 30))) nq))
  go_enter Try.func12, Try.ntmps12
  go_wp2_with fail
  go_quiet (fail)
  have HY := hid (HYF.out nq)
  generalize ((w.alloc (.cells #[.int .i64 id, .int .i64 proc, .int .i64 obj, .int .i64 6, .int .i64 14, .int .i64 arg, .int .i64 sec, .bool done, .int .i64 res, .int .i64 inv, .int .i64 ret] 27)).alloc (.cells #[.slice none 0 0, .int .i64 0, .bool false] 30)).drewN nq = wy at *
  clear HYF
  have d0 := HY.out.d0
  have d1 := HY.out.d1
  have d2 := HY.out.d2
  have f0 := HY.out.f0
  have f1 := HY.out.f1
  have f2 := HY.out.f2
  have c1 := HY.out.c1
  have c5 := HY.out.c5
  have hlt := HY.out.lt
  have hc0 := HY.out.grow.cell HC0.out
  have h01 : w.heap.size + 1 ≠ w.heap.size := by omega
  go_wp2_with fail
  go_quiet (fail)
  go_wp2_with fail
  (try simp only [Exit.inBlock, Exit.then])
  refine done_ret (fn := Try.f12) (p := 4) (g := w.heap.size + 1) (e := 30) (fr := (0, 0)) (v := (.slice none 0 0)) (n := 0) (b := false) rfl rfl Try.underlying30 rfl (by kernel_rfl) rfl ?hg ?hP
  case hg => with_reducible exact done3 (HY.out.next (Grow.drewNM (Grow.refl wy) _)).blk _ _ _
  case hP => exact DonePost.intro rfl rfl (Ints.nil _) ((HY.out.next (Grow.drewNM (Grow.refl wy) _)).new (Grow.refl _) _ _ _)
set_option maxRecDepth 100000 in
set_option maxHeartbeats 4000000 in
theorem RDo_m (id proc obj meth arg sec : Int) (done : Bool) (res inv ret : Int) (v : Value) (w : World) (m1 : (meth == 13) = false) (m2 : (meth == 14) = false) :
    Calls Try.prog 12 #[v, .agg #[.int .i64 id, .int .i64 proc, .int .i64 obj, .int .i64 6, .int .i64 meth, .int .i64 arg, .int .i64 sec, .bool done, .int .i64 res, .int .i64 inv, .int .i64 ret]] w (DonePost ([], 0, false) w) := by
  have HYF := hid (fun nq => Own2.mk' (Grow.drewNM (Grow.refl ((w.alloc (.cells #[.int .i64 id, .int .i64 proc, .int .i64 obj, .int .i64 6, .int .i64 meth, .int .i64 arg, .int .i64 sec, .bool done, .int .i64 res, .int .i64 inv, .int .i64 ret] 27)).alloc (.cells #[.slice none 0 0, .int .i64 0, .bool false] 30))) nq))
  go_enter Try.func12, Try.ntmps12
  go_wp2_with fail
  go_quiet (fail)
  have HY := hid (HYF.out nq)
  generalize ((w.alloc (.cells #[.int .i64 id, .int .i64 proc, .int .i64 obj, .int .i64 6, .int .i64 meth, .int .i64 arg, .int .i64 sec, .bool done, .int .i64 res, .int .i64 inv, .int .i64 ret] 27)).alloc (.cells #[.slice none 0 0, .int .i64 0, .bool false] 30)).drewN nq = wy at *
  clear HYF
  have d0 := HY.out.d0
  have d1 := HY.out.d1
  have d2 := HY.out.d2
  have f0 := HY.out.f0
  have f1 := HY.out.f1
  have f2 := HY.out.f2
  have c1 := HY.out.c1
  have c5 := HY.out.c5
  have hlt := HY.out.lt
  have h01 : w.heap.size + 1 ≠ w.heap.size := by omega
  go_wp2_with fail
  go_quiet (fail)
  go_wp2_with fail
  (try simp only [Exit.inBlock, Exit.then])
  refine done_ret (fn := Try.f12) (p := 4) (g := w.heap.size + 1) (e := 30) (fr := (0, 0)) (v := (.slice none 0 0)) (n := 0) (b := false) rfl rfl Try.underlying30 rfl (by kernel_rfl) rfl ?hg ?hP
  case hg => with_reducible exact done3 (HY.out.next (Grow.drewNM (Grow.refl wy) _)).blk _ _ _
  case hP => exact DonePost.intro rfl rfl (Ints.nil _) ((HY.out.next (Grow.drewNM (Grow.refl wy) _)).new (Grow.refl _) _ _ _)
end Go.Proofs.Ytookcollmijjkaa
