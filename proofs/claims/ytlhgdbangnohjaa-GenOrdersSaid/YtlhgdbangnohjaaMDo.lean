/- What model.Do computes. -/
import Derived.Test.YtlhgdbangnohjaaMListDo
namespace Go.Proofs.Ytlhgdbangnohjaa
open Go.RowKit
set_option linter.unusedVariables false
set_option linter.unusedSimpArgs false
theorem Below.afterM {B : Nat} {a b c : World} (h : Grow a b) (hb : Below B b c) (hB : a.heap.size ≤ B) : Grow a c := Below.trans h (Below.mono hb hB)
set_option maxRecDepth 100000 in
set_option maxHeartbeats 4000000 in
theorem DoList_c (xs : List Int) (o : OpR) (v : Value) (w : World) (hv : Ints w v xs) (hk : o.kind = 3 ∨ o.kind = 4) (hn : xs.length < 20000000000000) : Calls Try.prog 41 #[v, .agg #[.int .i64 o.id, .int .i64 o.proc, .int .i64 o.obj, .int .i64 o.kind, .int .i64 o.meth, .int .i64 o.arg, .int .i64 o.sec, .bool o.done, .int .i64 o.res, .int .i64 o.inv, .int .i64 o.ret]] w (DoPost w.heap.size (listL xs o) w) := by
  have HL := hid (fun (v : Value) (w : World) (base : Nat) h1 h2 => list_c xs o v w base h1 hn h2)
  generalize listL xs o = R at *
  obtain ⟨id, proc, obj, kind, meth, arg, sec, done, res, inv, ret⟩ := o
  dsimp only at *
  have HV := hid hv
  have HC := hid (fun (w : World) (h : Ints w v xs) => Clone_c xs v w h)
  clear hv
  rcases hk with rfl | rfl
  · go_enter Try.func41, Try.ntmps41
    go_wp2_with fail
    refine (HC.out _ (HV.out.grow (Grow.alloc _ _))).mono ?_
    rintro e w1 ⟨v', rfl, ho, b1⟩
    have k1 := b1.cells
    have z1 : w.heap.size + 1 ≤ w1.heap.size := (by have := b1.size; simp at this; omega)
    have hz : (w.alloc (.cells #[.int .i64 id, .int .i64 proc, .int .i64 obj, .int .i64 3, .int .i64 meth, .int .i64 arg, .int .i64 sec, .bool done, .int .i64 res, .int .i64 inv, .int .i64 ret] 52)).heap.size = w.heap.size + 1 := by simp
    rw [hz] at ho
    have g1 : Grow w w1 := Grow.trans (Grow.alloc _ _) b1
    clear b1 hz
    go_wp2_with fail
    refine (HL.out _ _ _ z1 ho).mono ?_
    rintro e w2 ⟨vr, rfl, hi, b2⟩
    go_wp2_with fail
    go_ret3
    exact ⟨_, rfl, hi.mono (by omega), Below.afterM g1 b2 (by omega)⟩
  · go_enter Try.func41, Try.ntmps41
    go_wp2_with fail
    refine (HC.out _ (HV.out.grow (Grow.alloc _ _))).mono ?_
    rintro e w1 ⟨v', rfl, ho, b1⟩
    have k1 := b1.cells
    have z1 : w.heap.size + 1 ≤ w1.heap.size := (by have := b1.size; simp at this; omega)
    have hz : (w.alloc (.cells #[.int .i64 id, .int .i64 proc, .int .i64 obj, .int .i64 4, .int .i64 meth, .int .i64 arg, .int .i64 sec, .bool done, .int .i64 res, .int .i64 inv, .int .i64 ret] 52)).heap.size = w.heap.size + 1 := by simp
    rw [hz] at ho
    have g1 : Grow w w1 := Grow.trans (Grow.alloc _ _) b1
    clear b1 hz
    go_wp2_with fail
    refine (HL.out _ _ _ z1 ho).mono ?_
    rintro e w2 ⟨vr, rfl, hi, b2⟩
    go_wp2_with fail
    go_ret3
    exact ⟨_, rfl, hi.mono (by omega), Below.afterM g1 b2 (by omega)⟩
set_option maxRecDepth 100000 in
set_option maxHeartbeats 4000000 in
theorem DoNumber_c (xs : List Int) (o : OpR) (v : Value) (w : World) (hv : Ints w v xs) (x : Int) (hx : xs = [x]) (hk : o.kind = 1 ∨ o.kind = 2) : Calls Try.prog 41 #[v, .agg #[.int .i64 o.id, .int .i64 o.proc, .int .i64 o.obj, .int .i64 o.kind, .int .i64 o.meth, .int .i64 o.arg, .int .i64 o.sec, .bool o.done, .int .i64 o.res, .int .i64 o.inv, .int .i64 o.ret]] w (DoPost w.heap.size (numberL x o) w) := by
  subst hx
  have HL := hid (fun (v : Value) (w : World) base hb hl h => number_c x o v w base hb hl h)
  generalize numberL x o = R at *
  obtain ⟨id, proc, obj, kind, meth, arg, sec, done, res, inv, ret⟩ := o
  dsimp only at *
  have HV := hid hv
  have HC := hid (fun (w : World) (h : Ints w v [x]) => Clone_c [x] v w h)
  clear hv
  rcases hk with rfl | rfl
  · go_enter Try.func41, Try.ntmps41
    go_wp2_with fail
    refine (HC.out _ (HV.out.grow (Grow.alloc _ _))).mono ?_
    rintro e w1 ⟨v', rfl, ho, b1⟩
    have k1 := b1.cells
    have z1 : w.heap.size + 1 ≤ w1.heap.size := (by have := b1.size; simp at this; omega)
    have hz : (w.alloc (.cells #[.int .i64 id, .int .i64 proc, .int .i64 obj, .int .i64 1, .int .i64 meth, .int .i64 arg, .int .i64 sec, .bool done, .int .i64 res, .int .i64 inv, .int .i64 ret] 52)).heap.size = w.heap.size + 1 := by simp
    rw [hz] at ho
    have g1 : Grow w w1 := Grow.trans (Grow.alloc _ _) b1
    clear b1 hz
    have hi1 := hid (Ints.of_own ho (by simp))
    have hlo := hid (Lies.own ho)
    obtain ⟨p, c, rfl⟩ := own_formM ho
    clear ho
    replace hi1 : Hid (Ints w1 (.slice p 1 c) [x]) := hi1
    go_wp2_with fail
    refine (HL.out _ _ _ z1 hlo.out hi1.out).mono ?_
    rintro e w2 ⟨vr, rfl, hi, b2⟩
    go_wp2_with fail
    go_ret3
    exact ⟨_, rfl, hi.mono (by omega), Below.afterM g1 b2 (by omega)⟩
  · go_enter Try.func41, Try.ntmps41
    go_wp2_with fail
    refine (HC.out _ (HV.out.grow (Grow.alloc _ _))).mono ?_
    rintro e w1 ⟨v', rfl, ho, b1⟩
    have k1 := b1.cells
    have z1 : w.heap.size + 1 ≤ w1.heap.size := (by have := b1.size; simp at this; omega)
    have hz : (w.alloc (.cells #[.int .i64 id, .int .i64 proc, .int .i64 obj, .int .i64 2, .int .i64 meth, .int .i64 arg, .int .i64 sec, .bool done, .int .i64 res, .int .i64 inv, .int .i64 ret] 52)).heap.size = w.heap.size + 1 := by simp
    rw [hz] at ho
    have g1 : Grow w w1 := Grow.trans (Grow.alloc _ _) b1
    clear b1 hz
    have hi1 := hid (Ints.of_own ho (by simp))
    have hlo := hid (Lies.own ho)
    obtain ⟨p, c, rfl⟩ := own_formM ho
    clear ho
    replace hi1 : Hid (Ints w1 (.slice p 1 c) [x]) := hi1
    go_wp2_with fail
    refine (HL.out _ _ _ z1 hlo.out hi1.out).mono ?_
    rintro e w2 ⟨vr, rfl, hi, b2⟩
    go_wp2_with fail
    go_ret3
    exact ⟨_, rfl, hi.mono (by omega), Below.afterM g1 b2 (by omega)⟩
set_option maxRecDepth 100000 in
set_option maxHeartbeats 4000000 in
theorem DoNumberBad_c (xs : List Int) (o : OpR) (v : Value) (w : World) (hv : Ints w v xs) (hx : xs.length ≠ 1) (hk : o.kind = 1 ∨ o.kind = 2) : Calls Try.prog 41 #[v, .agg #[.int .i64 o.id, .int .i64 o.proc, .int .i64 o.obj, .int .i64 o.kind, .int .i64 o.meth, .int .i64 o.arg, .int .i64 o.sec, .bool o.done, .int .i64 o.res, .int .i64 o.inv, .int .i64 o.ret]] w (DoPost w.heap.size (([], 0, false)) w) := by
  obtain ⟨id, proc, obj, kind, meth, arg, sec, done, res, inv, ret⟩ := o
  dsimp only at *
  have HV := hid hv
  have HC := hid (fun (w : World) (h : Ints w v xs) => Clone_c xs v w h)
  clear hv
  have hne : ((xs.length : Int) != 1) = true := by simp; omega
  have hne2 : ((xs.length : Int) == 1) = false := by simp; omega
  generalize xs.length = n at *
  rcases hk with rfl | rfl
  · go_enter Try.func41, Try.ntmps41
    go_wp2_with fail
    refine (HC.out _ (HV.out.grow (Grow.alloc _ _))).mono ?_
    rintro e w1 ⟨v', rfl, ho, b1⟩
    have k1 := b1.cells
    have z1 : w.heap.size + 1 ≤ w1.heap.size := (by have := b1.size; simp at this; omega)
    have hz : (w.alloc (.cells #[.int .i64 id, .int .i64 proc, .int .i64 obj, .int .i64 1, .int .i64 meth, .int .i64 arg, .int .i64 sec, .bool done, .int .i64 res, .int .i64 inv, .int .i64 ret] 52)).heap.size = w.heap.size + 1 := by simp
    rw [hz] at ho
    have g1 : Grow w w1 := Grow.trans (Grow.alloc _ _) b1
    clear b1 hz
    obtain ⟨p, c, rfl⟩ := own_formM ho
    clear ho
    go_wp2_with fail
    go_ret3
    exact ⟨_, rfl, IntsF.nil, g1⟩
  · go_enter Try.func41, Try.ntmps41
    go_wp2_with fail
    refine (HC.out _ (HV.out.grow (Grow.alloc _ _))).mono ?_
    rintro e w1 ⟨v', rfl, ho, b1⟩
    have k1 := b1.cells
    have z1 : w.heap.size + 1 ≤ w1.heap.size := (by have := b1.size; simp at this; omega)
    have hz : (w.alloc (.cells #[.int .i64 id, .int .i64 proc, .int .i64 obj, .int .i64 2, .int .i64 meth, .int .i64 arg, .int .i64 sec, .bool done, .int .i64 res, .int .i64 inv, .int .i64 ret] 52)).heap.size = w.heap.size + 1 := by simp
    rw [hz] at ho
    have g1 : Grow w w1 := Grow.trans (Grow.alloc _ _) b1
    clear b1 hz
    obtain ⟨p, c, rfl⟩ := own_formM ho
    clear ho
    go_wp2_with fail
    go_ret3
    exact ⟨_, rfl, IntsF.nil, g1⟩
end Go.Proofs.Ytlhgdbangnohjaa
