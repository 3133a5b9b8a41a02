/- What the reference's number computes. -/
import Derived.Test.YtookcollmijjkaaMNumber
import Derived.Deep.QuietTactic
namespace Go.Proofs.Ytookcollmijjkaa
open Go.RowKit
set_option linter.unusedVariables false
set_option linter.unusedSimpArgs false
/-- The reference's Done. -/
def DonePost (r : List Int × Int × Bool) (w : World) (e : Ending) (w' : World) : Prop := ∃ v, e = .returned (.agg #[v, .int .i64 r.2.1, .bool r.2.2]) ∧ Ints w' v r.1 ∧ Grow w w'
theorem results_rowM {P : Program} {fn : Func} {p : Tmp} {ty : TypeId} (h : fn.results = #[.cell p ty]) (tmps : Array Value) (w : World) (g : Nat) (t : TypeId) (cs : Array Value) (fr : Nat × Nat) (d : TypeDesc)
    (hp : tmps.getD p undef = .pointer (some ⟨g, 0, none⟩)) (hg : w.heap[g]? = some (.cells cs t fr))
    (hu : P.underlying ty = some d) (hd : (match d with | .struct _ | .array _ _ => true | _ => false) = true) (hi : (P.info? ty).map (·.size) = some cs.size) :
    (results fn tmps).run P w = .ok (.agg cs) w := by
  have hp' : tmps[p]?.getD undef = .pointer (some ⟨g, 0, none⟩) := by simpa using hp
  simp [results, h, hp', asAddr, Result.andThen, run_loadVar_row w g t ty cs fr d hg hu hd hi]
theorem done3 {W : World} {g : Nat} {a b c : Value} {e : TypeId} {fr : Nat × Nat} (h : W.heap[g]? = some (.cells #[a, b, c] e fr)) (v n t : Value) : (((W.setCell ⟨g, 0, none⟩ v).setCell ⟨g, 1, none⟩ n).setCell ⟨g, 2, none⟩ t).heap[g]? = some (.cells #[v, n, t] e fr) :=
  heap_set (heap_set (heap_set h 0 _) 1 _) 2 _
theorem done3_grow {w W : World} {g : Nat} (h : Grow w W) (hg : w.heap.size ≤ g) (v n t : Value) : Grow w (((W.setCell ⟨g, 0, none⟩ v).setCell ⟨g, 1, none⟩ n).setCell ⟨g, 2, none⟩ t) :=
  Below.setCell (Below.setCell (Below.setCell h hg v) hg n) hg t
theorem done3_size {W : World} {g n0 : Nat} (h : n0 = W.heap.size) (v n t : Value) : n0 = (((W.setCell ⟨g, 0, none⟩ v).setCell ⟨g, 1, none⟩ n).setCell ⟨g, 2, none⟩ t).heap.size := by
  simp [h]
theorem done3_other {W : World} {g k : Nat} (hk : k ≠ g) (v n t : Value) : (((W.setCell ⟨g, 0, none⟩ v).setCell ⟨g, 1, none⟩ n).setCell ⟨g, 2, none⟩ t).heap[k]? = W.heap[k]? := by
  rw [Below.heap_setCell _ _ _ _ hk, Below.heap_setCell _ _ _ _ hk, Below.heap_setCell _ _ _ _ hk]
theorem DonePost.intro {r : List Int × Int × Bool} {w w' : World} {v : Value} {n : Int} {b : Bool} (hn : n = r.2.1) (hb : b = r.2.2) (hi : Ints w' v r.1) (hg : Grow w w') : DonePost r w (.returned (.agg #[v, .int .i64 n, .bool b])) w' := by
  subst hn hb
  exact ⟨v, rfl, hi, hg⟩
/-- The same, and where its numbers lie: it is the slice that came in, or one of the call's own. -/
def NumPost (r : List Int × Int × Bool) (v0 : Value) (w : World) (e : Ending) (w' : World) : Prop := ∃ v, e = .returned (.agg #[v, .int .i64 r.2.1, .bool r.2.2]) ∧ Ints w' v r.1 ∧ Grow w w' ∧ (v = v0 ∨ ∀ b off n c, v = .slice (some ⟨b, off, none⟩) n c → w.heap.size ≤ b)
theorem NumPost.intro {r : List Int × Int × Bool} {v0 : Value} {w w' : World} {v : Value} {n : Int} {b : Bool} (hn : n = r.2.1) (hb : b = r.2.2) (hi : Ints w' v r.1) (hg : Grow w w') (hf : v = v0 ∨ ∀ b off n c, v = .slice (some ⟨b, off, none⟩) n c → w.heap.size ≤ b) : NumPost r v0 w (.returned (.agg #[v, .int .i64 n, .bool b])) w' := by
  subst hn hb
  exact ⟨v, rfl, hi, hg, hf⟩
theorem Ints.set {w : World} {v : Value} {xs : List Int} (h : Ints w v xs) (g o : Nat) (u : Value) (hf : ∀ b off n c, v = .slice (some ⟨b, off, none⟩) n c → b ≠ g) : Ints (w.setCell ⟨g, o, none⟩ u) v xs := by
  obtain ⟨p, cap, rfl, hl, hc, hcap⟩ := h
  refine ⟨p, cap, rfl, hl, fun h0 => ?_, hcap⟩
  obtain ⟨b, off, rfl, hcell⟩ := hc h0
  have hne := hf b off _ _ rfl
  refine ⟨b, off, rfl, fun i hi => ?_⟩
  rw [← hcell i hi]
  exact World.cell?_of_block (Below.heap_setCell _ _ _ _ hne)
theorem done_ret {P : Program} {fn : Func} {p : Tmp} {ty e : TypeId} {g : Nat} {fr : Nat × Nat} {d : TypeDesc} {Pst : Ending → World → Prop} {a : Act} {w : World} {v : Value} {n : Int} {b : Bool} (h : fn.results = #[.cell p ty])
    (hp : a.tmps.getD p undef = .pointer (some ⟨g, 0, none⟩)) (hu : P.underlying ty = some d) (hd : (match d with | .struct _ | .array _ _ => true | _ => false) = true) (hi : (P.info? ty).map (·.size) = some 3) (hdf : a.defers = [])
    (hg : w.heap[g]? = some (.cells #[v, .int .i64 n, .bool b] e fr)) (hP : Pst (.returned (.agg #[v, .int .i64 n, .bool b])) w) : bodyPost P fn Pst Exit.ret a w :=
  bodyPost_ret (results_rowM h _ _ g e _ fr d hp hg hu hd hi) hdf hP
set_option maxRecDepth 100000 in
set_option maxHeartbeats 4000000 in
theorem RNumberBad_c (xs : List Int) (o : OpR) (v : Value) (w : World) (hv : Ints w v xs) (hx : xs.length ≠ 1) : Calls Try.prog 27 #[v, .agg #[.int .i64 o.id, .int .i64 o.proc, .int .i64 o.obj, .int .i64 o.kind, .int .i64 o.meth, .int .i64 o.arg, .int .i64 o.sec, .bool o.done, .int .i64 o.res, .int .i64 o.inv, .int .i64 o.ret]] w (NumPost ([], 0, false) v w) := by
  have hl := hv.length
  obtain ⟨p, cap, rfl, hc⟩ := hv.at
  clear hc hv
  obtain ⟨id, proc, obj, kind, meth, arg, sec, done, res, inv, ret⟩ := o
  dsimp only
  generalize xs.length = n at *
  have hne : ((n : Int) != 1) = true := by simp; omega
  go_enter Try.func27, Try.ntmps27
  go_wp2_with fail
  (try simp only [Exit.inBlock, Exit.then])
  refine done_ret (fn := Try.f27) (p := 4) (g := w.heap.size + 1) (e := 30) (fr := (0, 0)) (v := .slice none 0 0) (n := 0) (b := false) rfl rfl Try.underlying30 rfl (by kernel_rfl) rfl ?hg ?hP
  case hg => exact heap_newAt (g := w.heap.size + 1) (w.alloc (.cells #[.int .i64 id, .int .i64 proc, .int .i64 obj, .int .i64 kind, .int .i64 meth, .int .i64 arg, .int .i64 sec, .bool done, .int .i64 res, .int .i64 inv, .int .i64 ret] 27)) (.cells #[.slice none 0 0, .int .i64 0, .bool false] 30) (by simp)
  case hP => exact NumPost.intro rfl rfl (Ints.nil _) (Grow.trans (Grow.alloc _ _) (Grow.alloc _ _)) (.inr (fun b' off' n' c' h => by cases h))
set_option maxRecDepth 100000 in
set_option maxHeartbeats 4000000 in
theorem RNum_r1 (x id proc obj arg sec : Int) (done : Bool) (res inv ret : Int) (b off cap : Nat) (w : World) (hc0 : w.cell? ⟨b, off, none⟩ = some (.int .i64 x)) (hv : Ints w (.slice (some ⟨b, off, none⟩) 1 cap) [x]) :
    Calls Try.prog 27 #[.slice (some ⟨b, off, none⟩) 1 cap, .agg #[.int .i64 id, .int .i64 proc, .int .i64 obj, .int .i64 1, .int .i64 1, .int .i64 arg, .int .i64 sec, .bool done, .int .i64 res, .int .i64 inv, .int .i64 ret]] w (NumPost ([x], x, true) (.slice (some ⟨b, off, none⟩) 1 cap) w) := by
  have HV := hid hv
  clear hv
  have hblt := World.block_lt_of_cell? w _ hc0
  simp only at hblt
  have HB := hid (heap_newAt (g := w.heap.size + 1) (w.alloc (.cells #[.int .i64 id, .int .i64 proc, .int .i64 obj, .int .i64 1, .int .i64 1, .int .i64 arg, .int .i64 sec, .bool done, .int .i64 res, .int .i64 inv, .int .i64 ret] 27)) (.cells #[.slice none 0 0, .int .i64 0, .bool false] 30) (by simp))
  have HG := hid (Grow.trans (Grow.alloc w (.cells #[.int .i64 id, .int .i64 proc, .int .i64 obj, .int .i64 1, .int .i64 1, .int .i64 arg, .int .i64 sec, .bool done, .int .i64 res, .int .i64 inv, .int .i64 ret] 27)) (Grow.alloc _ (.cells #[.slice none 0 0, .int .i64 0, .bool false] 30)))
  have HBN := hid (fun k => show (((w.alloc (.cells #[.int .i64 id, .int .i64 proc, .int .i64 obj, .int .i64 1, .int .i64 1, .int .i64 arg, .int .i64 sec, .bool done, .int .i64 res, .int .i64 inv, .int .i64 ret] 27)).alloc (.cells #[.slice none 0 0, .int .i64 0, .bool false] 30)).drewN k).heap[w.heap.size + 1]? = _ from HB.out)
  have h01 : w.heap.size ≤ w.heap.size + 1 := by omega
  have hsz := hid (show w.heap.size + 1 + 1 = ((w.alloc (.cells #[.int .i64 id, .int .i64 proc, .int .i64 obj, .int .i64 1, .int .i64 1, .int .i64 arg, .int .i64 sec, .bool done, .int .i64 res, .int .i64 inv, .int .i64 ret] 27)).alloc (.cells #[.slice none 0 0, .int .i64 0, .bool false] 30)).heap.size from by simp)
  have hszN := hid (fun k => show w.heap.size + 1 + 1 = (((w.alloc (.cells #[.int .i64 id, .int .i64 proc, .int .i64 obj, .int .i64 1, .int .i64 1, .int .i64 arg, .int .i64 sec, .bool done, .int .i64 res, .int .i64 inv, .int .i64 ret] 27)).alloc (.cells #[.slice none 0 0, .int .i64 0, .bool false] 30)).drewN k).heap.size from hsz.out)
  have h12 : w.heap.size + 1 + 1 ≠ w.heap.size + 1 := by omega
  go_enter Try.func27, Try.ntmps27
  go_wp2_with fail
  (try simp only [Exit.inBlock, Exit.then])
  refine done_ret (fn := Try.f27) (p := 4) (g := w.heap.size + 1) (e := 30) (fr := (0, 0)) (v := (.slice (some ⟨b, off, none⟩) 1 cap)) (n := x) (b := true) rfl rfl Try.underlying30 rfl (by kernel_rfl) rfl ?hg ?hP
  case hg => exact heap_newAt (g := w.heap.size + 1) (w.alloc (.cells #[.int .i64 id, .int .i64 proc, .int .i64 obj, .int .i64 1, .int .i64 1, .int .i64 arg, .int .i64 sec, .bool done, .int .i64 res, .int .i64 inv, .int .i64 ret] 27)) (.cells #[.slice (some ⟨b, off, none⟩) 1 cap, .int .i64 x, .bool true] 30) (by simp)
  case hP => exact NumPost.intro rfl rfl (HV.out.grow (Grow.trans (Grow.alloc _ _) (Grow.alloc _ _))) (Grow.trans (Grow.alloc _ _) (Grow.alloc _ _)) (.inl rfl)
set_option maxRecDepth 100000 in
set_option maxHeartbeats 4000000 in
theorem RNum_r2 (x id proc obj arg sec : Int) (done : Bool) (res inv ret : Int) (b off cap : Nat) (w : World) (hc0 : w.cell? ⟨b, off, none⟩ = some (.int .i64 x)) (hv : Ints w (.slice (some ⟨b, off, none⟩) 1 cap) [x]) :
    Calls Try.prog 27 #[.slice (some ⟨b, off, none⟩) 1 cap, .agg #[.int .i64 id, .int .i64 proc, .int .i64 obj, .int .i64 2, .int .i64 1, .int .i64 arg, .int .i64 sec, .bool done, .int .i64 res, .int .i64 inv, .int .i64 ret]] w (NumPost ([x], x, true) (.slice (some ⟨b, off, none⟩) 1 cap) w) := by
  have HV := hid hv
  clear hv
  have hblt := World.block_lt_of_cell? w _ hc0
  simp only at hblt
  have HB := hid (heap_newAt (g := w.heap.size + 1) (w.alloc (.cells #[.int .i64 id, .int .i64 proc, .int .i64 obj, .int .i64 2, .int .i64 1, .int .i64 arg, .int .i64 sec, .bool done, .int .i64 res, .int .i64 inv, .int .i64 ret] 27)) (.cells #[.slice none 0 0, .int .i64 0, .bool false] 30) (by simp))
  have HG := hid (Grow.trans (Grow.alloc w (.cells #[.int .i64 id, .int .i64 proc, .int .i64 obj, .int .i64 2, .int .i64 1, .int .i64 arg, .int .i64 sec, .bool done, .int .i64 res, .int .i64 inv, .int .i64 ret] 27)) (Grow.alloc _ (.cells #[.slice none 0 0, .int .i64 0, .bool false] 30)))
  have HBN := hid (fun k => show (((w.alloc (.cells #[.int .i64 id, .int .i64 proc, .int .i64 obj, .int .i64 2, .int .i64 1, .int .i64 arg, .int .i64 sec, .bool done, .int .i64 res, .int .i64 inv, .int .i64 ret] 27)).alloc (.cells #[.slice none 0 0, .int .i64 0, .bool false] 30)).drewN k).heap[w.heap.size + 1]? = _ from HB.out)
  have h01 : w.heap.size ≤ w.heap.size + 1 := by omega
  have hsz := hid (show w.heap.size + 1 + 1 = ((w.alloc (.cells #[.int .i64 id, .int .i64 proc, .int .i64 obj, .int .i64 2, .int .i64 1, .int .i64 arg, .int .i64 sec, .bool done, .int .i64 res, .int .i64 inv, .int .i64 ret] 27)).alloc (.cells #[.slice none 0 0, .int .i64 0, .bool false] 30)).heap.size from by simp)
  have hszN := hid (fun k => show w.heap.size + 1 + 1 = (((w.alloc (.cells #[.int .i64 id, .int .i64 proc, .int .i64 obj, .int .i64 2, .int .i64 1, .int .i64 arg, .int .i64 sec, .bool done, .int .i64 res, .int .i64 inv, .int .i64 ret] 27)).alloc (.cells #[.slice none 0 0, .int .i64 0, .bool false] 30)).drewN k).heap.size from hsz.out)
  have h12 : w.heap.size + 1 + 1 ≠ w.heap.size + 1 := by omega
  go_enter Try.func27, Try.ntmps27
  go_wp2_with fail
  (try simp only [Exit.inBlock, Exit.then])
  refine done_ret (fn := Try.f27) (p := 4) (g := w.heap.size + 1) (e := 30) (fr := (0, 0)) (v := (.slice (some ⟨b, off, none⟩) 1 cap)) (n := x) (b := true) rfl rfl Try.underlying30 rfl (by kernel_rfl) rfl ?hg ?hP
  case hg => exact heap_newAt (g := w.heap.size + 1) (w.alloc (.cells #[.int .i64 id, .int .i64 proc, .int .i64 obj, .int .i64 2, .int .i64 1, .int .i64 arg, .int .i64 sec, .bool done, .int .i64 res, .int .i64 inv, .int .i64 ret] 27)) (.cells #[.slice (some ⟨b, off, none⟩) 1 cap, .int .i64 x, .bool true] 30) (by simp)
  case hP => exact NumPost.intro rfl rfl (HV.out.grow (Grow.trans (Grow.alloc _ _) (Grow.alloc _ _))) (Grow.trans (Grow.alloc _ _) (Grow.alloc _ _)) (.inl rfl)
set_option maxRecDepth 100000 in
set_option maxHeartbeats 4000000 in
theorem RNum_w (x id proc obj arg sec : Int) (done : Bool) (res inv ret : Int) (b off cap : Nat) (w : World) (hc0 : w.cell? ⟨b, off, none⟩ = some (.int .i64 x)) (hv : Ints w (.slice (some ⟨b, off, none⟩) 1 cap) [x]) :
    Calls Try.prog 27 #[.slice (some ⟨b, off, none⟩) 1 cap, .agg #[.int .i64 id, .int .i64 proc, .int .i64 obj, .int .i64 1, .int .i64 2, .int .i64 arg, .int .i64 sec, .bool done, .int .i64 res, .int .i64 inv, .int .i64 ret]] w (NumPost ([arg], 0, true) (.slice (some ⟨b, off, none⟩) 1 cap) w) := by
  have HV := hid hv
  clear hv
  have hblt := World.block_lt_of_cell? w _ hc0
  simp only at hblt
  have HB := hid (heap_newAt (g := w.heap.size + 1) (w.alloc (.cells #[.int .i64 id, .int .i64 proc, .int .i64 obj, .int .i64 1, .int .i64 2, .int .i64 arg, .int .i64 sec, .bool done, .int .i64 res, .int .i64 inv, .int .i64 ret] 27)) (.cells #[.slice none 0 0, .int .i64 0, .bool false] 30) (by simp))
  have HG := hid (Grow.trans (Grow.alloc w (.cells #[.int .i64 id, .int .i64 proc, .int .i64 obj, .int .i64 1, .int .i64 2, .int .i64 arg, .int .i64 sec, .bool done, .int .i64 res, .int .i64 inv, .int .i64 ret] 27)) (Grow.alloc _ (.cells #[.slice none 0 0, .int .i64 0, .bool false] 30)))
  have HBN := hid (fun k => show (((w.alloc (.cells #[.int .i64 id, .int .i64 proc, .int .i64 obj, .int .i64 1, .int .i64 2, .int .i64 arg, .int .i64 sec, .bool done, .int .i64 res, .int .i64 inv, .int .i64 ret] 27)).alloc (.cells #[.slice none 0 0, .int .i64 0, .bool false] 30)).drewN k).heap[w.heap.size + 1]? = _ from HB.out)
  have h01 : w.heap.size ≤ w.heap.size + 1 := by omega
  have hsz := hid (show w.heap.size + 1 + 1 = ((w.alloc (.cells #[.int .i64 id, .int .i64 proc, .int .i64 obj, .int .i64 1, .int .i64 2, .int .i64 arg, .int .i64 sec, .bool done, .int .i64 res, .int .i64 inv, .int .i64 ret] 27)).alloc (.cells #[.slice none 0 0, .int .i64 0, .bool false] 30)).heap.size from by simp)
  have hszN := hid (fun k => show w.heap.size + 1 + 1 = (((w.alloc (.cells #[.int .i64 id, .int .i64 proc, .int .i64 obj, .int .i64 1, .int .i64 2, .int .i64 arg, .int .i64 sec, .bool done, .int .i64 res, .int .i64 inv, .int .i64 ret] 27)).alloc (.cells #[.slice none 0 0, .int .i64 0, .bool false] 30)).drewN k).heap.size from hsz.out)
  have h12 : w.heap.size + 1 + 1 ≠ w.heap.size + 1 := by omega
  go_enter Try.func27, Try.ntmps27
  go_wp2_with fail
  (try simp only [Exit.inBlock, Exit.then])
  refine done_ret (fn := Try.f27) (p := 4) (g := w.heap.size + 1) (e := 30) (fr := (0, 0)) (v := (.slice (some ⟨w.heap.size + 1 + 1, 0, none⟩) 1 1)) (n := 0) (b := true) rfl rfl Try.underlying30 rfl (by kernel_rfl) rfl ?hg ?hP
  case hg => exact (Grow.alloc _ _).heap (heap_newAt (g := w.heap.size + 1) (w.alloc (.cells #[.int .i64 id, .int .i64 proc, .int .i64 obj, .int .i64 1, .int .i64 2, .int .i64 arg, .int .i64 sec, .bool done, .int .i64 res, .int .i64 inv, .int .i64 ret] 27)) (.cells #[.slice (some ⟨w.heap.size + 1 + 1, 0, none⟩) 1 1, .int .i64 0, .bool true] 30) (by simp))
  case hP => exact NumPost.intro rfl rfl (Ints.one (heap_newAt (g := w.heap.size + 1 + 1) ((w.alloc (.cells #[.int .i64 id, .int .i64 proc, .int .i64 obj, .int .i64 1, .int .i64 2, .int .i64 arg, .int .i64 sec, .bool done, .int .i64 res, .int .i64 inv, .int .i64 ret] 27)).alloc (.cells #[.slice (some ⟨w.heap.size + 1 + 1, 0, none⟩) 1 1, .int .i64 0, .bool true] 30)) (.cells #[.int .i64 arg] 3) (by simp))) (Grow.trans (Grow.trans (Grow.alloc _ _) (Grow.alloc _ _)) (Grow.alloc _ _)) (.inr (fun b' off' n' c' h => by cases h; omega))
set_option maxRecDepth 100000 in
set_option maxHeartbeats 4000000 in
theorem RNum_ce (x id proc obj arg sec : Int) (done : Bool) (res inv ret : Int) (b off cap : Nat) (w : World) (hc0 : w.cell? ⟨b, off, none⟩ = some (.int .i64 x)) (hv : Ints w (.slice (some ⟨b, off, none⟩) 1 cap) [x]) (hxa : (x == arg) = true) :
    Calls Try.prog 27 #[.slice (some ⟨b, off, none⟩) 1 cap, .agg #[.int .i64 id, .int .i64 proc, .int .i64 obj, .int .i64 1, .int .i64 3, .int .i64 arg, .int .i64 sec, .bool done, .int .i64 res, .int .i64 inv, .int .i64 ret]] w (NumPost ([sec], 1, true) (.slice (some ⟨b, off, none⟩) 1 cap) w) := by
  have HV := hid hv
  clear hv
  have hblt := World.block_lt_of_cell? w _ hc0
  simp only at hblt
  have HB := hid (heap_newAt (g := w.heap.size + 1) (w.alloc (.cells #[.int .i64 id, .int .i64 proc, .int .i64 obj, .int .i64 1, .int .i64 3, .int .i64 arg, .int .i64 sec, .bool done, .int .i64 res, .int .i64 inv, .int .i64 ret] 27)) (.cells #[.slice none 0 0, .int .i64 0, .bool false] 30) (by simp))
  have HG := hid (Grow.trans (Grow.alloc w (.cells #[.int .i64 id, .int .i64 proc, .int .i64 obj, .int .i64 1, .int .i64 3, .int .i64 arg, .int .i64 sec, .bool done, .int .i64 res, .int .i64 inv, .int .i64 ret] 27)) (Grow.alloc _ (.cells #[.slice none 0 0, .int .i64 0, .bool false] 30)))
  have HBN := hid (fun k => show (((w.alloc (.cells #[.int .i64 id, .int .i64 proc, .int .i64 obj, .int .i64 1, .int .i64 3, .int .i64 arg, .int .i64 sec, .bool done, .int .i64 res, .int .i64 inv, .int .i64 ret] 27)).alloc (.cells #[.slice none 0 0, .int .i64 0, .bool false] 30)).drewN k).heap[w.heap.size + 1]? = _ from HB.out)
  have h01 : w.heap.size ≤ w.heap.size + 1 := by omega
  have hsz := hid (show w.heap.size + 1 + 1 = ((w.alloc (.cells #[.int .i64 id, .int .i64 proc, .int .i64 obj, .int .i64 1, .int .i64 3, .int .i64 arg, .int .i64 sec, .bool done, .int .i64 res, .int .i64 inv, .int .i64 ret] 27)).alloc (.cells #[.slice none 0 0, .int .i64 0, .bool false] 30)).heap.size from by simp)
  have hszN := hid (fun k => show w.heap.size + 1 + 1 = (((w.alloc (.cells #[.int .i64 id, .int .i64 proc, .int .i64 obj, .int .i64 1, .int .i64 3, .int .i64 arg, .int .i64 sec, .bool done, .int .i64 res, .int .i64 inv, .int .i64 ret] 27)).alloc (.cells #[.slice none 0 0, .int .i64 0, .bool false] 30)).drewN k).heap.size from hsz.out)
  have h12 : w.heap.size + 1 + 1 ≠ w.heap.size + 1 := by omega
  go_enter Try.func27, Try.ntmps27
  go_wp2_with fail
  go_quiet (fail)
  go_wp2_with fail
  (try simp only [Exit.inBlock, Exit.then])
  refine done_ret (fn := Try.f27) (p := 4) (g := w.heap.size + 1) (e := 30) (fr := (0, 0)) (v := (.slice (some ⟨w.heap.size + 1 + 1, 0, none⟩) 1 1)) (n := 1) (b := true) rfl rfl Try.underlying30 rfl (by kernel_rfl) rfl ?hg ?hP
  case hg => with_reducible exact (Grow.alloc _ _).heap (done3 (HBN.out _) _ _ _)
  case hP => exact NumPost.intro rfl rfl (Ints.one (heap_newAt _ _ (done3_size (hszN.out _) _ _ _))) (Grow.trans (done3_grow (Grow.drewNM HG.out _) h01 _ _ _) (Grow.alloc _ _)) (.inr (fun b' off' n' c' h => by cases h; omega))
set_option maxRecDepth 100000 in
set_option maxHeartbeats 4000000 in
theorem RNum_cn (x id proc obj arg sec : Int) (done : Bool) (res inv ret : Int) (b off cap : Nat) (w : World) (hc0 : w.cell? ⟨b, off, none⟩ = some (.int .i64 x)) (hv : Ints w (.slice (some ⟨b, off, none⟩) 1 cap) [x]) (hxa : (x == arg) = false) :
    Calls Try.prog 27 #[.slice (some ⟨b, off, none⟩) 1 cap, .agg #[.int .i64 id, .int .i64 proc, .int .i64 obj, .int .i64 1, .int .i64 3, .int .i64 arg, .int .i64 sec, .bool done, .int .i64 res, .int .i64 inv, .int .i64 ret]] w (NumPost ([x], 0, true) (.slice (some ⟨b, off, none⟩) 1 cap) w) := by
  have HV := hid hv
  clear hv
  have hblt := World.block_lt_of_cell? w _ hc0
  simp only at hblt
  have HB := hid (heap_newAt (g := w.heap.size + 1) (w.alloc (.cells #[.int .i64 id, .int .i64 proc, .int .i64 obj, .int .i64 1, .int .i64 3, .int .i64 arg, .int .i64 sec, .bool done, .int .i64 res, .int .i64 inv, .int .i64 ret] 27)) (.cells #[.slice none 0 0, .int .i64 0, .bool false] 30) (by simp))
  have HG := hid (Grow.trans (Grow.alloc w (.cells #[.int .i64 id, .int .i64 proc, .int .i64 obj, .int .i64 1, .int .i64 3, .int .i64 arg, .int .i64 sec, .bool done, .int .i64 res, .int .i64 inv, .int .i64 ret] 27)) (Grow.alloc _ (.cells #[.slice none 0 0, .int .i64 0, .bool false] 30)))
  have HBN := hid (fun k => show (((w.alloc (.cells #[.int .i64 id, .int .i64 proc, .int .i64 obj, .int .i64 1, .int .i64 3, .int .i64 arg, .int .i64 sec, .bool done, .int .i64 res, .int .i64 inv, .int .i64 ret] 27)).alloc (.cells #[.slice none 0 0, .int .i64 0, .bool false] 30)).drewN k).heap[w.heap.size + 1]? = _ from HB.out)
  have h01 : w.heap.size ≤ w.heap.size + 1 := by omega
  have hsz := hid (show w.heap.size + 1 + 1 = ((w.alloc (.cells #[.int .i64 id, .int .i64 proc, .int .i64 obj, .int .i64 1, .int .i64 3, .int .i64 arg, .int .i64 sec, .bool done, .int .i64 res, .int .i64 inv, .int .i64 ret] 27)).alloc (.cells #[.slice none 0 0, .int .i64 0, .bool false] 30)).heap.size from by simp)
  have hszN := hid (fun k => show w.heap.size + 1 + 1 = (((w.alloc (.cells #[.int .i64 id, .int .i64 proc, .int .i64 obj, .int .i64 1, .int .i64 3, .int .i64 arg, .int .i64 sec, .bool done, .int .i64 res, .int .i64 inv, .int .i64 ret] 27)).alloc (.cells #[.slice none 0 0, .int .i64 0, .bool false] 30)).drewN k).heap.size from hsz.out)
  have h12 : w.heap.size + 1 + 1 ≠ w.heap.size + 1 := by omega
  go_enter Try.func27, Try.ntmps27
  go_wp2_with fail
  go_quiet (fail)
  go_wp2_with fail
  (try simp only [Exit.inBlock, Exit.then])
  refine done_ret (fn := Try.f27) (p := 4) (g := w.heap.size + 1) (e := 30) (fr := (0, 0)) (v := (.slice (some ⟨b, off, none⟩) 1 cap)) (n := 0) (b := true) rfl rfl Try.underlying30 rfl (by kernel_rfl) rfl ?hg ?hP
  case hg => with_reducible exact done3 (HBN.out _) _ _ _
  case hP => exact NumPost.intro rfl rfl (HV.out.grow (done3_grow (Grow.drewNM HG.out _) h01 _ _ _)) (done3_grow (Grow.drewNM HG.out _) h01 _ _ _) (.inl rfl)
set_option maxRecDepth 100000 in
set_option maxHeartbeats 4000000 in
theorem RNum_o1 (x id proc obj meth arg sec : Int) (done : Bool) (res inv ret : Int) (b off cap : Nat) (w : World) (hc0 : w.cell? ⟨b, off, none⟩ = some (.int .i64 x)) (hv : Ints w (.slice (some ⟨b, off, none⟩) 1 cap) [x]) (m1 : ¬ meth = 1) (m2 : ¬ meth = 2) (m3 : ¬ meth = 3) :
    Calls Try.prog 27 #[.slice (some ⟨b, off, none⟩) 1 cap, .agg #[.int .i64 id, .int .i64 proc, .int .i64 obj, .int .i64 1, .int .i64 meth, .int .i64 arg, .int .i64 sec, .bool done, .int .i64 res, .int .i64 inv, .int .i64 ret]] w (NumPost ([], 0, false) (.slice (some ⟨b, off, none⟩) 1 cap) w) := by
  have HV := hid hv
  clear hv
  have hblt := World.block_lt_of_cell? w _ hc0
  simp only at hblt
  have HB := hid (heap_newAt (g := w.heap.size + 1) (w.alloc (.cells #[.int .i64 id, .int .i64 proc, .int .i64 obj, .int .i64 1, .int .i64 meth, .int .i64 arg, .int .i64 sec, .bool done, .int .i64 res, .int .i64 inv, .int .i64 ret] 27)) (.cells #[.slice none 0 0, .int .i64 0, .bool false] 30) (by simp))
  have HG := hid (Grow.trans (Grow.alloc w (.cells #[.int .i64 id, .int .i64 proc, .int .i64 obj, .int .i64 1, .int .i64 meth, .int .i64 arg, .int .i64 sec, .bool done, .int .i64 res, .int .i64 inv, .int .i64 ret] 27)) (Grow.alloc _ (.cells #[.slice none 0 0, .int .i64 0, .bool false] 30)))
  have HBN := hid (fun k => show (((w.alloc (.cells #[.int .i64 id, .int .i64 proc, .int .i64 obj, .int .i64 1, .int .i64 meth, .int .i64 arg, .int .i64 sec, .bool done, .int .i64 res, .int .i64 inv, .int .i64 ret] 27)).alloc (.cells #[.slice none 0 0, .int .i64 0, .bool false] 30)).drewN k).heap[w.heap.size + 1]? = _ from HB.out)
  have h01 : w.heap.size ≤ w.heap.size + 1 := by omega
  have hsz := hid (show w.heap.size + 1 + 1 = ((w.alloc (.cells #[.int .i64 id, .int .i64 proc, .int .i64 obj, .int .i64 1, .int .i64 meth, .int .i64 arg, .int .i64 sec, .bool done, .int .i64 res, .int .i64 inv, .int .i64 ret] 27)).alloc (.cells #[.slice none 0 0, .int .i64 0, .bool false] 30)).heap.size from by simp)
  have hszN := hid (fun k => show w.heap.size + 1 + 1 = (((w.alloc (.cells #[.int .i64 id, .int .i64 proc, .int .i64 obj, .int .i64 1, .int .i64 meth, .int .i64 arg, .int .i64 sec, .bool done, .int .i64 res, .int .i64 inv, .int .i64 ret] 27)).alloc (.cells #[.slice none 0 0, .int .i64 0, .bool false] 30)).drewN k).heap.size from hsz.out)
  have h12 : w.heap.size + 1 + 1 ≠ w.heap.size + 1 := by omega
  go_enter Try.func27, Try.ntmps27
  go_wp2_with fail
  go_quiet (fail)
  go_wp2_with fail
  (try simp only [Exit.inBlock, Exit.then])
  refine done_ret (fn := Try.f27) (p := 4) (g := w.heap.size + 1) (e := 30) (fr := (0, 0)) (v := (.slice none 0 0)) (n := 0) (b := false) rfl rfl Try.underlying30 rfl (by kernel_rfl) rfl ?hg ?hP
  case hg => with_reducible exact done3 (HBN.out _) _ _ _
  case hP => exact NumPost.intro rfl rfl (Ints.nil _) (done3_grow (Grow.drewNM HG.out _) h01 _ _ _) (.inr (fun b' off' n' c' h => by cases h))
set_option maxRecDepth 100000 in
set_option maxHeartbeats 4000000 in
theorem RNum_inc (x id proc obj arg sec : Int) (done : Bool) (res inv ret : Int) (b off cap : Nat) (w : World) (hc0 : w.cell? ⟨b, off, none⟩ = some (.int .i64 x)) (hv : Ints w (.slice (some ⟨b, off, none⟩) 1 cap) [x]) :
    Calls Try.prog 27 #[.slice (some ⟨b, off, none⟩) 1 cap, .agg #[.int .i64 id, .int .i64 proc, .int .i64 obj, .int .i64 2, .int .i64 4, .int .i64 arg, .int .i64 sec, .bool done, .int .i64 res, .int .i64 inv, .int .i64 ret]] w (NumPost ([wrap64 (x + 1)], 0, true) (.slice (some ⟨b, off, none⟩) 1 cap) w) := by
  have HV := hid hv
  clear hv
  have hblt := World.block_lt_of_cell? w _ hc0
  simp only at hblt
  have HB := hid (heap_newAt (g := w.heap.size + 1) (w.alloc (.cells #[.int .i64 id, .int .i64 proc, .int .i64 obj, .int .i64 2, .int .i64 4, .int .i64 arg, .int .i64 sec, .bool done, .int .i64 res, .int .i64 inv, .int .i64 ret] 27)) (.cells #[.slice none 0 0, .int .i64 0, .bool false] 30) (by simp))
  have HG := hid (Grow.trans (Grow.alloc w (.cells #[.int .i64 id, .int .i64 proc, .int .i64 obj, .int .i64 2, .int .i64 4, .int .i64 arg, .int .i64 sec, .bool done, .int .i64 res, .int .i64 inv, .int .i64 ret] 27)) (Grow.alloc _ (.cells #[.slice none 0 0, .int .i64 0, .bool false] 30)))
  have HBN := hid (fun k => show (((w.alloc (.cells #[.int .i64 id, .int .i64 proc, .int .i64 obj, .int .i64 2, .int .i64 4, .int .i64 arg, .int .i64 sec, .bool done, .int .i64 res, .int .i64 inv, .int .i64 ret] 27)).alloc (.cells #[.slice none 0 0, .int .i64 0, .bool false] 30)).drewN k).heap[w.heap.size + 1]? = _ from HB.out)
  have h01 : w.heap.size ≤ w.heap.size + 1 := by omega
  have hsz := hid (show w.heap.size + 1 + 1 = ((w.alloc (.cells #[.int .i64 id, .int .i64 proc, .int .i64 obj, .int .i64 2, .int .i64 4, .int .i64 arg, .int .i64 sec, .bool done, .int .i64 res, .int .i64 inv, .int .i64 ret] 27)).alloc (.cells #[.slice none 0 0, .int .i64 0, .bool false] 30)).heap.size from by simp)
  have hszN := hid (fun k => show w.heap.size + 1 + 1 = (((w.alloc (.cells #[.int .i64 id, .int .i64 proc, .int .i64 obj, .int .i64 2, .int .i64 4, .int .i64 arg, .int .i64 sec, .bool done, .int .i64 res, .int .i64 inv, .int .i64 ret] 27)).alloc (.cells #[.slice none 0 0, .int .i64 0, .bool false] 30)).drewN k).heap.size from hsz.out)
  have h12 : w.heap.size + 1 + 1 ≠ w.heap.size + 1 := by omega
  go_enter Try.func27, Try.ntmps27
  go_wp2_with fail
  go_quiet (fail)
  go_wp2_with fail
  (try simp only [Exit.inBlock, Exit.then])
  refine done_ret (fn := Try.f27) (p := 4) (g := w.heap.size + 1) (e := 30) (fr := (0, 0)) (v := (.slice (some ⟨w.heap.size + 1 + 1, 0, none⟩) 1 1)) (n := 0) (b := true) rfl rfl Try.underlying30 rfl (by kernel_rfl) rfl ?hg ?hP
  case hg => with_reducible exact (Grow.alloc _ _).heap (done3 (HBN.out _) _ _ _)
  case hP => exact NumPost.intro rfl rfl (Ints.one (heap_newAt _ _ (done3_size (hszN.out _) _ _ _))) (Grow.trans (done3_grow (Grow.drewNM HG.out _) h01 _ _ _) (Grow.alloc _ _)) (.inr (fun b' off' n' c' h => by cases h; omega))
set_option maxRecDepth 100000 in
set_option maxHeartbeats 4000000 in
theorem RNum_dec (x id proc obj arg sec : Int) (done : Bool) (res inv ret : Int) (b off cap : Nat) (w : World) (hc0 : w.cell? ⟨b, off, none⟩ = some (.int .i64 x)) (hv : Ints w (.slice (some ⟨b, off, none⟩) 1 cap) [x]) :
    Calls Try.prog 27 #[.slice (some ⟨b, off, none⟩) 1 cap, .agg #[.int .i64 id, .int .i64 proc, .int .i64 obj, .int .i64 2, .int .i64 5, .int .i64 arg, .int .i64 sec, .bool done, .int .i64 res, .int .i64 inv, .int .i64 ret]] w (NumPost ([wrap64 (x - 1)], 0, true) (.slice (some ⟨b, off, none⟩) 1 cap) w) := by
  have HV := hid hv
  clear hv
  have hblt := World.block_lt_of_cell? w _ hc0
  simp only at hblt
  have HB := hid (heap_newAt (g := w.heap.size + 1) (w.alloc (.cells #[.int .i64 id, .int .i64 proc, .int .i64 obj, .int .i64 2, .int .i64 5, .int .i64 arg, .int .i64 sec, .bool done, .int .i64 res, .int .i64 inv, .int .i64 ret] 27)) (.cells #[.slice none 0 0, .int .i64 0, .bool false] 30) (by simp))
  have HG := hid (Grow.trans (Grow.alloc w (.cells #[.int .i64 id, .int .i64 proc, .int .i64 obj, .int .i64 2, .int .i64 5, .int .i64 arg, .int .i64 sec, .bool done, .int .i64 res, .int .i64 inv, .int .i64 ret] 27)) (Grow.alloc _ (.cells #[.slice none 0 0, .int .i64 0, .bool false] 30)))
  have HBN := hid (fun k => show (((w.alloc (.cells #[.int .i64 id, .int .i64 proc, .int .i64 obj, .int .i64 2, .int .i64 5, .int .i64 arg, .int .i64 sec, .bool done, .int .i64 res, .int .i64 inv, .int .i64 ret] 27)).alloc (.cells #[.slice none 0 0, .int .i64 0, .bool false] 30)).drewN k).heap[w.heap.size + 1]? = _ from HB.out)
  have h01 : w.heap.size ≤ w.heap.size + 1 := by omega
  have hsz := hid (show w.heap.size + 1 + 1 = ((w.alloc (.cells #[.int .i64 id, .int .i64 proc, .int .i64 obj, .int .i64 2, .int .i64 5, .int .i64 arg, .int .i64 sec, .bool done, .int .i64 res, .int .i64 inv, .int .i64 ret] 27)).alloc (.cells #[.slice none 0 0, .int .i64 0, .bool false] 30)).heap.size from by simp)
  have hszN := hid (fun k => show w.heap.size + 1 + 1 = (((w.alloc (.cells #[.int .i64 id, .int .i64 proc, .int .i64 obj, .int .i64 2, .int .i64 5, .int .i64 arg, .int .i64 sec, .bool done, .int .i64 res, .int .i64 inv, .int .i64 ret] 27)).alloc (.cells #[.slice none 0 0, .int .i64 0, .bool false] 30)).drewN k).heap.size from hsz.out)
  have h12 : w.heap.size + 1 + 1 ≠ w.heap.size + 1 := by omega
  go_enter Try.func27, Try.ntmps27
  go_wp2_with fail
  go_quiet (fail)
  go_wp2_with fail
  (try simp only [Exit.inBlock, Exit.then])
  refine done_ret (fn := Try.f27) (p := 4) (g := w.heap.size + 1) (e := 30) (fr := (0, 0)) (v := (.slice (some ⟨w.heap.size + 1 + 1, 0, none⟩) 1 1)) (n := 0) (b := true) rfl rfl Try.underlying30 rfl (by kernel_rfl) rfl ?hg ?hP
  case hg => with_reducible exact (Grow.alloc _ _).heap (done3 (HBN.out _) _ _ _)
  case hP => exact NumPost.intro rfl rfl (Ints.one (heap_newAt _ _ (done3_size (hszN.out _) _ _ _))) (Grow.trans (done3_grow (Grow.drewNM HG.out _) h01 _ _ _) (Grow.alloc _ _)) (.inr (fun b' off' n' c' h => by cases h; omega))
set_option maxRecDepth 100000 in
set_option maxHeartbeats 4000000 in
theorem RNum_o2 (x id proc obj meth arg sec : Int) (done : Bool) (res inv ret : Int) (b off cap : Nat) (w : World) (hc0 : w.cell? ⟨b, off, none⟩ = some (.int .i64 x)) (hv : Ints w (.slice (some ⟨b, off, none⟩) 1 cap) [x]) (m1 : ¬ meth = 1) (m2 : ¬ meth = 4) (m3 : ¬ meth = 5) :
    Calls Try.prog 27 #[.slice (some ⟨b, off, none⟩) 1 cap, .agg #[.int .i64 id, .int .i64 proc, .int .i64 obj, .int .i64 2, .int .i64 meth, .int .i64 arg, .int .i64 sec, .bool done, .int .i64 res, .int .i64 inv, .int .i64 ret]] w (NumPost ([], 0, false) (.slice (some ⟨b, off, none⟩) 1 cap) w) := by
  have HV := hid hv
  clear hv
  have hblt := World.block_lt_of_cell? w _ hc0
  simp only at hblt
  have HB := hid (heap_newAt (g := w.heap.size + 1) (w.alloc (.cells #[.int .i64 id, .int .i64 proc, .int .i64 obj, .int .i64 2, .int .i64 meth, .int .i64 arg, .int .i64 sec, .bool done, .int .i64 res, .int .i64 inv, .int .i64 ret] 27)) (.cells #[.slice none 0 0, .int .i64 0, .bool false] 30) (by simp))
  have HG := hid (Grow.trans (Grow.alloc w (.cells #[.int .i64 id, .int .i64 proc, .int .i64 obj, .int .i64 2, .int .i64 meth, .int .i64 arg, .int .i64 sec, .bool done, .int .i64 res, .int .i64 inv, .int .i64 ret] 27)) (Grow.alloc _ (.cells #[.slice none 0 0, .int .i64 0, .bool false] 30)))
  have HBN := hid (fun k => show (((w.alloc (.cells #[.int .i64 id, .int .i64 proc, .int .i64 obj, .int .i64 2, .int .i64 meth, .int .i64 arg, .int .i64 sec, .bool done, .int .i64 res, .int .i64 inv, .int .i64 ret] 27)).alloc (.cells #[.slice none 0 0, .int .i64 0, .bool false] 30)).drewN k).heap[w.heap.size + 1]? = _ from HB.out)
  have h01 : w.heap.size ≤ w.heap.size + 1 := by omega
  have hsz := hid (show w.heap.size + 1 + 1 = ((w.alloc (.cells #[.int .i64 id, .int .i64 proc, .int .i64 obj, .int .i64 2, .int .i64 meth, .int .i64 arg, .int .i64 sec, .bool done, .int .i64 res, .int .i64 inv, .int .i64 ret] 27)).alloc (.cells #[.slice none 0 0, .int .i64 0, .bool false] 30)).heap.size from by simp)
  have hszN := hid (fun k => show w.heap.size + 1 + 1 = (((w.alloc (.cells #[.int .i64 id, .int .i64 proc, .int .i64 obj, .int .i64 2, .int .i64 meth, .int .i64 arg, .int .i64 sec, .bool done, .int .i64 res, .int .i64 inv, .int .i64 ret] 27)).alloc (.cells #[.slice none 0 0, .int .i64 0, .bool false] 30)).drewN k).heap.size from hsz.out)
  have h12 : w.heap.size + 1 + 1 ≠ w.heap.size + 1 := by omega
  go_enter Try.func27, Try.ntmps27
  go_wp2_with fail
  go_quiet (fail)
  go_wp2_with fail
  (try simp only [Exit.inBlock, Exit.then])
  refine done_ret (fn := Try.f27) (p := 4) (g := w.heap.size + 1) (e := 30) (fr := (0, 0)) (v := (.slice none 0 0)) (n := 0) (b := false) rfl rfl Try.underlying30 rfl (by kernel_rfl) rfl ?hg ?hP
  case hg => with_reducible exact done3 (HBN.out _) _ _ _
  case hP => exact NumPost.intro rfl rfl (Ints.nil _) (done3_grow (Grow.drewNM HG.out _) h01 _ _ _) (.inr (fun b' off' n' c' h => by cases h))
theorem RNumber_c (x : Int) (o : OpR) (v : Value) (w : World) (hv : Ints w v [x]) (hk : o.kind = 1 ∨ o.kind = 2) : Calls Try.prog 27 #[v, .agg #[.int .i64 o.id, .int .i64 o.proc, .int .i64 o.obj, .int .i64 o.kind, .int .i64 o.meth, .int .i64 o.arg, .int .i64 o.sec, .bool o.done, .int .i64 o.res, .int .i64 o.inv, .int .i64 o.ret]] w (NumPost (numberL x o) v w) := by
  obtain ⟨p, cap, rfl, hc⟩ := hv.at
  obtain ⟨b, off, rfl, hc0⟩ := hc 0 (by simp)
  replace hc0 : w.cell? ⟨b, off, none⟩ = some (.int .i64 x) := hc0
  replace hv : Ints w (.slice (some ⟨b, off, none⟩) 1 cap) [x] := hv
  show Calls _ _ #[.slice (some ⟨b, off, none⟩) 1 cap, _] _ _
  obtain ⟨id, proc, obj, kind, meth, arg, sec, done, res, inv, ret⟩ := o
  dsimp only at *
  rcases hk with rfl | rfl
  · by_cases m1 : meth = 1
    · subst m1
      exact RNum_r1 x id proc obj arg sec done res inv ret b off cap w hc0 hv
    · by_cases m2 : meth = 2
      · subst m2
        exact RNum_w x id proc obj arg sec done res inv ret b off cap w hc0 hv
      · by_cases m3 : meth = 3
        · subst m3
          by_cases hx : x = arg
          · have e : numberL x ⟨id, proc, obj, 1, 3, arg, sec, done, res, inv, ret⟩ = ([sec], 1, true) := by simp [numberL, hx]
            rw [e]
            exact RNum_ce x id proc obj arg sec done res inv ret b off cap w hc0 hv (by simpa using hx)
          · have e : numberL x ⟨id, proc, obj, 1, 3, arg, sec, done, res, inv, ret⟩ = ([x], 0, true) := by simp [numberL, hx]
            rw [e]
            exact RNum_cn x id proc obj arg sec done res inv ret b off cap w hc0 hv (by simpa using hx)
        · have e : numberL x ⟨id, proc, obj, 1, meth, arg, sec, done, res, inv, ret⟩ = ([], 0, false) := by simp [numberL, m1, m2, m3]
          rw [e]
          exact RNum_o1 x id proc obj meth arg sec done res inv ret b off cap w hc0 hv m1 m2 m3
  · by_cases m1 : meth = 1
    · subst m1
      exact RNum_r2 x id proc obj arg sec done res inv ret b off cap w hc0 hv
    · by_cases m2 : meth = 4
      · subst m2
        exact RNum_inc x id proc obj arg sec done res inv ret b off cap w hc0 hv
      · by_cases m3 : meth = 5
        · subst m3
          exact RNum_dec x id proc obj arg sec done res inv ret b off cap w hc0 hv
        · have e : numberL x ⟨id, proc, obj, 2, meth, arg, sec, done, res, inv, ret⟩ = ([], 0, false) := by simp [numberL, m1, m2, m3]
          rw [e]
          exact RNum_o2 x id proc obj meth arg sec done res inv ret b off cap w hc0 hv m1 m2 m3
end Go.Proofs.Ytookcollmijjkaa
