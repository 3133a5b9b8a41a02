/- What the reference's number computes. What the reference's without and with compute: a list without a number, and with it in its place. What the reference's Do computes. What the reference's Do computes: numbers and sets. What the reference's Do computes: queues and stacks. What the reference's Do computes, at every operation. -/
import Derived.Test.YtlhgdbangnohjaaMNumber
import Derived.Deep.QuietTactic
import Derived.Test.YtlhgdbangnohjaaMAll
import Derived.Test.YtlhgdbangnohjaaMListDo
import Derived.Deep.RegionHeld3
import Derived.Deep.Upon
import Derived.Maps.AppendAt
namespace Go.Proofs.Ytlhgdbangnohjaa
open Go.RowKit
set_option linter.unusedVariables false
set_option linter.unusedSimpArgs false
/-- A slice that lies where another one lies, or in a block from one on. -/
def Kin (v0 : Value) (B : Nat) (v : Value) : Prop := ∀ b off n c, v = .slice (some ⟨b, off, none⟩) n c → 0 < n → B ≤ b ∨ ∃ off' n' c', v0 = .slice (some ⟨b, off', none⟩) n' c' ∧ 0 < n'
theorem Kin.nil {v0 : Value} {B n c : Nat} : Kin v0 B (.slice none n c) := fun b off n c h _ => by cases h
theorem Kin.same {v0 : Value} {B : Nat} : Kin v0 B v0 := fun b off n c h h0 => .inr ⟨_, _, _, h, h0⟩
theorem Kin.new {v0 v : Value} {B : Nat} (h : ∀ b off n c, v = .slice (some ⟨b, off, none⟩) n c → B ≤ b) : Kin v0 B v := fun b off n c e _ => .inl (h b off n c e)
theorem Kin.within {B b off n c off' n' c' : Nat} (h : n' ≤ n) : Kin (.slice (some ⟨b, off, none⟩) n c) B (.slice (some ⟨b, off', none⟩) n' c') := fun b' off'' n'' c'' e e0 => by
  cases e
  exact .inr ⟨_, _, _, rfl, Nat.lt_of_lt_of_le e0 h⟩
/-- The reference's Done. -/
def DonePost (r : List Int × Int × Bool) (v0 : Value) (w : World) (e : Ending) (w' : World) : Prop := ∃ v, e = .returned (.agg #[v, .int .i64 r.2.1, .bool r.2.2]) ∧ Ints w' v r.1 ∧ Grow w w' ∧ Kin v0 w.heap.size v
theorem results_rowM {P : Program} {fn : Func} {p : Tmp} {ty : TypeId} (h : fn.results = #[.cell p ty]) (tmps : Array Value) (w : World) (g : Nat) (t : TypeId) (cs : Array Value) (fr : Nat × Nat) (d : TypeDesc)
    (hp : tmps.getD p undef = .pointer (some ⟨g, 0, none⟩)) (hg : w.heap[g]? = some (.cells cs t fr))
    (hu : P.underlying ty = some d) (hd : (match d with | .struct _ | .array _ _ => true | _ => false) = true) (hi : (P.info? ty).map (·.size) = some cs.size) :
    (results fn tmps).run P w = .ok (.agg cs) w := by
  have hp' : tmps[p]?.getD undef = .pointer (some ⟨g, 0, none⟩) := by simpa using hp
  simp [results, h, hp', asAddr, Result.andThen, run_loadVar_row w g t ty cs fr d hg hu hd hi]
theorem done3 {W : World} {g : Nat} {a b c : Value} {e : TypeId} {fr : Nat × Nat} (h : W.heap[g]? = some (.cells #[a, b, c] e fr)) (v n t : Value) : (((W.setCell ⟨g, 0, none⟩ v).setCell ⟨g, 1, none⟩ n).setCell ⟨g, 2, none⟩ t).heap[g]? = some (.cells #[v, n, t] e fr) :=
  heap_set (heap_set (heap_set h 0 _) 1 _) 2 _
theorem done3_grow {w W : World} {g : Nat} (h : Grow w W) (hg : w.heap.size ≤ g) (v n t : Value) : Grow w (((W.setCell ⟨g, 0, none⟩ v).setCell ⟨g, 1, none⟩ n).setCell ⟨g, 2, none⟩ t) :=
  Below.setCell (Below.setCell (Below.setCell h hg v) hg n) hg t
theorem done3_size {W : World} {g n0 : Nat} (h : n0 = W.heap.size) (v n t : Value) : n0 = (((W.setCell ⟨g, 0, none⟩ v).setCell ⟨g, 1, none⟩ n).setCell ⟨g, 2, none⟩ t).heap.size := by
  simp [h]
theorem done3_other {W : World} {g k : Nat} (hk : k ≠ g) (v n t : Value) : (((W.setCell ⟨g, 0, none⟩ v).setCell ⟨g, 1, none⟩ n).setCell ⟨g, 2, none⟩ t).heap[k]? = W.heap[k]? := by
  rw [Below.heap_setCell _ _ _ _ hk, Below.heap_setCell _ _ _ _ hk, Below.heap_setCell _ _ _ _ hk]
theorem DonePost.intro {r : List Int × Int × Bool} {w w' : World} {v : Value} {n : Int} {b : Bool} (hn : n = r.2.1) (hb : b = r.2.2) (hi : Ints w' v r.1) (hg : Grow w w') {v0 : Value} (hk : Kin v0 w.heap.size v) : DonePost r v0 w (.returned (.agg #[v, .int .i64 n, .bool b])) w' := by
  subst hn hb
  exact ⟨v, rfl, hi, hg, hk⟩
/-- The same, and where its numbers lie: it is the slice that came in, or one of the call's own. -/
def NumPost (r : List Int × Int × Bool) (v0 : Value) (w : World) (e : Ending) (w' : World) : Prop := ∃ v, e = .returned (.agg #[v, .int .i64 r.2.1, .bool r.2.2]) ∧ Ints w' v r.1 ∧ Grow w w' ∧ (v = v0 ∨ ∀ b off n c, v = .slice (some ⟨b, off, none⟩) n c → w.heap.size ≤ b)
theorem NumPost.intro {r : List Int × Int × Bool} {v0 : Value} {w w' : World} {v : Value} {n : Int} {b : Bool} (hn : n = r.2.1) (hb : b = r.2.2) (hi : Ints w' v r.1) (hg : Grow w w') (hf : v = v0 ∨ ∀ b off n c, v = .slice (some ⟨b, off, none⟩) n c → w.heap.size ≤ b) : NumPost r v0 w (.returned (.agg #[v, .int .i64 n, .bool b])) w' := by
  subst hn hb
  exact ⟨v, rfl, hi, hg, hf⟩
theorem Ints.set {w : World} {v : Value} {xs : List Int} (h : Ints w v xs) (g o : Nat) (u : Value) (hf : ∀ b off n c, v = .slice (some ⟨b, off, none⟩) n c → b ≠ g) : Ints (w.setCell ⟨g, o, none⟩ u) v xs := by
  obtain ⟨p, cap, rfl, hl, hc, hcap⟩ := h
  refine ⟨p, cap, rfl, hl, fun h0 => ?_, hcap⟩
  obtain ⟨b, off, rfl, hcell⟩ := hc h0
  have hne := hf b off _ _ rfl
  refine ⟨b, off, rfl, fun i hi => ?_⟩
  rw [← hcell i hi]
  exact World.cell?_of_block (Below.heap_setCell _ _ _ _ hne)
theorem done_ret {P : Program} {fn : Func} {p : Tmp} {ty e : TypeId} {g : Nat} {fr : Nat × Nat} {d : TypeDesc} {Pst : Ending → World → Prop} {a : Act} {w : World} {v : Value} {n : Int} {b : Bool} (h : fn.results = #[.cell p ty])
    (hp : a.tmps.getD p undef = .pointer (some ⟨g, 0, none⟩)) (hu : P.underlying ty = some d) (hd : (match d with | .struct _ | .array _ _ => true | _ => false) = true) (hi : (P.info? ty).map (·.size) = some 3) (hdf : a.defers = [])
    (hg : w.heap[g]? = some (.cells #[v, .int .i64 n, .bool b] e fr)) (hP : Pst (.returned (.agg #[v, .int .i64 n, .bool b])) w) : bodyPost P fn Pst Exit.ret a w :=
  bodyPost_ret (results_rowM h _ _ g e _ fr d hp hg hu hd hi) hdf hP
set_option maxRecDepth 100000 in
set_option maxHeartbeats 4000000 in
theorem RNumberBad_c (xs : List Int) (o : OpR) (v : Value) (w : World) (hv : Ints w v xs) (hx : xs.length ≠ 1) : Calls Try.prog 62 #[v, .agg #[.int .i64 o.id, .int .i64 o.proc, .int .i64 o.obj, .int .i64 o.kind, .int .i64 o.meth, .int .i64 o.arg, .int .i64 o.sec, .bool o.done, .int .i64 o.res, .int .i64 o.inv, .int .i64 o.ret]] w (NumPost ([], 0, false) v w) := by
  have hl := hv.length
  obtain ⟨p, cap, rfl, hc⟩ := hv.at
  clear hc hv
  obtain ⟨id, proc, obj, kind, meth, arg, sec, done, res, inv, ret⟩ := o
  dsimp only
  generalize xs.length = n at *
  have hne : ((n : Int) != 1) = true := by simp; omega
  go_enter Try.func62, Try.ntmps62
  go_wp2_with fail
  (try simp only [Exit.inBlock, Exit.then])
  refine done_ret (fn := Try.f62) (p := 4) (g := w.heap.size + 1) (e := 96) (fr := (0, 0)) (v := .slice none 0 0) (n := 0) (b := false) rfl rfl Try.underlying96 rfl (by kernel_rfl) rfl ?hg ?hP
  case hg => exact heap_newAt (g := w.heap.size + 1) (w.alloc (.cells #[.int .i64 id, .int .i64 proc, .int .i64 obj, .int .i64 kind, .int .i64 meth, .int .i64 arg, .int .i64 sec, .bool done, .int .i64 res, .int .i64 inv, .int .i64 ret] 52)) (.cells #[.slice none 0 0, .int .i64 0, .bool false] 96) (by simp)
  case hP => exact NumPost.intro rfl rfl (Ints.nil _) (Grow.trans (Grow.alloc _ _) (Grow.alloc _ _)) (.inr (fun b' off' n' c' h => by cases h))
set_option maxRecDepth 100000 in
set_option maxHeartbeats 4000000 in
theorem RNum_r1 (x id proc obj arg sec : Int) (done : Bool) (res inv ret : Int) (b off cap : Nat) (w : World) (hc0 : w.cell? ⟨b, off, none⟩ = some (.int .i64 x)) (hv : Ints w (.slice (some ⟨b, off, none⟩) 1 cap) [x]) :
    Calls Try.prog 62 #[.slice (some ⟨b, off, none⟩) 1 cap, .agg #[.int .i64 id, .int .i64 proc, .int .i64 obj, .int .i64 1, .int .i64 1, .int .i64 arg, .int .i64 sec, .bool done, .int .i64 res, .int .i64 inv, .int .i64 ret]] w (NumPost ([x], x, true) (.slice (some ⟨b, off, none⟩) 1 cap) w) := by
  have HV := hid hv
  clear hv
  have hblt := World.block_lt_of_cell? w _ hc0
  simp only at hblt
  have HB := hid (heap_newAt (g := w.heap.size + 1) (w.alloc (.cells #[.int .i64 id, .int .i64 proc, .int .i64 obj, .int .i64 1, .int .i64 1, .int .i64 arg, .int .i64 sec, .bool done, .int .i64 res, .int .i64 inv, .int .i64 ret] 52)) (.cells #[.slice none 0 0, .int .i64 0, .bool false] 96) (by simp))
  have HG := hid (Grow.trans (Grow.alloc w (.cells #[.int .i64 id, .int .i64 proc, .int .i64 obj, .int .i64 1, .int .i64 1, .int .i64 arg, .int .i64 sec, .bool done, .int .i64 res, .int .i64 inv, .int .i64 ret] 52)) (Grow.alloc _ (.cells #[.slice none 0 0, .int .i64 0, .bool false] 96)))
  have HBN := hid (fun k => show (((w.alloc (.cells #[.int .i64 id, .int .i64 proc, .int .i64 obj, .int .i64 1, .int .i64 1, .int .i64 arg, .int .i64 sec, .bool done, .int .i64 res, .int .i64 inv, .int .i64 ret] 52)).alloc (.cells #[.slice none 0 0, .int .i64 0, .bool false] 96)).drewN k).heap[w.heap.size + 1]? = _ from HB.out)
  have h01 : w.heap.size ≤ w.heap.size + 1 := by omega
  have hsz := hid (show w.heap.size + 1 + 1 = ((w.alloc (.cells #[.int .i64 id, .int .i64 proc, .int .i64 obj, .int .i64 1, .int .i64 1, .int .i64 arg, .int .i64 sec, .bool done, .int .i64 res, .int .i64 inv, .int .i64 ret] 52)).alloc (.cells #[.slice none 0 0, .int .i64 0, .bool false] 96)).heap.size from by simp)
  have hszN := hid (fun k => show w.heap.size + 1 + 1 = (((w.alloc (.cells #[.int .i64 id, .int .i64 proc, .int .i64 obj, .int .i64 1, .int .i64 1, .int .i64 arg, .int .i64 sec, .bool done, .int .i64 res, .int .i64 inv, .int .i64 ret] 52)).alloc (.cells #[.slice none 0 0, .int .i64 0, .bool false] 96)).drewN k).heap.size from hsz.out)
  have h12 : w.heap.size + 1 + 1 ≠ w.heap.size + 1 := by omega
  go_enter Try.func62, Try.ntmps62
  go_wp2_with fail
  (try simp only [Exit.inBlock, Exit.then])
  refine done_ret (fn := Try.f62) (p := 4) (g := w.heap.size + 1) (e := 96) (fr := (0, 0)) (v := (.slice (some ⟨b, off, none⟩) 1 cap)) (n := x) (b := true) rfl rfl Try.underlying96 rfl (by kernel_rfl) rfl ?hg ?hP
  case hg => exact heap_newAt (g := w.heap.size + 1) (w.alloc (.cells #[.int .i64 id, .int .i64 proc, .int .i64 obj, .int .i64 1, .int .i64 1, .int .i64 arg, .int .i64 sec, .bool done, .int .i64 res, .int .i64 inv, .int .i64 ret] 52)) (.cells #[.slice (some ⟨b, off, none⟩) 1 cap, .int .i64 x, .bool true] 96) (by simp)
  case hP => exact NumPost.intro rfl rfl (HV.out.grow (Grow.trans (Grow.alloc _ _) (Grow.alloc _ _))) (Grow.trans (Grow.alloc _ _) (Grow.alloc _ _)) (.inl rfl)
set_option maxRecDepth 100000 in
set_option maxHeartbeats 4000000 in
theorem RNum_r2 (x id proc obj arg sec : Int) (done : Bool) (res inv ret : Int) (b off cap : Nat) (w : World) (hc0 : w.cell? ⟨b, off, none⟩ = some (.int .i64 x)) (hv : Ints w (.slice (some ⟨b, off, none⟩) 1 cap) [x]) :
    Calls Try.prog 62 #[.slice (some ⟨b, off, none⟩) 1 cap, .agg #[.int .i64 id, .int .i64 proc, .int .i64 obj, .int .i64 2, .int .i64 1, .int .i64 arg, .int .i64 sec, .bool done, .int .i64 res, .int .i64 inv, .int .i64 ret]] w (NumPost ([x], x, true) (.slice (some ⟨b, off, none⟩) 1 cap) w) := by
  have HV := hid hv
  clear hv
  have hblt := World.block_lt_of_cell? w _ hc0
  simp only at hblt
  have HB := hid (heap_newAt (g := w.heap.size + 1) (w.alloc (.cells #[.int .i64 id, .int .i64 proc, .int .i64 obj, .int .i64 2, .int .i64 1, .int .i64 arg, .int .i64 sec, .bool done, .int .i64 res, .int .i64 inv, .int .i64 ret] 52)) (.cells #[.slice none 0 0, .int .i64 0, .bool false] 96) (by simp))
  have HG := hid (Grow.trans (Grow.alloc w (.cells #[.int .i64 id, .int .i64 proc, .int .i64 obj, .int .i64 2, .int .i64 1, .int .i64 arg, .int .i64 sec, .bool done, .int .i64 res, .int .i64 inv, .int .i64 ret] 52)) (Grow.alloc _ (.cells #[.slice none 0 0, .int .i64 0, .bool false] 96)))
  have HBN := hid (fun k => show (((w.alloc (.cells #[.int .i64 id, .int .i64 proc, .int .i64 obj, .int .i64 2, .int .i64 1, .int .i64 arg, .int .i64 sec, .bool done, .int .i64 res, .int .i64 inv, .int .i64 ret] 52)).alloc (.cells #[.slice none 0 0, .int .i64 0, .bool false] 96)).drewN k).heap[w.heap.size + 1]? = _ from HB.out)
  have h01 : w.heap.size ≤ w.heap.size + 1 := by omega
  have hsz := hid (show w.heap.size + 1 + 1 = ((w.alloc (.cells #[.int .i64 id, .int .i64 proc, .int .i64 obj, .int .i64 2, .int .i64 1, .int .i64 arg, .int .i64 sec, .bool done, .int .i64 res, .int .i64 inv, .int .i64 ret] 52)).alloc (.cells #[.slice none 0 0, .int .i64 0, .bool false] 96)).heap.size from by simp)
  have hszN := hid (fun k => show w.heap.size + 1 + 1 = (((w.alloc (.cells #[.int .i64 id, .int .i64 proc, .int .i64 obj, .int .i64 2, .int .i64 1, .int .i64 arg, .int .i64 sec, .bool done, .int .i64 res, .int .i64 inv, .int .i64 ret] 52)).alloc (.cells #[.slice none 0 0, .int .i64 0, .bool false] 96)).drewN k).heap.size from hsz.out)
  have h12 : w.heap.size + 1 + 1 ≠ w.heap.size + 1 := by omega
  go_enter Try.func62, Try.ntmps62
  go_wp2_with fail
  (try simp only [Exit.inBlock, Exit.then])
  refine done_ret (fn := Try.f62) (p := 4) (g := w.heap.size + 1) (e := 96) (fr := (0, 0)) (v := (.slice (some ⟨b, off, none⟩) 1 cap)) (n := x) (b := true) rfl rfl Try.underlying96 rfl (by kernel_rfl) rfl ?hg ?hP
  case hg => exact heap_newAt (g := w.heap.size + 1) (w.alloc (.cells #[.int .i64 id, .int .i64 proc, .int .i64 obj, .int .i64 2, .int .i64 1, .int .i64 arg, .int .i64 sec, .bool done, .int .i64 res, .int .i64 inv, .int .i64 ret] 52)) (.cells #[.slice (some ⟨b, off, none⟩) 1 cap, .int .i64 x, .bool true] 96) (by simp)
  case hP => exact NumPost.intro rfl rfl (HV.out.grow (Grow.trans (Grow.alloc _ _) (Grow.alloc _ _))) (Grow.trans (Grow.alloc _ _) (Grow.alloc _ _)) (.inl rfl)
set_option maxRecDepth 100000 in
set_option maxHeartbeats 4000000 in
theorem RNum_w (x id proc obj arg sec : Int) (done : Bool) (res inv ret : Int) (b off cap : Nat) (w : World) (hc0 : w.cell? ⟨b, off, none⟩ = some (.int .i64 x)) (hv : Ints w (.slice (some ⟨b, off, none⟩) 1 cap) [x]) :
    Calls Try.prog 62 #[.slice (some ⟨b, off, none⟩) 1 cap, .agg #[.int .i64 id, .int .i64 proc, .int .i64 obj, .int .i64 1, .int .i64 2, .int .i64 arg, .int .i64 sec, .bool done, .int .i64 res, .int .i64 inv, .int .i64 ret]] w (NumPost ([arg], 0, true) (.slice (some ⟨b, off, none⟩) 1 cap) w) := by
  have HV := hid hv
  clear hv
  have hblt := World.block_lt_of_cell? w _ hc0
  simp only at hblt
  have HB := hid (heap_newAt (g := w.heap.size + 1) (w.alloc (.cells #[.int .i64 id, .int .i64 proc, .int .i64 obj, .int .i64 1, .int .i64 2, .int .i64 arg, .int .i64 sec, .bool done, .int .i64 res, .int .i64 inv, .int .i64 ret] 52)) (.cells #[.slice none 0 0, .int .i64 0, .bool false] 96) (by simp))
  have HG := hid (Grow.trans (Grow.alloc w (.cells #[.int .i64 id, .int .i64 proc, .int .i64 obj, .int .i64 1, .int .i64 2, .int .i64 arg, .int .i64 sec, .bool done, .int .i64 res, .int .i64 inv, .int .i64 ret] 52)) (Grow.alloc _ (.cells #[.slice none 0 0, .int .i64 0, .bool false] 96)))
  have HBN := hid (fun k => show (((w.alloc (.cells #[.int .i64 id, .int .i64 proc, .int .i64 obj, .int .i64 1, .int .i64 2, .int .i64 arg, .int .i64 sec, .bool done, .int .i64 res, .int .i64 inv, .int .i64 ret] 52)).alloc (.cells #[.slice none 0 0, .int .i64 0, .bool false] 96)).drewN k).heap[w.heap.size + 1]? = _ from HB.out)
  have h01 : w.heap.size ≤ w.heap.size + 1 := by omega
  have hsz := hid (show w.heap.size + 1 + 1 = ((w.alloc (.cells #[.int .i64 id, .int .i64 proc, .int .i64 obj, .int .i64 1, .int .i64 2, .int .i64 arg, .int .i64 sec, .bool done, .int .i64 res, .int .i64 inv, .int .i64 ret] 52)).alloc (.cells #[.slice none 0 0, .int .i64 0, .bool false] 96)).heap.size from by simp)
  have hszN := hid (fun k => show w.heap.size + 1 + 1 = (((w.alloc (.cells #[.int .i64 id, .int .i64 proc, .int .i64 obj, .int .i64 1, .int .i64 2, .int .i64 arg, .int .i64 sec, .bool done, .int .i64 res, .int .i64 inv, .int .i64 ret] 52)).alloc (.cells #[.slice none 0 0, .int .i64 0, .bool false] 96)).drewN k).heap.size from hsz.out)
  have h12 : w.heap.size + 1 + 1 ≠ w.heap.size + 1 := by omega
  go_enter Try.func62, Try.ntmps62
  go_wp2_with fail
  (try simp only [Exit.inBlock, Exit.then])
  refine done_ret (fn := Try.f62) (p := 4) (g := w.heap.size + 1) (e := 96) (fr := (0, 0)) (v := (.slice (some ⟨w.heap.size + 1 + 1, 0, none⟩) 1 1)) (n := 0) (b := true) rfl rfl Try.underlying96 rfl (by kernel_rfl) rfl ?hg ?hP
  case hg => exact (Grow.alloc _ _).heap (heap_newAt (g := w.heap.size + 1) (w.alloc (.cells #[.int .i64 id, .int .i64 proc, .int .i64 obj, .int .i64 1, .int .i64 2, .int .i64 arg, .int .i64 sec, .bool done, .int .i64 res, .int .i64 inv, .int .i64 ret] 52)) (.cells #[.slice (some ⟨w.heap.size + 1 + 1, 0, none⟩) 1 1, .int .i64 0, .bool true] 96) (by simp))
  case hP => exact NumPost.intro rfl rfl (Ints.one (heap_newAt (g := w.heap.size + 1 + 1) ((w.alloc (.cells #[.int .i64 id, .int .i64 proc, .int .i64 obj, .int .i64 1, .int .i64 2, .int .i64 arg, .int .i64 sec, .bool done, .int .i64 res, .int .i64 inv, .int .i64 ret] 52)).alloc (.cells #[.slice (some ⟨w.heap.size + 1 + 1, 0, none⟩) 1 1, .int .i64 0, .bool true] 96)) (.cells #[.int .i64 arg] 3) (by simp))) (Grow.trans (Grow.trans (Grow.alloc _ _) (Grow.alloc _ _)) (Grow.alloc _ _)) (.inr (fun b' off' n' c' h => by cases h; omega))
set_option maxRecDepth 100000 in
set_option maxHeartbeats 4000000 in
theorem RNum_ce (x id proc obj arg sec : Int) (done : Bool) (res inv ret : Int) (b off cap : Nat) (w : World) (hc0 : w.cell? ⟨b, off, none⟩ = some (.int .i64 x)) (hv : Ints w (.slice (some ⟨b, off, none⟩) 1 cap) [x]) (hxa : (x == arg) = true) :
    Calls Try.prog 62 #[.slice (some ⟨b, off, none⟩) 1 cap, .agg #[.int .i64 id, .int .i64 proc, .int .i64 obj, .int .i64 1, .int .i64 3, .int .i64 arg, .int .i64 sec, .bool done, .int .i64 res, .int .i64 inv, .int .i64 ret]] w (NumPost ([sec], 1, true) (.slice (some ⟨b, off, none⟩) 1 cap) w) := by
  have HV := hid hv
  clear hv
  have hblt := World.block_lt_of_cell? w _ hc0
  simp only at hblt
  have HB := hid (heap_newAt (g := w.heap.size + 1) (w.alloc (.cells #[.int .i64 id, .int .i64 proc, .int .i64 obj, .int .i64 1, .int .i64 3, .int .i64 arg, .int .i64 sec, .bool done, .int .i64 res, .int .i64 inv, .int .i64 ret] 52)) (.cells #[.slice none 0 0, .int .i64 0, .bool false] 96) (by simp))
  have HG := hid (Grow.trans (Grow.alloc w (.cells #[.int .i64 id, .int .i64 proc, .int .i64 obj, .int .i64 1, .int .i64 3, .int .i64 arg, .int .i64 sec, .bool done, .int .i64 res, .int .i64 inv, .int .i64 ret] 52)) (Grow.alloc _ (.cells #[.slice none 0 0, .int .i64 0, .bool false] 96)))
  have HBN := hid (fun k => show (((w.alloc (.cells #[.int .i64 id, .int .i64 proc, .int .i64 obj, .int .i64 1, .int .i64 3, .int .i64 arg, .int .i64 sec, .bool done, .int .i64 res, .int .i64 inv, .int .i64 ret] 52)).alloc (.cells #[.slice none 0 0, .int .i64 0, .bool false] 96)).drewN k).heap[w.heap.size + 1]? = _ from HB.out)
  have h01 : w.heap.size ≤ w.heap.size + 1 := by omega
  have hsz := hid (show w.heap.size + 1 + 1 = ((w.alloc (.cells #[.int .i64 id, .int .i64 proc, .int .i64 obj, .int .i64 1, .int .i64 3, .int .i64 arg, .int .i64 sec, .bool done, .int .i64 res, .int .i64 inv, .int .i64 ret] 52)).alloc (.cells #[.slice none 0 0, .int .i64 0, .bool false] 96)).heap.size from by simp)
  have hszN := hid (fun k => show w.heap.size + 1 + 1 = (((w.alloc (.cells #[.int .i64 id, .int .i64 proc, .int .i64 obj, .int .i64 1, .int .i64 3, .int .i64 arg, .int .i64 sec, .bool done, .int .i64 res, .int .i64 inv, .int .i64 ret] 52)).alloc (.cells #[.slice none 0 0, .int .i64 0, .bool false] 96)).drewN k).heap.size from hsz.out)
  have h12 : w.heap.size + 1 + 1 ≠ w.heap.size + 1 := by omega
  go_enter Try.func62, Try.ntmps62
  go_wp2_with fail
  go_quiet (fail)
  go_wp2_with fail
  (try simp only [Exit.inBlock, Exit.then])
  refine done_ret (fn := Try.f62) (p := 4) (g := w.heap.size + 1) (e := 96) (fr := (0, 0)) (v := (.slice (some ⟨w.heap.size + 1 + 1, 0, none⟩) 1 1)) (n := 1) (b := true) rfl rfl Try.underlying96 rfl (by kernel_rfl) rfl ?hg ?hP
  case hg => with_reducible exact (Grow.alloc _ _).heap (done3 (HBN.out _) _ _ _)
  case hP => exact NumPost.intro rfl rfl (Ints.one (heap_newAt _ _ (done3_size (hszN.out _) _ _ _))) (Grow.trans (done3_grow (Grow.drewNM HG.out _) h01 _ _ _) (Grow.alloc _ _)) (.inr (fun b' off' n' c' h => by cases h; omega))
set_option maxRecDepth 100000 in
set_option maxHeartbeats 4000000 in
theorem RNum_cn (x id proc obj arg sec : Int) (done : Bool) (res inv ret : Int) (b off cap : Nat) (w : World) (hc0 : w.cell? ⟨b, off, none⟩ = some (.int .i64 x)) (hv : Ints w (.slice (some ⟨b, off, none⟩) 1 cap) [x]) (hxa : (x == arg) = false) :
    Calls Try.prog 62 #[.slice (some ⟨b, off, none⟩) 1 cap, .agg #[.int .i64 id, .int .i64 proc, .int .i64 obj, .int .i64 1, .int .i64 3, .int .i64 arg, .int .i64 sec, .bool done, .int .i64 res, .int .i64 inv, .int .i64 ret]] w (NumPost ([x], 0, true) (.slice (some ⟨b, off, none⟩) 1 cap) w) := by
  have HV := hid hv
  clear hv
  have hblt := World.block_lt_of_cell? w _ hc0
  simp only at hblt
  have HB := hid (heap_newAt (g := w.heap.size + 1) (w.alloc (.cells #[.int .i64 id, .int .i64 proc, .int .i64 obj, .int .i64 1, .int .i64 3, .int .i64 arg, .int .i64 sec, .bool done, .int .i64 res, .int .i64 inv, .int .i64 ret] 52)) (.cells #[.slice none 0 0, .int .i64 0, .bool false] 96) (by simp))
  have HG := hid (Grow.trans (Grow.alloc w (.cells #[.int .i64 id, .int .i64 proc, .int .i64 obj, .int .i64 1, .int .i64 3, .int .i64 arg, .int .i64 sec, .bool done, .int .i64 res, .int .i64 inv, .int .i64 ret] 52)) (Grow.alloc _ (.cells #[.slice none 0 0, .int .i64 0, .bool false] 96)))
  have HBN := hid (fun k => show (((w.alloc (.cells #[.int .i64 id, .int .i64 proc, .int .i64 obj, .int .i64 1, .int .i64 3, .int .i64 arg, .int .i64 sec, .bool done, .int .i64 res, .int .i64 inv, .int .i64 ret] 52)).alloc (.cells #[.slice none 0 0, .int .i64 0, .bool false] 96)).drewN k).heap[w.heap.size + 1]? = _ from HB.out)
  have h01 : w.heap.size ≤ w.heap.size + 1 := by omega
  have hsz := hid (show w.heap.size + 1 + 1 = ((w.alloc (.cells #[.int .i64 id, .int .i64 proc, .int .i64 obj, .int .i64 1, .int .i64 3, .int .i64 arg, .int .i64 sec, .bool done, .int .i64 res, .int .i64 inv, .int .i64 ret] 52)).alloc (.cells #[.slice none 0 0, .int .i64 0, .bool false] 96)).heap.size from by simp)
  have hszN := hid (fun k => show w.heap.size + 1 + 1 = (((w.alloc (.cells #[.int .i64 id, .int .i64 proc, .int .i64 obj, .int .i64 1, .int .i64 3, .int .i64 arg, .int .i64 sec, .bool done, .int .i64 res, .int .i64 inv, .int .i64 ret] 52)).alloc (.cells #[.slice none 0 0, .int .i64 0, .bool false] 96)).drewN k).heap.size from hsz.out)
  have h12 : w.heap.size + 1 + 1 ≠ w.heap.size + 1 := by omega
  go_enter Try.func62, Try.ntmps62
  go_wp2_with fail
  go_quiet (fail)
  go_wp2_with fail
  (try simp only [Exit.inBlock, Exit.then])
  refine done_ret (fn := Try.f62) (p := 4) (g := w.heap.size + 1) (e := 96) (fr := (0, 0)) (v := (.slice (some ⟨b, off, none⟩) 1 cap)) (n := 0) (b := true) rfl rfl Try.underlying96 rfl (by kernel_rfl) rfl ?hg ?hP
  case hg => with_reducible exact done3 (HBN.out _) _ _ _
  case hP => exact NumPost.intro rfl rfl (HV.out.grow (done3_grow (Grow.drewNM HG.out _) h01 _ _ _)) (done3_grow (Grow.drewNM HG.out _) h01 _ _ _) (.inl rfl)
set_option maxRecDepth 100000 in
set_option maxHeartbeats 4000000 in
theorem RNum_o1 (x id proc obj meth arg sec : Int) (done : Bool) (res inv ret : Int) (b off cap : Nat) (w : World) (hc0 : w.cell? ⟨b, off, none⟩ = some (.int .i64 x)) (hv : Ints w (.slice (some ⟨b, off, none⟩) 1 cap) [x]) (m1 : ¬ meth = 1) (m2 : ¬ meth = 2) (m3 : ¬ meth = 3) :
    Calls Try.prog 62 #[.slice (some ⟨b, off, none⟩) 1 cap, .agg #[.int .i64 id, .int .i64 proc, .int .i64 obj, .int .i64 1, .int .i64 meth, .int .i64 arg, .int .i64 sec, .bool done, .int .i64 res, .int .i64 inv, .int .i64 ret]] w (NumPost ([], 0, false) (.slice (some ⟨b, off, none⟩) 1 cap) w) := by
  have HV := hid hv
  clear hv
  have hblt := World.block_lt_of_cell? w _ hc0
  simp only at hblt
  have HB := hid (heap_newAt (g := w.heap.size + 1) (w.alloc (.cells #[.int .i64 id, .int .i64 proc, .int .i64 obj, .int .i64 1, .int .i64 meth, .int .i64 arg, .int .i64 sec, .bool done, .int .i64 res, .int .i64 inv, .int .i64 ret] 52)) (.cells #[.slice none 0 0, .int .i64 0, .bool false] 96) (by simp))
  have HG := hid (Grow.trans (Grow.alloc w (.cells #[.int .i64 id, .int .i64 proc, .int .i64 obj, .int .i64 1, .int .i64 meth, .int .i64 arg, .int .i64 sec, .bool done, .int .i64 res, .int .i64 inv, .int .i64 ret] 52)) (Grow.alloc _ (.cells #[.slice none 0 0, .int .i64 0, .bool false] 96)))
  have HBN := hid (fun k => show (((w.alloc (.cells #[.int .i64 id, .int .i64 proc, .int .i64 obj, .int .i64 1, .int .i64 meth, .int .i64 arg, .int .i64 sec, .bool done, .int .i64 res, .int .i64 inv, .int .i64 ret] 52)).alloc (.cells #[.slice none 0 0, .int .i64 0, .bool false] 96)).drewN k).heap[w.heap.size + 1]? = _ from HB.out)
  have h01 : w.heap.size ≤ w.heap.size + 1 := by omega
  have hsz := hid (show w.heap.size + 1 + 1 = ((w.alloc (.cells #[.int .i64 id, .int .i64 proc, .int .i64 obj, .int .i64 1, .int .i64 meth, .int .i64 arg, .int .i64 sec, .bool done, .int .i64 res, .int .i64 inv, .int .i64 ret] 52)).alloc (.cells #[.slice none 0 0, .int .i64 0, .bool false] 96)).heap.size from by simp)
  have hszN := hid (fun k => show w.heap.size + 1 + 1 = (((w.alloc (.cells #[.int .i64 id, .int .i64 proc, .int .i64 obj, .int .i64 1, .int .i64 meth, .int .i64 arg, .int .i64 sec, .bool done, .int .i64 res, .int .i64 inv, .int .i64 ret] 52)).alloc (.cells #[.slice none 0 0, .int .i64 0, .bool false] 96)).drewN k).heap.size from hsz.out)
  have h12 : w.heap.size + 1 + 1 ≠ w.heap.size + 1 := by omega
  go_enter Try.func62, Try.ntmps62
  go_wp2_with fail
  go_quiet (fail)
  go_wp2_with fail
  (try simp only [Exit.inBlock, Exit.then])
  refine done_ret (fn := Try.f62) (p := 4) (g := w.heap.size + 1) (e := 96) (fr := (0, 0)) (v := (.slice none 0 0)) (n := 0) (b := false) rfl rfl Try.underlying96 rfl (by kernel_rfl) rfl ?hg ?hP
  case hg => with_reducible exact done3 (HBN.out _) _ _ _
  case hP => exact NumPost.intro rfl rfl (Ints.nil _) (done3_grow (Grow.drewNM HG.out _) h01 _ _ _) (.inr (fun b' off' n' c' h => by cases h))
set_option maxRecDepth 100000 in
set_option maxHeartbeats 4000000 in
theorem RNum_inc (x id proc obj arg sec : Int) (done : Bool) (res inv ret : Int) (b off cap : Nat) (w : World) (hc0 : w.cell? ⟨b, off, none⟩ = some (.int .i64 x)) (hv : Ints w (.slice (some ⟨b, off, none⟩) 1 cap) [x]) :
    Calls Try.prog 62 #[.slice (some ⟨b, off, none⟩) 1 cap, .agg #[.int .i64 id, .int .i64 proc, .int .i64 obj, .int .i64 2, .int .i64 4, .int .i64 arg, .int .i64 sec, .bool done, .int .i64 res, .int .i64 inv, .int .i64 ret]] w (NumPost ([wrap64 (x + 1)], 0, true) (.slice (some ⟨b, off, none⟩) 1 cap) w) := by
  have HV := hid hv
  clear hv
  have hblt := World.block_lt_of_cell? w _ hc0
  simp only at hblt
  have HB := hid (heap_newAt (g := w.heap.size + 1) (w.alloc (.cells #[.int .i64 id, .int .i64 proc, .int .i64 obj, .int .i64 2, .int .i64 4, .int .i64 arg, .int .i64 sec, .bool done, .int .i64 res, .int .i64 inv, .int .i64 ret] 52)) (.cells #[.slice none 0 0, .int .i64 0, .bool false] 96) (by simp))
  have HG := hid (Grow.trans (Grow.alloc w (.cells #[.int .i64 id, .int .i64 proc, .int .i64 obj, .int .i64 2, .int .i64 4, .int .i64 arg, .int .i64 sec, .bool done, .int .i64 res, .int .i64 inv, .int .i64 ret] 52)) (Grow.alloc _ (.cells #[.slice none 0 0, .int .i64 0, .bool false] 96)))
  have HBN := hid (fun k => show (((w.alloc (.cells #[.int .i64 id, .int .i64 proc, .int .i64 obj, .int .i64 2, .int .i64 4, .int .i64 arg, .int .i64 sec, .bool done, .int .i64 res, .int .i64 inv, .int .i64 ret] 52)).alloc (.cells #[.slice none 0 0, .int .i64 0, .bool false] 96)).drewN k).heap[w.heap.size + 1]? = _ from HB.out)
  have h01 : w.heap.size ≤ w.heap.size + 1 := by omega
  have hsz := hid (show w.heap.size + 1 + 1 = ((w.alloc (.cells #[.int .i64 id, .int .i64 proc, .int .i64 obj, .int .i64 2, .int .i64 4, .int .i64 arg, .int .i64 sec, .bool done, .int .i64 res, .int .i64 inv, .int .i64 ret] 52)).alloc (.cells #[.slice none 0 0, .int .i64 0, .bool false] 96)).heap.size from by simp)
  have hszN := hid (fun k => show w.heap.size + 1 + 1 = (((w.alloc (.cells #[.int .i64 id, .int .i64 proc, .int .i64 obj, .int .i64 2, .int .i64 4, .int .i64 arg, .int .i64 sec, .bool done, .int .i64 res, .int .i64 inv, .int .i64 ret] 52)).alloc (.cells #[.slice none 0 0, .int .i64 0, .bool false] 96)).drewN k).heap.size from hsz.out)
  have h12 : w.heap.size + 1 + 1 ≠ w.heap.size + 1 := by omega
  go_enter Try.func62, Try.ntmps62
  go_wp2_with fail
  go_quiet (fail)
  go_wp2_with fail
  (try simp only [Exit.inBlock, Exit.then])
  refine done_ret (fn := Try.f62) (p := 4) (g := w.heap.size + 1) (e := 96) (fr := (0, 0)) (v := (.slice (some ⟨w.heap.size + 1 + 1, 0, none⟩) 1 1)) (n := 0) (b := true) rfl rfl Try.underlying96 rfl (by kernel_rfl) rfl ?hg ?hP
  case hg => with_reducible exact (Grow.alloc _ _).heap (done3 (HBN.out _) _ _ _)
  case hP => exact NumPost.intro rfl rfl (Ints.one (heap_newAt _ _ (done3_size (hszN.out _) _ _ _))) (Grow.trans (done3_grow (Grow.drewNM HG.out _) h01 _ _ _) (Grow.alloc _ _)) (.inr (fun b' off' n' c' h => by cases h; omega))
set_option maxRecDepth 100000 in
set_option maxHeartbeats 4000000 in
theorem RNum_dec (x id proc obj arg sec : Int) (done : Bool) (res inv ret : Int) (b off cap : Nat) (w : World) (hc0 : w.cell? ⟨b, off, none⟩ = some (.int .i64 x)) (hv : Ints w (.slice (some ⟨b, off, none⟩) 1 cap) [x]) :
    Calls Try.prog 62 #[.slice (some ⟨b, off, none⟩) 1 cap, .agg #[.int .i64 id, .int .i64 proc, .int .i64 obj, .int .i64 2, .int .i64 5, .int .i64 arg, .int .i64 sec, .bool done, .int .i64 res, .int .i64 inv, .int .i64 ret]] w (NumPost ([wrap64 (x - 1)], 0, true) (.slice (some ⟨b, off, none⟩) 1 cap) w) := by
  have HV := hid hv
  clear hv
  have hblt := World.block_lt_of_cell? w _ hc0
  simp only at hblt
  have HB := hid (heap_newAt (g := w.heap.size + 1) (w.alloc (.cells #[.int .i64 id, .int .i64 proc, .int .i64 obj, .int .i64 2, .int .i64 5, .int .i64 arg, .int .i64 sec, .bool done, .int .i64 res, .int .i64 inv, .int .i64 ret] 52)) (.cells #[.slice none 0 0, .int .i64 0, .bool false] 96) (by simp))
  have HG := hid (Grow.trans (Grow.alloc w (.cells #[.int .i64 id, .int .i64 proc, .int .i64 obj, .int .i64 2, .int .i64 5, .int .i64 arg, .int .i64 sec, .bool done, .int .i64 res, .int .i64 inv, .int .i64 ret] 52)) (Grow.alloc _ (.cells #[.slice none 0 0, .int .i64 0, .bool false] 96)))
  have HBN := hid (fun k => show (((w.alloc (.cells #[.int .i64 id, .int .i64 proc, .int .i64 obj, .int .i64 2, .int .i64 5, .int .i64 arg, .int .i64 sec, .bool done, .int .i64 res, .int .i64 inv, .int .i64 ret] 52)).alloc (.cells #[.slice none 0 0, .int .i64 0, .bool false] 96)).drewN k).heap[w.heap.size + 1]? = _ from HB.out)
  have h01 : w.heap.size ≤ w.heap.size + 1 := by omega
  have hsz := hid (show w.heap.size + 1 + 1 = ((w.alloc (.cells #[.int .i64 id, .int .i64 proc, .int .i64 obj, .int .i64 2, .int .i64 5, .int .i64 arg, .int .i64 sec, .bool done, .int .i64 res, .int .i64 inv, .int .i64 ret] 52)).alloc (.cells #[.slice none 0 0, .int .i64 0, .bool false] 96)).heap.size from by simp)
  have hszN := hid (fun k => show w.heap.size + 1 + 1 = (((w.alloc (.cells #[.int .i64 id, .int .i64 proc, .int .i64 obj, .int .i64 2, .int .i64 5, .int .i64 arg, .int .i64 sec, .bool done, .int .i64 res, .int .i64 inv, .int .i64 ret] 52)).alloc (.cells #[.slice none 0 0, .int .i64 0, .bool false] 96)).drewN k).heap.size from hsz.out)
  have h12 : w.heap.size + 1 + 1 ≠ w.heap.size + 1 := by omega
  go_enter Try.func62, Try.ntmps62
  go_wp2_with fail
  go_quiet (fail)
  go_wp2_with fail
  (try simp only [Exit.inBlock, Exit.then])
  refine done_ret (fn := Try.f62) (p := 4) (g := w.heap.size + 1) (e := 96) (fr := (0, 0)) (v := (.slice (some ⟨w.heap.size + 1 + 1, 0, none⟩) 1 1)) (n := 0) (b := true) rfl rfl Try.underlying96 rfl (by kernel_rfl) rfl ?hg ?hP
  case hg => with_reducible exact (Grow.alloc _ _).heap (done3 (HBN.out _) _ _ _)
  case hP => exact NumPost.intro rfl rfl (Ints.one (heap_newAt _ _ (done3_size (hszN.out _) _ _ _))) (Grow.trans (done3_grow (Grow.drewNM HG.out _) h01 _ _ _) (Grow.alloc _ _)) (.inr (fun b' off' n' c' h => by cases h; omega))
set_option maxRecDepth 100000 in
set_option maxHeartbeats 4000000 in
theorem RNum_o2 (x id proc obj meth arg sec : Int) (done : Bool) (res inv ret : Int) (b off cap : Nat) (w : World) (hc0 : w.cell? ⟨b, off, none⟩ = some (.int .i64 x)) (hv : Ints w (.slice (some ⟨b, off, none⟩) 1 cap) [x]) (m1 : ¬ meth = 1) (m2 : ¬ meth = 4) (m3 : ¬ meth = 5) :
    Calls Try.prog 62 #[.slice (some ⟨b, off, none⟩) 1 cap, .agg #[.int .i64 id, .int .i64 proc, .int .i64 obj, .int .i64 2, .int .i64 meth, .int .i64 arg, .int .i64 sec, .bool done, .int .i64 res, .int .i64 inv, .int .i64 ret]] w (NumPost ([], 0, false) (.slice (some ⟨b, off, none⟩) 1 cap) w) := by
  have HV := hid hv
  clear hv
  have hblt := World.block_lt_of_cell? w _ hc0
  simp only at hblt
  have HB := hid (heap_newAt (g := w.heap.size + 1) (w.alloc (.cells #[.int .i64 id, .int .i64 proc, .int .i64 obj, .int .i64 2, .int .i64 meth, .int .i64 arg, .int .i64 sec, .bool done, .int .i64 res, .int .i64 inv, .int .i64 ret] 52)) (.cells #[.slice none 0 0, .int .i64 0, .bool false] 96) (by simp))
  have HG := hid (Grow.trans (Grow.alloc w (.cells #[.int .i64 id, .int .i64 proc, .int .i64 obj, .int .i64 2, .int .i64 meth, .int .i64 arg, .int .i64 sec, .bool done, .int .i64 res, .int .i64 inv, .int .i64 ret] 52)) (Grow.alloc _ (.cells #[.slice none 0 0, .int .i64 0, .bool false] 96)))
  have HBN := hid (fun k => show (((w.alloc (.cells #[.int .i64 id, .int .i64 proc, .int .i64 obj, .int .i64 2, .int .i64 meth, .int .i64 arg, .int .i64 sec, .bool done, .int .i64 res, .int .i64 inv, .int .i64 ret] 52)).alloc (.cells #[.slice none 0 0, .int .i64 0, .bool false] 96)).drewN k).heap[w.heap.size + 1]? = _ from HB.out)
  have h01 : w.heap.size ≤ w.heap.size + 1 := by omega
  have hsz := hid (show w.heap.size + 1 + 1 = ((w.alloc (.cells #[.int .i64 id, .int .i64 proc, .int .i64 obj, .int .i64 2, .int .i64 meth, .int .i64 arg, .int .i64 sec, .bool done, .int .i64 res, .int .i64 inv, .int .i64 ret] 52)).alloc (.cells #[.slice none 0 0, .int .i64 0, .bool false] 96)).heap.size from by simp)
  have hszN := hid (fun k => show w.heap.size + 1 + 1 = (((w.alloc (.cells #[.int .i64 id, .int .i64 proc, .int .i64 obj, .int .i64 2, .int .i64 meth, .int .i64 arg, .int .i64 sec, .bool done, .int .i64 res, .int .i64 inv, .int .i64 ret] 52)).alloc (.cells #[.slice none 0 0, .int .i64 0, .bool false] 96)).drewN k).heap.size from hsz.out)
  have h12 : w.heap.size + 1 + 1 ≠ w.heap.size + 1 := by omega
  go_enter Try.func62, Try.ntmps62
  go_wp2_with fail
  go_quiet (fail)
  go_wp2_with fail
  (try simp only [Exit.inBlock, Exit.then])
  refine done_ret (fn := Try.f62) (p := 4) (g := w.heap.size + 1) (e := 96) (fr := (0, 0)) (v := (.slice none 0 0)) (n := 0) (b := false) rfl rfl Try.underlying96 rfl (by kernel_rfl) rfl ?hg ?hP
  case hg => with_reducible exact done3 (HBN.out _) _ _ _
  case hP => exact NumPost.intro rfl rfl (Ints.nil _) (done3_grow (Grow.drewNM HG.out _) h01 _ _ _) (.inr (fun b' off' n' c' h => by cases h))
theorem RNumber_c (x : Int) (o : OpR) (v : Value) (w : World) (hv : Ints w v [x]) (hk : o.kind = 1 ∨ o.kind = 2) : Calls Try.prog 62 #[v, .agg #[.int .i64 o.id, .int .i64 o.proc, .int .i64 o.obj, .int .i64 o.kind, .int .i64 o.meth, .int .i64 o.arg, .int .i64 o.sec, .bool o.done, .int .i64 o.res, .int .i64 o.inv, .int .i64 o.ret]] w (NumPost (numberL x o) v w) := by
  obtain ⟨p, cap, rfl, hc⟩ := hv.at
  obtain ⟨b, off, rfl, hc0⟩ := hc 0 (by simp)
  replace hc0 : w.cell? ⟨b, off, none⟩ = some (.int .i64 x) := hc0
  replace hv : Ints w (.slice (some ⟨b, off, none⟩) 1 cap) [x] := hv
  show Calls _ _ #[.slice (some ⟨b, off, none⟩) 1 cap, _] _ _
  obtain ⟨id, proc, obj, kind, meth, arg, sec, done, res, inv, ret⟩ := o
  dsimp only at *
  rcases hk with rfl | rfl
  · by_cases m1 : meth = 1
    · subst m1
      exact RNum_r1 x id proc obj arg sec done res inv ret b off cap w hc0 hv
    · by_cases m2 : meth = 2
      · subst m2
        exact RNum_w x id proc obj arg sec done res inv ret b off cap w hc0 hv
      · by_cases m3 : meth = 3
        · subst m3
          by_cases hx : x = arg
          · have e : numberL x ⟨id, proc, obj, 1, 3, arg, sec, done, res, inv, ret⟩ = ([sec], 1, true) := by simp [numberL, hx]
            rw [e]
            exact RNum_ce x id proc obj arg sec done res inv ret b off cap w hc0 hv (by simpa using hx)
          · have e : numberL x ⟨id, proc, obj, 1, 3, arg, sec, done, res, inv, ret⟩ = ([x], 0, true) := by simp [numberL, hx]
            rw [e]
            exact RNum_cn x id proc obj arg sec done res inv ret b off cap w hc0 hv (by simpa using hx)
        · have e : numberL x ⟨id, proc, obj, 1, meth, arg, sec, done, res, inv, ret⟩ = ([], 0, false) := by simp [numberL, m1, m2, m3]
          rw [e]
          exact RNum_o1 x id proc obj meth arg sec done res inv ret b off cap w hc0 hv m1 m2 m3
  · by_cases m1 : meth = 1
    · subst m1
      exact RNum_r2 x id proc obj arg sec done res inv ret b off cap w hc0 hv
    · by_cases m2 : meth = 4
      · subst m2
        exact RNum_inc x id proc obj arg sec done res inv ret b off cap w hc0 hv
      · by_cases m3 : meth = 5
        · subst m3
          exact RNum_dec x id proc obj arg sec done res inv ret b off cap w hc0 hv
        · have e : numberL x ⟨id, proc, obj, 2, meth, arg, sec, done, res, inv, ret⟩ = ([], 0, false) := by simp [numberL, m1, m2, m3]
          rw [e]
          exact RNum_o2 x id proc obj meth arg sec done res inv ret b off cap w hc0 hv m1 m2 m3
end Go.Proofs.Ytlhgdbangnohjaa
namespace Go.Proofs.Ytlhgdbangnohjaa
open Go.RowKit
set_option linter.unusedVariables false
set_option linter.unusedSimpArgs false
theorem take_succ_getD (xs : List Int) (k : Nat) (hk : k < xs.length) : xs.take (k + 1) = xs.take k ++ [xs.getD k 0] := by
  rw [List.take_succ_eq_append_getElem hk]; simp [List.getD, hk]
theorem drop_getD (xs : List Int) (k : Nat) (hk : k < xs.length) : xs.drop k = xs.getD k 0 :: xs.drop (k + 1) := by
  rw [List.drop_eq_getElem_cons hk]; simp [List.getD, hk]
theorem filter_len_le (xs : List Int) (x : Int) (k : Nat) : ((xs.take k).filter (fun y => decide (y ≠ x))).length ≤ k := by
  have := List.length_filter_le (fun y => decide (y ≠ x)) (xs.take k)
  rw [List.length_take] at this
  omega
set_option maxRecDepth 100000 in
set_option maxHeartbeats 4000000 in
theorem without_c (xs : List Int) (x : Int) (v : Value) (w : World) (hv : Ints w v xs) (hn : xs.length + 1 ≤ 17592186044416) :
    Calls Try.prog 63 #[v, .int .i64 x] w fun e w' => ∃ v', e = .returned v' ∧ Ints w' v' (xs.filter (fun y => decide (y ≠ x))) ∧ Grow w w' ∧ ∀ b off n c, v' = .slice (some ⟨b, off, none⟩) n c → w.heap.size ≤ b := by
  obtain ⟨p, cap, rfl, hc⟩ := hv.at
  have HC := hid hc
  have HT := hid (fun k hk => take_succ_getD xs k hk)
  have HL := hid (fun k => filter_len_le xs x k)
  clear hc hv
  obtain ⟨n, hN⟩ : ∃ n, n = xs.length := ⟨_, rfl⟩
  rw [← hN]
  rw [← hN] at hn
  have HN := hid hN
  clear hN
  go_enter Try.func63, Try.ntmps63
  go_wp2_with fail
  go_loopw [6, 5] (fun i s wr => ∃ k : Nat, k ≤ n ∧ i = .int .i64 (k : Int) ∧ Hid (wr.ownsRow w.heap.size 3 1 s ((xs.take k).filter (fun y => decide (y ≠ x))).length (i64s ((xs.take k).filter (fun y => decide (y ≠ x))))) ∧ Grow w wr) (fun i _ _ => n - (intOf i).toNat)
  case atStart => exact ⟨0, by omega, rfl, hid (by simpa [i64s] using World.ownsRow_nil _ _ _ _), Grow.refl _⟩
  case round =>
    obtain ⟨k, hk, rfl, HO, hg⟩ := hrel
    have hown := HO.out
    obtain ⟨A, c, rfl⟩ := own_formM hown
    have HFar := hid (show ∀ b off, A = some ⟨b, off, none⟩ → w.heap.size ≤ b from fun b off h => (hown.lt b (by rw [h]; rfl)).1)
    by_cases hlt : k < n
    · obtain ⟨b0, o0, rfl, a0⟩ := HC.out k (by have := HN.out; omega)
      replace a0 := hg.cell a0
      have hk0 : (0 : Int) ≤ (k : Int) := by omega
      have hk1 : (k : Int) < (n : Int) := by omega
      have ht := HT.out k (by have := HN.out; omega)
      have hle := HL.out k
      by_cases hxy : xs.getD k 0 = x
      · have hf : (xs.take (k + 1)).filter (fun y => decide (y ≠ x)) = (xs.take k).filter (fun y => decide (y ≠ x)) := by rw [ht, List.filter_append]; generalize xs.getD k 0 = y at hxy ⊢; simp [hxy]
        have HF := hid hf
        have HY := hid hxy
        clear hf ht hown
        have hd : (xs.getD k 0 != x) = false := by generalize xs.getD k 0 = y at hxy ⊢; simp [hxy]
        clear hxy
        generalize xs.getD k 0 = y at *
        go_wp2_with fail
        go_roundw
        case rel => exact ⟨k + 1, by omega, by go_num, hid (by rw [HF.out]; exact HO.out), hg⟩
        case measure => simp [intOf]; omega
      · have hf : (xs.take (k + 1)).filter (fun y => decide (y ≠ x)) = (xs.take k).filter (fun y => decide (y ≠ x)) ++ [xs.getD k 0] := by rw [ht, List.filter_append]; generalize xs.getD k 0 = y at hxy ⊢; simp [hxy]
        have HF := hid hf
        clear hf ht
        have hd : (xs.getD k 0 != x) = true := by generalize xs.getD k 0 = y at hxy ⊢; simp [hxy]
        have HY := hid hxy
        clear hxy
        generalize xs.getD k 0 = y at *
        generalize (xs.take k).filter (fun y => decide (y ≠ x)) = acc at *
        obtain ⟨m, hM⟩ : ∃ m, m = acc.length := ⟨_, rfl⟩
        rw [← hM] at hown
        rw [← hM] at hle
        rw [← hM]
        have HM := hid hM
        clear hM HO
        have hsz := hg.size
        go_wp2_with (at_builtin; refine wpList_pushH _ rfl rfl _ _ 23 rfl 3 (.int .i64 0) 1 8 Try.underlying23 infoIntM rfl (by omega) w.heap.size _ m _ rfl hown [_] rfl rfl (by simp [Value.oneCell']) (by unfold maxLen; omega) (by omega) hsz ?_)
        intro v' w' ho hgr hs'
        rw [push_intM] at ho
        have hg6 : Grow w w' := Row.below hg hgr hsz (fun k hk => (hown.lt k hk).1)
        go_wp2_with fail
        go_roundw
        case rel => exact ⟨k + 1, by omega, by go_num, hid (by rw [HF.out, List.length_append, ← HM.out]; exact ho), hg6⟩
        case measure => simp [intOf]; omega
    · obtain rfl : k = n := by omega
      have e4 : xs.take k = xs := List.take_of_length_le (by have := HN.out; omega)
      have hI := Ints.of_own hown (by have := HL.out k; omega)
      rw [e4] at hI
      have HI := hid hI
      clear hI e4 hown
      obtain ⟨m, hM⟩ : ∃ m, m = ((xs.take k).filter (fun y => decide (y ≠ x))).length := ⟨_, rfl⟩
      have e5 : ((xs.take k).filter (fun y => decide (y ≠ x))).length = m := hM.symm
      have HI' := HI
      have e6 : xs.take k = xs := List.take_of_length_le (by have := HN.out; omega)
      rw [e6] at e5
      rw [e5] at HI'
      rw [e6, e5]
      clear HI e6
      have HI2 := hid HI'.out
      go_wp2_with fail
      go_ret
      exact ⟨_, rfl, HI2.out, hg, fun b off n c h => HFar.out b off (by cases h; rfl)⟩
set_option maxRecDepth 100000 in
set_option maxHeartbeats 4000000 in
theorem with_c (xs : List Int) (x : Int) (v : Value) (w : World) (hv : Ints w v xs) (hn : xs.length + 1 ≤ 17592186044416) :
    Calls Try.prog 64 #[v, .int .i64 x] w fun e w' => ∃ v', e = .returned v' ∧ Ints w' v' (insL x xs) ∧ Grow w w' ∧ ∀ b off n c, v' = .slice (some ⟨b, off, none⟩) n c → w.heap.size ≤ b := by
  obtain ⟨p, cap, rfl, hc⟩ := hv.at
  have HC := hid hc
  have HT := hid (fun k hk => drop_getD xs k hk)
  clear hc hv
  obtain ⟨n, hN⟩ : ∃ n, n = xs.length := ⟨_, rfl⟩
  rw [← hN]
  rw [← hN] at hn
  have HN := hid hN
  clear hN
  go_enter Try.func64, Try.ntmps64
  go_wp2_with fail
  go_loopw [7, 5, 6] (fun i s d wr => ∃ (k : Nat) (b : Bool) (acc : List Int) (m : Nat), k ≤ n ∧ i = .int .i64 (k : Int) ∧ d = .bool b ∧ m ≤ k + 1 ∧ (b = false → m ≤ k) ∧ Hid (insL x xs = acc ++ (if b = true then xs.drop k else insL x (xs.drop k))) ∧ Hid (m = acc.length) ∧ Hid (wr.ownsRow w.heap.size 3 1 s m (i64s acc)) ∧ Grow w wr) (fun i _ _ _ => n - (intOf i).toNat)
  case atStart => exact ⟨0, false, [], 0, by omega, rfl, rfl, by omega, by omega, hid (by simp), hid rfl, hid (World.ownsRow_nil _ _ _ _), Grow.refl _⟩
  case round =>
    obtain ⟨k, b, acc, m, hk, rfl, rfl, hm, hmf, HK, HM, HO, hg⟩ := hrel
    have hown := HO.out
    have hsz := hg.size
    obtain ⟨A, c, rfl⟩ := own_formM hown
    have HFar := hid (show ∀ b off, A = some ⟨b, off, none⟩ → w.heap.size ≤ b from fun b off h => (hown.lt b (by rw [h]; rfl)).1)
    by_cases hlt : k < n
    · obtain ⟨b0, o0, rfl, a0⟩ := HC.out k (by have := HN.out; omega)
      have ha0 := hid a0
      replace a0 := hg.cell a0
      have hk0 : (0 : Int) ≤ (k : Int) := by omega
      have hk1 : (k : Int) < (n : Int) := by omega
      have ht := HT.out k (by have := HN.out; omega)
      have hK1 := HK.out
      rw [ht] at hK1
      cases b with
      | true =>
        rw [if_pos rfl] at hK1
        have HK2 := hid hK1
        clear hK1 ht HK hmf
        generalize xs.getD k 0 = y at *
        go_wp2_with (at_builtin; refine wpList_pushH _ rfl rfl _ _ 23 rfl 3 (.int .i64 0) 1 8 Try.underlying23 infoIntM rfl (by omega) w.heap.size _ m _ rfl hown [_] rfl rfl (by simp [Value.oneCell']) (by unfold maxLen; omega) (by omega) hsz ?_)
        intro v' w' ho hgr hs'
        rw [push_intM] at ho
        have hg6 : Grow w w' := Row.below hg hgr hsz (fun k hk => (hown.lt k hk).1)
        go_wp2_with fail
        go_roundw
        case rel => exact ⟨k + 1, true, acc ++ [y], m + 1, by omega, by go_num, rfl, by omega, (fun h => by cases h), hid (by rw [HK2.out, if_pos rfl, List.append_assoc]; rfl), hid (by rw [List.length_append, ← HM.out]; rfl), hid ho, hg6⟩
        case measure => simp [intOf]; omega
      | false =>
        rw [if_neg (by simp)] at hK1
        have hmk : m ≤ k := hmf rfl
        clear hmf
        by_cases hxy : x < xs.getD k 0
        · have e : insL x (xs.getD k 0 :: xs.drop (k + 1)) = x :: xs.getD k 0 :: xs.drop (k + 1) := by show (if x < xs.getD k 0 then _ else _) = _; rw [if_pos hxy]
          rw [e] at hK1
          have HK2 := hid hK1
          have hd : decide (x < xs.getD k 0) = true := decide_eq_true hxy
          clear hK1 ht HK e hxy
          generalize xs.getD k 0 = y at *
          go_wp2_with (at_builtin; refine wpList_pushH _ rfl rfl _ _ 23 rfl 3 (.int .i64 0) 1 8 Try.underlying23 infoIntM rfl (by omega) w.heap.size _ m _ rfl hown [_] rfl rfl (by simp [Value.oneCell']) (by unfold maxLen; omega) (by omega) hsz ?_)
          intro v' w' ho hgr hs'
          rw [push_intM] at ho
          have hg6 : Grow w w' := Row.below hg hgr hsz (fun k hk => (hown.lt k hk).1)
          replace a0 := hg6.cell ha0.out
          have hsz6 := hg6.size
          obtain ⟨A2, c2, rfl⟩ := own_formM ho
          go_wp2_with (at_builtin; refine wpList_pushH _ rfl rfl _ _ 23 rfl 3 (.int .i64 0) 1 8 Try.underlying23 infoIntM rfl (by omega) w.heap.size _ (m + 1) _ rfl ho [_] rfl rfl (by simp [Value.oneCell']) (by unfold maxLen; omega) (by omega) hsz6 ?_)
          intro v7 w7 ho7 hgr7 hs7
          rw [push_intM] at ho7
          have hg7 : Grow w w7 := Row.below hg6 hgr7 hsz6 (fun k hk => (ho.lt k hk).1)
          go_wp2_with fail
          go_roundw
          case rel => exact ⟨k + 1, true, acc ++ [x] ++ [y], m + 2, by omega, by go_num, rfl, by omega, (fun h => by cases h), hid (by rw [HK2.out, if_pos rfl, List.append_assoc, List.append_assoc]; rfl), hid (by rw [List.length_append, List.length_append, ← HM.out]; rfl), hid ho7, hg7⟩
          case measure => simp [intOf]; omega
        · have e : insL x (xs.getD k 0 :: xs.drop (k + 1)) = xs.getD k 0 :: insL x (xs.drop (k + 1)) := by show (if x < xs.getD k 0 then _ else _) = _; rw [if_neg hxy]
          rw [e] at hK1
          have HK2 := hid hK1
          have hd : decide (x < xs.getD k 0) = false := decide_eq_false hxy
          clear hK1 ht HK e hxy
          generalize xs.getD k 0 = y at *
          go_wp2_with (at_builtin; refine wpList_pushH _ rfl rfl _ _ 23 rfl 3 (.int .i64 0) 1 8 Try.underlying23 infoIntM rfl (by omega) w.heap.size _ m _ rfl hown [_] rfl rfl (by simp [Value.oneCell']) (by unfold maxLen; omega) (by omega) hsz ?_)
          intro v' w' ho hgr hs'
          rw [push_intM] at ho
          have hg6 : Grow w w' := Row.below hg hgr hsz (fun k hk => (hown.lt k hk).1)
          go_wp2_with fail
          go_roundw
          case rel => exact ⟨k + 1, false, acc ++ [y], m + 1, by omega, by go_num, rfl, by omega, (fun _ => by omega), hid (by rw [HK2.out, if_neg (by simp), List.append_assoc]; rfl), hid (by rw [List.length_append, ← HM.out]; rfl), hid ho, hg6⟩
          case measure => simp [intOf]; omega
    · obtain rfl : k = n := by omega
      have e4 : xs.drop k = [] := List.drop_eq_nil_of_le (by have := HN.out; omega)
      have hK1 := HK.out
      rw [e4] at hK1
      clear HK e4
      cases b with
      | true =>
        rw [if_pos rfl, List.append_nil] at hK1
        have HI := hid (Ints.of_own hown (by omega))
        have HK2 := hid hK1
        clear hK1 hown HO
        go_wp2_with fail
        go_ret
        exact ⟨_, rfl, by rw [HK2.out]; exact HI.out, hg, fun b off n c h => HFar.out b off (by cases h; rfl)⟩
      | false =>
        rw [if_neg (by simp)] at hK1
        have hmk : m ≤ k := hmf rfl
        clear hmf
        have HK2 := hid hK1
        clear hK1
        go_wp2_with (at_builtin; refine wpList_pushH _ rfl rfl _ _ 23 rfl 3 (.int .i64 0) 1 8 Try.underlying23 infoIntM rfl (by omega) w.heap.size _ m _ rfl hown [_] rfl rfl (by simp [Value.oneCell']) (by unfold maxLen; omega) (by omega) hsz ?_)
        intro v' w' ho hgr hs'
        rw [push_intM] at ho
        have hg6 : Grow w w' := Row.below hg hgr hsz (fun k hk => (hown.lt k hk).1)
        have HI := hid (Ints.of_own ho (by omega))
        have HFar2 := hid (fun b off n c (h : v' = .slice (some ⟨b, off, none⟩) n c) => (ho.lt b (by rw [h]; rfl)).1)
        go_wp2_with fail
        go_ret
        exact ⟨_, rfl, by rw [HK2.out]; exact HI.out, hg6, HFar2.out⟩
end Go.Proofs.Ytlhgdbangnohjaa
namespace Go.Proofs.Ytlhgdbangnohjaa
open Go.RowKit
set_option linter.unusedVariables false
set_option linter.unusedSimpArgs false
/-- What a later world says of the two blocks that the function makes first. -/
structure Own2 (w wy : World) (proc arg : Int) : Prop where
  grow : Grow w wy
  lt : w.heap.size + 1 < wy.heap.size
  blk : wy.heap[w.heap.size + 1]? = some (.cells #[.slice none 0 0, .int .i64 0, .bool false] 96 (0, 0))
  c1 : wy.cell? ⟨w.heap.size, 1, none⟩ = some (.int .i64 proc)
  c5 : wy.cell? ⟨w.heap.size, 5, none⟩ = some (.int .i64 arg)
theorem Own2.mk' {w wy : World} {id proc obj kind meth arg sec res inv ret : Int} {done : Bool} (h : Grow ((w.alloc (.cells #[.int .i64 id, .int .i64 proc, .int .i64 obj, .int .i64 kind, .int .i64 meth, .int .i64 arg, .int .i64 sec, .bool done, .int .i64 res, .int .i64 inv, .int .i64 ret] 52)).alloc (.cells #[.slice none 0 0, .int .i64 0, .bool false] 96)) wy) : Own2 w wy proc arg where
  grow := Grow.trans (Grow.trans (Grow.alloc w _) (Grow.alloc _ _)) h
  lt := by have := h.size; simp at this; omega
  blk := h.heap (heap_newAt (g := w.heap.size + 1) _ _ (by simp))
  c1 := by rw [heap_cell (h.heap (heap_alloc_keep (heap_new w _) _))]; rfl
  c5 := by rw [heap_cell (h.heap (heap_alloc_keep (heap_new w _) _))]; rfl
theorem Own2.next {w a b : World} {proc arg : Int} (h : Own2 w a proc arg) (g : Grow a b) : Own2 w b proc arg where
  grow := Grow.trans h.grow g
  lt := Nat.lt_of_lt_of_le h.lt g.size
  blk := g.heap h.blk
  c1 := g.cell h.c1
  c5 := g.cell h.c5
theorem Own2.d0 {w a : World} {proc arg : Int} (h : Own2 w a proc arg) : a.cell? ⟨w.heap.size + 1, 0, none⟩ = some (.slice none 0 0) := by rw [heap_cell h.blk]; rfl
theorem Own2.d1 {w a : World} {proc arg : Int} (h : Own2 w a proc arg) : a.cell? ⟨w.heap.size + 1, 1, none⟩ = some (.int .i64 0) := by rw [heap_cell h.blk]; rfl
theorem Own2.d2 {w a : World} {proc arg : Int} (h : Own2 w a proc arg) : a.cell? ⟨w.heap.size + 1, 2, none⟩ = some (.bool false) := by rw [heap_cell h.blk]; rfl
theorem Own2.f0 {w a : World} {proc arg : Int} (h : Own2 w a proc arg) : a.frozen? ⟨w.heap.size + 1, 0, none⟩ = false := heap_frozen h.blk 0 (by omega)
theorem Own2.f1 {w a : World} {proc arg : Int} (h : Own2 w a proc arg) : a.frozen? ⟨w.heap.size + 1, 1, none⟩ = false := heap_frozen h.blk 1 (by omega)
theorem Own2.f2 {w a : World} {proc arg : Int} (h : Own2 w a proc arg) : a.frozen? ⟨w.heap.size + 1, 2, none⟩ = false := heap_frozen h.blk 2 (by omega)
theorem Own2.new {w a b : World} {proc arg : Int} (h : Own2 w a proc arg) (g : Grow a b) (v n t : Value) : Grow w (((b.setCell ⟨w.heap.size + 1, 0, none⟩ v).setCell ⟨w.heap.size + 1, 1, none⟩ n).setCell ⟨w.heap.size + 1, 2, none⟩ t) := done3_grow (Grow.trans h.grow g) (by omega) v n t
set_option maxRecDepth 100000 in
set_option maxHeartbeats 4000000 in
theorem RDo_x (id proc obj kind meth arg sec : Int) (done : Bool) (res inv ret : Int) (v : Value) (w : World) (k1 : (kind == 1) = false) (k2 : (kind == 2) = false) (k3 : (kind == 3) = false) (k4 : (kind == 4) = false) (k5 : (kind == 5) = false) (k6 : (kind == 6) = false) (k7 : (kind != 5) = true) :
    Calls Try.prog 56 #[v, .agg #[.int .i64 id, .int .i64 proc, .int .i64 obj, .int .i64 kind, .int .i64 meth, .int .i64 arg, .int .i64 sec, .bool done, .int .i64 res, .int .i64 inv, .int .i64 ret]] w (DonePost ([], 0, false) v w) := by
  have HYF := hid (fun nq => Own2.mk' (Grow.drewNM (Grow.refl ((w.alloc (.cells #[.int .i64 id, .int .i64 proc, .int .i64 obj, .int .i64 kind, .int .i64 meth, .int .i64 arg, .int .i64 sec, .bool done, .int .i64 res, .int .i64 inv, .int .i64 ret] 52)).alloc (.cells #[.slice none 0 0, .int .i64 0, .bool false] 96))) nq))
  go_enter Try.func56, Try.ntmps56
  go_wp2_with fail
  go_quiet (fail)
  have HY := hid (HYF.out nq)
  generalize ((w.alloc (.cells #[.int .i64 id, .int .i64 proc, .int .i64 obj, .int .i64 kind, .int .i64 meth, .int .i64 arg, .int .i64 sec, .bool done, .int .i64 res, .int .i64 inv, .int .i64 ret] 52)).alloc (.cells #[.slice none 0 0, .int .i64 0, .bool false] 96)).drewN nq = wy at *
  clear HYF
  have d0 := HY.out.d0
  have d1 := HY.out.d1
  have d2 := HY.out.d2
  have f0 := HY.out.f0
  have f1 := HY.out.f1
  have f2 := HY.out.f2
  have c1 := HY.out.c1
  have c5 := HY.out.c5
  have hlt := HY.out.lt
  have h01 : w.heap.size + 1 ≠ w.heap.size := by omega
  go_wp2_with fail
  go_quiet (fail)
  go_wp2_with fail
  (try simp only [Exit.inBlock, Exit.then])
  refine done_ret (fn := Try.f56) (p := 4) (g := w.heap.size + 1) (e := 96) (fr := (0, 0)) (v := (.slice none 0 0)) (n := 0) (b := false) rfl rfl Try.underlying96 rfl (by kernel_rfl) rfl ?hg ?hP
  case hg => with_reducible exact done3 (HY.out.next (Grow.drewNM (Grow.refl wy) _)).blk _ _ _
  case hP => exact DonePost.intro rfl rfl (Ints.nil _) ((HY.out.next (Grow.drewNM (Grow.refl wy) _)).new (Grow.refl _) _ _ _) Kin.nil
set_option maxRecDepth 100000 in
set_option maxHeartbeats 4000000 in
theorem RDo_q (id proc obj meth arg sec : Int) (done : Bool) (res inv ret : Int) (v : Value) (w : World) (m1 : (meth == 6) = false) (m2 : (meth == 7) = false) :
    Calls Try.prog 56 #[v, .agg #[.int .i64 id, .int .i64 proc, .int .i64 obj, .int .i64 3, .int .i64 meth, .int .i64 arg, .int .i64 sec, .bool done, .int .i64 res, .int .i64 inv, .int .i64 ret]] w (DonePost ([], 0, false) v w) := by
  have HYF := hid (fun nq => Own2.mk' (Grow.drewNM (Grow.refl ((w.alloc (.cells #[.int .i64 id, .int .i64 proc, .int .i64 obj, .int .i64 3, .int .i64 meth, .int .i64 arg, .int .i64 sec, .bool done, .int .i64 res, .int .i64 inv, .int .i64 ret] 52)).alloc (.cells #[.slice none 0 0, .int .i64 0, .bool false] 96))) nq))
  go_enter Try.func56, Try.ntmps56
  go_wp2_with fail
  go_quiet (fail)
  have HY := hid (HYF.out nq)
  generalize ((w.alloc (.cells #[.int .i64 id, .int .i64 proc, .int .i64 obj, .int .i64 3, .int .i64 meth, .int .i64 arg, .int .i64 sec, .bool done, .int .i64 res, .int .i64 inv, .int .i64 ret] 52)).alloc (.cells #[.slice none 0 0, .int .i64 0, .bool false] 96)).drewN nq = wy at *
  clear HYF
  have d0 := HY.out.d0
  have d1 := HY.out.d1
  have d2 := HY.out.d2
  have f0 := HY.out.f0
  have f1 := HY.out.f1
  have f2 := HY.out.f2
  have c1 := HY.out.c1
  have c5 := HY.out.c5
  have hlt := HY.out.lt
  have h01 : w.heap.size + 1 ≠ w.heap.size := by omega
  go_wp2_with fail
  go_quiet (fail)
  go_wp2_with fail
  (try simp only [Exit.inBlock, Exit.then])
  refine done_ret (fn := Try.f56) (p := 4) (g := w.heap.size + 1) (e := 96) (fr := (0, 0)) (v := (.slice none 0 0)) (n := 0) (b := false) rfl rfl Try.underlying96 rfl (by kernel_rfl) rfl ?hg ?hP
  case hg => with_reducible exact done3 (HY.out.next (Grow.drewNM (Grow.refl wy) _)).blk _ _ _
  case hP => exact DonePost.intro rfl rfl (Ints.nil _) ((HY.out.next (Grow.drewNM (Grow.refl wy) _)).new (Grow.refl _) _ _ _) Kin.nil
set_option maxRecDepth 100000 in
set_option maxHeartbeats 4000000 in
theorem RDo_s (id proc obj meth arg sec : Int) (done : Bool) (res inv ret : Int) (v : Value) (w : World) (m1 : (meth == 8) = false) (m2 : (meth == 9) = false) :
    Calls Try.prog 56 #[v, .agg #[.int .i64 id, .int .i64 proc, .int .i64 obj, .int .i64 4, .int .i64 meth, .int .i64 arg, .int .i64 sec, .bool done, .int .i64 res, .int .i64 inv, .int .i64 ret]] w (DonePost ([], 0, false) v w) := by
  have HYF := hid (fun nq => Own2.mk' (Grow.drewNM (Grow.refl ((w.alloc (.cells #[.int .i64 id, .int .i64 proc, .int .i64 obj, .int .i64 4, .int .i64 meth, .int .i64 arg, .int .i64 sec, .bool done, .int .i64 res, .int .i64 inv, .int .i64 ret] 52)).alloc (.cells #[.slice none 0 0, .int .i64 0, .bool false] 96))) nq))
  go_enter Try.func56, Try.ntmps56
  go_wp2_with fail
  go_quiet (fail)
  have HY := hid (HYF.out nq)
  generalize ((w.alloc (.cells #[.int .i64 id, .int .i64 proc, .int .i64 obj, .int .i64 4, .int .i64 meth, .int .i64 arg, .int .i64 sec, .bool done, .int .i64 res, .int .i64 inv, .int .i64 ret] 52)).alloc (.cells #[.slice none 0 0, .int .i64 0, .bool false] 96)).drewN nq = wy at *
  clear HYF
  have d0 := HY.out.d0
  have d1 := HY.out.d1
  have d2 := HY.out.d2
  have f0 := HY.out.f0
  have f1 := HY.out.f1
  have f2 := HY.out.f2
  have c1 := HY.out.c1
  have c5 := HY.out.c5
  have hlt := HY.out.lt
  have h01 : w.heap.size + 1 ≠ w.heap.size := by omega
  go_wp2_with fail
  go_quiet (fail)
  go_wp2_with fail
  (try simp only [Exit.inBlock, Exit.then])
  refine done_ret (fn := Try.f56) (p := 4) (g := w.heap.size + 1) (e := 96) (fr := (0, 0)) (v := (.slice none 0 0)) (n := 0) (b := false) rfl rfl Try.underlying96 rfl (by kernel_rfl) rfl ?hg ?hP
  case hg => with_reducible exact done3 (HY.out.next (Grow.drewNM (Grow.refl wy) _)).blk _ _ _
  case hP => exact DonePost.intro rfl rfl (Ints.nil _) ((HY.out.next (Grow.drewNM (Grow.refl wy) _)).new (Grow.refl _) _ _ _) Kin.nil
set_option maxRecDepth 100000 in
set_option maxHeartbeats 4000000 in
theorem RDo_qe (id proc obj arg sec : Int) (done : Bool) (res inv ret : Int) (cap : Nat) (p : Option Addr) (w : World) :
    Calls Try.prog 56 #[.slice p 0 cap, .agg #[.int .i64 id, .int .i64 proc, .int .i64 obj, .int .i64 3, .int .i64 7, .int .i64 arg, .int .i64 sec, .bool done, .int .i64 res, .int .i64 inv, .int .i64 ret]] w (DonePost ([], -1, true) (.slice p 0 cap) w) := by
  have HYF := hid (fun nq => Own2.mk' (Grow.drewNM (Grow.refl ((w.alloc (.cells #[.int .i64 id, .int .i64 proc, .int .i64 obj, .int .i64 3, .int .i64 7, .int .i64 arg, .int .i64 sec, .bool done, .int .i64 res, .int .i64 inv, .int .i64 ret] 52)).alloc (.cells #[.slice none 0 0, .int .i64 0, .bool false] 96))) nq))
  go_enter Try.func56, Try.ntmps56
  go_wp2_with fail
  go_quiet (fail)
  have HY := hid (HYF.out nq)
  generalize ((w.alloc (.cells #[.int .i64 id, .int .i64 proc, .int .i64 obj, .int .i64 3, .int .i64 7, .int .i64 arg, .int .i64 sec, .bool done, .int .i64 res, .int .i64 inv, .int .i64 ret] 52)).alloc (.cells #[.slice none 0 0, .int .i64 0, .bool false] 96)).drewN nq = wy at *
  clear HYF
  have d0 := HY.out.d0
  have d1 := HY.out.d1
  have d2 := HY.out.d2
  have f0 := HY.out.f0
  have f1 := HY.out.f1
  have f2 := HY.out.f2
  have c1 := HY.out.c1
  have c5 := HY.out.c5
  have hlt := HY.out.lt
  have h01 : w.heap.size + 1 ≠ w.heap.size := by omega
  go_wp2_with fail
  (try simp only [Exit.inBlock, Exit.then])
  refine done_ret (fn := Try.f56) (p := 4) (g := w.heap.size + 1) (e := 96) (fr := (0, 0)) (v := (.slice none 0 0)) (n := -1) (b := true) rfl rfl Try.underlying96 rfl (by kernel_rfl) rfl ?hg ?hP
  case hg => with_reducible exact done3 HY.out.blk _ _ _
  case hP => exact DonePost.intro rfl rfl (Ints.nil _) (HY.out.new (Grow.refl _) _ _ _) Kin.nil
set_option maxRecDepth 100000 in
set_option maxHeartbeats 4000000 in
theorem RDo_se (id proc obj arg sec : Int) (done : Bool) (res inv ret : Int) (cap : Nat) (p : Option Addr) (w : World) :
    Calls Try.prog 56 #[.slice p 0 cap, .agg #[.int .i64 id, .int .i64 proc, .int .i64 obj, .int .i64 4, .int .i64 9, .int .i64 arg, .int .i64 sec, .bool done, .int .i64 res, .int .i64 inv, .int .i64 ret]] w (DonePost ([], -1, true) (.slice p 0 cap) w) := by
  have HYF := hid (fun nq => Own2.mk' (Grow.drewNM (Grow.refl ((w.alloc (.cells #[.int .i64 id, .int .i64 proc, .int .i64 obj, .int .i64 4, .int .i64 9, .int .i64 arg, .int .i64 sec, .bool done, .int .i64 res, .int .i64 inv, .int .i64 ret] 52)).alloc (.cells #[.slice none 0 0, .int .i64 0, .bool false] 96))) nq))
  go_enter Try.func56, Try.ntmps56
  go_wp2_with fail
  go_quiet (fail)
  have HY := hid (HYF.out nq)
  generalize ((w.alloc (.cells #[.int .i64 id, .int .i64 proc, .int .i64 obj, .int .i64 4, .int .i64 9, .int .i64 arg, .int .i64 sec, .bool done, .int .i64 res, .int .i64 inv, .int .i64 ret] 52)).alloc (.cells #[.slice none 0 0, .int .i64 0, .bool false] 96)).drewN nq = wy at *
  clear HYF
  have d0 := HY.out.d0
  have d1 := HY.out.d1
  have d2 := HY.out.d2
  have f0 := HY.out.f0
  have f1 := HY.out.f1
  have f2 := HY.out.f2
  have c1 := HY.out.c1
  have c5 := HY.out.c5
  have hlt := HY.out.lt
  have h01 : w.heap.size + 1 ≠ w.heap.size := by omega
  go_wp2_with fail
  (try simp only [Exit.inBlock, Exit.then])
  refine done_ret (fn := Try.f56) (p := 4) (g := w.heap.size + 1) (e := 96) (fr := (0, 0)) (v := (.slice none 0 0)) (n := -1) (b := true) rfl rfl Try.underlying96 rfl (by kernel_rfl) rfl ?hg ?hP
  case hg => with_reducible exact done3 HY.out.blk _ _ _
  case hP => exact DonePost.intro rfl rfl (Ints.nil _) (HY.out.new (Grow.refl _) _ _ _) Kin.nil
set_option maxRecDepth 100000 in
set_option maxHeartbeats 4000000 in
theorem RDo_l0 (id proc obj arg sec : Int) (done : Bool) (res inv ret : Int) (cap : Nat) (p : Option Addr) (w : World) :
    Calls Try.prog 56 #[.slice p 0 cap, .agg #[.int .i64 id, .int .i64 proc, .int .i64 obj, .int .i64 6, .int .i64 13, .int .i64 arg, .int .i64 sec, .bool done, .int .i64 res, .int .i64 inv, .int .i64 ret]] w (DonePost ([proc], 0, true) (.slice p 0 cap) w) := by
  have HYF := hid (fun nq => Own2.mk' (Grow.drewNM (Grow.refl ((w.alloc (.cells #[.int .i64 id, .int .i64 proc, .int .i64 obj, .int .i64 6, .int .i64 13, .int .i64 arg, .int .i64 sec, .bool done, .int .i64 res, .int .i64 inv, .int .i64 ret] 52)).alloc (.cells #[.slice none 0 0, .int .i64 0, .bool false] 96))) nq))
  go_enter Try.func56, Try.ntmps56
  go_wp2_with fail
  go_quiet (fail)
  have HY := hid (HYF.out nq)
  generalize ((w.alloc (.cells #[.int .i64 id, .int .i64 proc, .int .i64 obj, .int .i64 6, .int .i64 13, .int .i64 arg, .int .i64 sec, .bool done, .int .i64 res, .int .i64 inv, .int .i64 ret] 52)).alloc (.cells #[.slice none 0 0, .int .i64 0, .bool false] 96)).drewN nq = wy at *
  clear HYF
  have d0 := HY.out.d0
  have d1 := HY.out.d1
  have d2 := HY.out.d2
  have f0 := HY.out.f0
  have f1 := HY.out.f1
  have f2 := HY.out.f2
  have c1 := HY.out.c1
  have c5 := HY.out.c5
  have hlt := HY.out.lt
  have h01 : w.heap.size + 1 ≠ w.heap.size := by omega
  go_wp2_with fail
  (try simp only [Exit.inBlock, Exit.then])
  refine done_ret (fn := Try.f56) (p := 4) (g := w.heap.size + 1) (e := 96) (fr := (0, 0)) (v := (.slice (some ⟨wy.heap.size, 0, none⟩) 1 1)) (n := 0) (b := true) rfl rfl Try.underlying96 rfl (by kernel_rfl) rfl ?hg ?hP
  case hg => with_reducible exact (Grow.alloc _ _).heap (done3 HY.out.blk _ _ _)
  case hP => exact DonePost.intro rfl rfl (Ints.one (heap_newAt _ _ (done3_size rfl _ _ _))) (Grow.trans (HY.out.new (Grow.refl _) _ _ _) (Grow.alloc _ _)) (.new fun b off n c h => by cases h; omega)
set_option maxRecDepth 100000 in
set_option maxHeartbeats 4000000 in
theorem RDo_l1 (id proc obj arg sec : Int) (done : Bool) (res inv ret : Int) (p : Option Addr) (n cap : Nat) (w : World) (hn : ((n : Int) == 0) = false) :
    Calls Try.prog 56 #[.slice p n cap, .agg #[.int .i64 id, .int .i64 proc, .int .i64 obj, .int .i64 6, .int .i64 13, .int .i64 arg, .int .i64 sec, .bool done, .int .i64 res, .int .i64 inv, .int .i64 ret]] w (DonePost ([], 0, false) (.slice p n cap) w) := by
  have HYF := hid (fun nq => Own2.mk' (Grow.drewNM (Grow.refl ((w.alloc (.cells #[.int .i64 id, .int .i64 proc, .int .i64 obj, .int .i64 6, .int .i64 13, .int .i64 arg, .int .i64 sec, .bool done, .int .i64 res, .int .i64 inv, .int .i64 ret] 52)).alloc (.cells #[.slice none 0 0, .int .i64 0, .bool false] 96))) nq))
  go_enter Try.func56, Try.ntmps56
  go_wp2_with fail
  go_quiet (fail)
  have HY := hid (HYF.out nq)
  generalize ((w.alloc (.cells #[.int .i64 id, .int .i64 proc, .int .i64 obj, .int .i64 6, .int .i64 13, .int .i64 arg, .int .i64 sec, .bool done, .int .i64 res, .int .i64 inv, .int .i64 ret] 52)).alloc (.cells #[.slice none 0 0, .int .i64 0, .bool false] 96)).drewN nq = wy at *
  clear HYF
  have d0 := HY.out.d0
  have d1 := HY.out.d1
  have d2 := HY.out.d2
  have f0 := HY.out.f0
  have f1 := HY.out.f1
  have f2 := HY.out.f2
  have c1 := HY.out.c1
  have c5 := HY.out.c5
  have hlt := HY.out.lt
  have h01 : w.heap.size + 1 ≠ w.heap.size := by omega
  go_wp2_with fail
  go_quiet (fail)
  go_wp2_with fail
  (try simp only [Exit.inBlock, Exit.then])
  refine done_ret (fn := Try.f56) (p := 4) (g := w.heap.size + 1) (e := 96) (fr := (0, 0)) (v := (.slice none 0 0)) (n := 0) (b := false) rfl rfl Try.underlying96 rfl (by kernel_rfl) rfl ?hg ?hP
  case hg => with_reducible exact done3 (HY.out.next (Grow.drewNM (Grow.refl wy) _)).blk _ _ _
  case hP => exact DonePost.intro rfl rfl (Ints.nil _) ((HY.out.next (Grow.drewNM (Grow.refl wy) _)).new (Grow.refl _) _ _ _) Kin.nil
set_option maxRecDepth 100000 in
set_option maxHeartbeats 4000000 in
theorem RDo_u0 (id proc obj arg sec : Int) (done : Bool) (res inv ret : Int) (p : Option Addr) (n cap : Nat) (w : World) (hn : ((n : Int) == 1) = false) :
    Calls Try.prog 56 #[.slice p n cap, .agg #[.int .i64 id, .int .i64 proc, .int .i64 obj, .int .i64 6, .int .i64 14, .int .i64 arg, .int .i64 sec, .bool done, .int .i64 res, .int .i64 inv, .int .i64 ret]] w (DonePost ([], 0, false) (.slice p n cap) w) := by
  have HYF := hid (fun nq => Own2.mk' (Grow.drewNM (Grow.refl ((w.alloc (.cells #[.int .i64 id, .int .i64 proc, .int .i64 obj, .int .i64 6, .int .i64 14, .int .i64 arg, .int .i64 sec, .bool done, .int .i64 res, .int .i64 inv, .int .i64 ret] 52)).alloc (.cells #[.slice none 0 0, .int .i64 0, .bool false] 96))) nq))
  go_enter Try.func56, Try.ntmps56
  go_wp2_with fail
  go_quiet (fail)
  have HY := hid (HYF.out nq)
  generalize ((w.alloc (.cells #[.int .i64 id, .int .i64 proc, .int .i64 obj, .int .i64 6, .int .i64 14, .int .i64 arg, .int .i64 sec, .bool done, .int .i64 res, .int .i64 inv, .int .i64 ret] 52)).alloc (.cells #[.slice none 0 0, .int .i64 0, .bool false] 96)).drewN nq = wy at *
  clear HYF
  have d0 := HY.out.d0
  have d1 := HY.out.d1
  have d2 := HY.out.d2
  have f0 := HY.out.f0
  have f1 := HY.out.f1
  have f2 := HY.out.f2
  have c1 := HY.out.c1
  have c5 := HY.out.c5
  have hlt := HY.out.lt
  have h01 : w.heap.size + 1 ≠ w.heap.size := by omega
  go_wp2_with fail
  go_quiet (fail)
  go_wp2_with fail
  (try simp only [Exit.inBlock, Exit.then])
  refine done_ret (fn := Try.f56) (p := 4) (g := w.heap.size + 1) (e := 96) (fr := (0, 0)) (v := (.slice none 0 0)) (n := 0) (b := false) rfl rfl Try.underlying96 rfl (by kernel_rfl) rfl ?hg ?hP
  case hg => with_reducible exact done3 (HY.out.next (Grow.drewNM (Grow.refl wy) _)).blk _ _ _
  case hP => exact DonePost.intro rfl rfl (Ints.nil _) ((HY.out.next (Grow.drewNM (Grow.refl wy) _)).new (Grow.refl _) _ _ _) Kin.nil
set_option maxRecDepth 100000 in
set_option maxHeartbeats 4000000 in
theorem RDo_u1 (id proc obj arg sec : Int) (done : Bool) (res inv ret : Int) (x : Int) (b off cap : Nat) (w : World) (hc0 : w.cell? ⟨b, off, none⟩ = some (.int .i64 x)) (hx : (x == proc) = true) :
    Calls Try.prog 56 #[.slice (some ⟨b, off, none⟩) 1 cap, .agg #[.int .i64 id, .int .i64 proc, .int .i64 obj, .int .i64 6, .int .i64 14, .int .i64 arg, .int .i64 sec, .bool done, .int .i64 res, .int .i64 inv, .int .i64 ret]] w (DonePost ([], 0, true) (.slice (some ⟨b, off, none⟩) 1 cap) w) := by
  have HC0 := hid hc0
  have hblt := World.block_lt_of_cell? w _ hc0
  simp only at hblt
  clear hc0
  have HYF := hid (fun nq => Own2.mk' (Grow.drewNM (Grow.refl ((w.alloc (.cells #[.int .i64 id, .int .i64 proc, .int .i64 obj, .int .i64 6, .int .i64 14, .int .i64 arg, .int .i64 sec, .bool done, .int .i64 res, .int .i64 inv, .int .i64 ret] 52)).alloc (.cells #[.slice none 0 0, .int .i64 0, .bool false] 96))) nq))
  go_enter Try.func56, Try.ntmps56
  go_wp2_with fail
  go_quiet (fail)
  have HY := hid (HYF.out nq)
  generalize ((w.alloc (.cells #[.int .i64 id, .int .i64 proc, .int .i64 obj, .int .i64 6, .int .i64 14, .int .i64 arg, .int .i64 sec, .bool done, .int .i64 res, .int .i64 inv, .int .i64 ret] 52)).alloc (.cells #[.slice none 0 0, .int .i64 0, .bool false] 96)).drewN nq = wy at *
  clear HYF
  have d0 := HY.out.d0
  have d1 := HY.out.d1
  have d2 := HY.out.d2
  have f0 := HY.out.f0
  have f1 := HY.out.f1
  have f2 := HY.out.f2
  have c1 := HY.out.c1
  have c5 := HY.out.c5
  have hlt := HY.out.lt
  have hc0 := HY.out.grow.cell HC0.out
  have h01 : w.heap.size + 1 ≠ w.heap.size := by omega
  go_wp2_with fail
  go_quiet (fail)
  go_wp2_with fail
  (try simp only [Exit.inBlock, Exit.then])
  refine done_ret (fn := Try.f56) (p := 4) (g := w.heap.size + 1) (e := 96) (fr := (0, 0)) (v := (.slice none 0 0)) (n := 0) (b := true) rfl rfl Try.underlying96 rfl (by kernel_rfl) rfl ?hg ?hP
  case hg => with_reducible exact done3 (HY.out.next (Grow.drewNM (Grow.refl wy) _)).blk _ _ _
  case hP => exact DonePost.intro rfl rfl (Ints.nil _) ((HY.out.next (Grow.drewNM (Grow.refl wy) _)).new (Grow.refl _) _ _ _) Kin.nil
set_option maxRecDepth 100000 in
set_option maxHeartbeats 4000000 in
theorem RDo_u2 (id proc obj arg sec : Int) (done : Bool) (res inv ret : Int) (x : Int) (b off cap : Nat) (w : World) (hc0 : w.cell? ⟨b, off, none⟩ = some (.int .i64 x)) (hx : (x == proc) = false) :
    Calls Try.prog 56 #[.slice (some ⟨b, off, none⟩) 1 cap, .agg #[.int .i64 id, .int .i64 proc, .int .i64 obj, .int .i64 6, .int .i64 14, .int .i64 arg, .int .i64 sec, .bool done, .int .i64 res, .int .i64 inv, .int .i64 ret]] w (DonePost ([], 0, false) (.slice (some ⟨b, off, none⟩) 1 cap) w) := by
  have HC0 := hid hc0
  have hblt := World.block_lt_of_cell? w _ hc0
  simp only at hblt
  clear hc0
  have HYF := hid (fun nq => Own2.mk' (Grow.drewNM (Grow.refl ((w.alloc (.cells #[.int .i64 id, .int .i64 proc, .int .i64 obj, .int .i64 6, .int .i64 14, .int .i64 arg, .int .i64 sec, .bool done, .int .i64 res, .int .i64 inv, .int .i64 ret] 52)).alloc (.cells #[.slice none 0 0, .int .i64 0, .bool false] 96))) nq))
  go_enter Try.func56, Try.ntmps56
  go_wp2_with fail
  go_quiet (fail)
  have HY := hid (HYF.out nq)
  generalize ((w.alloc (.cells #[.int .i64 id, .int .i64 proc, .int .i64 obj, .int .i64 6, .int .i64 14, .int .i64 arg, .int .i64 sec, .bool done, .int .i64 res, .int .i64 inv, .int .i64 ret] 52)).alloc (.cells #[.slice none 0 0, .int .i64 0, .bool false] 96)).drewN nq = wy at *
  clear HYF
  have d0 := HY.out.d0
  have d1 := HY.out.d1
  have d2 := HY.out.d2
  have f0 := HY.out.f0
  have f1 := HY.out.f1
  have f2 := HY.out.f2
  have c1 := HY.out.c1
  have c5 := HY.out.c5
  have hlt := HY.out.lt
  have hc0 := HY.out.grow.cell HC0.out
  have h01 : w.heap.size + 1 ≠ w.heap.size := by omega
  go_wp2_with fail
  go_quiet (fail)
  go_wp2_with fail
  (try simp only [Exit.inBlock, Exit.then])
  refine done_ret (fn := Try.f56) (p := 4) (g := w.heap.size + 1) (e := 96) (fr := (0, 0)) (v := (.slice none 0 0)) (n := 0) (b := false) rfl rfl Try.underlying96 rfl (by kernel_rfl) rfl ?hg ?hP
  case hg => with_reducible exact done3 (HY.out.next (Grow.drewNM (Grow.refl wy) _)).blk _ _ _
  case hP => exact DonePost.intro rfl rfl (Ints.nil _) ((HY.out.next (Grow.drewNM (Grow.refl wy) _)).new (Grow.refl _) _ _ _) Kin.nil
set_option maxRecDepth 100000 in
set_option maxHeartbeats 4000000 in
theorem RDo_m (id proc obj meth arg sec : Int) (done : Bool) (res inv ret : Int) (v : Value) (w : World) (m1 : (meth == 13) = false) (m2 : (meth == 14) = false) :
    Calls Try.prog 56 #[v, .agg #[.int .i64 id, .int .i64 proc, .int .i64 obj, .int .i64 6, .int .i64 meth, .int .i64 arg, .int .i64 sec, .bool done, .int .i64 res, .int .i64 inv, .int .i64 ret]] w (DonePost ([], 0, false) v w) := by
  have HYF := hid (fun nq => Own2.mk' (Grow.drewNM (Grow.refl ((w.alloc (.cells #[.int .i64 id, .int .i64 proc, .int .i64 obj, .int .i64 6, .int .i64 meth, .int .i64 arg, .int .i64 sec, .bool done, .int .i64 res, .int .i64 inv, .int .i64 ret] 52)).alloc (.cells #[.slice none 0 0, .int .i64 0, .bool false] 96))) nq))
  go_enter Try.func56, Try.ntmps56
  go_wp2_with fail
  go_quiet (fail)
  have HY := hid (HYF.out nq)
  generalize ((w.alloc (.cells #[.int .i64 id, .int .i64 proc, .int .i64 obj, .int .i64 6, .int .i64 meth, .int .i64 arg, .int .i64 sec, .bool done, .int .i64 res, .int .i64 inv, .int .i64 ret] 52)).alloc (.cells #[.slice none 0 0, .int .i64 0, .bool false] 96)).drewN nq = wy at *
  clear HYF
  have d0 := HY.out.d0
  have d1 := HY.out.d1
  have d2 := HY.out.d2
  have f0 := HY.out.f0
  have f1 := HY.out.f1
  have f2 := HY.out.f2
  have c1 := HY.out.c1
  have c5 := HY.out.c5
  have hlt := HY.out.lt
  have h01 : w.heap.size + 1 ≠ w.heap.size := by omega
  go_wp2_with fail
  go_quiet (fail)
  go_wp2_with fail
  (try simp only [Exit.inBlock, Exit.then])
  refine done_ret (fn := Try.f56) (p := 4) (g := w.heap.size + 1) (e := 96) (fr := (0, 0)) (v := (.slice none 0 0)) (n := 0) (b := false) rfl rfl Try.underlying96 rfl (by kernel_rfl) rfl ?hg ?hP
  case hg => with_reducible exact done3 (HY.out.next (Grow.drewNM (Grow.refl wy) _)).blk _ _ _
  case hP => exact DonePost.intro rfl rfl (Ints.nil _) ((HY.out.next (Grow.drewNM (Grow.refl wy) _)).new (Grow.refl _) _ _ _) Kin.nil
end Go.Proofs.Ytlhgdbangnohjaa
namespace Go.Proofs.Ytlhgdbangnohjaa
open Go.RowKit
set_option linter.unusedVariables false
set_option linter.unusedSimpArgs false
theorem Ints.home {w : World} {v : Value} {xs : List Int} (h : Ints w v xs) {b off n c : Nat} (e : v = .slice (some ⟨b, off, none⟩) n c) : xs = [] ∨ b < w.heap.size := by
  by_cases h0 : xs.length = 0
  · exact .inl (List.eq_nil_of_length_eq_zero h0)
  · obtain ⟨p, cap, rfl, hc⟩ := h.at
    obtain ⟨b', off', rfl, hcell⟩ := hc 0 (by omega)
    cases e
    exact .inr (World.block_lt_of_cell? w _ hcell)
theorem Ints.same {w w' : World} {v : Value} {xs ys : List Int} (h : Ints w v xs) (h' : Ints w' v ys) : xs = [] ∨ xs.length = ys.length := by
  obtain ⟨p, cap, e1, _⟩ := h.at
  obtain ⟨q, cap', e2, _⟩ := h'.at
  rw [e1] at e2
  injection e2 with _ e3 _
  exact .inr e3
theorem Ints.sets {w : World} {v : Value} {xs : List Int} (h : Ints w v xs) {g : Nat} {a b c : Value} (hf : xs = [] ∨ ∀ b off n c, v = .slice (some ⟨b, off, none⟩) n c → b ≠ g) : Ints (((w.setCell ⟨g, 0, none⟩ a).setCell ⟨g, 1, none⟩ b).setCell ⟨g, 2, none⟩ c) v xs := by
  rcases hf with rfl | hf
  · obtain ⟨p, cap, rfl, hl, hc, hcap⟩ := h
    exact ⟨p, cap, rfl, hl, (fun h => by simp at h), hcap⟩
  · exact ((h.set _ _ _ hf).set _ _ _ hf).set _ _ _ hf
theorem Ints.apart {w : World} {p : Option Addr} {n c g : Nat} {xs : List Int} (h : Ints w (.slice p n c) xs) (hg : w.heap.size ≤ g) : xs = [] ∨ ∀ b off n' c', Value.slice p n c = .slice (some ⟨b, off, none⟩) n' c' → b ≠ g := by
  by_cases h0 : xs = []
  · exact .inl h0
  · refine .inr fun b off n' c' e => ?_
    rcases h.home e with h1 | h1
    · exact absurd h1 h0
    · omega
set_option maxRecDepth 100000 in
set_option maxHeartbeats 4000000 in
theorem RDo_num1 (id proc obj meth arg sec : Int) (done : Bool) (res inv ret : Int) (xs : List Int) (r : List Int × Int × Bool) (v : Value) (w : World) (hv : Ints w v xs) (hN : ∀ w, Ints w v xs → Calls Try.prog 62 #[v, .agg #[.int .i64 id, .int .i64 proc, .int .i64 obj, .int .i64 1, .int .i64 meth, .int .i64 arg, .int .i64 sec, .bool done, .int .i64 res, .int .i64 inv, .int .i64 ret]] w (NumPost r v w)) :
    Calls Try.prog 56 #[v, .agg #[.int .i64 id, .int .i64 proc, .int .i64 obj, .int .i64 1, .int .i64 meth, .int .i64 arg, .int .i64 sec, .bool done, .int .i64 res, .int .i64 inv, .int .i64 ret]] w (DonePost r v w) := by
  have HYF := hid (fun nq => Own2.mk' (Grow.drewNM (Grow.refl ((w.alloc (.cells #[.int .i64 id, .int .i64 proc, .int .i64 obj, .int .i64 1, .int .i64 meth, .int .i64 arg, .int .i64 sec, .bool done, .int .i64 res, .int .i64 inv, .int .i64 ret] 52)).alloc (.cells #[.slice none 0 0, .int .i64 0, .bool false] 96))) nq))
  have hlv := hid (show ∀ b off n c, v = .slice (some ⟨b, off, none⟩) n c → xs = [] ∨ b < w.heap.size from fun b off n c h => hv.home h)
  have HV := hid hv
  have HN := hid hN
  clear hv hN
  go_enter Try.func56, Try.ntmps56
  go_wp2_with fail
  go_quiet (fail)
  go_wp2_with fail
  refine (HN.out _ (HV.out.grow (Grow.drewNM (Grow.trans (Grow.alloc _ _) (Grow.alloc _ _)) _))).mono ?_
  rintro e w3 ⟨x, rfl, ix, b3, hx⟩
  obtain ⟨px, cx, rfl, -⟩ := ix.at
  have HY := hid ((HYF.out nq).next b3)
  have hsz2 : ((w.alloc (.cells #[.int .i64 id, .int .i64 proc, .int .i64 obj, .int .i64 1, .int .i64 meth, .int .i64 arg, .int .i64 sec, .bool done, .int .i64 res, .int .i64 inv, .int .i64 ret] 52)).alloc (.cells #[.slice none 0 0, .int .i64 0, .bool false] 96)).heap.size = w.heap.size + 2 := by simp
  have HX2 := hid (show Kin v w.heap.size (.slice px r.1.length cx) from by
    rcases hx with hx | hx
    · rw [hx]; exact .same
    · exact .new fun b off n c h => by have := hx b off n c h; simp at this; omega)
  have HX := hid (show Ints w3 (.slice px r.1.length cx) r.1 ∧ (r.1 = [] ∨ ∀ b off n c, Value.slice px r.1.length cx = .slice (some ⟨b, off, none⟩) n c → b ≠ w.heap.size + 1) from ⟨ix, by
    rcases hx with hx | hx
    · rw [hx] at ix
      by_cases he : r.1 = []
      · exact .inl he
      · refine .inr fun b off n c h => ?_
        rcases ix.same HV.out with e | e
        · exact absurd e he
        · rcases hlv.out b off n c (hx.symm.trans h) with e2 | e2
          · exact absurd (List.eq_nil_of_length_eq_zero (by rw [e, e2]; rfl)) he
          · omega
    · exact .inr fun b off n c h => by have := hx b off n c h; simp at this; omega⟩)
  clear HYF hx ix hsz2
  have d0 := HY.out.d0
  have d1 := HY.out.d1
  have d2 := HY.out.d2
  have f0 := HY.out.f0
  have f1 := HY.out.f1
  have f2 := HY.out.f2
  have c1 := HY.out.c1
  have c5 := HY.out.c5
  have hlt := HY.out.lt
  go_wp2_with fail
  (try simp only [Exit.inBlock, Exit.then])
  refine done_ret (fn := Try.f56) (p := 4) (g := w.heap.size + 1) (e := 96) (fr := (0, 0)) (v := .slice px r.1.length cx) (n := r.2.1) (b := r.2.2) rfl rfl Try.underlying96 rfl (by kernel_rfl) rfl ?hg ?hP
  case hg => with_reducible exact done3 HY.out.blk _ _ _
  case hP => exact DonePost.intro rfl rfl (HX.out.1.sets HX.out.2) (HY.out.new (Grow.refl _) _ _ _) HX2.out
set_option maxRecDepth 100000 in
set_option maxHeartbeats 4000000 in
theorem RDo_num2 (id proc obj meth arg sec : Int) (done : Bool) (res inv ret : Int) (xs : List Int) (r : List Int × Int × Bool) (v : Value) (w : World) (hv : Ints w v xs) (hN : ∀ w, Ints w v xs → Calls Try.prog 62 #[v, .agg #[.int .i64 id, .int .i64 proc, .int .i64 obj, .int .i64 2, .int .i64 meth, .int .i64 arg, .int .i64 sec, .bool done, .int .i64 res, .int .i64 inv, .int .i64 ret]] w (NumPost r v w)) :
    Calls Try.prog 56 #[v, .agg #[.int .i64 id, .int .i64 proc, .int .i64 obj, .int .i64 2, .int .i64 meth, .int .i64 arg, .int .i64 sec, .bool done, .int .i64 res, .int .i64 inv, .int .i64 ret]] w (DonePost r v w) := by
  have HYF := hid (fun nq => Own2.mk' (Grow.drewNM (Grow.refl ((w.alloc (.cells #[.int .i64 id, .int .i64 proc, .int .i64 obj, .int .i64 2, .int .i64 meth, .int .i64 arg, .int .i64 sec, .bool done, .int .i64 res, .int .i64 inv, .int .i64 ret] 52)).alloc (.cells #[.slice none 0 0, .int .i64 0, .bool false] 96))) nq))
  have hlv := hid (show ∀ b off n c, v = .slice (some ⟨b, off, none⟩) n c → xs = [] ∨ b < w.heap.size from fun b off n c h => hv.home h)
  have HV := hid hv
  have HN := hid hN
  clear hv hN
  go_enter Try.func56, Try.ntmps56
  go_wp2_with fail
  go_quiet (fail)
  go_wp2_with fail
  refine (HN.out _ (HV.out.grow (Grow.drewNM (Grow.trans (Grow.alloc _ _) (Grow.alloc _ _)) _))).mono ?_
  rintro e w3 ⟨x, rfl, ix, b3, hx⟩
  obtain ⟨px, cx, rfl, -⟩ := ix.at
  have HY := hid ((HYF.out nq).next b3)
  have hsz2 : ((w.alloc (.cells #[.int .i64 id, .int .i64 proc, .int .i64 obj, .int .i64 2, .int .i64 meth, .int .i64 arg, .int .i64 sec, .bool done, .int .i64 res, .int .i64 inv, .int .i64 ret] 52)).alloc (.cells #[.slice none 0 0, .int .i64 0, .bool false] 96)).heap.size = w.heap.size + 2 := by simp
  have HX2 := hid (show Kin v w.heap.size (.slice px r.1.length cx) from by
    rcases hx with hx | hx
    · rw [hx]; exact .same
    · exact .new fun b off n c h => by have := hx b off n c h; simp at this; omega)
  have HX := hid (show Ints w3 (.slice px r.1.length cx) r.1 ∧ (r.1 = [] ∨ ∀ b off n c, Value.slice px r.1.length cx = .slice (some ⟨b, off, none⟩) n c → b ≠ w.heap.size + 1) from ⟨ix, by
    rcases hx with hx | hx
    · rw [hx] at ix
      by_cases he : r.1 = []
      · exact .inl he
      · refine .inr fun b off n c h => ?_
        rcases ix.same HV.out with e | e
        · exact absurd e he
        · rcases hlv.out b off n c (hx.symm.trans h) with e2 | e2
          · exact absurd (List.eq_nil_of_length_eq_zero (by rw [e, e2]; rfl)) he
          · omega
    · exact .inr fun b off n c h => by have := hx b off n c h; simp at this; omega⟩)
  clear HYF hx ix hsz2
  have d0 := HY.out.d0
  have d1 := HY.out.d1
  have d2 := HY.out.d2
  have f0 := HY.out.f0
  have f1 := HY.out.f1
  have f2 := HY.out.f2
  have c1 := HY.out.c1
  have c5 := HY.out.c5
  have hlt := HY.out.lt
  go_wp2_with fail
  (try simp only [Exit.inBlock, Exit.then])
  refine done_ret (fn := Try.f56) (p := 4) (g := w.heap.size + 1) (e := 96) (fr := (0, 0)) (v := .slice px r.1.length cx) (n := r.2.1) (b := r.2.2) rfl rfl Try.underlying96 rfl (by kernel_rfl) rfl ?hg ?hP
  case hg => with_reducible exact done3 HY.out.blk _ _ _
  case hP => exact DonePost.intro rfl rfl (HX.out.1.sets HX.out.2) (HY.out.new (Grow.refl _) _ _ _) HX2.out
set_option maxRecDepth 100000 in
set_option maxHeartbeats 4000000 in
theorem RDo_h1 (id proc obj arg sec : Int) (done : Bool) (res inv ret : Int) (xs : List Int) (p : Option Addr) (n cap q : Nat) (w : World) (hv : Ints w (.slice p n cap) xs) (hd : decide (q < n) = true) (hW : ∀ w, Ints w (.slice p n cap) xs → Calls Try.prog 63 #[.slice p n cap, .int .i64 arg] w fun e w' => ∃ px cx, e = .returned (.slice px q cx) ∧ Grow w w') :
    Calls Try.prog 56 #[.slice p n cap, .agg #[.int .i64 id, .int .i64 proc, .int .i64 obj, .int .i64 5, .int .i64 12, .int .i64 arg, .int .i64 sec, .bool done, .int .i64 res, .int .i64 inv, .int .i64 ret]] w (DonePost (xs, 1, true) (.slice p n cap) w) := by
  have HYF := hid (fun nq => Own2.mk' (Grow.drewNM (Grow.refl ((w.alloc (.cells #[.int .i64 id, .int .i64 proc, .int .i64 obj, .int .i64 5, .int .i64 12, .int .i64 arg, .int .i64 sec, .bool done, .int .i64 res, .int .i64 inv, .int .i64 ret] 52)).alloc (.cells #[.slice none 0 0, .int .i64 0, .bool false] 96))) nq))
  have hlv := hid (show xs = [] ∨ ∀ b off n' c, Value.slice p n cap = .slice (some ⟨b, off, none⟩) n' c → b ≠ w.heap.size + 1 from hv.apart (by omega))
  have HV := hid hv
  have HW := hid hW
  clear hv hW
  go_enter Try.func56, Try.ntmps56
  go_wp2_with fail
  go_quiet (fail)
  have HY := hid (HYF.out nq)
  generalize ((w.alloc (.cells #[.int .i64 id, .int .i64 proc, .int .i64 obj, .int .i64 5, .int .i64 12, .int .i64 arg, .int .i64 sec, .bool done, .int .i64 res, .int .i64 inv, .int .i64 ret] 52)).alloc (.cells #[.slice none 0 0, .int .i64 0, .bool false] 96)).drewN nq = wy at *
  clear HYF
  have d0 := HY.out.d0
  have d1 := HY.out.d1
  have d2 := HY.out.d2
  have f0 := HY.out.f0
  have f1 := HY.out.f1
  have f2 := HY.out.f2
  have c1 := HY.out.c1
  have c5 := HY.out.c5
  have hlt := HY.out.lt
  go_wp2_with fail
  go_quiet (fail)
  go_wp2_with fail
  refine (HW.out _ (HV.out.grow (Grow.drewNM HY.out.grow _))).mono ?_
  rintro e w3 ⟨px, cx, rfl, b3⟩
  have HY3 := hid (HY.out.next (Grow.trans (Grow.drewNM (Grow.refl wy) _) b3))
  clear d0 d1 d2 f0 f1 f2 c1 c5 hlt HY b3
  have d0 := HY3.out.d0
  have d1 := HY3.out.d1
  have d2 := HY3.out.d2
  have f0 := HY3.out.f0
  have f1 := HY3.out.f1
  have f2 := HY3.out.f2
  have c1 := HY3.out.c1
  have c5 := HY3.out.c5
  have hlt := HY3.out.lt
  go_wp2_with fail
  (try simp only [Exit.inBlock, Exit.then])
  refine done_ret (fn := Try.f56) (p := 4) (g := w.heap.size + 1) (e := 96) (fr := (0, 0)) (v := (.slice p n cap)) (n := 1) (b := true) rfl rfl Try.underlying96 rfl (by kernel_rfl) rfl ?hg ?hP
  case hg => with_reducible exact done3 HY3.out.blk _ _ _
  case hP => exact DonePost.intro rfl rfl ((HV.out.grow HY3.out.grow).sets hlv.out) (HY3.out.new (Grow.refl _) _ _ _) Kin.same
set_option maxRecDepth 100000 in
set_option maxHeartbeats 4000000 in
theorem RDo_h0 (id proc obj arg sec : Int) (done : Bool) (res inv ret : Int) (xs : List Int) (p : Option Addr) (n cap q : Nat) (w : World) (hv : Ints w (.slice p n cap) xs) (hd : decide (q < n) = false) (hW : ∀ w, Ints w (.slice p n cap) xs → Calls Try.prog 63 #[.slice p n cap, .int .i64 arg] w fun e w' => ∃ px cx, e = .returned (.slice px q cx) ∧ Grow w w') :
    Calls Try.prog 56 #[.slice p n cap, .agg #[.int .i64 id, .int .i64 proc, .int .i64 obj, .int .i64 5, .int .i64 12, .int .i64 arg, .int .i64 sec, .bool done, .int .i64 res, .int .i64 inv, .int .i64 ret]] w (DonePost (xs, 0, true) (.slice p n cap) w) := by
  have HYF := hid (fun nq => Own2.mk' (Grow.drewNM (Grow.refl ((w.alloc (.cells #[.int .i64 id, .int .i64 proc, .int .i64 obj, .int .i64 5, .int .i64 12, .int .i64 arg, .int .i64 sec, .bool done, .int .i64 res, .int .i64 inv, .int .i64 ret] 52)).alloc (.cells #[.slice none 0 0, .int .i64 0, .bool false] 96))) nq))
  have hlv := hid (show xs = [] ∨ ∀ b off n' c, Value.slice p n cap = .slice (some ⟨b, off, none⟩) n' c → b ≠ w.heap.size + 1 from hv.apart (by omega))
  have HV := hid hv
  have HW := hid hW
  clear hv hW
  go_enter Try.func56, Try.ntmps56
  go_wp2_with fail
  go_quiet (fail)
  have HY := hid (HYF.out nq)
  generalize ((w.alloc (.cells #[.int .i64 id, .int .i64 proc, .int .i64 obj, .int .i64 5, .int .i64 12, .int .i64 arg, .int .i64 sec, .bool done, .int .i64 res, .int .i64 inv, .int .i64 ret] 52)).alloc (.cells #[.slice none 0 0, .int .i64 0, .bool false] 96)).drewN nq = wy at *
  clear HYF
  have d0 := HY.out.d0
  have d1 := HY.out.d1
  have d2 := HY.out.d2
  have f0 := HY.out.f0
  have f1 := HY.out.f1
  have f2 := HY.out.f2
  have c1 := HY.out.c1
  have c5 := HY.out.c5
  have hlt := HY.out.lt
  go_wp2_with fail
  go_quiet (fail)
  go_wp2_with fail
  refine (HW.out _ (HV.out.grow (Grow.drewNM HY.out.grow _))).mono ?_
  rintro e w3 ⟨px, cx, rfl, b3⟩
  have HY3 := hid (HY.out.next (Grow.trans (Grow.drewNM (Grow.refl wy) _) b3))
  clear d0 d1 d2 f0 f1 f2 c1 c5 hlt HY b3
  have d0 := HY3.out.d0
  have d1 := HY3.out.d1
  have d2 := HY3.out.d2
  have f0 := HY3.out.f0
  have f1 := HY3.out.f1
  have f2 := HY3.out.f2
  have c1 := HY3.out.c1
  have c5 := HY3.out.c5
  have hlt := HY3.out.lt
  go_wp2_with fail
  (try simp only [Exit.inBlock, Exit.then])
  refine done_ret (fn := Try.f56) (p := 4) (g := w.heap.size + 1) (e := 96) (fr := (0, 0)) (v := (.slice p n cap)) (n := 0) (b := true) rfl rfl Try.underlying96 rfl (by kernel_rfl) rfl ?hg ?hP
  case hg => with_reducible exact done3 HY3.out.blk _ _ _
  case hP => exact DonePost.intro rfl rfl ((HV.out.grow HY3.out.grow).sets hlv.out) (HY3.out.new (Grow.refl _) _ _ _) Kin.same
set_option maxRecDepth 100000 in
set_option maxHeartbeats 4000000 in
theorem RDo_a1 (id proc obj arg sec : Int) (done : Bool) (res inv ret : Int) (xs : List Int) (p : Option Addr) (n cap q : Nat) (w : World) (hv : Ints w (.slice p n cap) xs) (hd : decide (q < n) = true) (hW : ∀ w, Ints w (.slice p n cap) xs → Calls Try.prog 63 #[.slice p n cap, .int .i64 arg] w fun e w' => ∃ px cx, e = .returned (.slice px q cx) ∧ Grow w w') :
    Calls Try.prog 56 #[.slice p n cap, .agg #[.int .i64 id, .int .i64 proc, .int .i64 obj, .int .i64 5, .int .i64 10, .int .i64 arg, .int .i64 sec, .bool done, .int .i64 res, .int .i64 inv, .int .i64 ret]] w (DonePost (xs, 0, true) (.slice p n cap) w) := by
  have HYF := hid (fun nq => Own2.mk' (Grow.drewNM (Grow.refl ((w.alloc (.cells #[.int .i64 id, .int .i64 proc, .int .i64 obj, .int .i64 5, .int .i64 10, .int .i64 arg, .int .i64 sec, .bool done, .int .i64 res, .int .i64 inv, .int .i64 ret] 52)).alloc (.cells #[.slice none 0 0, .int .i64 0, .bool false] 96))) nq))
  have hlv := hid (show xs = [] ∨ ∀ b off n' c, Value.slice p n cap = .slice (some ⟨b, off, none⟩) n' c → b ≠ w.heap.size + 1 from hv.apart (by omega))
  have HV := hid hv
  have HW := hid hW
  clear hv hW
  go_enter Try.func56, Try.ntmps56
  go_wp2_with fail
  go_quiet (fail)
  have HY := hid (HYF.out nq)
  generalize ((w.alloc (.cells #[.int .i64 id, .int .i64 proc, .int .i64 obj, .int .i64 5, .int .i64 10, .int .i64 arg, .int .i64 sec, .bool done, .int .i64 res, .int .i64 inv, .int .i64 ret] 52)).alloc (.cells #[.slice none 0 0, .int .i64 0, .bool false] 96)).drewN nq = wy at *
  clear HYF
  have d0 := HY.out.d0
  have d1 := HY.out.d1
  have d2 := HY.out.d2
  have f0 := HY.out.f0
  have f1 := HY.out.f1
  have f2 := HY.out.f2
  have c1 := HY.out.c1
  have c5 := HY.out.c5
  have hlt := HY.out.lt
  go_wp2_with fail
  go_quiet (fail)
  go_wp2_with fail
  refine (HW.out _ (HV.out.grow (Grow.drewNM HY.out.grow _))).mono ?_
  rintro e w3 ⟨px, cx, rfl, b3⟩
  have HY3 := hid (HY.out.next (Grow.trans (Grow.drewNM (Grow.refl wy) _) b3))
  clear d0 d1 d2 f0 f1 f2 c1 c5 hlt HY b3
  have d0 := HY3.out.d0
  have d1 := HY3.out.d1
  have d2 := HY3.out.d2
  have f0 := HY3.out.f0
  have f1 := HY3.out.f1
  have f2 := HY3.out.f2
  have c1 := HY3.out.c1
  have c5 := HY3.out.c5
  have hlt := HY3.out.lt
  go_wp2_with fail
  (try simp only [Exit.inBlock, Exit.then])
  refine done_ret (fn := Try.f56) (p := 4) (g := w.heap.size + 1) (e := 96) (fr := (0, 0)) (v := (.slice p n cap)) (n := 0) (b := true) rfl rfl Try.underlying96 rfl (by kernel_rfl) rfl ?hg ?hP
  case hg => with_reducible exact done3 HY3.out.blk _ _ _
  case hP => exact DonePost.intro rfl rfl ((HV.out.grow HY3.out.grow).sets hlv.out) (HY3.out.new (Grow.refl _) _ _ _) Kin.same
set_option maxRecDepth 100000 in
set_option maxHeartbeats 4000000 in
theorem RDo_a0 (id proc obj arg sec : Int) (done : Bool) (res inv ret : Int) (xs : List Int) (p : Option Addr) (n cap q : Nat) (w : World) (hv : Ints w (.slice p n cap) xs) (hd : decide (q < n) = false) (hW : ∀ w, Ints w (.slice p n cap) xs → Calls Try.prog 63 #[.slice p n cap, .int .i64 arg] w fun e w' => ∃ px cx, e = .returned (.slice px q cx) ∧ Grow w w') (l : List Int) (hW2 : ∀ w, Ints w (.slice p n cap) xs → Calls Try.prog 64 #[.slice p n cap, .int .i64 arg] w fun e w' => ∃ x, e = .returned x ∧ Ints w' x l ∧ Grow w w' ∧ ∀ b off n c, x = .slice (some ⟨b, off, none⟩) n c → w.heap.size ≤ b) :
    Calls Try.prog 56 #[.slice p n cap, .agg #[.int .i64 id, .int .i64 proc, .int .i64 obj, .int .i64 5, .int .i64 10, .int .i64 arg, .int .i64 sec, .bool done, .int .i64 res, .int .i64 inv, .int .i64 ret]] w (DonePost (l, 1, true) (.slice p n cap) w) := by
  have HYF := hid (fun nq => Own2.mk' (Grow.drewNM (Grow.refl ((w.alloc (.cells #[.int .i64 id, .int .i64 proc, .int .i64 obj, .int .i64 5, .int .i64 10, .int .i64 arg, .int .i64 sec, .bool done, .int .i64 res, .int .i64 inv, .int .i64 ret] 52)).alloc (.cells #[.slice none 0 0, .int .i64 0, .bool false] 96))) nq))
  have hlv := hid (show xs = [] ∨ ∀ b off n' c, Value.slice p n cap = .slice (some ⟨b, off, none⟩) n' c → b ≠ w.heap.size + 1 from hv.apart (by omega))
  have HV := hid hv
  have HW := hid hW
  have HW2 := hid hW2
  clear hW2
  clear hv hW
  go_enter Try.func56, Try.ntmps56
  go_wp2_with fail
  go_quiet (fail)
  have HY := hid (HYF.out nq)
  generalize ((w.alloc (.cells #[.int .i64 id, .int .i64 proc, .int .i64 obj, .int .i64 5, .int .i64 10, .int .i64 arg, .int .i64 sec, .bool done, .int .i64 res, .int .i64 inv, .int .i64 ret] 52)).alloc (.cells #[.slice none 0 0, .int .i64 0, .bool false] 96)).drewN nq = wy at *
  clear HYF
  have d0 := HY.out.d0
  have d1 := HY.out.d1
  have d2 := HY.out.d2
  have f0 := HY.out.f0
  have f1 := HY.out.f1
  have f2 := HY.out.f2
  have c1 := HY.out.c1
  have c5 := HY.out.c5
  have hlt := HY.out.lt
  go_wp2_with fail
  go_quiet (fail)
  go_wp2_with fail
  refine (HW.out _ (HV.out.grow (Grow.drewNM HY.out.grow _))).mono ?_
  rintro e w3 ⟨px, cx, rfl, b3⟩
  have HY3 := hid (HY.out.next (Grow.trans (Grow.drewNM (Grow.refl wy) _) b3))
  clear d0 d1 d2 f0 f1 f2 c1 c5 hlt HY b3
  have d0 := HY3.out.d0
  have d1 := HY3.out.d1
  have d2 := HY3.out.d2
  have f0 := HY3.out.f0
  have f1 := HY3.out.f1
  have f2 := HY3.out.f2
  have c1 := HY3.out.c1
  have c5 := HY3.out.c5
  have hlt := HY3.out.lt
  go_wp2_with fail
  refine (HW2.out _ (HV.out.grow HY3.out.grow)).mono ?_
  rintro e w4 ⟨x, rfl, ix, b4, hx⟩
  obtain ⟨px4, cx4, rfl, -⟩ := ix.at
  have HY4 := hid (HY3.out.next b4)
  have HX := hid (show Ints w4 (.slice px4 l.length cx4) l ∧ (l = [] ∨ ∀ b off n c, Value.slice px4 l.length cx4 = .slice (some ⟨b, off, none⟩) n c → b ≠ w.heap.size + 1) from ⟨ix, .inr fun b off n c h => by have := hx b off n c h; omega⟩)
  have HX2 := hid (show Kin (.slice p n cap) w.heap.size (.slice px4 l.length cx4) from .new fun b off n c h => by have := hx b off n c h; have := HY3.out.lt; omega)
  clear d0 d1 d2 f0 f1 f2 c1 c5 hlt HY3 b4 ix hx
  have d0 := HY4.out.d0
  have d1 := HY4.out.d1
  have d2 := HY4.out.d2
  have f0 := HY4.out.f0
  have f1 := HY4.out.f1
  have f2 := HY4.out.f2
  have c1 := HY4.out.c1
  have c5 := HY4.out.c5
  have hlt := HY4.out.lt
  go_wp2_with fail
  (try simp only [Exit.inBlock, Exit.then])
  refine done_ret (fn := Try.f56) (p := 4) (g := w.heap.size + 1) (e := 96) (fr := (0, 0)) (v := (.slice px4 l.length cx4)) (n := 1) (b := true) rfl rfl Try.underlying96 rfl (by kernel_rfl) rfl ?hg ?hP
  case hg => with_reducible exact done3 HY4.out.blk _ _ _
  case hP => exact DonePost.intro rfl rfl (HX.out.1.sets HX.out.2) (HY4.out.new (Grow.refl _) _ _ _) HX2.out
set_option maxRecDepth 100000 in
set_option maxHeartbeats 4000000 in
theorem RDo_m1 (id proc obj arg sec : Int) (done : Bool) (res inv ret : Int) (xs : List Int) (p : Option Addr) (n cap q : Nat) (w : World) (hv : Ints w (.slice p n cap) xs) (hd : decide (q < n) = true) (hW : ∀ w, Ints w (.slice p n cap) xs → Calls Try.prog 63 #[.slice p n cap, .int .i64 arg] w fun e w' => ∃ px cx, e = .returned (.slice px q cx) ∧ Grow w w') (l : List Int) (hW2 : ∀ w, Ints w (.slice p n cap) xs → Calls Try.prog 63 #[.slice p n cap, .int .i64 arg] w fun e w' => ∃ x, e = .returned x ∧ Ints w' x l ∧ Grow w w' ∧ ∀ b off n c, x = .slice (some ⟨b, off, none⟩) n c → w.heap.size ≤ b) :
    Calls Try.prog 56 #[.slice p n cap, .agg #[.int .i64 id, .int .i64 proc, .int .i64 obj, .int .i64 5, .int .i64 11, .int .i64 arg, .int .i64 sec, .bool done, .int .i64 res, .int .i64 inv, .int .i64 ret]] w (DonePost (l, 1, true) (.slice p n cap) w) := by
  have HYF := hid (fun nq => Own2.mk' (Grow.drewNM (Grow.refl ((w.alloc (.cells #[.int .i64 id, .int .i64 proc, .int .i64 obj, .int .i64 5, .int .i64 11, .int .i64 arg, .int .i64 sec, .bool done, .int .i64 res, .int .i64 inv, .int .i64 ret] 52)).alloc (.cells #[.slice none 0 0, .int .i64 0, .bool false] 96))) nq))
  have hlv := hid (show xs = [] ∨ ∀ b off n' c, Value.slice p n cap = .slice (some ⟨b, off, none⟩) n' c → b ≠ w.heap.size + 1 from hv.apart (by omega))
  have HV := hid hv
  have HW := hid hW
  have HW2 := hid hW2
  clear hW2
  clear hv hW
  go_enter Try.func56, Try.ntmps56
  go_wp2_with fail
  go_quiet (fail)
  have HY := hid (HYF.out nq)
  generalize ((w.alloc (.cells #[.int .i64 id, .int .i64 proc, .int .i64 obj, .int .i64 5, .int .i64 11, .int .i64 arg, .int .i64 sec, .bool done, .int .i64 res, .int .i64 inv, .int .i64 ret] 52)).alloc (.cells #[.slice none 0 0, .int .i64 0, .bool false] 96)).drewN nq = wy at *
  clear HYF
  have d0 := HY.out.d0
  have d1 := HY.out.d1
  have d2 := HY.out.d2
  have f0 := HY.out.f0
  have f1 := HY.out.f1
  have f2 := HY.out.f2
  have c1 := HY.out.c1
  have c5 := HY.out.c5
  have hlt := HY.out.lt
  go_wp2_with fail
  go_quiet (fail)
  go_wp2_with fail
  refine (HW.out _ (HV.out.grow (Grow.drewNM HY.out.grow _))).mono ?_
  rintro e w3 ⟨px, cx, rfl, b3⟩
  have HY3 := hid (HY.out.next (Grow.trans (Grow.drewNM (Grow.refl wy) _) b3))
  clear d0 d1 d2 f0 f1 f2 c1 c5 hlt HY b3
  have d0 := HY3.out.d0
  have d1 := HY3.out.d1
  have d2 := HY3.out.d2
  have f0 := HY3.out.f0
  have f1 := HY3.out.f1
  have f2 := HY3.out.f2
  have c1 := HY3.out.c1
  have c5 := HY3.out.c5
  have hlt := HY3.out.lt
  go_wp2_with fail
  refine (HW2.out _ (HV.out.grow HY3.out.grow)).mono ?_
  rintro e w4 ⟨x, rfl, ix, b4, hx⟩
  obtain ⟨px4, cx4, rfl, -⟩ := ix.at
  have HY4 := hid (HY3.out.next b4)
  have HX := hid (show Ints w4 (.slice px4 l.length cx4) l ∧ (l = [] ∨ ∀ b off n c, Value.slice px4 l.length cx4 = .slice (some ⟨b, off, none⟩) n c → b ≠ w.heap.size + 1) from ⟨ix, .inr fun b off n c h => by have := hx b off n c h; omega⟩)
  have HX2 := hid (show Kin (.slice p n cap) w.heap.size (.slice px4 l.length cx4) from .new fun b off n c h => by have := hx b off n c h; have := HY3.out.lt; omega)
  clear d0 d1 d2 f0 f1 f2 c1 c5 hlt HY3 b4 ix hx
  have d0 := HY4.out.d0
  have d1 := HY4.out.d1
  have d2 := HY4.out.d2
  have f0 := HY4.out.f0
  have f1 := HY4.out.f1
  have f2 := HY4.out.f2
  have c1 := HY4.out.c1
  have c5 := HY4.out.c5
  have hlt := HY4.out.lt
  go_wp2_with fail
  (try simp only [Exit.inBlock, Exit.then])
  refine done_ret (fn := Try.f56) (p := 4) (g := w.heap.size + 1) (e := 96) (fr := (0, 0)) (v := (.slice px4 l.length cx4)) (n := 1) (b := true) rfl rfl Try.underlying96 rfl (by kernel_rfl) rfl ?hg ?hP
  case hg => with_reducible exact done3 HY4.out.blk _ _ _
  case hP => exact DonePost.intro rfl rfl (HX.out.1.sets HX.out.2) (HY4.out.new (Grow.refl _) _ _ _) HX2.out
set_option maxRecDepth 100000 in
set_option maxHeartbeats 4000000 in
theorem RDo_m0 (id proc obj arg sec : Int) (done : Bool) (res inv ret : Int) (xs : List Int) (p : Option Addr) (n cap q : Nat) (w : World) (hv : Ints w (.slice p n cap) xs) (hd : decide (q < n) = false) (hW : ∀ w, Ints w (.slice p n cap) xs → Calls Try.prog 63 #[.slice p n cap, .int .i64 arg] w fun e w' => ∃ px cx, e = .returned (.slice px q cx) ∧ Grow w w') :
    Calls Try.prog 56 #[.slice p n cap, .agg #[.int .i64 id, .int .i64 proc, .int .i64 obj, .int .i64 5, .int .i64 11, .int .i64 arg, .int .i64 sec, .bool done, .int .i64 res, .int .i64 inv, .int .i64 ret]] w (DonePost (xs, 0, true) (.slice p n cap) w) := by
  have HYF := hid (fun nq => Own2.mk' (Grow.drewNM (Grow.refl ((w.alloc (.cells #[.int .i64 id, .int .i64 proc, .int .i64 obj, .int .i64 5, .int .i64 11, .int .i64 arg, .int .i64 sec, .bool done, .int .i64 res, .int .i64 inv, .int .i64 ret] 52)).alloc (.cells #[.slice none 0 0, .int .i64 0, .bool false] 96))) nq))
  have hlv := hid (show xs = [] ∨ ∀ b off n' c, Value.slice p n cap = .slice (some ⟨b, off, none⟩) n' c → b ≠ w.heap.size + 1 from hv.apart (by omega))
  have HV := hid hv
  have HW := hid hW
  clear hv hW
  go_enter Try.func56, Try.ntmps56
  go_wp2_with fail
  go_quiet (fail)
  have HY := hid (HYF.out nq)
  generalize ((w.alloc (.cells #[.int .i64 id, .int .i64 proc, .int .i64 obj, .int .i64 5, .int .i64 11, .int .i64 arg, .int .i64 sec, .bool done, .int .i64 res, .int .i64 inv, .int .i64 ret] 52)).alloc (.cells #[.slice none 0 0, .int .i64 0, .bool false] 96)).drewN nq = wy at *
  clear HYF
  have d0 := HY.out.d0
  have d1 := HY.out.d1
  have d2 := HY.out.d2
  have f0 := HY.out.f0
  have f1 := HY.out.f1
  have f2 := HY.out.f2
  have c1 := HY.out.c1
  have c5 := HY.out.c5
  have hlt := HY.out.lt
  go_wp2_with fail
  go_quiet (fail)
  go_wp2_with fail
  refine (HW.out _ (HV.out.grow (Grow.drewNM HY.out.grow _))).mono ?_
  rintro e w3 ⟨px, cx, rfl, b3⟩
  have HY3 := hid (HY.out.next (Grow.trans (Grow.drewNM (Grow.refl wy) _) b3))
  clear d0 d1 d2 f0 f1 f2 c1 c5 hlt HY b3
  have d0 := HY3.out.d0
  have d1 := HY3.out.d1
  have d2 := HY3.out.d2
  have f0 := HY3.out.f0
  have f1 := HY3.out.f1
  have f2 := HY3.out.f2
  have c1 := HY3.out.c1
  have c5 := HY3.out.c5
  have hlt := HY3.out.lt
  go_wp2_with fail
  (try simp only [Exit.inBlock, Exit.then])
  refine done_ret (fn := Try.f56) (p := 4) (g := w.heap.size + 1) (e := 96) (fr := (0, 0)) (v := (.slice p n cap)) (n := 0) (b := true) rfl rfl Try.underlying96 rfl (by kernel_rfl) rfl ?hg ?hP
  case hg => with_reducible exact done3 HY3.out.blk _ _ _
  case hP => exact DonePost.intro rfl rfl ((HV.out.grow HY3.out.grow).sets hlv.out) (HY3.out.new (Grow.refl _) _ _ _) Kin.same
set_option maxRecDepth 100000 in
set_option maxHeartbeats 4000000 in
theorem RDo_z (id proc obj meth arg sec : Int) (done : Bool) (res inv ret : Int) (xs : List Int) (p : Option Addr) (n cap q : Nat) (w : World) (hv : Ints w (.slice p n cap) xs) (hd : decide (q < n) = true) (hW : ∀ w, Ints w (.slice p n cap) xs → Calls Try.prog 63 #[.slice p n cap, .int .i64 arg] w fun e w' => ∃ px cx, e = .returned (.slice px q cx) ∧ Grow w w') (m1 : (meth == 12) = false) (m2 : (meth == 10) = false) (m3 : (meth == 11) = false) :
    Calls Try.prog 56 #[.slice p n cap, .agg #[.int .i64 id, .int .i64 proc, .int .i64 obj, .int .i64 5, .int .i64 meth, .int .i64 arg, .int .i64 sec, .bool done, .int .i64 res, .int .i64 inv, .int .i64 ret]] w (DonePost ([], 0, false) (.slice p n cap) w) := by
  have HYF := hid (fun nq => Own2.mk' (Grow.drewNM (Grow.refl ((w.alloc (.cells #[.int .i64 id, .int .i64 proc, .int .i64 obj, .int .i64 5, .int .i64 meth, .int .i64 arg, .int .i64 sec, .bool done, .int .i64 res, .int .i64 inv, .int .i64 ret] 52)).alloc (.cells #[.slice none 0 0, .int .i64 0, .bool false] 96))) nq))
  have hlv := hid (show xs = [] ∨ ∀ b off n' c, Value.slice p n cap = .slice (some ⟨b, off, none⟩) n' c → b ≠ w.heap.size + 1 from hv.apart (by omega))
  have HV := hid hv
  have HW := hid hW
  clear hv hW
  go_enter Try.func56, Try.ntmps56
  go_wp2_with fail
  go_quiet (fail)
  have HY := hid (HYF.out nq)
  generalize ((w.alloc (.cells #[.int .i64 id, .int .i64 proc, .int .i64 obj, .int .i64 5, .int .i64 meth, .int .i64 arg, .int .i64 sec, .bool done, .int .i64 res, .int .i64 inv, .int .i64 ret] 52)).alloc (.cells #[.slice none 0 0, .int .i64 0, .bool false] 96)).drewN nq = wy at *
  clear HYF
  have d0 := HY.out.d0
  have d1 := HY.out.d1
  have d2 := HY.out.d2
  have f0 := HY.out.f0
  have f1 := HY.out.f1
  have f2 := HY.out.f2
  have c1 := HY.out.c1
  have c5 := HY.out.c5
  have hlt := HY.out.lt
  go_wp2_with fail
  go_quiet (fail)
  go_wp2_with fail
  refine (HW.out _ (HV.out.grow (Grow.drewNM HY.out.grow _))).mono ?_
  rintro e w3 ⟨px, cx, rfl, b3⟩
  have HY3 := hid (HY.out.next (Grow.trans (Grow.drewNM (Grow.refl wy) _) b3))
  clear d0 d1 d2 f0 f1 f2 c1 c5 hlt HY b3
  have d0 := HY3.out.d0
  have d1 := HY3.out.d1
  have d2 := HY3.out.d2
  have f0 := HY3.out.f0
  have f1 := HY3.out.f1
  have f2 := HY3.out.f2
  have c1 := HY3.out.c1
  have c5 := HY3.out.c5
  have hlt := HY3.out.lt
  go_wp2_with fail
  (try simp only [Exit.inBlock, Exit.then])
  refine done_ret (fn := Try.f56) (p := 4) (g := w.heap.size + 1) (e := 96) (fr := (0, 0)) (v := (.slice none 0 0)) (n := 0) (b := false) rfl rfl Try.underlying96 rfl (by kernel_rfl) rfl ?hg ?hP
  case hg => with_reducible exact done3 HY3.out.blk _ _ _
  case hP => exact DonePost.intro rfl rfl (Ints.nil _) (HY3.out.new (Grow.refl _) _ _ _) Kin.nil
set_option maxRecDepth 100000 in
set_option maxHeartbeats 4000000 in
theorem RDo_z0 (id proc obj meth arg sec : Int) (done : Bool) (res inv ret : Int) (xs : List Int) (p : Option Addr) (n cap q : Nat) (w : World) (hv : Ints w (.slice p n cap) xs) (hd : decide (q < n) = false) (hW : ∀ w, Ints w (.slice p n cap) xs → Calls Try.prog 63 #[.slice p n cap, .int .i64 arg] w fun e w' => ∃ px cx, e = .returned (.slice px q cx) ∧ Grow w w') (m1 : (meth == 12) = false) (m2 : (meth == 10) = false) (m3 : (meth == 11) = false) :
    Calls Try.prog 56 #[.slice p n cap, .agg #[.int .i64 id, .int .i64 proc, .int .i64 obj, .int .i64 5, .int .i64 meth, .int .i64 arg, .int .i64 sec, .bool done, .int .i64 res, .int .i64 inv, .int .i64 ret]] w (DonePost ([], 0, false) (.slice p n cap) w) := by
  have HYF := hid (fun nq => Own2.mk' (Grow.drewNM (Grow.refl ((w.alloc (.cells #[.int .i64 id, .int .i64 proc, .int .i64 obj, .int .i64 5, .int .i64 meth, .int .i64 arg, .int .i64 sec, .bool done, .int .i64 res, .int .i64 inv, .int .i64 ret] 52)).alloc (.cells #[.slice none 0 0, .int .i64 0, .bool false] 96))) nq))
  have hlv := hid (show xs = [] ∨ ∀ b off n' c, Value.slice p n cap = .slice (some ⟨b, off, none⟩) n' c → b ≠ w.heap.size + 1 from hv.apart (by omega))
  have HV := hid hv
  have HW := hid hW
  clear hv hW
  go_enter Try.func56, Try.ntmps56
  go_wp2_with fail
  go_quiet (fail)
  have HY := hid (HYF.out nq)
  generalize ((w.alloc (.cells #[.int .i64 id, .int .i64 proc, .int .i64 obj, .int .i64 5, .int .i64 meth, .int .i64 arg, .int .i64 sec, .bool done, .int .i64 res, .int .i64 inv, .int .i64 ret] 52)).alloc (.cells #[.slice none 0 0, .int .i64 0, .bool false] 96)).drewN nq = wy at *
  clear HYF
  have d0 := HY.out.d0
  have d1 := HY.out.d1
  have d2 := HY.out.d2
  have f0 := HY.out.f0
  have f1 := HY.out.f1
  have f2 := HY.out.f2
  have c1 := HY.out.c1
  have c5 := HY.out.c5
  have hlt := HY.out.lt
  go_wp2_with fail
  go_quiet (fail)
  go_wp2_with fail
  refine (HW.out _ (HV.out.grow (Grow.drewNM HY.out.grow _))).mono ?_
  rintro e w3 ⟨px, cx, rfl, b3⟩
  have HY3 := hid (HY.out.next (Grow.trans (Grow.drewNM (Grow.refl wy) _) b3))
  clear d0 d1 d2 f0 f1 f2 c1 c5 hlt HY b3
  have d0 := HY3.out.d0
  have d1 := HY3.out.d1
  have d2 := HY3.out.d2
  have f0 := HY3.out.f0
  have f1 := HY3.out.f1
  have f2 := HY3.out.f2
  have c1 := HY3.out.c1
  have c5 := HY3.out.c5
  have hlt := HY3.out.lt
  go_wp2_with fail
  (try simp only [Exit.inBlock, Exit.then])
  refine done_ret (fn := Try.f56) (p := 4) (g := w.heap.size + 1) (e := 96) (fr := (0, 0)) (v := (.slice none 0 0)) (n := 0) (b := false) rfl rfl Try.underlying96 rfl (by kernel_rfl) rfl ?hg ?hP
  case hg => with_reducible exact done3 HY3.out.blk _ _ _
  case hP => exact DonePost.intro rfl rfl (Ints.nil _) (HY3.out.new (Grow.refl _) _ _ _) Kin.nil
end Go.Proofs.Ytlhgdbangnohjaa
namespace Go.Proofs.Ytlhgdbangnohjaa
open Go.RowKit
set_option linter.unusedVariables false
set_option linter.unusedSimpArgs false
theorem Ints.len {w : World} {p : Option Addr} {n c : Nat} {xs : List Int} (h : Ints w (.slice p n c) xs) : n = xs.length := by
  obtain ⟨q, cap, e, _⟩ := h.at
  injection e
theorem Ints.grownBy {W w5 : World} {v : Value} {xs : List Int} {row : Option Nat} (h : Ints W v xs) (g : W.grownBy w5 row) (hne : ∀ b off n c, v = .slice (some ⟨b, off, none⟩) n c → some b ≠ row) : Ints w5 v xs := by
  obtain ⟨p, cap, rfl, hl, hc, hcap⟩ := h
  refine ⟨p, cap, rfl, hl, fun h0 => ?_, hcap⟩
  obtain ⟨b, off, rfl, hcell⟩ := hc h0
  refine ⟨b, off, rfl, fun i hi => ?_⟩
  rw [← hcell i hi]
  exact World.cell?_of_block (g.block b (World.block_lt_of_cell? W _ (hcell i hi)) (hne b off _ _ rfl))
theorem order2 {wy w5 : World} {arg : Int} {v : Value} (hv : v = .slice (some ⟨wy.heap.size, 0, none⟩) 0 0) (g5 : ((wy.alloc (.cells #[] 3)).alloc (.cells #[.int .i64 arg] 3)).drew.grownBy w5 v.ownBlock) : Ints w5 (.slice (some ⟨wy.heap.size + 1, 0, none⟩) 1 1) [arg] := by
  subst hv
  refine Ints.grownBy (Ints.one ((Grow.drew _).heap (heap_newAt (g := wy.heap.size + 1) (wy.alloc (.cells #[] 3)) (.cells #[.int .i64 arg] 3) (by simp)))) g5 ?_
  intro b off n c h
  cases h
  simp [Value.ownBlock]
theorem order3 {wy w5 : World} {arg : Int} {v : Value} (hv : v = .slice (some ⟨wy.heap.size + 1, 0, none⟩) 0 0) (g5 : ((wy.alloc (.cells #[.int .i64 arg] 3)).alloc (.cells #[] 3)).drew.grownBy w5 v.ownBlock) : Ints w5 (.slice (some ⟨wy.heap.size, 0, none⟩) 1 1) [arg] := by
  subst hv
  refine Ints.grownBy (Ints.one ((Grow.drew _).heap (heap_alloc_keep (heap_new wy (.cells #[.int .i64 arg] 3)) _))) g5 ?_
  intro b off n c h
  cases h
  simp [Value.ownBlock]
theorem order3_own {wy : World} {arg : Int} : ((wy.alloc (.cells #[.int .i64 arg] 3)).alloc (.cells #[] 3)).drew.ownsRow wy.heap.size 3 1 (.slice (some ⟨wy.heap.size + 1, 0, none⟩) 0 0) 0 (i64s []) := by
  have h := World.ownsRow_made (base := wy.heap.size) (e := 3) (size := 1) (wy.alloc (.cells #[.int .i64 arg] 3)) #[] 0 (by simp) (Nat.zero_le _) rfl
  simp only [World.size_alloc] at h
  exact own_growM h (Grow.drew _)
/-- Numbers behind numbers, at a step of a region that draws its order. -/
theorem run_append_ints {w : World} (ty : TypeId) (base : Nat) (v : Value) (n : Nat) (xs : List Int) (hown : w.ownsRow base 3 1 v n (i64s xs)) (p : Option Addr) (m c : Nat) (l : List Int) (hl : Ints w (.slice p m c) l) (hn : n + m ≤ 17592186044416) (hbase : base ≤ w.heap.size) :
    ∃ A cap w', (Builtin.append_ #[23, 23] ty #[v, .slice p m c]).run Try.prog w = .ok (.slice A (n + m) cap) w' ∧ w'.ownsRow base 3 1 (.slice A (n + m) cap) (n + m) (i64s (xs ++ l)) ∧ w.grownBy w' v.ownBlock := by
  obtain ⟨i0, hi0, hz0, hz1, hz2⟩ := info_parts infoIntM
  have hml := hl.len
  obtain ⟨A, k, e⟩ := own_formM hown
  by_cases h0 : m = 0
  · have hl0 : l = [] := List.eq_nil_of_length_eq_zero (by omega)
    subst hl0 h0
    have hle : n ≤ k := by
      rcases hown.2 with ⟨h1, h2⟩ | ⟨g, cap, cur, h1, _, _, h2, _⟩
      · rw [h2]; omega
      · rw [e] at h1; cases h1; exact h2
    subst e
    have hr := run_append_nothing w 23 23 ty 3 i0 Try.underlying23 hi0 A n k hle (.slice p 0 c) (by cases p with | none => exact Src.ofNil w Try.underlying23 c | some a => exact Src.ofSlice w Try.underlying23 a 0 c [] (by simp) (by simp) (by simp))
    exact ⟨A, k, w, hr, by simpa using hown, ⟨rfl, rfl, rfl, Nat.le_refl _, fun _ _ _ => rfl⟩⟩
  · obtain ⟨q, cap', e2, hc⟩ := hl.at
    cases e2
    obtain ⟨b, off, rfl, -⟩ := hc 0 (by omega)
    obtain ⟨v', w', hr, h1, h2, -⟩ := run_append_own_at w base 23 ty 3 i0 _ 1 8 Try.underlying23 hi0 hz0 hz1 hz2 rfl (by omega) v n (i64s xs) hown ⟨b, off, none⟩ l.length c (i64s l) (by rw [i64s_length]; omega) (fun j u hj => by
      have hjn : j < l.length := by
        have := (List.getElem?_eq_some_iff.1 hj).1
        rwa [i64s_length] at this
      obtain ⟨b', off', e, hcell⟩ := hc j hjn
      cases e
      rw [Addr.add_lit, hcell]
      rw [i64s_at hjn] at hj
      exact hj) (fun u hu => by obtain ⟨x, _, rfl⟩ := List.mem_map.1 hu; rfl) (by unfold maxLen; omega) (by omega) hbase
    rw [← i64s_append] at h1
    obtain ⟨A', k', rfl⟩ := own_formM h1
    exact ⟨A', k', w', hr, h1, h2⟩
theorem step_append_ints {ops : Array Oper} {o : Oper} {a : Act} {w : World} {K : Act → World → Prop} {Q : Exit → Act → World → Prop} {E : Prop} (hgd : o.guard = none) (s x : Operand)
    (ho : o.op = .call { callee := .builtin .append, args := #[s, x], argTypes := #[23, 23] }) (base : Nat) (v : Value) (n : Nat) (xs : List Int) (hs : a.eval s = v) (hown : w.ownsRow base 3 1 v n (i64s xs)) (p : Option Addr) (m c : Nat) (l : List Int) (hx : a.eval x = .slice p m c) (hl : Ints w (.slice p m c) l) (hn : n + m ≤ 17592186044416) (hbase : base ≤ w.heap.size) (N : Nat) (hN : n + m = N) (L : List Int) (hL : xs ++ l = L)
    (h : ∀ A cap w', w'.ownsRow base 3 1 (.slice A N cap) N (i64s L) → w.grownBy w' v.ownBlock → K (a.put o.dst (.slice A N cap)) w') :
    if Region.wanted o (yielded ops a.tmps) = true then Oper.wp Try.prog o a w K Q else E := by
  have hw : Region.wanted o (yielded ops a.tmps) = true := by simp [Region.wanted, hgd]
  rw [if_pos hw]
  subst hN hL
  obtain ⟨A, cap, w', hr, h2, h3⟩ := run_append_ints (w := w) o.type base v n xs hown p m c l hl hn hbase
  unfold Oper.wp execOp
  simp only [ho, resolve, invoke, builtin, Sem.run_bind, Sem.run_pure, Result.andThen_ok, List.map_toArray, List.map_cons, List.map_nil, hs, hx, hr]
  exact h A cap w' h2 h3
set_option maxRecDepth 100000 in
set_option maxHeartbeats 4000000 in
theorem RDo_deq (id proc obj arg sec : Int) (done : Bool) (res inv ret : Int) (xs : List Int) (b off n cap : Nat) (x : Int) (w : World) (hv : Ints w (.slice (some ⟨b, off, none⟩) n cap) xs) (h0 : 0 < n) (hc0 : w.cell? ⟨b, off, none⟩ = some (.int .i64 x)) (l : List Int) (hl : l = xs.drop 1) :
    Calls Try.prog 56 #[.slice (some ⟨b, off, none⟩) n cap, .agg #[.int .i64 id, .int .i64 proc, .int .i64 obj, .int .i64 3, .int .i64 7, .int .i64 arg, .int .i64 sec, .bool done, .int .i64 res, .int .i64 inv, .int .i64 ret]] w (DonePost (l, x, true) (.slice (some ⟨b, off, none⟩) n cap) w) := by
  have HYF := hid (fun nq => Own2.mk' (Grow.drewNM (Grow.refl ((w.alloc (.cells #[.int .i64 id, .int .i64 proc, .int .i64 obj, .int .i64 3, .int .i64 7, .int .i64 arg, .int .i64 sec, .bool done, .int .i64 res, .int .i64 inv, .int .i64 ret] 52)).alloc (.cells #[.slice none 0 0, .int .i64 0, .bool false] 96))) nq))
  have hlv := hid (show xs = [] ∨ ∀ b' off' n' c', Value.slice (some ⟨b, off, none⟩) n cap = .slice (some ⟨b', off', none⟩) n' c' → b' ≠ w.heap.size + 1 from hv.apart (by omega))
  have hblt := World.block_lt_of_cell? w _ hc0
  simp only at hblt
  have hcap := hv.cap
  have HV := hid hv
  have HC0 := hid hc0
  have hln := hv.len
  have h20 := hv.length
  rw [← hln] at h20
  have HLN := hid hln
  have HL := hid hl
  have HAF := hid (show ∀ o n' c, l = [] ∨ ∀ b' off' n'' c', Value.slice (some ⟨b, o, none⟩) n' c = .slice (some ⟨b', off', none⟩) n'' c' → b' ≠ w.heap.size + 1 from fun o n' c => .inr fun b' off' n'' c' h => by cases h; omega)
  clear hv hc0 hln hl
  have hw : IntKind.i64.wrap ((n : Int) - 1) = ((n - 1 : Nat) : Int) := by rw [IntKind.wrap_i64]; omega
  have hn1 : ((n - 1 : Nat) : Int) < (n : Int) := by omega
  have hn2 : (0 : Int) ≤ ((n - 1 : Nat) : Int) := by omega
  have hn3 : (n : Int) ≤ (cap : Int) := by omega
  have hn4 : (0 : Int) < (n : Int) := by omega
  have hn5 : (1 : Int) ≤ (n : Int) := by omega
  have hn6 : ((n - 1 : Nat) : Int) ≤ (cap : Int) := by omega
  have hne : ((n : Int) == 0) = false := by simp; omega
  go_enter Try.func56, Try.ntmps56
  go_wp2_with fail
  go_quiet (fail)
  have HY := hid (HYF.out nq)
  generalize ((w.alloc (.cells #[.int .i64 id, .int .i64 proc, .int .i64 obj, .int .i64 3, .int .i64 7, .int .i64 arg, .int .i64 sec, .bool done, .int .i64 res, .int .i64 inv, .int .i64 ret] 52)).alloc (.cells #[.slice none 0 0, .int .i64 0, .bool false] 96)).drewN nq = wy at *
  clear HYF
  have d0 := HY.out.d0
  have d1 := HY.out.d1
  have d2 := HY.out.d2
  have f0 := HY.out.f0
  have f1 := HY.out.f1
  have f2 := HY.out.f2
  have c1 := HY.out.c1
  have c5 := HY.out.c5
  have hlt := HY.out.lt
  have hc0 := HY.out.grow.cell HC0.out
  have h01 : w.heap.size + 1 ≠ b := by omega
  go_wp2_with fail
  go_region_held3 (fun w' => w'.cell? ⟨b, off, none⟩ = some (.int .i64 x)) (go_keep) (fail)
  all_goals go_wp2_with fail
  all_goals (try simp only [Exit.inBlock, Exit.then])
  all_goals first
    | (refine done_ret (fn := Try.f56) (p := 4) (g := w.heap.size + 1) (e := 96) (fr := (0, 0)) (v := (.slice (some ⟨b, off + 1, none⟩) (n - 1) (cap - 1))) (n := x) (b := true) rfl rfl Try.underlying96 rfl (by kernel_rfl) rfl ?hg ?hP
       case hg => exact (Grow.drew _).heap (done3 HY.out.blk _ _ _)
       case hP => exact DonePost.intro rfl rfl ((Ints.sets (xs := l) (by rw [HL.out]; exact (HV.out.grow HY.out.grow).drop1 _ _ rfl h0) (HAF.out _ _ _)).grow (Grow.drew _)) (Grow.trans (HY.out.new (Grow.refl _) _ _ _) (Grow.drew _)) (Kin.within (Nat.sub_le _ _)))
    | (refine done_ret (fn := Try.f56) (p := 4) (g := w.heap.size + 1) (e := 96) (fr := (0, 0)) (v := (.slice (some ⟨b, off, none⟩) (n - 1) 0)) (n := x) (b := true) rfl rfl Try.underlying96 rfl (by kernel_rfl) rfl ?hg ?hP
       case hg => exact (Grow.drew _).heap (done3 HY.out.blk _ _ _)
       case hP => exact DonePost.intro rfl rfl ((Ints.sets (xs := l) (by rw [HL.out]; exact Ints.drop0 (by rw [← HLN.out]; omega) (by omega)) (HAF.out _ _ _)).grow (Grow.drew _)) (Grow.trans (HY.out.new (Grow.refl _) _ _ _) (Grow.drew _)) (Kin.within (Nat.sub_le _ _)))
set_option maxRecDepth 100000 in
set_option maxHeartbeats 4000000 in
theorem RDo_pop (id proc obj arg sec : Int) (done : Bool) (res inv ret : Int) (xs : List Int) (b off n cap : Nat) (x : Int) (w : World) (hv : Ints w (.slice (some ⟨b, off, none⟩) n cap) xs) (h0 : 0 < n) (hc0 : w.cell? ⟨b, off + (n - 1), none⟩ = some (.int .i64 x)) (l : List Int) (hl : l = xs.take (n - 1)) :
    Calls Try.prog 56 #[.slice (some ⟨b, off, none⟩) n cap, .agg #[.int .i64 id, .int .i64 proc, .int .i64 obj, .int .i64 4, .int .i64 9, .int .i64 arg, .int .i64 sec, .bool done, .int .i64 res, .int .i64 inv, .int .i64 ret]] w (DonePost (l, x, true) (.slice (some ⟨b, off, none⟩) n cap) w) := by
  have HYF := hid (fun nq => Own2.mk' (Grow.drewNM (Grow.refl ((w.alloc (.cells #[.int .i64 id, .int .i64 proc, .int .i64 obj, .int .i64 4, .int .i64 9, .int .i64 arg, .int .i64 sec, .bool done, .int .i64 res, .int .i64 inv, .int .i64 ret] 52)).alloc (.cells #[.slice none 0 0, .int .i64 0, .bool false] 96))) nq))
  have hlv := hid (show xs = [] ∨ ∀ b' off' n' c', Value.slice (some ⟨b, off, none⟩) n cap = .slice (some ⟨b', off', none⟩) n' c' → b' ≠ w.heap.size + 1 from hv.apart (by omega))
  have hblt := World.block_lt_of_cell? w _ hc0
  simp only at hblt
  have hcap := hv.cap
  have HV := hid hv
  have HC0 := hid hc0
  have hln := hv.len
  have h20 := hv.length
  rw [← hln] at h20
  have HLN := hid hln
  have HL := hid hl
  have HAF := hid (show ∀ o n' c, l = [] ∨ ∀ b' off' n'' c', Value.slice (some ⟨b, o, none⟩) n' c = .slice (some ⟨b', off', none⟩) n'' c' → b' ≠ w.heap.size + 1 from fun o n' c => .inr fun b' off' n'' c' h => by cases h; omega)
  clear hv hc0 hln hl
  have hw : IntKind.i64.wrap ((n : Int) - 1) = ((n - 1 : Nat) : Int) := by rw [IntKind.wrap_i64]; omega
  have hn1 : ((n - 1 : Nat) : Int) < (n : Int) := by omega
  have hn2 : (0 : Int) ≤ ((n - 1 : Nat) : Int) := by omega
  have hn3 : (n : Int) ≤ (cap : Int) := by omega
  have hn4 : (0 : Int) < (n : Int) := by omega
  have hn5 : (1 : Int) ≤ (n : Int) := by omega
  have hn6 : ((n - 1 : Nat) : Int) ≤ (cap : Int) := by omega
  have hne : ((n : Int) == 0) = false := by simp; omega
  go_enter Try.func56, Try.ntmps56
  go_wp2_with fail
  go_quiet (fail)
  have HY := hid (HYF.out nq)
  generalize ((w.alloc (.cells #[.int .i64 id, .int .i64 proc, .int .i64 obj, .int .i64 4, .int .i64 9, .int .i64 arg, .int .i64 sec, .bool done, .int .i64 res, .int .i64 inv, .int .i64 ret] 52)).alloc (.cells #[.slice none 0 0, .int .i64 0, .bool false] 96)).drewN nq = wy at *
  clear HYF
  have d0 := HY.out.d0
  have d1 := HY.out.d1
  have d2 := HY.out.d2
  have f0 := HY.out.f0
  have f1 := HY.out.f1
  have f2 := HY.out.f2
  have c1 := HY.out.c1
  have c5 := HY.out.c5
  have hlt := HY.out.lt
  have hc0 := HY.out.grow.cell HC0.out
  have h01 : w.heap.size + 1 ≠ b := by omega
  go_wp2_with fail
  go_region_held3 (fun w' => w'.cell? ⟨b, off + (n - 1), none⟩ = some (.int .i64 x)) (go_keep) (fail)
  all_goals go_wp2_with fail
  all_goals (try simp only [Exit.inBlock, Exit.then])
  all_goals first
    | (refine done_ret (fn := Try.f56) (p := 4) (g := w.heap.size + 1) (e := 96) (fr := (0, 0)) (v := (.slice (some ⟨b, off, none⟩) (n - 1) cap)) (n := x) (b := true) rfl rfl Try.underlying96 rfl (by kernel_rfl) rfl ?hg ?hP
       case hg => exact (Grow.drew _).heap (done3 HY.out.blk _ _ _)
       case hP => exact DonePost.intro rfl rfl ((Ints.sets (xs := l) (by rw [HL.out]; exact (HV.out.grow HY.out.grow).take1) (HAF.out _ _ _)).grow (Grow.drew _)) (Grow.trans (HY.out.new (Grow.refl _) _ _ _) (Grow.drew _)) (Kin.within (Nat.sub_le _ _)))
set_option maxRecDepth 100000 in
set_option maxHeartbeats 8000000 in
theorem RDo_enq (id proc obj arg sec : Int) (done : Bool) (res inv ret : Int) (xs : List Int) (p : Option Addr) (n cap : Nat) (w : World) (hv : Ints w (.slice p n cap) xs) (hn : n + 1 ≤ 17592186044416) :
    Calls Try.prog 56 #[.slice p n cap, .agg #[.int .i64 id, .int .i64 proc, .int .i64 obj, .int .i64 3, .int .i64 6, .int .i64 arg, .int .i64 sec, .bool done, .int .i64 res, .int .i64 inv, .int .i64 ret]] w (DonePost (xs ++ [arg], 0, true) (.slice p n cap) w) := by
  have HYF := hid (fun nq => Own2.mk' (Grow.drewNM (Grow.refl ((w.alloc (.cells #[.int .i64 id, .int .i64 proc, .int .i64 obj, .int .i64 3, .int .i64 6, .int .i64 arg, .int .i64 sec, .bool done, .int .i64 res, .int .i64 inv, .int .i64 ret] 52)).alloc (.cells #[.slice none 0 0, .int .i64 0, .bool false] 96))) nq))
  have HV := hid hv
  clear hv
  go_enter Try.func56, Try.ntmps56
  go_wp2_with fail
  go_quiet (fail)
  have HY := hid (HYF.out nq)
  generalize ((w.alloc (.cells #[.int .i64 id, .int .i64 proc, .int .i64 obj, .int .i64 3, .int .i64 6, .int .i64 arg, .int .i64 sec, .bool done, .int .i64 res, .int .i64 inv, .int .i64 ret] 52)).alloc (.cells #[.slice none 0 0, .int .i64 0, .bool false] 96)).drewN nq = wy at *
  clear HYF
  have d0 := HY.out.d0
  have d1 := HY.out.d1
  have d2 := HY.out.d2
  have f0 := HY.out.f0
  have f1 := HY.out.f1
  have f2 := HY.out.f2
  have c1 := HY.out.c1
  have c5 := HY.out.c5
  have hlt := HY.out.lt
  have hvy := HV.out.grow HY.out.grow
  have HVY := hid hvy
  clear hvy HV
  go_wp2_with fail
  go_region_held3 (fun w' => w'.cell? ⟨w.heap.size, 5, none⟩ = some (.int .i64 arg)) (first | go_keep | (exact Grow.cell G6.out c5) | (exact Grow.cell G5.out c5)) (first
    | (refine step_append_ints rfl _ _ rfl wy.heap.size _ 0 [] rfl (own_growM (World.ownsRow_made wy #[] 0 (by simp) (Nat.zero_le _) rfl) (Grow.drew _)) p n cap xs rfl (HVY.out.grow (Grow.trans (Grow.alloc wy (.cells #[] 3)) (Grow.drew _))) (by omega) (Grow.trans (Grow.alloc wy (.cells #[] 3)) (Grow.drew _)).size n (Nat.zero_add n) xs (List.nil_append xs) ?_; intro A5 k5 w5 o5 g5; have G5 := hid (show Grow wy w5 from Below.grown (Grow.trans (Grow.alloc wy (.cells #[] 3)) (Grow.drew _)) g5 (Grow.trans (Grow.alloc wy (.cells #[] 3)) (Grow.drew _)).size (fun k hk => Nat.le_of_eq (Option.some.inj hk))); have O5 := hid o5; clear o5 g5)
    | (refine step_append_ints rfl _ _ rfl wy.heap.size _ 0 [] rfl (own_growM (World.ownsRow_made wy #[] 0 (by simp) (Nat.zero_le _) rfl) (Grow.trans (Grow.alloc _ (.cells #[.int .i64 arg] 3)) (Grow.drew _))) p n cap xs rfl (HVY.out.grow (Grow.trans (Grow.trans (Grow.alloc wy (.cells #[] 3)) (Grow.alloc _ (.cells #[.int .i64 arg] 3))) (Grow.drew _))) (by omega) (Grow.trans (Grow.trans (Grow.alloc wy (.cells #[] 3)) (Grow.alloc _ (.cells #[.int .i64 arg] 3))) (Grow.drew _)).size n (Nat.zero_add n) xs (List.nil_append xs) ?_; intro A5 k5 w5 o5 g5; have G5 := hid (show Grow wy w5 from Below.grown (Grow.trans (Grow.trans (Grow.alloc wy (.cells #[] 3)) (Grow.alloc _ (.cells #[.int .i64 arg] 3))) (Grow.drew _)) g5 (Grow.trans (Grow.trans (Grow.alloc wy (.cells #[] 3)) (Grow.alloc _ (.cells #[.int .i64 arg] 3))) (Grow.drew _)).size (fun k hk => Nat.le_of_eq (Option.some.inj hk))); have O5 := hid o5; have X5 := hid (order2 rfl g5); clear o5 g5)
    | (refine step_append_ints rfl _ _ rfl wy.heap.size _ 0 [] rfl order3_own p n cap xs rfl (HVY.out.grow (Grow.trans (Grow.trans (Grow.alloc wy (.cells #[.int .i64 arg] 3)) (Grow.alloc _ (.cells #[] 3))) (Grow.drew _))) (by omega) (Grow.trans (Grow.trans (Grow.alloc wy (.cells #[.int .i64 arg] 3)) (Grow.alloc _ (.cells #[] 3))) (Grow.drew _)).size n (Nat.zero_add n) xs (List.nil_append xs) ?_; intro A5 k5 w5 o5 g5; have G5 := hid (show Grow wy w5 from Below.grown (Grow.trans (Grow.trans (Grow.alloc wy (.cells #[.int .i64 arg] 3)) (Grow.alloc _ (.cells #[] 3))) (Grow.drew _)) g5 (Grow.trans (Grow.trans (Grow.alloc wy (.cells #[.int .i64 arg] 3)) (Grow.alloc _ (.cells #[] 3))) (Grow.drew _)).size (fun k hk => Nat.le_trans (Nat.le_succ _) (Nat.le_of_eq (Option.some.inj hk)))); have O5 := hid o5; have X5 := hid (order3 rfl g5); clear o5 g5)
    | (refine step_append_ints rfl _ _ rfl wy.heap.size _ n xs rfl (own_growM O5.out (Grow.alloc w5 (.cells #[.int .i64 arg] 3))) _ 1 1 [arg] rfl (Ints.one (heap_new w5 _)) hn (Nat.le_trans G5.out.size (Grow.alloc w5 (.cells #[.int .i64 arg] 3)).size) (n + 1) rfl (xs ++ [arg]) rfl ?_; intro A6 k6 w6 o6 g6; have G6 := hid (show Grow wy w6 from Below.grown (Grow.trans G5.out (Grow.alloc w5 (.cells #[.int .i64 arg] 3))) g6 (Nat.le_trans G5.out.size (Grow.alloc w5 (.cells #[.int .i64 arg] 3)).size) (fun k hk => (O5.out.lt k hk).1)); have O6 := hid o6; clear o6 g6; have HY6 := hid (HY.out.next G6.out); have e0 := HY6.out.d0; have e1 := HY6.out.d1; have e2 := HY6.out.d2; have z0 := HY6.out.f0; have z1 := HY6.out.f1; have z2 := HY6.out.f2)
    | (refine step_append_ints rfl _ _ rfl wy.heap.size _ n xs rfl (own_growM O5.out (Grow.refl w5)) _ 1 1 [arg] rfl X5.out hn (Nat.le_trans G5.out.size (Grow.refl w5).size) (n + 1) rfl (xs ++ [arg]) rfl ?_; intro A6 k6 w6 o6 g6; have G6 := hid (show Grow wy w6 from Below.grown (Grow.trans G5.out (Grow.refl w5)) g6 (Nat.le_trans G5.out.size (Grow.refl w5).size) (fun k hk => (O5.out.lt k hk).1)); have O6 := hid o6; clear o6 g6; have HY6 := hid (HY.out.next G6.out); have e0 := HY6.out.d0; have e1 := HY6.out.d1; have e2 := HY6.out.d2; have z0 := HY6.out.f0; have z1 := HY6.out.f1; have z2 := HY6.out.f2)
    )
  all_goals go_wp2_with fail
  all_goals (try simp only [Exit.inBlock, Exit.then])
  all_goals
    refine done_ret (fn := Try.f56) (p := 4) (g := w.heap.size + 1) (e := 96) (fr := (0, 0)) (v := .slice A6 (n + 1) k6) (n := 0) (b := true) rfl rfl Try.underlying96 rfl (by kernel_rfl) rfl ?hg ?hP
    case hg => first | exact done3 HY6.out.blk _ _ _ | exact (Grow.drew _).heap (done3 HY6.out.blk _ _ _)
    case hP => first | exact DonePost.intro rfl rfl ((Ints.of_own O6.out (by omega)).sets (.inr fun b off n' c h => by have := (O6.out.lt b (by rw [h]; rfl)).1; omega)) (HY6.out.new (Grow.refl _) _ _ _) (.new fun b off n' c h => by have := (O6.out.lt b (by rw [h]; rfl)).1; omega) | exact DonePost.intro rfl rfl (((Ints.of_own O6.out (by omega)).sets (.inr fun b off n' c h => by have := (O6.out.lt b (by rw [h]; rfl)).1; omega)).grow (Grow.drew _)) (Grow.trans (HY6.out.new (Grow.refl _) _ _ _) (Grow.drew _)) (.new fun b off n' c h => by have := (O6.out.lt b (by rw [h]; rfl)).1; omega)
set_option maxRecDepth 100000 in
set_option maxHeartbeats 8000000 in
theorem RDo_push (id proc obj arg sec : Int) (done : Bool) (res inv ret : Int) (xs : List Int) (p : Option Addr) (n cap : Nat) (w : World) (hv : Ints w (.slice p n cap) xs) (hn : n + 1 ≤ 17592186044416) :
    Calls Try.prog 56 #[.slice p n cap, .agg #[.int .i64 id, .int .i64 proc, .int .i64 obj, .int .i64 4, .int .i64 8, .int .i64 arg, .int .i64 sec, .bool done, .int .i64 res, .int .i64 inv, .int .i64 ret]] w (DonePost (xs ++ [arg], 0, true) (.slice p n cap) w) := by
  have HYF := hid (fun nq => Own2.mk' (Grow.drewNM (Grow.refl ((w.alloc (.cells #[.int .i64 id, .int .i64 proc, .int .i64 obj, .int .i64 4, .int .i64 8, .int .i64 arg, .int .i64 sec, .bool done, .int .i64 res, .int .i64 inv, .int .i64 ret] 52)).alloc (.cells #[.slice none 0 0, .int .i64 0, .bool false] 96))) nq))
  have HV := hid hv
  clear hv
  go_enter Try.func56, Try.ntmps56
  go_wp2_with fail
  go_quiet (fail)
  have HY := hid (HYF.out nq)
  generalize ((w.alloc (.cells #[.int .i64 id, .int .i64 proc, .int .i64 obj, .int .i64 4, .int .i64 8, .int .i64 arg, .int .i64 sec, .bool done, .int .i64 res, .int .i64 inv, .int .i64 ret] 52)).alloc (.cells #[.slice none 0 0, .int .i64 0, .bool false] 96)).drewN nq = wy at *
  clear HYF
  have d0 := HY.out.d0
  have d1 := HY.out.d1
  have d2 := HY.out.d2
  have f0 := HY.out.f0
  have f1 := HY.out.f1
  have f2 := HY.out.f2
  have c1 := HY.out.c1
  have c5 := HY.out.c5
  have hlt := HY.out.lt
  have hvy := HV.out.grow HY.out.grow
  have HVY := hid hvy
  clear hvy HV
  go_wp2_with fail
  go_region_held3 (fun w' => w'.cell? ⟨w.heap.size, 5, none⟩ = some (.int .i64 arg)) (first | go_keep | (exact Grow.cell G6.out c5) | (exact Grow.cell G5.out c5)) (first
    | (refine step_append_ints rfl _ _ rfl wy.heap.size _ 0 [] rfl (own_growM (World.ownsRow_made wy #[] 0 (by simp) (Nat.zero_le _) rfl) (Grow.drew _)) p n cap xs rfl (HVY.out.grow (Grow.trans (Grow.alloc wy (.cells #[] 3)) (Grow.drew _))) (by omega) (Grow.trans (Grow.alloc wy (.cells #[] 3)) (Grow.drew _)).size n (Nat.zero_add n) xs (List.nil_append xs) ?_; intro A5 k5 w5 o5 g5; have G5 := hid (show Grow wy w5 from Below.grown (Grow.trans (Grow.alloc wy (.cells #[] 3)) (Grow.drew _)) g5 (Grow.trans (Grow.alloc wy (.cells #[] 3)) (Grow.drew _)).size (fun k hk => Nat.le_of_eq (Option.some.inj hk))); have O5 := hid o5; clear o5 g5)
    | (refine step_append_ints rfl _ _ rfl wy.heap.size _ 0 [] rfl (own_growM (World.ownsRow_made wy #[] 0 (by simp) (Nat.zero_le _) rfl) (Grow.trans (Grow.alloc _ (.cells #[.int .i64 arg] 3)) (Grow.drew _))) p n cap xs rfl (HVY.out.grow (Grow.trans (Grow.trans (Grow.alloc wy (.cells #[] 3)) (Grow.alloc _ (.cells #[.int .i64 arg] 3))) (Grow.drew _))) (by omega) (Grow.trans (Grow.trans (Grow.alloc wy (.cells #[] 3)) (Grow.alloc _ (.cells #[.int .i64 arg] 3))) (Grow.drew _)).size n (Nat.zero_add n) xs (List.nil_append xs) ?_; intro A5 k5 w5 o5 g5; have G5 := hid (show Grow wy w5 from Below.grown (Grow.trans (Grow.trans (Grow.alloc wy (.cells #[] 3)) (Grow.alloc _ (.cells #[.int .i64 arg] 3))) (Grow.drew _)) g5 (Grow.trans (Grow.trans (Grow.alloc wy (.cells #[] 3)) (Grow.alloc _ (.cells #[.int .i64 arg] 3))) (Grow.drew _)).size (fun k hk => Nat.le_of_eq (Option.some.inj hk))); have O5 := hid o5; have X5 := hid (order2 rfl g5); clear o5 g5)
    | (refine step_append_ints rfl _ _ rfl wy.heap.size _ 0 [] rfl order3_own p n cap xs rfl (HVY.out.grow (Grow.trans (Grow.trans (Grow.alloc wy (.cells #[.int .i64 arg] 3)) (Grow.alloc _ (.cells #[] 3))) (Grow.drew _))) (by omega) (Grow.trans (Grow.trans (Grow.alloc wy (.cells #[.int .i64 arg] 3)) (Grow.alloc _ (.cells #[] 3))) (Grow.drew _)).size n (Nat.zero_add n) xs (List.nil_append xs) ?_; intro A5 k5 w5 o5 g5; have G5 := hid (show Grow wy w5 from Below.grown (Grow.trans (Grow.trans (Grow.alloc wy (.cells #[.int .i64 arg] 3)) (Grow.alloc _ (.cells #[] 3))) (Grow.drew _)) g5 (Grow.trans (Grow.trans (Grow.alloc wy (.cells #[.int .i64 arg] 3)) (Grow.alloc _ (.cells #[] 3))) (Grow.drew _)).size (fun k hk => Nat.le_trans (Nat.le_succ _) (Nat.le_of_eq (Option.some.inj hk)))); have O5 := hid o5; have X5 := hid (order3 rfl g5); clear o5 g5)
    | (refine step_append_ints rfl _ _ rfl wy.heap.size _ n xs rfl (own_growM O5.out (Grow.alloc w5 (.cells #[.int .i64 arg] 3))) _ 1 1 [arg] rfl (Ints.one (heap_new w5 _)) hn (Nat.le_trans G5.out.size (Grow.alloc w5 (.cells #[.int .i64 arg] 3)).size) (n + 1) rfl (xs ++ [arg]) rfl ?_; intro A6 k6 w6 o6 g6; have G6 := hid (show Grow wy w6 from Below.grown (Grow.trans G5.out (Grow.alloc w5 (.cells #[.int .i64 arg] 3))) g6 (Nat.le_trans G5.out.size (Grow.alloc w5 (.cells #[.int .i64 arg] 3)).size) (fun k hk => (O5.out.lt k hk).1)); have O6 := hid o6; clear o6 g6; have HY6 := hid (HY.out.next G6.out); have e0 := HY6.out.d0; have e1 := HY6.out.d1; have e2 := HY6.out.d2; have z0 := HY6.out.f0; have z1 := HY6.out.f1; have z2 := HY6.out.f2)
    | (refine step_append_ints rfl _ _ rfl wy.heap.size _ n xs rfl (own_growM O5.out (Grow.refl w5)) _ 1 1 [arg] rfl X5.out hn (Nat.le_trans G5.out.size (Grow.refl w5).size) (n + 1) rfl (xs ++ [arg]) rfl ?_; intro A6 k6 w6 o6 g6; have G6 := hid (show Grow wy w6 from Below.grown (Grow.trans G5.out (Grow.refl w5)) g6 (Nat.le_trans G5.out.size (Grow.refl w5).size) (fun k hk => (O5.out.lt k hk).1)); have O6 := hid o6; clear o6 g6; have HY6 := hid (HY.out.next G6.out); have e0 := HY6.out.d0; have e1 := HY6.out.d1; have e2 := HY6.out.d2; have z0 := HY6.out.f0; have z1 := HY6.out.f1; have z2 := HY6.out.f2)
    )
  all_goals go_wp2_with fail
  all_goals (try simp only [Exit.inBlock, Exit.then])
  all_goals
    refine done_ret (fn := Try.f56) (p := 4) (g := w.heap.size + 1) (e := 96) (fr := (0, 0)) (v := .slice A6 (n + 1) k6) (n := 0) (b := true) rfl rfl Try.underlying96 rfl (by kernel_rfl) rfl ?hg ?hP
    case hg => first | exact done3 HY6.out.blk _ _ _ | exact (Grow.drew _).heap (done3 HY6.out.blk _ _ _)
    case hP => first | exact DonePost.intro rfl rfl ((Ints.of_own O6.out (by omega)).sets (.inr fun b off n' c h => by have := (O6.out.lt b (by rw [h]; rfl)).1; omega)) (HY6.out.new (Grow.refl _) _ _ _) (.new fun b off n' c h => by have := (O6.out.lt b (by rw [h]; rfl)).1; omega) | exact DonePost.intro rfl rfl (((Ints.of_own O6.out (by omega)).sets (.inr fun b off n' c h => by have := (O6.out.lt b (by rw [h]; rfl)).1; omega)).grow (Grow.drew _)) (Grow.trans (HY6.out.new (Grow.refl _) _ _ _) (Grow.drew _)) (.new fun b off n' c h => by have := (O6.out.lt b (by rw [h]; rfl)).1; omega)
end Go.Proofs.Ytlhgdbangnohjaa
namespace Go.Proofs.Ytlhgdbangnohjaa
open Go.RowKit
set_option linter.unusedVariables false
set_option linter.unusedSimpArgs false
theorem beq_no {a b : Int} (h : ¬ a = b) : (a == b) = false := by simpa using h
theorem bne_yes {a b : Int} (h : ¬ a = b) : (a != b) = true := by simpa using h
theorem beq_yes {a b : Int} (h : a = b) : (a == b) = true := by simpa using h
theorem filter_lt (xs : List Int) (x : Int) : (xs.filter (fun y => decide (y ≠ x))).length < xs.length ↔ x ∈ xs := by
  induction xs with
  | nil => simp
  | cons y l ih =>
    by_cases h : y = x
    · subst h
      have := List.length_filter_le (fun z => decide (z ≠ y)) l
      have e : (y :: l).filter (fun z => decide (z ≠ y)) = l.filter (fun z => decide (z ≠ y)) := by simp
      rw [e, List.length_cons]
      constructor
      · intro _; exact List.mem_cons_self ..
      · intro _; omega
    · have e : (y :: l).filter (fun z => decide (z ≠ x)) = y :: l.filter (fun z => decide (z ≠ x)) := by simp [h]
      rw [e, List.length_cons, List.length_cons, List.mem_cons]
      constructor
      · intro h'; exact .inr (ih.1 (by omega))
      · rintro (h' | h')
        · exact absurd h'.symm h
        · have := ih.2 h'; omega
theorem RDo_c (xs : List Int) (o : OpR) (v : Value) (w : World) (hv : Ints w v xs) (hn : xs.length + 1 ≤ 17592186044416) :
    Calls Try.prog 56 #[v, .agg #[.int .i64 o.id, .int .i64 o.proc, .int .i64 o.obj, .int .i64 o.kind, .int .i64 o.meth, .int .i64 o.arg, .int .i64 o.sec, .bool o.done, .int .i64 o.res, .int .i64 o.inv, .int .i64 o.ret]] w (DonePost (doL xs o) v w) := by
  by_cases k1 : o.kind = 1 ∨ o.kind = 2
  · have hN : ∀ w, Ints w v xs → Calls Try.prog 62 #[v, .agg #[.int .i64 o.id, .int .i64 o.proc, .int .i64 o.obj, .int .i64 o.kind, .int .i64 o.meth, .int .i64 o.arg, .int .i64 o.sec, .bool o.done, .int .i64 o.res, .int .i64 o.inv, .int .i64 o.ret]] w (NumPost (doL xs o) v w) := fun w hw => by
      by_cases hx : xs.length = 1
      · obtain ⟨x, rfl⟩ : ∃ x, xs = [x] := List.length_eq_one_iff.1 hx
        have e : doL [x] o = numberL x o := by unfold doL; rw [if_pos k1]; simp
        rw [e]
        exact RNumber_c x o v w hw k1
      · have e : doL xs o = ([], 0, false) := by unfold doL; rw [if_pos k1, if_pos hx]
        rw [e]
        exact RNumberBad_c xs o v w hw hx
    obtain ⟨id, proc, obj, kind, meth, arg, sec, done, res, inv, ret⟩ := o
    dsimp only at *
    rcases k1 with rfl | rfl
    · exact RDo_num1 id proc obj meth arg sec done res inv ret xs _ v w hv hN
    · exact RDo_num2 id proc obj meth arg sec done res inv ret xs _ v w hv hN
  · obtain ⟨p, cap, rfl, hc⟩ := hv.at
    have hW := fun w hw => without_c xs o.arg (.slice p xs.length cap) w hw hn
    have hT := fun w hw => with_c xs o.arg (.slice p xs.length cap) w hw hn
    have hW1 : ∀ w, Ints w (.slice p xs.length cap) xs → Calls Try.prog 63 #[.slice p xs.length cap, .int .i64 o.arg] w fun e w' => ∃ px cx, e = .returned (.slice px (xs.filter (fun y => decide (y ≠ o.arg))).length cx) ∧ Grow w w' := fun w hw => by
      refine (hW w hw).mono ?_
      rintro e w' ⟨v', rfl, hi, hg, -⟩
      obtain ⟨px, cx, rfl, -⟩ := hi.at
      exact ⟨px, cx, rfl, hg⟩
    have hmem := filter_lt xs o.arg
    obtain ⟨id, proc, obj, kind, meth, arg, sec, done, res, inv, ret⟩ := o
    dsimp only at *
    have n1 : ¬ kind = 1 := fun h => k1 (.inl h)
    have n2 : ¬ kind = 2 := fun h => k1 (.inr h)
    by_cases k3 : kind = 3
    · subst k3
      have ed : doL xs ⟨id, proc, obj, 3, meth, arg, sec, done, res, inv, ret⟩ = listL xs ⟨id, proc, obj, 3, meth, arg, sec, done, res, inv, ret⟩ := rfl
      rw [ed]
      by_cases m6 : meth = 6
      · subst m6
        exact RDo_enq id proc obj arg sec done res inv ret xs p _ cap w hv hn
      · by_cases m7 : meth = 7
        · subst m7
          by_cases h0 : xs.length = 0
          · obtain rfl := List.eq_nil_of_length_eq_zero h0
            exact RDo_qe id proc obj arg sec done res inv ret cap p w
          · have e : listL xs ⟨id, proc, obj, 3, 7, arg, sec, done, res, inv, ret⟩ = (xs.drop 1, xs.getD 0 0, true) := by unfold listL; simp [h0]
            rw [e]
            obtain ⟨b, off, rfl, c0⟩ := hc 0 (by omega)
            exact RDo_deq id proc obj arg sec done res inv ret xs b off _ cap _ w hv (by omega) c0 _ rfl
        · have e : listL xs ⟨id, proc, obj, 3, meth, arg, sec, done, res, inv, ret⟩ = ([], 0, false) := by unfold listL; simp [m6, m7]
          rw [e]
          exact RDo_q id proc obj meth arg sec done res inv ret _ w (beq_no m6) (beq_no m7)
    · by_cases k4 : kind = 4
      · subst k4
        have ed : doL xs ⟨id, proc, obj, 4, meth, arg, sec, done, res, inv, ret⟩ = listL xs ⟨id, proc, obj, 4, meth, arg, sec, done, res, inv, ret⟩ := rfl
        rw [ed]
        by_cases m6 : meth = 8
        · subst m6
          exact RDo_push id proc obj arg sec done res inv ret xs p _ cap w hv hn
        · by_cases m7 : meth = 9
          · subst m7
            by_cases h0 : xs.length = 0
            · obtain rfl := List.eq_nil_of_length_eq_zero h0
              exact RDo_se id proc obj arg sec done res inv ret cap p w
            · have e : listL xs ⟨id, proc, obj, 4, 9, arg, sec, done, res, inv, ret⟩ = (xs.take (xs.length - 1), xs.getD (xs.length - 1) 0, true) := by unfold listL; simp [h0]
              rw [e]
              obtain ⟨b, off, rfl, c0⟩ := hc (xs.length - 1) (by omega)
              exact RDo_pop id proc obj arg sec done res inv ret xs b off _ cap _ w hv (by omega) c0 _ rfl
          · have e : listL xs ⟨id, proc, obj, 4, meth, arg, sec, done, res, inv, ret⟩ = ([], 0, false) := by unfold listL; simp [m6, m7]
            rw [e]
            exact RDo_s id proc obj meth arg sec done res inv ret _ w (beq_no m6) (beq_no m7)
      · by_cases k5 : kind = 5
        · subst k5
          have ed : doL xs ⟨id, proc, obj, 5, meth, arg, sec, done, res, inv, ret⟩ = setL xs ⟨id, proc, obj, 5, meth, arg, sec, done, res, inv, ret⟩ := rfl
          rw [ed]
          by_cases hin : arg ∈ xs
          · have hd := decide_eq_true (hmem.2 hin)
            by_cases m1 : meth = 12
            · subst m1
              have e : setL xs ⟨id, proc, obj, 5, 12, arg, sec, done, res, inv, ret⟩ = (xs, 1, true) := by unfold setL; simp [hin]
              rw [e]
              exact RDo_h1 id proc obj arg sec done res inv ret xs p _ cap _ w hv hd hW1
            · by_cases m2 : meth = 10
              · subst m2
                have e : setL xs ⟨id, proc, obj, 5, 10, arg, sec, done, res, inv, ret⟩ = (xs, 0, true) := by unfold setL; simp [hin]
                rw [e]
                exact RDo_a1 id proc obj arg sec done res inv ret xs p _ cap _ w hv hd hW1
              · by_cases m3 : meth = 11
                · subst m3
                  have e : setL xs ⟨id, proc, obj, 5, 11, arg, sec, done, res, inv, ret⟩ = (xs.filter (fun y => decide (y ≠ arg)), 1, true) := by unfold setL; simp [hin]
                  rw [e]
                  exact RDo_m1 id proc obj arg sec done res inv ret xs p _ cap _ w hv hd hW1 _ hW
                · have e : setL xs ⟨id, proc, obj, 5, meth, arg, sec, done, res, inv, ret⟩ = ([], 0, false) := by unfold setL; simp [m1, m2, m3]
                  rw [e]
                  exact RDo_z id proc obj meth arg sec done res inv ret xs p _ cap _ w hv hd hW1 (beq_no m1) (beq_no m2) (beq_no m3)
          · have hd := decide_eq_false (fun h => hin (hmem.1 h))
            by_cases m1 : meth = 12
            · subst m1
              have e : setL xs ⟨id, proc, obj, 5, 12, arg, sec, done, res, inv, ret⟩ = (xs, 0, true) := by unfold setL; simp [hin]
              rw [e]
              exact RDo_h0 id proc obj arg sec done res inv ret xs p _ cap _ w hv hd hW1
            · by_cases m2 : meth = 10
              · subst m2
                have e : setL xs ⟨id, proc, obj, 5, 10, arg, sec, done, res, inv, ret⟩ = (insL arg xs, 1, true) := by unfold setL; simp [hin]
                rw [e]
                exact RDo_a0 id proc obj arg sec done res inv ret xs p _ cap _ w hv hd hW1 _ hT
              · by_cases m3 : meth = 11
                · subst m3
                  have e : setL xs ⟨id, proc, obj, 5, 11, arg, sec, done, res, inv, ret⟩ = (xs, 0, true) := by unfold setL; simp [hin]
                  rw [e]
                  exact RDo_m0 id proc obj arg sec done res inv ret xs p _ cap _ w hv hd hW1
                · have e : setL xs ⟨id, proc, obj, 5, meth, arg, sec, done, res, inv, ret⟩ = ([], 0, false) := by unfold setL; simp [m1, m2, m3]
                  rw [e]
                  exact RDo_z0 id proc obj meth arg sec done res inv ret xs p _ cap _ w hv hd hW1 (beq_no m1) (beq_no m2) (beq_no m3)
        · by_cases k6 : kind = 6
          · subst k6
            have ed : doL xs ⟨id, proc, obj, 6, meth, arg, sec, done, res, inv, ret⟩ = mutexL xs ⟨id, proc, obj, 6, meth, arg, sec, done, res, inv, ret⟩ := rfl
            rw [ed]
            by_cases m1 : meth = 13
            · subst m1
              by_cases h0 : xs.length = 0
              · obtain rfl := List.eq_nil_of_length_eq_zero h0
                exact RDo_l0 id proc obj arg sec done res inv ret cap p w
              · have e : mutexL xs ⟨id, proc, obj, 6, 13, arg, sec, done, res, inv, ret⟩ = ([], 0, false) := by unfold mutexL; simp [h0]
                rw [e]
                exact RDo_l1 id proc obj arg sec done res inv ret p _ cap w (beq_no (by omega))
            · by_cases m2 : meth = 14
              · subst m2
                by_cases h1 : xs.length = 1
                · obtain ⟨x, rfl⟩ : ∃ x, xs = [x] := List.length_eq_one_iff.1 h1
                  obtain ⟨b, off, rfl, c0⟩ := hc 0 (by simp)
                  by_cases hx : x = proc
                  · have e : mutexL [x] ⟨id, proc, obj, 6, 14, arg, sec, done, res, inv, ret⟩ = ([], 0, true) := by unfold mutexL; simp [hx]
                    rw [e]
                    exact RDo_u1 id proc obj arg sec done res inv ret x b off cap w c0 (beq_yes hx)
                  · have e : mutexL [x] ⟨id, proc, obj, 6, 14, arg, sec, done, res, inv, ret⟩ = ([], 0, false) := by unfold mutexL; simp [hx]
                    rw [e]
                    exact RDo_u2 id proc obj arg sec done res inv ret x b off cap w c0 (beq_no hx)
                · have e : mutexL xs ⟨id, proc, obj, 6, 14, arg, sec, done, res, inv, ret⟩ = ([], 0, false) := by unfold mutexL; simp [h1]
                  rw [e]
                  exact RDo_u0 id proc obj arg sec done res inv ret p _ cap w (beq_no (by omega))
              · have e : mutexL xs ⟨id, proc, obj, 6, meth, arg, sec, done, res, inv, ret⟩ = ([], 0, false) := by unfold mutexL; simp [m1, m2]
                rw [e]
                exact RDo_m id proc obj meth arg sec done res inv ret _ w (beq_no m1) (beq_no m2)
          · have e : doL xs ⟨id, proc, obj, kind, meth, arg, sec, done, res, inv, ret⟩ = ([], 0, false) := by unfold doL; simp [n1, n2, k3, k4, k5, k6]
            rw [e]
            exact RDo_x id proc obj kind meth arg sec done res inv ret _ w (beq_no n1) (beq_no n2) (beq_no k3) (beq_no k4) (beq_no k5) (beq_no k6) (bne_yes k5)
end Go.Proofs.Ytlhgdbangnohjaa
