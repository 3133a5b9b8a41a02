/- What model.number computes. -/
import Derived.Test.YtlhgdbangnohjaaMAll
namespace Go.Proofs.Ytlhgdbangnohjaa
open Go.RowKit
set_option linter.unusedVariables false
set_option linter.unusedSimpArgs false
theorem heap_newAt (w : World) (o : Obj) {g : Nat} (h : g = w.heap.size) : (w.alloc o).heap[g]? = some o := by
  subst h
  exact heap_new w o
theorem DoPost.intro {base : Nat} {r : List Int × Int × Bool} {w w' : World} {v : Value} {n : Int} {b : Bool} (hn : n = r.2.1) (hb : b = r.2.2) (hi : IntsF base w' v r.1) (hg : Below base w w') : DoPost base r w (.returned (.tuple #[v, .int .i64 n, .bool b])) w' := by
  subst hn hb
  exact ⟨v, rfl, hi, hg⟩
theorem Ints.one {w : World} {g : Nat} {e : TypeId} {fr : Nat × Nat} {x : Int} (h : w.heap[g]? = some (.cells #[.int .i64 x] e fr)) : Ints w (.slice (some ⟨g, 0, none⟩) 1 1) [x] := by
  refine ⟨some ⟨g, 0, none⟩, 1, rfl, by simp, fun _ => ⟨g, 0, rfl, fun i hi => ?_⟩, by simp⟩
  obtain rfl : i = 0 := by simp at hi; exact hi
  rw [heap_cell h]
  simp
theorem Ints.new {w : World} {g : Nat} {e : TypeId} {x : Int} (hg : g = w.heap.size) : Ints (w.alloc (.cells #[.int .i64 x] e)) (.slice (some ⟨g, 0, none⟩) 1 1) [x] := by
  subst hg
  exact Ints.one (heap_new w _)
set_option maxRecDepth 100000 in
set_option maxHeartbeats 4000000 in
theorem number_c (x : Int) (o : OpR) (v : Value) (w : World) (base : Nat) (hb : base ≤ w.heap.size) (hlv : Lies base v) (hv : Ints w v [x]) : Calls Try.prog 53 #[v, .agg #[.int .i64 o.id, .int .i64 o.proc, .int .i64 o.obj, .int .i64 o.kind, .int .i64 o.meth, .int .i64 o.arg, .int .i64 o.sec, .bool o.done, .int .i64 o.res, .int .i64 o.inv, .int .i64 o.ret]] w (DoPost base (numberL x o) w) := by
  have HLV := hid hlv
  clear hlv
  obtain ⟨p, cap, rfl, hc⟩ := hv.at
  obtain ⟨b, off, rfl, hc0⟩ := hc 0 (by simp)
  have HV := hid hv
  clear hc hv
  have hblt := World.block_lt_of_cell? w _ hc0
  simp only at hblt
  obtain ⟨id, proc, obj, kind, meth, arg, sec, done, res, inv, ret⟩ := o
  dsimp only
  generalize hR : numberL x ⟨id, proc, obj, kind, meth, arg, sec, done, res, inv, ret⟩ = R
  have HR := hid hR
  clear hR
  replace hc0 : w.cell? ⟨b, off, none⟩ = some (.int .i64 x) := hc0
  replace HLV : Hid (Lies base (.slice (some ⟨b, off, none⟩) 1 cap)) := hid (by have := HLV.out; simpa using this)
  replace HV := hid (show Ints w (.slice (some ⟨b, off, none⟩) 1 cap) [x] from HV.out)
  show Calls _ _ #[.slice (some ⟨b, off, none⟩) 1 cap, _] _ _
  go_enter Try.func53, Try.ntmps53
  go_wp2_with fail
  all_goals try (go_quiet (fail); go_wp2_with fail)
  all_goals try (go_quiet (fail); go_wp2_with fail)
  all_goals go_ret3
  all_goals
    have e := HR.out
    simp only [beq_iff_eq, beq_eq_false_iff_ne, ne_eq] at *
    unfold numberL at e
    dsimp only at e
    repeat (first | rw [if_pos (by omega)] at e | rw [if_neg (by omega)] at e)
    subst e
    refine DoPost.intro (by first | rfl | (dsimp only; simp [wrap64])) rfl ?_ ?_
    rotate_left
    · refine Below.mono ?_ hb
      first
        | exact Grow.alloc _ _
        | exact Grow.drewNM (Grow.alloc _ _) _
        | exact Grow.trans (Grow.alloc _ _) (Grow.alloc _ _)
        | exact Grow.trans (Grow.drewNM (Grow.alloc _ _) _) (Grow.alloc _ _)
    · first
        | exact IntsF.nil
        | exact ⟨HV.out.grow (Grow.alloc _ _), HLV.out⟩
        | exact ⟨HV.out.grow (Grow.drewNM (Grow.alloc _ _) _), HLV.out⟩
        | exact ⟨Ints.new (by simp), Lies.at (by first | omega | (simp; omega))⟩
end Go.Proofs.Ytlhgdbangnohjaa
