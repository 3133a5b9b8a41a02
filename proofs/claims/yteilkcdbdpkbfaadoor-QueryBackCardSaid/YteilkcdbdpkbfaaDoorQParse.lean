/- A text is read as a query. -/
import Derived.Test.YteilkcdbdpkbfaaDoorQQuery
import Derived.Test.YteilkcdbdpkbfaaDoorLexScan
import Derived.RegionTactic
namespace Go.Proofs.YteilkcdbdpkbfaaDoor
open Go.RowKit
set_option linter.unusedVariables false
set_option linter.unusedSimpArgs false
attribute [local go_sem ↓ high] setCell_twice
theorem set9_heap {w2 : World} {rs : Nat} {t : TypeId} {a0 a1 a2 a3 a4 a5 a6 a7 a8 : Value} (hR : w2.heap[rs]? = some (.cells #[a0, a1, a2, a3, a4, a5, a6, a7, a8] t)) (c0 c1 c2 c3 c4 c5 c6 c7 c8 : Value) :
    (((((((((w2.setCell ⟨rs, 0, none⟩ c0).setCell ⟨rs, 1, none⟩ c1).setCell ⟨rs, 2, none⟩ c2).setCell ⟨rs, 3, none⟩ c3).setCell ⟨rs, 4, none⟩ c4).setCell ⟨rs, 5, none⟩ c5).setCell ⟨rs, 6, none⟩ c6).setCell ⟨rs, 7, none⟩ c7).setCell ⟨rs, 8, none⟩ c8).heap[rs]? = some (.cells #[c0, c1, c2, c3, c4, c5, c6, c7, c8] t) := by
  have h0 := heap_set hR 0 c0
  have h1 := heap_set (cs := #[c0, a1, a2, a3, a4, a5, a6, a7, a8]) h0 1 c1
  have h2 := heap_set (cs := #[c0, c1, a2, a3, a4, a5, a6, a7, a8]) h1 2 c2
  have h3 := heap_set (cs := #[c0, c1, c2, a3, a4, a5, a6, a7, a8]) h2 3 c3
  have h4 := heap_set (cs := #[c0, c1, c2, c3, a4, a5, a6, a7, a8]) h3 4 c4
  have h5 := heap_set (cs := #[c0, c1, c2, c3, c4, a5, a6, a7, a8]) h4 5 c5
  have h6 := heap_set (cs := #[c0, c1, c2, c3, c4, c5, a6, a7, a8]) h5 6 c6
  have h7 := heap_set (cs := #[c0, c1, c2, c3, c4, c5, c6, a7, a8]) h6 7 c7
  have h8 := heap_set (cs := #[c0, c1, c2, c3, c4, c5, c6, c7, a8]) h7 8 c8
  exact h8
theorem set9_keep {w2 : World} {rs g : Nat} {o : Obj} (h : w2.heap[g]? = some o) (hne : g ≠ rs) (c0 c1 c2 c3 c4 c5 c6 c7 c8 : Value) :
    (((((((((w2.setCell ⟨rs, 0, none⟩ c0).setCell ⟨rs, 1, none⟩ c1).setCell ⟨rs, 2, none⟩ c2).setCell ⟨rs, 3, none⟩ c3).setCell ⟨rs, 4, none⟩ c4).setCell ⟨rs, 5, none⟩ c5).setCell ⟨rs, 6, none⟩ c6).setCell ⟨rs, 7, none⟩ c7).setCell ⟨rs, 8, none⟩ c8).heap[g]? = some o := by
  have k : ∀ (w : World) (j : Nat) (v : Value), w.heap[g]? = some o → (w.setCell ⟨rs, j, none⟩ v).heap[g]? = some o := fun w j v hh => heap_keep hh ⟨rs, j, none⟩ v hne
  exact k _ 8 _ (k _ 7 _ (k _ 6 _ (k _ 5 _ (k _ 4 _ (k _ 3 _ (k _ 2 _ (k _ 1 _ (k _ 0 _ h))))))))
theorem set9_by (w2 : World) (rs : Nat) (c0 c1 c2 c3 c4 c5 c6 c7 c8 : Value) :
    w2.grownBy (((((((((w2.setCell ⟨rs, 0, none⟩ c0).setCell ⟨rs, 1, none⟩ c1).setCell ⟨rs, 2, none⟩ c2).setCell ⟨rs, 3, none⟩ c3).setCell ⟨rs, 4, none⟩ c4).setCell ⟨rs, 5, none⟩ c5).setCell ⟨rs, 6, none⟩ c6).setCell ⟨rs, 7, none⟩ c7).setCell ⟨rs, 8, none⟩ c8) (some rs) := by
  refine Lib.grownBy_setB ?_ 8 _
  refine Lib.grownBy_setB ?_ 7 _
  refine Lib.grownBy_setB ?_ 6 _
  refine Lib.grownBy_setB ?_ 5 _
  refine Lib.grownBy_setB ?_ 4 _
  refine Lib.grownBy_setB ?_ 3 _
  refine Lib.grownBy_setB ?_ 2 _
  refine Lib.grownBy_setB ?_ 1 _
  exact Lib.grownBy_setB (World.grownBy.refl w2 _) 0 _
theorem set9_grow {a w2 : World} {rs : Nat} (h : Grow a w2) (hrs : a.heap.size ≤ rs) (c0 c1 c2 c3 c4 c5 c6 c7 c8 : Value) :
    Grow a (((((((((w2.setCell ⟨rs, 0, none⟩ c0).setCell ⟨rs, 1, none⟩ c1).setCell ⟨rs, 2, none⟩ c2).setCell ⟨rs, 3, none⟩ c3).setCell ⟨rs, 4, none⟩ c4).setCell ⟨rs, 5, none⟩ c5).setCell ⟨rs, 6, none⟩ c6).setCell ⟨rs, 7, none⟩ c7).setCell ⟨rs, 8, none⟩ c8) := by
  refine Grow.set ?_ rs 8 hrs _
  refine Grow.set ?_ rs 7 hrs _
  refine Grow.set ?_ rs 6 hrs _
  refine Grow.set ?_ rs 5 hrs _
  refine Grow.set ?_ rs 4 hrs _
  refine Grow.set ?_ rs 3 hrs _
  refine Grow.set ?_ rs 2 hrs _
  refine Grow.set ?_ rs 1 hrs _
  exact Grow.set h rs 0 hrs _
set_option maxRecDepth 100000 in
/-- The closure, where nothing was amiss. -/
theorem catchIdle_c (p q r : Addr) (w : World) :
    CallsD Tryd.prog 26 #[.pointer (some p), .pointer (some q), .pointer (some r)] .returning w fun e u' w' => e = .returned (.tuple #[]) ∧ u' = .returning ∧ w' = w := by
  have hnil : ∀ w : World, (binOp BinOp.eql 20 .nilIface .nilIface).run Tryd.prog w = .ok (.bool true) w := fun _ => by kernel_rfl
  refine callsD_of_wpS Tryd.func26 rfl fun c₀ cs hu => ?_
  apply wpS_seq
  apply wpS_region
  simp only [Tryd.ntmps26, List.size_toArray, List.length_cons, List.length_nil, Nat.reduceAdd, Nat.reduceSub, Array.replicate_succ, Array.replicate_zero, List.push_toArray, List.append_toArray, List.nil_append, List.cons_append]
  simp [wpOpsS, go_sem, recoverD, hu, Exit.thenS]
  refine wpS_of_wp ?_
  go_wp2_with fail
  refine ⟨rfl, .returning, ?_, .tuple #[], ?_, rfl, rfl, rfl⟩
  · cases c₀
    simp at hu
    subst hu
    rfl
  · exact results_none rfl _ _ _
set_option maxRecDepth 100000 in
set_option maxHeartbeats 4000000 in
/-- The closure, where the reading was given up. -/
theorem catch_c (k p qb ab eb : Nat) (w0 w : World) (hg : Grow w0 w) (hq : w0.heap.size ≤ qb) (ha : w0.heap.size ≤ ab) (he : w0.heap.size ≤ eb) (n1 : qb ≠ ab) (n2 : qb ≠ eb) (n3 : ab ≠ eb) (v0 v1 v2 v3 v4 v5 v6 v7 v8 x y : Value)
    (Q : w.heap[qb]? = some (.cells #[v0, v1, v2, v3, v4, v5, v6, v7, v8] 26)) (A : w.heap[ab]? = some (.cells #[x] 3)) (E : w.heap[eb]? = some (.cells #[y] 29)) :
    CallsD Tryd.prog 26 #[.pointer (some ⟨qb, 0, none⟩), .pointer (some ⟨ab, 0, none⟩), .pointer (some ⟨eb, 0, none⟩)] (.panicking [{ v := .iface 64 (.agg #[.int .i64 (k : Int), .int .i64 (p : Int)]), recovered := false }]) w fun e u' w' =>
      e = .returned (.tuple #[]) ∧ u' = .panicking [{ v := .iface 64 (.agg #[.int .i64 (k : Int), .int .i64 (p : Int)]), recovered := true }] ∧ w'.heap[qb]? = some QueryZ ∧ w'.heap[ab]? = some (.cells #[.int .i64 (p : Int)] 3) ∧ w'.heap[eb]? = some (.cells #[.int .i64 (k : Int)] 29) ∧ Grow w0 w' := by
  have hnil : ∀ (v : Value) (w : World), (binOp BinOp.eql 20 (.iface 64 v) .nilIface).run Tryd.prog w = .ok (.bool false) w := fun _ _ => by rfl
  have hta : ∀ (v : Value) (w : World), (Instr.typeAssert (.iface 64 v) 20 64 true).run Tryd.prog w = .ok (.tuple #[v, .bool true]) w := fun _ _ => by rfl
  have q0 : w.cell? ⟨qb, 0, none⟩ = some v0 := by rw [heap_cell Q]; rfl
  have f0 : w.frozen? ⟨qb, 0, none⟩ = false := heap_frozen Q 0 (by omega)
  have q1 : w.cell? ⟨qb, 1, none⟩ = some v1 := by rw [heap_cell Q]; rfl
  have f1 : w.frozen? ⟨qb, 1, none⟩ = false := heap_frozen Q 1 (by omega)
  have q2 : w.cell? ⟨qb, 2, none⟩ = some v2 := by rw [heap_cell Q]; rfl
  have f2 : w.frozen? ⟨qb, 2, none⟩ = false := heap_frozen Q 2 (by omega)
  have q3 : w.cell? ⟨qb, 3, none⟩ = some v3 := by rw [heap_cell Q]; rfl
  have f3 : w.frozen? ⟨qb, 3, none⟩ = false := heap_frozen Q 3 (by omega)
  have q4 : w.cell? ⟨qb, 4, none⟩ = some v4 := by rw [heap_cell Q]; rfl
  have f4 : w.frozen? ⟨qb, 4, none⟩ = false := heap_frozen Q 4 (by omega)
  have q5 : w.cell? ⟨qb, 5, none⟩ = some v5 := by rw [heap_cell Q]; rfl
  have f5 : w.frozen? ⟨qb, 5, none⟩ = false := heap_frozen Q 5 (by omega)
  have q6 : w.cell? ⟨qb, 6, none⟩ = some v6 := by rw [heap_cell Q]; rfl
  have f6 : w.frozen? ⟨qb, 6, none⟩ = false := heap_frozen Q 6 (by omega)
  have q7 : w.cell? ⟨qb, 7, none⟩ = some v7 := by rw [heap_cell Q]; rfl
  have f7 : w.frozen? ⟨qb, 7, none⟩ = false := heap_frozen Q 7 (by omega)
  have q8 : w.cell? ⟨qb, 8, none⟩ = some v8 := by rw [heap_cell Q]; rfl
  have f8 : w.frozen? ⟨qb, 8, none⟩ = false := heap_frozen Q 8 (by omega)
  have a0 : w.cell? ⟨ab, 0, none⟩ = some x := by rw [heap_cell A]; rfl
  have af : w.frozen? ⟨ab, 0, none⟩ = false := heap_frozen A 0 (by omega)
  have e0 : w.cell? ⟨eb, 0, none⟩ = some y := by rw [heap_cell E]; rfl
  have ef : w.frozen? ⟨eb, 0, none⟩ = false := heap_frozen E 0 (by omega)
  have lq := heap_lt Q
  have la := heap_lt A
  have le := heap_lt E
  have HQ := hid Q
  have HA := hid A
  have HE := hid E
  clear Q A E
  refine callsD_of_wpS Tryd.func26 rfl fun c₀ cs hu => ?_
  apply wpS_seq
  apply wpS_region
  simp only [Tryd.ntmps26, List.size_toArray, List.length_cons, List.length_nil, Nat.reduceAdd, Nat.reduceSub, Array.replicate_succ, Array.replicate_zero, List.push_toArray, List.append_toArray, List.nil_append, List.cons_append]
  simp [wpOpsS, go_sem, recoverD, hu, Exit.thenS]
  refine wpS_of_wp ?_
  go_wp2_with fail
  go_region
  have K1 := set9_heap HQ.out (.int .i64 0) (.slice none 0 0) (.string ⟨#[]⟩) (.string ⟨#[]⟩) (.int .i64 0) (.string ⟨#[]⟩) (.bool false) (.int .i64 0) (.bool false)
  have K2 := set9_keep HA.out (Ne.symm n1) (.int .i64 0) (.slice none 0 0) (.string ⟨#[]⟩) (.string ⟨#[]⟩) (.int .i64 0) (.string ⟨#[]⟩) (.bool false) (.int .i64 0) (.bool false)
  have K3 := set9_keep HE.out (Ne.symm n2) (.int .i64 0) (.slice none 0 0) (.string ⟨#[]⟩) (.string ⟨#[]⟩) (.int .i64 0) (.string ⟨#[]⟩) (.bool false) (.int .i64 0) (.bool false)
  have K4 := set9_grow hg hq (.int .i64 0) (.slice none 0 0) (.string ⟨#[]⟩) (.string ⟨#[]⟩) (.int .i64 0) (.string ⟨#[]⟩) (.bool false) (.int .i64 0) (.bool false)
  have D := fun (u : World) (o : Obj) => Grow.trans (Grow.alloc u o) (Grow.drew (u.alloc o))
  have K5 := (D _ (.cells #[.int .i64 (k : Int), .int .i64 (p : Int)] 64)).heap (heap_keep (heap_keep K1 ⟨ab, 0, none⟩ (.int .i64 (p : Int)) n1) ⟨eb, 0, none⟩ (.int .i64 (k : Int)) n2)
  have K6 := (D _ (.cells #[.int .i64 (k : Int), .int .i64 (p : Int)] 64)).heap (heap_keep (heap_set K2 0 (.int .i64 (p : Int))) ⟨eb, 0, none⟩ (.int .i64 (k : Int)) n3)
  have K7 := (D _ (.cells #[.int .i64 (k : Int), .int .i64 (p : Int)] 64)).heap (heap_set (heap_keep K3 ⟨ab, 0, none⟩ (.int .i64 (p : Int)) (Ne.symm n3)) 0 (.int .i64 (k : Int)))
  have K8 := Grow.drewR ((Grow.set (Grow.set K4 ab 0 ha (.int .i64 (p : Int))) eb 0 he (.int .i64 (k : Int))).trans (Grow.alloc _ (.cells #[.int .i64 (k : Int), .int .i64 (p : Int)] 64)))
  refine ⟨rfl, .panicking [{ v := .iface 64 (.agg #[.int .i64 (k : Int), .int .i64 (p : Int)]), recovered := true }], ?_, .tuple #[], results_none rfl _ _ _, rfl, rfl, K5, K6, K7, K8⟩
  rfl
end Go.Proofs.YteilkcdbdpkbfaaDoor
