/- What op.Decode computes. -/
import Derived.Test.YtdeegepmampanaaOpNext
import Derived.Test.YtdeegepmampanaaOpCheck
import Derived.Test.YtdeegepmampanaaOpLift
import Derived.Deep.RegionWith
import Derived.Laws.ResultCell
import Derived.Laws.Rows
namespace Go.Proofs.Ytdeegepmampanaa
open Go.RowKit
set_option linter.unusedVariables false
set_option linter.unusedSimpArgs false
/-- What is handed back of an operation that is read. -/
def decV (F : Option OpR) : Value := match F with
  | none => .agg #[.int .i64 0, .int .i64 0, .int .i64 0, .int .i64 0, .int .i64 0, .int .i64 0, .int .i64 0, .bool false, .int .i64 0, .int .i64 0, .int .i64 0]
  | some o => .agg #[.int .i64 o.id, .int .i64 o.proc, .int .i64 o.obj, .int .i64 o.kind, .int .i64 o.meth, .int .i64 o.arg, .int .i64 o.sec, .bool o.done, .int .i64 o.res, .int .i64 o.inv, .int .i64 o.ret]
def decE (F : Option OpR) : Int := if F.isSome then 0 else 14
theorem nxS_size (s : ByteArray) : (nxS s).size ≤ s.size := by unfold nxS; rw [ByteArray.size_extract]; omega
/-- All was well, so it was before, and the number may be. -/
theorem nx_true {t t' : List UInt8} {b : Bool} (h : nx (t, b) = (t', true)) : b = true ∧ nv (t, b) ≤ 1099511627776 := by
  have h2 := congrArg Prod.snd h
  simp only [nx, Bool.and_eq_true, decide_eq_true_eq] at h2
  exact ⟨h2.1, h2.2.2⟩
theorem wrap_nv {V : Int} {n : Nat} (h : V = RowKit.wrap64 (n : Int)) (hn : n ≤ 1099511627776) : V = n := by
  rw [h]; simp only [RowKit.wrap64]; omega
theorem data_nil {t : ByteArray} : t.data.toList = [] ↔ t.toList.isEmpty = true := by
  rw [ByteArray.toList_eq]; cases t.data.toList <;> simp
/-- A function's results, the first a variable that lies whole in a block. -/
theorem results_row2 {P : Program} {fn : Func} {p u : Tmp} {ty : TypeId} (h : fn.results = #[.cell p ty, .tmp u]) (tmps : Array Value) (w : World) (g : Nat) (t : TypeId) (cs : Array Value) (fr : Nat × Nat) (d : TypeDesc)
    (hp : tmps.getD p undef = .pointer (some ⟨g, 0, none⟩)) (hg : w.heap[g]? = some (.cells cs t fr))
    (hu : P.underlying ty = some d) (hd : (match d with | .struct _ | .array _ _ => true | _ => false) = true) (hi : (P.info? ty).map (·.size) = some cs.size) :
    (results fn tmps).run P w = .ok (.tuple #[.agg cs, tmps.getD u undef]) w := by
  rw [results_cell_tmp h, hp]
  simp [asAddr, Result.andThen, run_loadVar_row w g t ty cs fr d hg hu hd hi]
theorem heap_new3 (w : World) (a b c : Obj) : (((w.alloc a).alloc b).alloc c).heap[w.heap.size + 1 + 1]? = some c := by
  have := heap_new ((w.alloc a).alloc b) c
  simpa using this
theorem Grow.setD {a b : World} (h : Grow a b) (g o : Nat) (hg : a.heap.size ≤ g) (u : Value) : Grow a (b.setCell ⟨g, o, none⟩ u) := Below.setCell h (p := ⟨g, o, none⟩) hg u
theorem heap_setV {w : World} {g : Nat} {cs : Array Value} {e : TypeId} {fr : Nat × Nat} (h : w.heap[g]? = some (.cells cs e fr)) (j : Nat) (u : Value) (cs' : Array Value) (hc : cs.setIfInBounds j u = cs') : (w.setCell ⟨g, j, none⟩ u).heap[g]? = some (.cells cs' e fr) := by
  rw [← hc]; exact heap_set h j u
/-- What next does, the new state and the number named. -/
def NextC (S : ByteArray) (b : Bool) (V : Int) (S' : ByteArray) (b' : Bool) : Prop := ∀ (g : Nat) (w : World), w.cell? ⟨g, 0, none⟩ = some (.string S) → w.cell? ⟨g, 1, none⟩ = some (.bool b) → w.frozen? ⟨g, 0, none⟩ = false → w.frozen? ⟨g, 1, none⟩ = false →
    Calls Try.prog 32 #[.pointer (some ⟨g, 0, none⟩)] w fun e w' => e = .returned (.int .i64 V) ∧ w' = (w.setCell ⟨g, 1, none⟩ (.bool b')).setCell ⟨g, 0, none⟩ (.string S')
theorem next_named (S : ByteArray) (b : Bool) (hs : S.size ≤ 140737488351232) : ∃ V S' b', NextC S b V S' b' ∧ S'.size ≤ 140737488351232 ∧ nx (S.data.toList, b) = (S'.data.toList, b') ∧ V = RowKit.wrap64 (nv (S.data.toList, b)) :=
  ⟨_, _, _, fun g w c0 c1 f0 f1 => next_c S b g w hs c0 c1 f0 f1, Nat.le_trans (nxS_size S) hs, nxS_nx S b, rfl⟩
set_option maxRecDepth 100000 in
set_option maxHeartbeats 20000000 in
theorem Decode_c (s : ByteArray) (w : World) (hs : s.size ≤ 140737488351232) : Calls Try.prog 19 #[.string s] w fun e w' => e = .returned (.tuple #[decV (decL s.data.toList), .int .i64 (decE (decL s.data.toList))]) ∧ Grow w w' := by
  have hD := decL_nx s.data.toList
  obtain ⟨V1, S1, B1, c1, z1, e1, v1⟩ := next_named s true hs
  obtain ⟨V2, S2, B2, c2, z2, e2, v2⟩ := next_named S1 B1 z1
  obtain ⟨V3, S3, B3, c3, z3, e3, v3⟩ := next_named S2 B2 z2
  obtain ⟨V4, S4, B4, c4, z4, e4, v4⟩ := next_named S3 B3 z3
  obtain ⟨V5, S5, B5, c5, z5, e5, v5⟩ := next_named S4 B4 z4
  obtain ⟨V6, S6, B6, c6, z6, e6, v6⟩ := next_named S5 B5 z5
  obtain ⟨V7, S7, B7, c7, z7, e7, v7⟩ := next_named S6 B6 z6
  obtain ⟨V8, S8, B8, c8, z8, e8, v8⟩ := next_named S7 B7 z7
  obtain ⟨V9, S9, B9, c9, z9, e9, v9⟩ := next_named S8 B8 z8
  obtain ⟨V10, S10, B10, c10, z10, e10, v10⟩ := next_named S9 B9 z9
  simp only [nxs, nvs, e1, e2, e3, e4, e5, e6, e7, e8, e9, e10] at hD
  have HD := hid hD
  have C1 := hid c1
  have C2 := hid c2
  have C3 := hid c3
  have C4 := hid c4
  have C5 := hid c5
  have C6 := hid c6
  have C7 := hid c7
  have C8 := hid c8
  have C9 := hid c9
  have C10 := hid c10
  clear hD c1 c2 c3 c4 c5 c6 c7 c8 c9 c10
  have HM10 := hid (show B10 = true → mk10 [nv (s.data.toList, true), nv (S1.data.toList, B1), nv (S2.data.toList, B2), nv (S3.data.toList, B3), nv (S4.data.toList, B4), nv (S5.data.toList, B5), nv (S6.data.toList, B6), nv (S7.data.toList, B7), nv (S8.data.toList, B8), nv (S9.data.toList, B9)] = ⟨V1, V2, V3, V4, V5, V6, V7, true, unfoldV V10, V8, V8 + V9⟩ ∧ (0 ≤ V8 ∧ V8 ≤ 1099511627776) ∧ (0 ≤ V9 ∧ V9 ≤ 1099511627776) ∧ (0 ≤ V10 ∧ V10 ≤ 1099511627776) from by
    intro b10
    rw [b10] at e10
    obtain ⟨b9, q10⟩ := nx_true e10
    rw [b9] at e9
    obtain ⟨b8, q9⟩ := nx_true e9
    rw [b8] at e8
    obtain ⟨b7, q8⟩ := nx_true e8
    rw [b7] at e7
    obtain ⟨b6, q7⟩ := nx_true e7
    rw [b6] at e6
    obtain ⟨b5, q6⟩ := nx_true e6
    rw [b5] at e5
    obtain ⟨b4, q5⟩ := nx_true e5
    rw [b4] at e4
    obtain ⟨b3, q4⟩ := nx_true e4
    rw [b3] at e3
    obtain ⟨b2, q3⟩ := nx_true e3
    rw [b2] at e2
    obtain ⟨b1, q2⟩ := nx_true e2
    rw [b1] at e1
    obtain ⟨b0, q1⟩ := nx_true e1
    have u1 := wrap_nv v1 q1
    have u2 := wrap_nv v2 q2
    have u3 := wrap_nv v3 q3
    have u4 := wrap_nv v4 q4
    have u5 := wrap_nv v5 q5
    have u6 := wrap_nv v6 q6
    have u7 := wrap_nv v7 q7
    have u8 := wrap_nv v8 q8
    have u9 := wrap_nv v9 q9
    have u10 := wrap_nv v10 q10
    clear v1 v2 v3 v4 v5 v6 v7 v8 v9 v10
    refine ⟨?_, by omega, by omega, by omega⟩
    simp only [mk10, List.getD_cons_zero, List.getD_cons_succ, ← u1, ← u2, ← u3, ← u4, ← u5, ← u6, ← u7, ← u8, ← u9, ← u10])
  have HM := hid (show B8 = true → mk8 [nv (s.data.toList, true), nv (S1.data.toList, B1), nv (S2.data.toList, B2), nv (S3.data.toList, B3), nv (S4.data.toList, B4), nv (S5.data.toList, B5), nv (S6.data.toList, B6), nv (S7.data.toList, B7)] = ⟨V1, V2, V3, V4, V5, V6, V7, false, 0, V8, 0⟩ from by
    intro b8
    rw [b8] at e8
    obtain ⟨b7, q8⟩ := nx_true e8
    rw [b7] at e7
    obtain ⟨b6, q7⟩ := nx_true e7
    rw [b6] at e6
    obtain ⟨b5, q6⟩ := nx_true e6
    rw [b5] at e5
    obtain ⟨b4, q5⟩ := nx_true e5
    rw [b4] at e4
    obtain ⟨b3, q4⟩ := nx_true e4
    rw [b3] at e3
    obtain ⟨b2, q3⟩ := nx_true e3
    rw [b2] at e2
    obtain ⟨b1, q2⟩ := nx_true e2
    rw [b1] at e1
    obtain ⟨b0, q1⟩ := nx_true e1
    have u1 := wrap_nv v1 q1
    have u2 := wrap_nv v2 q2
    have u3 := wrap_nv v3 q3
    have u4 := wrap_nv v4 q4
    have u5 := wrap_nv v5 q5
    have u6 := wrap_nv v6 q6
    have u7 := wrap_nv v7 q7
    have u8 := wrap_nv v8 q8
    clear v1 v2 v3 v4 v5 v6 v7 v8
    simp only [mk8, List.getD_cons_zero, List.getD_cons_succ, ← u1, ← u2, ← u3, ← u4, ← u5, ← u6, ← u7, ← u8])
  clear e1 v1 e2 v2 e3 v3 e4 v4 e5 v5 e6 v6 e7 v7 e8 v8 e9 v9 e10 v10
  generalize decL s.data.toList = F at *
  cases B8
  · have HF := hid (show F = none by rw [HD.out]; rfl)
    clear HD HM
    go_enter Try.func19, Try.ntmps19
    go_wp2_with fail
    refine (C1.out _ _ (by go_simp) (by go_simp) (by go_simp) (by go_simp)).mono ?_
    rintro e w1 ⟨rfl, rfl⟩
    go_wp2_with fail
    refine (C2.out _ _ (by go_simp) (by go_simp) (by go_simp) (by go_simp)).mono ?_
    rintro e w1 ⟨rfl, rfl⟩
    go_wp2_with fail
    refine (C3.out _ _ (by go_simp) (by go_simp) (by go_simp) (by go_simp)).mono ?_
    rintro e w1 ⟨rfl, rfl⟩
    go_wp2_with fail
    refine (C4.out _ _ (by go_simp) (by go_simp) (by go_simp) (by go_simp)).mono ?_
    rintro e w1 ⟨rfl, rfl⟩
    go_wp2_with fail
    refine (C5.out _ _ (by go_simp) (by go_simp) (by go_simp) (by go_simp)).mono ?_
    rintro e w1 ⟨rfl, rfl⟩
    go_wp2_with fail
    refine (C6.out _ _ (by go_simp) (by go_simp) (by go_simp) (by go_simp)).mono ?_
    rintro e w1 ⟨rfl, rfl⟩
    go_wp2_with fail
    refine (C7.out _ _ (by go_simp) (by go_simp) (by go_simp) (by go_simp)).mono ?_
    rintro e w1 ⟨rfl, rfl⟩
    go_wp2_with fail
    refine (C8.out _ _ (by go_simp) (by go_simp) (by go_simp) (by go_simp)).mono ?_
    rintro e w1 ⟨rfl, rfl⟩
    go_wp2_with fail
    all_goals
      (try simp only [Exit.inBlock, Exit.then])
      refine bodyPost_ret (v := .tuple #[.agg #[.int .i64 0, .int .i64 0, .int .i64 0, .int .i64 0, .int .i64 0, .int .i64 0, .int .i64 0, .bool false, .int .i64 0, .int .i64 0, .int .i64 0], .int .i64 14]) ?_ rfl ⟨?_, ?_⟩
      · rw [results_cell_tmp rfl]
        go_simp
      · rw [HF.out]; rfl
      · exact Grow.trans (Grow.trans (Grow.alloc _ _) (Grow.alloc _ _)) (Grow.alloc _ _)
  · by_cases hS : S8.data.toList = []
    · have he := data_nil.1 hS
      have HF := hid (show F = okOp ⟨V1, V2, V3, V4, V5, V6, V7, false, 0, V8, 0⟩ by rw [HD.out, if_pos rfl, if_pos hS, HM.out rfl])
      clear HD HM hS
      have cc := hid (fun w => Check_c ⟨V1, V2, V3, V4, V5, V6, V7, false, 0, V8, 0⟩ w (by show (-9223372036854775808 : Int) ≤ 0; decide) (by show (0 : Int) ≤ 9223372036854775807; decide))
      dsimp only at cc
      by_cases hE : checkE ⟨V1, V2, V3, V4, V5, V6, V7, false, 0, V8, 0⟩ = 0
      · have HG := hid (show F = some ⟨V1, V2, V3, V4, V5, V6, V7, false, 0, V8, 0⟩ by rw [HF.out, okOp, if_pos hE])
        rw [hE] at cc
        clear HF hE
        go_enter Try.func19, Try.ntmps19
        go_wp2_with fail
        refine (C1.out _ _ (by go_simp) (by go_simp) (by go_simp) (by go_simp)).mono ?_
        rintro e w1 ⟨rfl, rfl⟩
        go_wp2_with fail
        refine (C2.out _ _ (by go_simp) (by go_simp) (by go_simp) (by go_simp)).mono ?_
        rintro e w1 ⟨rfl, rfl⟩
        go_wp2_with fail
        refine (C3.out _ _ (by go_simp) (by go_simp) (by go_simp) (by go_simp)).mono ?_
        rintro e w1 ⟨rfl, rfl⟩
        go_wp2_with fail
        refine (C4.out _ _ (by go_simp) (by go_simp) (by go_simp) (by go_simp)).mono ?_
        rintro e w1 ⟨rfl, rfl⟩
        go_wp2_with fail
        refine (C5.out _ _ (by go_simp) (by go_simp) (by go_simp) (by go_simp)).mono ?_
        rintro e w1 ⟨rfl, rfl⟩
        go_wp2_with fail
        refine (C6.out _ _ (by go_simp) (by go_simp) (by go_simp) (by go_simp)).mono ?_
        rintro e w1 ⟨rfl, rfl⟩
        go_wp2_with fail
        refine (C7.out _ _ (by go_simp) (by go_simp) (by go_simp) (by go_simp)).mono ?_
        rintro e w1 ⟨rfl, rfl⟩
        go_wp2_with fail
        refine (C8.out _ _ (by go_simp) (by go_simp) (by go_simp) (by go_simp)).mono ?_
        rintro e w1 ⟨rfl, rfl⟩
        go_wp2_with fail
        refine (cc.out _).mono ?_
        rintro e w9 ⟨rfl, b9⟩
        have ho : w9.heap[w.heap.size + 1 + 1]? = some (.cells #[.int .i64 V1, .int .i64 V2, .int .i64 V3, .int .i64 V4, .int .i64 V5, .int .i64 V6, .int .i64 V7, .bool false, .int .i64 0, .int .i64 V8, .int .i64 0] 29 (0, 0)) := b9.heap (heap_new3 w (.cells #[.int .i64 0, .int .i64 0, .int .i64 0, .int .i64 0, .int .i64 0, .int .i64 0, .int .i64 0, .bool false, .int .i64 0, .int .i64 0, .int .i64 0] 29) (.cells #[.string S8, .bool true] 63) (.cells #[.int .i64 V1, .int .i64 V2, .int .i64 V3, .int .i64 V4, .int .i64 V5, .int .i64 V6, .int .i64 V7, .bool false, .int .i64 0, .int .i64 V8, .int .i64 0] 29))
        have hz : w9.heap[w.heap.size]? = some (.cells #[.int .i64 0, .int .i64 0, .int .i64 0, .int .i64 0, .int .i64 0, .int .i64 0, .int .i64 0, .bool false, .int .i64 0, .int .i64 0, .int .i64 0] 29 (0, 0)) := b9.heap (heap_alloc_keep (heap_alloc_keep (heap_new w (.cells #[.int .i64 0, .int .i64 0, .int .i64 0, .int .i64 0, .int .i64 0, .int .i64 0, .int .i64 0, .bool false, .int .i64 0, .int .i64 0, .int .i64 0] 29)) _) _)
        have co0 : w9.cell? ⟨w.heap.size + 1 + 1, 0, none⟩ = some (.int .i64 V1) := by rw [heap_cell ho]; rfl
        have co1 : w9.cell? ⟨w.heap.size + 1 + 1, 1, none⟩ = some (.int .i64 V2) := by rw [heap_cell ho]; rfl
        have co2 : w9.cell? ⟨w.heap.size + 1 + 1, 2, none⟩ = some (.int .i64 V3) := by rw [heap_cell ho]; rfl
        have co3 : w9.cell? ⟨w.heap.size + 1 + 1, 3, none⟩ = some (.int .i64 V4) := by rw [heap_cell ho]; rfl
        have co4 : w9.cell? ⟨w.heap.size + 1 + 1, 4, none⟩ = some (.int .i64 V5) := by rw [heap_cell ho]; rfl
        have co5 : w9.cell? ⟨w.heap.size + 1 + 1, 5, none⟩ = some (.int .i64 V6) := by rw [heap_cell ho]; rfl
        have co6 : w9.cell? ⟨w.heap.size + 1 + 1, 6, none⟩ = some (.int .i64 V7) := by rw [heap_cell ho]; rfl
        have co7 : w9.cell? ⟨w.heap.size + 1 + 1, 7, none⟩ = some (.bool false) := by rw [heap_cell ho]; rfl
        have co8 : w9.cell? ⟨w.heap.size + 1 + 1, 8, none⟩ = some (.int .i64 0) := by rw [heap_cell ho]; rfl
        have co9 : w9.cell? ⟨w.heap.size + 1 + 1, 9, none⟩ = some (.int .i64 V8) := by rw [heap_cell ho]; rfl
        have co10 : w9.cell? ⟨w.heap.size + 1 + 1, 10, none⟩ = some (.int .i64 0) := by rw [heap_cell ho]; rfl
        have cz0 : w9.cell? ⟨w.heap.size, 0, none⟩ = some (.int .i64 0) := by rw [heap_cell hz]; rfl
        have fz0 : w9.frozen? ⟨w.heap.size, 0, none⟩ = false := heap_frozen hz 0 (by omega)
        have cz1 : w9.cell? ⟨w.heap.size, 1, none⟩ = some (.int .i64 0) := by rw [heap_cell hz]; rfl
        have fz1 : w9.frozen? ⟨w.heap.size, 1, none⟩ = false := heap_frozen hz 1 (by omega)
        have cz2 : w9.cell? ⟨w.heap.size, 2, none⟩ = some (.int .i64 0) := by rw [heap_cell hz]; rfl
        have fz2 : w9.frozen? ⟨w.heap.size, 2, none⟩ = false := heap_frozen hz 2 (by omega)
        have cz3 : w9.cell? ⟨w.heap.size, 3, none⟩ = some (.int .i64 0) := by rw [heap_cell hz]; rfl
        have fz3 : w9.frozen? ⟨w.heap.size, 3, none⟩ = false := heap_frozen hz 3 (by omega)
        have cz4 : w9.cell? ⟨w.heap.size, 4, none⟩ = some (.int .i64 0) := by rw [heap_cell hz]; rfl
        have fz4 : w9.frozen? ⟨w.heap.size, 4, none⟩ = false := heap_frozen hz 4 (by omega)
        have cz5 : w9.cell? ⟨w.heap.size, 5, none⟩ = some (.int .i64 0) := by rw [heap_cell hz]; rfl
        have fz5 : w9.frozen? ⟨w.heap.size, 5, none⟩ = false := heap_frozen hz 5 (by omega)
        have cz6 : w9.cell? ⟨w.heap.size, 6, none⟩ = some (.int .i64 0) := by rw [heap_cell hz]; rfl
        have fz6 : w9.frozen? ⟨w.heap.size, 6, none⟩ = false := heap_frozen hz 6 (by omega)
        have cz7 : w9.cell? ⟨w.heap.size, 7, none⟩ = some (.bool false) := by rw [heap_cell hz]; rfl
        have fz7 : w9.frozen? ⟨w.heap.size, 7, none⟩ = false := heap_frozen hz 7 (by omega)
        have cz8 : w9.cell? ⟨w.heap.size, 8, none⟩ = some (.int .i64 0) := by rw [heap_cell hz]; rfl
        have fz8 : w9.frozen? ⟨w.heap.size, 8, none⟩ = false := heap_frozen hz 8 (by omega)
        have cz9 : w9.cell? ⟨w.heap.size, 9, none⟩ = some (.int .i64 0) := by rw [heap_cell hz]; rfl
        have fz9 : w9.frozen? ⟨w.heap.size, 9, none⟩ = false := heap_frozen hz 9 (by omega)
        have cz10 : w9.cell? ⟨w.heap.size, 10, none⟩ = some (.int .i64 0) := by rw [heap_cell hz]; rfl
        have fz10 : w9.frozen? ⟨w.heap.size, 10, none⟩ = false := heap_frozen hz 10 (by omega)
        have HZ := hid hz
        clear ho hz
        go_wp2_with fail
        (try simp only [Exit.inBlock, Exit.then])
        refine bodyPost_ret (v := .tuple #[.agg #[.int .i64 V1, .int .i64 V2, .int .i64 V3, .int .i64 V4, .int .i64 V5, .int .i64 V6, .int .i64 V7, .bool false, .int .i64 0, .int .i64 V8, .int .i64 0], .int .i64 0]) ?_ rfl ⟨?_, ?_⟩
        · refine results_row2 (fn := Try.f19) (p := 2) (u := 3) rfl _ _ w.heap.size 29 _ (0, 0) _ rfl ?_ Try.underlying29 rfl ?_
          · exact (heap_setV (heap_setV (heap_setV (heap_setV (heap_setV (heap_setV (heap_setV (heap_setV (heap_setV (heap_setV (heap_setV HZ.out 0 (.int .i64 V1) #[.int .i64 V1, .int .i64 0, .int .i64 0, .int .i64 0, .int .i64 0, .int .i64 0, .int .i64 0, .bool false, .int .i64 0, .int .i64 0, .int .i64 0] rfl) 1 (.int .i64 V2) #[.int .i64 V1, .int .i64 V2, .int .i64 0, .int .i64 0, .int .i64 0, .int .i64 0, .int .i64 0, .bool false, .int .i64 0, .int .i64 0, .int .i64 0] rfl) 2 (.int .i64 V3) #[.int .i64 V1, .int .i64 V2, .int .i64 V3, .int .i64 0, .int .i64 0, .int .i64 0, .int .i64 0, .bool false, .int .i64 0, .int .i64 0, .int .i64 0] rfl) 3 (.int .i64 V4) #[.int .i64 V1, .int .i64 V2, .int .i64 V3, .int .i64 V4, .int .i64 0, .int .i64 0, .int .i64 0, .bool false, .int .i64 0, .int .i64 0, .int .i64 0] rfl) 4 (.int .i64 V5) #[.int .i64 V1, .int .i64 V2, .int .i64 V3, .int .i64 V4, .int .i64 V5, .int .i64 0, .int .i64 0, .bool false, .int .i64 0, .int .i64 0, .int .i64 0] rfl) 5 (.int .i64 V6) #[.int .i64 V1, .int .i64 V2, .int .i64 V3, .int .i64 V4, .int .i64 V5, .int .i64 V6, .int .i64 0, .bool false, .int .i64 0, .int .i64 0, .int .i64 0] rfl) 6 (.int .i64 V7) #[.int .i64 V1, .int .i64 V2, .int .i64 V3, .int .i64 V4, .int .i64 V5, .int .i64 V6, .int .i64 V7, .bool false, .int .i64 0, .int .i64 0, .int .i64 0] rfl) 7 (.bool false) #[.int .i64 V1, .int .i64 V2, .int .i64 V3, .int .i64 V4, .int .i64 V5, .int .i64 V6, .int .i64 V7, .bool false, .int .i64 0, .int .i64 0, .int .i64 0] rfl) 8 (.int .i64 0) #[.int .i64 V1, .int .i64 V2, .int .i64 V3, .int .i64 V4, .int .i64 V5, .int .i64 V6, .int .i64 V7, .bool false, .int .i64 0, .int .i64 0, .int .i64 0] rfl) 9 (.int .i64 V8) #[.int .i64 V1, .int .i64 V2, .int .i64 V3, .int .i64 V4, .int .i64 V5, .int .i64 V6, .int .i64 V7, .bool false, .int .i64 0, .int .i64 V8, .int .i64 0] rfl) 10 (.int .i64 0) #[.int .i64 V1, .int .i64 V2, .int .i64 V3, .int .i64 V4, .int .i64 V5, .int .i64 V6, .int .i64 V7, .bool false, .int .i64 0, .int .i64 V8, .int .i64 0] rfl)
          · kernel_rfl
        · rw [HG.out]; rfl
        · have g9 := Grow.trans (Grow.trans (Grow.trans (Grow.alloc _ _) (Grow.alloc _ _)) (Grow.alloc _ _)) b9
          exact (Grow.setD (Grow.setD (Grow.setD (Grow.setD (Grow.setD (Grow.setD (Grow.setD (Grow.setD (Grow.setD (Grow.setD (Grow.setD g9 _ _ (Nat.le_refl _) _) _ _ (Nat.le_refl _) _) _ _ (Nat.le_refl _) _) _ _ (Nat.le_refl _) _) _ _ (Nat.le_refl _) _) _ _ (Nat.le_refl _) _) _ _ (Nat.le_refl _) _) _ _ (Nat.le_refl _) _) _ _ (Nat.le_refl _) _) _ _ (Nat.le_refl _) _) _ _ (Nat.le_refl _) _)
      · have HG := hid (show F = none by rw [HF.out, okOp, if_neg hE])
        generalize checkE ⟨V1, V2, V3, V4, V5, V6, V7, false, 0, V8, 0⟩ = E at *
        have q : (E != 0) = true := by rw [bne_iff_ne]; exact hE
        clear HF hE
        go_enter Try.func19, Try.ntmps19
        go_wp2_with fail
        refine (C1.out _ _ (by go_simp) (by go_simp) (by go_simp) (by go_simp)).mono ?_
        rintro e w1 ⟨rfl, rfl⟩
        go_wp2_with fail
        refine (C2.out _ _ (by go_simp) (by go_simp) (by go_simp) (by go_simp)).mono ?_
        rintro e w1 ⟨rfl, rfl⟩
        go_wp2_with fail
        refine (C3.out _ _ (by go_simp) (by go_simp) (by go_simp) (by go_simp)).mono ?_
        rintro e w1 ⟨rfl, rfl⟩
        go_wp2_with fail
        refine (C4.out _ _ (by go_simp) (by go_simp) (by go_simp) (by go_simp)).mono ?_
        rintro e w1 ⟨rfl, rfl⟩
        go_wp2_with fail
        refine (C5.out _ _ (by go_simp) (by go_simp) (by go_simp) (by go_simp)).mono ?_
        rintro e w1 ⟨rfl, rfl⟩
        go_wp2_with fail
        refine (C6.out _ _ (by go_simp) (by go_simp) (by go_simp) (by go_simp)).mono ?_
        rintro e w1 ⟨rfl, rfl⟩
        go_wp2_with fail
        refine (C7.out _ _ (by go_simp) (by go_simp) (by go_simp) (by go_simp)).mono ?_
        rintro e w1 ⟨rfl, rfl⟩
        go_wp2_with fail
        refine (C8.out _ _ (by go_simp) (by go_simp) (by go_simp) (by go_simp)).mono ?_
        rintro e w1 ⟨rfl, rfl⟩
        go_wp2_with fail
        refine (cc.out _).mono ?_
        rintro e w9 ⟨rfl, b9⟩
        have ho : w9.heap[w.heap.size + 1 + 1]? = some (.cells #[.int .i64 V1, .int .i64 V2, .int .i64 V3, .int .i64 V4, .int .i64 V5, .int .i64 V6, .int .i64 V7, .bool false, .int .i64 0, .int .i64 V8, .int .i64 0] 29 (0, 0)) := b9.heap (heap_new3 w (.cells #[.int .i64 0, .int .i64 0, .int .i64 0, .int .i64 0, .int .i64 0, .int .i64 0, .int .i64 0, .bool false, .int .i64 0, .int .i64 0, .int .i64 0] 29) (.cells #[.string S8, .bool true] 63) (.cells #[.int .i64 V1, .int .i64 V2, .int .i64 V3, .int .i64 V4, .int .i64 V5, .int .i64 V6, .int .i64 V7, .bool false, .int .i64 0, .int .i64 V8, .int .i64 0] 29))
        have hz : w9.heap[w.heap.size]? = some (.cells #[.int .i64 0, .int .i64 0, .int .i64 0, .int .i64 0, .int .i64 0, .int .i64 0, .int .i64 0, .bool false, .int .i64 0, .int .i64 0, .int .i64 0] 29 (0, 0)) := b9.heap (heap_alloc_keep (heap_alloc_keep (heap_new w (.cells #[.int .i64 0, .int .i64 0, .int .i64 0, .int .i64 0, .int .i64 0, .int .i64 0, .int .i64 0, .bool false, .int .i64 0, .int .i64 0, .int .i64 0] 29)) _) _)
        have co0 : w9.cell? ⟨w.heap.size + 1 + 1, 0, none⟩ = some (.int .i64 V1) := by rw [heap_cell ho]; rfl
        have co1 : w9.cell? ⟨w.heap.size + 1 + 1, 1, none⟩ = some (.int .i64 V2) := by rw [heap_cell ho]; rfl
        have co2 : w9.cell? ⟨w.heap.size + 1 + 1, 2, none⟩ = some (.int .i64 V3) := by rw [heap_cell ho]; rfl
        have co3 : w9.cell? ⟨w.heap.size + 1 + 1, 3, none⟩ = some (.int .i64 V4) := by rw [heap_cell ho]; rfl
        have co4 : w9.cell? ⟨w.heap.size + 1 + 1, 4, none⟩ = some (.int .i64 V5) := by rw [heap_cell ho]; rfl
        have co5 : w9.cell? ⟨w.heap.size + 1 + 1, 5, none⟩ = some (.int .i64 V6) := by rw [heap_cell ho]; rfl
        have co6 : w9.cell? ⟨w.heap.size + 1 + 1, 6, none⟩ = some (.int .i64 V7) := by rw [heap_cell ho]; rfl
        have co7 : w9.cell? ⟨w.heap.size + 1 + 1, 7, none⟩ = some (.bool false) := by rw [heap_cell ho]; rfl
        have co8 : w9.cell? ⟨w.heap.size + 1 + 1, 8, none⟩ = some (.int .i64 0) := by rw [heap_cell ho]; rfl
        have co9 : w9.cell? ⟨w.heap.size + 1 + 1, 9, none⟩ = some (.int .i64 V8) := by rw [heap_cell ho]; rfl
        have co10 : w9.cell? ⟨w.heap.size + 1 + 1, 10, none⟩ = some (.int .i64 0) := by rw [heap_cell ho]; rfl
        have cz0 : w9.cell? ⟨w.heap.size, 0, none⟩ = some (.int .i64 0) := by rw [heap_cell hz]; rfl
        have fz0 : w9.frozen? ⟨w.heap.size, 0, none⟩ = false := heap_frozen hz 0 (by omega)
        have cz1 : w9.cell? ⟨w.heap.size, 1, none⟩ = some (.int .i64 0) := by rw [heap_cell hz]; rfl
        have fz1 : w9.frozen? ⟨w.heap.size, 1, none⟩ = false := heap_frozen hz 1 (by omega)
        have cz2 : w9.cell? ⟨w.heap.size, 2, none⟩ = some (.int .i64 0) := by rw [heap_cell hz]; rfl
        have fz2 : w9.frozen? ⟨w.heap.size, 2, none⟩ = false := heap_frozen hz 2 (by omega)
        have cz3 : w9.cell? ⟨w.heap.size, 3, none⟩ = some (.int .i64 0) := by rw [heap_cell hz]; rfl
        have fz3 : w9.frozen? ⟨w.heap.size, 3, none⟩ = false := heap_frozen hz 3 (by omega)
        have cz4 : w9.cell? ⟨w.heap.size, 4, none⟩ = some (.int .i64 0) := by rw [heap_cell hz]; rfl
        have fz4 : w9.frozen? ⟨w.heap.size, 4, none⟩ = false := heap_frozen hz 4 (by omega)
        have cz5 : w9.cell? ⟨w.heap.size, 5, none⟩ = some (.int .i64 0) := by rw [heap_cell hz]; rfl
        have fz5 : w9.frozen? ⟨w.heap.size, 5, none⟩ = false := heap_frozen hz 5 (by omega)
        have cz6 : w9.cell? ⟨w.heap.size, 6, none⟩ = some (.int .i64 0) := by rw [heap_cell hz]; rfl
        have fz6 : w9.frozen? ⟨w.heap.size, 6, none⟩ = false := heap_frozen hz 6 (by omega)
        have cz7 : w9.cell? ⟨w.heap.size, 7, none⟩ = some (.bool false) := by rw [heap_cell hz]; rfl
        have fz7 : w9.frozen? ⟨w.heap.size, 7, none⟩ = false := heap_frozen hz 7 (by omega)
        have cz8 : w9.cell? ⟨w.heap.size, 8, none⟩ = some (.int .i64 0) := by rw [heap_cell hz]; rfl
        have fz8 : w9.frozen? ⟨w.heap.size, 8, none⟩ = false := heap_frozen hz 8 (by omega)
        have cz9 : w9.cell? ⟨w.heap.size, 9, none⟩ = some (.int .i64 0) := by rw [heap_cell hz]; rfl
        have fz9 : w9.frozen? ⟨w.heap.size, 9, none⟩ = false := heap_frozen hz 9 (by omega)
        have cz10 : w9.cell? ⟨w.heap.size, 10, none⟩ = some (.int .i64 0) := by rw [heap_cell hz]; rfl
        have fz10 : w9.frozen? ⟨w.heap.size, 10, none⟩ = false := heap_frozen hz 10 (by omega)
        have HZ := hid hz
        clear ho hz
        go_wp2_with fail
        (try simp only [Exit.inBlock, Exit.then])
        refine bodyPost_ret (v := .tuple #[.agg #[.int .i64 0, .int .i64 0, .int .i64 0, .int .i64 0, .int .i64 0, .int .i64 0, .int .i64 0, .bool false, .int .i64 0, .int .i64 0, .int .i64 0], .int .i64 14]) ?_ rfl ⟨?_, ?_⟩
        · refine results_row2 (fn := Try.f19) (p := 2) (u := 3) rfl _ _ w.heap.size 29 _ (0, 0) _ rfl ?_ Try.underlying29 rfl ?_
          · exact (heap_setV (heap_setV (heap_setV (heap_setV (heap_setV (heap_setV (heap_setV (heap_setV (heap_setV (heap_setV (heap_setV HZ.out 0 (.int .i64 0) #[.int .i64 0, .int .i64 0, .int .i64 0, .int .i64 0, .int .i64 0, .int .i64 0, .int .i64 0, .bool false, .int .i64 0, .int .i64 0, .int .i64 0] rfl) 1 (.int .i64 0) #[.int .i64 0, .int .i64 0, .int .i64 0, .int .i64 0, .int .i64 0, .int .i64 0, .int .i64 0, .bool false, .int .i64 0, .int .i64 0, .int .i64 0] rfl) 2 (.int .i64 0) #[.int .i64 0, .int .i64 0, .int .i64 0, .int .i64 0, .int .i64 0, .int .i64 0, .int .i64 0, .bool false, .int .i64 0, .int .i64 0, .int .i64 0] rfl) 3 (.int .i64 0) #[.int .i64 0, .int .i64 0, .int .i64 0, .int .i64 0, .int .i64 0, .int .i64 0, .int .i64 0, .bool false, .int .i64 0, .int .i64 0, .int .i64 0] rfl) 4 (.int .i64 0) #[.int .i64 0, .int .i64 0, .int .i64 0, .int .i64 0, .int .i64 0, .int .i64 0, .int .i64 0, .bool false, .int .i64 0, .int .i64 0, .int .i64 0] rfl) 5 (.int .i64 0) #[.int .i64 0, .int .i64 0, .int .i64 0, .int .i64 0, .int .i64 0, .int .i64 0, .int .i64 0, .bool false, .int .i64 0, .int .i64 0, .int .i64 0] rfl) 6 (.int .i64 0) #[.int .i64 0, .int .i64 0, .int .i64 0, .int .i64 0, .int .i64 0, .int .i64 0, .int .i64 0, .bool false, .int .i64 0, .int .i64 0, .int .i64 0] rfl) 7 (.bool false) #[.int .i64 0, .int .i64 0, .int .i64 0, .int .i64 0, .int .i64 0, .int .i64 0, .int .i64 0, .bool false, .int .i64 0, .int .i64 0, .int .i64 0] rfl) 8 (.int .i64 0) #[.int .i64 0, .int .i64 0, .int .i64 0, .int .i64 0, .int .i64 0, .int .i64 0, .int .i64 0, .bool false, .int .i64 0, .int .i64 0, .int .i64 0] rfl) 9 (.int .i64 0) #[.int .i64 0, .int .i64 0, .int .i64 0, .int .i64 0, .int .i64 0, .int .i64 0, .int .i64 0, .bool false, .int .i64 0, .int .i64 0, .int .i64 0] rfl) 10 (.int .i64 0) #[.int .i64 0, .int .i64 0, .int .i64 0, .int .i64 0, .int .i64 0, .int .i64 0, .int .i64 0, .bool false, .int .i64 0, .int .i64 0, .int .i64 0] rfl)
          · kernel_rfl
        · rw [HG.out]; rfl
        · have g9 := Grow.trans (Grow.trans (Grow.trans (Grow.alloc _ _) (Grow.alloc _ _)) (Grow.alloc _ _)) b9
          exact (Grow.setD (Grow.setD (Grow.setD (Grow.setD (Grow.setD (Grow.setD (Grow.setD (Grow.setD (Grow.setD (Grow.setD (Grow.setD g9 _ _ (Nat.le_refl _) _) _ _ (Nat.le_refl _) _) _ _ (Nat.le_refl _) _) _ _ (Nat.le_refl _) _) _ _ (Nat.le_refl _) _) _ _ (Nat.le_refl _) _) _ _ (Nat.le_refl _) _) _ _ (Nat.le_refl _) _) _ _ (Nat.le_refl _) _) _ _ (Nat.le_refl _) _) _ _ (Nat.le_refl _) _)
    · have he : S8.toList.isEmpty = false := by
        cases hh : S8.toList.isEmpty with
        | false => rfl
        | true => exact absurd (data_nil.2 hh) hS
      have HF1 := HD.out
      rw [if_pos rfl, if_neg hS] at HF1
      obtain ⟨U, hU, hU0, hU1⟩ : ∃ U : Int, IntKind.u64.wrap V10 = U ∧ 0 ≤ U ∧ U ≤ 18446744073709551615 := ⟨_, rfl, by rw [IntKind.wrap_u64]; omega, by rw [IntKind.wrap_u64]; omega⟩
      have HUF := hid (fun w => Unfold_c U w hU0 hU1)
      clear HD HM hS
      cases B10
      · have HF := hid (show F = none by rw [HF1]; simp)
        clear HF1 HM10
        go_enter Try.func19, Try.ntmps19
        go_wp2_with fail
        refine (C1.out _ _ (by go_simp) (by go_simp) (by go_simp) (by go_simp)).mono ?_
        rintro e w1 ⟨rfl, rfl⟩
        go_wp2_with fail
        refine (C2.out _ _ (by go_simp) (by go_simp) (by go_simp) (by go_simp)).mono ?_
        rintro e w1 ⟨rfl, rfl⟩
        go_wp2_with fail
        refine (C3.out _ _ (by go_simp) (by go_simp) (by go_simp) (by go_simp)).mono ?_
        rintro e w1 ⟨rfl, rfl⟩
        go_wp2_with fail
        refine (C4.out _ _ (by go_simp) (by go_simp) (by go_simp) (by go_simp)).mono ?_
        rintro e w1 ⟨rfl, rfl⟩
        go_wp2_with fail
        refine (C5.out _ _ (by go_simp) (by go_simp) (by go_simp) (by go_simp)).mono ?_
        rintro e w1 ⟨rfl, rfl⟩
        go_wp2_with fail
        refine (C6.out _ _ (by go_simp) (by go_simp) (by go_simp) (by go_simp)).mono ?_
        rintro e w1 ⟨rfl, rfl⟩
        go_wp2_with fail
        refine (C7.out _ _ (by go_simp) (by go_simp) (by go_simp) (by go_simp)).mono ?_
        rintro e w1 ⟨rfl, rfl⟩
        go_wp2_with fail
        refine (C8.out _ _ (by go_simp) (by go_simp) (by go_simp) (by go_simp)).mono ?_
        rintro e w1 ⟨rfl, rfl⟩
        go_wp2_with fail
        go_region_with ((go_at_call 32; refine (C9.out _ _ (by go_simp) (by go_simp) (by go_simp) (by go_simp)).mono ?_; rintro e w1 ⟨rfl, rfl⟩))
        all_goals
          go_wp2_with fail
          refine (C10.out _ _ (by go_simp) (by go_simp) (by go_simp) (by go_simp)).mono ?_
          rintro e w1 ⟨rfl, rfl⟩
          go_wp2_with fail
          refine (HUF.out _).mono ?_
          rintro e w1 ⟨rfl, rfl⟩
          go_wp2_with fail
          (try simp only [Exit.inBlock, Exit.then])
          refine bodyPost_ret (v := .tuple #[.agg #[.int .i64 0, .int .i64 0, .int .i64 0, .int .i64 0, .int .i64 0, .int .i64 0, .int .i64 0, .bool false, .int .i64 0, .int .i64 0, .int .i64 0], .int .i64 14]) ?_ rfl ⟨?_, ?_⟩
          · rw [results_cell_tmp rfl]
            go_simp
          · rw [HF.out]; rfl
          · first
            | exact Grow.trans (Grow.trans (Grow.alloc _ _) (Grow.alloc _ _)) (Grow.alloc _ _)
            | exact Grow.trans (Grow.trans (Grow.trans (Grow.alloc _ _) (Grow.alloc _ _)) (Grow.alloc _ _)) (Grow.drew _)
      · obtain ⟨hm, ⟨m8, n8⟩, ⟨m9, n9⟩, ⟨m10, n10⟩⟩ := HM10.out rfl
        have hUV : V10 = U := by rw [← hU, IntKind.wrap_u64]; omega
        subst hUV
        clear HM10
        by_cases hS10 : S10.data.toList = []
        · have he10 := data_nil.1 hS10
          rw [if_pos ⟨rfl, hS10⟩, hm] at HF1
          have hub : -9223372036854775808 ≤ unfoldV V10 ∧ unfoldV V10 ≤ 9223372036854775807 := by unfold unfoldV; split <;> omega
          have cc := hid (fun w => Check_c ⟨V1, V2, V3, V4, V5, V6, V7, true, unfoldV V10, V8, V8 + V9⟩ w hub.1 hub.2)
          dsimp only at cc
          generalize unfoldV V10 = X at *
          by_cases hE : checkE ⟨V1, V2, V3, V4, V5, V6, V7, true, X, V8, V8 + V9⟩ = 0
          · have HG := hid (show F = some ⟨V1, V2, V3, V4, V5, V6, V7, true, X, V8, V8 + V9⟩ by rw [HF1, okOp, if_pos hE])
            rw [hE] at cc
            clear HF1 hE hm hS10
            go_enter Try.func19, Try.ntmps19
            go_wp2_with fail
            refine (C1.out _ _ (by go_simp) (by go_simp) (by go_simp) (by go_simp)).mono ?_
            rintro e w1 ⟨rfl, rfl⟩
            go_wp2_with fail
            refine (C2.out _ _ (by go_simp) (by go_simp) (by go_simp) (by go_simp)).mono ?_
            rintro e w1 ⟨rfl, rfl⟩
            go_wp2_with fail
            refine (C3.out _ _ (by go_simp) (by go_simp) (by go_simp) (by go_simp)).mono ?_
            rintro e w1 ⟨rfl, rfl⟩
            go_wp2_with fail
            refine (C4.out _ _ (by go_simp) (by go_simp) (by go_simp) (by go_simp)).mono ?_
            rintro e w1 ⟨rfl, rfl⟩
            go_wp2_with fail
            refine (C5.out _ _ (by go_simp) (by go_simp) (by go_simp) (by go_simp)).mono ?_
            rintro e w1 ⟨rfl, rfl⟩
            go_wp2_with fail
            refine (C6.out _ _ (by go_simp) (by go_simp) (by go_simp) (by go_simp)).mono ?_
            rintro e w1 ⟨rfl, rfl⟩
            go_wp2_with fail
            refine (C7.out _ _ (by go_simp) (by go_simp) (by go_simp) (by go_simp)).mono ?_
            rintro e w1 ⟨rfl, rfl⟩
            go_wp2_with fail
            refine (C8.out _ _ (by go_simp) (by go_simp) (by go_simp) (by go_simp)).mono ?_
            rintro e w1 ⟨rfl, rfl⟩
            go_wp2_with fail
            go_region_with ((go_at_call 32; refine (C9.out _ _ (by go_simp) (by go_simp) (by go_simp) (by go_simp)).mono ?_; rintro e w1 ⟨rfl, rfl⟩))
            all_goals
              go_wp2_with fail
              refine (C10.out _ _ (by go_simp) (by go_simp) (by go_simp) (by go_simp)).mono ?_
              rintro e w1 ⟨rfl, rfl⟩
              go_wp2_with fail
              refine (HUF.out _).mono ?_
              rintro e w1 ⟨rfl, rfl⟩
              go_wp2_with fail
              refine (cc.out _).mono ?_
              rintro e w9 ⟨rfl, b9⟩
              have ho : w9.heap[w.heap.size + 1 + 1]? = some (.cells #[.int .i64 V1, .int .i64 V2, .int .i64 V3, .int .i64 V4, .int .i64 V5, .int .i64 V6, .int .i64 V7, .bool true, .int .i64 X, .int .i64 V8, .int .i64 (V8 + V9)] 29 (0, 0)) := b9.heap (heap_new3 w (.cells #[.int .i64 0, .int .i64 0, .int .i64 0, .int .i64 0, .int .i64 0, .int .i64 0, .int .i64 0, .bool false, .int .i64 0, .int .i64 0, .int .i64 0] 29) (.cells #[.string S10, .bool true] 63) (.cells #[.int .i64 V1, .int .i64 V2, .int .i64 V3, .int .i64 V4, .int .i64 V5, .int .i64 V6, .int .i64 V7, .bool true, .int .i64 X, .int .i64 V8, .int .i64 (V8 + V9)] 29))
              have hz : w9.heap[w.heap.size]? = some (.cells #[.int .i64 0, .int .i64 0, .int .i64 0, .int .i64 0, .int .i64 0, .int .i64 0, .int .i64 0, .bool false, .int .i64 0, .int .i64 0, .int .i64 0] 29 (0, 0)) := b9.heap (heap_alloc_keep (heap_alloc_keep (heap_new w (.cells #[.int .i64 0, .int .i64 0, .int .i64 0, .int .i64 0, .int .i64 0, .int .i64 0, .int .i64 0, .bool false, .int .i64 0, .int .i64 0, .int .i64 0] 29)) _) _)
              have co0 : w9.cell? ⟨w.heap.size + 1 + 1, 0, none⟩ = some (.int .i64 V1) := by rw [heap_cell ho]; rfl
              have co1 : w9.cell? ⟨w.heap.size + 1 + 1, 1, none⟩ = some (.int .i64 V2) := by rw [heap_cell ho]; rfl
              have co2 : w9.cell? ⟨w.heap.size + 1 + 1, 2, none⟩ = some (.int .i64 V3) := by rw [heap_cell ho]; rfl
              have co3 : w9.cell? ⟨w.heap.size + 1 + 1, 3, none⟩ = some (.int .i64 V4) := by rw [heap_cell ho]; rfl
              have co4 : w9.cell? ⟨w.heap.size + 1 + 1, 4, none⟩ = some (.int .i64 V5) := by rw [heap_cell ho]; rfl
              have co5 : w9.cell? ⟨w.heap.size + 1 + 1, 5, none⟩ = some (.int .i64 V6) := by rw [heap_cell ho]; rfl
              have co6 : w9.cell? ⟨w.heap.size + 1 + 1, 6, none⟩ = some (.int .i64 V7) := by rw [heap_cell ho]; rfl
              have co7 : w9.cell? ⟨w.heap.size + 1 + 1, 7, none⟩ = some (.bool true) := by rw [heap_cell ho]; rfl
              have co8 : w9.cell? ⟨w.heap.size + 1 + 1, 8, none⟩ = some (.int .i64 X) := by rw [heap_cell ho]; rfl
              have co9 : w9.cell? ⟨w.heap.size + 1 + 1, 9, none⟩ = some (.int .i64 V8) := by rw [heap_cell ho]; rfl
              have co10 : w9.cell? ⟨w.heap.size + 1 + 1, 10, none⟩ = some (.int .i64 (V8 + V9)) := by rw [heap_cell ho]; rfl
              have cz0 : w9.cell? ⟨w.heap.size, 0, none⟩ = some (.int .i64 0) := by rw [heap_cell hz]; rfl
              have fz0 : w9.frozen? ⟨w.heap.size, 0, none⟩ = false := heap_frozen hz 0 (by omega)
              have cz1 : w9.cell? ⟨w.heap.size, 1, none⟩ = some (.int .i64 0) := by rw [heap_cell hz]; rfl
              have fz1 : w9.frozen? ⟨w.heap.size, 1, none⟩ = false := heap_frozen hz 1 (by omega)
              have cz2 : w9.cell? ⟨w.heap.size, 2, none⟩ = some (.int .i64 0) := by rw [heap_cell hz]; rfl
              have fz2 : w9.frozen? ⟨w.heap.size, 2, none⟩ = false := heap_frozen hz 2 (by omega)
              have cz3 : w9.cell? ⟨w.heap.size, 3, none⟩ = some (.int .i64 0) := by rw [heap_cell hz]; rfl
              have fz3 : w9.frozen? ⟨w.heap.size, 3, none⟩ = false := heap_frozen hz 3 (by omega)
              have cz4 : w9.cell? ⟨w.heap.size, 4, none⟩ = some (.int .i64 0) := by rw [heap_cell hz]; rfl
              have fz4 : w9.frozen? ⟨w.heap.size, 4, none⟩ = false := heap_frozen hz 4 (by omega)
              have cz5 : w9.cell? ⟨w.heap.size, 5, none⟩ = some (.int .i64 0) := by rw [heap_cell hz]; rfl
              have fz5 : w9.frozen? ⟨w.heap.size, 5, none⟩ = false := heap_frozen hz 5 (by omega)
              have cz6 : w9.cell? ⟨w.heap.size, 6, none⟩ = some (.int .i64 0) := by rw [heap_cell hz]; rfl
              have fz6 : w9.frozen? ⟨w.heap.size, 6, none⟩ = false := heap_frozen hz 6 (by omega)
              have cz7 : w9.cell? ⟨w.heap.size, 7, none⟩ = some (.bool false) := by rw [heap_cell hz]; rfl
              have fz7 : w9.frozen? ⟨w.heap.size, 7, none⟩ = false := heap_frozen hz 7 (by omega)
              have cz8 : w9.cell? ⟨w.heap.size, 8, none⟩ = some (.int .i64 0) := by rw [heap_cell hz]; rfl
              have fz8 : w9.frozen? ⟨w.heap.size, 8, none⟩ = false := heap_frozen hz 8 (by omega)
              have cz9 : w9.cell? ⟨w.heap.size, 9, none⟩ = some (.int .i64 0) := by rw [heap_cell hz]; rfl
              have fz9 : w9.frozen? ⟨w.heap.size, 9, none⟩ = false := heap_frozen hz 9 (by omega)
              have cz10 : w9.cell? ⟨w.heap.size, 10, none⟩ = some (.int .i64 0) := by rw [heap_cell hz]; rfl
              have fz10 : w9.frozen? ⟨w.heap.size, 10, none⟩ = false := heap_frozen hz 10 (by omega)
              have HZ := hid hz
              clear ho hz
              go_wp2_with fail
              (try simp only [Exit.inBlock, Exit.then])
              refine bodyPost_ret (v := .tuple #[.agg #[.int .i64 V1, .int .i64 V2, .int .i64 V3, .int .i64 V4, .int .i64 V5, .int .i64 V6, .int .i64 V7, .bool true, .int .i64 X, .int .i64 V8, .int .i64 (V8 + V9)], .int .i64 0]) ?_ rfl ⟨?_, ?_⟩
              · refine results_row2 (fn := Try.f19) (p := 2) (u := 3) rfl _ _ w.heap.size 29 _ (0, 0) _ rfl ?_ Try.underlying29 rfl ?_
                · exact (heap_setV (heap_setV (heap_setV (heap_setV (heap_setV (heap_setV (heap_setV (heap_setV (heap_setV (heap_setV (heap_setV HZ.out 0 (.int .i64 V1) #[.int .i64 V1, .int .i64 0, .int .i64 0, .int .i64 0, .int .i64 0, .int .i64 0, .int .i64 0, .bool false, .int .i64 0, .int .i64 0, .int .i64 0] rfl) 1 (.int .i64 V2) #[.int .i64 V1, .int .i64 V2, .int .i64 0, .int .i64 0, .int .i64 0, .int .i64 0, .int .i64 0, .bool false, .int .i64 0, .int .i64 0, .int .i64 0] rfl) 2 (.int .i64 V3) #[.int .i64 V1, .int .i64 V2, .int .i64 V3, .int .i64 0, .int .i64 0, .int .i64 0, .int .i64 0, .bool false, .int .i64 0, .int .i64 0, .int .i64 0] rfl) 3 (.int .i64 V4) #[.int .i64 V1, .int .i64 V2, .int .i64 V3, .int .i64 V4, .int .i64 0, .int .i64 0, .int .i64 0, .bool false, .int .i64 0, .int .i64 0, .int .i64 0] rfl) 4 (.int .i64 V5) #[.int .i64 V1, .int .i64 V2, .int .i64 V3, .int .i64 V4, .int .i64 V5, .int .i64 0, .int .i64 0, .bool false, .int .i64 0, .int .i64 0, .int .i64 0] rfl) 5 (.int .i64 V6) #[.int .i64 V1, .int .i64 V2, .int .i64 V3, .int .i64 V4, .int .i64 V5, .int .i64 V6, .int .i64 0, .bool false, .int .i64 0, .int .i64 0, .int .i64 0] rfl) 6 (.int .i64 V7) #[.int .i64 V1, .int .i64 V2, .int .i64 V3, .int .i64 V4, .int .i64 V5, .int .i64 V6, .int .i64 V7, .bool false, .int .i64 0, .int .i64 0, .int .i64 0] rfl) 7 (.bool true) #[.int .i64 V1, .int .i64 V2, .int .i64 V3, .int .i64 V4, .int .i64 V5, .int .i64 V6, .int .i64 V7, .bool true, .int .i64 0, .int .i64 0, .int .i64 0] rfl) 8 (.int .i64 X) #[.int .i64 V1, .int .i64 V2, .int .i64 V3, .int .i64 V4, .int .i64 V5, .int .i64 V6, .int .i64 V7, .bool true, .int .i64 X, .int .i64 0, .int .i64 0] rfl) 9 (.int .i64 V8) #[.int .i64 V1, .int .i64 V2, .int .i64 V3, .int .i64 V4, .int .i64 V5, .int .i64 V6, .int .i64 V7, .bool true, .int .i64 X, .int .i64 V8, .int .i64 0] rfl) 10 (.int .i64 (V8 + V9)) #[.int .i64 V1, .int .i64 V2, .int .i64 V3, .int .i64 V4, .int .i64 V5, .int .i64 V6, .int .i64 V7, .bool true, .int .i64 X, .int .i64 V8, .int .i64 (V8 + V9)] rfl)
                · kernel_rfl
              · rw [HG.out]; rfl
              · have g9 := Grow.trans (Grow.trans (Grow.trans (Grow.trans (Grow.alloc _ _) (Grow.alloc _ _)) (Grow.alloc _ _)) (Grow.drew _)) b9
                exact (Grow.setD (Grow.setD (Grow.setD (Grow.setD (Grow.setD (Grow.setD (Grow.setD (Grow.setD (Grow.setD (Grow.setD (Grow.setD g9 _ _ (Nat.le_refl _) _) _ _ (Nat.le_refl _) _) _ _ (Nat.le_refl _) _) _ _ (Nat.le_refl _) _) _ _ (Nat.le_refl _) _) _ _ (Nat.le_refl _) _) _ _ (Nat.le_refl _) _) _ _ (Nat.le_refl _) _) _ _ (Nat.le_refl _) _) _ _ (Nat.le_refl _) _) _ _ (Nat.le_refl _) _)
          · have HG := hid (show F = none by rw [HF1, okOp, if_neg hE])
            generalize checkE ⟨V1, V2, V3, V4, V5, V6, V7, true, X, V8, V8 + V9⟩ = E at *
            have q : (E != 0) = true := by rw [bne_iff_ne]; exact hE
            clear HF1 hE hm hS10
            go_enter Try.func19, Try.ntmps19
            go_wp2_with fail
            refine (C1.out _ _ (by go_simp) (by go_simp) (by go_simp) (by go_simp)).mono ?_
            rintro e w1 ⟨rfl, rfl⟩
            go_wp2_with fail
            refine (C2.out _ _ (by go_simp) (by go_simp) (by go_simp) (by go_simp)).mono ?_
            rintro e w1 ⟨rfl, rfl⟩
            go_wp2_with fail
            refine (C3.out _ _ (by go_simp) (by go_simp) (by go_simp) (by go_simp)).mono ?_
            rintro e w1 ⟨rfl, rfl⟩
            go_wp2_with fail
            refine (C4.out _ _ (by go_simp) (by go_simp) (by go_simp) (by go_simp)).mono ?_
            rintro e w1 ⟨rfl, rfl⟩
            go_wp2_with fail
            refine (C5.out _ _ (by go_simp) (by go_simp) (by go_simp) (by go_simp)).mono ?_
            rintro e w1 ⟨rfl, rfl⟩
            go_wp2_with fail
            refine (C6.out _ _ (by go_simp) (by go_simp) (by go_simp) (by go_simp)).mono ?_
            rintro e w1 ⟨rfl, rfl⟩
            go_wp2_with fail
            refine (C7.out _ _ (by go_simp) (by go_simp) (by go_simp) (by go_simp)).mono ?_
            rintro e w1 ⟨rfl, rfl⟩
            go_wp2_with fail
            refine (C8.out _ _ (by go_simp) (by go_simp) (by go_simp) (by go_simp)).mono ?_
            rintro e w1 ⟨rfl, rfl⟩
            go_wp2_with fail
            go_region_with ((go_at_call 32; refine (C9.out _ _ (by go_simp) (by go_simp) (by go_simp) (by go_simp)).mono ?_; rintro e w1 ⟨rfl, rfl⟩))
            all_goals
              go_wp2_with fail
              refine (C10.out _ _ (by go_simp) (by go_simp) (by go_simp) (by go_simp)).mono ?_
              rintro e w1 ⟨rfl, rfl⟩
              go_wp2_with fail
              refine (HUF.out _).mono ?_
              rintro e w1 ⟨rfl, rfl⟩
              go_wp2_with fail
              refine (cc.out _).mono ?_
              rintro e w9 ⟨rfl, b9⟩
              have ho : w9.heap[w.heap.size + 1 + 1]? = some (.cells #[.int .i64 V1, .int .i64 V2, .int .i64 V3, .int .i64 V4, .int .i64 V5, .int .i64 V6, .int .i64 V7, .bool true, .int .i64 X, .int .i64 V8, .int .i64 (V8 + V9)] 29 (0, 0)) := b9.heap (heap_new3 w (.cells #[.int .i64 0, .int .i64 0, .int .i64 0, .int .i64 0, .int .i64 0, .int .i64 0, .int .i64 0, .bool false, .int .i64 0, .int .i64 0, .int .i64 0] 29) (.cells #[.string S10, .bool true] 63) (.cells #[.int .i64 V1, .int .i64 V2, .int .i64 V3, .int .i64 V4, .int .i64 V5, .int .i64 V6, .int .i64 V7, .bool true, .int .i64 X, .int .i64 V8, .int .i64 (V8 + V9)] 29))
              have hz : w9.heap[w.heap.size]? = some (.cells #[.int .i64 0, .int .i64 0, .int .i64 0, .int .i64 0, .int .i64 0, .int .i64 0, .int .i64 0, .bool false, .int .i64 0, .int .i64 0, .int .i64 0] 29 (0, 0)) := b9.heap (heap_alloc_keep (heap_alloc_keep (heap_new w (.cells #[.int .i64 0, .int .i64 0, .int .i64 0, .int .i64 0, .int .i64 0, .int .i64 0, .int .i64 0, .bool false, .int .i64 0, .int .i64 0, .int .i64 0] 29)) _) _)
              have co0 : w9.cell? ⟨w.heap.size + 1 + 1, 0, none⟩ = some (.int .i64 V1) := by rw [heap_cell ho]; rfl
              have co1 : w9.cell? ⟨w.heap.size + 1 + 1, 1, none⟩ = some (.int .i64 V2) := by rw [heap_cell ho]; rfl
              have co2 : w9.cell? ⟨w.heap.size + 1 + 1, 2, none⟩ = some (.int .i64 V3) := by rw [heap_cell ho]; rfl
              have co3 : w9.cell? ⟨w.heap.size + 1 + 1, 3, none⟩ = some (.int .i64 V4) := by rw [heap_cell ho]; rfl
              have co4 : w9.cell? ⟨w.heap.size + 1 + 1, 4, none⟩ = some (.int .i64 V5) := by rw [heap_cell ho]; rfl
              have co5 : w9.cell? ⟨w.heap.size + 1 + 1, 5, none⟩ = some (.int .i64 V6) := by rw [heap_cell ho]; rfl
              have co6 : w9.cell? ⟨w.heap.size + 1 + 1, 6, none⟩ = some (.int .i64 V7) := by rw [heap_cell ho]; rfl
              have co7 : w9.cell? ⟨w.heap.size + 1 + 1, 7, none⟩ = some (.bool true) := by rw [heap_cell ho]; rfl
              have co8 : w9.cell? ⟨w.heap.size + 1 + 1, 8, none⟩ = some (.int .i64 X) := by rw [heap_cell ho]; rfl
              have co9 : w9.cell? ⟨w.heap.size + 1 + 1, 9, none⟩ = some (.int .i64 V8) := by rw [heap_cell ho]; rfl
              have co10 : w9.cell? ⟨w.heap.size + 1 + 1, 10, none⟩ = some (.int .i64 (V8 + V9)) := by rw [heap_cell ho]; rfl
              have cz0 : w9.cell? ⟨w.heap.size, 0, none⟩ = some (.int .i64 0) := by rw [heap_cell hz]; rfl
              have fz0 : w9.frozen? ⟨w.heap.size, 0, none⟩ = false := heap_frozen hz 0 (by omega)
              have cz1 : w9.cell? ⟨w.heap.size, 1, none⟩ = some (.int .i64 0) := by rw [heap_cell hz]; rfl
              have fz1 : w9.frozen? ⟨w.heap.size, 1, none⟩ = false := heap_frozen hz 1 (by omega)
              have cz2 : w9.cell? ⟨w.heap.size, 2, none⟩ = some (.int .i64 0) := by rw [heap_cell hz]; rfl
              have fz2 : w9.frozen? ⟨w.heap.size, 2, none⟩ = false := heap_frozen hz 2 (by omega)
              have cz3 : w9.cell? ⟨w.heap.size, 3, none⟩ = some (.int .i64 0) := by rw [heap_cell hz]; rfl
              have fz3 : w9.frozen? ⟨w.heap.size, 3, none⟩ = false := heap_frozen hz 3 (by omega)
              have cz4 : w9.cell? ⟨w.heap.size, 4, none⟩ = some (.int .i64 0) := by rw [heap_cell hz]; rfl
              have fz4 : w9.frozen? ⟨w.heap.size, 4, none⟩ = false := heap_frozen hz 4 (by omega)
              have cz5 : w9.cell? ⟨w.heap.size, 5, none⟩ = some (.int .i64 0) := by rw [heap_cell hz]; rfl
              have fz5 : w9.frozen? ⟨w.heap.size, 5, none⟩ = false := heap_frozen hz 5 (by omega)
              have cz6 : w9.cell? ⟨w.heap.size, 6, none⟩ = some (.int .i64 0) := by rw [heap_cell hz]; rfl
              have fz6 : w9.frozen? ⟨w.heap.size, 6, none⟩ = false := heap_frozen hz 6 (by omega)
              have cz7 : w9.cell? ⟨w.heap.size, 7, none⟩ = some (.bool false) := by rw [heap_cell hz]; rfl
              have fz7 : w9.frozen? ⟨w.heap.size, 7, none⟩ = false := heap_frozen hz 7 (by omega)
              have cz8 : w9.cell? ⟨w.heap.size, 8, none⟩ = some (.int .i64 0) := by rw [heap_cell hz]; rfl
              have fz8 : w9.frozen? ⟨w.heap.size, 8, none⟩ = false := heap_frozen hz 8 (by omega)
              have cz9 : w9.cell? ⟨w.heap.size, 9, none⟩ = some (.int .i64 0) := by rw [heap_cell hz]; rfl
              have fz9 : w9.frozen? ⟨w.heap.size, 9, none⟩ = false := heap_frozen hz 9 (by omega)
              have cz10 : w9.cell? ⟨w.heap.size, 10, none⟩ = some (.int .i64 0) := by rw [heap_cell hz]; rfl
              have fz10 : w9.frozen? ⟨w.heap.size, 10, none⟩ = false := heap_frozen hz 10 (by omega)
              have HZ := hid hz
              clear ho hz
              go_wp2_with fail
              (try simp only [Exit.inBlock, Exit.then])
              refine bodyPost_ret (v := .tuple #[.agg #[.int .i64 0, .int .i64 0, .int .i64 0, .int .i64 0, .int .i64 0, .int .i64 0, .int .i64 0, .bool false, .int .i64 0, .int .i64 0, .int .i64 0], .int .i64 14]) ?_ rfl ⟨?_, ?_⟩
              · refine results_row2 (fn := Try.f19) (p := 2) (u := 3) rfl _ _ w.heap.size 29 _ (0, 0) _ rfl ?_ Try.underlying29 rfl ?_
                · exact (heap_setV (heap_setV (heap_setV (heap_setV (heap_setV (heap_setV (heap_setV (heap_setV (heap_setV (heap_setV (heap_setV HZ.out 0 (.int .i64 0) #[.int .i64 0, .int .i64 0, .int .i64 0, .int .i64 0, .int .i64 0, .int .i64 0, .int .i64 0, .bool false, .int .i64 0, .int .i64 0, .int .i64 0] rfl) 1 (.int .i64 0) #[.int .i64 0, .int .i64 0, .int .i64 0, .int .i64 0, .int .i64 0, .int .i64 0, .int .i64 0, .bool false, .int .i64 0, .int .i64 0, .int .i64 0] rfl) 2 (.int .i64 0) #[.int .i64 0, .int .i64 0, .int .i64 0, .int .i64 0, .int .i64 0, .int .i64 0, .int .i64 0, .bool false, .int .i64 0, .int .i64 0, .int .i64 0] rfl) 3 (.int .i64 0) #[.int .i64 0, .int .i64 0, .int .i64 0, .int .i64 0, .int .i64 0, .int .i64 0, .int .i64 0, .bool false, .int .i64 0, .int .i64 0, .int .i64 0] rfl) 4 (.int .i64 0) #[.int .i64 0, .int .i64 0, .int .i64 0, .int .i64 0, .int .i64 0, .int .i64 0, .int .i64 0, .bool false, .int .i64 0, .int .i64 0, .int .i64 0] rfl) 5 (.int .i64 0) #[.int .i64 0, .int .i64 0, .int .i64 0, .int .i64 0, .int .i64 0, .int .i64 0, .int .i64 0, .bool false, .int .i64 0, .int .i64 0, .int .i64 0] rfl) 6 (.int .i64 0) #[.int .i64 0, .int .i64 0, .int .i64 0, .int .i64 0, .int .i64 0, .int .i64 0, .int .i64 0, .bool false, .int .i64 0, .int .i64 0, .int .i64 0] rfl) 7 (.bool false) #[.int .i64 0, .int .i64 0, .int .i64 0, .int .i64 0, .int .i64 0, .int .i64 0, .int .i64 0, .bool false, .int .i64 0, .int .i64 0, .int .i64 0] rfl) 8 (.int .i64 0) #[.int .i64 0, .int .i64 0, .int .i64 0, .int .i64 0, .int .i64 0, .int .i64 0, .int .i64 0, .bool false, .int .i64 0, .int .i64 0, .int .i64 0] rfl) 9 (.int .i64 0) #[.int .i64 0, .int .i64 0, .int .i64 0, .int .i64 0, .int .i64 0, .int .i64 0, .int .i64 0, .bool false, .int .i64 0, .int .i64 0, .int .i64 0] rfl) 10 (.int .i64 0) #[.int .i64 0, .int .i64 0, .int .i64 0, .int .i64 0, .int .i64 0, .int .i64 0, .int .i64 0, .bool false, .int .i64 0, .int .i64 0, .int .i64 0] rfl)
                · kernel_rfl
              · rw [HG.out]; rfl
              · have g9 := Grow.trans (Grow.trans (Grow.trans (Grow.trans (Grow.alloc _ _) (Grow.alloc _ _)) (Grow.alloc _ _)) (Grow.drew _)) b9
                exact (Grow.setD (Grow.setD (Grow.setD (Grow.setD (Grow.setD (Grow.setD (Grow.setD (Grow.setD (Grow.setD (Grow.setD (Grow.setD g9 _ _ (Nat.le_refl _) _) _ _ (Nat.le_refl _) _) _ _ (Nat.le_refl _) _) _ _ (Nat.le_refl _) _) _ _ (Nat.le_refl _) _) _ _ (Nat.le_refl _) _) _ _ (Nat.le_refl _) _) _ _ (Nat.le_refl _) _) _ _ (Nat.le_refl _) _) _ _ (Nat.le_refl _) _) _ _ (Nat.le_refl _) _)
        · have he10 : S10.toList.isEmpty = false := by
            cases hh : S10.toList.isEmpty with
            | false => rfl
            | true => exact absurd (data_nil.2 hh) hS10
          have HF := hid (show F = none by rw [HF1, if_neg (fun h => hS10 h.2)])
          clear HF1 hm hS10
          go_enter Try.func19, Try.ntmps19
          go_wp2_with fail
          refine (C1.out _ _ (by go_simp) (by go_simp) (by go_simp) (by go_simp)).mono ?_
          rintro e w1 ⟨rfl, rfl⟩
          go_wp2_with fail
          refine (C2.out _ _ (by go_simp) (by go_simp) (by go_simp) (by go_simp)).mono ?_
          rintro e w1 ⟨rfl, rfl⟩
          go_wp2_with fail
          refine (C3.out _ _ (by go_simp) (by go_simp) (by go_simp) (by go_simp)).mono ?_
          rintro e w1 ⟨rfl, rfl⟩
          go_wp2_with fail
          refine (C4.out _ _ (by go_simp) (by go_simp) (by go_simp) (by go_simp)).mono ?_
          rintro e w1 ⟨rfl, rfl⟩
          go_wp2_with fail
          refine (C5.out _ _ (by go_simp) (by go_simp) (by go_simp) (by go_simp)).mono ?_
          rintro e w1 ⟨rfl, rfl⟩
          go_wp2_with fail
          refine (C6.out _ _ (by go_simp) (by go_simp) (by go_simp) (by go_simp)).mono ?_
          rintro e w1 ⟨rfl, rfl⟩
          go_wp2_with fail
          refine (C7.out _ _ (by go_simp) (by go_simp) (by go_simp) (by go_simp)).mono ?_
          rintro e w1 ⟨rfl, rfl⟩
          go_wp2_with fail
          refine (C8.out _ _ (by go_simp) (by go_simp) (by go_simp) (by go_simp)).mono ?_
          rintro e w1 ⟨rfl, rfl⟩
          go_wp2_with fail
          go_region_with ((go_at_call 32; refine (C9.out _ _ (by go_simp) (by go_simp) (by go_simp) (by go_simp)).mono ?_; rintro e w1 ⟨rfl, rfl⟩))
          all_goals
            go_wp2_with fail
            refine (C10.out _ _ (by go_simp) (by go_simp) (by go_simp) (by go_simp)).mono ?_
            rintro e w1 ⟨rfl, rfl⟩
            go_wp2_with fail
            refine (HUF.out _).mono ?_
            rintro e w1 ⟨rfl, rfl⟩
            go_wp2_with fail
            (try simp only [Exit.inBlock, Exit.then])
            refine bodyPost_ret (v := .tuple #[.agg #[.int .i64 0, .int .i64 0, .int .i64 0, .int .i64 0, .int .i64 0, .int .i64 0, .int .i64 0, .bool false, .int .i64 0, .int .i64 0, .int .i64 0], .int .i64 14]) ?_ rfl ⟨?_, ?_⟩
            · rw [results_cell_tmp rfl]
              go_simp
            · rw [HF.out]; rfl
            · first
              | exact Grow.trans (Grow.trans (Grow.alloc _ _) (Grow.alloc _ _)) (Grow.alloc _ _)
              | exact Grow.trans (Grow.trans (Grow.trans (Grow.alloc _ _) (Grow.alloc _ _)) (Grow.alloc _ _)) (Grow.drew _)
end Go.Proofs.Ytdeegepmampanaa
