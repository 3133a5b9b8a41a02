/- Every operation as a record, and which operation every text is, are what the document says. -/
import Derived.Test.YtdeegepmampanaaOpAwake
import Derived.Test.YtdeegepmampanaaOpRDecode
import Derived.Test.YtdeegepmampanaaOpDecode
import Derived.Test.YtdeegepmampanaaOpEncode
import Derived.Test.YtdeegepmampanaaOpREncode
import Derived.Test.YtdeegepmampanaaOpLift
import Derived.Test.YtdeegepmampanaaOpEq
namespace Go.Proofs.Ytdeegepmampanaa
open Go.RowKit
set_option linter.unusedVariables false
set_option linter.unusedSimpArgs false
set_option maxRecDepth 100000 in
set_option maxHeartbeats 8000000 in
theorem OpCodes_walk (o : OpR) (s : ByteArray) (w : World) (l : o.Fit) (hs : s.size ≤ 140737488351232) :
    Calls Try.prog 7 #[.agg #[.int .i64 o.id, .int .i64 o.proc, .int .i64 o.obj, .int .i64 o.kind, .int .i64 o.meth, .int .i64 o.arg, .int .i64 o.sec, .bool o.done, .int .i64 o.res, .int .i64 o.inv, .int .i64 o.ret], .string s] w fun e w' => e = .returned (.bool true) ∧ Below w.heap.size w w' := by
  have tg := fun b x y xs ys w => op_guard b x y xs ys w
  by_cases hE : checkE o = 0
  · have cE := hid (fun w => Encode_ok o l w hE)
    have cRE := hid (fun w => REncode_ok o l w hE)
    generalize (⟨(encL o).toArray⟩ : ByteArray) = A at *
    obtain ⟨id, proc, obj, kind, meth, arg, sec, done, res, inv, ret⟩ := o
    dsimp only at *
    clear hE l
    cases hF : decL s.data.toList with
    | none =>
      have cF := hid (show ∀ w, Calls Try.prog 19 #[.string s] w fun e w' => e = .returned (.tuple #[.agg #[.int .i64 0, .int .i64 0, .int .i64 0, .int .i64 0, .int .i64 0, .int .i64 0, .int .i64 0, .bool false, .int .i64 0, .int .i64 0, .int .i64 0], .int .i64 14]) ∧ Grow w w' from fun w => by
        have := Decode_c s w hs
        rw [hF] at this
        exact this)
      have cRF := hid (show ∀ w, Calls Try.prog 20 #[.string s] w fun e w' => e = .returned (.tuple #[.agg #[.int .i64 0, .int .i64 0, .int .i64 0, .int .i64 0, .int .i64 0, .int .i64 0, .int .i64 0, .bool false, .int .i64 0, .int .i64 0, .int .i64 0], .int .i64 14]) ∧ Grow w w' from fun w => by
        have := RDecode_c s w hs
        rw [hF] at this
        exact this)
      have ez := fun w => op_eql 0 0 0 0 0 0 0 false 0 0 0 w
      clear hF
      go_enter Try.func7, Try.ntmps7
      go_wp2_with fail
      refine (cE.out _).mono ?_
      rintro e w1 ⟨rfl, g1⟩
      have hh := Grow.heap g1 (heap_new w (.cells #[.int .i64 id, .int .i64 proc, .int .i64 obj, .int .i64 kind, .int .i64 meth, .int .i64 arg, .int .i64 sec, .bool done, .int .i64 res, .int .i64 inv, .int .i64 ret] 29))
      have p0 : w1.cell? ⟨w.heap.size, 0, none⟩ = some (.int .i64 id) := by rw [heap_cell hh]; rfl
      have p1 : w1.cell? ⟨w.heap.size, 1, none⟩ = some (.int .i64 proc) := by rw [heap_cell hh]; rfl
      have p2 : w1.cell? ⟨w.heap.size, 2, none⟩ = some (.int .i64 obj) := by rw [heap_cell hh]; rfl
      have p3 : w1.cell? ⟨w.heap.size, 3, none⟩ = some (.int .i64 kind) := by rw [heap_cell hh]; rfl
      have p4 : w1.cell? ⟨w.heap.size, 4, none⟩ = some (.int .i64 meth) := by rw [heap_cell hh]; rfl
      have p5 : w1.cell? ⟨w.heap.size, 5, none⟩ = some (.int .i64 arg) := by rw [heap_cell hh]; rfl
      have p6 : w1.cell? ⟨w.heap.size, 6, none⟩ = some (.int .i64 sec) := by rw [heap_cell hh]; rfl
      have p7 : w1.cell? ⟨w.heap.size, 7, none⟩ = some (.bool done) := by rw [heap_cell hh]; rfl
      have p8 : w1.cell? ⟨w.heap.size, 8, none⟩ = some (.int .i64 res) := by rw [heap_cell hh]; rfl
      have p9 : w1.cell? ⟨w.heap.size, 9, none⟩ = some (.int .i64 inv) := by rw [heap_cell hh]; rfl
      have p10 : w1.cell? ⟨w.heap.size, 10, none⟩ = some (.int .i64 ret) := by rw [heap_cell hh]; rfl
      clear hh
      go_wp2_with fail
      refine (cRE.out _).mono ?_
      rintro e w2 ⟨rfl, g2⟩
      clear p0 p1 p2 p3 p4 p5 p6 p7 p8 p9 p10
      go_wp2_with fail
      refine (cF.out _).mono ?_
      rintro e w3 ⟨rfl, g3⟩
      go_wp2_with fail
      refine (cRF.out _).mono ?_
      rintro e w4 ⟨rfl, g4⟩
      have hh := Grow.heap g4 (heap_new w3 (.cells #[.int .i64 0, .int .i64 0, .int .i64 0, .int .i64 0, .int .i64 0, .int .i64 0, .int .i64 0, .bool false, .int .i64 0, .int .i64 0, .int .i64 0] 29))
      have r0 : w4.cell? ⟨w3.heap.size, 0, none⟩ = some (.int .i64 0) := by rw [heap_cell hh]; rfl
      have r1 : w4.cell? ⟨w3.heap.size, 1, none⟩ = some (.int .i64 0) := by rw [heap_cell hh]; rfl
      have r2 : w4.cell? ⟨w3.heap.size, 2, none⟩ = some (.int .i64 0) := by rw [heap_cell hh]; rfl
      have r3 : w4.cell? ⟨w3.heap.size, 3, none⟩ = some (.int .i64 0) := by rw [heap_cell hh]; rfl
      have r4 : w4.cell? ⟨w3.heap.size, 4, none⟩ = some (.int .i64 0) := by rw [heap_cell hh]; rfl
      have r5 : w4.cell? ⟨w3.heap.size, 5, none⟩ = some (.int .i64 0) := by rw [heap_cell hh]; rfl
      have r6 : w4.cell? ⟨w3.heap.size, 6, none⟩ = some (.int .i64 0) := by rw [heap_cell hh]; rfl
      have r7 : w4.cell? ⟨w3.heap.size, 7, none⟩ = some (.bool false) := by rw [heap_cell hh]; rfl
      have r8 : w4.cell? ⟨w3.heap.size, 8, none⟩ = some (.int .i64 0) := by rw [heap_cell hh]; rfl
      have r9 : w4.cell? ⟨w3.heap.size, 9, none⟩ = some (.int .i64 0) := by rw [heap_cell hh]; rfl
      have r10 : w4.cell? ⟨w3.heap.size, 10, none⟩ = some (.int .i64 0) := by rw [heap_cell hh]; rfl
      have hlt := heap_lt hh
      clear hh
      go_wp2_with fail
      refine (awake_c _).mono ?_
      rintro e w5 ⟨rfl, b5⟩
      go_wp2_with fail
      go_ret
      exact ⟨rfl, Grow.trans (Grow.alloc _ _) (Grow.trans g1 (Grow.trans g2 (Grow.trans g3 (Grow.trans (Grow.alloc _ _) (Grow.trans g4 (Grow.trans (Grow.alloc _ _) b5))))))⟩
    | some q =>
      have cF := hid (show ∀ w, Calls Try.prog 19 #[.string s] w fun e w' => e = .returned (.tuple #[.agg #[.int .i64 q.id, .int .i64 q.proc, .int .i64 q.obj, .int .i64 q.kind, .int .i64 q.meth, .int .i64 q.arg, .int .i64 q.sec, .bool q.done, .int .i64 q.res, .int .i64 q.inv, .int .i64 q.ret], .int .i64 0]) ∧ Grow w w' from fun w => by
        have := Decode_c s w hs
        rw [hF] at this
        exact this)
      have cRF := hid (show ∀ w, Calls Try.prog 20 #[.string s] w fun e w' => e = .returned (.tuple #[.agg #[.int .i64 q.id, .int .i64 q.proc, .int .i64 q.obj, .int .i64 q.kind, .int .i64 q.meth, .int .i64 q.arg, .int .i64 q.sec, .bool q.done, .int .i64 q.res, .int .i64 q.inv, .int .i64 q.ret], .int .i64 0]) ∧ Grow w w' from fun w => by
        have := RDecode_c s w hs
        rw [hF] at this
        exact this)
      clear hF
      obtain ⟨id', proc', obj', kind', meth', arg', sec', done', res', inv', ret'⟩ := q
      dsimp only at *
      have ez := fun w => op_eql id' proc' obj' kind' meth' arg' sec' done' res' inv' ret' w
      go_enter Try.func7, Try.ntmps7
      go_wp2_with fail
      refine (cE.out _).mono ?_
      rintro e w1 ⟨rfl, g1⟩
      have hh := Grow.heap g1 (heap_new w (.cells #[.int .i64 id, .int .i64 proc, .int .i64 obj, .int .i64 kind, .int .i64 meth, .int .i64 arg, .int .i64 sec, .bool done, .int .i64 res, .int .i64 inv, .int .i64 ret] 29))
      have p0 : w1.cell? ⟨w.heap.size, 0, none⟩ = some (.int .i64 id) := by rw [heap_cell hh]; rfl
      have p1 : w1.cell? ⟨w.heap.size, 1, none⟩ = some (.int .i64 proc) := by rw [heap_cell hh]; rfl
      have p2 : w1.cell? ⟨w.heap.size, 2, none⟩ = some (.int .i64 obj) := by rw [heap_cell hh]; rfl
      have p3 : w1.cell? ⟨w.heap.size, 3, none⟩ = some (.int .i64 kind) := by rw [heap_cell hh]; rfl
      have p4 : w1.cell? ⟨w.heap.size, 4, none⟩ = some (.int .i64 meth) := by rw [heap_cell hh]; rfl
      have p5 : w1.cell? ⟨w.heap.size, 5, none⟩ = some (.int .i64 arg) := by rw [heap_cell hh]; rfl
      have p6 : w1.cell? ⟨w.heap.size, 6, none⟩ = some (.int .i64 sec) := by rw [heap_cell hh]; rfl
      have p7 : w1.cell? ⟨w.heap.size, 7, none⟩ = some (.bool done) := by rw [heap_cell hh]; rfl
      have p8 : w1.cell? ⟨w.heap.size, 8, none⟩ = some (.int .i64 res) := by rw [heap_cell hh]; rfl
      have p9 : w1.cell? ⟨w.heap.size, 9, none⟩ = some (.int .i64 inv) := by rw [heap_cell hh]; rfl
      have p10 : w1.cell? ⟨w.heap.size, 10, none⟩ = some (.int .i64 ret) := by rw [heap_cell hh]; rfl
      clear hh
      go_wp2_with fail
      refine (cRE.out _).mono ?_
      rintro e w2 ⟨rfl, g2⟩
      clear p0 p1 p2 p3 p4 p5 p6 p7 p8 p9 p10
      go_wp2_with fail
      refine (cF.out _).mono ?_
      rintro e w3 ⟨rfl, g3⟩
      go_wp2_with fail
      refine (cRF.out _).mono ?_
      rintro e w4 ⟨rfl, g4⟩
      have hh := Grow.heap g4 (heap_new w3 (.cells #[.int .i64 id', .int .i64 proc', .int .i64 obj', .int .i64 kind', .int .i64 meth', .int .i64 arg', .int .i64 sec', .bool done', .int .i64 res', .int .i64 inv', .int .i64 ret'] 29))
      have r0 : w4.cell? ⟨w3.heap.size, 0, none⟩ = some (.int .i64 id') := by rw [heap_cell hh]; rfl
      have r1 : w4.cell? ⟨w3.heap.size, 1, none⟩ = some (.int .i64 proc') := by rw [heap_cell hh]; rfl
      have r2 : w4.cell? ⟨w3.heap.size, 2, none⟩ = some (.int .i64 obj') := by rw [heap_cell hh]; rfl
      have r3 : w4.cell? ⟨w3.heap.size, 3, none⟩ = some (.int .i64 kind') := by rw [heap_cell hh]; rfl
      have r4 : w4.cell? ⟨w3.heap.size, 4, none⟩ = some (.int .i64 meth') := by rw [heap_cell hh]; rfl
      have r5 : w4.cell? ⟨w3.heap.size, 5, none⟩ = some (.int .i64 arg') := by rw [heap_cell hh]; rfl
      have r6 : w4.cell? ⟨w3.heap.size, 6, none⟩ = some (.int .i64 sec') := by rw [heap_cell hh]; rfl
      have r7 : w4.cell? ⟨w3.heap.size, 7, none⟩ = some (.bool done') := by rw [heap_cell hh]; rfl
      have r8 : w4.cell? ⟨w3.heap.size, 8, none⟩ = some (.int .i64 res') := by rw [heap_cell hh]; rfl
      have r9 : w4.cell? ⟨w3.heap.size, 9, none⟩ = some (.int .i64 inv') := by rw [heap_cell hh]; rfl
      have r10 : w4.cell? ⟨w3.heap.size, 10, none⟩ = some (.int .i64 ret') := by rw [heap_cell hh]; rfl
      have hlt := heap_lt hh
      clear hh
      go_wp2_with fail
      refine (awake_c _).mono ?_
      rintro e w5 ⟨rfl, b5⟩
      go_wp2_with fail
      go_ret
      exact ⟨rfl, Grow.trans (Grow.alloc _ _) (Grow.trans g1 (Grow.trans g2 (Grow.trans g3 (Grow.trans (Grow.alloc _ _) (Grow.trans g4 (Grow.trans (Grow.alloc _ _) b5))))))⟩
  · have cE := hid (fun w => Encode_bad o l w hE)
    have cRE := hid (fun w => REncode_bad o w hE)
    generalize checkE o = E at *
    obtain ⟨id, proc, obj, kind, meth, arg, sec, done, res, inv, ret⟩ := o
    dsimp only at *
    clear hE l
    cases hF : decL s.data.toList with
    | none =>
      have cF := hid (show ∀ w, Calls Try.prog 19 #[.string s] w fun e w' => e = .returned (.tuple #[.agg #[.int .i64 0, .int .i64 0, .int .i64 0, .int .i64 0, .int .i64 0, .int .i64 0, .int .i64 0, .bool false, .int .i64 0, .int .i64 0, .int .i64 0], .int .i64 14]) ∧ Grow w w' from fun w => by
        have := Decode_c s w hs
        rw [hF] at this
        exact this)
      have cRF := hid (show ∀ w, Calls Try.prog 20 #[.string s] w fun e w' => e = .returned (.tuple #[.agg #[.int .i64 0, .int .i64 0, .int .i64 0, .int .i64 0, .int .i64 0, .int .i64 0, .int .i64 0, .bool false, .int .i64 0, .int .i64 0, .int .i64 0], .int .i64 14]) ∧ Grow w w' from fun w => by
        have := RDecode_c s w hs
        rw [hF] at this
        exact this)
      have ez := fun w => op_eql 0 0 0 0 0 0 0 false 0 0 0 w
      clear hF
      go_enter Try.func7, Try.ntmps7
      go_wp2_with fail
      refine (cE.out _).mono ?_
      rintro e w1 ⟨rfl, g1⟩
      have hh := Grow.heap g1 (heap_new w (.cells #[.int .i64 id, .int .i64 proc, .int .i64 obj, .int .i64 kind, .int .i64 meth, .int .i64 arg, .int .i64 sec, .bool done, .int .i64 res, .int .i64 inv, .int .i64 ret] 29))
      have p0 : w1.cell? ⟨w.heap.size, 0, none⟩ = some (.int .i64 id) := by rw [heap_cell hh]; rfl
      have p1 : w1.cell? ⟨w.heap.size, 1, none⟩ = some (.int .i64 proc) := by rw [heap_cell hh]; rfl
      have p2 : w1.cell? ⟨w.heap.size, 2, none⟩ = some (.int .i64 obj) := by rw [heap_cell hh]; rfl
      have p3 : w1.cell? ⟨w.heap.size, 3, none⟩ = some (.int .i64 kind) := by rw [heap_cell hh]; rfl
      have p4 : w1.cell? ⟨w.heap.size, 4, none⟩ = some (.int .i64 meth) := by rw [heap_cell hh]; rfl
      have p5 : w1.cell? ⟨w.heap.size, 5, none⟩ = some (.int .i64 arg) := by rw [heap_cell hh]; rfl
      have p6 : w1.cell? ⟨w.heap.size, 6, none⟩ = some (.int .i64 sec) := by rw [heap_cell hh]; rfl
      have p7 : w1.cell? ⟨w.heap.size, 7, none⟩ = some (.bool done) := by rw [heap_cell hh]; rfl
      have p8 : w1.cell? ⟨w.heap.size, 8, none⟩ = some (.int .i64 res) := by rw [heap_cell hh]; rfl
      have p9 : w1.cell? ⟨w.heap.size, 9, none⟩ = some (.int .i64 inv) := by rw [heap_cell hh]; rfl
      have p10 : w1.cell? ⟨w.heap.size, 10, none⟩ = some (.int .i64 ret) := by rw [heap_cell hh]; rfl
      clear hh
      go_wp2_with fail
      refine (cRE.out _).mono ?_
      rintro e w2 ⟨rfl, g2⟩
      clear p0 p1 p2 p3 p4 p5 p6 p7 p8 p9 p10
      go_wp2_with fail
      refine (cF.out _).mono ?_
      rintro e w3 ⟨rfl, g3⟩
      go_wp2_with fail
      refine (cRF.out _).mono ?_
      rintro e w4 ⟨rfl, g4⟩
      have hh := Grow.heap g4 (heap_new w3 (.cells #[.int .i64 0, .int .i64 0, .int .i64 0, .int .i64 0, .int .i64 0, .int .i64 0, .int .i64 0, .bool false, .int .i64 0, .int .i64 0, .int .i64 0] 29))
      have r0 : w4.cell? ⟨w3.heap.size, 0, none⟩ = some (.int .i64 0) := by rw [heap_cell hh]; rfl
      have r1 : w4.cell? ⟨w3.heap.size, 1, none⟩ = some (.int .i64 0) := by rw [heap_cell hh]; rfl
      have r2 : w4.cell? ⟨w3.heap.size, 2, none⟩ = some (.int .i64 0) := by rw [heap_cell hh]; rfl
      have r3 : w4.cell? ⟨w3.heap.size, 3, none⟩ = some (.int .i64 0) := by rw [heap_cell hh]; rfl
      have r4 : w4.cell? ⟨w3.heap.size, 4, none⟩ = some (.int .i64 0) := by rw [heap_cell hh]; rfl
      have r5 : w4.cell? ⟨w3.heap.size, 5, none⟩ = some (.int .i64 0) := by rw [heap_cell hh]; rfl
      have r6 : w4.cell? ⟨w3.heap.size, 6, none⟩ = some (.int .i64 0) := by rw [heap_cell hh]; rfl
      have r7 : w4.cell? ⟨w3.heap.size, 7, none⟩ = some (.bool false) := by rw [heap_cell hh]; rfl
      have r8 : w4.cell? ⟨w3.heap.size, 8, none⟩ = some (.int .i64 0) := by rw [heap_cell hh]; rfl
      have r9 : w4.cell? ⟨w3.heap.size, 9, none⟩ = some (.int .i64 0) := by rw [heap_cell hh]; rfl
      have r10 : w4.cell? ⟨w3.heap.size, 10, none⟩ = some (.int .i64 0) := by rw [heap_cell hh]; rfl
      have hlt := heap_lt hh
      clear hh
      go_wp2_with fail
      refine (awake_c _).mono ?_
      rintro e w5 ⟨rfl, b5⟩
      go_wp2_with fail
      go_ret
      exact ⟨rfl, Grow.trans (Grow.alloc _ _) (Grow.trans g1 (Grow.trans g2 (Grow.trans g3 (Grow.trans (Grow.alloc _ _) (Grow.trans g4 (Grow.trans (Grow.alloc _ _) b5))))))⟩
    | some q =>
      have cF := hid (show ∀ w, Calls Try.prog 19 #[.string s] w fun e w' => e = .returned (.tuple #[.agg #[.int .i64 q.id, .int .i64 q.proc, .int .i64 q.obj, .int .i64 q.kind, .int .i64 q.meth, .int .i64 q.arg, .int .i64 q.sec, .bool q.done, .int .i64 q.res, .int .i64 q.inv, .int .i64 q.ret], .int .i64 0]) ∧ Grow w w' from fun w => by
        have := Decode_c s w hs
        rw [hF] at this
        exact this)
      have cRF := hid (show ∀ w, Calls Try.prog 20 #[.string s] w fun e w' => e = .returned (.tuple #[.agg #[.int .i64 q.id, .int .i64 q.proc, .int .i64 q.obj, .int .i64 q.kind, .int .i64 q.meth, .int .i64 q.arg, .int .i64 q.sec, .bool q.done, .int .i64 q.res, .int .i64 q.inv, .int .i64 q.ret], .int .i64 0]) ∧ Grow w w' from fun w => by
        have := RDecode_c s w hs
        rw [hF] at this
        exact this)
      clear hF
      obtain ⟨id', proc', obj', kind', meth', arg', sec', done', res', inv', ret'⟩ := q
      dsimp only at *
      have ez := fun w => op_eql id' proc' obj' kind' meth' arg' sec' done' res' inv' ret' w
      go_enter Try.func7, Try.ntmps7
      go_wp2_with fail
      refine (cE.out _).mono ?_
      rintro e w1 ⟨rfl, g1⟩
      have hh := Grow.heap g1 (heap_new w (.cells #[.int .i64 id, .int .i64 proc, .int .i64 obj, .int .i64 kind, .int .i64 meth, .int .i64 arg, .int .i64 sec, .bool done, .int .i64 res, .int .i64 inv, .int .i64 ret] 29))
      have p0 : w1.cell? ⟨w.heap.size, 0, none⟩ = some (.int .i64 id) := by rw [heap_cell hh]; rfl
      have p1 : w1.cell? ⟨w.heap.size, 1, none⟩ = some (.int .i64 proc) := by rw [heap_cell hh]; rfl
      have p2 : w1.cell? ⟨w.heap.size, 2, none⟩ = some (.int .i64 obj) := by rw [heap_cell hh]; rfl
      have p3 : w1.cell? ⟨w.heap.size, 3, none⟩ = some (.int .i64 kind) := by rw [heap_cell hh]; rfl
      have p4 : w1.cell? ⟨w.heap.size, 4, none⟩ = some (.int .i64 meth) := by rw [heap_cell hh]; rfl
      have p5 : w1.cell? ⟨w.heap.size, 5, none⟩ = some (.int .i64 arg) := by rw [heap_cell hh]; rfl
      have p6 : w1.cell? ⟨w.heap.size, 6, none⟩ = some (.int .i64 sec) := by rw [heap_cell hh]; rfl
      have p7 : w1.cell? ⟨w.heap.size, 7, none⟩ = some (.bool done) := by rw [heap_cell hh]; rfl
      have p8 : w1.cell? ⟨w.heap.size, 8, none⟩ = some (.int .i64 res) := by rw [heap_cell hh]; rfl
      have p9 : w1.cell? ⟨w.heap.size, 9, none⟩ = some (.int .i64 inv) := by rw [heap_cell hh]; rfl
      have p10 : w1.cell? ⟨w.heap.size, 10, none⟩ = some (.int .i64 ret) := by rw [heap_cell hh]; rfl
      clear hh
      go_wp2_with fail
      refine (cRE.out _).mono ?_
      rintro e w2 ⟨rfl, g2⟩
      clear p0 p1 p2 p3 p4 p5 p6 p7 p8 p9 p10
      go_wp2_with fail
      refine (cF.out _).mono ?_
      rintro e w3 ⟨rfl, g3⟩
      go_wp2_with fail
      refine (cRF.out _).mono ?_
      rintro e w4 ⟨rfl, g4⟩
      have hh := Grow.heap g4 (heap_new w3 (.cells #[.int .i64 id', .int .i64 proc', .int .i64 obj', .int .i64 kind', .int .i64 meth', .int .i64 arg', .int .i64 sec', .bool done', .int .i64 res', .int .i64 inv', .int .i64 ret'] 29))
      have r0 : w4.cell? ⟨w3.heap.size, 0, none⟩ = some (.int .i64 id') := by rw [heap_cell hh]; rfl
      have r1 : w4.cell? ⟨w3.heap.size, 1, none⟩ = some (.int .i64 proc') := by rw [heap_cell hh]; rfl
      have r2 : w4.cell? ⟨w3.heap.size, 2, none⟩ = some (.int .i64 obj') := by rw [heap_cell hh]; rfl
      have r3 : w4.cell? ⟨w3.heap.size, 3, none⟩ = some (.int .i64 kind') := by rw [heap_cell hh]; rfl
      have r4 : w4.cell? ⟨w3.heap.size, 4, none⟩ = some (.int .i64 meth') := by rw [heap_cell hh]; rfl
      have r5 : w4.cell? ⟨w3.heap.size, 5, none⟩ = some (.int .i64 arg') := by rw [heap_cell hh]; rfl
      have r6 : w4.cell? ⟨w3.heap.size, 6, none⟩ = some (.int .i64 sec') := by rw [heap_cell hh]; rfl
      have r7 : w4.cell? ⟨w3.heap.size, 7, none⟩ = some (.bool done') := by rw [heap_cell hh]; rfl
      have r8 : w4.cell? ⟨w3.heap.size, 8, none⟩ = some (.int .i64 res') := by rw [heap_cell hh]; rfl
      have r9 : w4.cell? ⟨w3.heap.size, 9, none⟩ = some (.int .i64 inv') := by rw [heap_cell hh]; rfl
      have r10 : w4.cell? ⟨w3.heap.size, 10, none⟩ = some (.int .i64 ret') := by rw [heap_cell hh]; rfl
      have hlt := heap_lt hh
      clear hh
      go_wp2_with fail
      refine (awake_c _).mono ?_
      rintro e w5 ⟨rfl, b5⟩
      go_wp2_with fail
      go_ret
      exact ⟨rfl, Grow.trans (Grow.alloc _ _) (Grow.trans g1 (Grow.trans g2 (Grow.trans g3 (Grow.trans (Grow.alloc _ _) (Grow.trans g4 (Grow.trans (Grow.alloc _ _) b5))))))⟩
namespace LawOpCodes
open Go.ChangeShapes Go.WideShapes Go.ChangeAt Go.RowKit
open Go.ChangeMaps (open_string shut_string)
theorem own : ownKnob Try.prog.godebug = none := by kernel_rfl
theorem laidOut : laidOutB Try.prog = true := by kernel_rfl
set_option maxRecDepth 100000 in
theorem lifted (os : Os) (started : os.Started) (H : Type) (enc : TypeId × Value → H) :
    ReturnsInHanded {} Try.checked os 7 .any (Rows.opCodesSpec.pre6 enc Try.prog Try.f7 Rows.opCodesRow.domain false) (Rows.opCodesSpec.post enc Try.prog Try.f7 false true false false) := by
  refine returnsInHanded_of_change_sized (C := Try.checked) own started (by kernel_rfl) Try.func7
    (ChangeSpec.witness6 (enc := enc) (C := Try.checked) false ⟨#[], #[.agg #[.int .i64 0, .int .i64 0, .int .i64 0, .int .i64 0, .int .i64 0, .int .i64 0, .int .i64 0, .bool false, .int .i64 0, .int .i64 0, .int .i64 0], .string ByteArray.empty], []⟩ 8 (by kernel_rfl) (by kernel_rfl) (by kernel_rfl) (by kernel_rfl)) ?_
  intro W base args ds gs before hval0 hW hcnd hsz _
  have hval : ∀ (j : Nat) t v, Try.f7.params[j]? = some t → args[j]? = some v → Value.okWide Try.prog W .any base t v := hval0
  have hW' := hW
  obtain ⟨p, q, hA0, hV, rfl, hfz, hnd⟩ := hW
  have hA : DataW.TrodAll enc Try.prog W 0 (fun _ => true) true Try.f7.params.toList args.toList ds p := hA0
  rw [Try.params7] at hA hval hsz
  obtain ⟨v0, vs0, d0, ds0, p0, q0, hargs, rfl, rfl, h0, r0⟩ := trodAll_cons hA
  obtain ⟨v1, vs1, d1, ds1, p1, q1, rfl, rfl, rfl, h1, r1⟩ := trodAll_cons r0
  obtain ⟨rfl, rfl, rfl⟩ := trodAll_nil r1
  obtain rfl : args = #[v0, v1] := by cases args; simp_all
  obtain ⟨rfl, rfl⟩ := trodVars_none hV
  have k0 := h0
  have lt0 : ∀ x ∈ p0, x.block < W.heap.size := by obtain ⟨m, hm⟩ := k0; exact DataW.trod_lt m _ _ _ hm
  obtain ⟨a0, rfl, w0⟩ := open_op (hval 0 29 v0 rfl rfl) h0
  obtain ⟨a1, rfl, rfl, rfl, w1⟩ := open_string Try.underlying9 (hval 1 9 v1 rfl rfl) h1
  have z1 : a1.size ≤ 140737488351232 := by
    have h := sized_string hsz (j := 1) (t := 9) (bytes := a1.data.toList) rfl rfl
    simpa [reachBytes] using h
  clear hA0 hval0
  refine (OpCodes_walk a0 a1 W w0 z1).mono fun e W' ⟨he, bel⟩ => ?_
  subst he
  exact ⟨_, rfl, _, _, _, [], _, [], hW', trodAll_mk1 (shut_bool Try.underlying4 _), (trodAll_cons_mk (Below.trod laidOut (by kernel_rfl) (of_decide_eq_true (by kernel_rfl)) k0 bel lt0) (trodAll_cons_mk (shut_string Try.underlying9 w1) trodAll_mk0)), rfl, bel.frame _, fun h => by cases h⟩
theorem over : Rows.opCodesRow.holds Try.pinned (OpenSpec.ofChange Rows.opCodesSpec) :=
  OpenClaim.holds_of_wide 7 Try.f7 rfl rfl rfl rfl rfl rfl rfl ⟨rfl, rfl, rfl, rfl, rfl⟩ rfl rfl rfl rfl rfl (by kernel_rfl) Try.func7 (by kernel_rfl)
    (of_decide_eq_true (by kernel_rfl)) (by unfold Func.isWrapper; first | (rw [if_pos (by decide +kernel)]; kernel_rfl) | (rw [if_neg (by decide +kernel)]; exact ⟨rfl, rfl⟩))
    (fun os started H enc _ => lifted os started H enc)
end LawOpCodes
/-- The given statement. -/
theorem opCodes_proved : Rows.OpCodesSaid := LawOpCodes.over
#print axioms opCodes_proved
end Go.Proofs.Ytdeegepmampanaa
