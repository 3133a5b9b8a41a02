/- The examples of the layer 'key', which each of its laws asks besides: they hold. -/
import Derived.Test.YtnohdicnofffdaaKeyOf
import Derived.Test.YtnohdicnofffdaaKeyPast
namespace Go.Proofs.Ytnohdicnofffdaa
open Go.RowKit
set_option linter.unusedVariables false
theorem inR_small (n : Int) (h : -5 ≤ n ∧ n ≤ 5) : inR n := ⟨by omega, by omega⟩
set_option maxHeartbeats 400000 in
theorem awake_c (w : World) : Calls Try.prog 10 #[] w fun e w' => e = .returned (.bool true) ∧ Grow w w' := by
  have k1 : Op.bytesLess (ofL [1, -1]) (ofL [1, 0]) = true := by decide +kernel
  have k2 : Op.bytesLess (ofL [1, -1]) (ofL [1]) = false := by decide +kernel
  have k3 : (ofL [1, -1] == ofL [1]) = false := by decide +kernel
  have k4 : (ofL [1, -1]).length = 16 := by decide +kernel
  have k5 : pastL (ByteArray.mk #[97, 255]).data.toList = [98] := by decide +kernel
  have c1 := hid (fun (w : World) => Of_c [1, -1] (.slice (some ⟨w.heap.size, 0, none⟩) 2 2) (w.alloc (.cells #[.int .i64 1, .int .i64 (-1)] 3)) (Ints.of_block (xs := [1, -1]) (heap_new w _) (by decide)) (by simp; exact ⟨inR_small _ (by omega), inR_small _ (by omega)⟩) (by decide))
  have c2 := hid (fun (w : World) => Of_c [1, 0] (.slice (some ⟨w.heap.size, 0, none⟩) 2 2) (w.alloc (.cells #[.int .i64 1, .int .i64 0] 3)) (Ints.of_block (xs := [1, 0]) (heap_new w _) (by decide)) (by simp; exact ⟨inR_small _ (by omega), inR_small _ (by omega)⟩) (by decide))
  have c3 := hid (fun (w : World) => Of_c [1] (.slice (some ⟨w.heap.size, 0, none⟩) 1 1) (w.alloc (.cells #[.int .i64 1] 3)) (Ints.of_block (xs := [1]) (heap_new w _) (by decide)) (by simp; exact inR_small _ (by omega)) (by decide))
  have c4 := hid (fun w => Past_c (ByteArray.mk #[97, 255]) w (by decide))
  rw [k5] at c4
  generalize ofL [1, -1] = A at *
  generalize ofL [1, 0] = B at *
  generalize ofL [1] = C at *
  go_enter Try.func10, Try.ntmps10
  go_wp2_with fail
  refine (c1.out _).mono ?_
  rintro e w1 ⟨rfl, b1⟩
  go_wp2_with fail
  refine (c2.out _).mono ?_
  rintro e w2 ⟨rfl, b2⟩
  go_wp2_with fail
  refine (c3.out _).mono ?_
  rintro e w3 ⟨rfl, b3⟩
  go_wp2_with fail
  refine (c4.out _).mono ?_
  rintro e w4 ⟨rfl, b4⟩
  go_wp2_with fail
  go_ret
  exact ⟨rfl, Grow.trans (Grow.alloc _ _) (Grow.trans b1 (Grow.trans (Grow.alloc _ _) (Grow.trans b2 (Grow.trans (Grow.alloc _ _) (Grow.trans b3 b4)))))⟩
end Go.Proofs.Ytnohdicnofffdaa
