/- What journal.full, the reference's Filled, journal.Blocks and the reference's Blocks compute; texts and pages in memory. -/
import Derived.Test.YtcfkcdfjianeiaaJPackPlain
import Derived.Test.YtcfkcdfjianeiaaRely
import Derived.Test.YtcfkcdfjianeiaaRows
import Derived.Deep.OwnRows
import Derived.Outline
import Derived.IntWalk
namespace Go.Proofs.Ytcfkcdfjianeiaa
open Go.RowKit
set_option linter.unusedVariables false
set_option linter.unusedSimpArgs false
theorem infoU8J : (Try.prog.info? 5).map (fun i => (i.zero, i.size, i.bytes)) = some (some (.int .u8 0), 1, 1) := by kernel_rfl
theorem zeros_conv (w : World) (n : Nat) : (convert 53 9 (.slice (some ⟨w.heap.size, 0, none⟩) n n)).run Try.prog (w.alloc (.cells (madeCells #[.int .u8 0] n) 5)) = .ok (.string ⟨(List.replicate n (0 : UInt8)).toArray⟩) (w.alloc (.cells (madeCells #[.int .u8 0] n) 5)) := by
  refine conv_bytes Try.underlying53 Try.underlying5 Try.underlying9 w.heap.size 0 n (List.replicate n (0 : UInt8)) n (by simp) (fun j hj => ?_)
  rw [Nat.zero_add, heap_cell (heap_new w _)]
  simp only [List.length_replicate] at hj
  have hs : (madeCells #[Value.int .u8 0] n).size = n := by unfold madeCells; simp
  rw [Array.getElem?_eq_getElem (by omega)]
  simp [madeCells, Nat.mod_one]
theorem fill_join (s : ByteArray) : s ++ (⟨(List.replicate (256 - s.size) (0 : UInt8)).toArray⟩ : ByteArray) = ⟨(fillL s.data.toList).toArray⟩ := by
  apply ByteArray.ext
  apply Array.toList_inj.1
  simp [ByteArray.data_append, fillL]
theorem full_c (s : ByteArray) (w : World) (hs : s.size ≤ 256) : Calls Try.prog 23 #[.string s] w fun e w' => e = .returned (.string ⟨(fillL s.data.toList).toArray⟩) ∧ Grow w w' := by
  have hj := fill_join s
  have hmk := fun W => run_make_row' (P := Try.prog) 53 5 (.int .u8 0) 1 Try.underlying53 infoU8J rfl .i64 .i64 (256 - s.size) (by omega) (by omega) W
  have hcv := fun W => zeros_conv W (256 - s.size)
  have e : (256 : Int) - (s.size : Int) = ((256 - s.size : Nat) : Int) := by omega
  have hz : (⟨(List.replicate (256 - s.size) (0 : UInt8)).toArray⟩ : ByteArray).size ≤ 256 := by rw [ByteArray.size, List.size_toArray, List.length_replicate]; omega
  generalize (⟨(List.replicate (256 - s.size) (0 : UInt8)).toArray⟩ : ByteArray) = Z at *
  generalize (⟨(fillL s.data.toList).toArray⟩ : ByteArray) = F at *
  have hq : ¬ 9223372036854775807 < s.size + Z.size := by omega
  go_enter Try.func23, Try.ntmps23
  go_wp2_with fail
  go_ret
  exact ⟨by first | rfl | (rw [← hj]; rfl), Grow.alloc _ _⟩
theorem Filled_c (s : ByteArray) (w : World) (hs : s.size ≤ 256) : Calls Try.prog 18 #[.string s] w fun e w' => e = .returned (.string ⟨(fillL s.data.toList).toArray⟩) ∧ Grow w w' := by
  have hj := fill_join s
  have hmk := fun W => run_make_row' (P := Try.prog) 53 5 (.int .u8 0) 1 Try.underlying53 infoU8J rfl .i64 .i64 (256 - s.size) (by omega) (by omega) W
  have hcv := fun W => zeros_conv W (256 - s.size)
  have e : (256 : Int) - (s.size : Int) = ((256 - s.size : Nat) : Int) := by omega
  have hz : (⟨(List.replicate (256 - s.size) (0 : UInt8)).toArray⟩ : ByteArray).size ≤ 256 := by rw [ByteArray.size, List.size_toArray, List.length_replicate]; omega
  generalize (⟨(List.replicate (256 - s.size) (0 : UInt8)).toArray⟩ : ByteArray) = Z at *
  generalize (⟨(fillL s.data.toList).toArray⟩ : ByteArray) = F at *
  have hq : ¬ 9223372036854775807 < s.size + Z.size := by omega
  go_enter Try.func18, Try.ntmps18
  go_wp2_with fail
  go_ret
  exact ⟨by first | rfl | (rw [← hj]; rfl), Grow.alloc _ _⟩
theorem heads_c (n : Nat) (w : World) (hn : n ≤ 140737488351232) : Calls Try.prog 22 #[.int .i64 (n : Int)] w fun e w' => e = .returned (.int .i64 (headsN n : Int)) ∧ w = w' := by
  have e : (headsN n : Int) = (4 * (n : Int) + 4 + 256 - 1) / 256 := by unfold headsN; omega
  rw [e]
  clear e
  go_enter Try.func22, Try.ntmps22
  go_wp2_with fail
  go_ret
  exact ⟨rfl, rfl⟩
theorem headsN_le (n : Nat) : headsN n ≤ n + 2 := by unfold headsN; omega
theorem Blocks_c (n : Nat) (w : World) (hn : n ≤ 140737488351232) : Calls Try.prog 11 #[.int .i64 (n : Int)] w fun e w' => e = .returned (.int .i64 ((headsN n + n : Nat) : Int)) ∧ w = w' := by
  have hc := hid (fun w => heads_c n w hn)
  have hle := headsN_le n
  generalize headsN n = H at *
  go_enter Try.func11, Try.ntmps11
  go_wp2_with fail
  refine (hc.out _).mono ?_
  rintro e w1 ⟨rfl, rfl⟩
  go_wp2_with fail
  go_ret
  exact ⟨rfl, rfl⟩
theorem RBlocks_c (n : Nat) (w : World) (hn : n ≤ 140737488351232) : Calls Try.prog 12 #[.int .i64 (n : Int)] w fun e w' => e = .returned (.int .i64 ((headsN n + n : Nat) : Int)) ∧ w = w' := by
  have hle := headsN_le n
  have h1 : ∀ k : Nat, k < headsN n → (k : Int) * 256 < 4 * (n : Int) + 4 := fun k hk => by unfold headsN at hk; omega
  have h2 : ¬ (headsN n : Int) * 256 < 4 * (n : Int) + 4 := by unfold headsN; omega
  generalize headsN n = H at *
  have h1 := hid h1
  go_enter Try.func12, Try.ntmps12
  go_wp2_with fail
  go_loop [3] (fun i => ∃ k : Nat, k ≤ H ∧ i = .int .i64 (k : Int)) (fun i => H - (intOf i).toNat)
  case atStart => exact ⟨0, by omega, rfl⟩
  case round =>
    obtain ⟨k, hk, rfl⟩ := hrel
    by_cases hlt : k < H
    · have h3 := h1.out k hlt
      go_wp2_with fail
      go_round
      case rel => exact ⟨k + 1, by omega, by go_num⟩
      case measure => simp [intOf]; omega
    · obtain rfl : k = H := by omega
      go_wp2_with fail
      go_ret
      exact ⟨rfl, rfl⟩
end Go.Proofs.Ytcfkcdfjianeiaa
