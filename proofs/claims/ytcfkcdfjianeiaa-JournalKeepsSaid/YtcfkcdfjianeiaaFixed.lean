/- What bits.Fixed and the reference's Fixed compute. -/
import Derived.Test.YtcfkcdfjianeiaaRows
import Derived.Test.YtcfkcdfjianeiaaBitsPlain
namespace Go.Proofs.Ytcfkcdfjianeiaa
open Go.RowKit
set_option linter.unusedVariables false
attribute [local go_sem ↓ high] run_imin run_imax
theorem Try.infoU8 : Info Try.prog 5 (.int .u8 0) 1 1 := by unfold Info; kernel_rfl

theorem byte_toNat (m : Nat) : ((m : Int) % 256) = ((UInt8.ofNat (m % 256)).toNat : Int) := by
  have : (UInt8.ofNat (m % 256)).toNat = m % 256 := by simp
  omega
theorem byte_of (n j : Nat) : ((n : Int) / 2 ^ (8 * j) % 256) = ((UInt8.ofNat (n / 2 ^ (8 * j) % 256)).toNat : Int) := by
  rw [← byte_toNat]
  simp

theorem push_leB (j n : Nat) : u8s (leB j n) ++ [.int .u8 ((n : Int) / 2 ^ (8 * j) % 256)] = u8s (leB (j + 1) n) := by
  rw [leB_snoc, u8s_append, byte_of]
  rfl
set_option maxHeartbeats 400000 in
theorem Fixed_c (n : Nat) (size : Int) (w : World) (hn : n < 18446744073709551616) (h1 : -9223372036854775808 ≤ size) (h2 : size ≤ 9223372036854775807) : Calls Try.prog 20 #[.int .u64 n, .int .i64 size] w fun e w' => e = .returned (.string ⟨(leB (min size.toNat 8) n).toArray⟩) ∧ Below w.heap.size w w' := by
  obtain ⟨i0, hi, hz0, hz1, hz2⟩ := info_parts Try.infoU8
  obtain ⟨k, hk, hk8⟩ : ∃ k : Nat, imax 0 (imin size 8) = (k : Int) ∧ k ≤ 8 := ⟨(imax (0:Int) (imin size 8)).toNat, by unfold imax imin; split <;> split <;> omega, by unfold imax imin; split <;> split <;> omega⟩
  have hk' : min size.toNat 8 = k := by unfold imax imin at hk; split at hk <;> split at hk <;> omega
  rw [hk']
  clear hk'
  have HK := hid hk
  clear hk
  go_enter Try.func20, Try.ntmps20
  go_wp2_with (at_make; refine wpList_make_own _ rfl _ _ 53 rfl w.heap.size 5 i0 (.int .u8 0) 1 Try.underlying53 hi hz0 hz1 _ _ _ 8 rfl rfl rfl (by rw [hz2]; omega) (by unfold maxLen; omega) (Nat.le_refl _) ?_)
  intro w1 hown hgr
  have hb := (Below.refl w.heap.size w).grown hgr (Nat.le_refl _) (by simp)
  clear hgr
  go_wp2_with fail
  rw [HK.out]
  go_loopw [5, 11] (fun v i wr => ∃ (j : Nat), j ≤ k ∧ i = .int .i64 j ∧ wr.ownsRow w.heap.size 5 1 v j (u8s (leB j n)) ∧ Below w.heap.size w wr) (fun _ i _ => 8 - (intOf i).toNat)
  case atStart => exact ⟨0, by omega, rfl, by simpa [leB, u8s] using hown, hb⟩
  case round =>
    obtain ⟨j, hj, rfl, hown1, hb1⟩ := hrel
    clear hown hb
    have hsz := hb1.size
    by_cases hlt : j < k
    · go_wp2_with (at_builtin; refine wpList_push rfl _ _ 53 rfl 5 (.int .u8 0) 1 1 Try.underlying53 Try.infoU8 rfl (by omega) w.heap.size _ j _ rfl hown1 [_] rfl rfl (by simp [Value.oneCell']) (by unfold maxLen; omega) (by omega) hsz ?_)
      intro v' w' ho hgr hs'
      rw [push_leB] at ho
      have hb2 := Row.below hb1 hgr hsz (fun k hk => (hown1.lt k hk).1)
      clear hown1 hb1 hgr
      go_wp2_with fail
      go_roundw
      case rel => exact ⟨j + 1, by omega, by go_num, ho, hb2⟩
      case measure => simp [intOf]; omega
    · obtain rfl : j = k := by omega
      have hc := own_string (P := Try.prog) Try.underlying53 Try.underlying5 hown1 9 Try.underlying9
      go_wp2_with fail
      go_ret
      exact ⟨rfl, hb1⟩
theorem leB_join (j n m : Nat) (hm : m = n / 2 ^ (8 * j)) : (ByteArray.mk (leB j n).toArray ++ ByteArray.mk #[UInt8.ofNat (m % 256)]) = ByteArray.mk (leB (j + 1) n).toArray := by
  rw [show #[UInt8.ofNat (m % 256)] = [UInt8.ofNat (m % 256)].toArray from rfl, ByteArray.mk_append_mk, leB_snoc, ← hm]
set_option maxHeartbeats 400000 in
theorem RFixed_c (n : Nat) (size : Int) (w : World) (hn : n < 18446744073709551616) (h1 : -9223372036854775808 ≤ size) (h2 : size ≤ 9223372036854775807) : Calls Try.prog 24 #[.int .u64 n, .int .i64 size] w fun e w' => e = .returned (.string ⟨(leB (min size.toNat 8) n).toArray⟩) ∧ Below w.heap.size w w' := by
  have hc1 := conv_one (P := Try.prog) Try.underlying53 Try.underlying5 Try.underlying9
  generalize hK : min size.toNat 8 = K
  go_enter Try.func24, Try.ntmps24
  go_wp2_with fail
  go_loopw [0, 5, 6] (fun m v i wr => ∃ (j M : Nat), j ≤ K ∧ i = .int .i64 j ∧ m = .int .u64 (M : Int) ∧ v = .string ⟨(leB j n).toArray⟩ ∧ Below w.heap.size w wr ∧ Hid (M = n / 2 ^ (8 * j)) ∧ M < 18446744073709551616) (fun _ _ i _ => 8 - (intOf i).toNat)
  case atStart => exact ⟨0, n, by omega, rfl, rfl, rfl, Below.refl _ _, hid (by simp), hn⟩
  case round =>
    obtain ⟨j, M, hj, rfl, rfl, rfl, hb1, HM, hM⟩ := hrel
    have hsz := hb1.size
    by_cases hlt : j < K
    · have c1 : (j : Int) < size := by omega
      have c2 : (j : Int) < 8 := by omega
      have hlen : (leB j n).length ≤ 8 := by rw [leB_length]; omega
      clear hK
      go_wp2_with fail
      go_roundw
      case rel => exact ⟨j + 1, M / 256, by omega, by go_num, by go_num, by rw [leB_join j n M HM.out], hb1.alloc hsz _, hid (by rw [HM.out, leB_div]), by omega⟩
      case measure => simp [intOf]; omega
    · obtain rfl : j = K := by omega
      by_cases c1 : (j : Int) < size
      · have c2 : ¬ (j : Int) < 8 := by omega
        clear hK
        go_wp2_with fail
        go_ret
        exact ⟨rfl, hb1⟩
      · clear hK
        go_wp2_with fail
        go_ret
        exact ⟨rfl, hb1⟩
end Go.Proofs.Ytcfkcdfjianeiaa
