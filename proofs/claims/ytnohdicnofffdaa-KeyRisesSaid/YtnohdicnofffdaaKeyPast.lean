/- What key.Past, key.Under and the reference's Past compute. -/
import Derived.Test.YtnohdicnofffdaaInts
import Derived.Test.YtnohdicnofffdaaKeyPlain
namespace Go.Proofs.Ytnohdicnofffdaa
open Go.RowKit
set_option linter.unusedVariables false
set_option linter.unusedSimpArgs false

theorem past_take (s : ByteArray) (m : Nat) (h : m < s.size) : s.data.toList.take (m + 1) = s.data.toList.take m ++ [s[m]] := by
  have hl : m < s.data.toList.length := by simpa using h
  rw [take_snoc _ m hl]
  rfl
theorem past_small (s : ByteArray) (m : Nat) (h : m < s.size) (hb : (s[m]).toNat < 255) : pastL (s.data.toList.take (m + 1)) = s.data.toList.take m ++ [UInt8.ofNat ((s[m]).toNat + 1)] := by
  rw [past_take s m h, pastL_small _ _ hb]
theorem past_255 (s : ByteArray) (m : Nat) (h : m < s.size) (hb : ¬ (s[m]).toNat < 255) : pastL (s.data.toList.take (m + 1)) = pastL (s.data.toList.take m) := by
  rw [past_take s m h, pastL_255 _ _ hb]
theorem past_join (s : ByteArray) (m : Nat) (b : UInt8) : s.extract 0 m ++ ByteArray.mk [b].toArray = ByteArray.mk (s.data.toList.take m ++ [b]).toArray := by
  apply ByteArray.ext
  apply Array.toList_inj.1
  simp [ByteArray.data_append, ByteArray.data_extract]
theorem past_byte (n : Nat) (h : n < 255) : (n : Int) + 1 = ((UInt8.ofNat (n + 1)).toNat : Int) := by
  simp
  omega
set_option maxRecDepth 100000 in
set_option maxHeartbeats 1000000 in
theorem Past_c (s : ByteArray) (w : World) (hs : s.size ≤ 140737488351232) : Calls Try.prog 13 #[.string s] w fun e w' => e = .returned (.string ⟨(pastL s.data.toList).toArray⟩) ∧ Grow w w' := by
  generalize hP : pastL s.data.toList = P
  have ht : s.data.toList.take s.size = s.data.toList := List.take_of_length_le (by simp)
  have HP := hid hP
  have HT := hid ht
  clear hP ht
  go_enter Try.func13, Try.ntmps13
  go_wp2_with fail
  go_loop [3] (fun i => ∃ (k : Nat), k ≤ s.size ∧ i = .int .i64 ((k : Int) - 1) ∧ Hid (P = pastL (s.data.toList.take k))) (fun i => (intOf i + 1).toNat)
  case atStart => exact ⟨s.size, by omega, rfl, hid (by rw [HT.out, HP.out])⟩
  case round =>
    obtain ⟨k, hk, rfl, HK⟩ := hrel
    by_cases hlt : 0 < k
    · obtain ⟨m, rfl⟩ : ∃ m, k = m + 1 := ⟨k - 1, by omega⟩
      rw [show (((m + 1 : Nat) : Int) - 1) = (m : Int) by omega]
      have hm : m < s.size := by omega
      have hb8 := (s[m]).toNat_lt
      by_cases hb : (s[m]).toNat < 255
      · have HX := hid (HK.out.trans (past_small s m hm hb))
        have hw1 := hid (show IntKind.u8.wrap (((s[m]).toNat : Int) + 1) = ((UInt8.ofNat ((s[m]).toNat + 1)).toNat : Int) by rw [IntKind.wrap_u8', ← past_byte _ hb]; omega)
        go_wp2_with fail
        generalize hB : UInt8.ofNat ((s[m]).toNat + 1) = B at HX hw1
        clear hB
        refine wp_rely [.eq (.string s), .eq (.int .i64 (m : Int)), .eq (.string (s.extract 0 m)), .eq (.string s), .eq (.int .i64 (m : Int)), .eq (.int .u8 ((s[m]).toNat : Int)), .eq (.int .u8 (B.toNat : Int)), .row #[.int .u8 (B.toNat : Int)] 5 1, .eq (.string ⟨[B].toArray⟩), .eq (.string ⟨P.toArray⟩), .eq (.string ⟨P.toArray⟩)] (by kernel_rfl) (by kernel_rfl) (by kernel_rfl) ?_ ?_
        · simp only [relyGoals]
          refine ⟨?_, ?_, ?_, ?_, ?_, ?_, ?_, ?_, ?_, ?_, ?_, trivial⟩
          all_goals intro t w' hsz hg hdd hfr
          all_goals simp only [depsDid, Did, perAt, List.getElem?_cons_zero, List.getElem?_cons_succ, List.getD_cons_zero, List.getD_cons_succ, Per.eq, Per.row, Per.of, and_true, Array.getD_eq_getD_getElem?] at hdd
          · rw [if_pos (by rfl)]
            try simp only [perAt, List.getD_cons_zero, List.getD_cons_succ, Per.eq, Per.row, Per.of]
            have hs0 := hfr 0 rfl
            simp only [Array.getD_eq_getD_getElem?] at hs0
            simp [execOp, Act.eval, hdd, hs0, relyUpon, go_sem, Grow.refl]
          · rw [if_pos (by rfl)]
            try simp only [perAt, List.getD_cons_zero, List.getD_cons_succ, Per.eq, Per.row, Per.of]
            have hs3 := hfr 3 rfl
            simp only [Array.getD_eq_getD_getElem?] at hs3
            simp [execOp, Act.eval, hdd, hs3, relyUpon, go_sem, Grow.refl]
          · rw [if_pos (by rfl)]
            try simp only [perAt, List.getD_cons_zero, List.getD_cons_succ, Per.eq, Per.row, Per.of]
            have hle : m ≤ s.size := by omega
            simp [execOp, Act.eval, hdd, relyUpon, go_sem, Grow.refl, hle]
          · rw [if_pos (by rfl)]
            try simp only [perAt, List.getD_cons_zero, List.getD_cons_succ, Per.eq, Per.row, Per.of]
            have hs0 := hfr 0 rfl
            simp only [Array.getD_eq_getD_getElem?] at hs0
            simp [execOp, Act.eval, hdd, hs0, relyUpon, go_sem, Grow.refl]
          · rw [if_pos (by rfl)]
            try simp only [perAt, List.getD_cons_zero, List.getD_cons_succ, Per.eq, Per.row, Per.of]
            have hs3 := hfr 3 rfl
            simp only [Array.getD_eq_getD_getElem?] at hs3
            simp [execOp, Act.eval, hdd, hs3, relyUpon, go_sem, Grow.refl]
          · rw [if_pos (by rfl)]
            try simp only [perAt, List.getD_cons_zero, List.getD_cons_succ, Per.eq, Per.row, Per.of]
            simp [execOp, Act.eval, hdd, relyUpon, go_sem, Grow.refl, hm]
          · rw [if_pos (by rfl)]
            try simp only [perAt, List.getD_cons_zero, List.getD_cons_succ, Per.eq, Per.row, Per.of]
            simp [execOp, Act.eval, hdd, relyUpon, go_sem, Grow.refl, hw1.out]
          · rw [if_pos (by rfl)]
            try simp only [perAt, List.getD_cons_zero, List.getD_cons_succ, Per.eq, Per.row, Per.of]
            simp [execOp, Act.eval, hdd, relyUpon, go_sem]
            exact ⟨Grow.alloc _ _, heap_newG _ _ _⟩
          · rw [if_pos (by rfl)]
            try simp only [perAt, List.getD_cons_zero, List.getD_cons_succ, Per.eq, Per.row, Per.of]
            obtain ⟨g, hv, hh⟩ := hdd
            have hc := conv_row1 (P := Try.prog) Try.underlying40 Try.underlying5 Try.underlying9 w' g B hh
            simp [execOp, Act.eval, hv, relyUpon, hc, Grow.refl]
          · rw [if_pos (by rfl)]
            try simp only [perAt, List.getD_cons_zero, List.getD_cons_succ, Per.eq, Per.row, Per.of]
            have hle : ¬ 9223372036854775807 < min m s.size + 1 := by omega
            have hj := past_join s m B
            rw [← HX.out] at hj
            simp [execOp, Act.eval, hdd, relyUpon, go_sem, Grow.refl, hle]
            exact hj
          · rw [if_pos (by rfl)]
            try simp only [perAt, List.getD_cons_zero, List.getD_cons_succ, Per.eq, Per.row, Per.of]
            simp [execOp, Act.eval, hdd, relyUpon, go_sem, Grow.refl]
        intro wz hgz
        simp only [relyEnd, List.headD_cons, List.tail_cons, Per.eq, Per.row, Per.of]
        rintro _ rfl _ rfl _ rfl _ rfl _ rfl _ rfl _ rfl _ ⟨gz, rfl, hhz⟩ _ rfl _ rfl _ rfl
        clear hhz
        go_simp
        clear HX hw1
        go_wp2_with fail
        go_ret
        exact ⟨rfl, hgz⟩
      · have HX := hid (HK.out.trans (past_255 s m hm hb))
        have hb' : 255 ≤ (s[m]).toNat := by omega
        go_wp2_with fail
        go_round
        case rel => exact ⟨m, by omega, rfl, HX⟩
        case measure => simp [intOf]
    · obtain rfl : k = 0 := by omega
      have HX := hid (show P = [] by rw [HK.out]; rfl)
      go_wp2_with fail
      go_ret
      refine ⟨?_, Grow.refl _⟩
      rw [HX.out]
      rfl
set_option maxRecDepth 100000 in
set_option maxHeartbeats 1000000 in
theorem RPast_c (s : ByteArray) (w : World) (hs : s.size ≤ 140737488351232) : Calls Try.prog 14 #[.string s] w fun e w' => e = .returned (.string ⟨(pastL s.data.toList).toArray⟩) ∧ Grow w w' := by
  generalize hP : pastL s.data.toList = P
  have ht : s.data.toList.take s.size = s.data.toList := List.take_of_length_le (by simp)
  have HP := hid hP
  have HT := hid ht
  clear hP ht
  go_enter Try.func14, Try.ntmps14
  go_wp2_with fail
  go_loop [3] (fun i => ∃ (k : Nat), k ≤ s.size ∧ i = .int .i64 (k : Int) ∧ Hid (P = pastL (s.data.toList.take k))) (fun i => (intOf i).toNat)
  case atStart => exact ⟨s.size, by omega, rfl, hid (by rw [HT.out, HP.out])⟩
  case round =>
    obtain ⟨k, hk, rfl, HK⟩ := hrel
    by_cases hlt : 0 < k
    · obtain ⟨m, rfl⟩ : ∃ m, k = m + 1 := ⟨k - 1, by omega⟩
      have hm : m < s.size := by omega
      have hb8 := (s[m]).toNat_lt
      by_cases hb : (s[m]).toNat < 255
      · have HX := hid (HK.out.trans (past_small s m hm hb))
        have hw1 := hid (show IntKind.u8.wrap (((s[m]).toNat : Int) + 1) = ((UInt8.ofNat ((s[m]).toNat + 1)).toNat : Int) by rw [IntKind.wrap_u8', ← past_byte _ hb]; omega)
        have hbe : (((s[m]).toNat : Int) == 255) = false := by simp; omega
        have hne : (((m : Int) + 1) == 0) = false := by simp; omega
        have hsub := hid (show IntKind.i64.wrap ((m : Int) + 1 - 1) = (m : Int) by rw [IntKind.wrap_i64]; omega)
        go_wp2_with fail
        generalize hB : UInt8.ofNat ((s[m]).toNat + 1) = B at HX hw1
        clear hB
        refine wp_rely [.eq (.string s), .eq (.int .i64 ((m : Int) + 1)), .eq (.int .i64 (m : Int)), .eq (.string (s.extract 0 m)), .eq (.string s), .eq (.int .i64 ((m : Int) + 1)), .eq (.int .i64 (m : Int)), .eq (.int .u8 ((s[m]).toNat : Int)), .eq (.int .u8 (B.toNat : Int)), .row #[.int .u8 (B.toNat : Int)] 5 1, .eq (.string ⟨[B].toArray⟩), .eq (.string ⟨P.toArray⟩), .eq (.string ⟨P.toArray⟩)] (by kernel_rfl) (by kernel_rfl) (by kernel_rfl) ?_ ?_
        · simp only [relyGoals]
          refine ⟨?_, ?_, ?_, ?_, ?_, ?_, ?_, ?_, ?_, ?_, ?_, ?_, ?_, trivial⟩
          all_goals intro t w' hsz hg hdd hfr
          all_goals simp only [depsDid, Did, perAt, List.getElem?_cons_zero, List.getElem?_cons_succ, List.getD_cons_zero, List.getD_cons_succ, Per.eq, Per.row, Per.of, and_true, Array.getD_eq_getD_getElem?] at hdd
          · rw [if_pos (by rfl)]
            try simp only [perAt, List.getD_cons_zero, List.getD_cons_succ, Per.eq, Per.row, Per.of]
            have hs0 := hfr 0 rfl
            simp only [Array.getD_eq_getD_getElem?] at hs0
            simp [execOp, Act.eval, hdd, hs0, relyUpon, go_sem, Grow.refl]
          · rw [if_pos (by rfl)]
            try simp only [perAt, List.getD_cons_zero, List.getD_cons_succ, Per.eq, Per.row, Per.of]
            have hs3 := hfr 3 rfl
            simp only [Array.getD_eq_getD_getElem?] at hs3
            simp [execOp, Act.eval, hdd, hs3, relyUpon, go_sem, Grow.refl]
          · rw [if_pos (by rfl)]
            try simp only [perAt, List.getD_cons_zero, List.getD_cons_succ, Per.eq, Per.row, Per.of]
            have hi := IntWalk.i64_in (m : Int) (by omega)
            simp [execOp, Act.eval, hdd, relyUpon, go_sem, Grow.refl, hi]
          · rw [if_pos (by rfl)]
            try simp only [perAt, List.getD_cons_zero, List.getD_cons_succ, Per.eq, Per.row, Per.of]
            have hle : m ≤ s.size := by omega
            simp [execOp, Act.eval, hdd, relyUpon, go_sem, Grow.refl, hle]
          · rw [if_pos (by rfl)]
            try simp only [perAt, List.getD_cons_zero, List.getD_cons_succ, Per.eq, Per.row, Per.of]
            have hs0 := hfr 0 rfl
            simp only [Array.getD_eq_getD_getElem?] at hs0
            simp [execOp, Act.eval, hdd, hs0, relyUpon, go_sem, Grow.refl]
          · rw [if_pos (by rfl)]
            try simp only [perAt, List.getD_cons_zero, List.getD_cons_succ, Per.eq, Per.row, Per.of]
            have hs3 := hfr 3 rfl
            simp only [Array.getD_eq_getD_getElem?] at hs3
            simp [execOp, Act.eval, hdd, hs3, relyUpon, go_sem, Grow.refl]
          · rw [if_pos (by rfl)]
            try simp only [perAt, List.getD_cons_zero, List.getD_cons_succ, Per.eq, Per.row, Per.of]
            have hi := IntWalk.i64_in (m : Int) (by omega)
            simp [execOp, Act.eval, hdd, relyUpon, go_sem, Grow.refl, hi]
          · rw [if_pos (by rfl)]
            try simp only [perAt, List.getD_cons_zero, List.getD_cons_succ, Per.eq, Per.row, Per.of]
            simp [execOp, Act.eval, hdd, relyUpon, go_sem, Grow.refl, hm]
          · rw [if_pos (by rfl)]
            try simp only [perAt, List.getD_cons_zero, List.getD_cons_succ, Per.eq, Per.row, Per.of]
            simp [execOp, Act.eval, hdd, relyUpon, go_sem, Grow.refl, hw1.out]
          · rw [if_pos (by rfl)]
            try simp only [perAt, List.getD_cons_zero, List.getD_cons_succ, Per.eq, Per.row, Per.of]
            simp [execOp, Act.eval, hdd, relyUpon, go_sem]
            exact ⟨Grow.alloc _ _, heap_newG _ _ _⟩
          · rw [if_pos (by rfl)]
            try simp only [perAt, List.getD_cons_zero, List.getD_cons_succ, Per.eq, Per.row, Per.of]
            obtain ⟨g, hv, hh⟩ := hdd
            have hc := conv_row1 (P := Try.prog) Try.underlying40 Try.underlying5 Try.underlying9 w' g B hh
            simp [execOp, Act.eval, hv, relyUpon, hc, Grow.refl]
          · rw [if_pos (by rfl)]
            try simp only [perAt, List.getD_cons_zero, List.getD_cons_succ, Per.eq, Per.row, Per.of]
            have hle : ¬ 9223372036854775807 < min m s.size + 1 := by omega
            have hj := past_join s m B
            rw [← HX.out] at hj
            simp [execOp, Act.eval, hdd, relyUpon, go_sem, Grow.refl, hle]
            exact hj
          · rw [if_pos (by rfl)]
            try simp only [perAt, List.getD_cons_zero, List.getD_cons_succ, Per.eq, Per.row, Per.of]
            simp [execOp, Act.eval, hdd, relyUpon, go_sem, Grow.refl]
        intro wz hgz
        simp only [relyEnd, List.headD_cons, List.tail_cons, Per.eq, Per.row, Per.of]
        rintro _ rfl _ rfl _ rfl _ rfl _ rfl _ rfl _ rfl _ rfl _ rfl _ ⟨gz, rfl, hhz⟩ _ rfl _ rfl _ rfl
        clear hhz
        go_simp
        clear HX hw1
        go_wp2_with fail
        go_ret
        exact ⟨rfl, hgz⟩
      · have HX := hid (HK.out.trans (past_255 s m hm hb))
        have hbe : (((s[m]).toNat : Int) == 255) = true := by rw [beq_iff_eq]; omega
        clear hb
        go_wp2_with fail
        go_round
        case rel => exact ⟨m, by omega, by go_num, HX⟩
        case measure => simp [intOf]
    · obtain rfl : k = 0 := by omega
      have HX := hid (show P = [] by rw [HK.out]; rfl)
      go_wp2_with fail
      go_ret
      refine ⟨?_, Grow.refl _⟩
      rw [HX.out]
      rfl
theorem Under_c (s f : ByteArray) (w : World) (hs : s.size ≤ 281474976702464) (hf : f.size ≤ 140737488351232) : Calls Try.prog 15 #[.string s, .string f] w fun e w' => e = .returned (.bool (underB s.data.toList f.data.toList)) ∧ w = w' := by
  by_cases h : f.size ≤ s.size
  · have e : underB s.data.toList f.data.toList = ((s.extract 0 f.size).toList == f.toList) := by
      have d : decide (f.data.toList.length ≤ s.data.toList.length) = true := by simp [h]
      rw [ByteArray.toList_eq, ByteArray.toList_eq, underB, d, Bool.true_and]
      simp [ByteArray.data_extract]
    rw [e]
    clear e
    go_enter Try.func15, Try.ntmps15
    go_wp2_with fail
    go_ret
    exact ⟨rfl, rfl⟩
  · have e : underB s.data.toList f.data.toList = false := by
      have d : decide (f.data.toList.length ≤ s.data.toList.length) = false := by simp; omega
      rw [underB, d, Bool.false_and]
    rw [e]
    clear e
    go_enter Try.func15, Try.ntmps15
    go_wp2_with fail
    go_ret
    exact ⟨rfl, rfl⟩
end Go.Proofs.Ytnohdicnofffdaa
