/- What the program's reader of numbers does. -/
import Derived.Test.YtdeegepmampanaaOpDecPlain
import Derived.Test.YtdeegepmampanaaUnvar
namespace Go.Proofs.Ytdeegepmampanaa
open Go.RowKit
set_option linter.unusedVariables false
set_option linter.unusedSimpArgs false
/-- The reader's state behind a number. -/
def nxS (s : ByteArray) : ByteArray := s.extract (unvarP s.data.toList).2 s.size
def nxB (s : ByteArray) (ok : Bool) : Bool := ok && (decide (0 < (unvarP s.data.toList).2) && decide ((unvarP s.data.toList).1 ≤ 1099511627776))
theorem nxS_nx (s : ByteArray) (ok : Bool) : nx (s.data.toList, ok) = ((nxS s).data.toList, nxB s ok) := by
  unfold nx nxS nxB
  congr 1
  obtain ⟨_, _, h, _⟩ := unvarP_bd s.data.toList
  have e : (s.extract (unvarP s.data.toList).2 s.size).data.toList = (s.data.toList.take s.size).drop (unvarP s.data.toList).2 := by
    rw [ByteArray.data_extract, Array.toList_extract, List.extract_eq_take_drop]
    rw [List.drop_take]
  rw [e, List.take_of_length_le (by simp)]
set_option maxRecDepth 100000 in
set_option maxHeartbeats 1000000 in
theorem next_c (s : ByteArray) (ok : Bool) (g : Nat) (w : World) (hs : s.size ≤ 140737488351232) (c0 : w.cell? ⟨g, 0, none⟩ = some (.string s)) (c1 : w.cell? ⟨g, 1, none⟩ = some (.bool ok))
    (f0 : w.frozen? ⟨g, 0, none⟩ = false) (f1 : w.frozen? ⟨g, 1, none⟩ = false) :
    Calls Try.prog 32 #[.pointer (some ⟨g, 0, none⟩)] w fun e w' => e = .returned (.int .i64 (RowKit.wrap64 ((unvarP s.data.toList).1 : Nat))) ∧ w' = (w.setCell ⟨g, 1, none⟩ (.bool (nxB s ok))).setCell ⟨g, 0, none⟩ (.string (nxS s)) := by
  have hU := hid (fun w => Unvar_c s w (by unfold maxLen; omega))
  obtain ⟨b1, b2, b3, _⟩ := unvarP_bd s.data.toList
  have hl : s.data.toList.length = s.size := by simp
  unfold nxB nxS
  generalize (unvarP s.data.toList).1 = n at *
  generalize (unvarP s.data.toList).2 = k at *
  cases ok
  · go_enter Try.func32, Try.ntmps32
    go_wp2_with fail
    refine (hU.out _).mono ?_
    rintro e w1 ⟨rfl, rfl⟩
    have hk : k ≤ s.size := by omega
    go_wp2_with fail
    go_ret
    exact ⟨rfl, by simp⟩
  · have hk : k ≤ s.size := by omega
    by_cases hk0 : 0 < k
    · by_cases hn : n ≤ 1099511627776
      · go_enter Try.func32, Try.ntmps32
        go_wp2_with fail
        refine (hU.out _).mono ?_
        rintro e w1 ⟨rfl, rfl⟩
        go_wp2_with fail
        go_ret
        have hn' : ((n : Nat) : Int) ≤ 1099511627776 := by omega
        have hz : RowKit.wrap64 ((n : Nat) : Int) = n := by simp only [RowKit.wrap64]; omega
        exact ⟨by rw [hz]; rfl, by simp [hk0, hn, hn']⟩
      · have hn2 : 1099511627776 < n := by omega
        go_enter Try.func32, Try.ntmps32
        go_wp2_with fail
        refine (hU.out _).mono ?_
        rintro e w1 ⟨rfl, rfl⟩
        go_wp2_with fail
        go_ret
        have hn' : ¬ ((n : Nat) : Int) ≤ 1099511627776 := by omega
        exact ⟨rfl, by simp [hk0, hn, hn']⟩
    · obtain rfl : k = 0 := by omega
      go_enter Try.func32, Try.ntmps32
      go_wp2_with fail
      refine (hU.out _).mono ?_
      rintro e w1 ⟨rfl, rfl⟩
      go_wp2_with fail
      go_ret
      exact ⟨rfl, by simp⟩
end Go.Proofs.Ytdeegepmampanaa
