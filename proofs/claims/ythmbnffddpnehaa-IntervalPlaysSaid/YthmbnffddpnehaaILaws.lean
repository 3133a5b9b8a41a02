/- Small calls that the laws of intervals share: none asked for; what was filled. -/
import Derived.Test.YthmbnffddpnehaaIGapPlain
import Derived.Test.YthmbnffddpnehaaIFilled
namespace Go.Proofs.Ythmbnffddpnehaa
open Go.RowKit
set_option linter.unusedVariables false
set_option linter.unusedSimpArgs false
set_option maxRecDepth 100000 in
theorem gaps0_c (q : Option Addr) (f t most : Int) (w : World) (h : most ≤ 0) :
    Calls Try.prog 13 #[.pointer q, .int .i64 f, .int .i64 t, .int .i64 most] w fun e w' => e = .returned (.slice none 0 0) ∧ Grow w w' := by
  go_enter Try.func13, Try.ntmps13
  go_wp2_with fail
  go_ret
  exact ⟨rfl, Grow.trans (Grow.alloc _ _) (Grow.alloc _ _)⟩
/-- The gaps, read: as many as are asked for, none too. -/
theorem gapsAny_c (q : Option Addr) (T : Tr) (f t most : Int) (w : World) (hq : Ptr w q T) (h1 : 0 ≤ most) (h2 : most ≤ 10000) (hN : (metT T f t).length ≤ 1000000) :
    Calls Try.prog 13 #[.pointer q, .int .i64 f, .int .i64 t, .int .i64 most] w fun e w' => ∃ lv, e = .returned lv ∧ RSpans w' lv (gapsL T f t most) ∧ Grow w w' := by
  have hl : (gapsL T f t most).length ≤ 1000000 := by
    unfold gapsL
    split
    · rw [List.length_take]; omega
    · simp
  by_cases h0 : most = 0
  · refine (gaps0_c q f t most w (by omega)).mono ?_
    rintro e w' ⟨rfl, g⟩
    have e : gapsL T f t most = [] := by unfold gapsL; rw [h0]; split <;> simp
    rw [e]
    exact ⟨_, rfl, RSpans.nil _, g⟩
  · refine (gaps_c q T f t most w hq (by omega) (by omega) hN).mono ?_
    rintro e w' ⟨lv, rfl, ho, g⟩
    exact ⟨_, rfl, RSpans.of_own ho hl, g⟩
set_option maxRecDepth 100000 in
theorem met0_c (q : Option Addr) (f t most : Int) (w : World) (h : most ≤ 0) :
    Calls Try.prog 16 #[.pointer q, .int .i64 f, .int .i64 t, .int .i64 most] w fun e w' => e = .returned (.slice none 0 0) ∧ Grow w w' := by
  go_enter Try.func16, Try.ntmps16
  go_wp2_with fail
  go_ret
  exact ⟨rfl, Grow.trans (Grow.alloc _ _) (Grow.alloc _ _)⟩
theorem metAny_c (q : Option Addr) (T : Tr) (f t most : Int) (w : World) (hq : Ptr w q T) (hr : Rises T.items) (h1 : 0 ≤ most) (h2 : most ≤ 10000) :
    Calls Try.prog 16 #[.pointer q, .int .i64 f, .int .i64 t, .int .i64 most] w fun e w' => ∃ lv, e = .returned lv ∧ RIts w' lv ((metL T.items f t).take most.toNat) ∧ Grow w w' := by
  by_cases h0 : most = 0
  · refine (met0_c q f t most w (by omega)).mono ?_
    rintro e w' ⟨rfl, g⟩
    rw [h0]
    exact ⟨_, rfl, RIts.nil _, g⟩
  · refine (met_c q T f t most w hq hr (by omega) (by omega)).mono ?_
    rintro e w' ⟨lv, rfl, ho, g⟩
    exact ⟨_, rfl, RIts.of_own ho (by rw [List.length_take]; omega), g⟩
theorem fillS_100 (l : List ActR) : ((fillS (l.take 100)).1.length : Int) = (fillS (l.take 100)).2 ∧ (fillS (l.take 100)).1.length ≤ 100 := by
  by_cases h : 100 ≤ l.length
  · exact fillS_len l 100 h
  · have := fillS_len l l.length (Nat.le_refl _)
    rw [List.take_length] at this
    rw [List.take_of_length_le (by omega)]
    omega
theorem metT_len {w : World} {B p : Nat} {L : List It} {nx : Int} {N : Nat} {T : Tr} {mb : Nat} (h : IxAt w B p L nx N T mb) (f t : Int) : (metT T f t).length ≤ L.length := by
  rw [metT_eq (by rw [h.items]; exact h.rises), h.items]
  unfold metL
  split
  · exact List.length_filter_le _ _
  · simp
end Go.Proofs.Ythmbnffddpnehaa
