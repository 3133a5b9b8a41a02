/- The chapter's example. -/
import Derived.Test.YthmbnffddpnehaaIGaps
import Derived.Test.YthmbnffddpnehaaISame
import Derived.Test.YthmbnffddpnehaaICalls
namespace Go.Proofs.Ythmbnffddpnehaa
open Go.RowKit
set_option linter.unusedVariables false
set_option linter.unusedSimpArgs false
def aw1 : List It := [⟨1, 1, 4, ⟨#[]⟩⟩]
def aw2 : List It := [⟨1, 1, 4, ⟨#[]⟩⟩, ⟨2, 3, 6, ⟨#[]⟩⟩]
def aw3 : List It := [⟨1, 1, 4, ⟨#[]⟩⟩, ⟨2, 3, 6, ⟨#[]⟩⟩, ⟨3, 9, 9, ⟨#[]⟩⟩]
theorem aw1_eq : addL ⟨0 + 1, 1, 4, ⟨#[]⟩⟩ [] = aw1 := by simp [addL, aw1]
theorem aw2_eq : addL ⟨1 + 1, 3, 6, ⟨#[]⟩⟩ aw1 = aw2 := by simp [addL, aw1, aw2]
theorem aw3_eq : addL ⟨2 + 1, 9, 9, ⟨#[]⟩⟩ aw2 = aw3 := by simp [addL, aw2, aw3]
theorem aw_met : (metL aw3 4 8).take (9 : Int).toNat = aw2 := by
  simp [metL, aw3, aw2, Tr.meets, List.filter_cons]
theorem metT_eq {T : Tr} {f t : Int} (hr : Rises T.items) : metT T f t = metL T.items f t := by
  unfold metT metL
  rw [Tr.walkT_eq f t T hr]
def awS : List (Int × Int) := [(0, 0), (7, 8), (10, 10)]
theorem aw_gaps {T : Tr} (h : T.items = aw3) (hr : Rises T.items) : gapsL T 0 10 9 = awS := by
  unfold gapsL
  rw [metT_eq hr, h]
  simp [metL, aw3, awS, Tr.meets, List.filter_cons, gapsW, imax, wrap64, IntKind.wrap]
  try decide
theorem addE {w : World} {B p : Nat} {L : List It} {nx : Int} {N : Nat} {T : Tr} {mb : Nat} (f t : Int) (h : IxAt w B p L nx N T mb) (hft : ¬ t < f) (hL : L.length ≤ 500000) (hn : N ≤ 500000) (h0 : 0 ≤ nx) (h1 : nx ≤ 500000) (hf : -9223372036854775808 ≤ f) (ht : t ≤ 9223372036854775807) :
    Calls Try.prog 30 #[.pointer (some ⟨p, 0, none⟩), .int .i64 f, .int .i64 t, .string ⟨#[]⟩] w fun e w' => e = .returned (.tuple #[.int .i64 (nx + 1), .int .i64 0]) ∧ (∃ T' mb', IxAt w' B p (addL ⟨nx + 1, f, t, ⟨#[]⟩⟩ L) (nx + 1) (N + 1) T' mb') ∧ Turn B w w' :=
  (AddGood_c f t ⟨#[]⟩ h hft hL hn h0 h1 hf ht).mono fun e w' h => by unfold AddPost at h; rw [if_neg hft] at h; exact h
set_option maxRecDepth 100000 in
set_option maxHeartbeats 4000000 in
theorem awake_c (w : World) : Calls Try.prog 10 #[] w fun e w' => e = .returned (.bool true) ∧ Grow w w' := by
  go_enter Try.func10, Try.ntmps10
  go_wp2_with fail
  refine (New_c w w.heap.size (Nat.le_refl _)).mono ?_
  rintro e w1 ⟨p, mb, rfl, hix, g1⟩
  have T1 := hid (Turn.of_grow g1 (Nat.le_refl _))
  have X1 := hid hix
  clear hix g1
  go_wp2_with fail
  refine (addE 1 4 X1.out (by omega) (by simp) (by omega) (by omega) (by omega) (by omega) (by omega)).mono ?_
  rintro e w2 ⟨rfl, ⟨Ta, ma, hix⟩, t2⟩
  rw [aw1_eq] at hix
  rw [show (0 : Int) + 1 = 1 from rfl] at hix ⊢
  have X2 := hid hix
  have T2 := hid (T1.out.trans t2)
  clear hix t2 X1 T1
  go_wp2_with fail
  refine (addE 3 6 X2.out (by omega) (by simp [aw1]) (by omega) (by omega) (by omega) (by omega) (by omega)).mono ?_
  rintro e w3 ⟨rfl, ⟨Tb, mb1, hix⟩, t3⟩
  rw [aw2_eq] at hix
  rw [show (1 : Int) + 1 = 2 from rfl] at hix ⊢
  have X3 := hid hix
  have T3 := hid (T2.out.trans t3)
  clear hix t3 X2 T2
  go_wp2_with fail
  refine (addE 9 9 X3.out (by omega) (by simp [aw2]) (by omega) (by omega) (by omega) (by omega) (by omega)).mono ?_
  rintro e w4 ⟨rfl, ⟨Tc, mb2, hix⟩, t4⟩
  rw [aw3_eq] at hix
  rw [show (2 : Int) + 1 = 3 from rfl] at hix ⊢
  have X4 := hid hix
  have T4 := hid (T3.out.trans t4)
  have hri : Rises Tc.items := by rw [hix.items]; exact hix.rises
  have HRI := hid hri
  have HMET := hid (met_c _ Tc 4 8 9 w4 hix.ptr hri (by omega) (by omega))
  rw [hix.items, aw_met] at HMET
  have HI := hid hix.items
  clear hix t4 X3 T3 hri
  go_wp2_with fail
  refine HMET.out.mono ?_
  rintro e w5 ⟨lv, rfl, ho, g5⟩
  obtain ⟨A, c, rfl⟩ := own_form ho
  have hri := RIts.of_own ho (by simp [aw2])
  obtain ⟨A', c', e9, -, -, hc⟩ := hri
  cases e9
  obtain ⟨g, rfl, hat⟩ := hc (by simp [aw2])
  obtain ⟨a0, -, -, -⟩ := hat 1 (by simp [aw2])
  have hgl := World.block_lt_of_cell? w5 _ a0
  simp only at hgl
  rw [show (aw2.length) = 2 from rfl] at *
  have a1 : w5.cell? ⟨g, 1 * 4, none⟩ = some (.int .i64 2) := a0
  have G5 := hid (g5)
  have HGAP := hid (gaps_c _ Tc 0 10 9 w5 (X4.out.grow g5).ptr (by omega) (by omega) (by rw [metT_eq HRI.out, HI.out]; unfold metL; split; exact Nat.le_trans (List.length_filter_le _ _) (by simp [aw3]); simp))
  rw [aw_gaps HI.out HRI.out] at HGAP
  clear ho hat hc g5 a0
  go_wp2_with fail
  refine HGAP.out.mono ?_
  rintro e w6 ⟨lv, rfl, ho6, g6⟩
  have hsp := RSpans.of_own ho6 (by simp [awS])
  obtain ⟨A6, c6, rfl⟩ := own_form ho6
  have H6 := hid (hsp.grow (Grow.alloc w6 (.cells #[.int .i64 0, .int .i64 0, .int .i64 7, .int .i64 8, .int .i64 10, .int .i64 10] 36)))
  have H7 := hid (show RSpans (w6.alloc (.cells #[.int .i64 0, .int .i64 0, .int .i64 7, .int .i64 8, .int .i64 10, .int .i64 10] 36)) (.slice (some ⟨w6.heap.size, 0, none⟩) 3 3) awS from
    RSpans.of_own (base := w6.heap.size) (e := 36) ⟨by simp [awS, sCells], .inr ⟨w6.heap.size, 3, #[.int .i64 0, .int .i64 0, .int .i64 7, .int .i64 8, .int .i64 10, .int .i64 10], rfl, Nat.le_refl _, heap_alloc_new w6 _, Nat.le_refl _, by unfold maxLen; omega, by simp, by simp [awS, sCells]⟩⟩ (by simp [awS]))
  have G6 := hid (Grow.trans G5.out (Grow.trans g6 (Grow.alloc w6 (.cells #[.int .i64 0, .int .i64 0, .int .i64 7, .int .i64 8, .int .i64 10, .int .i64 10] 36))))
  clear hsp ho6 g6
  rw [show awS.length = 3 from rfl] at *
  go_wp2_with fail
  refine (spans_c awS _ _ _ H6.out H7.out).mono ?_
  rintro e w7 ⟨rfl, g7⟩
  go_wp2_with fail
  go_ret
  exact ⟨rfl, Below.trans T4.out.below (Below.mono (Grow.trans G6.out g7) T4.out.below.size)⟩
end Go.Proofs.Ythmbnffddpnehaa
