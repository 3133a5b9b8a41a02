/- A head that is written is read, whatever stands behind it. -/
import Derived.Test.YtcfkcdfjianeiaaJAwake
import Derived.Test.YtcfkcdfjianeiaaJRRead
import Derived.Test.YtcfkcdfjianeiaaJLift
import Derived.Test.YtcfkcdfjianeiaaJEq
namespace Go.Proofs.Ytcfkcdfjianeiaa
open Go.RowKit
set_option linter.unusedVariables false
set_option linter.unusedSimpArgs false
set_option maxRecDepth 100000 in
set_option maxHeartbeats 1000000 in
theorem Keeps_walk (a b c d : Int) (s : ByteArray) (w : World) (a0 : 0 ≤ a) (a1 : a ≤ 18446744073709551615) (b0 : 0 ≤ b) (b1 : b ≤ 4294967295) (c0 : 0 ≤ c) (c1 : c ≤ 4294967295) (d0 : 0 ≤ d) (d1 : d ≤ 4294967295) (hs : s.size ≤ 140737488351232) :
    Calls Try.prog 5 #[.int .u64 a, .int .u32 b, .int .u32 c, .int .u32 d, .string s] w fun e w' => e = .returned (.bool true) ∧ Below w.heap.size w w' := by
  obtain ⟨n, rfl⟩ : ∃ n : Nat, a = n := ⟨a.toNat, by omega⟩
  obtain ⟨k1, k2⟩ := read_write ⟨n, b, c, d⟩ (by show n < _; omega) ⟨b0, by show b < _; omega⟩ ⟨c0, by show c < _; omega⟩ ⟨d0, by show d < _; omega⟩ s.data.toList
  have hW := fun w => WriteHead_c ⟨n, b, c, d⟩ w (by show n < _; omega)
  have hzs : (⟨(writeL ⟨n, b, c, d⟩).toArray⟩ : ByteArray).size = 40 := by rw [bytes_sizeJ, writeL_length]
  have hjs : ((⟨(writeL ⟨n, b, c, d⟩).toArray⟩ : ByteArray) ++ s).size = 40 + s.size := by rw [ByteArray.size_append', hzs]
  have hR := fun w => ReadHead_c ((⟨(writeL ⟨n, b, c, d⟩).toArray⟩ : ByteArray) ++ s) w (by rw [hjs]; omega)
  have ej : ((⟨(writeL ⟨n, b, c, d⟩).toArray⟩ : ByteArray) ++ s).data.toList = writeL ⟨n, b, c, d⟩ ++ s.data.toList := by simp [ByteArray.data_append]
  unfold ReadPost at hR
  rw [ej, k1, k2] at hR
  unfold headV at hR hW
  dsimp only at hR hW
  generalize (⟨(writeL ⟨n, b, c, d⟩).toArray⟩ : ByteArray) = Z at *
  have HW := hid hW
  have HR := hid hR
  have tn := fun a b c d w => head_same a b c d w
  have tg := fun x y xs ys w => head_guard x y xs ys w
  have hq : ¬ 9223372036854775807 < Z.size + s.size := by omega
  clear hW hR ej k1 k2 hjs
  go_enter Try.func5, Try.ntmps5
  go_wp2_with fail
  refine (HW.out _).mono ?_
  rintro e w1 ⟨rfl, g1⟩
  go_wp2_with fail
  refine (HR.out _).mono ?_
  rintro e w2 ⟨rfl, g2⟩
  have hh := Grow.heap (Grow.trans g1 g2) (heap_new w (.cells #[.int .u64 (n : Int), .int .i64 b, .int .i64 c, .int .i64 d] 36))
  have q0 : w2.cell? ⟨w.heap.size, 0, none⟩ = some (.int .u64 (n : Int)) := by rw [heap_cell hh]; rfl
  have q1 : w2.cell? ⟨w.heap.size, 1, none⟩ = some (.int .i64 b) := by rw [heap_cell hh]; rfl
  have q2 : w2.cell? ⟨w.heap.size, 2, none⟩ = some (.int .i64 c) := by rw [heap_cell hh]; rfl
  have q3 : w2.cell? ⟨w.heap.size, 3, none⟩ = some (.int .i64 d) := by rw [heap_cell hh]; rfl
  have hlt := heap_lt hh
  clear hh
  go_wp2_with fail
  refine (awake_c _).mono ?_
  rintro e w5 ⟨rfl, b5⟩
  go_wp2_with fail
  go_ret
  exact ⟨rfl, Grow.trans (Grow.alloc _ _) (Grow.trans g1 (Grow.trans g2 (Grow.trans (Grow.alloc _ _) b5)))⟩
namespace LawJournalKeeps
open Go.ChangeShapes Go.WideShapes Go.ChangeAt Go.RowKit
open Go.ChangeMaps (open_string shut_string)
theorem own : ownKnob Try.prog.godebug = none := by kernel_rfl
theorem laidOut : laidOutB Try.prog = true := by kernel_rfl
set_option maxRecDepth 100000 in
theorem lifted (os : Os) (started : os.Started) (H : Type) (enc : TypeId × Value → H) :
    ReturnsInHanded {} Try.checked os 5 .any (Rows.journalKeepsSpec.pre6 enc Try.prog Try.f5 Rows.journalKeepsRow.domain false) (Rows.journalKeepsSpec.post enc Try.prog Try.f5 false true false false) := by
  refine returnsInHanded_of_change_sized (C := Try.checked) own started (by kernel_rfl) Try.func5
    (ChangeSpec.witness6 (enc := enc) (C := Try.checked) false ⟨#[], #[.int .u64 0, .int .u32 0, .int .u32 0, .int .u32 0, .string ByteArray.empty], []⟩ 8 (by kernel_rfl) (by kernel_rfl) (by kernel_rfl) (by kernel_rfl)) ?_
  intro W base args ds gs before hval0 hW hcnd hsz _
  have hval : ∀ (j : Nat) t v, Try.f5.params[j]? = some t → args[j]? = some v → Value.okWide Try.prog W .any base t v := hval0
  have hW' := hW
  obtain ⟨p, q, hA0, hV, rfl, hfz, hnd⟩ := hW
  have hA : DataW.TrodAll enc Try.prog W 0 (fun _ => true) true Try.f5.params.toList args.toList ds p := hA0
  rw [Try.params5] at hA hval hsz
  obtain ⟨v0, vs0, d0, ds0, p0, q0, hargs, rfl, rfl, h0, r0⟩ := trodAll_cons hA
  obtain ⟨v1, vs1, d1, ds1, p1, q1, rfl, rfl, rfl, h1, r1⟩ := trodAll_cons r0
  obtain ⟨v2, vs2, d2, ds2, p2, q2, rfl, rfl, rfl, h2, r2⟩ := trodAll_cons r1
  obtain ⟨v3, vs3, d3, ds3, p3, q3, rfl, rfl, rfl, h3, r3⟩ := trodAll_cons r2
  obtain ⟨v4, vs4, d4, ds4, p4, q4, rfl, rfl, rfl, h4, r4⟩ := trodAll_cons r3
  obtain ⟨rfl, rfl, rfl⟩ := trodAll_nil r4
  obtain rfl : args = #[v0, v1, v2, v3, v4] := by cases args; simp_all
  obtain ⟨rfl, rfl⟩ := trodVars_none hV
  obtain ⟨a0, rfl, rfl, rfl, w0⟩ := open_int Try.underlying33 (hval 0 33 v0 rfl rfl) h0
  have b0 := wf_u64 w0
  obtain ⟨a1, rfl, rfl, rfl, w1⟩ := open_int Try.underlying45 (hval 1 45 v1 rfl rfl) h1
  have b1 := wf_u32 w1
  obtain ⟨a2, rfl, rfl, rfl, w2⟩ := open_int Try.underlying45 (hval 2 45 v2 rfl rfl) h2
  have b2 := wf_u32 w2
  obtain ⟨a3, rfl, rfl, rfl, w3⟩ := open_int Try.underlying45 (hval 3 45 v3 rfl rfl) h3
  have b3 := wf_u32 w3
  obtain ⟨a4, rfl, rfl, rfl, w4⟩ := open_string Try.underlying9 (hval 4 9 v4 rfl rfl) h4
  have z4 : a4.size ≤ 140737488351232 := by
    have h := sized_string hsz (j := 4) (t := 9) (bytes := a4.data.toList) rfl rfl
    simpa [reachBytes] using h
  clear hA0 hval0
  refine (Keeps_walk a0 a1 a2 a3 a4 W b0.1 b0.2 b1.1 b1.2 b2.1 b2.2 b3.1 b3.2 z4).mono fun e W' ⟨he, bel⟩ => ?_
  subst he
  exact ⟨_, rfl, _, _, _, [], _, [], hW', trodAll_mk1 (shut_bool Try.underlying4 _), (trodAll_cons_mk (shut_int Try.underlying33 w0) (trodAll_cons_mk (shut_int Try.underlying45 w1) (trodAll_cons_mk (shut_int Try.underlying45 w2) (trodAll_cons_mk (shut_int Try.underlying45 w3) (trodAll_cons_mk (shut_string Try.underlying9 w4) trodAll_mk0))))), rfl, bel.frame _, fun h => by cases h⟩
theorem over : Rows.journalKeepsRow.holds Try.pinned (OpenSpec.ofChange Rows.journalKeepsSpec) :=
  OpenClaim.holds_of_wide 5 Try.f5 rfl rfl rfl rfl rfl rfl rfl ⟨rfl, rfl, rfl, rfl, rfl⟩ rfl rfl rfl rfl rfl (by kernel_rfl) Try.func5 (by kernel_rfl)
    (of_decide_eq_true (by kernel_rfl)) (by unfold Func.isWrapper; first | (rw [if_pos (by decide +kernel)]; kernel_rfl) | (rw [if_neg (by decide +kernel)]; exact ⟨rfl, rfl⟩))
    (fun os started H enc _ => lifted os started H enc)
end LawJournalKeeps
/-- The given statement. -/
theorem journalKeeps_proved : Rows.JournalKeepsSaid := LawJournalKeeps.over
#print axioms journalKeeps_proved
end Go.Proofs.Ytcfkcdfjianeiaa
