/- Which texts begin with a text: just those from it on, below what is past it. -/
import Derived.Test.YtnohdicnofffdaaKeyAwake
namespace Go.Proofs.Ytnohdicnofffdaa
open Go.RowKit
set_option linter.unusedVariables false
set_option linter.unusedSimpArgs false

theorem front_size (s f : ByteArray) (hs : s.size ≤ 140737488351232) (hf : f.size ≤ 140737488351232) : (f ++ s).size ≤ 281474976702464 := by
  rw [ByteArray.size_append']
  omega
theorem front_under (s f : ByteArray) : underB (f ++ s).data.toList f.data.toList = true := by
  have e : (f ++ s).data.toList = f.data.toList ++ s.data.toList := by simp [ByteArray.data_append]
  rw [e, underB, List.take_left, List.length_append]
  simp
set_option maxRecDepth 100000 in
set_option maxHeartbeats 1000000 in
theorem Fronts_walk (s f : ByteArray) (w : World) (hs : s.size ≤ 140737488351232) (hf : f.size ≤ 140737488351232) :
    Calls Try.prog 5 #[.string s, .string f] w fun e w' => e = .returned (.bool true) ∧ Below w.heap.size w w' := by
  have c1 := hid (fun w => Past_c f w hf)
  have c2 := hid (fun w => RPast_c f w hf)
  have c3 := hid (fun w => Under_c s f w (by omega) hf)
  have c4 := hid (fun w => Under_c (f ++ s) f w (front_size s f hs hf) hf)
  rw [front_under] at c4
  have law : (!Op.bytesLess s.toList f.toList && (pastL f.data.toList == [] || Op.bytesLess s.toList (pastL f.data.toList))) = underB s.data.toList f.data.toList := by
    rw [ByteArray.toList_eq, ByteArray.toList_eq]
    exact front_law _ _
  generalize pastL f.data.toList = P at *
  generalize underB s.data.toList f.data.toList = U at *
  have hE : (P == []) = P.isEmpty := by cases P <;> rfl
  rw [hE] at law
  have hc : (Op.bytesLess s.toList f.toList = true ∧ U = false) ∨ (Op.bytesLess s.toList f.toList = false ∧ P.isEmpty = true ∧ U = true) ∨ (Op.bytesLess s.toList f.toList = false ∧ P.isEmpty = false ∧ Op.bytesLess s.toList P = U) := by
    generalize Op.bytesLess s.toList f.toList = X at *
    generalize P.isEmpty = Y at *
    generalize Op.bytesLess s.toList P = Z at *
    cases X <;> cases Y <;> cases Z <;> cases U <;> simp at law ⊢
  clear law hE
  rcases hc with ⟨h1, rfl⟩ | ⟨h1, h2, rfl⟩ | ⟨h1, h2, rfl⟩
  all_goals
    go_enter Try.func5, Try.ntmps5
    go_wp2_with fail
    refine (c1.out _).mono ?_
    rintro e w1 ⟨rfl, b1⟩
    go_wp2_with fail
    refine (c2.out _).mono ?_
    rintro e w2 ⟨rfl, b2⟩
    go_wp2_with fail
    refine (c3.out _).mono ?_
    rintro e w3 ⟨rfl, rfl⟩
    go_wp2_with fail
    refine (c4.out _).mono ?_
    rintro e w4 ⟨rfl, rfl⟩
    go_wp2_with fail
    refine (awake_c _).mono ?_
    rintro e w5 ⟨rfl, b5⟩
    go_wp2_with fail
    go_ret
    exact ⟨rfl, Grow.trans b1 (Grow.trans b2 b5)⟩
namespace LawKeyFronts
open Go.ChangeShapes Go.WideShapes Go.ChangeAt Go.RowKit
open Go.ChangeMaps (open_string shut_string)
theorem own : ownKnob Try.prog.godebug = none := by kernel_rfl
theorem laidOut : laidOutB Try.prog = true := by kernel_rfl
set_option maxRecDepth 100000 in
theorem lifted (os : Os) (started : os.Started) (H : Type) (enc : TypeId × Value → H) :
    ReturnsInHanded {} Try.checked os 5 .any (Rows.keyFrontsSpec.pre6 enc Try.prog Try.f5 Rows.keyFrontsRow.domain false) (Rows.keyFrontsSpec.post enc Try.prog Try.f5 false true false false) := by
  refine returnsInHanded_of_change_sized (C := Try.checked) own started (by kernel_rfl) Try.func5
    (ChangeSpec.witness6 (enc := enc) (C := Try.checked) false ⟨#[], #[.string ByteArray.empty, .string ByteArray.empty], []⟩ 8 (by kernel_rfl) (by kernel_rfl) (by kernel_rfl) (by kernel_rfl)) ?_
  intro W base args ds gs before hval0 hW hcnd hsz _
  have hval : ∀ (j : Nat) t v, Try.f5.params[j]? = some t → args[j]? = some v → Value.okWide Try.prog W .any base t v := hval0
  have hW' := hW
  obtain ⟨p, q, hA0, hV, rfl, hfz, hnd⟩ := hW
  have hA : DataW.TrodAll enc Try.prog W 0 (fun _ => true) true Try.f5.params.toList args.toList ds p := hA0
  rw [Try.params5] at hA hval hsz
  obtain ⟨v0, vs0, d0, ds0, p0, q0, hargs, rfl, rfl, h0, r0⟩ := trodAll_cons hA
  obtain ⟨v1, vs1, d1, ds1, p1, q1, rfl, rfl, rfl, h1, r1⟩ := trodAll_cons r0
  obtain ⟨rfl, rfl, rfl⟩ := trodAll_nil r1
  obtain rfl : args = #[v0, v1] := by cases args; simp_all
  obtain ⟨rfl, rfl⟩ := trodVars_none hV
  obtain ⟨a0, rfl, rfl, rfl, w0⟩ := open_string Try.underlying9 (hval 0 9 v0 rfl rfl) h0
  have z0 : a0.size ≤ 140737488351232 := by
    have h := sized_string hsz (j := 0) (t := 9) (bytes := a0.data.toList) rfl rfl
    simpa [reachBytes] using h
  obtain ⟨a1, rfl, rfl, rfl, w1⟩ := open_string Try.underlying9 (hval 1 9 v1 rfl rfl) h1
  have z1 : a1.size ≤ 140737488351232 := by
    have h := sized_string hsz (j := 1) (t := 9) (bytes := a1.data.toList) rfl rfl
    simpa [reachBytes] using h
  clear hA0 hval0
  refine (Fronts_walk a0 a1 W z0 z1).mono fun e W' ⟨he, bel⟩ => ?_
  subst he
  exact ⟨_, rfl, _, _, _, [], _, [], hW', trodAll_mk1 (shut_bool Try.underlying4 _), (trodAll_cons_mk (shut_string Try.underlying9 w0) (trodAll_cons_mk (shut_string Try.underlying9 w1) trodAll_mk0)), rfl, bel.frame _, fun h => by cases h⟩
theorem over : Rows.keyFrontsRow.holds Try.pinned (OpenSpec.ofChange Rows.keyFrontsSpec) :=
  OpenClaim.holds_of_wide 5 Try.f5 rfl rfl rfl rfl rfl rfl rfl ⟨rfl, rfl, rfl, rfl, rfl⟩ rfl rfl rfl rfl rfl (by kernel_rfl) Try.func5 (by kernel_rfl)
    (of_decide_eq_true (by kernel_rfl)) (by unfold Func.isWrapper; first | (rw [if_pos (by decide +kernel)]; kernel_rfl) | (rw [if_neg (by decide +kernel)]; exact ⟨rfl, rfl⟩))
    (fun os started H enc _ => lifted os started H enc)
end LawKeyFronts
/-- The given statement. -/
theorem keyFronts_proved : Rows.KeyFrontsSaid := LawKeyFronts.over
#print axioms keyFronts_proved
end Go.Proofs.Ytnohdicnofffdaa
