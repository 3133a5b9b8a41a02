/- A state that is written is read as it was, whatever stands behind it. -/
import Derived.Test.YtookcollmijjkaaMAwake
namespace Go.Proofs.Ytookcollmijjkaa
open Go.RowKit
set_option linter.unusedVariables false
set_option linter.unusedSimpArgs false
set_option maxRecDepth 100000 in
set_option maxHeartbeats 1000000 in
theorem Back_walk (a : Option Addr) (n c : Nat) (zs : List Int) (s : ByteArray) (w : World) (l0 : IntRow .i64 8 w a n c zs) (hs : s.size ≤ 140737488351232) :
    Calls Try.prog 8 #[.slice a n c, .string s] w fun e w' => e = .returned (.bool true) ∧ Below w.heap.size w w' := by
  obtain ⟨hi, hr⟩ := Ints.of_row l0
  generalize zs.take n = xs at hi hr
  generalize Value.slice a n c = v at hi
  have hl := hi.length
  have c1 := hid (fun w' (h : Grow w w') => Text_c xs v w' (hi.grow h) hr)
  have hD : (ByteArray.mk (textL xs).toArray ++ s).data.toList = textL xs ++ s.data.toList := by simp [ByteArray.data_append]
  have hsz : (ByteArray.mk (textL xs).toArray).size = (textL xs).length := by rw [← ByteArray.size_data]; simp
  have hZ : (ByteArray.mk (textL xs).toArray ++ s).size = (textL xs).length + s.size := by rw [ByteArray.size_append', hsz]
  have ht : (textL xs).length ≤ 10 + 10 * xs.length := by
    have h1 := numsL_length xs
    have h2 := varL_length xs.length
    unfold textL
    rw [List.length_append]
    omega
  obtain ⟨e1, e2⟩ := state_text xs s.data.toList hr (by omega)
  have c2 := fun w' => State_c (ByteArray.mk (textL xs).toArray ++ s) w' (by rw [hZ]; omega) (by rw [hD, e1]; left; exact hl)
  rw [hD, e2] at c2
  have C2 := hid c2
  have c3 := hid (fun v2 w' (h : Grow w w') (h2 : Ints w' v2 xs) => RInts_c xs v2 v w' h2 (hi.grow h))
  have hcat : (ByteArray.mk (textL xs).toArray ++ s).size ≤ maxLen := by rw [hZ]; unfold maxLen; omega
  clear c2 e1 e2 hD hi hr l0 hZ
  generalize textL xs = T at *
  go_enter Try.func8, Try.ntmps8
  go_wp2_with fail
  refine (c1.out _ (Grow.refl _)).mono ?_
  rintro e w1 ⟨rfl, b1⟩
  go_wp2_with fail
  refine (C2.out _).mono ?_
  rintro e w2 ⟨v2, rfl, i2, b2⟩
  dsimp only at i2
  have g2 := hid (Grow.trans b1 b2)
  have i2 := hid i2
  go_wp2_with fail
  refine (c3.out _ _ g2.out i2.out).mono ?_
  rintro e w3 ⟨rfl, b3⟩
  go_wp2_with fail
  refine (awake_c _).mono ?_
  rintro e w4 ⟨rfl, b4⟩
  go_wp2_with fail
  go_ret
  exact ⟨rfl, Grow.trans b1 (Grow.trans b2 (Grow.trans b3 b4))⟩
namespace LawModelBack
open Go.ChangeShapes Go.WideShapes Go.ChangeAt Go.RowKit
open Go.ChangeMaps (open_string shut_string)
theorem own : ownKnob Try.prog.godebug = none := by kernel_rfl
theorem laidOut : laidOutB Try.prog = true := by kernel_rfl
set_option maxRecDepth 100000 in
theorem lifted (os : Os) (started : os.Started) (H : Type) (enc : TypeId × Value → H) :
    ReturnsInHanded {} Try.checked os 8 .any (Rows.modelBackSpec.pre6 enc Try.prog Try.f8 Rows.modelBackRow.domain false) (Rows.modelBackSpec.post enc Try.prog Try.f8 false true false false) := by
  refine returnsInHanded_of_change_sized (C := Try.checked) own started (by kernel_rfl) Try.func8
    (ChangeSpec.witness6 (enc := enc) (C := Try.checked) false ⟨#[], #[.slice none 0 0, .string ByteArray.empty], []⟩ 8 (by kernel_rfl) (by kernel_rfl) (by kernel_rfl) (by kernel_rfl)) ?_
  intro W base args ds gs before hval0 hW hcnd hsz _
  have hval : ∀ (j : Nat) t v, Try.f8.params[j]? = some t → args[j]? = some v → Value.okWide Try.prog W .any base t v := hval0
  have hW' := hW
  obtain ⟨p, q, hA0, hV, rfl, hfz, hnd⟩ := hW
  have hA : DataW.TrodAll enc Try.prog W 0 (fun _ => true) true Try.f8.params.toList args.toList ds p := hA0
  rw [Try.params8] at hA hval hsz
  obtain ⟨v0, vs0, d0, ds0, p0, q0, hargs, rfl, rfl, h0, r0⟩ := trodAll_cons hA
  obtain ⟨v1, vs1, d1, ds1, p1, q1, rfl, rfl, rfl, h1, r1⟩ := trodAll_cons r0
  obtain ⟨rfl, rfl, rfl⟩ := trodAll_nil r1
  obtain rfl : args = #[v0, v1] := by cases args; simp_all
  obtain ⟨rfl, rfl⟩ := trodVars_none hV
  obtain ⟨a0, n0, c0, rfl⟩ := okWide_slice Try.underlying22 (hval 0 22 v0 rfl rfl)
  have k0 := h0
  have lt0 : ∀ x ∈ p0, x.block < W.heap.size := by obtain ⟨m, hm⟩ := k0; exact DataW.trod_lt m _ _ _ hm
  obtain ⟨z0, w0⟩ : ∃ zs, IntRow .i64 8 W a0 n0 c0 zs := by
    obtain ⟨fuel, hf⟩ := h0
    rcases open_ints Try.underlying22 Try.underlying3 (by kernel_rfl) hf with ⟨hcs, _⟩ | ⟨x, l, c, zs, hcs, _, hl, hm, hz, hx, hcell, hwz⟩
    · simp [Value.cells] at hcs
      obtain ⟨rfl, rfl, rfl⟩ := hcs
      exact ⟨[], .inl ⟨rfl, rfl, rfl, rfl⟩⟩
    · simp [Value.cells] at hcs
      obtain ⟨rfl, rfl, rfl⟩ := hcs
      simp only [Prod.mk.injEq] at hx
      obtain ⟨rfl, _⟩ := hx
      have hre := sized_slice hsz (j := 0) (t := 22) rfl rfl Try.underlying22
      have hby : Try.checked.prog.bytesOf 3 = 8 := by kernel_rfl
      rw [hby] at hre
      simp only [lits, List.length_map, List.length_take, List.length_drop, reachBytes] at hre
      have hz' : zs.length = c0 := by simpa using hz
      exact ⟨zs, .inr ⟨_, rfl, hl, hm, hz', hcell, hwz, by rw [← hz']; omega⟩⟩
  obtain ⟨a1, rfl, rfl, rfl, w1⟩ := open_string Try.underlying9 (hval 1 9 v1 rfl rfl) h1
  have z1 : a1.size ≤ 140737488351232 := by
    have h := sized_string hsz (j := 1) (t := 9) (bytes := a1.data.toList) rfl rfl
    simpa [reachBytes] using h
  clear hA0 hval0
  refine (Back_walk a0 n0 c0 z0 a1 W w0 z1).mono fun e W' ⟨he, bel⟩ => ?_
  subst he
  exact ⟨_, rfl, _, _, _, [], _, [], hW', trodAll_mk1 (shut_bool Try.underlying4 _), (trodAll_cons_mk (Below.trod laidOut (by kernel_rfl) (of_decide_eq_true (by kernel_rfl)) k0 bel lt0) (trodAll_cons_mk (shut_string Try.underlying9 w1) trodAll_mk0)), rfl, bel.frame _, fun h => by cases h⟩
theorem over : Rows.modelBackRow.holds Try.pinned (OpenSpec.ofChange Rows.modelBackSpec) :=
  OpenClaim.holds_of_wide 8 Try.f8 rfl rfl rfl rfl rfl rfl rfl ⟨rfl, rfl, rfl, rfl, rfl⟩ rfl rfl rfl rfl rfl (by kernel_rfl) Try.func8 (by kernel_rfl)
    (of_decide_eq_true (by kernel_rfl)) (by unfold Func.isWrapper; first | (rw [if_pos (by decide +kernel)]; kernel_rfl) | (rw [if_neg (by decide +kernel)]; exact ⟨rfl, rfl⟩))
    (fun os started H enc _ => lifted os started H enc)
end LawModelBack
/-- The given statement. -/
theorem modelBack_proved : Rows.ModelBackSaid := LawModelBack.over
#print axioms modelBack_proved
end Go.Proofs.Ytookcollmijjkaa
