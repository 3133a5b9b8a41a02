/- The numbers of a key are those that it was made of, and the key of these is it. -/
import Derived.Test.YtnohdicnofffdaaKeyAwake
import Derived.Test.YtnohdicnofffdaaKeyBefore
import Derived.Test.YtnohdicnofffdaaKeySplit
namespace Go.Proofs.Ytnohdicnofffdaa
open Go.RowKit
set_option linter.unusedVariables false
set_option linter.unusedSimpArgs false
theorem splitL_ofL (xs : List Int) (h : ∀ n ∈ xs, inR n) : splitL (ofL xs) = xs := by
  unfold splitL
  rw [ofL_length, show 8 * xs.length / 8 = xs.length by omega]
  exact splitN_ofL xs h
theorem splitL_inR (l : List UInt8) (h8 : l.length % 8 = 0) : ∀ n ∈ splitL l, inR n := splitN_inR _ l (by omega)
theorem splitL_length (l : List UInt8) : (splitL l).length = l.length / 8 := splitN_length _ l
theorem ofL_splitL (l : List UInt8) (h8 : l.length % 8 = 0) : ofL (splitL l) = l := ofL_splitN _ l (by omega)
theorem mk_toList (s : ByteArray) : ByteArray.mk s.data.toList.toArray = s := by simp


set_option maxRecDepth 100000 in
set_option maxHeartbeats 1000000 in
theorem Back_walk (a : Option Addr) (n c : Nat) (zs : List Int) (s : ByteArray) (w : World) (l0 : IntRow .i64 8 w a n c zs) (hs : s.size ≤ 140737488351232) :
    Calls Try.prog 7 #[.slice a n c, .string s] w fun e w' => e = .returned (.bool true) ∧ Below w.heap.size w w' := by
  obtain ⟨hi, hr⟩ := Ints.of_row l0
  generalize zs.take n = xs at hi hr
  generalize Value.slice a n c = v at hi
  have hls : s.data.toList.length = s.size := by simp
  by_cases h4 : xs.length ≤ 4
  · have c1 := hid (fun w' (h : Grow w w') => Of_c xs v w' (hi.grow h) hr h4)
    have hsz : (ByteArray.mk (ofL xs).toArray).size = 8 * xs.length := by rw [← ByteArray.size_data]; simp [ofL_length]
    have c2 := hid (fun w' => Split_c (ByteArray.mk (ofL xs).toArray) w' (by rw [hsz]; omega) (by rw [hsz]; omega))
    rw [show (ByteArray.mk (ofL xs).toArray).data.toList = ofL xs from rfl, splitL_ofL xs hr] at c2
    have c3 := hid (fun v2 w' (h : Grow w w') (h2 : Ints w' v2 xs) => Ints_c xs xs v2 v w' h2 (hi.grow h))
    have ht : decide (xs = xs) = true := by simp
    rw [ht] at c3
    generalize ofL xs = A at *
    clear hi hr h4 l0 hsz ht
    by_cases h : s.size % 8 = 0 ∧ s.size ≤ 32
    · have d1 := hid (fun w' => Split_c s w' h.1 h.2)
      have hle : (splitL s.data.toList).length ≤ 4 := by rw [splitL_length, hls]; omega
      have d2 := hid (fun v2 w' (h2 : Ints w' v2 (splitL s.data.toList)) => Of_c (splitL s.data.toList) v2 w' h2 (splitL_inR _ (by rw [hls]; exact h.1)) hle)
      rw [ofL_splitL _ (by rw [hls]; exact h.1), mk_toList] at d2
      generalize splitL s.data.toList = ys at *
      clear h hle
      go_enter Try.func7, Try.ntmps7
      go_wp2_with fail
      refine (c1.out _ (Grow.refl _)).mono ?_
      rintro e w1 ⟨rfl, b1⟩
      go_wp2_with fail
      refine (c2.out _).mono ?_
      rintro e w2 ⟨v2, rfl, i2, b2⟩
      have g2 := hid (Grow.trans b1 b2)
      have i2 := hid i2
      go_wp2_with fail
      refine (c3.out _ _ g2.out i2.out).mono ?_
      rintro e w3 ⟨rfl, b3⟩
      go_wp2_with fail
      refine (d1.out _).mono ?_
      rintro e w4 ⟨v4, rfl, i4, b4⟩
      have i4 := hid i4
      go_wp2_with fail
      refine (d2.out _ _ i4.out).mono ?_
      rintro e w5 ⟨rfl, b5⟩
      go_wp2_with fail
      refine (awake_c _).mono ?_
      rintro e w6 ⟨rfl, b6⟩
      go_wp2_with fail
      go_ret
      exact ⟨rfl, Grow.trans b1 (Grow.trans b2 (Grow.trans b3 (Grow.trans b4 (Grow.trans b5 b6))))⟩
    · have d1 := hid (fun w' => Split_no s w' hs h)
      clear h
      go_enter Try.func7, Try.ntmps7
      go_wp2_with fail
      refine (c1.out _ (Grow.refl _)).mono ?_
      rintro e w1 ⟨rfl, b1⟩
      go_wp2_with fail
      refine (c2.out _).mono ?_
      rintro e w2 ⟨v2, rfl, i2, b2⟩
      have g2 := hid (Grow.trans b1 b2)
      have i2 := hid i2
      go_wp2_with fail
      refine (c3.out _ _ g2.out i2.out).mono ?_
      rintro e w3 ⟨rfl, b3⟩
      go_wp2_with fail
      refine (d1.out _).mono ?_
      rintro e w4 ⟨rfl, rfl⟩
      go_wp2_with fail
      refine (awake_c _).mono ?_
      rintro e w6 ⟨rfl, b6⟩
      go_wp2_with fail
      go_ret
      exact ⟨rfl, Grow.trans b1 (Grow.trans b2 (Grow.trans b3 b6))⟩
  · have c1 := hid (fun w' (h : Grow w w') => Of_big xs v w' (hi.grow h) (by omega))
    clear hi hr h4 l0
    by_cases h : s.size % 8 = 0 ∧ s.size ≤ 32
    · have d1 := hid (fun w' => Split_c s w' h.1 h.2)
      have hle : (splitL s.data.toList).length ≤ 4 := by rw [splitL_length, hls]; omega
      have d2 := hid (fun v2 w' (h2 : Ints w' v2 (splitL s.data.toList)) => Of_c (splitL s.data.toList) v2 w' h2 (splitL_inR _ (by rw [hls]; exact h.1)) hle)
      rw [ofL_splitL _ (by rw [hls]; exact h.1), mk_toList] at d2
      generalize splitL s.data.toList = ys at *
      clear h hle
      go_enter Try.func7, Try.ntmps7
      go_wp2_with fail
      refine (c1.out _ (Grow.refl _)).mono ?_
      rintro e w1 ⟨rfl, rfl⟩
      go_wp2_with fail
      refine (d1.out _).mono ?_
      rintro e w4 ⟨v4, rfl, i4, b4⟩
      have i4 := hid i4
      go_wp2_with fail
      refine (d2.out _ _ i4.out).mono ?_
      rintro e w5 ⟨rfl, b5⟩
      go_wp2_with fail
      refine (awake_c _).mono ?_
      rintro e w6 ⟨rfl, b6⟩
      go_wp2_with fail
      go_ret
      exact ⟨rfl, Grow.trans b4 (Grow.trans b5 b6)⟩
    · have d1 := hid (fun w' => Split_no s w' hs h)
      clear h
      go_enter Try.func7, Try.ntmps7
      go_wp2_with fail
      refine (c1.out _ (Grow.refl _)).mono ?_
      rintro e w1 ⟨rfl, rfl⟩
      go_wp2_with fail
      refine (d1.out _).mono ?_
      rintro e w4 ⟨rfl, rfl⟩
      go_wp2_with fail
      refine (awake_c _).mono ?_
      rintro e w6 ⟨rfl, b6⟩
      go_wp2_with fail
      go_ret
      exact ⟨rfl, b6⟩
namespace LawKeyBack
open Go.ChangeShapes Go.WideShapes Go.ChangeAt Go.RowKit
open Go.ChangeMaps (open_string shut_string)
theorem own : ownKnob Try.prog.godebug = none := by kernel_rfl
theorem laidOut : laidOutB Try.prog = true := by kernel_rfl
set_option maxRecDepth 100000 in
theorem lifted (os : Os) (started : os.Started) (H : Type) (enc : TypeId × Value → H) :
    ReturnsInHanded {} Try.checked os 7 .any (Rows.keyBackSpec.pre6 enc Try.prog Try.f7 Rows.keyBackRow.domain false) (Rows.keyBackSpec.post enc Try.prog Try.f7 false true false false) := by
  refine returnsInHanded_of_change_sized (C := Try.checked) own started (by kernel_rfl) Try.func7
    (ChangeSpec.witness6 (enc := enc) (C := Try.checked) false ⟨#[], #[.slice none 0 0, .string ByteArray.empty], []⟩ 8 (by kernel_rfl) (by kernel_rfl) (by kernel_rfl) (by kernel_rfl)) ?_
  intro W base args ds gs before hval0 hW hcnd hsz _
  have hval : ∀ (j : Nat) t v, Try.f7.params[j]? = some t → args[j]? = some v → Value.okWide Try.prog W .any base t v := hval0
  have hW' := hW
  obtain ⟨p, q, hA0, hV, rfl, hfz, hnd⟩ := hW
  have hA : DataW.TrodAll enc Try.prog W 0 (fun _ => true) true Try.f7.params.toList args.toList ds p := hA0
  rw [Try.params7] at hA hval hsz
  obtain ⟨v0, vs0, d0, ds0, p0, q0, hargs, rfl, rfl, h0, r0⟩ := trodAll_cons hA
  obtain ⟨v1, vs1, d1, ds1, p1, q1, rfl, rfl, rfl, h1, r1⟩ := trodAll_cons r0
  obtain ⟨rfl, rfl, rfl⟩ := trodAll_nil r1
  obtain rfl : args = #[v0, v1] := by cases args; simp_all
  obtain ⟨rfl, rfl⟩ := trodVars_none hV
  obtain ⟨a0, n0, c0, rfl⟩ := okWide_slice Try.underlying22 (hval 0 22 v0 rfl rfl)
  have k0 := h0
  have lt0 : ∀ x ∈ p0, x.block < W.heap.size := by obtain ⟨m, hm⟩ := k0; exact DataW.trod_lt m _ _ _ hm
  obtain ⟨z0, w0⟩ : ∃ zs, IntRow .i64 8 W a0 n0 c0 zs := by
    obtain ⟨fuel, hf⟩ := h0
    rcases open_ints Try.underlying22 Try.underlying3 (by kernel_rfl) hf with ⟨hcs, _⟩ | ⟨x, l, c, zs, hcs, _, hl, hm, hz, hx, hcell, hwz⟩
    · simp [Value.cells] at hcs
      obtain ⟨rfl, rfl, rfl⟩ := hcs
      exact ⟨[], .inl ⟨rfl, rfl, rfl, rfl⟩⟩
    · simp [Value.cells] at hcs
      obtain ⟨rfl, rfl, rfl⟩ := hcs
      simp only [Prod.mk.injEq] at hx
      obtain ⟨rfl, _⟩ := hx
      have hre := sized_slice hsz (j := 0) (t := 22) rfl rfl Try.underlying22
      have hby : Try.checked.prog.bytesOf 3 = 8 := by kernel_rfl
      rw [hby] at hre
      simp only [lits, List.length_map, List.length_take, List.length_drop, reachBytes] at hre
      have hz' : zs.length = c0 := by simpa using hz
      exact ⟨zs, .inr ⟨_, rfl, hl, hm, hz', hcell, hwz, by rw [← hz']; omega⟩⟩
  obtain ⟨a1, rfl, rfl, rfl, w1⟩ := open_string Try.underlying9 (hval 1 9 v1 rfl rfl) h1
  have z1 : a1.size ≤ 140737488351232 := by
    have h := sized_string hsz (j := 1) (t := 9) (bytes := a1.data.toList) rfl rfl
    simpa [reachBytes] using h
  clear hA0 hval0
  refine (Back_walk a0 n0 c0 z0 a1 W w0 z1).mono fun e W' ⟨he, bel⟩ => ?_
  subst he
  exact ⟨_, rfl, _, _, _, [], _, [], hW', trodAll_mk1 (shut_bool Try.underlying4 _), (trodAll_cons_mk (Below.trod laidOut (by kernel_rfl) (of_decide_eq_true (by kernel_rfl)) k0 bel lt0) (trodAll_cons_mk (shut_string Try.underlying9 w1) trodAll_mk0)), rfl, bel.frame _, fun h => by cases h⟩
theorem over : Rows.keyBackRow.holds Try.pinned (OpenSpec.ofChange Rows.keyBackSpec) :=
  OpenClaim.holds_of_wide 7 Try.f7 rfl rfl rfl rfl rfl rfl rfl ⟨rfl, rfl, rfl, rfl, rfl⟩ rfl rfl rfl rfl rfl (by kernel_rfl) Try.func7 (by kernel_rfl)
    (of_decide_eq_true (by kernel_rfl)) (by unfold Func.isWrapper; first | (rw [if_pos (by decide +kernel)]; kernel_rfl) | (rw [if_neg (by decide +kernel)]; exact ⟨rfl, rfl⟩))
    (fun os started H enc _ => lifted os started H enc)
end LawKeyBack
/-- The given statement. -/
theorem keyBack_proved : Rows.KeyBackSaid := LawKeyBack.over
#print axioms keyBack_proved
end Go.Proofs.Ytnohdicnofffdaa
