/- Keys are in the order of their numbers. -/
import Derived.Test.YtnohdicnofffdaaKeyAwake
import Derived.Test.YtnohdicnofffdaaKeyBefore
namespace Go.Proofs.Ytnohdicnofffdaa
open Go.RowKit
set_option linter.unusedVariables false
set_option linter.unusedSimpArgs false

theorem ofL_eqB (xs ys : List Int) (hx : ∀ n ∈ xs, inR n) (hy : ∀ n ∈ ys, inR n) : (ofL xs == ofL ys) = decide (xs = ys) := by
  by_cases e : xs = ys
  · subst e; simp
  · have : ofL xs ≠ ofL ys := fun h => e (ofL_inj xs ys hx hy h)
    simp [e, this]
set_option maxRecDepth 100000 in
set_option maxHeartbeats 1000000 in
theorem Rises_walk (a0 : Option Addr) (n0 c0 : Nat) (z0 : List Int) (a1 : Option Addr) (n1 c1 : Nat) (z1 : List Int) (w : World) (l0 : IntRow .i64 8 w a0 n0 c0 z0) (l1 : IntRow .i64 8 w a1 n1 c1 z1) :
    Calls Try.prog 4 #[.slice a0 n0 c0, .slice a1 n1 c1] w fun e w' => e = .returned (.bool true) ∧ Below w.heap.size w w' := by
  obtain ⟨hi, hr⟩ := Ints.of_row l0
  obtain ⟨hi2, hr2⟩ := Ints.of_row l1
  generalize z0.take n0 = xs at hi hr
  generalize z1.take n1 = ys at hi2 hr2
  generalize Value.slice a0 n0 c0 = v at hi
  generalize Value.slice a1 n1 c1 = v2 at hi2
  clear l0 l1
  by_cases h4 : xs.length ≤ 4
  · have C1 := hid (fun w' (h : Grow w w') => Of_c xs v w' (hi.grow h) hr h4)
    by_cases h42 : ys.length ≤ 4
    · have C2 := hid (fun w' (h : Grow w w') => Of_c ys v2 w' (hi2.grow h) hr2 h42)
      have C3 := hid (fun w' (h : Grow w w') => Before_c xs ys v v2 w' (hi.grow h) (hi2.grow h))
      have C4 := hid (fun w' (h : Grow w w') => Ints_c xs ys v v2 w' (hi.grow h) (hi2.grow h))
      have e1 := ofL_less xs ys hr hr2
      have e2 := ofL_eqB xs ys hr hr2
      generalize ofL xs = A at *
      generalize ofL ys = B at *
      generalize beforeL xs ys = L at *
      generalize decide (xs = ys) = E at *
      clear hi hr h4 hi2 hr2 h42
      go_enter Try.func4, Try.ntmps4
      go_wp2_with fail
      refine (C1.out _ (Grow.refl _)).mono ?_
      rintro e w1 ⟨rfl, b1⟩
      go_wp2_with fail
      refine (C2.out _ b1).mono ?_
      rintro e w2 ⟨rfl, b2⟩
      go_wp2_with fail
      refine (C3.out _ (Grow.trans b1 b2)).mono ?_
      rintro e w3 ⟨rfl, b3⟩
      go_wp2_with fail
      refine (C4.out _ (Grow.trans b1 (Grow.trans b2 b3))).mono ?_
      rintro e w4 ⟨rfl, b4⟩
      go_wp2_with fail
      refine (awake_c _).mono ?_
      rintro e w5 ⟨rfl, b5⟩
      go_wp2_with fail
      go_ret
      exact ⟨rfl, Grow.trans b1 (Grow.trans b2 (Grow.trans b3 (Grow.trans b4 b5)))⟩
    · have C2 := hid (fun w' (h : Grow w w') => Of_big ys v2 w' (hi2.grow h) (by omega))
      clear hi hr h4 hi2 hr2 h42
      go_enter Try.func4, Try.ntmps4
      go_wp2_with fail
      refine (C1.out _ (Grow.refl _)).mono ?_
      rintro e w1 ⟨rfl, b1⟩
      go_wp2_with fail
      refine (C2.out _ b1).mono ?_
      rintro e w2 ⟨rfl, rfl⟩
      go_wp2_with fail
      refine (awake_c _).mono ?_
      rintro e w5 ⟨rfl, b5⟩
      go_wp2_with fail
      go_ret
      exact ⟨rfl, Grow.trans b1 b5⟩
  · have C1 := hid (fun w' (h : Grow w w') => Of_big xs v w' (hi.grow h) (by omega))
    have C2 : Hid (∃ s x, Int.natAbs x < 100 ∧ ∀ w', Grow w w' → Calls Try.prog 8 #[v2] w' fun e w'' => e = .returned (.tuple #[.string s, .int .i64 x]) ∧ Grow w' w'') := by
      by_cases h42 : ys.length ≤ 4
      · exact ⟨_, 0, by decide, fun w' h => Of_c ys v2 w' (hi2.grow h) hr2 h42⟩
      · exact ⟨_, 22, by decide, fun w' h => (Of_big ys v2 w' (hi2.grow h) (by omega)).mono fun e w'' ⟨h1, h2⟩ => ⟨h1, h2 ▸ Grow.refl _⟩⟩
    obtain ⟨s, x, _, C2⟩ := C2.out
    have C2 := hid C2
    clear hi hr h4 hi2 hr2
    go_enter Try.func4, Try.ntmps4
    go_wp2_with fail
    refine (C1.out _ (Grow.refl _)).mono ?_
    rintro e w1 ⟨rfl, rfl⟩
    go_wp2_with fail
    refine (C2.out _ (Grow.refl _)).mono ?_
    rintro e w2 ⟨rfl, b2⟩
    go_wp2_with fail
    refine (awake_c _).mono ?_
    rintro e w5 ⟨rfl, b5⟩
    go_wp2_with fail
    go_ret
    exact ⟨rfl, Grow.trans b2 b5⟩
namespace LawKeyRises
open Go.ChangeShapes Go.WideShapes Go.ChangeAt Go.RowKit
open Go.ChangeMaps (open_string shut_string)
theorem own : ownKnob Try.prog.godebug = none := by kernel_rfl
theorem laidOut : laidOutB Try.prog = true := by kernel_rfl
set_option maxRecDepth 100000 in
theorem lifted (os : Os) (started : os.Started) (H : Type) (enc : TypeId × Value → H) :
    ReturnsInHanded {} Try.checked os 4 .any (Rows.keyRisesSpec.pre6 enc Try.prog Try.f4 Rows.keyRisesRow.domain false) (Rows.keyRisesSpec.post enc Try.prog Try.f4 false true false false) := by
  refine returnsInHanded_of_change_sized (C := Try.checked) own started (by kernel_rfl) Try.func4
    (ChangeSpec.witness6 (enc := enc) (C := Try.checked) false ⟨#[], #[.slice none 0 0, .slice none 0 0], []⟩ 8 (by kernel_rfl) (by kernel_rfl) (by kernel_rfl) (by kernel_rfl)) ?_
  intro W base args ds gs before hval0 hW hcnd hsz _
  have hval : ∀ (j : Nat) t v, Try.f4.params[j]? = some t → args[j]? = some v → Value.okWide Try.prog W .any base t v := hval0
  have hW' := hW
  obtain ⟨p, q, hA0, hV, rfl, hfz, hnd⟩ := hW
  have hA : DataW.TrodAll enc Try.prog W 0 (fun _ => true) true Try.f4.params.toList args.toList ds p := hA0
  rw [Try.params4] at hA hval hsz
  obtain ⟨v0, vs0, d0, ds0, p0, q0, hargs, rfl, rfl, h0, r0⟩ := trodAll_cons hA
  obtain ⟨v1, vs1, d1, ds1, p1, q1, rfl, rfl, rfl, h1, r1⟩ := trodAll_cons r0
  obtain ⟨rfl, rfl, rfl⟩ := trodAll_nil r1
  obtain rfl : args = #[v0, v1] := by cases args; simp_all
  obtain ⟨rfl, rfl⟩ := trodVars_none hV
  obtain ⟨a0, n0, c0, rfl⟩ := okWide_slice Try.underlying22 (hval 0 22 v0 rfl rfl)
  have k0 := h0
  have lt0 : ∀ x ∈ p0, x.block < W.heap.size := by obtain ⟨m, hm⟩ := k0; exact DataW.trod_lt m _ _ _ hm
  obtain ⟨z0, w0⟩ : ∃ zs, IntRow .i64 8 W a0 n0 c0 zs := by
    obtain ⟨fuel, hf⟩ := h0
    rcases open_ints Try.underlying22 Try.underlying3 (by kernel_rfl) hf with ⟨hcs, _⟩ | ⟨x, l, c, zs, hcs, _, hl, hm, hz, hx, hcell, hwz⟩
    · simp [Value.cells] at hcs
      obtain ⟨rfl, rfl, rfl⟩ := hcs
      exact ⟨[], .inl ⟨rfl, rfl, rfl, rfl⟩⟩
    · simp [Value.cells] at hcs
      obtain ⟨rfl, rfl, rfl⟩ := hcs
      simp only [Prod.mk.injEq] at hx
      obtain ⟨rfl, _⟩ := hx
      have hre := sized_slice hsz (j := 0) (t := 22) rfl rfl Try.underlying22
      have hby : Try.checked.prog.bytesOf 3 = 8 := by kernel_rfl
      rw [hby] at hre
      simp only [lits, List.length_map, List.length_take, List.length_drop, reachBytes] at hre
      have hz' : zs.length = c0 := by simpa using hz
      exact ⟨zs, .inr ⟨_, rfl, hl, hm, hz', hcell, hwz, by rw [← hz']; omega⟩⟩
  obtain ⟨a1, n1, c1, rfl⟩ := okWide_slice Try.underlying22 (hval 1 22 v1 rfl rfl)
  have k1 := h1
  have lt1 : ∀ x ∈ p1, x.block < W.heap.size := by obtain ⟨m, hm⟩ := k1; exact DataW.trod_lt m _ _ _ hm
  obtain ⟨z1, w1⟩ : ∃ zs, IntRow .i64 8 W a1 n1 c1 zs := by
    obtain ⟨fuel, hf⟩ := h1
    rcases open_ints Try.underlying22 Try.underlying3 (by kernel_rfl) hf with ⟨hcs, _⟩ | ⟨x, l, c, zs, hcs, _, hl, hm, hz, hx, hcell, hwz⟩
    · simp [Value.cells] at hcs
      obtain ⟨rfl, rfl, rfl⟩ := hcs
      exact ⟨[], .inl ⟨rfl, rfl, rfl, rfl⟩⟩
    · simp [Value.cells] at hcs
      obtain ⟨rfl, rfl, rfl⟩ := hcs
      simp only [Prod.mk.injEq] at hx
      obtain ⟨rfl, _⟩ := hx
      have hre := sized_slice hsz (j := 1) (t := 22) rfl rfl Try.underlying22
      have hby : Try.checked.prog.bytesOf 3 = 8 := by kernel_rfl
      rw [hby] at hre
      simp only [lits, List.length_map, List.length_take, List.length_drop, reachBytes] at hre
      have hz' : zs.length = c1 := by simpa using hz
      exact ⟨zs, .inr ⟨_, rfl, hl, hm, hz', hcell, hwz, by rw [← hz']; omega⟩⟩
  clear hA0 hval0
  refine (Rises_walk a0 n0 c0 z0 a1 n1 c1 z1 W w0 w1).mono fun e W' ⟨he, bel⟩ => ?_
  subst he
  exact ⟨_, rfl, _, _, _, [], _, [], hW', trodAll_mk1 (shut_bool Try.underlying4 _), (trodAll_cons_mk (Below.trod laidOut (by kernel_rfl) (of_decide_eq_true (by kernel_rfl)) k0 bel lt0) (trodAll_cons_mk (Below.trod laidOut (by kernel_rfl) (of_decide_eq_true (by kernel_rfl)) k1 bel lt1) trodAll_mk0)), rfl, bel.frame _, fun h => by cases h⟩
theorem over : Rows.keyRisesRow.holds Try.pinned (OpenSpec.ofChange Rows.keyRisesSpec) :=
  OpenClaim.holds_of_wide 4 Try.f4 rfl rfl rfl rfl rfl rfl rfl ⟨rfl, rfl, rfl, rfl, rfl⟩ rfl rfl rfl rfl rfl (by kernel_rfl) Try.func4 (by kernel_rfl)
    (of_decide_eq_true (by kernel_rfl)) (by unfold Func.isWrapper; first | (rw [if_pos (by decide +kernel)]; kernel_rfl) | (rw [if_neg (by decide +kernel)]; exact ⟨rfl, rfl⟩))
    (fun os started H enc _ => lifted os started H enc)
end LawKeyRises
/-- The given statement. -/
theorem keyRises_proved : Rows.KeyRisesSaid := LawKeyRises.over
#print axioms keyRises_proved
end Go.Proofs.Ytnohdicnofffdaa
