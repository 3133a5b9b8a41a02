/- Every list of pages as blocks, or what is wrong with it, and how many blocks it takes, are what the document says. -/
import Derived.Test.YtcfkcdfjianeiaaJAwake
import Derived.Test.YtcfkcdfjianeiaaJLift
namespace Go.Proofs.Ytcfkcdfjianeiaa
open Go.RowKit
set_option linter.unusedVariables false
set_option linter.unusedSimpArgs false
set_option maxRecDepth 100000 in
set_option maxHeartbeats 1000000 in
theorem Packs_walk (l : List PageR) (v : Value) (w : World) (hp : Pages w v l) (hf : PagesFit l) :
    Calls Try.prog 3 #[v] w fun e w' => e = .returned (.bool true) ∧ Below w.heap.size w w' := by
  have c1 := fun w h => Pack_c l v w h hf
  have c2 := fun w h => RPack_c l v w h hf
  have HP := hid hp
  obtain ⟨p, cap, rfl, hn, hq⟩ := hp
  clear hq
  by_cases hmid : 200 < l.length ∧ l.length ≤ 1024
  · clear c1 c2 HP hf
    generalize l.length = n at *
    have h1 : (200 : Int) < (n : Int) := by omega
    have h2 : (n : Int) ≤ 1024 := by omega
    have d1 : decide ((200 : Int) < (n : Int)) = true := by simp; omega
    have d2 : decide ((n : Int) ≤ 1024) = true := by simp; omega
    clear hmid
    go_enter Try.func3, Try.ntmps3
    go_wp2_with fail
    refine (awake_c _).mono ?_
    rintro e w5 ⟨rfl, b5⟩
    go_wp2_with fail
    go_ret
    exact ⟨rfl, b5⟩
  · have hlen : packE l = 0 → (packL l).length = headsN l.length + l.length := fun h => by unfold packL; rw [if_pos h, blocksL_length]
    have c3 := hid (fun w => Blocks_c l.length w (by omega))
    have c4 := hid (fun w => RBlocks_c l.length w (by omega))
    unfold PackPost at c1 c2
    generalize packL l = L at *
    generalize packE l = E at *
    generalize headsN l.length + l.length = B at *
    have c5 := hid (fun va vb w ha hb => RTexts_c L va vb w ha hb)
    have C1 := hid c1
    have C2 := hid c2
    have d0 : (decide ((200 : Int) < (l.length : Int)) = true ∧ decide ((l.length : Int) ≤ 1024) = false) ∨ decide ((200 : Int) < (l.length : Int)) = false := by
      by_cases h : l.length ≤ 200
      · right; simp; omega
      · left; exact ⟨by simp; omega, by simp; omega⟩
    have HL := hid hlen
    clear c1 c2 hf hmid hlen
    by_cases hE : E = 0
    · have HLL := hid (HL.out hE)
      subst hE
      rcases d0 with ⟨d1, d2⟩ | d1
      all_goals
        go_enter Try.func3, Try.ntmps3
        go_wp2_with fail
        refine (C1.out _ HP.out).mono ?_
        rintro e w1 ⟨v1, rfl, i1, b1⟩
        go_wp2_with fail
        refine (C2.out _ (HP.out.grow b1)).mono ?_
        rintro e w2 ⟨v2, rfl, i2, b2⟩
        have I1 := hid (i1.grow b2)
        have I2 := hid i2
        obtain ⟨p1, k1, hv1, _, _⟩ := i1
        rw [HLL.out] at hv1
        subst hv1
        clear i2
        go_wp2_with fail
        refine (c5.out _ _ _ I1.out I2.out).mono ?_
        rintro e w3 ⟨rfl, b3⟩
        go_wp2_with fail
        refine (c3.out _).mono ?_
        rintro e w4 ⟨rfl, rfl⟩
        go_wp2_with fail
        refine (c4.out _).mono ?_
        rintro e w4 ⟨rfl, rfl⟩
        go_wp2_with fail
        refine (c4.out _).mono ?_
        rintro e w4 ⟨rfl, rfl⟩
        go_wp2_with fail
        refine (awake_c _).mono ?_
        rintro e w5 ⟨rfl, b5⟩
        go_wp2_with fail
        go_ret
        exact ⟨rfl, Grow.trans b1 (Grow.trans b2 (Grow.trans b3 b5))⟩
    · have hne : ((E : Int) != 0) = true := by rw [bne_iff_ne]; omega
      clear hE HL
      rcases d0 with ⟨d1, d2⟩ | d1
      all_goals
        go_enter Try.func3, Try.ntmps3
        go_wp2_with fail
        refine (C1.out _ HP.out).mono ?_
        rintro e w1 ⟨v1, rfl, i1, b1⟩
        go_wp2_with fail
        refine (C2.out _ (HP.out.grow b1)).mono ?_
        rintro e w2 ⟨v2, rfl, i2, b2⟩
        have I1 := hid (i1.grow b2)
        have I2 := hid i2
        clear i1 i2
        go_wp2_with fail
        refine (c5.out _ _ _ I1.out I2.out).mono ?_
        rintro e w3 ⟨rfl, b3⟩
        go_wp2_with fail
        refine (c3.out _).mono ?_
        rintro e w4 ⟨rfl, rfl⟩
        go_wp2_with fail
        refine (c4.out _).mono ?_
        rintro e w4 ⟨rfl, rfl⟩
        go_wp2_with fail
        refine (awake_c _).mono ?_
        rintro e w5 ⟨rfl, b5⟩
        go_wp2_with fail
        go_ret
        exact ⟨rfl, Grow.trans b1 (Grow.trans b2 (Grow.trans b3 b5))⟩
namespace LawJournalPacks
open Go.ChangeShapes Go.WideShapes Go.ChangeAt Go.RowKit
open Go.ChangeMaps (open_string shut_string)
theorem own : ownKnob Try.prog.godebug = none := by kernel_rfl
theorem laidOut : laidOutB Try.prog = true := by kernel_rfl
set_option maxRecDepth 100000 in
theorem lifted (os : Os) (started : os.Started) (H : Type) (enc : TypeId × Value → H) :
    ReturnsInHanded {} Try.checked os 3 .any (Rows.journalPacksSpec.pre6 enc Try.prog Try.f3 Rows.journalPacksRow.domain false) (Rows.journalPacksSpec.post enc Try.prog Try.f3 false true false false) := by
  refine returnsInHanded_of_change_sized (C := Try.checked) own started (by kernel_rfl) Try.func3
    (ChangeSpec.witness6 (enc := enc) (C := Try.checked) false ⟨#[], #[.slice none 0 0], []⟩ 8 (by kernel_rfl) (by kernel_rfl) (by kernel_rfl) (by kernel_rfl)) ?_
  intro W base args ds gs before hval0 hW hcnd hsz _
  have hval : ∀ (j : Nat) t v, Try.f3.params[j]? = some t → args[j]? = some v → Value.okWide Try.prog W .any base t v := hval0
  have hW' := hW
  obtain ⟨p, q, hA0, hV, rfl, hfz, hnd⟩ := hW
  have hA : DataW.TrodAll enc Try.prog W 0 (fun _ => true) true Try.f3.params.toList args.toList ds p := hA0
  rw [Try.params3] at hA hval hsz
  obtain ⟨v0, vs0, d0, ds0, p0, q0, hargs, rfl, rfl, h0, r0⟩ := trodAll_cons hA
  obtain ⟨rfl, rfl, rfl⟩ := trodAll_nil r0
  obtain rfl : args = #[v0] := by cases args; simp_all
  obtain ⟨rfl, rfl⟩ := trodVars_none hV
  obtain ⟨a0, n0, c0, rfl⟩ := okWide_slice Try.underlying22 (hval 0 22 v0 rfl rfl)
  have k0 := h0
  have lt0 : ∀ x ∈ p0, x.block < W.heap.size := by obtain ⟨m, hm⟩ := k0; exact DataW.trod_lt m _ _ _ hm
  obtain ⟨z0, w0, u0⟩ : ∃ l, Pages W (.slice a0 n0 c0) l ∧ PagesFit l := by
    obtain ⟨fuel, hf⟩ := h0
    obtain ⟨l, v, hcs, hl, hu⟩ := open_pages hf (fun elems sp hx => by
      simp only at hx
      subst hx
      have hre := sized_slice hsz (j := 0) (t := 22) rfl rfl Try.underlying22
      simp only [reachBytes] at hre
      exact hre)
    simp [Value.cells] at hcs
    subst hcs
    exact ⟨l, hl, hu⟩
  clear hA0 hval0
  refine (Packs_walk z0 (.slice a0 n0 c0) W w0 u0).mono fun e W' ⟨he, bel⟩ => ?_
  subst he
  exact ⟨_, rfl, _, _, _, [], _, [], hW', trodAll_mk1 (shut_bool Try.underlying4 _), (trodAll_cons_mk (Below.trod laidOut (by kernel_rfl) (of_decide_eq_true (by kernel_rfl)) k0 bel lt0) trodAll_mk0), rfl, bel.frame _, fun h => by cases h⟩
theorem over : Rows.journalPacksRow.holds Try.pinned (OpenSpec.ofChange Rows.journalPacksSpec) :=
  OpenClaim.holds_of_wide 3 Try.f3 rfl rfl rfl rfl rfl rfl rfl ⟨rfl, rfl, rfl, rfl, rfl⟩ rfl rfl rfl rfl rfl (by kernel_rfl) Try.func3 (by kernel_rfl)
    (of_decide_eq_true (by kernel_rfl)) (by unfold Func.isWrapper; first | (rw [if_pos (by decide +kernel)]; kernel_rfl) | (rw [if_neg (by decide +kernel)]; exact ⟨rfl, rfl⟩))
    (fun os started H enc _ => lifted os started H enc)
end LawJournalPacks
/-- The given statement. -/
theorem journalPacks_proved : Rows.JournalPacksSaid := LawJournalPacks.over
#print axioms journalPacks_proved
end Go.Proofs.Ytcfkcdfjianeiaa
