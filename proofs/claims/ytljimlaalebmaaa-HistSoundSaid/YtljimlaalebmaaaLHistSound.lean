/- Behind any edits a history may be, and an edit that is refused tells nothing. -/
import Derived.Test.YtljimlaalebmaaaHAwake
import Derived.Test.YtljimlaalebmaaaHRCheck
import Derived.Test.YtljimlaalebmaaaHEdLift
import Derived.Test.YtljimlaalebmaaaHLaws
import Derived.Test.YtljimlaalebmaaaOpEq
namespace Go.Proofs.Ytljimlaalebmaaa
open Go.RowKit
set_option linter.unusedVariables false
set_option linter.unusedSimpArgs false
theorem row_form {w : World} {base n : Nat} {v : Value} {xs : List Value} (h : w.ownsRow base 25 11 v n xs) : ∃ p cap, v = .slice p n cap := by
  rcases h.2 with ⟨h1, h0⟩ | ⟨g, cap, cur, h1, -⟩
  · exact ⟨none, 0, by rw [h1, h0]⟩
  · exact ⟨_, cap, h1⟩
theorem Apply_h (x : EdR) (L : List OpR) (hL : HistM L) (hx : I64 x.op.res) (v : Value) (w : World) (hv : Ops w v L) :
    Calls Try.prog 7 #[v, .agg #[.int .i64 x.k, .int .i64 x.op.id, .int .i64 x.op.proc, .int .i64 x.op.obj, .int .i64 x.op.kind, .int .i64 x.op.meth, .int .i64 x.op.arg, .int .i64 x.op.sec, .bool x.op.done, .int .i64 x.op.res, .int .i64 x.op.inv, .int .i64 x.op.ret]] w (EdPost (applyL L x.k x.op) w) :=
  Apply_c x.k x.op L v w hv (pairwise_rises hL.rise) (fit_hist hL) hx (by have := hL.short; omega)
set_option maxRecDepth 100000 in
set_option maxHeartbeats 8000000 in
theorem Sound_walk (l : List EdR) (v : Value) (w : World) (hv : Eds w v l) (hf : ∀ i, i < l.length → I64 (edAt l i).op.res) :
    Calls Try.prog 3 #[v] w fun e w' => e = .returned (.bool true) ∧ Below w.heap.size w w' := by
  have HW := hid (fun w => awake_c w)
  have HA := hid (fun (i : Nat) (hi : i < l.length) L (hL : HistM L) v w hv => Apply_h (edAt l i) L hL (hf i hi) v w hv)
  have HR := hid (fun (L : List OpR) v w (hL : HistM L) hv => (HRCheck_c L v w hv).mono (R' := fun e w' => e = .returned (.int .i64 0) ∧ Grow w w') (fun e w' h => by rw [of_hist (of_histM hL)] at h; exact h))
  obtain ⟨p, cap, rfl, -, hc⟩ := hv
  have HC := hid hc
  clear hc hf
  generalize l.length = n at *
  have hgd := op_guard
  have hzq := op_neq 0 0 0 0 0 0 0 false 0 0 0
  go_enter Try.func3, Try.ntmps3
  go_wp2_with fail
  go_loopw [3, 4] (fun a i wr => ∃ (k : Nat) (L : List OpR), k ≤ n ∧ i = .int .i64 (k : Int) ∧ Hid (HistM L) ∧ Hid (Ops wr a L) ∧ Grow w wr) (fun _ i _ => n - (intOf i).toNat)
  case atStart => exact ⟨0, [], by omega, rfl, hid ⟨by simp, List.Pairwise.nil, (fun o ho => by cases ho), (fun o ho => by cases ho)⟩, hid (Ops.nil _), Grow.refl _⟩
  case round =>
    obtain ⟨k, L, hk, rfl, HM, HO, hg⟩ := hrel
    by_cases hlt : k < n
    · by_cases h120 : k < 120
      · have hk0 : (0 : Int) ≤ (k : Int) := by omega
        have hk1 : (k : Int) < (n : Int) := by omega
        have hk2 : (k : Int) < 120 := by omega
        obtain ⟨b, off, rfl, hcell⟩ := HC.out k hlt
        have HAk := HA.out k hlt L HM.out
        have HBad := hid (fun h => applyL_bad (l := L) (k := (edAt l k).k) (e := (edAt l k).op) h)
        have HGood := hid (fun h => applyL_hist HM.out (k := (edAt l k).k) (e := (edAt l k).op) h)
        generalize hr : applyL L (edAt l k).k (edAt l k).op = r at *
        clear hr
        generalize edAt l k = x at *
        obtain ⟨xk, id, proc, obj, kind, meth, arg, sec, done, res, inv, ret⟩ := x
        unfold EdAt at hcell
        dsimp only at hcell HAk
        obtain ⟨c, c0, c1, c2, c3, c4, c5, c6, c7, c8, c9, c10⟩ := hcell
        replace c := hg.cell c
        replace c0 := hg.cell c0
        replace c1 := hg.cell c1
        replace c2 := hg.cell c2
        replace c3 := hg.cell c3
        replace c4 := hg.cell c4
        replace c5 := hg.cell c5
        replace c6 := hg.cell c6
        replace c7 := hg.cell c7
        replace c8 := hg.cell c8
        replace c9 := hg.cell c9
        replace c10 := hg.cell c10
        have HAP := hid HAk
        clear HAk
        obtain ⟨L2, x, y, e2⟩ := r
        dsimp only at HBad HGood
        by_cases he : e2 = 0
        · subst he
          have HM2 := hid (HGood.out rfl)
          clear HBad HGood
          obtain ⟨xid, xproc, xobj, xkind, xmeth, xarg, xsec, xdone, xres, xinv, xret⟩ := x
          obtain ⟨yid, yproc, yobj, ykind, ymeth, yarg, ysec, ydone, yres, yinv, yret⟩ := y
          unfold EdPost opV at HAP
          dsimp only at HAP
          go_wp2_with fail
          refine (HAP.out _ _ HO.out).mono ?_
          rintro e w2 ⟨v2, rfl, o2, b2⟩
          have OO := hid (Ops.of_own o2 (by have := HM2.out.short; omega))
          have g2 := hid (Grow.trans hg b2)
          clear o2 b2 c c0 c1 c2 c3 c4 c5 c6 c7 c8 c9 c10
          go_wp2_with fail
          refine (HR.out L2 _ _ HM2.out (OO.out.grow (Grow.trans (Grow.alloc _ _) (Grow.alloc _ _)))).mono ?_
          rintro e w3 ⟨rfl, b3⟩
          have g3 := hid (Grow.trans (Grow.trans (Grow.alloc _ _) (Grow.alloc _ _)) b3)
          clear b3
          go_wp2_with fail
          go_roundw
          case rel => exact ⟨k + 1, L2, by omega, by go_num, HM2, hid (OO.out.grow g3.out), Grow.trans g2.out g3.out⟩
          case measure => simp [intOf]; omega
        · obtain ⟨rfl, rfl, rfl⟩ := HBad.out he
          clear HBad HGood
          unfold EdPost opV opZ at HAP
          dsimp only at HAP
          go_wp2_with fail
          refine (HAP.out _ _ HO.out).mono ?_
          rintro e w2 ⟨v2, rfl, o2, b2⟩
          obtain ⟨p2, c2', rfl⟩ := row_form o2
          have g2 := hid (Grow.trans hg b2)
          have OO := hid (HO.out.grow b2)
          clear o2 b2 c c0 c1 c2 c3 c4 c5 c6 c7 c8 c9 c10
          go_wp2_with fail
          go_roundw
          case rel => exact ⟨k + 1, L, by omega, by go_num, HM, hid (OO.out.grow (Grow.trans (Grow.alloc _ _) (Grow.alloc _ _))), Grow.trans g2.out (Grow.trans (Grow.alloc _ _) (Grow.alloc _ _))⟩
          case measure => simp [intOf]; omega
      · have hk1 : (k : Int) < (n : Int) := by omega
        have hk2 : ¬ (k : Int) < 120 := by omega
        go_wp2_with fail
        refine (HW.out _).mono ?_
        rintro e w5 ⟨rfl, b5⟩
        go_wp2_with fail
        go_ret
        exact ⟨rfl, Grow.trans hg b5⟩
    · have hk1 : ¬ (k : Int) < (n : Int) := by omega
      go_wp2_with fail
      refine (HW.out _).mono ?_
      rintro e w5 ⟨rfl, b5⟩
      go_wp2_with fail
      go_ret
      exact ⟨rfl, Grow.trans hg b5⟩
namespace LawHistSound
open Go.ChangeShapes Go.WideShapes Go.ChangeAt Go.RowKit
open Go.ChangeMaps (open_string shut_string)
theorem own : ownKnob Try.prog.godebug = none := by kernel_rfl
theorem laidOut : laidOutB Try.prog = true := by kernel_rfl
set_option maxRecDepth 100000 in
theorem lifted (os : Os) (started : os.Started) (H : Type) (enc : TypeId × Value → H) :
    ReturnsInHanded {} Try.checked os 3 .any (Rows.histSoundSpec.pre6 enc Try.prog Try.f3 Rows.histSoundRow.domain false) (Rows.histSoundSpec.post enc Try.prog Try.f3 false true false false) := by
  refine returnsInHanded_of_change_sized (C := Try.checked) own started (by kernel_rfl) Try.func3
    (ChangeSpec.witness6 (enc := enc) (C := Try.checked) false ⟨#[], #[.slice none 0 0], []⟩ 8 (by kernel_rfl) (by kernel_rfl) (by kernel_rfl) (by kernel_rfl)) ?_
  intro W base args ds gs before hval0 hW hcnd hsz _
  have hval : ∀ (j : Nat) t v, Try.f3.params[j]? = some t → args[j]? = some v → Value.okWide Try.prog W .any base t v := hval0
  have hW' := hW
  obtain ⟨p, q, hA0, hV, rfl, hfz, hnd⟩ := hW
  have hA : DataW.TrodAll enc Try.prog W 0 (fun _ => true) true Try.f3.params.toList args.toList ds p := hA0
  rw [Try.params3] at hA hval hsz
  obtain ⟨v0, vs0, d0, ds0, p0, q0, hargs, rfl, rfl, h0, r0⟩ := trodAll_cons hA
  obtain ⟨rfl, rfl, rfl⟩ := trodAll_nil r0
  obtain rfl : args = #[v0] := by cases args; simp_all
  obtain ⟨rfl, rfl⟩ := trodVars_none hV
  obtain ⟨a0, n0, c0, rfl⟩ := okWide_slice Try.underlying22 (hval 0 22 v0 rfl rfl)
  have k0 := h0
  have lt0 : ∀ x ∈ p0, x.block < W.heap.size := by obtain ⟨m, hm⟩ := k0; exact DataW.trod_lt m _ _ _ hm
  obtain ⟨z0, w0, u0⟩ : ∃ l, Eds W (.slice a0 n0 c0) l ∧ ∀ i, i < l.length → I64 (edAt l i).op.res := by
    obtain ⟨fuel, hf⟩ := h0
    obtain ⟨l, v, hcs, hl, hu⟩ := open_eds hf (fun elems sp hx => by
      simp only at hx
      subst hx
      have hre := sized_slice hsz (j := 0) (t := 22) rfl rfl Try.underlying22
      have hby : Try.checked.prog.bytesOf 30 = 96 := by kernel_rfl
      rw [hby] at hre
      simp only [reachBytes] at hre
      omega)
    simp [Value.cells] at hcs
    subst hcs
    exact ⟨l, hl, hu⟩
  clear hA0 hval0
  refine (Sound_walk z0 (.slice a0 n0 c0) W w0 u0).mono fun e W' ⟨he, bel⟩ => ?_
  subst he
  exact ⟨_, rfl, _, _, _, [], _, [], hW', trodAll_mk1 (shut_bool Try.underlying4 _), (trodAll_cons_mk (Below.trod laidOut (by kernel_rfl) (of_decide_eq_true (by kernel_rfl)) k0 bel lt0) trodAll_mk0), rfl, bel.frame _, fun h => by cases h⟩
theorem over : Rows.histSoundRow.holds Try.pinned (OpenSpec.ofChange Rows.histSoundSpec) :=
  OpenClaim.holds_of_wide 3 Try.f3 rfl rfl rfl rfl rfl rfl rfl ⟨rfl, rfl, rfl, rfl, rfl⟩ rfl rfl rfl rfl rfl (by kernel_rfl) Try.func3 (by kernel_rfl)
    (of_decide_eq_true (by kernel_rfl)) (by unfold Func.isWrapper; first | (rw [if_pos (by decide +kernel)]; kernel_rfl) | (rw [if_neg (by decide +kernel)]; exact ⟨rfl, rfl⟩))
    (fun os started H enc _ => lifted os started H enc)
end LawHistSound
/-- The given statement. -/
theorem histSound_proved : Rows.HistSoundSaid := LawHistSound.over
#print axioms histSound_proved
end Go.Proofs.Ytljimlaalebmaaa
