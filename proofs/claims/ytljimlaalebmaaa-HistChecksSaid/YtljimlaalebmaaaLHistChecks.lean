/- Which histories may be, what is wrong with the others, and each operation of one: hist's answers are the reference's. -/
import Derived.Test.YtljimlaalebmaaaHAwake
import Derived.Test.YtljimlaalebmaaaHRCheck
import Derived.Test.YtljimlaalebmaaaHGet
import Derived.Test.YtljimlaalebmaaaHRGet
import Derived.Test.YtljimlaalebmaaaHLift
import Derived.Test.YtljimlaalebmaaaHOps
namespace Go.Proofs.Ytljimlaalebmaaa
open Go.RowKit
set_option linter.unusedVariables false
set_option linter.unusedSimpArgs false
set_option maxRecDepth 100000 in
set_option maxHeartbeats 4000000 in
theorem Checks_walk (l : List OpR) (v : Value) (x : Int) (w : World) (hv : Ops w v l) (hl : l.length ≤ 1600000000000) (hf : FitL l) (hx : -9223372036854775808 ≤ x) (hx2 : x ≤ 9223372036854775807) :
    Calls Try.prog 6 #[v, .int .i64 x] w fun e w' => e = .returned (.bool true) ∧ Below w.heap.size w w' := by
  have HW := hid (fun w => awake_c w)
  have HC := hid (fun w' (g : Grow w w') => HCheck_c l v w' (hv.grow g) hf)
  have HR := hid (fun w' (g : Grow w w') => HRCheck_c l v w' (hv.grow g))
  have HG := hid (fun (h : histE l = 0) w' (g : Grow w w') y hy => Get_c l x y v w' (hv.grow g) (hist_of h).rise hy)
  have HRG := hid (fun (h : histE l = 0) w' (g : Grow w w') y hy => RGet_c l x y v w' (hv.grow g) (hist_of h).rise hy)
  obtain ⟨p, cap, rfl, -⟩ := hv
  clear hf
  generalize histE l = E at *
  obtain ⟨y, hy⟩ : ∃ y, y = getO l x := ⟨_, rfl⟩
  have HY := hid hy
  clear hy
  generalize thereB l x = B at *
  generalize hN : l.length = n at *
  clear hN
  by_cases h80 : 80 < n
  · have hd : (80 : Int) < (n : Int) := by omega
    go_enter Try.func6, Try.ntmps6
    go_wp2_with fail
    refine (HW.out _).mono ?_
    rintro e w1 ⟨rfl, b1⟩
    go_wp2_with fail
    go_ret
    exact ⟨rfl, b1⟩
  have hd : ¬ (80 : Int) < (n : Int) := by omega
  by_cases hE : E = 0
  · subst hE
    have HG2 := hid (fun w' g => HG.out rfl w' g y HY.out)
    have HRG2 := hid (fun w' g => HRG.out rfl w' g y HY.out)
    clear HG HRG HY
    obtain ⟨id, proc, obj, kind, meth, arg, sec, done, res, inv, ret⟩ := y
    have hgd := op_guard
    have heq := op_eql id proc obj kind meth arg sec done res inv ret
    go_enter Try.func6, Try.ntmps6
    go_wp2_with fail
    refine (HC.out _ (Grow.refl _)).mono ?_
    rintro e w1 ⟨rfl, b1⟩
    go_wp2_with fail
    refine (HR.out _ b1).mono ?_
    rintro e w2 ⟨rfl, b2⟩
    have g2 := hid (Grow.trans b1 b2)
    clear b1 b2
    go_wp2_with fail
    refine (HR.out _ g2.out).mono ?_
    rintro e w3 ⟨rfl, b3⟩
    have g3 := hid (Grow.trans g2.out b3)
    clear b3
    go_wp2_with fail
    refine (HG2.out _ g3.out).mono ?_
    rintro e w4 ⟨rfl, b4⟩
    have g4 := hid (Grow.trans g3.out b4)
    clear b4
    go_wp2_with fail
    refine (HRG2.out _ (Grow.trans g4.out (Grow.alloc _ _))).mono ?_
    rintro e w5 ⟨rfl, b5⟩
    have k5 := b5.cells
    have z5 : w4.heap.size < w5.heap.size := (by have := b5.size; simp at this; omega)
    have g5 := hid (Grow.trans (Grow.trans g4.out (Grow.alloc _ _)) b5)
    have hBB : (B == B) = true := by simp
    go_wp2_with fail
    refine (HW.out _).mono ?_
    rintro e w6 ⟨rfl, b6⟩
    go_wp2_with fail
    go_ret
    exact ⟨rfl, Grow.trans g5.out (Grow.trans (Grow.alloc _ _) b6)⟩
  · go_enter Try.func6, Try.ntmps6
    go_wp2_with fail
    refine (HC.out _ (Grow.refl _)).mono ?_
    rintro e w1 ⟨rfl, b1⟩
    go_wp2_with fail
    refine (HR.out _ b1).mono ?_
    rintro e w2 ⟨rfl, b2⟩
    have g2 := hid (Grow.trans b1 b2)
    clear b1 b2
    go_wp2_with fail
    refine (HR.out _ g2.out).mono ?_
    rintro e w3 ⟨rfl, b3⟩
    have g3 := hid (Grow.trans g2.out b3)
    clear b3
    go_wp2_with fail
    refine (HW.out _).mono ?_
    rintro e w4 ⟨rfl, b4⟩
    go_wp2_with fail
    go_ret
    exact ⟨rfl, Grow.trans g3.out b4⟩
namespace LawHistChecks
open Go.ChangeShapes Go.WideShapes Go.ChangeAt Go.RowKit
open Go.ChangeMaps (open_string shut_string)
theorem own : ownKnob Try.prog.godebug = none := by kernel_rfl
theorem laidOut : laidOutB Try.prog = true := by kernel_rfl
set_option maxRecDepth 100000 in
theorem lifted (os : Os) (started : os.Started) (H : Type) (enc : TypeId × Value → H) :
    ReturnsInHanded {} Try.checked os 6 .any (Rows.histChecksSpec.pre6 enc Try.prog Try.f6 Rows.histChecksRow.domain false) (Rows.histChecksSpec.post enc Try.prog Try.f6 false true false false) := by
  refine returnsInHanded_of_change_sized (C := Try.checked) own started (by kernel_rfl) Try.func6
    (ChangeSpec.witness6 (enc := enc) (C := Try.checked) false ⟨#[], #[.slice none 0 0, .int .i64 0], []⟩ 8 (by kernel_rfl) (by kernel_rfl) (by kernel_rfl) (by kernel_rfl)) ?_
  intro W base args ds gs before hval0 hW hcnd hsz _
  have hval : ∀ (j : Nat) t v, Try.f6.params[j]? = some t → args[j]? = some v → Value.okWide Try.prog W .any base t v := hval0
  have hW' := hW
  obtain ⟨p, q, hA0, hV, rfl, hfz, hnd⟩ := hW
  have hA : DataW.TrodAll enc Try.prog W 0 (fun _ => true) true Try.f6.params.toList args.toList ds p := hA0
  rw [Try.params6] at hA hval hsz
  obtain ⟨v0, vs0, d0, ds0, p0, q0, hargs, rfl, rfl, h0, r0⟩ := trodAll_cons hA
  obtain ⟨v1, vs1, d1, ds1, p1, q1, rfl, rfl, rfl, h1, r1⟩ := trodAll_cons r0
  obtain ⟨rfl, rfl, rfl⟩ := trodAll_nil r1
  obtain rfl : args = #[v0, v1] := by cases args; simp_all
  obtain ⟨rfl, rfl⟩ := trodVars_none hV
  obtain ⟨a0, n0, c0, rfl⟩ := okWide_slice Try.underlying23 (hval 0 23 v0 rfl rfl)
  have k0 := h0
  have lt0 : ∀ x ∈ p0, x.block < W.heap.size := by obtain ⟨m, hm⟩ := k0; exact DataW.trod_lt m _ _ _ hm
  obtain ⟨z0, w0, u0, f0⟩ : ∃ l, Ops W (.slice a0 n0 c0) l ∧ l.length ≤ 1600000000000 ∧ ∀ k, k < l.length → I64 (opAt l k).res := by
    obtain ⟨fuel, hf⟩ := h0
    obtain ⟨l, v, hcs, hl, hu, hff⟩ := open_opsF (B := 1600000000000) (by omega) hf (fun elems sp hx => by
      simp only at hx
      subst hx
      have hre := sized_slice hsz (j := 0) (t := 23) rfl rfl Try.underlying23
      have hby : Try.checked.prog.bytesOf 25 = 88 := by kernel_rfl
      rw [hby] at hre
      simp only [reachBytes] at hre
      omega)
    simp [Value.cells] at hcs
    subst hcs
    exact ⟨l, hl, hu, hff⟩
  obtain ⟨a1, rfl, rfl, rfl, w1⟩ := open_int Try.underlying3 (hval 1 3 v1 rfl rfl) h1
  have b1 := wf_i64 w1
  clear hA0 hval0
  refine (Checks_walk z0 (.slice a0 n0 c0) a1 W w0 u0 f0 b1.1 b1.2).mono fun e W' ⟨he, bel⟩ => ?_
  subst he
  exact ⟨_, rfl, _, _, _, [], _, [], hW', trodAll_mk1 (shut_bool Try.underlying4 _), (trodAll_cons_mk (Below.trod laidOut (by kernel_rfl) (of_decide_eq_true (by kernel_rfl)) k0 bel lt0) (trodAll_cons_mk (shut_int Try.underlying3 w1) trodAll_mk0)), rfl, bel.frame _, fun h => by cases h⟩
theorem over : Rows.histChecksRow.holds Try.pinned (OpenSpec.ofChange Rows.histChecksSpec) :=
  OpenClaim.holds_of_wide 6 Try.f6 rfl rfl rfl rfl rfl rfl rfl ⟨rfl, rfl, rfl, rfl, rfl⟩ rfl rfl rfl rfl rfl (by kernel_rfl) Try.func6 (by kernel_rfl)
    (of_decide_eq_true (by kernel_rfl)) (by unfold Func.isWrapper; first | (rw [if_pos (by decide +kernel)]; kernel_rfl) | (rw [if_neg (by decide +kernel)]; exact ⟨rfl, rfl⟩))
    (fun os started H enc _ => lifted os started H enc)
end LawHistChecks
/-- The given statement. -/
theorem histChecks_proved : Rows.HistChecksSaid := LawHistChecks.over
#print axioms histChecks_proved
end Go.Proofs.Ytljimlaalebmaaa
