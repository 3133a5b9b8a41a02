/- No index has no intervals. -/
import Derived.Test.YthmbnffddpnehaaINobody
namespace Go.Proofs.Ythmbnffddpnehaa
open Go.RowKit Go.Joins Go.ChangeShapes Go.WideShapes Go.Deep Go.WideElems Go.Maps
set_option linter.unusedVariables false
set_option linter.unusedSimpArgs false
set_option maxRecDepth 100000 in
set_option maxHeartbeats 8000000 in
theorem IntervalNobody_walk (x : ActR) (w : World) (hx : x.Fit) :
    Calls Try.prog 8 #[.agg #[.int .i64 x.kind, .int .i64 x.f, .int .i64 x.t, .string x.val, .int .i64 x.id]] w fun e w' => e = .returned (.bool true) ∧ Below w.heap.size w w' := by
  obtain ⟨kind, f, t, s, id⟩ := x
  unfold ActR.Fit at hx
  dsimp only at hx ⊢
  have HID := hid hx.2.2
  clear hx
  have HW := hid (fun w => awake_c w)
  obtain ⟨w1, hw1⟩ : ∃ w1, w1 = ((w.alloc (.cells #[.int .i64 kind, .int .i64 f, .int .i64 t, .string s, .int .i64 id] 63)).alloc (.cells #[.pointer none, .map none, .int .i64 0] 69)).alloc (.cells #[.pointer none, .pointer (some ⟨w.heap.size + 1, 0, none⟩)] 23) := ⟨_, rfl⟩
  have G1 := hid (show Grow w w1 from by rw [hw1]; exact Grow.trans (Grow.trans (Grow.alloc _ _) (Grow.alloc _ _)) (Grow.alloc _ _))
  have R0 := hid (show w1.heap[w.heap.size]? = some (.cells #[.int .i64 kind, .int .i64 f, .int .i64 t, .string s, .int .i64 id] 63 (0, 0)) from by rw [hw1]; exact heap_alloc_keep (heap_alloc_keep (heap_new w _) _) _)
  have R1 := hid (show w1.heap[w.heap.size + 1]? = some (.cells #[.pointer none, .map none, .int .i64 0] 69 (0, 0)) from by rw [hw1]; exact heap_alloc_keep (heap_newAt _ _ (by simp)) _)
  have R2 := hid (show w1.heap[w.heap.size + 2]? = some (.cells #[.pointer none, .pointer (some ⟨w.heap.size + 1, 0, none⟩)] 23 (0, 0)) from by rw [hw1]; exact heap_newAt _ _ (by simp))
  have HEQ := hid hw1
  clear hw1
  go_enter Try.func8, Try.ntmps8
  go_wp2_with fail
  go_loopw [13] (fun i wr => ∃ j : Nat, j ≤ 2 ∧ i = .int .i64 (j : Int) ∧ Grow w1 wr) (fun i _ => 2 - (intOf i).toNat)
  case atStart => exact ⟨0, by omega, rfl, by rw [HEQ.out]; exact Grow.refl _⟩
  case round =>
    obtain ⟨j, hj, rfl, hg⟩ := hrel
    have hj0 : (0 : Int) ≤ (j : Int) := by omega
    by_cases hlt : j < 2
    · have hj1 : (j : Int) < 2 := by omega
      have ra := hg.heap R0.out
      have r2 := hg.heap R2.out
      obtain ⟨q, c0, hq⟩ : ∃ q, wr.cell? ⟨w.heap.size + 2, j, none⟩ = some (.pointer q) ∧ NoIx wr q := by
        have : j = 0 ∨ j = 1 := by omega
        rcases this with rfl | rfl
        · exact ⟨none, by rw [heap_cell r2]; rfl, .inl rfl⟩
        · exact ⟨some ⟨w.heap.size + 1, 0, none⟩, by rw [heap_cell r2]; rfl, .inr ⟨_, rfl, hg.heap R1.out⟩⟩
      have a1 : wr.cell? ⟨w.heap.size, 1, none⟩ = some (.int .i64 f) := by rw [heap_cell ra]; rfl
      have a2 : wr.cell? ⟨w.heap.size, 2, none⟩ = some (.int .i64 t) := by rw [heap_cell ra]; rfl
      have a3 : wr.cell? ⟨w.heap.size, 3, none⟩ = some (.string s) := by rw [heap_cell ra]; rfl
      have a4 : wr.cell? ⟨w.heap.size, 4, none⟩ = some (.int .i64 id) := by rw [heap_cell ra]; rfl
      have hla := heap_lt ra
      have hlr := heap_lt r2
      have HQ := hid (fun (w' : World) (g : Grow wr w') => hq.grow g)
      clear ra r2 hq
      go_wp2_with fail
      refine (AddNo_c q f t s wr (HQ.out _ (Grow.refl _))).mono ?_
      rintro e w2 ⟨rfl, g2⟩
      replace a1 := g2.cell a1
      replace a2 := g2.cell a2
      replace a3 := g2.cell a3
      replace a4 := g2.cell a4
      replace hla := Nat.lt_of_lt_of_le hla g2.size
      have G2 := hid g2
      clear g2 c0
      go_wp2_with fail
      refine (GetNobody_c q id HID.out w2 (HQ.out _ G2.out)).mono ?_
      rintro e w3 ⟨rfl, g3⟩
      unfold itemV
      dsimp only
      have g3' := Grow.trans g3 (Grow.alloc w3 (.cells #[.int .i64 0, .int .i64 0, .string ByteArray.empty] 46))
      replace a1 := g3'.cell a1
      replace a2 := g3'.cell a2
      replace a3 := g3'.cell a3
      replace a4 := g3'.cell a4
      replace hla := Nat.lt_of_lt_of_le hla g3'.size
      have G3 := hid (Grow.trans G2.out g3')
      clear g3 g3'
      go_wp2_with fail
      generalize w3.alloc (.cells #[.int .i64 0, .int .i64 0, .string ByteArray.empty] 46) = w4 at *
      refine (RemoveNobody_c q id HID.out w4 (HQ.out _ G3.out)).mono ?_
      rintro e w5 ⟨rfl, g5⟩
      replace a1 := g5.cell a1
      replace a2 := g5.cell a2
      replace a3 := g5.cell a3
      replace a4 := g5.cell a4
      replace hla := Nat.lt_of_lt_of_le hla g5.size
      have G5 := hid (Grow.trans G3.out g5)
      clear g5
      go_wp2_with fail
      refine (LenNobody_c q w5 (HQ.out _ G5.out)).mono ?_
      rintro e w6 ⟨rfl, g6⟩
      replace a1 := g6.cell a1
      replace a2 := g6.cell a2
      replace a3 := g6.cell a3
      replace a4 := g6.cell a4
      replace hla := Nat.lt_of_lt_of_le hla g6.size
      have G6 := hid (Grow.trans G5.out g6)
      clear g6
      go_wp2_with fail
      refine (HeightNobody_c q w6 (HQ.out _ G6.out)).mono ?_
      rintro e w7 ⟨rfl, g7⟩
      replace a1 := g7.cell a1
      replace a2 := g7.cell a2
      replace a3 := g7.cell a3
      replace a4 := g7.cell a4
      replace hla := Nat.lt_of_lt_of_le hla g7.size
      have G7 := hid (Grow.trans G6.out g7)
      clear g7
      go_wp2_with fail
      refine (metNobody_c q f t w7 (HQ.out _ G7.out)).mono ?_
      rintro e w8 ⟨⟨A8, c8, rfl⟩, g8⟩
      go_wp2_with fail
      refine ⟨⟨j + 1, by omega, by push_cast; rfl, Grow.trans hg (Grow.trans G7.out g8)⟩, ?_⟩
      simp [intOf]
      omega
    · obtain rfl : j = 2 := by omega
      go_wp2_with fail
      refine (HW.out _).mono ?_
      rintro e w9 ⟨rfl, g9⟩
      go_wp2_with fail
      go_ret
      exact ⟨rfl, Grow.trans G1.out (Grow.trans hg g9)⟩
namespace LawIntervalNobody
open Go.ChangeShapes Go.WideShapes Go.ChangeAt Go.RowKit
open Go.ChangeMaps (open_string shut_string)
theorem own : ownKnob Try.prog.godebug = none := by kernel_rfl
theorem laidOut : laidOutB Try.prog = true := by kernel_rfl
set_option maxRecDepth 100000 in
theorem lifted (os : Os) (started : os.Started) (H : Type) (enc : TypeId × Value → H) :
    ReturnsInHanded {} Try.checked os 8 .any (Rows.intervalNobodySpec.pre6 enc Try.prog Try.f8 Rows.intervalNobodyRow.domain false) (Rows.intervalNobodySpec.post enc Try.prog Try.f8 false true false false) := by
  refine returnsInHanded_of_change_sized (C := Try.checked) own started (by kernel_rfl) Try.func8
    (ChangeSpec.witness6 (enc := enc) (C := Try.checked) false ⟨#[], #[.agg #[.int .i64 0, .int .i64 0, .int .i64 0, .string ByteArray.empty, .int .i64 0]], []⟩ 8 (by kernel_rfl) (by kernel_rfl) (by kernel_rfl) (by kernel_rfl)) ?_
  intro W base args ds gs before hval0 hW hcnd hsz _
  have hval : ∀ (j : Nat) t v, Try.f8.params[j]? = some t → args[j]? = some v → Value.okWide Try.prog W .any base t v := hval0
  have hW' := hW
  obtain ⟨p, q, hA0, hV, rfl, hfz, hnd⟩ := hW
  have hA : DataW.TrodAll enc Try.prog W 0 (fun _ => true) true Try.f8.params.toList args.toList ds p := hA0
  rw [Try.params8] at hA hval hsz
  obtain ⟨v0, vs0, d0, ds0, p0, q0, hargs, rfl, rfl, h0, r0⟩ := trodAll_cons hA
  obtain ⟨rfl, rfl, rfl⟩ := trodAll_nil r0
  obtain rfl : args = #[v0] := by cases args; simp_all
  obtain ⟨rfl, rfl⟩ := trodVars_none hV
  have k0 := h0
  have lt0 : ∀ x ∈ p0, x.block < W.heap.size := by obtain ⟨m, hm⟩ := k0; exact DataW.trod_lt m _ _ _ hm
  obtain ⟨a0, rfl, w0⟩ := open_act (hval 0 63 v0 rfl rfl) h0
  clear hA0 hval0
  refine (IntervalNobody_walk a0 W w0).mono fun e W' ⟨he, bel⟩ => ?_
  subst he
  exact ⟨_, rfl, _, _, _, [], _, [], hW', trodAll_mk1 (shut_bool Try.underlying4 _), (trodAll_cons_mk (Below.trod laidOut (by kernel_rfl) (of_decide_eq_true (by kernel_rfl)) k0 bel lt0) trodAll_mk0), rfl, bel.frame _, fun h => by cases h⟩
theorem over : Rows.intervalNobodyRow.holds Try.pinned (OpenSpec.ofChange Rows.intervalNobodySpec) :=
  OpenClaim.holds_of_wide 8 Try.f8 rfl rfl rfl rfl rfl rfl rfl ⟨rfl, rfl, rfl, rfl, rfl⟩ rfl rfl rfl rfl rfl (by kernel_rfl) Try.func8 (by kernel_rfl)
    (of_decide_eq_true (by kernel_rfl)) (by unfold Func.isWrapper; first | (rw [if_pos (by decide +kernel)]; kernel_rfl) | (rw [if_neg (by decide +kernel)]; exact ⟨rfl, rfl⟩))
    (fun os started H enc _ => lifted os started H enc)
end LawIntervalNobody
/-- The given statement. -/
theorem intervalNobody_proved : Rows.IntervalNobodySaid := LawIntervalNobody.over
#print axioms intervalNobody_proved
end Go.Proofs.Ythmbnffddpnehaa
