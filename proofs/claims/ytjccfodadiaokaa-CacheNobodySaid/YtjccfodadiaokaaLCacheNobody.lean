/- No cache keeps nothing. -/
import Derived.Test.YtjccfodadiaokaaCAwake
import Derived.Test.YtjccfodadiaokaaCAll
import Derived.Test.YtjccfodadiaokaaCActLift
namespace Go.Proofs.Ytjccfodadiaokaa
open Go.RowKit
set_option linter.unusedVariables false
set_option linter.unusedSimpArgs false
set_option maxRecDepth 100000 in
set_option maxHeartbeats 8000000 in
theorem Nobody_walk (a : ActR) (w : World) :
    Calls Try.prog 8 #[.agg #[.int .i64 a.kind, .int .i64 a.key, .string a.val]] w fun e w' => e = .returned (.bool true) ∧ Below w.heap.size w w' := by
  obtain ⟨kind, key, val⟩ := a
  dsimp only
  have HW := hid (fun w => awake_c w)
  go_enter Try.func8, Try.ntmps8
  go_wp2_with fail
  have g0 := Grow.alloc w (.cells #[.int .i64 kind, .int .i64 key, .string val] 37)
  have g1 := Grow.alloc (w.alloc (.cells #[.int .i64 kind, .int .i64 key, .string val] 37)) (.cells #[.int .i64 0, .slice none 0 0] 65)
  have g2 := Grow.alloc ((w.alloc (.cells #[.int .i64 kind, .int .i64 key, .string val] 37)).alloc (.cells #[.int .i64 0, .slice none 0 0] 65)) (.cells #[.pointer none, .pointer (some ⟨w.heap.size + 1, 0, none⟩)] 24)
  have HGA := hid (Grow.trans (Grow.trans g0 g1) g2)
  have a0 := g2.heap (g1.heap (heap_new w (.cells #[.int .i64 kind, .int .i64 key, .string val] 37)))
  have a1 := g2.heap (heap_newAt (g := w.heap.size + 1) (w.alloc (.cells #[.int .i64 kind, .int .i64 key, .string val] 37)) (.cells #[.int .i64 0, .slice none 0 0] 65) (by simp))
  have a2 := heap_newAt (g := w.heap.size + 1 + 1) ((w.alloc (.cells #[.int .i64 kind, .int .i64 key, .string val] 37)).alloc (.cells #[.int .i64 0, .slice none 0 0] 65)) (.cells #[.pointer none, .pointer (some ⟨w.heap.size + 1, 0, none⟩)] 24) (by simp)
  clear g0 g1 g2
  generalize ((w.alloc (.cells #[.int .i64 kind, .int .i64 key, .string val] 37)).alloc (.cells #[.int .i64 0, .slice none 0 0] 65)).alloc (.cells #[.pointer none, .pointer (some ⟨w.heap.size + 1, 0, none⟩)] 24) = w1 at *
  have c1 : w1.cell? ⟨w.heap.size, 1, none⟩ = some (.int .i64 key) := by rw [heap_cell a0]; rfl
  have c2 : w1.cell? ⟨w.heap.size, 2, none⟩ = some (.string val) := by rw [heap_cell a0]; rfl
  have p0 : w1.cell? ⟨w.heap.size + 1 + 1, 0, none⟩ = some (.pointer none) := by rw [heap_cell a2]; rfl
  have p1 : w1.cell? ⟨w.heap.size + 1 + 1, 1, none⟩ = some (.pointer (some ⟨w.heap.size + 1, 0, none⟩)) := by rw [heap_cell a2]; rfl
  have l1 : w.heap.size < w1.heap.size := heap_lt a0
  have l2 : w.heap.size + 1 + 1 < w1.heap.size := heap_lt a2
  have HCA := hid (show CacheAt w1 (w.heap.size + 1) 0 (.slice none 0 0) [] from ⟨a1, World.ownsRow_nil _ _ _ _⟩)
  clear a0 a1 a2
  go_loopw [14] (fun i wr => ∃ j : Nat, j ≤ 2 ∧ i = .int .i64 (j : Int) ∧ Grow w1 wr) (fun i _ => 2 - (intOf i).toNat)
  case atStart => exact ⟨0, by omega, rfl, Grow.refl _⟩
  case round =>
    obtain ⟨j, hj, rfl, hg⟩ := hrel
    have hj3 : j = 0 ∨ j = 1 ∨ j = 2 := by omega
    rcases hj3 with rfl | rfl | rfl
    · clear hj
      have k1 := hg.cell c1
      have k2 := hg.cell c2
      have r0 := hg.cell p0
      have r1 := hg.cell p1
      have s1 := Nat.lt_of_lt_of_le l1 hg.size
      have s2 := Nat.lt_of_lt_of_le l2 hg.size
      go_wp2_with fail
      refine (GetNil_c key wr).mono ?_
      rintro e x1 ⟨rfl, g1⟩
      have G1 := Grow.trans hg g1
      clear k1 k2 s1 r0 r1 s2
      have k1 := G1.cell c1
      have k2 := G1.cell c2
      have s1 := Nat.lt_of_lt_of_le l1 G1.size
      go_wp2_with fail
      refine (PutNil_c key val x1).mono ?_
      rintro e x2 ⟨rfl, g2⟩
      have G2 := Grow.trans G1 g2
      clear k1 k2 s1
      have k1 := G2.cell c1
      have k2 := G2.cell c2
      have s1 := Nat.lt_of_lt_of_le l1 G2.size
      go_wp2_with fail
      refine (PinNil_c key x2).mono ?_
      rintro e x3 ⟨rfl, g3⟩
      have G3 := Grow.trans G2 g3
      clear k1 k2 s1
      have k1 := G3.cell c1
      have k2 := G3.cell c2
      have s1 := Nat.lt_of_lt_of_le l1 G3.size
      go_wp2_with fail
      refine (UnpinNil_c key x3).mono ?_
      rintro e x4 ⟨rfl, g4⟩
      have G4 := Grow.trans G3 g4
      clear k1 k2 s1
      have k1 := G4.cell c1
      have k2 := G4.cell c2
      have s1 := Nat.lt_of_lt_of_le l1 G4.size
      go_wp2_with fail
      refine (DropNil_c key x4).mono ?_
      rintro e x5 ⟨rfl, g5⟩
      have G5 := Grow.trans G4 g5
      clear k1 k2 s1
      have k1 := G5.cell c1
      have k2 := G5.cell c2
      have s1 := Nat.lt_of_lt_of_le l1 G5.size
      go_wp2_with fail
      refine (LenNil_c x5).mono ?_
      rintro e x6 ⟨rfl, rfl⟩
      clear k1 k2 s1
      have k1 := G5.cell c1
      have k2 := G5.cell c2
      have s1 := Nat.lt_of_lt_of_le l1 G5.size
      go_wp2_with fail
      refine (keptNil_c 9 x5 (by omega)).mono ?_
      rintro e x7 ⟨rfl, g7⟩
      have G7 := Grow.trans G5 g7
      clear k1 k2 s1
      go_wp2_with fail
      go_roundw
      case rel => exact ⟨1, by omega, by first | rfl | go_num, G7⟩
      case measure => (simp [intOf]; try omega)
    · clear hj
      have k1 := hg.cell c1
      have k2 := hg.cell c2
      have r0 := hg.cell p0
      have r1 := hg.cell p1
      have s1 := Nat.lt_of_lt_of_le l1 hg.size
      have s2 := Nat.lt_of_lt_of_le l2 hg.size
      go_wp2_with fail
      refine (GetOut_c (w.heap.size + 1) 0 _ [] key wr (HCA.out.grow hg) (by simp) (by simp)).mono ?_
      rintro e x1 ⟨rfl, g1⟩
      have G1 := Grow.trans hg g1
      clear k1 k2 s1 r0 r1 s2
      have k1 := G1.cell c1
      have k2 := G1.cell c2
      have s1 := Nat.lt_of_lt_of_le l1 G1.size
      go_wp2_with fail
      refine (PutEmpty_c (w.heap.size + 1) _ [] key val x1 (HCA.out.grow G1)).mono ?_
      rintro e x2 ⟨rfl, g2⟩
      have G2 := Grow.trans G1 g2
      clear k1 k2 s1
      have k1 := G2.cell c1
      have k2 := G2.cell c2
      have s1 := Nat.lt_of_lt_of_le l1 G2.size
      go_wp2_with fail
      refine (PinOut_c (w.heap.size + 1) 0 _ [] key x2 (HCA.out.grow G2) (by simp) (by simp)).mono ?_
      rintro e x3 ⟨rfl, g3⟩
      have G3 := Grow.trans G2 g3
      clear k1 k2 s1
      have k1 := G3.cell c1
      have k2 := G3.cell c2
      have s1 := Nat.lt_of_lt_of_le l1 G3.size
      go_wp2_with fail
      refine (UnpinOut_c (w.heap.size + 1) 0 _ [] key x3 (HCA.out.grow G3) (by simp) (by simp)).mono ?_
      rintro e x4 ⟨rfl, g4⟩
      have G4 := Grow.trans G3 g4
      clear k1 k2 s1
      have k1 := G4.cell c1
      have k2 := G4.cell c2
      have s1 := Nat.lt_of_lt_of_le l1 G4.size
      go_wp2_with fail
      refine (DropOut_c (w.heap.size + 1) 0 _ [] key x4 (HCA.out.grow G4) (by simp) (by simp)).mono ?_
      rintro e x5 ⟨rfl, g5⟩
      have G5 := Grow.trans G4 g5
      clear k1 k2 s1
      have k1 := G5.cell c1
      have k2 := G5.cell c2
      have s1 := Nat.lt_of_lt_of_le l1 G5.size
      go_wp2_with fail
      refine (Len_c (w.heap.size + 1) 0 _ [] x5 (HCA.out.grow G5)).mono ?_
      rintro e x6 ⟨rfl, rfl⟩
      clear k1 k2 s1
      have k1 := G5.cell c1
      have k2 := G5.cell c2
      have s1 := Nat.lt_of_lt_of_le l1 G5.size
      go_wp2_with fail
      refine (kept_c (w.heap.size + 1) 0 _ [] 9 x5 (HCA.out.grow G5) (by simp) (by omega)).mono ?_
      rintro e x7 ⟨lv, rfl, ho, g7⟩
      obtain ⟨A, c, rfl⟩ := own_form ho
      have G7 := Grow.trans G5 g7
      clear k1 k2 s1
      go_wp2_with fail
      go_roundw
      case rel => exact ⟨2, by omega, by first | rfl | go_num, G7⟩
      case measure => (simp [intOf]; try omega)
    · clear hj
      go_wp2_with fail
      refine (HW.out _).mono ?_
      rintro e w5 ⟨rfl, b5⟩
      go_wp2_with fail
      go_ret
      exact ⟨rfl, Below.trans (Below.trans HGA.out (Below.mono hg HGA.out.size)) (Below.mono b5 (Nat.le_trans HGA.out.size hg.size))⟩
namespace LawCacheNobody
open Go.ChangeShapes Go.WideShapes Go.ChangeAt Go.RowKit
open Go.ChangeMaps (open_string shut_string)
theorem own : ownKnob Try.prog.godebug = none := by kernel_rfl
theorem laidOut : laidOutB Try.prog = true := by kernel_rfl
set_option maxRecDepth 100000 in
theorem lifted (os : Os) (started : os.Started) (H : Type) (enc : TypeId × Value → H) :
    ReturnsInHanded {} Try.checked os 8 .any (Rows.cacheNobodySpec.pre6 enc Try.prog Try.f8 Rows.cacheNobodyRow.domain false) (Rows.cacheNobodySpec.post enc Try.prog Try.f8 false true false false) := by
  refine returnsInHanded_of_change_sized (C := Try.checked) own started (by kernel_rfl) Try.func8
    (ChangeSpec.witness6 (enc := enc) (C := Try.checked) false ⟨#[], #[.agg #[.int .i64 0, .int .i64 0, .string ByteArray.empty]], []⟩ 8 (by kernel_rfl) (by kernel_rfl) (by kernel_rfl) (by kernel_rfl)) ?_
  intro W base args ds gs before hval0 hW hcnd hsz _
  have hval : ∀ (j : Nat) t v, Try.f8.params[j]? = some t → args[j]? = some v → Value.okWide Try.prog W .any base t v := hval0
  have hW' := hW
  obtain ⟨p, q, hA0, hV, rfl, hfz, hnd⟩ := hW
  have hA : DataW.TrodAll enc Try.prog W 0 (fun _ => true) true Try.f8.params.toList args.toList ds p := hA0
  rw [Try.params8] at hA hval hsz
  obtain ⟨v0, vs0, d0, ds0, p0, q0, hargs, rfl, rfl, h0, r0⟩ := trodAll_cons hA
  obtain ⟨rfl, rfl, rfl⟩ := trodAll_nil r0
  obtain rfl : args = #[v0] := by cases args; simp_all
  obtain ⟨rfl, rfl⟩ := trodVars_none hV
  have k0 := h0
  have lt0 : ∀ x ∈ p0, x.block < W.heap.size := by obtain ⟨m, hm⟩ := k0; exact DataW.trod_lt m _ _ _ hm
  obtain ⟨a0, rfl⟩ := open_act (hval 0 37 v0 rfl rfl) h0
  clear hA0 hval0
  refine (Nobody_walk a0 W ).mono fun e W' ⟨he, bel⟩ => ?_
  subst he
  exact ⟨_, rfl, _, _, _, [], _, [], hW', trodAll_mk1 (shut_bool Try.underlying4 _), (trodAll_cons_mk (Below.trod laidOut (by kernel_rfl) (of_decide_eq_true (by kernel_rfl)) k0 bel lt0) trodAll_mk0), rfl, bel.frame _, fun h => by cases h⟩
theorem over : Rows.cacheNobodyRow.holds Try.pinned (OpenSpec.ofChange Rows.cacheNobodySpec) :=
  OpenClaim.holds_of_wide 8 Try.f8 rfl rfl rfl rfl rfl rfl rfl ⟨rfl, rfl, rfl, rfl, rfl⟩ rfl rfl rfl rfl rfl (by kernel_rfl) Try.func8 (by kernel_rfl)
    (of_decide_eq_true (by kernel_rfl)) (by unfold Func.isWrapper; first | (rw [if_pos (by decide +kernel)]; kernel_rfl) | (rw [if_neg (by decide +kernel)]; exact ⟨rfl, rfl⟩))
    (fun os started H enc _ => lifted os started H enc)
end LawCacheNobody
/-- The given statement. -/
theorem cacheNobody_proved : Rows.CacheNobodySaid := LawCacheNobody.over
#print axioms cacheNobody_proved
end Go.Proofs.Ytjccfodadiaokaa
