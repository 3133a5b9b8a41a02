/- A history with more operations begins with the one with fewer. -/
import Derived.Test.YtlhgdbangnohjaaGTail
namespace Go.Proofs.Ytlhgdbangnohjaa
open Go.RowKit
set_option linter.unusedVariables false
set_option linter.unusedSimpArgs false
set_option maxRecDepth 100000 in
set_option maxHeartbeats 4000000 in
theorem GenLonger_walk (c : GenC) (m : Int) (w : World) (hf : c.Fit) (l0 : 0 ≤ m) (l1 : m ≤ 255) :
    Calls Try.prog 8 #[.agg #[.int .u64 c.seed, .int .i64 c.procs, .int .i64 c.objects, .int .i64 c.ops, .int .i64 c.wrong, .int .i64 c.pending], .int .u8 m] w fun e w' => e = .returned (.bool true) ∧ Below w.heap.size w w' := by
  have haw := hid (fun w => awake_c w)
  obtain ⟨r, hr⟩ : ∃ r, r = m % 8 := ⟨_, rfl⟩
  have hw1 : m.tmod 8 = r := by rw [Int.tmod_eq_emod_of_nonneg l0]; omega
  have hr0 : 0 ≤ r := by omega
  have hr7 : r ≤ 7 := by omega
  have hw2 : wrap64 r = r := by unfold wrap64; omega
  obtain ⟨o2, ho2⟩ : ∃ z, z = wrap64 (c.ops + r) := ⟨_, rfl⟩
  have hw3 := ho2.symm
  have hh1 := hid (fun w => (History_c c hf.seed w).mono (fun e w' h => HistPost.open h (by have := hist_len c; omega)))
  have hh2 := hid (fun w => (History_c { c with ops := o2 } hf.seed w).mono (fun e w' h => HistPost.open h (by have := hist_len { c with ops := o2 }; omega)))
  have hof1 := hid (fun w => of_c c w)
  have hof2 := hid (fun w => of_c { c with ops := o2 } w)
  by_cases hg : c.good
  · have hg3 := hg
    obtain ⟨g1, g16, g2, g26, g3, g64, -⟩ := hg3
    have hno : o2 = c.ops + r := by rw [ho2]; unfold wrap64; omega
    by_cases hg2 : ({ c with ops := o2 } : GenC).good
    · have hlaw := longer_law hg (show c.ops ≤ o2 by omega)
      rw [histG_good hg] at hh1
      rw [histG_good hg2] at hh2
      dsimp only at hh1 hh2 hlaw
      generalize (stepsG c (firstG c) c.ops.toNat).l = la at *
      generalize (stepsG { c with ops := o2 } (firstG { c with ops := o2 }) o2.toNat).l = lb at *
      have HP := hid hlaw
      have hle : la.length ≤ lb.length := hlaw.length_le
      generalize hna : la.length = na at *
      generalize hnb : lb.length = nb at *
      have HNA := hid hna
      have hleI : (na : Int) ≤ (nb : Int) := by omega
      clear hg hg2 hno ho2 g1 g16 g2 g26 g3 g64 hf hlaw hr l0 l1 hna hnb
      obtain ⟨seed, procs, objects, ops, wrong, pending⟩ := c
      dsimp only at *
      go_enter Try.func8, Try.ntmps8
      go_wp2_with fail
      refine (hof1.out _).mono ?_
      rintro e w1 ⟨rfl, b1⟩
      have g1 : Grow w w1 := Grow.trans (Grow.alloc _ _) b1
      have hb1 : w1.heap[w.heap.size]? = some (.cells #[.int .u64 seed, .int .i64 procs, .int .i64 objects, .int .i64 ops, .int .i64 wrong, .int .i64 pending] 37 (0, 0)) := b1.heap (heap_new w _)
      have hlt1 := heap_lt hb1
      have HB1 := hid hb1
      clear b1 hb1
      go_wp2_with fail
      refine (hh1.out _).mono ?_
      rintro e w2 ⟨A, ka, rfl, oa, la1, ka1, b2⟩
      have hb2 := Grow.heap b2 HB1.out
      have G2 := hid (Grow.trans g1 b2)
      have OA := hid oa
      have LA := hid la1
      have hs2 : w1.heap.size ≤ w2.heap.size := b2.size
      have c0 : w2.cell? ⟨w.heap.size, 0, none⟩ = some (.int .u64 seed) := by rw [heap_cell hb2]; rfl
      have c1 : w2.cell? ⟨w.heap.size, 1, none⟩ = some (.int .i64 procs) := by rw [heap_cell hb2]; rfl
      have c2 : w2.cell? ⟨w.heap.size, 2, none⟩ = some (.int .i64 objects) := by rw [heap_cell hb2]; rfl
      have c3 : w2.cell? ⟨w.heap.size, 3, none⟩ = some (.int .i64 ops) := by rw [heap_cell hb2]; rfl
      have c4 : w2.cell? ⟨w.heap.size, 4, none⟩ = some (.int .i64 wrong) := by rw [heap_cell hb2]; rfl
      have c5 : w2.cell? ⟨w.heap.size, 5, none⟩ = some (.int .i64 pending) := by rw [heap_cell hb2]; rfl
      have f3 := heap_frozen hb2 3 (by omega)
      clear oa la1 b2 hb2 g1
      go_wp2_with fail
      refine (hof2.out _).mono ?_
      rintro e w3 ⟨rfl, b3⟩
      have G3 := hid (Grow.trans (show Grow w (w2.setCell ⟨w.heap.size, 3, none⟩ (.int .i64 o2)) from Below.setCell G2.out (p := ⟨w.heap.size, 3, none⟩) (Nat.le_refl _) _) b3)
      have OA3 := hid ((OA.out.keep LA.out (w' := w2.setCell ⟨w.heap.size, 3, none⟩ (.int .i64 o2)) (fun k hk => Below.heap_setCell _ _ _ _ (by show k ≠ w.heap.size; omega))).grow b3)
      clear b3 c0 c1 c2 c3 c4 c5 f3 OA
      go_wp2_with fail
      refine (hh2.out _).mono ?_
      rintro e w4 ⟨B, kb, rfl, ob, lb1, kb1, b4⟩
      have G4 := hid (Grow.trans G3.out b4)
      have OA4 := hid (OA3.out.grow b4)
      have OB4 := hid ob
      clear b4 ob lb1 OA3 G3
      have hkI : (na : Int) ≤ (kb : Int) := by omega
      have h0I : (0 : Int) ≤ (na : Int) := by omega
      have OB5 := hid (show Ops w4 (.slice B na kb) la by rw [← HNA.out]; exact OB4.out.front HP.out)
      go_wp2_with fail
      refine (ROps_c la _ _ _ OA4.out OB5.out).mono ?_
      rintro e w6 ⟨rfl, b6⟩
      replace G4 := hid (Grow.trans G4.out b6)
      clear b6
      go_wp2_with fail
      refine (haw.out _).mono ?_
      rintro e w5 ⟨rfl, b5⟩
      have G5 := hid (Grow.trans G4.out b5)
      clear b5
      go_wp2_with fail
      go_ret
      exact ⟨rfl, G5.out⟩
    · rw [histG_good hg] at hh1
      rw [histG_bad hg2] at hh2
      dsimp only at hh1 hh2
      generalize (stepsG c (firstG c) c.ops.toNat).l = la at *
      generalize la.length = na at *
      clear hg hg2 hno ho2 g1 g16 g2 g26 g3 g64 hf hr l0 l1
      obtain ⟨seed, procs, objects, ops, wrong, pending⟩ := c
      dsimp only at *
      go_enter Try.func8, Try.ntmps8
      go_wp2_with fail
      refine (hof1.out _).mono ?_
      rintro e w1 ⟨rfl, b1⟩
      have g1 : Grow w w1 := Grow.trans (Grow.alloc _ _) b1
      have hb1 : w1.heap[w.heap.size]? = some (.cells #[.int .u64 seed, .int .i64 procs, .int .i64 objects, .int .i64 ops, .int .i64 wrong, .int .i64 pending] 37 (0, 0)) := b1.heap (heap_new w _)
      have hlt1 := heap_lt hb1
      have HB1 := hid hb1
      clear b1 hb1
      go_wp2_with fail
      refine (hh1.out _).mono ?_
      rintro e w2 ⟨A, ka, rfl, oa, la1, ka1, b2⟩
      have hb2 := Grow.heap b2 HB1.out
      have G2 := hid (Grow.trans g1 b2)
      have OA := hid oa
      have LA := hid la1
      have hs2 : w1.heap.size ≤ w2.heap.size := b2.size
      have c0 : w2.cell? ⟨w.heap.size, 0, none⟩ = some (.int .u64 seed) := by rw [heap_cell hb2]; rfl
      have c1 : w2.cell? ⟨w.heap.size, 1, none⟩ = some (.int .i64 procs) := by rw [heap_cell hb2]; rfl
      have c2 : w2.cell? ⟨w.heap.size, 2, none⟩ = some (.int .i64 objects) := by rw [heap_cell hb2]; rfl
      have c3 : w2.cell? ⟨w.heap.size, 3, none⟩ = some (.int .i64 ops) := by rw [heap_cell hb2]; rfl
      have c4 : w2.cell? ⟨w.heap.size, 4, none⟩ = some (.int .i64 wrong) := by rw [heap_cell hb2]; rfl
      have c5 : w2.cell? ⟨w.heap.size, 5, none⟩ = some (.int .i64 pending) := by rw [heap_cell hb2]; rfl
      have f3 := heap_frozen hb2 3 (by omega)
      clear oa la1 b2 hb2 g1
      go_wp2_with fail
      refine (hof2.out _).mono ?_
      rintro e w3 ⟨rfl, b3⟩
      have G3 := hid (Grow.trans (show Grow w (w2.setCell ⟨w.heap.size, 3, none⟩ (.int .i64 o2)) from Below.setCell G2.out (p := ⟨w.heap.size, 3, none⟩) (Nat.le_refl _) _) b3)
      have OA3 := hid ((OA.out.keep LA.out (w' := w2.setCell ⟨w.heap.size, 3, none⟩ (.int .i64 o2)) (fun k hk => Below.heap_setCell _ _ _ _ (by show k ≠ w.heap.size; omega))).grow b3)
      clear b3 c0 c1 c2 c3 c4 c5 f3 OA
      go_wp2_with fail
      refine (hh2.out _).mono ?_
      rintro e w4 ⟨B, kb, rfl, ob, lb1, kb1, b4⟩
      have G4 := hid (Grow.trans G3.out b4)
      have OA4 := hid (OA3.out.grow b4)
      have OB4 := hid ob
      clear b4 ob lb1 OA3 G3
      go_wp2_with fail
      refine (haw.out _).mono ?_
      rintro e w5 ⟨rfl, b5⟩
      have G5 := hid (Grow.trans G4.out b5)
      clear b5
      go_wp2_with fail
      go_ret
      exact ⟨rfl, G5.out⟩
  · rw [histG_bad hg] at hh1
    dsimp only at hh1
    generalize histG { c with ops := o2 } = r2 at *
    obtain ⟨lb, e2⟩ := r2
    dsimp only at hh2
    generalize lb.length = nb at *
    clear hg ho2 hf hr l0 l1
    obtain ⟨seed, procs, objects, ops, wrong, pending⟩ := c
    dsimp only at *
    go_enter Try.func8, Try.ntmps8
    go_wp2_with fail
    refine (hof1.out _).mono ?_
    rintro e w1 ⟨rfl, b1⟩
    have g1 : Grow w w1 := Grow.trans (Grow.alloc _ _) b1
    have hb1 : w1.heap[w.heap.size]? = some (.cells #[.int .u64 seed, .int .i64 procs, .int .i64 objects, .int .i64 ops, .int .i64 wrong, .int .i64 pending] 37 (0, 0)) := b1.heap (heap_new w _)
    have hlt1 := heap_lt hb1
    have HB1 := hid hb1
    clear b1 hb1
    go_wp2_with fail
    refine (hh1.out _).mono ?_
    rintro e w2 ⟨A, ka, rfl, oa, la1, ka1, b2⟩
    have hb2 := Grow.heap b2 HB1.out
    have G2 := hid (Grow.trans g1 b2)
    have OA := hid oa
    have LA := hid la1
    have hs2 : w1.heap.size ≤ w2.heap.size := b2.size
    have c0 : w2.cell? ⟨w.heap.size, 0, none⟩ = some (.int .u64 seed) := by rw [heap_cell hb2]; rfl
    have c1 : w2.cell? ⟨w.heap.size, 1, none⟩ = some (.int .i64 procs) := by rw [heap_cell hb2]; rfl
    have c2 : w2.cell? ⟨w.heap.size, 2, none⟩ = some (.int .i64 objects) := by rw [heap_cell hb2]; rfl
    have c3 : w2.cell? ⟨w.heap.size, 3, none⟩ = some (.int .i64 ops) := by rw [heap_cell hb2]; rfl
    have c4 : w2.cell? ⟨w.heap.size, 4, none⟩ = some (.int .i64 wrong) := by rw [heap_cell hb2]; rfl
    have c5 : w2.cell? ⟨w.heap.size, 5, none⟩ = some (.int .i64 pending) := by rw [heap_cell hb2]; rfl
    have f3 := heap_frozen hb2 3 (by omega)
    clear oa la1 b2 hb2 g1
    go_wp2_with fail
    refine (hof2.out _).mono ?_
    rintro e w3 ⟨rfl, b3⟩
    have G3 := hid (Grow.trans (show Grow w (w2.setCell ⟨w.heap.size, 3, none⟩ (.int .i64 o2)) from Below.setCell G2.out (p := ⟨w.heap.size, 3, none⟩) (Nat.le_refl _) _) b3)
    have OA3 := hid ((OA.out.keep LA.out (w' := w2.setCell ⟨w.heap.size, 3, none⟩ (.int .i64 o2)) (fun k hk => Below.heap_setCell _ _ _ _ (by show k ≠ w.heap.size; omega))).grow b3)
    clear b3 c0 c1 c2 c3 c4 c5 f3 OA
    go_wp2_with fail
    refine (hh2.out _).mono ?_
    rintro e w4 ⟨B, kb, rfl, ob, lb1, kb1, b4⟩
    have G4 := hid (Grow.trans G3.out b4)
    have OA4 := hid (OA3.out.grow b4)
    have OB4 := hid ob
    clear b4 ob lb1 OA3 G3
    go_wp2_with fail
    refine (haw.out _).mono ?_
    rintro e w5 ⟨rfl, b5⟩
    have G5 := hid (Grow.trans G4.out b5)
    clear b5
    go_wp2_with fail
    go_ret
    exact ⟨rfl, G5.out⟩
namespace LawGenLonger
open Go.ChangeShapes Go.WideShapes Go.ChangeAt Go.RowKit
open Go.ChangeMaps (open_string shut_string)
theorem own : ownKnob Try.prog.godebug = none := by kernel_rfl
theorem laidOut : laidOutB Try.prog = true := by kernel_rfl
set_option maxRecDepth 100000 in
theorem lifted (os : Os) (started : os.Started) (H : Type) (enc : TypeId × Value → H) :
    ReturnsInHanded {} Try.checked os 8 .any (Rows.genLongerSpec.pre6 enc Try.prog Try.f8 Rows.genLongerRow.domain false) (Rows.genLongerSpec.post enc Try.prog Try.f8 false true false false) := by
  refine returnsInHanded_of_change_sized (C := Try.checked) own started (by kernel_rfl) Try.func8
    (ChangeSpec.witness6 (enc := enc) (C := Try.checked) false ⟨#[], #[.agg #[.int .u64 0, .int .i64 0, .int .i64 0, .int .i64 0, .int .i64 0, .int .i64 0], .int .u8 0], []⟩ 8 (by kernel_rfl) (by kernel_rfl) (by kernel_rfl) (by kernel_rfl)) ?_
  intro W base args ds gs before hval0 hW hcnd hsz _
  have hval : ∀ (j : Nat) t v, Try.f8.params[j]? = some t → args[j]? = some v → Value.okWide Try.prog W .any base t v := hval0
  have hW' := hW
  obtain ⟨p, q, hA0, hV, rfl, hfz, hnd⟩ := hW
  have hA : DataW.TrodAll enc Try.prog W 0 (fun _ => true) true Try.f8.params.toList args.toList ds p := hA0
  rw [Try.params8] at hA hval hsz
  obtain ⟨v0, vs0, d0, ds0, p0, q0, hargs, rfl, rfl, h0, r0⟩ := trodAll_cons hA
  obtain ⟨v1, vs1, d1, ds1, p1, q1, rfl, rfl, rfl, h1, r1⟩ := trodAll_cons r0
  obtain ⟨rfl, rfl, rfl⟩ := trodAll_nil r1
  obtain rfl : args = #[v0, v1] := by cases args; simp_all
  obtain ⟨rfl, rfl⟩ := trodVars_none hV
  have k0 := h0
  have lt0 : ∀ x ∈ p0, x.block < W.heap.size := by obtain ⟨m, hm⟩ := k0; exact DataW.trod_lt m _ _ _ hm
  obtain ⟨a0, rfl, w0⟩ := open_cfg (hval 0 37 v0 rfl rfl) h0
  obtain ⟨a1, rfl, rfl, rfl, w1⟩ := open_int Try.underlying5 (hval 1 5 v1 rfl rfl) h1
  have b1 := wf_u8 w1
  clear hA0 hval0
  refine (GenLonger_walk a0 a1 W w0 b1.1 b1.2).mono fun e W' ⟨he, bel⟩ => ?_
  subst he
  exact ⟨_, rfl, _, _, _, [], _, [], hW', trodAll_mk1 (shut_bool Try.underlying4 _), (trodAll_cons_mk (Below.trod laidOut (by kernel_rfl) (of_decide_eq_true (by kernel_rfl)) k0 bel lt0) (trodAll_cons_mk (shut_int Try.underlying5 w1) trodAll_mk0)), rfl, bel.frame _, fun h => by cases h⟩
theorem over : Rows.genLongerRow.holds Try.pinned (OpenSpec.ofChange Rows.genLongerSpec) :=
  OpenClaim.holds_of_wide 8 Try.f8 rfl rfl rfl rfl rfl rfl rfl ⟨rfl, rfl, rfl, rfl, rfl⟩ rfl rfl rfl rfl rfl (by kernel_rfl) Try.func8 (by kernel_rfl)
    (of_decide_eq_true (by kernel_rfl)) (by unfold Func.isWrapper; first | (rw [if_pos (by decide +kernel)]; kernel_rfl) | (rw [if_neg (by decide +kernel)]; exact ⟨rfl, rfl⟩))
    (fun os started H enc _ => lifted os started H enc)
end LawGenLonger
/-- The given statement. -/
theorem genLonger_proved : Rows.GenLongerSaid := LawGenLonger.over
#print axioms genLonger_proved
end Go.Proofs.Ytlhgdbangnohjaa
