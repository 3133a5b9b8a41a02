/- Each process has at most one operation without an answer, its last one; there is none, if none is asked for. -/
import Derived.Test.YtlhgdbangnohjaaGPendMap
import Derived.Test.YtlhgdbangnohjaaGTail
import Derived.StillTailTactics
namespace Go.Proofs.Ytlhgdbangnohjaa
open Go.RowKit Go.Maps
set_option linter.unusedVariables false
set_option linter.unusedSimpArgs false
theorem goneF_take {l : List OpR} {j : Nat} (hj : j < l.length) (q : Int) : goneF (l.take (j + 1)) q = if l[j].proc = q then !l[j].done else goneF (l.take j) q := by
  rw [List.take_succ_eq_append_getElem hj, goneF_snoc]
set_option maxRecDepth 100000 in
set_option maxHeartbeats 4000000 in
theorem GenPending_walk (c : GenC) (w : World) (hf : c.Fit) :
    Calls Try.prog 7 #[.agg #[.int .u64 c.seed, .int .i64 c.procs, .int .i64 c.objects, .int .i64 c.ops, .int .i64 c.wrong, .int .i64 c.pending]] w fun e w' => e = .returned (.bool true) ∧ Below w.heap.size w w' := by
  have haw := hid (fun w => awake_c w)
  have hh1 := hid (fun w => (History_c c hf.seed w).mono (fun e w' h => HistPost.open h (by have := hist_len c; omega)))
  have hof1 := hid (fun w => of_c c w)
  have hlen := hist_len c
  by_cases hg : c.good
  · have hg3 := hg
    obtain ⟨g1, g16, g2, g26, g3, g64, -⟩ := hg3
    have hp := pend_steps hg c.ops.toNat (by omega)
    have hok := steps_ok hg c.ops.toNat (by omega)
    rw [histG_good hg] at hh1 hlen
    dsimp only at hh1 hlen
    have hlast := hp.last
    have hnone := hp.none
    have hproc : ∀ o ∈ (stepsG c (firstG c) c.ops.toNat).l, I64 o.proc := fun o ho => by
      have h1 := (checkE_ok ((gen_hist hg c.ops.toNat (by omega)).each o ho)).1
      unfold bad1 at h1
      simp only [decide_eq_false_iff_not] at h1
      unfold I64
      omega
    generalize (stepsG c (firstG c) c.ops.toNat).l = l at *
    have HPair := hid hlast
    have HNone := hid hnone
    have HI := hid hproc
    generalize hn : l.length = n at *
    have HN := hid hn
    obtain ⟨seed, procs, objects, ops, wrong, pending⟩ := c
    dsimp only at *
    clear hg hp hok g1 g16 g2 g26 g3 g64 hf hlast hnone hproc hn
    have hmm := @run_makeMap Try.prog
    go_enter Try.func7, Try.ntmps7
    go_wp2_with fail
    refine (hof1.out _).mono ?_
    rintro e w1 ⟨rfl, b1⟩
    have g1 : Grow w w1 := Grow.trans (Grow.alloc _ _) b1
    have hb1 : w1.heap[w.heap.size]? = some (.cells #[.int .u64 seed, .int .i64 procs, .int .i64 objects, .int .i64 ops, .int .i64 wrong, .int .i64 pending] 37 (0, 0)) := b1.heap (heap_new w _)
    have HB1 := hid hb1
    clear b1 hb1
    go_wp2_with fail
    refine (hh1.out _).mono ?_
    rintro e w2 ⟨A, ka, rfl, oa, la1, ka1, b2⟩
    have hb2 := Grow.heap b2 HB1.out
    have HC5 := hid (show w2.cell? ⟨w.heap.size, 5, none⟩ = some (.int .i64 pending) by rw [heap_cell hb2]; rfl)
    have G2 := hid (Grow.trans g1 b2)
    have hlt2 : w.heap.size < w2.heap.size := heap_lt hb2
    obtain ⟨pp, cap2, eq2, hle2, hcell⟩ := oa
    have HCells := hid hcell
    have heA : A = pp := by injection eq2
    subst heA
    clear b2 hb2 g1 la1 eq2 hle2 hcell
    go_wp2_with fail
    go_loopw [6] (fun i wr => ∃ j : Nat, j ≤ n ∧ i = .int .i64 (j : Int) ∧ Hid (BMapAt wr w2.heap.size j (goneF (l.take j))) ∧ Hid (Below w2.heap.size w2 wr)) (fun i _ => n - (intOf i).toNat)
    case atStart =>
      exact ⟨0, by omega, rfl, hid (BMapAt.made w2), hid (Below.alloc (Below.refl _ _) (Nat.le_refl _) _)⟩
    case round =>
      obtain ⟨j, hj, rfl, HM, HBe⟩ := hrel
      have c5 := (Below.cell HBe.out (p := ⟨w.heap.size, 5, none⟩) hlt2).trans HC5.out
      by_cases hlt : j < n
      · have hi1 : (j : Int) < (n : Int) := by omega
        have hi0 : (0 : Int) ≤ (j : Int) := by omega
        have hjl : j < l.length := by rw [HN.out]; exact hlt
        obtain ⟨b, off, rfl, hat⟩ := HCells.out (by omega)
        have hat := hat j hjl
        unfold OpAt at hat
        obtain ⟨-, a1, -, -, -, -, -, a7, -, -, -⟩ := hat
        have hgl := goneF_last HPair.out hjl
        have hgt := fun q => goneF_take hjl q
        have hpi := HI.out l[j] (List.getElem_mem hjl)
        have hno := HNone.out
        have hno := fun h => hno h l[j] (List.getElem_mem hjl)
        generalize l[j].proc = pr at *
        generalize l[j].done = dn at *
        have a1 := (Below.cell HBe.out (World.block_lt_of_cell? w2 _ a1)).trans a1
        have a7 := (Below.cell HBe.out (World.block_lt_of_cell? w2 _ a7)).trans a7
        have hlook := HM.out.look pr hpi
        rw [hgl] at hlook
        have HLOOK := hid hlook
        obtain ⟨w3, hrun, hm3, hg3⟩ := (show BMapAt wr.drew w2.heap.size j (goneF (l.take j)) from HM.out.of_block rfl).upd (by unfold maxLen; omega) pr (!dn) hpi
        have HRUN := hid hrun
        have HM3 : Hid (BMapAt w3 w2.heap.size (j + 1) (goneF (l.take (j + 1)))) := hid (by rw [show goneF (l.take (j + 1)) = (fun q => if pr = q then !dn else goneF (l.take j) q) from funext hgt]; exact hm3)
        have HB3 := hid (Below.grown HBe.out.drew hg3 HBe.out.size (fun k hk => Nat.le_of_eq (Option.some.inj hk)))
        clear hlook hgl hgt hpi hrun hm3 hg3
        cases dn
        · have hpn : (pending == 0) = false := by
            have : ¬ pending = 0 := fun h => by cases hno h
            simpa using this
          clear hno
          go_wp2_with (first | (at_lookup; refine wpList_lookup_runG _ rfl _ _ _ rfl _ _ _ rfl rfl HLOOK.out ?_) | fail)
          go_still_tail 12, (by kernel_rfl)
          go_wp2_with (first | (at_mapUpdate; refine wpList_mapUpdate_runG _ _ rfl _ _ _ _ rfl _ _ _ rfl rfl rfl HRUN.out ?_) | fail)
          refine ⟨⟨j + 1, by omega, by push_cast; rfl, HM3, HB3⟩, ?_⟩
          simp [intOf]
          omega
        · clear hno
          go_wp2_with (first | (at_lookup; refine wpList_lookup_runG _ rfl _ _ _ rfl _ _ _ rfl rfl HLOOK.out ?_) | fail)
          go_still_tail 12, (by kernel_rfl)
          go_wp2_with (first | (at_mapUpdate; refine wpList_mapUpdate_runG _ _ rfl _ _ _ _ rfl _ _ _ rfl rfl rfl HRUN.out ?_) | fail)
          refine ⟨⟨j + 1, by omega, by push_cast; rfl, HM3, HB3⟩, ?_⟩
          simp [intOf]
          omega
      · have hi1 : ¬ (j : Int) < (n : Int) := by omega
        have G4 := hid (Below.trans (show Below w.heap.size w w2 from G2.out) (HBe.out.mono (Nat.le_of_lt hlt2)))
        go_wp2_with fail
        refine (haw.out _).mono ?_
        rintro e w5 ⟨rfl, b5⟩
        have G5 := hid (Below.trans G4.out (Below.mono (show Below wr.heap.size wr w5 from b5) (Nat.le_of_lt (Nat.lt_of_lt_of_le hlt2 HBe.out.size))))
        clear b5
        go_wp2_with fail
        go_ret
        exact ⟨rfl, G5.out⟩
  · rw [histG_bad hg] at hh1
    dsimp only at hh1
    obtain ⟨seed, procs, objects, ops, wrong, pending⟩ := c
    dsimp only at *
    clear hg hf hlen
    go_enter Try.func7, Try.ntmps7
    go_wp2_with fail
    refine (hof1.out _).mono ?_
    rintro e w1 ⟨rfl, b1⟩
    have g1 : Grow w w1 := Grow.trans (Grow.alloc _ _) b1
    clear b1
    go_wp2_with fail
    refine (hh1.out _).mono ?_
    rintro e w2 ⟨A, ka, rfl, oa, la1, ka1, b2⟩
    have G4 := hid (Grow.trans g1 b2)
    clear b2 oa la1 g1
    go_wp2_with fail
    refine (haw.out _).mono ?_
    rintro e w5 ⟨rfl, b5⟩
    have G5 := hid (Grow.trans G4.out b5)
    clear b5
    go_wp2_with fail
    go_ret
    exact ⟨rfl, G5.out⟩
namespace LawGenPending
open Go.ChangeShapes Go.WideShapes Go.ChangeAt Go.RowKit
open Go.ChangeMaps (open_string shut_string)
theorem own : ownKnob Try.prog.godebug = none := by kernel_rfl
theorem laidOut : laidOutB Try.prog = true := by kernel_rfl
set_option maxRecDepth 100000 in
theorem lifted (os : Os) (started : os.Started) (H : Type) (enc : TypeId × Value → H) :
    ReturnsInHanded {} Try.checked os 7 .any (Rows.genPendingSpec.pre6 enc Try.prog Try.f7 Rows.genPendingRow.domain false) (Rows.genPendingSpec.post enc Try.prog Try.f7 false true false false) := by
  refine returnsInHanded_of_change_sized (C := Try.checked) own started (by kernel_rfl) Try.func7
    (ChangeSpec.witness6 (enc := enc) (C := Try.checked) false ⟨#[], #[.agg #[.int .u64 0, .int .i64 0, .int .i64 0, .int .i64 0, .int .i64 0, .int .i64 0]], []⟩ 8 (by kernel_rfl) (by kernel_rfl) (by kernel_rfl) (by kernel_rfl)) ?_
  intro W base args ds gs before hval0 hW hcnd hsz _
  have hval : ∀ (j : Nat) t v, Try.f7.params[j]? = some t → args[j]? = some v → Value.okWide Try.prog W .any base t v := hval0
  have hW' := hW
  obtain ⟨p, q, hA0, hV, rfl, hfz, hnd⟩ := hW
  have hA : DataW.TrodAll enc Try.prog W 0 (fun _ => true) true Try.f7.params.toList args.toList ds p := hA0
  rw [Try.params7] at hA hval hsz
  obtain ⟨v0, vs0, d0, ds0, p0, q0, hargs, rfl, rfl, h0, r0⟩ := trodAll_cons hA
  obtain ⟨rfl, rfl, rfl⟩ := trodAll_nil r0
  obtain rfl : args = #[v0] := by cases args; simp_all
  obtain ⟨rfl, rfl⟩ := trodVars_none hV
  have k0 := h0
  have lt0 : ∀ x ∈ p0, x.block < W.heap.size := by obtain ⟨m, hm⟩ := k0; exact DataW.trod_lt m _ _ _ hm
  obtain ⟨a0, rfl, w0⟩ := open_cfg (hval 0 37 v0 rfl rfl) h0
  clear hA0 hval0
  refine (GenPending_walk a0 W w0).mono fun e W' ⟨he, bel⟩ => ?_
  subst he
  exact ⟨_, rfl, _, _, _, [], _, [], hW', trodAll_mk1 (shut_bool Try.underlying4 _), (trodAll_cons_mk (Below.trod laidOut (by kernel_rfl) (of_decide_eq_true (by kernel_rfl)) k0 bel lt0) trodAll_mk0), rfl, bel.frame _, fun h => by cases h⟩
theorem over : Rows.genPendingRow.holds Try.pinned (OpenSpec.ofChange Rows.genPendingSpec) :=
  OpenClaim.holds_of_wide 7 Try.f7 rfl rfl rfl rfl rfl rfl rfl ⟨rfl, rfl, rfl, rfl, rfl⟩ rfl rfl rfl rfl rfl (by kernel_rfl) Try.func7 (by kernel_rfl)
    (of_decide_eq_true (by kernel_rfl)) (by unfold Func.isWrapper; first | (rw [if_pos (by decide +kernel)]; kernel_rfl) | (rw [if_neg (by decide +kernel)]; exact ⟨rfl, rfl⟩))
    (fun os started H enc _ => lifted os started H enc)
end LawGenPending
/-- The given statement. -/
theorem genPending_proved : Rows.GenPendingSaid := LawGenPending.over
#print axioms genPending_proved
end Go.Proofs.Ytlhgdbangnohjaa
