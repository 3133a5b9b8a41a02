/- Without wrong answers each object's operations have an order: that of their numbers. -/
import Derived.Test.YtlhgdbangnohjaaGTail
import Derived.Test.YtlhgdbangnohjaaOAll
namespace Go.Proofs.Ytlhgdbangnohjaa
open Go.RowKit
set_option linter.unusedVariables false
set_option linter.unusedSimpArgs false
theorem segCells_at : ∀ (ss : List SegR) (vs : List Value), vs.length = ss.length → ∀ i, i < ss.length →
    (segCells ss vs)[i * 3]? = some (.int .i64 (ss.getD i segZ).obj) ∧ (segCells ss vs)[i * 3 + 1]? = some (.int .i64 (ss.getD i segZ).kind) ∧ (segCells ss vs)[i * 3 + 2]? = some (vs.getD i (.slice none 0 0))
  | [], _, _, i, hi => by simp at hi
  | s :: ss, [], h, _, _ => by simp at h
  | s :: ss, v :: vs, h, 0, _ => by simp [segCells]
  | s :: ss, v :: vs, h, i + 1, hi => by
    have ih := segCells_at ss vs (by simpa using h) i (by simpa using hi)
    have e0 : (i + 1) * 3 = i * 3 + 3 := by omega
    rw [e0]
    simp only [segCells, List.getD_cons_succ]
    exact ih
theorem SegsAt.at {base : Nat} {w : World} {v : Value} {ss : List SegR} {vs : List Value} (h : SegsAt base w v ss vs) (i : Nat) (hi : i < ss.length) : ∃ g c, v = .slice (some ⟨g, 0, none⟩) ss.length c ∧
    w.cell? ⟨g, i * 3, none⟩ = some (.int .i64 (ss.getD i segZ).obj) ∧ w.cell? ⟨g, i * 3 + 1, none⟩ = some (.int .i64 (ss.getD i segZ).kind) ∧ w.cell? ⟨g, i * 3 + 2, none⟩ = some (vs.getD i (.slice none 0 0)) := by
  obtain ⟨g, c, rfl, -, -⟩ := h.own.form (by omega)
  obtain ⟨h0, h1, h2⟩ := segCells_at ss vs h.len i hi
  refine ⟨g, c, rfl, ?_, ?_, ?_⟩
  · rw [h.own.cellAt _ (by omega), h0]
  · rw [h.own.cellAt _ (by omega), h1]
  · rw [h.own.cellAt _ (by omega), h2]
theorem objects_len (l : List OpR) : (objectsL l).length ≤ l.length + 1 := objs_len l _ _
theorem getD_mem {ss : List SegR} {i : Nat} (h : i < ss.length) : ss.getD i segZ ∈ ss := by
  rw [List.getD_eq_getElem?_getD, List.getElem?_eq_getElem h]
  exact List.getElem_mem h
set_option maxRecDepth 100000 in
set_option maxHeartbeats 8000000 in
theorem GenOrders_walk (c : GenC) (w : World) (hf : c.Fit) :
    Calls Try.prog 6 #[.agg #[.int .u64 c.seed, .int .i64 c.procs, .int .i64 c.objects, .int .i64 c.ops, .int .i64 c.wrong, .int .i64 c.pending]] w fun e w' => e = .returned (.bool true) ∧ Below w.heap.size w w' := by
  have haw := hid (fun w => awake_c w)
  obtain ⟨seed, procs, objects, ops, wrong, pending⟩ := c
  have hsd : U64 (⟨seed, procs, objects, ops, 0, pending⟩ : GenC).seed := hf.seed
  have hh1 := hid (fun w => (History_c (⟨seed, procs, objects, ops, 0, pending⟩ : GenC) hsd w).mono (fun e w' h => HistPost.open h (by have := hist_len (⟨seed, procs, objects, ops, 0, pending⟩ : GenC); omega)))
  have hof1 := hid (fun w => of_c (⟨seed, procs, objects, ops, 0, pending⟩ : GenC) w)
  by_cases hg : (⟨seed, procs, objects, ops, 0, pending⟩ : GenC).good
  · have hg3 := hg
    obtain ⟨g1, g16, g2, g26, g3, g64, -⟩ := hg3
    have hlaw := fun s hs => gen_orders (c := (⟨seed, procs, objects, ops, 0, pending⟩ : GenC)) rfl hg (⟨seed, procs, objects, ops, 0, pending⟩ : GenC).ops.toNat (by dsimp only at g64 ⊢; omega) s hs
    have hok := (steps_ok hg (⟨seed, procs, objects, ops, 0, pending⟩ : GenC).ops.toNat (by dsimp only at g64 ⊢; omega)).len
    rw [histG_good hg] at hh1
    dsimp only at hh1 hof1 hlaw hok g64
    generalize (stepsG (⟨seed, procs, objects, ops, 0, pending⟩ : GenC) (firstG (⟨seed, procs, objects, ops, 0, pending⟩ : GenC)) ops.toNat).l = l at *
    have hln : l.length ≤ 64 := by omega
    have HLAW := hid hlaw
    have hob := objects_len l
    have hmlen := hid (fun x => mine_len l x)
    have HMI := hid (fun x k h => mine_take (l := l) (x := x) (k := k) h)
    have HMK := hid (fun x k => show (mineL (l.take k) x).length ≤ k from Nat.le_trans (mine_len _ _) (List.length_take_le _ _))
    have HTL := hid (show l.take l.length = l from List.take_length)
    have HObj := hid (fun (v : Value) (w : World) (hv : Ops w v l) => Objects_c l v w hv (by omega))
    clear hg hok g1 g16 g2 g26 g3 g64 hf hsd hlaw
    generalize hn : l.length = n at *
    clear hn
    go_enter Try.func6, Try.ntmps6
    go_wp2_with fail
    refine (hof1.out _).mono ?_
    rintro e w1 ⟨rfl, b1⟩
    have G1 : Hid (Grow w w1) := hid (Grow.trans (Grow.alloc _ _) b1)
    clear b1
    go_wp2_with fail
    refine (hh1.out _).mono ?_
    rintro e w2 ⟨A, ka, rfl, oa, la1, ka1, b2⟩
    have G2 := hid (Grow.trans G1.out b2)
    have OA := hid oa
    have HOb2 := hid (HObj.out _ _ oa)
    obtain ⟨pA, cA, eA, -, hcA⟩ := oa.read
    clear b2 la1 oa eA hcA
    go_wp2_with fail
    refine (HOb2.out).mono ?_
    rintro e w3 ⟨vo, vs, rfl, SE, b3⟩
    have HSE := hid SE
    have G3 := hid (Grow.trans G2.out b3)
    have OA3 := hid (OA.out.grow b3)
    obtain ⟨sA, sc, rfl⟩ := own_formM SE.own
    clear b3 SE HOb2
    generalize hN : (objectsL l).length = N at *
    have HN := hid hN
    clear hN
    go_wp2_with fail
    go_loopw [6] (fun s wr => ∃ i : Nat, i ≤ N ∧ s = .int .i64 (i : Int) ∧ Grow w3 wr) (fun s _ => N - (intOf s).toNat)
    case atStart => exact ⟨0, by omega, rfl, Grow.refl _⟩
    case round =>
      obtain ⟨i, hi, rfl, hgr⟩ := hrel
      have HGR := hid hgr
      by_cases hlt : i < N
      · have hi0 : (0 : Int) ≤ (i : Int) := by omega
        have hi1 : (i : Int) < (N : Int) := by omega
        have hlt2 : i < (objectsL l).length := by rw [HN.out]; exact hlt
        obtain ⟨g, cg, eg, s0, s1, s2⟩ := (HSE.out.grow hgr).at i hlt2
        obtain ⟨i0, h16, hob2, hkd, hord, hol⟩ := HLAW.out _ (getD_mem hlt2)
        have hops := (HSE.out.grow hgr).each i hlt2
        generalize (objectsL l).getD i segZ = s at *
        cases eg
        obtain ⟨x, kd, ops2⟩ := s
        dsimp only at s0 s1 hob2 hkd hord hops
        obtain ⟨pv, cv, hpv⟩ := own_formM hops
        rw [hpv] at s2 hops
        have HMX := hid (fun k h => HMI.out x k h)
        have HMKX := hid (fun k => HMK.out x k)
        have hml := hmlen.out x
        have HOps2 := hid (Ops.of_own hops (by dsimp only at hol; omega))
        have HVal := hid (fun (vi : Value) (w' : World) (ho : Ops w' (.slice pv ops2.length cv) ops2) (hi : Ints w' vi ((mineL l x).map (·.id))) => Valid_c ops2 (mineL l x) x i0 (.slice pv ops2.length cv) vi w' ho hi (by omega) hord (by omega))
        rw [hkd] at s1
        obtain ⟨M, hM⟩ : ∃ M, M = (mineL l x).length := ⟨_, rfl⟩
        have HM := hid hM
        obtain ⟨B1, hB1⟩ : ∃ B, B = wr.heap.size := ⟨_, rfl⟩
        have HB1 := hid hB1
        have HS := hid (And.intro s0 (And.intro s1 s2))
        have hig : (3 : Nat) = 3 := rfl
        clear hkd hob2 hord hM hB1 hops hpv hlt2 hig hol
        go_upto_region 10 with fail
        go_cut [7, 8] from 21 to 58 (fun a s w2 => a = .slice none 0 0 ∧ s = .int .i64 0 ∧ w2 = wr)
        case first =>
          go_wp2_with fail
          go_meet
          exact ⟨rfl, rfl, rfl⟩
        obtain ⟨rfl, rfl, hw⟩ := hcut
        subst hw
        go_step
        go_cut [7] from 21 to 58 (fun a w2 => Hid (w2.ownsRow B1 3 1 a M (i64s ((mineL l x).map (·.id)))) ∧ Grow wc w2)
        case first =>
          go_wp2_with fail
          go_loopw [7, 8] (fun a s w2 => ∃ k : Nat, k ≤ n ∧ s = .int .i64 (k : Int) ∧ Hid (w2.ownsRow B1 3 1 a (mineL (l.take k) x).length (i64s ((mineL (l.take k) x).map (·.id)))) ∧ Grow wc w2) (fun _ s _ => n - (intOf s).toNat)
          case atStart => exact ⟨0, by omega, rfl, hid (World.ownsRow_nil _ _ _ _), Grow.refl _⟩
          case round =>
            obtain ⟨k, hk, rfl, HW, hg2⟩ := hrel
            have HG2 := hid hg2
            by_cases hkn : k < n
            · have hk0 : (0 : Int) ≤ (k : Int) := by omega
              have hk1 : (k : Int) < (n : Int) := by omega
              obtain ⟨b, off, eb, hat⟩ := (OA3.out.grow (Grow.trans HGR.out hg2)).cellsAt k hkn
              subst eb
              have cid := id_at hat
              have cob := obj_at hat
              have t0 := hg2.cell HS.out.1
              have hmi := HMX.out k hkn
              have hmk := HMKX.out k
              have hsz : B1 ≤ wr.heap.size := by rw [HB1.out]; exact hg2.size
              generalize opAt l k = o at *
              clear hat hg2
              go_upto_region 13 with fail
              go_cut [43] from 27 to 51 (fun s w2 => s = .bool (o.obj == x) ∧ Grow wr w2)
              case first =>
                go_region_held3 (fun w' => w'.cell? ⟨b, off + k * 11 + 2, none⟩ = some (.int .i64 o.obj) ∧ w'.cell? ⟨g, i * 3, none⟩ = some (.int .i64 x))
                  (first | (with_reducible exact ⟨cell_drew cob, cell_drew t0⟩) | (with_reducible exact ⟨cob, t0⟩))
                  (fail)
                all_goals (go_wp2_with fail; go_meet)
                all_goals first | exact ⟨rfl, Grow.drew _⟩ | exact ⟨rfl, Grow.refl _⟩
              obtain ⟨hs, g4⟩ := hcut
              have HG4 := hid (Grow.trans HG2.out g4)
              have cid4 := g4.cell cid
              have HW4 := hid (own_growO HW.out g4)
              have hsz4 : B1 ≤ wc.heap.size := Nat.le_trans hsz g4.size
              clear cid cob t0 g4 HG2 hsz HW
              by_cases hox : o.obj = x
              · rw [show (o.obj == x) = true by simpa using hox] at hs
                subst hs
                rw [if_pos hox] at hmi
                have HMI2 := hid hmi
                clear hmi hox
                generalize hmm : mineL (l.take k) x = mine at *
                clear hmm
                generalize hml2 : mine.length = m at *
                have HML2 := hid hml2
                have hown := HW4.out
                clear hml2
                go_wp2_with (at_builtin; refine wpList_pushH _ rfl rfl _ _ 23 rfl 3 (.int .i64 0) 1 8 Try.underlying23 infoIntM rfl (by omega) B1 _ m _ rfl hown [_] rfl rfl (by simp [Value.oneCell']) (by unfold maxLen; omega) (by omega) hsz4 ?_)
                intro v' w' ho hgr2 hs'
                rw [push_intM] at ho
                have hg6 := hid ((HG4.out).grown hgr2 (by rw [← HB1.out]; exact hsz4) (fun k hk => by rw [← HB1.out]; exact (hown.lt k hk).1))
                have HO6 := hid (show w'.ownsRow B1 3 1 v' (mineL (l.take (k + 1)) x).length (i64s ((mineL (l.take (k + 1)) x).map (·.id))) from by
                  rw [HMI2.out, List.length_append, HML2.out, List.map_append]
                  exact ho)
                clear ho hgr2 hs'
                go_wp2_with fail
                go_roundw
                case rel => exact ⟨k + 1, by omega, by go_num, HO6, hg6.out⟩
                case measure => (simp [intOf]; try omega)
              · rw [show (o.obj == x) = false by simpa using hox] at hs
                subst hs
                rw [if_neg hox, List.append_nil] at hmi
                have HMI2 := hid hmi
                clear hmi hox
                go_wp2_with fail
                go_roundw
                case rel => exact ⟨k + 1, by omega, by go_num, by rw [HMI2.out]; exact HW4, HG4.out⟩
                case measure => (simp [intOf]; try omega)
            · have hkn2 : k = n := by omega
              have hk1 : ¬ (k : Int) < (n : Int) := by omega
              have hL : l.take k = l := by rw [hkn2]; exact HTL.out
              rw [hL, ← HM.out] at HW
              clear hkn2 hL hg2
              go_wp2_with fail
              go_meet
              exact ⟨HW, HG2.out⟩
        obtain ⟨HW, gW⟩ := hcut
        have t0 := gW.cell HS.out.1
        have t1 := gW.cell HS.out.2.1
        have t2 := gW.cell HS.out.2.2
        have HGW := hid (Grow.trans HGR.out gW)
        have HV := hid (HVal.out u7 wc (HOps2.out.grow gW) (Ints.of_own HW.out (by rw [HM.out]; omega)))
        clear gW HVal
        go_wp2_with fail
        refine (HV.out).mono ?_
        rintro e w5 ⟨rfl, b5⟩
        have HG5 := hid (Grow.trans HGW.out b5)
        clear b5
        go_wp2_with fail
        go_roundw
        case rel => exact ⟨i + 1, by omega, by go_num, HG5.out⟩
        case measure => (simp [intOf]; try omega)
      · have hi1 : ¬ (i : Int) < (N : Int) := by omega
        clear hgr
        go_wp2_with fail
        refine (haw.out _).mono ?_
        rintro e w5 ⟨rfl, b5⟩
        have G5 := hid (Grow.trans G3.out (Grow.trans HGR.out b5))
        clear b5
        go_wp2_with fail
        go_ret
        exact ⟨rfl, G5.out⟩
  · rw [histG_bad hg] at hh1
    dsimp only at hh1 hof1
    clear hg hf hsd
    go_enter Try.func6, Try.ntmps6
    go_wp2_with fail
    refine (hof1.out _).mono ?_
    rintro e w1 ⟨rfl, b1⟩
    have G1 : Hid (Grow w w1) := hid (Grow.trans (Grow.alloc _ _) b1)
    clear b1
    go_wp2_with fail
    refine (hh1.out _).mono ?_
    rintro e w2 ⟨A, ka, rfl, oa, la1, ka1, b2⟩
    have G2 := hid (Grow.trans G1.out b2)
    clear b2 la1 oa
    go_wp2_with fail
    refine (haw.out _).mono ?_
    rintro e w5 ⟨rfl, b5⟩
    have G5 := hid (Grow.trans G2.out b5)
    clear b5
    go_wp2_with fail
    go_ret
    exact ⟨rfl, G5.out⟩
namespace LawGenOrders
open Go.ChangeShapes Go.WideShapes Go.ChangeAt Go.RowKit
open Go.ChangeMaps (open_string shut_string)
theorem own : ownKnob Try.prog.godebug = none := by kernel_rfl
theorem laidOut : laidOutB Try.prog = true := by kernel_rfl
set_option maxRecDepth 100000 in
theorem lifted (os : Os) (started : os.Started) (H : Type) (enc : TypeId × Value → H) :
    ReturnsInHanded {} Try.checked os 6 .any (Rows.genOrdersSpec.pre6 enc Try.prog Try.f6 Rows.genOrdersRow.domain false) (Rows.genOrdersSpec.post enc Try.prog Try.f6 false true false false) := by
  refine returnsInHanded_of_change_sized (C := Try.checked) own started (by kernel_rfl) Try.func6
    (ChangeSpec.witness6 (enc := enc) (C := Try.checked) false ⟨#[], #[.agg #[.int .u64 0, .int .i64 0, .int .i64 0, .int .i64 0, .int .i64 0, .int .i64 0]], []⟩ 8 (by kernel_rfl) (by kernel_rfl) (by kernel_rfl) (by kernel_rfl)) ?_
  intro W base args ds gs before hval0 hW hcnd hsz _
  have hval : ∀ (j : Nat) t v, Try.f6.params[j]? = some t → args[j]? = some v → Value.okWide Try.prog W .any base t v := hval0
  have hW' := hW
  obtain ⟨p, q, hA0, hV, rfl, hfz, hnd⟩ := hW
  have hA : DataW.TrodAll enc Try.prog W 0 (fun _ => true) true Try.f6.params.toList args.toList ds p := hA0
  rw [Try.params6] at hA hval hsz
  obtain ⟨v0, vs0, d0, ds0, p0, q0, hargs, rfl, rfl, h0, r0⟩ := trodAll_cons hA
  obtain ⟨rfl, rfl, rfl⟩ := trodAll_nil r0
  obtain rfl : args = #[v0] := by cases args; simp_all
  obtain ⟨rfl, rfl⟩ := trodVars_none hV
  have k0 := h0
  have lt0 : ∀ x ∈ p0, x.block < W.heap.size := by obtain ⟨m, hm⟩ := k0; exact DataW.trod_lt m _ _ _ hm
  obtain ⟨a0, rfl, w0⟩ := open_cfg (hval 0 37 v0 rfl rfl) h0
  clear hA0 hval0
  refine (GenOrders_walk a0 W w0).mono fun e W' ⟨he, bel⟩ => ?_
  subst he
  exact ⟨_, rfl, _, _, _, [], _, [], hW', trodAll_mk1 (shut_bool Try.underlying4 _), (trodAll_cons_mk (Below.trod laidOut (by kernel_rfl) (of_decide_eq_true (by kernel_rfl)) k0 bel lt0) trodAll_mk0), rfl, bel.frame _, fun h => by cases h⟩
theorem over : Rows.genOrdersRow.holds Try.pinned (OpenSpec.ofChange Rows.genOrdersSpec) :=
  OpenClaim.holds_of_wide 6 Try.f6 rfl rfl rfl rfl rfl rfl rfl ⟨rfl, rfl, rfl, rfl, rfl⟩ rfl rfl rfl rfl rfl (by kernel_rfl) Try.func6 (by kernel_rfl)
    (of_decide_eq_true (by kernel_rfl)) (by unfold Func.isWrapper; first | (rw [if_pos (by decide +kernel)]; kernel_rfl) | (rw [if_neg (by decide +kernel)]; exact ⟨rfl, rfl⟩))
    (fun os started H enc _ => lifted os started H enc)
end LawGenOrders
/-- The given statement. -/
theorem genOrders_proved : Rows.GenOrdersSaid := LawGenOrders.over
#print axioms genOrders_proved
end Go.Proofs.Ytlhgdbangnohjaa
