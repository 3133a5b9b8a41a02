/- Caches of other keys and values do as this one: of texts and lengths. -/
import Derived.Test.YtjccfodadiaokaaCOth
import Derived.Test.YtjccfodadiaokaaCOthPlain
import Derived.Test.YtjccfodadiaokaaCInMap
import Derived.Deep.RegionHeld3
namespace Go.Proofs.Ytjccfodadiaokaa
open Go.RowKit Go.Maps
set_option linter.unusedVariables false
set_option linter.unusedSimpArgs false
theorem wpList_lookupc_run {P : Program} (w : World) {ops : Array Oper} {rest : List Oper} {o : Oper} {a : Go.Act} {Q : Exit → Go.Act → World → Prop}
    (hg : Region.wanted o (yielded ops a.tmps) = true) (m x : Operand) (t : TypeId) (ok : Bool) (hop : o.op = Op.lookup t m x ok) (vm vx v : Value) (hm : a.eval m = vm) (hx : a.eval x = vx)
    (hrun : (Instr.lookup t vm vx ok).run P w = .ok v w) (hK : wpList P ops Q rest (a.put o.dst v) w) : wpList P ops Q (o :: rest) a w := by
  refine BigFrame.wpList_want hg fun K' hK' => ?_
  unfold Oper.wp
  simp [execOp, hop, hm, hx, hrun, Result.andThen]
  exact hK' _ _ hK
set_option maxRecDepth 100000 in
set_option maxHeartbeats 8000000 in
theorem Others_walk (A : List ByteArray) (va : Value) (a : Int) (w : World) (hA : Texts w va A) (l0 : 0 ≤ a) (u0 : a ≤ 255) :
    Calls Try.prog 5 #[va, .int .u8 a] w fun e w' => e = .returned (.bool true) ∧ Below w.heap.size w w' := by
  have HW := hid (fun w => awake_c w)
  obtain ⟨m0, hm0, hm8⟩ : ∃ m0 : Nat, a.tmod 9 = (m0 : Int) ∧ m0 ≤ 8 := ⟨(a.tmod 9).toNat, by rw [Int.tmod_eq_emod_of_nonneg l0]; omega, by rw [Int.tmod_eq_emod_of_nonneg l0]; omega⟩
  have hm1 : a % 9 = (m0 : Int) := by rw [← Int.tmod_eq_emod_of_nonneg l0]; exact hm0
  have HNS := hid (Str.New_c ((m0 : Int) + 1) w (by omega) (by omega))
  have HNI := hid (fun w => New_c ((m0 : Int) + 1) w (by omega) (by omega))
  obtain ⟨pa, ca, rfl, hat⟩ := hA.at
  have HFIT := hid (show ∀ i (hi : i < A.length), (A[i]).size ≤ maxLen from by
    obtain ⟨_, _, _, _, hx, _⟩ := hA
    exact fun i hi => hx _ (List.getElem_mem hi))
  have HAT := hid hat
  clear hat hA
  obtain ⟨n, hN⟩ : ∃ n, n = A.length := ⟨_, rfl⟩
  rw [← hN]
  have HN := hid hN
  clear hN
  have hmm := @run_makeMap Try.prog
  go_enter Try.func5, Try.ntmps5
  go_wp2_with fail
  refine HNS.out.mono ?_
  rintro e w1 ⟨rfl, hc1, g1⟩
  have HC1 := hid hc1
  have hlt1 := heap_lt hc1.1
  clear hc1
  go_wp2_with fail
  refine (HNI.out _).mono ?_
  rintro e w2 ⟨rfl, hc2, g2⟩
  have hlt2 := heap_lt hc2.1
  have hsz1 := g1.size
  have hsz2 := g2.size
  go_wp2_with fail
  have HT := hid (show Three w (w2.alloc (.map #[] 0)) w.heap.size w1.heap.size w2.heap.size ((m0 : Int) + 1) [] (List.map (tw (numOf (A.take 0))) []) 0 (numOf (A.take 0)) from
    ⟨_, _, (HC1.out.grow g2).grow (Grow.alloc _ _), hc2.grow (Grow.alloc _ _), SMapAt.made w2, Below.trans (Below.trans g1 (Below.mono g2 hsz1)) (Below.mono (Grow.alloc w2 _) (by omega)), Nat.le_refl _, hsz1, by omega, fun k hk => absurd hk (by simp [Value.ownBlock]), fun k hk => absurd hk (by simp [Value.ownBlock])⟩)
  clear hc2 g1 g2 HNS HNI HC1
  generalize hq : w1.heap.size = q at *
  generalize hmb : w2.heap.size = mb at *
  clear hq hmb
  go_loopw [10] (fun i wr => ∃ (j : Nat) (L : List Str.CItem) (N : Nat), j ≤ n ∧ j ≤ 60 ∧ N ≤ j ∧ i = .int .i64 (j : Int) ∧ Hid (Held (A.take j) ((m0 : Int) + 1) L) ∧ Hid (Three w wr w.heap.size q mb ((m0 : Int) + 1) L (L.map (tw (numOf (A.take j)))) N (numOf (A.take j)))) (fun i _ => n - (intOf i).toNat)
  case atStart => exact ⟨0, [], 0, by omega, by omega, by omega, rfl, hid ⟨by simp, by simp, by simp; omega⟩, HT⟩
  case round =>
    clear HT
    obtain ⟨j, L, N, hj, hj60, hNj, rfl, HH, HT⟩ := hrel
    have hj0 : (0 : Int) ≤ (j : Int) := by omega
    by_cases hboth : j < n ∧ j < 60
    · obtain ⟨hlt, hlt60⟩ := hboth
      have hi1 : (j : Int) < (n : Int) := by omega
      have hi2 : (j : Int) < 60 := by omega
      obtain ⟨b, off, rfl, ha⟩ := HAT.out j (by have := HN.out; omega)
      have hfit := HFIT.out j (by have := HN.out; omega)
      have htake : A.take (j + 1) = A.take j ++ [A[j]'(by have := HN.out; omega)] := List.take_succ_eq_append_getElem (by have := HN.out; omega)
      have hTl : (A.take j).length = j := by rw [List.length_take]; have := HN.out; omega
      generalize A[j]'(by have := HN.out; omega) = k at *
      have HFITK := hid hfit
      have hks : (k.size : Int) ≤ 9223372036854775807 := by unfold maxLen at hfit; omega
      have hblt := World.block_lt_of_cell? w _ ha
      simp only at hblt
      have HA0 := hid ha
      have HTK := hid htake
      have HTL := hid hTl
      clear ha hfit htake hTl
      have hlp := HT.out.map
      have HLOOK := hid (hlp.look_ok k HFITK.out)
      clear hlp
      by_cases hin : k ∈ A.take j
      case' pos =>
        obtain ⟨v, hv, hv1, hv2, -⟩ := numOf_mem hin
        rw [hv] at HLOOK
        dsimp only [Option.getD_some, Option.isSome_some] at HLOOK
        have b0 := (Below.cell HT.out.below hblt).trans HA0.out
        go_wp2_with (first | (at_lookup; refine wpList_lookupc_run _ rfl _ _ _ true rfl _ _ _ rfl rfl HLOOK.out ?_) | fail)
        have HT2 := hid (show Three w wr w.heap.size q mb ((m0 : Int) + 1) L (L.map (tw (numOf (A.take (j + 1))))) N (numOf (A.take (j + 1))) from by
          have h := HT.out
          rw [numOf_old hv, ← HTK.out] at h
          exact h)
        have hN2 : N ≤ j + 1 := by omega
        clear HT HLOOK hv b0 hin hv1 hv2
        generalize N = N2 at HT2 hN2
        generalize wr = wx at *
        clear hNj
      case' neg =>
        have hv := numOf_not hin
        rw [hv] at HLOOK
        dsimp only [Option.getD_none, Option.isSome_none] at HLOOK
        have b0 := (Below.cell HT.out.below hblt).trans HA0.out
        obtain ⟨wx, hrun, hm3⟩ := HT.out.upd (by unfold maxLen; omega) k ((j : Int) + 1) HFITK.out (by omega)
        rw [show ((j : Int) + 1) = (((A.take j).length : Nat) : Int) + 1 from by rw [HTL.out], numOf_new hv, ← HTK.out] at hm3
        have HT2 := hid (show Three w wx w.heap.size q mb ((m0 : Int) + 1) L (L.map (tw (numOf (A.take (j + 1))))) (N + 1) (numOf (A.take (j + 1))) from by
          have h := hm3
          rw [← map_more HH.out.known (k := k), ← HTK.out] at h
          exact h)
        have HRUN := hid hrun
        clear hrun hm3
        go_wp2_with (first | (at_lookup; refine wpList_lookupc_run _ rfl _ _ _ true rfl _ _ _ rfl rfl HLOOK.out ?_) | (at_mapUpdate; refine wpList_mapUpdate_run _ _ rfl _ _ _ _ rfl _ _ _ rfl rfl rfl HRUN.out ?_) | fail)
        have hN2 : N + 1 ≤ j + 1 := by omega
        clear HT HLOOK hv b0 hin HRUN
        generalize N + 1 = N2 at HT2 hN2
        clear hNj
      all_goals
        have b1 := (Below.cell HT2.out.below hblt).trans HA0.out
        have hkT : k ∈ A.take (j + 1) := by rw [HTK.out]; simp
        have hheld0 : Held (A.take (j + 1)) ((m0 : Int) + 1) L := by rw [HTK.out]; exact HH.out.more k
        have hlenL : L.length ≤ 1000000 := by have := hheld0.len; omega
        obtain ⟨rest, e1, hheld, e2, e3, e4, e5⟩ := put_tw hkT (by omega) hheld0
        have HS := hid (fun (w' : World) (h : Three w w' w.heap.size q mb ((m0 : Int) + 1) L (L.map (tw (numOf (A.take (j + 1))))) N2 (numOf (A.take (j + 1)))) => h.putS hlenL (by omega) k (k.size : Int))
        have HI := hid (fun (w' : World) (h : Three w w' w.heap.size q mb ((m0 : Int) + 1) (Str.putP ((m0 : Int) + 1) L k (k.size : Int)).1 (L.map (tw (numOf (A.take (j + 1))))) N2 (numOf (A.take (j + 1)))) => h.putI (by rw [List.length_map]; exact hlenL) (by omega) ((numOf (A.take (j + 1)) k).getD 0) k)
        clear hheld0 hlenL hkT
        generalize Str.putP ((m0 : Int) + 1) L k (k.size : Int) = ps at *
        generalize putP ((m0 : Int) + 1) (L.map (tw (numOf (A.take (j + 1))))) ((numOf (A.take (j + 1)) k).getD 0) k = pi at *
        obtain ⟨l1, ak, out, g⟩ := ps
        obtain ⟨l2, bk, gone, g2⟩ := pi
        dsimp only at e1 e2 e3 e4 e5 HS HI
        obtain ⟨rfl, rfl⟩ := Prod.mk.inj e3
        subst e4 e1 e2
        have hln := hheld.len
        have HGET := hid (fun (w' : World) (h : Three w w' w.heap.size q mb ((m0 : Int) + 1) (({ key := k, val := (k.size : Int), pins := 0 } : Str.CItem) :: rest) ((({ key := k, val := (k.size : Int), pins := 0 } : Str.CItem) :: rest).map (tw (numOf (A.take (j + 1))))) N2 (numOf (A.take (j + 1)))) => h.getS (by omega) k)
        rw [get_head_s] at HGET
        dsimp only at HGET
        have HLK := hid (fun (w' : World) (h : Three w w' w.heap.size q mb ((m0 : Int) + 1) (({ key := k, val := (k.size : Int), pins := 0 } : Str.CItem) :: rest) (L.map (tw (numOf (A.take (j + 1))))) N2 (numOf (A.take (j + 1)))) => h.map.look k HFITK.out)
        have HLS := hid (fun (w' : World) (h : Three w w' w.heap.size q mb ((m0 : Int) + 1) (({ key := k, val := (k.size : Int), pins := 0 } : Str.CItem) :: rest) ((({ key := k, val := (k.size : Int), pins := 0 } : Str.CItem) :: rest).map (tw (numOf (A.take (j + 1))))) N2 (numOf (A.take (j + 1)))) => h.lenS)
        have HLI := hid (fun (w' : World) (h : Three w w' w.heap.size q mb ((m0 : Int) + 1) (({ key := k, val := (k.size : Int), pins := 0 } : Str.CItem) :: rest) ((({ key := k, val := (k.size : Int), pins := 0 } : Str.CItem) :: rest).map (tw (numOf (A.take (j + 1))))) N2 (numOf (A.take (j + 1)))) => h.lenI)
        rw [List.length_map] at HLI
        generalize hnk : (numOf (A.take (j + 1)) k).getD 0 = nk at *
        clear hnk
        have HHELD := hid hheld
        have E5 := hid e5
        clear hheld e5
        go_region_held3 (fun w' => w'.cell? ⟨b, off + j, none⟩ = some (.string k)) (go_keep) ((go_at_call 16; refine (HS.out _ (HT2.out.grow (Grow.drew _))).mono ?_; rintro e w5 ⟨rfl, hm5⟩; have b5 := (Below.cell hm5.below hblt).trans HA0.out; have HM5 := hid hm5; clear hm5))
        clear HS b1 HT2
        go_wp2_with fail
        have hlk := HLK.out _ (HM5.out.grow (Grow.drew _))
        go_region_held3 (fun w' => w'.cell? ⟨b, off + j, none⟩ = some (.string k)) (go_keep) ((go_at_call 11; refine (HI.out _ (HM5.out.grow (Grow.drew _))).mono ?_; rintro e w6 ⟨rfl, hm6⟩; have b6 := (Below.cell hm6.below hblt).trans HA0.out; have HM6 := hid hm6; clear hm6))
        clear HI hlk HLK HM5 b5
        cases gone
        case' true =>
          obtain ⟨ebk, hak⟩ := E5.out rfl
          have hakb : ak.size ≤ maxLen := by
            obtain ⟨i, hi, rfl⟩ := List.getElem_of_mem (List.mem_of_mem_take hak)
            exact HFIT.out i hi
          have hlk := HM6.out.map.look ak hakb
          rw [ebk] at hlk
          clear hak hakb ebk
        all_goals
          clear E5
          generalize hrw : (({ key := k, val := (k.size : Int), pins := 0 } : Str.CItem) :: rest) = L2 at *
          have HH2 := hid hln
          clear hln hrw
          generalize hLn : L2.length = ln at *
          go_wp2_with fail
          refine (HLS.out _ HM6.out).mono ?_
          rintro e w7 ⟨rfl, rfl⟩
          go_wp2_with fail
          refine (HLI.out _ HM6.out).mono ?_
          rintro e w7 ⟨rfl, rfl⟩
          go_wp2_with fail
          refine (HGET.out _ HM6.out).mono ?_
          rintro e w7 ⟨rfl, hm7⟩
          have b7 := (Below.cell hm7.below hblt).trans HA0.out
          have HM7 := hid hm7
          clear hm7
          go_wp2_with fail
          refine ⟨⟨j + 1, L2, N2, by omega, by omega, hN2, by push_cast; rfl, HHELD, HM7⟩, ?_⟩
          simp [intOf]
          omega
    · have hend : ¬ j < n ∨ (j < n ∧ ¬ j < 60) := by omega
      have hb := hid HT.out.below
      clear HT
      rcases hend with hi | ⟨hi0, hi⟩
      all_goals
        first | (have hi1 : ¬ ((j : Int) < (n : Int)) := by omega) | skip
        first | (have hi1 : (j : Int) < (n : Int) := by omega) | skip
        first | (have hi2 : ¬ ((j : Int) < 60) := by omega) | skip
        go_wp2_with fail
        refine (HW.out _).mono ?_
        rintro e w3 ⟨rfl, hb3⟩
        go_wp2_with fail
        go_ret
        exact ⟨rfl, Below.trans hb.out (Below.mono hb3 hb.out.size)⟩
namespace LawCacheOthers
open Go.ChangeShapes Go.WideShapes Go.ChangeAt Go.RowKit
open Go.ChangeMaps (open_string shut_string)
theorem own : ownKnob Try.prog.godebug = none := by kernel_rfl
theorem laidOut : laidOutB Try.prog = true := by kernel_rfl
set_option maxRecDepth 100000 in
theorem lifted (os : Os) (started : os.Started) (H : Type) (enc : TypeId × Value → H) :
    ReturnsInHanded {} Try.checked os 5 .any (Rows.cacheOthersSpec.pre6 enc Try.prog Try.f5 Rows.cacheOthersRow.domain false) (Rows.cacheOthersSpec.post enc Try.prog Try.f5 false true false false) := by
  refine returnsInHanded_of_change_sized (C := Try.checked) own started (by kernel_rfl) Try.func5
    (ChangeSpec.witness6 (enc := enc) (C := Try.checked) false ⟨#[], #[.slice none 0 0, .int .u8 0], []⟩ 8 (by kernel_rfl) (by kernel_rfl) (by kernel_rfl) (by kernel_rfl)) ?_
  intro W base args ds gs before hval0 hW hcnd hsz _
  have hval : ∀ (j : Nat) t v, Try.f5.params[j]? = some t → args[j]? = some v → Value.okWide Try.prog W .any base t v := hval0
  have hW' := hW
  obtain ⟨p, q, hA0, hV, rfl, hfz, hnd⟩ := hW
  have hA : DataW.TrodAll enc Try.prog W 0 (fun _ => true) true Try.f5.params.toList args.toList ds p := hA0
  rw [Try.params5] at hA hval hsz
  obtain ⟨v0, vs0, d0, ds0, p0, q0, hargs, rfl, rfl, h0, r0⟩ := trodAll_cons hA
  obtain ⟨v1, vs1, d1, ds1, p1, q1, rfl, rfl, rfl, h1, r1⟩ := trodAll_cons r0
  obtain ⟨rfl, rfl, rfl⟩ := trodAll_nil r1
  obtain rfl : args = #[v0, v1] := by cases args; simp_all
  obtain ⟨rfl, rfl⟩ := trodVars_none hV
  obtain ⟨a0, n0, c0, rfl⟩ := okWide_slice Try.underlying40 (hval 0 40 v0 rfl rfl)
  have k0 := h0
  have lt0 : ∀ x ∈ p0, x.block < W.heap.size := by obtain ⟨m, hm⟩ := k0; exact DataW.trod_lt m _ _ _ hm
  obtain ⟨z0, w0⟩ : ∃ l, Texts W (.slice a0 n0 c0) l := by
    obtain ⟨fuel, hf⟩ := h0
    obtain ⟨l, v, hcs, hl⟩ := open_texts hf
    simp [Value.cells] at hcs
    subst hcs
    exact ⟨l, hl⟩
  obtain ⟨a1, rfl, rfl, rfl, w1⟩ := open_int Try.underlying5 (hval 1 5 v1 rfl rfl) h1
  have b1 := wf_u8 w1
  clear hA0 hval0
  refine (Others_walk z0 (.slice a0 n0 c0) a1 W w0 b1.1 b1.2).mono fun e W' ⟨he, bel⟩ => ?_
  subst he
  exact ⟨_, rfl, _, _, _, [], _, [], hW', trodAll_mk1 (shut_bool Try.underlying4 _), (trodAll_cons_mk (Below.trod laidOut (by kernel_rfl) (of_decide_eq_true (by kernel_rfl)) k0 bel lt0) (trodAll_cons_mk (shut_int Try.underlying5 w1) trodAll_mk0)), rfl, bel.frame _, fun h => by cases h⟩
theorem over : Rows.cacheOthersRow.holds Try.pinned (OpenSpec.ofChange Rows.cacheOthersSpec) :=
  OpenClaim.holds_of_wide 5 Try.f5 rfl rfl rfl rfl rfl rfl rfl ⟨rfl, rfl, rfl, rfl, rfl⟩ rfl rfl rfl rfl rfl (by kernel_rfl) Try.func5 (by kernel_rfl)
    (of_decide_eq_true (by kernel_rfl)) (by unfold Func.isWrapper; first | (rw [if_pos (by decide +kernel)]; kernel_rfl) | (rw [if_neg (by decide +kernel)]; exact ⟨rfl, rfl⟩))
    (fun os started H enc _ => lifted os started H enc)
end LawCacheOthers
/-- The given statement. -/
theorem cacheOthers_proved : Rows.CacheOthersSaid := LawCacheOthers.over
#print axioms cacheOthers_proved
end Go.Proofs.Ytjccfodadiaokaa
