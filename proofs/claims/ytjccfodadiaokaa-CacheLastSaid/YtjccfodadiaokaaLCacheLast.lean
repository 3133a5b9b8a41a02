/- What was put last under a key is got, as long as it is kept, and at most as much is kept as may be. -/
import Derived.Test.YtjccfodadiaokaaCInMap
import Derived.Test.YtjccfodadiaokaaCLastPlain
namespace Go.Proofs.Ytjccfodadiaokaa
open Go.RowKit
set_option linter.unusedVariables false
set_option linter.unusedSimpArgs false
set_option maxRecDepth 100000 in
set_option maxHeartbeats 8000000 in
theorem Last_walk (a : Int) (A : List ActR) (va : Value) (w : World) (l0 : 0 ≤ a) (u0 : a ≤ 255) (hA : Acts w va A) :
    Calls Try.prog 4 #[.int .u8 a, va] w fun e w' => e = .returned (.bool true) ∧ Below w.heap.size w w' := by
  have HW := hid (fun w => awake_c w)
  obtain ⟨m0, hm0, hm8⟩ : ∃ m0 : Nat, a.tmod 9 = (m0 : Int) ∧ m0 ≤ 8 := ⟨(a.tmod 9).toNat, by rw [Int.tmod_eq_emod_of_nonneg l0]; omega, by rw [Int.tmod_eq_emod_of_nonneg l0]; omega⟩
  have hm1 : a % 9 = (m0 : Int) := by rw [← Int.tmod_eq_emod_of_nonneg l0]; exact hm0
  have HNEW := hid (New_c ((m0 : Int) + 1) w (by omega) (by omega))
  obtain ⟨pa, ca, rfl, hat⟩ := hA.at
  have HFIT := hid (show ∀ i (hi : i < A.length), ((-9223372036854775808 ≤ (A[i]).key ∧ (A[i]).key ≤ 9223372036854775807) ∧ (A[i]).val.size ≤ maxLen) from by
    obtain ⟨_, _, _, _, hx, _⟩ := hA
    exact fun i hi => hx _ (List.getElem_mem hi))
  have hn50 : A.length ≤ 5000000000000 := by obtain ⟨_, _, _, h, _⟩ := hA; exact h
  have HAT := hid hat
  clear hat hA
  obtain ⟨n, hN⟩ : ∃ n, n = A.length := ⟨_, rfl⟩
  rw [← hN] at hn50 ⊢
  have HN := hid hN
  clear hN
  have hmm := @run_makeMap Try.prog
  go_enter Try.func4, Try.ntmps4
  go_wp2_with fail
  refine HNEW.out.mono ?_
  rintro e w1 ⟨rfl, hc1, g1⟩
  have hp1 := heap_lt hc1.1
  have HM1 := hid (show InMap w (w1.alloc (.map #[] 0)) w.heap.size ((m0 : Int) + 1) [] w1.heap.size 0 (lastV (A.take 0)) from
    ⟨_, hc1.grow (Grow.alloc _ _), fun k hk => absurd hk (by simp [Value.ownBlock]), Below.trans g1 (Below.mono (Grow.alloc w1 _) g1.size), Nat.le_refl _, by omega, g1.size, MapAt.made w1⟩)
  have HMB := hid g1.size
  clear hc1 g1 HNEW
  generalize hmb : w1.heap.size = mb at *
  go_wp2_with fail
  go_loopw [9] (fun i wr => ∃ (j : Nat) (L : List CItem), j ≤ n ∧ j ≤ 100 ∧ i = .int .i64 (j : Int) ∧ Hid (Lasts (A.take j) (m0 + 1) L) ∧ Hid (InMap w wr w.heap.size ((m0 : Int) + 1) L mb j (lastV (A.take j)))) (fun i _ => n - (intOf i).toNat)
  case atStart => exact ⟨0, [], by omega, by omega, rfl, hid ⟨by simp, by simp, List.Pairwise.nil, by simp⟩, HM1⟩
  case round =>
    clear HM1
    obtain ⟨j, L, hj, hj100, rfl, HL, HM⟩ := hrel
    have hj0 : (0 : Int) ≤ (j : Int) := by omega
    by_cases hboth : j < n ∧ j < 100
    · obtain ⟨hlt, hlt100⟩ := hboth
      have hi1 : (j : Int) < (n : Int) := by omega
      have hi2 : (j : Int) < 100 := by omega
      obtain ⟨b, off, rfl, ha⟩ := HAT.out j (by have := HN.out; omega)
      have hfit := HFIT.out j (by have := HN.out; omega)
      have htake : A.take (j + 1) = A.take j ++ [A[j]'(by have := HN.out; omega)] := List.take_succ_eq_append_getElem (by have := HN.out; omega)
      obtain ⟨x, hx⟩ : ∃ x, A[j]'(by have := HN.out; omega) = x := ⟨_, rfl⟩
      rw [hx] at ha hfit htake
      clear hx
      obtain ⟨rest, gone, out, ep, hl1⟩ := HL.out.put (by omega) x
      rw [show ((m0 + 1 : Nat) : Int) = (m0 : Int) + 1 by omega] at ep
      have HF := hid (show (fun q => if x.key = q then x.val else lastV (A.take j) q) = lastV (A.take (j + 1)) from funext fun q => by rw [htake, lastV_snoc])
      rw [← htake] at hl1
      obtain ⟨kind, key, val⟩ := x
      unfold ActAt at ha
      dsimp only at ha hfit ep hl1 HF
      obtain ⟨a0, a1, a2⟩ := ha
      have b0 := (Below.cell HM.out.below (World.block_lt_of_cell? w _ a0)).trans a0
      have b1 := (Below.cell HM.out.below (World.block_lt_of_cell? w _ a1)).trans a1
      have b2 := (Below.cell HM.out.below (World.block_lt_of_cell? w _ a2)).trans a2
      have HL1 := hid hl1
      have hlen0 := HL.out.1
      have HPUT := hid ((HM.out.grow (Grow.alloc wr (.cells #[.int .i64 kind, .int .i64 key, .string val] 37))).put (by omega) (by omega) key val)
      rw [ep] at HPUT
      dsimp only at HPUT
      have HB0 := hid (heap_new wr (.cells #[.int .i64 kind, .int .i64 key, .string val] 37))
      have HFIT1 := hid hfit
      clear a0 a1 a2 hfit htake ep hl1 hlen0
      go_wp2_with fail
      refine HPUT.out.mono ?_
      rintro e w2 ⟨rfl, hm2, hk2⟩
      have hb2 := hk2 _ _ HB0.out
      have HM2 := hid hm2
      have hlt2 := heap_lt hb2
      have c1 : w2.cell? ⟨wr.heap.size, 1, none⟩ = some (.int .i64 key) := by rw [heap_cell hb2]; rfl
      have c2 : w2.cell? ⟨wr.heap.size, 2, none⟩ = some (.string val) := by rw [heap_cell hb2]; rfl
      have HB2 := hid hb2
      obtain ⟨w3, hrun, hm3, hg3⟩ := HM2.out.upd (by unfold maxLen; omega) key val HFIT1.out.1 HFIT1.out.2
      rw [HF.out] at hm3
      have hmm2 : wr.heap.size ≠ mb := by
        obtain ⟨v, -, -, -, -, -, -, D, ⟨es, clock, hb, -⟩, -⟩ := HM2.out
        intro e
        rw [e, hb] at hb2
        cases hb2
      have hb3 := (hg3.block _ hlt2 (fun e => hmm2 (Option.some.inj e))).trans hb2
      have c31 : w3.cell? ⟨wr.heap.size, 1, none⟩ = some (.int .i64 key) := by rw [heap_cell hb3]; rfl
      have HB3 := hid hb3
      have HM3 := hid hm3
      have HL1len := HL1.out.1
      have HGET := hid (HM3.out.get (by omega) key)
      rw [get_head] at HGET
      dsimp only at HGET
      clear hm2 hk2 hb2 hb3 hm3 hg3 HPUT HB0 b0 b1 b2
      have HRUN := hid hrun
      clear hrun
      go_wp2_with (first | (at_mapUpdate; refine wpList_mapUpdate_run _ _ rfl _ _ _ _ rfl _ _ _ rfl rfl rfl HRUN.out ?_) | fail)
      refine HGET.out.mono ?_
      rintro e w4 ⟨rfl, hm4, hk4⟩
      have hb4 := hk4 _ _ HB3.out
      have c42 : w4.cell? ⟨wr.heap.size, 2, none⟩ = some (.string val) := by rw [heap_cell hb4]; rfl
      have HM4 := hid hm4
      have HLEN := hid hm4.len
      clear hm4 hk4 hb4
      have hl4 : ¬ ((m0 : Int) + 1 < ((({ key := key, val := val, pins := 0 } :: rest : List CItem).length : Nat) : Int)) := by omega
      have hl5 : ((({ key := key, val := val, pins := 0 } :: rest : List CItem).length : Nat) : Int) ≤ (m0 : Int) + 1 := by omega
      generalize hLL : ({ key := key, val := val, pins := 0 } :: rest : List CItem) = L4 at *
      generalize hLn : L4.length = ln at *
      go_wp2_with fail
      refine HLEN.out.mono ?_
      rintro e w5 ⟨rfl, rfl⟩
      go_wp2_with fail
      refine ⟨⟨j + 1, L4, by omega, by omega, by push_cast; rfl, HL1, HM4⟩, ?_⟩
      simp [intOf]
      omega
    · have hend : ¬ j < n ∨ (j < n ∧ ¬ j < 100) := by omega
      have HLV := hid (show L.length ≤ m0 + 1 ∧ ∀ x ∈ L, x.val = lastV (A.take j) x.key from ⟨HL.out.1, HL.out.2.2.2⟩)
      generalize hF : lastV (A.take j) = F at *
      clear HL hF
      rcases hend with hi | ⟨hi0, hi⟩
      all_goals
        first | (have hi1 : ¬ ((j : Int) < (n : Int)) := by omega) | skip
        first | (have hi1 : (j : Int) < (n : Int) := by omega) | skip
        first | (have hi2 : ¬ ((j : Int) < 100) := by omega) | skip
        go_wp2_with fail
        go_loopw [16] (fun i wr => ∃ (q : Nat) (L' : List CItem), q ≤ n ∧ q ≤ 100 ∧ i = .int .i64 (q : Int) ∧ Hid (L'.length ≤ m0 + 1 ∧ ∀ x ∈ L', x.val = F x.key) ∧ Hid (InMap w wr w.heap.size ((m0 : Int) + 1) L' mb j F)) (fun i _ => n - (intOf i).toNat)
        case atStart => exact ⟨0, L, by omega, by omega, rfl, HLV, HM⟩
        case round =>
          clear HM HLV
          obtain ⟨q, L', hq, hq100, rfl, HLV, HM⟩ := hrel
          have hq0 : (0 : Int) ≤ (q : Int) := by omega
          by_cases hboth : q < n ∧ q < 100
          · obtain ⟨hlt, hlt100⟩ := hboth
            have hi3 : (q : Int) < (n : Int) := by omega
            have hi4 : (q : Int) < 100 := by omega
            obtain ⟨b, off, rfl, ha⟩ := HAT.out q (by have := HN.out; omega)
            have hfit := HFIT.out q (by have := HN.out; omega)
            obtain ⟨x, hx⟩ : ∃ x, A[q]'(by have := HN.out; omega) = x := ⟨_, rfl⟩
            rw [hx] at ha hfit
            clear hx
            obtain ⟨kind, key, val⟩ := x
            unfold ActAt at ha
            dsimp only at ha hfit
            obtain ⟨a0, a1, a2⟩ := ha
            have b1 := (Below.cell HM.out.below (World.block_lt_of_cell? w _ a1)).trans a1
            obtain ⟨hg1, hg2, hg3⟩ := get_mem L' key
            have hlen1 := HLV.out.1
            have HGET := hid (HM.out.get (by omega) key)
            have HV2 := hid (show (getP L' key).1.length ≤ m0 + 1 ∧ ∀ x ∈ (getP L' key).1, x.val = F x.key from ⟨by rw [hg1]; exact hlen1, fun x hx => HLV.out.2 x (hg2 x hx)⟩)
            have HV3 := hid (show (getP L' key).2.2 = true → (getP L' key).2.1 = F key from fun h => by
              obtain ⟨x, hx1, hx2, hx3⟩ := hg3 h
              rw [← hx3, HLV.out.2 x hx1, hx2])
            have HFIT1 := hid hfit.1
            clear hg1 hg2 hg3 hlen1 hfit a0 a2
            generalize (getP L' key).1 = L2 at *
            generalize (getP L' key).2.1 = sv at *
            generalize (getP L' key).2.2 = ok at *
            cases ok with
            | false =>
              go_wp2_with fail
              refine HGET.out.mono ?_
              rintro e w2 ⟨rfl, hm2, hk2⟩
              have HM2 := hid hm2
              clear hm2 hk2 HGET
              go_wp2_with fail
              refine ⟨⟨q + 1, L2, by omega, by omega, by push_cast; rfl, HV2, HM2⟩, ?_⟩
              simp [intOf]
              omega
            | true =>
              obtain rfl := HV3.out rfl
              go_wp2_with fail
              refine HGET.out.mono ?_
              rintro e w2 ⟨rfl, hm2, hk2⟩
              have HM2 := hid hm2
              clear hm2 hk2 HGET HM
              have b2 := (Below.cell HM2.out.below (World.block_lt_of_cell? w _ a1)).trans a1
              have HLOOK := hid (show (Instr.lookup 35 (.map (some mb)) (.int .i64 key) false).run Try.prog w2 = .ok (.string (F key)) w2 from by
                obtain ⟨v, -, -, -, -, -, -, hm⟩ := HM2.out
                exact hm.look key HFIT1.out)
              go_wp2_with (first | (at_lookup; refine wpList_lookup_run _ rfl _ _ _ rfl _ _ _ rfl rfl HLOOK.out ?_) | fail)
              refine ⟨⟨q + 1, L2, by omega, by omega, by push_cast; rfl, HV2, HM2⟩, ?_⟩
              simp [intOf]
              omega
          · have hend : ¬ q < n ∨ (q < n ∧ ¬ q < 100) := by omega
            have hb := hid HM.out.below
            clear HM
            rcases hend with hi | ⟨hi0, hi⟩
            all_goals
              first | (have hi3 : ¬ ((q : Int) < (n : Int)) := by omega) | skip
              first | (have hi3 : (q : Int) < (n : Int) := by omega) | skip
              first | (have hi4 : ¬ ((q : Int) < 100) := by omega) | skip
              go_wp2_with fail
              refine (HW.out _).mono ?_
              rintro e w3 ⟨rfl, hb3⟩
              go_wp2_with fail
              go_ret
              exact ⟨rfl, Below.trans hb.out (Below.mono hb3 hb.out.size)⟩
namespace LawCacheLast
open Go.ChangeShapes Go.WideShapes Go.ChangeAt Go.RowKit
open Go.ChangeMaps (open_string shut_string)
theorem own : ownKnob Try.prog.godebug = none := by kernel_rfl
theorem laidOut : laidOutB Try.prog = true := by kernel_rfl
set_option maxRecDepth 100000 in
theorem lifted (os : Os) (started : os.Started) (H : Type) (enc : TypeId × Value → H) :
    ReturnsInHanded {} Try.checked os 4 .any (Rows.cacheLastSpec.pre6 enc Try.prog Try.f4 Rows.cacheLastRow.domain false) (Rows.cacheLastSpec.post enc Try.prog Try.f4 false true false false) := by
  refine returnsInHanded_of_change_sized (C := Try.checked) own started (by kernel_rfl) Try.func4
    (ChangeSpec.witness6 (enc := enc) (C := Try.checked) false ⟨#[], #[.int .u8 0, .slice none 0 0], []⟩ 8 (by kernel_rfl) (by kernel_rfl) (by kernel_rfl) (by kernel_rfl)) ?_
  intro W base args ds gs before hval0 hW hcnd hsz _
  have hval : ∀ (j : Nat) t v, Try.f4.params[j]? = some t → args[j]? = some v → Value.okWide Try.prog W .any base t v := hval0
  have hW' := hW
  obtain ⟨p, q, hA0, hV, rfl, hfz, hnd⟩ := hW
  have hA : DataW.TrodAll enc Try.prog W 0 (fun _ => true) true Try.f4.params.toList args.toList ds p := hA0
  rw [Try.params4] at hA hval hsz
  obtain ⟨v0, vs0, d0, ds0, p0, q0, hargs, rfl, rfl, h0, r0⟩ := trodAll_cons hA
  obtain ⟨v1, vs1, d1, ds1, p1, q1, rfl, rfl, rfl, h1, r1⟩ := trodAll_cons r0
  obtain ⟨rfl, rfl, rfl⟩ := trodAll_nil r1
  obtain rfl : args = #[v0, v1] := by cases args; simp_all
  obtain ⟨rfl, rfl⟩ := trodVars_none hV
  obtain ⟨a0, rfl, rfl, rfl, w0⟩ := open_int Try.underlying5 (hval 0 5 v0 rfl rfl) h0
  have b0 := wf_u8 w0
  obtain ⟨a1, n1, c1, rfl⟩ := okWide_slice Try.underlying34 (hval 1 34 v1 rfl rfl)
  have k1 := h1
  have lt1 : ∀ x ∈ p1, x.block < W.heap.size := by obtain ⟨m, hm⟩ := k1; exact DataW.trod_lt m _ _ _ hm
  obtain ⟨z1, w1⟩ : ∃ l, Acts W (.slice a1 n1 c1) l := by
    obtain ⟨fuel, hf⟩ := h1
    obtain ⟨l, v, hcs, hl⟩ := open_acts hf (fun elems sp hx => by
      simp only at hx
      subst hx
      have hre := sized_slice hsz (j := 1) (t := 34) rfl rfl Try.underlying34
      have hby : Try.checked.prog.bytesOf 37 = 32 := by kernel_rfl
      rw [hby] at hre
      simp only [reachBytes] at hre
      omega)
    simp [Value.cells] at hcs
    subst hcs
    exact ⟨l, hl⟩
  clear hA0 hval0
  refine (Last_walk a0 z1 (.slice a1 n1 c1) W b0.1 b0.2 w1).mono fun e W' ⟨he, bel⟩ => ?_
  subst he
  exact ⟨_, rfl, _, _, _, [], _, [], hW', trodAll_mk1 (shut_bool Try.underlying4 _), (trodAll_cons_mk (shut_int Try.underlying5 w0) (trodAll_cons_mk (Below.trod laidOut (by kernel_rfl) (of_decide_eq_true (by kernel_rfl)) k1 bel lt1) trodAll_mk0)), rfl, bel.frame _, fun h => by cases h⟩
theorem over : Rows.cacheLastRow.holds Try.pinned (OpenSpec.ofChange Rows.cacheLastSpec) :=
  OpenClaim.holds_of_wide 4 Try.f4 rfl rfl rfl rfl rfl rfl rfl ⟨rfl, rfl, rfl, rfl, rfl⟩ rfl rfl rfl rfl rfl (by kernel_rfl) Try.func4 (by kernel_rfl)
    (of_decide_eq_true (by kernel_rfl)) (by unfold Func.isWrapper; first | (rw [if_pos (by decide +kernel)]; kernel_rfl) | (rw [if_neg (by decide +kernel)]; exact ⟨rfl, rfl⟩))
    (fun os started H enc _ => lifted os started H enc)
end LawCacheLast
/-- The given statement. -/
theorem cacheLast_proved : Rows.CacheLastSaid := LawCacheLast.over
#print axioms cacheLast_proved
end Go.Proofs.Ytjccfodadiaokaa
