/- What every call of a cache answers, and what is kept behind each, as it was used. -/
import Derived.Test.YtjccfodadiaokaaCPlays2
import Derived.Deep.RegionWith
namespace Go.Proofs.Ytjccfodadiaokaa
open Go.RowKit
set_option linter.unusedVariables false
set_option linter.unusedSimpArgs false
set_option maxRecDepth 100000 in
set_option maxHeartbeats 4000000 in
theorem PlaysBad_walk (most : Int) (A : List ActR) (va : Value) (w : World) (hA : Acts w va A) (hbad : most < 1 ∨ 1024 < most) :
    Calls Try.prog 7 #[.int .i64 most, va] w fun e w' => e = .returned (.bool true) ∧ Below w.heap.size w w' := by
  have HW := hid (fun w => awake_c w)
  have HN := hid (NewBad_c most w hbad)
  have HR := hid (fun w => RNewBad_c most w hbad)
  obtain ⟨pa, ca, rfl, -⟩ := hA.at
  clear hA hbad
  generalize A.length = n at *
  go_enter Try.func7, Try.ntmps7
  go_wp2_with fail
  refine HN.out.mono ?_
  rintro e w1 ⟨rfl, rfl⟩
  go_wp2_with fail
  refine (HR.out _).mono ?_
  rintro e w1 ⟨rfl, g1⟩
  go_wp2_with fail
  go_loopw [9] (fun i wr => i = .int .i64 0 ∧ wr = w1.alloc (.cells #[.int .i64 0, .slice none 0 0] 57)) (fun i _ => 0)
  case atStart => exact ⟨rfl, rfl⟩
  case round =>
    obtain ⟨rfl, rfl⟩ := hrel
    by_cases h0 : 0 < n
    · have hi1 : (0 : Int) < (n : Int) := by omega
      go_wp2_with fail
      refine (HW.out _).mono ?_
      rintro e w3 ⟨rfl, hb3⟩
      go_wp2_with fail
      go_ret
      exact ⟨rfl, Grow.trans (Grow.trans g1 (Grow.alloc _ _)) hb3⟩
    · have hi1 : ¬ (0 : Int) < (n : Int) := by omega
      go_wp2_with fail
      refine (HW.out _).mono ?_
      rintro e w3 ⟨rfl, hb3⟩
      go_wp2_with fail
      go_ret
      exact ⟨rfl, Grow.trans (Grow.trans g1 (Grow.alloc _ _)) hb3⟩
set_option maxRecDepth 100000 in
set_option maxHeartbeats 8000000 in
theorem PlaysGood_walk (most : Int) (A : List ActR) (va : Value) (w : World) (hA : Acts w va A) (h1 : 1 ≤ most) (h2 : most ≤ 1024) :
    Calls Try.prog 7 #[.int .i64 most, va] w fun e w' => e = .returned (.bool true) ∧ Below w.heap.size w w' := by
  have HW := hid (fun w => awake_c w)
  have HNEW := hid (New_c most w h1 h2)
  have HRNEW := hid (fun w => RNew_c most w h1 h2)
  obtain ⟨pa, ca, rfl, hat⟩ := hA.at
  have hn50 : A.length ≤ 5000000000000 := by obtain ⟨_, _, _, h, _⟩ := hA; exact h
  have HAT := hid hat
  clear hat hA
  obtain ⟨n, hN⟩ : ∃ n, n = A.length := ⟨_, rfl⟩
  rw [← hN] at hn50 ⊢
  have HN := hid hN
  clear hN
  go_enter Try.func7, Try.ntmps7
  go_wp2_with fail
  refine HNEW.out.mono ?_
  rintro e w1 ⟨rfl, hc1, g1⟩
  have hlt1 := heap_lt hc1.1
  have HC1 := hid hc1
  clear hc1
  go_wp2_with fail
  refine (HRNEW.out _).mono ?_
  rintro e w2 ⟨rfl, g2⟩
  have hlt2 : w.heap.size < w2.heap.size := by have := g2.size; omega
  have HB0 := hid (show Both w (w2.alloc (.cells #[.int .i64 most, .slice none 0 0] 57)) w.heap.size w2.heap.size most [] from
    ⟨_, _, (HC1.out.grow g2).grow (Grow.alloc _ _), fun k hk => absurd hk (by simp [Value.ownBlock]), Below.mono' (Grow.trans g1 g2) (by omega) _, Nat.le_refl _, heap_new w2 _, ROwn.nil _, by omega⟩)
  clear HNEW HRNEW HC1 g1 g2
  go_wp2_with fail
  generalize w2.heap.size = rb at *
  generalize w2.alloc (.cells #[.int .i64 most, .slice none 0 0] 57) = w3 at *
  go_loopw [9] (fun i wr => ∃ (j : Nat) (L : List CItem), j ≤ n ∧ j ≤ 100 ∧ i = .int .i64 (j : Int) ∧ Hid (Keeps j most L) ∧ Hid (Both w wr w.heap.size rb most L)) (fun i _ => n - (intOf i).toNat)
  case atStart => exact ⟨0, [], by omega, by omega, rfl, hid ⟨List.Pairwise.nil, by simp, by simp; omega⟩, HB0⟩
  case round =>
    clear HB0
    obtain ⟨j, L, hj, hj100, rfl, HK, HB⟩ := hrel
    have hj0 : (0 : Int) ≤ (j : Int) := by omega
    by_cases hboth : j < n ∧ j < 100
    · obtain ⟨hlt, hlt100⟩ := hboth
      have hi1 : (j : Int) < (n : Int) := by omega
      have hi2 : (j : Int) < 100 := by omega
      obtain ⟨b, off, rfl, ha⟩ := HAT.out j (by have := HN.out; omega)
      generalize A[j]'(by have := HN.out; omega) = x at *
      have HD := hid (fun (w' : World) (g : Grow wr w') => does_c w w' w.heap.size rb most L j x (HB.out.grow g) HK.out h2 h1 (by omega))
      have HK2 := hid (HK.out.does x)
      generalize doesP most L x = L2 at *
      obtain ⟨kind, key, val⟩ := x
      unfold ActAt at ha
      dsimp only at ha HD
      obtain ⟨a0, a1, a2⟩ := ha
      have b0 := (Below.cell HB.out.below (World.block_lt_of_cell? w _ a0)).trans a0
      have b1 := (Below.cell HB.out.below (World.block_lt_of_cell? w _ a1)).trans a1
      have b2 := (Below.cell HB.out.below (World.block_lt_of_cell? w _ a2)).trans a2
      clear a0 a1 a2
      have hl2 : L2.length ≤ 1024 := by have := HK2.out.len; omega
      go_wp2_with fail
      go_region_with (first
        | (go_at_call 22; refine (HD.out _ (Grow.drew _)).mono ?_; rintro e w4 ⟨rfl, hb4⟩; have HB4 := hid hb4; obtain ⟨v4, u4, -, -, -, -, hr4, hro4, -⟩ := hb4; have RI4 := hid hro4.items; obtain ⟨⟨bb, ho4⟩, -⟩ := hro4; obtain ⟨A4, c4, rfl⟩ := own_form ho4; have k4 : w4.cell? ⟨rb, 1, none⟩ = some (.slice A4 L2.length c4) := (by rw [heap_cell hr4]; rfl); have hlt4 := heap_lt hr4; have HR4 := hid hr4; clear ho4 hr4)
        | (go_at_call 14; refine (Both.len HB4.out).mono ?_; rintro e w5 ⟨rfl, rfl⟩)
        | (go_at_call 19; refine (Both.kept HB4.out (by omega)).mono ?_; rintro e w6 ⟨⟨lv, rfl, hr6⟩, g6⟩; have k6 := g6.cell k4; have hlt6 : rb < w6.heap.size := (by have := g6.size; omega); have HR6 := hid hr6; have G6 := hid g6; clear hr6 g6)
        | (go_at_call 20; refine (sameBare_c L2 _ _ _ HR6.out (RI4.out.grow G6.out)).mono ?_; rintro e w7 ⟨rfl, g7⟩; have G7 := hid (Grow.trans G6.out g7); clear g7))
      all_goals
        go_wp2_with fail
        refine ⟨⟨j + 1, L2, by omega, by omega, by push_cast; rfl, HK2, hid (HB4.out.grow G7.out)⟩, ?_⟩
        simp [intOf]
        omega
    · have hend : ¬ j < n ∨ (j < n ∧ ¬ j < 100) := by omega
      have hb := hid HB.out.below
      rcases hend with hi | ⟨hi0, hi⟩
      all_goals
        first | (have hi1 : ¬ ((j : Int) < (n : Int)) := by omega) | skip
        first | (have hi1 : (j : Int) < (n : Int) := by omega) | skip
        first | (have hi2 : ¬ ((j : Int) < 100) := by omega) | skip
        go_wp2_with fail
        refine (HW.out _).mono ?_
        rintro e w3 ⟨rfl, hb3⟩
        go_wp2_with fail
        go_ret
        exact ⟨rfl, Below.trans hb.out (Below.mono hb3 hb.out.size)⟩
theorem Plays_walk (most : Int) (A : List ActR) (va : Value) (w : World) (l0 : -9223372036854775808 ≤ most) (u0 : most ≤ 9223372036854775807) (hA : Acts w va A) :
    Calls Try.prog 7 #[.int .i64 most, va] w fun e w' => e = .returned (.bool true) ∧ Below w.heap.size w w' := by
  by_cases h : 1 ≤ most ∧ most ≤ 1024
  · exact PlaysGood_walk most A va w hA h.1 h.2
  · exact PlaysBad_walk most A va w hA (by omega)
namespace LawCachePlays
open Go.ChangeShapes Go.WideShapes Go.ChangeAt Go.RowKit
open Go.ChangeMaps (open_string shut_string)
theorem own : ownKnob Try.prog.godebug = none := by kernel_rfl
theorem laidOut : laidOutB Try.prog = true := by kernel_rfl
set_option maxRecDepth 100000 in
theorem lifted (os : Os) (started : os.Started) (H : Type) (enc : TypeId × Value → H) :
    ReturnsInHanded {} Try.checked os 7 .any (Rows.cachePlaysSpec.pre6 enc Try.prog Try.f7 Rows.cachePlaysRow.domain false) (Rows.cachePlaysSpec.post enc Try.prog Try.f7 false true false false) := by
  refine returnsInHanded_of_change_sized (C := Try.checked) own started (by kernel_rfl) Try.func7
    (ChangeSpec.witness6 (enc := enc) (C := Try.checked) false ⟨#[], #[.int .i64 0, .slice none 0 0], []⟩ 8 (by kernel_rfl) (by kernel_rfl) (by kernel_rfl) (by kernel_rfl)) ?_
  intro W base args ds gs before hval0 hW hcnd hsz _
  have hval : ∀ (j : Nat) t v, Try.f7.params[j]? = some t → args[j]? = some v → Value.okWide Try.prog W .any base t v := hval0
  have hW' := hW
  obtain ⟨p, q, hA0, hV, rfl, hfz, hnd⟩ := hW
  have hA : DataW.TrodAll enc Try.prog W 0 (fun _ => true) true Try.f7.params.toList args.toList ds p := hA0
  rw [Try.params7] at hA hval hsz
  obtain ⟨v0, vs0, d0, ds0, p0, q0, hargs, rfl, rfl, h0, r0⟩ := trodAll_cons hA
  obtain ⟨v1, vs1, d1, ds1, p1, q1, rfl, rfl, rfl, h1, r1⟩ := trodAll_cons r0
  obtain ⟨rfl, rfl, rfl⟩ := trodAll_nil r1
  obtain rfl : args = #[v0, v1] := by cases args; simp_all
  obtain ⟨rfl, rfl⟩ := trodVars_none hV
  obtain ⟨a0, rfl, rfl, rfl, w0⟩ := open_int Try.underlying3 (hval 0 3 v0 rfl rfl) h0
  have b0 := wf_i64 w0
  obtain ⟨a1, n1, c1, rfl⟩ := okWide_slice Try.underlying34 (hval 1 34 v1 rfl rfl)
  have k1 := h1
  have lt1 : ∀ x ∈ p1, x.block < W.heap.size := by obtain ⟨m, hm⟩ := k1; exact DataW.trod_lt m _ _ _ hm
  obtain ⟨z1, w1⟩ : ∃ l, Acts W (.slice a1 n1 c1) l := by
    obtain ⟨fuel, hf⟩ := h1
    obtain ⟨l, v, hcs, hl⟩ := open_acts hf (fun elems sp hx => by
      simp only at hx
      subst hx
      have hre := sized_slice hsz (j := 1) (t := 34) rfl rfl Try.underlying34
      have hby : Try.checked.prog.bytesOf 37 = 32 := by kernel_rfl
      rw [hby] at hre
      simp only [reachBytes] at hre
      omega)
    simp [Value.cells] at hcs
    subst hcs
    exact ⟨l, hl⟩
  clear hA0 hval0
  refine (Plays_walk a0 z1 (.slice a1 n1 c1) W b0.1 b0.2 w1).mono fun e W' ⟨he, bel⟩ => ?_
  subst he
  exact ⟨_, rfl, _, _, _, [], _, [], hW', trodAll_mk1 (shut_bool Try.underlying4 _), (trodAll_cons_mk (shut_int Try.underlying3 w0) (trodAll_cons_mk (Below.trod laidOut (by kernel_rfl) (of_decide_eq_true (by kernel_rfl)) k1 bel lt1) trodAll_mk0)), rfl, bel.frame _, fun h => by cases h⟩
theorem over : Rows.cachePlaysRow.holds Try.pinned (OpenSpec.ofChange Rows.cachePlaysSpec) :=
  OpenClaim.holds_of_wide 7 Try.f7 rfl rfl rfl rfl rfl rfl rfl ⟨rfl, rfl, rfl, rfl, rfl⟩ rfl rfl rfl rfl rfl (by kernel_rfl) Try.func7 (by kernel_rfl)
    (of_decide_eq_true (by kernel_rfl)) (by unfold Func.isWrapper; first | (rw [if_pos (by decide +kernel)]; kernel_rfl) | (rw [if_neg (by decide +kernel)]; exact ⟨rfl, rfl⟩))
    (fun os started H enc _ => lifted os started H enc)
end LawCachePlays
/-- The given statement. -/
theorem cachePlays_proved : Rows.CachePlaysSaid := LawCachePlays.over
#print axioms cachePlays_proved
end Go.Proofs.Ytjccfodadiaokaa
