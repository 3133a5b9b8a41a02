/- The gaps of a short span are as the reference reckons them, number by number. -/
import Derived.Test.YthmbnffddpnehaaILaws
namespace Go.Proofs.Ythmbnffddpnehaa
open Go.RowKit Go.Joins Go.ChangeShapes Go.WideShapes Go.Deep Go.WideElems Go.Maps
set_option linter.unusedVariables false
set_option linter.unusedSimpArgs false
set_option maxRecDepth 100000 in
set_option maxHeartbeats 4000000 in
theorem IntervalGaps_walk (l : List ActR) (v : Value) (f a2 most : Int) (w : World) (ha : Acts w v l) (hf : -9223372036854775808 ≤ f) (hf' : f ≤ 9223372036854775807) (h2 : 0 ≤ a2) (h2' : a2 ≤ 255) (h3 : -9223372036854775808 ≤ most) (h3' : most ≤ 9223372036854775807) :
    Calls Try.prog 3 #[v, .int .i64 f, .int .u8 a2, .int .i64 most] w fun e w' => e = .returned (.bool true) ∧ Below w.heap.size w w' := by
  obtain ⟨N, rfl⟩ : ∃ N : Nat, a2 = N := ⟨a2.toNat, by omega⟩
  have hS := fillS_100 l
  have HF := hid (filled_c v l w ha)
  obtain ⟨A, c, rfl, -, -, -⟩ := ha
  generalize l.length = n at *
  generalize fillS (l.take 100) = S at *
  obtain ⟨L, nx⟩ := S
  dsimp only at hS HF
  have HW := hid (fun w => awake_c w)
  go_enter Try.func3, Try.ntmps3
  go_wp2_with fail
  refine HF.out.mono ?_
  rintro e w1 ⟨p, v', rfl, hB, hT⟩
  obtain ⟨⟨N2, T, mb, hix, -⟩, hro⟩ := hB
  dsimp only at hix hro
  have HRO := hid (fun (w' : World) (g : Grow w1 w') (t : Int) (k : Nat) (e : t = f + (k : Int) - 1) (hk : k ≤ 1000) (hh : -4611686018427387904 ≤ f ∧ f ≤ 4611686018427387904) => RGaps_c nx v' L f t k w' (hro.grow g) e hk hh)
  obtain ⟨A1, c1, rfl, -, -, -⟩ := hro.items
  have HT := hid hT
  have HIX := hid hix
  have HGA := hid (fun (w' : World) (g : Grow w1 w') (t most : Int) (h1 : 0 ≤ most) (h2 : most ≤ 10000) => gapsAny_c (some ⟨p, 0, none⟩) T f t most w' (hix.grow g).ptr h1 h2 (Nat.le_trans (metT_len hix f t) (by omega)))
  have HEQ := hid (fun (hN : f + (N : Int) - 1 ≤ 9223372036854775807) (most : Int) => gapsL_ref hix.items hix.rises hix.fits f most N hf hN)
  have HLEN := refG_len L f N
  clear HF hT hix hro
  generalize L.length = nl at *
  have g2 := Grow.alloc w1 (.cells #[.slice A1 nl c1, .int .i64 nx] 26)
  have r2 := heap_new w1 (.cells #[.slice A1 nl c1, .int .i64 nx] 26)
  by_cases hbig : 1152921504606846976 < f ∨ f < -1152921504606846976
  · rcases hbig with hbig | hbig
    · go_wp2_with fail
      refine (HW.out _).mono ?_
      rintro e w6 ⟨rfl, g6⟩
      go_wp2_with fail
      go_ret
      exact ⟨rfl, Below.trans HT.out.below (Below.mono (Grow.trans g2 g6) HT.out.below.size)⟩
    · have hb2 : ¬ 1152921504606846976 < f := by omega
      go_wp2_with fail
      refine (HW.out _).mono ?_
      rintro e w6 ⟨rfl, g6⟩
      go_wp2_with fail
      go_ret
      exact ⟨rfl, Below.trans HT.out.below (Below.mono (Grow.trans g2 g6) HT.out.below.size)⟩
  · go_wp2_with fail
    refine (HRO.out _ g2 _ N rfl (by omega) (by omega)).mono ?_
    rintro e w3 ⟨B, c3, rfl, hs3, g3⟩
    have G5 := hid (Grow.trans g2 g3)
    obtain ⟨B', c3', e9, hl3, hlc, hsc⟩ := hs3
    cases e9
    have hs3 : RSpans w3 (.slice B (refG L f N).length c3) (refG L f N) := ⟨B, c3, rfl, hl3, hlc, hsc⟩
    have hr5 := g3.heap r2
    have HSP := hid (fun (k : Nat) (hk : k ≤ (refG L f N).length) => hs3.take k hk)
    have HS3' := hid hs3
    clear g2 r2 g3 hr5
    by_cases hm : 0 ≤ most ∧ most < ((refG L f N).length : Int)
    · obtain ⟨m, rfl⟩ : ∃ m : Nat, most = m := ⟨most.toNat, by omega⟩
      obtain ⟨gB, rfl, -⟩ := hsc (by omega)
      obtain ⟨hm1, hm2⟩ := hm
      have hmk : m ≤ (refG L f N).length := by omega
      have HSQ := hid (HSP.out m hmk)
      have HTK := hid (show (m : Int).toNat = m from by simp)
      clear HSP HS3' hs3 hsc
      obtain ⟨K, hK⟩ : ∃ K, (refG L f N).length = K := ⟨_, rfl⟩
      rw [hK] at hm2 hmk hlc hl3 HLEN ⊢
      clear hK
      go_wp2_with fail
      refine (HGA.out w3 G5.out _ (m : Int) (by omega) (by omega)).mono ?_
      rintro e w4 ⟨lv4, rfl, hs4, g4⟩
      rw [HEQ.out (by omega) (m : Int), HTK.out] at hs4
      have HS4 := hid hs4
      have HS5 := hid (HSQ.out.grow g4)
      obtain ⟨A4, c4, rfl, -, -, -⟩ := hs4
      have G6 := hid (Grow.trans G5.out g4)
      clear g4
      generalize (refG L f N).take m = GL at *
      generalize GL.length = gl at *
      go_wp2_with fail
      refine (spans_c GL _ _ w4 HS4.out HS5.out).mono ?_
      rintro e w5 ⟨rfl, g5⟩
      go_wp2_with fail
      refine (HW.out _).mono ?_
      rintro e w6 ⟨rfl, g6⟩
      go_wp2_with fail
      go_ret
      exact ⟨rfl, Below.trans HT.out.below (Below.mono (Grow.trans (Grow.trans G6.out g5) g6) HT.out.below.size)⟩
    · have HTK := hid (show (refG L f N).take ((1000 : Int).toNat) = refG L f N from List.take_of_length_le (by simp; omega))
      have hm2 : ¬ 0 ≤ most ∨ (0 ≤ most ∧ ¬ most < ((refG L f N).length : Int)) := by omega
      clear HSP hs3 hsc hm
      rcases hm2 with hm2 | ⟨hm2, hm3⟩
      · obtain ⟨K, hK⟩ : ∃ K, (refG L f N).length = K := ⟨_, rfl⟩
        have hsk := HS3'.out
        rw [hK] at hlc hl3 HLEN hsk ⊢
        have HSK := hid hsk
        clear hsk
        clear hK
        go_wp2_with fail
        refine (HGA.out w3 G5.out _ 1000 (by omega) (by omega)).mono ?_
        rintro e w4 ⟨lv4, rfl, hs4, g4⟩
        rw [HEQ.out (by omega) 1000, HTK.out] at hs4
        have HS4 := hid hs4
        have HS5 := hid (HSK.out.grow g4)
        obtain ⟨A4, c4, rfl, -, -, -⟩ := hs4
        have G6 := hid (Grow.trans G5.out g4)
        clear g4
        generalize refG L f N = GL at *
        generalize GL.length = gl at *
        go_wp2_with fail
        refine (spans_c GL _ _ w4 HS4.out HS5.out).mono ?_
        rintro e w5 ⟨rfl, g5⟩
        go_wp2_with fail
        refine (HW.out _).mono ?_
        rintro e w6 ⟨rfl, g6⟩
        go_wp2_with fail
        go_ret
        exact ⟨rfl, Below.trans HT.out.below (Below.mono (Grow.trans (Grow.trans G6.out g5) g6) HT.out.below.size)⟩
      · obtain ⟨K, hK⟩ : ∃ K, (refG L f N).length = K := ⟨_, rfl⟩
        have hsk := HS3'.out
        rw [hK] at hm3 hlc hl3 HLEN hsk ⊢
        have HSK := hid hsk
        clear hsk
        clear hK
        go_wp2_with fail
        refine (HGA.out w3 G5.out _ 1000 (by omega) (by omega)).mono ?_
        rintro e w4 ⟨lv4, rfl, hs4, g4⟩
        rw [HEQ.out (by omega) 1000, HTK.out] at hs4
        have HS4 := hid hs4
        have HS5 := hid (HSK.out.grow g4)
        obtain ⟨A4, c4, rfl, -, -, -⟩ := hs4
        have G6 := hid (Grow.trans G5.out g4)
        clear g4
        generalize refG L f N = GL at *
        generalize GL.length = gl at *
        go_wp2_with fail
        refine (spans_c GL _ _ w4 HS4.out HS5.out).mono ?_
        rintro e w5 ⟨rfl, g5⟩
        go_wp2_with fail
        refine (HW.out _).mono ?_
        rintro e w6 ⟨rfl, g6⟩
        go_wp2_with fail
        go_ret
        exact ⟨rfl, Below.trans HT.out.below (Below.mono (Grow.trans (Grow.trans G6.out g5) g6) HT.out.below.size)⟩
namespace LawIntervalGaps
open Go.ChangeShapes Go.WideShapes Go.ChangeAt Go.RowKit
open Go.ChangeMaps (open_string shut_string)
theorem own : ownKnob Try.prog.godebug = none := by kernel_rfl
theorem laidOut : laidOutB Try.prog = true := by kernel_rfl
set_option maxRecDepth 100000 in
theorem lifted (os : Os) (started : os.Started) (H : Type) (enc : TypeId × Value → H) :
    ReturnsInHanded {} Try.checked os 3 .any (Rows.intervalGapsSpec.pre6 enc Try.prog Try.f3 Rows.intervalGapsRow.domain false) (Rows.intervalGapsSpec.post enc Try.prog Try.f3 false true false false) := by
  refine returnsInHanded_of_change_sized (C := Try.checked) own started (by kernel_rfl) Try.func3
    (ChangeSpec.witness6 (enc := enc) (C := Try.checked) false ⟨#[], #[.slice none 0 0, .int .i64 0, .int .u8 0, .int .i64 0], []⟩ 8 (by kernel_rfl) (by kernel_rfl) (by kernel_rfl) (by kernel_rfl)) ?_
  intro W base args ds gs before hval0 hW hcnd hsz _
  have hval : ∀ (j : Nat) t v, Try.f3.params[j]? = some t → args[j]? = some v → Value.okWide Try.prog W .any base t v := hval0
  have hW' := hW
  obtain ⟨p, q, hA0, hV, rfl, hfz, hnd⟩ := hW
  have hA : DataW.TrodAll enc Try.prog W 0 (fun _ => true) true Try.f3.params.toList args.toList ds p := hA0
  rw [Try.params3] at hA hval hsz
  obtain ⟨v0, vs0, d0, ds0, p0, q0, hargs, rfl, rfl, h0, r0⟩ := trodAll_cons hA
  obtain ⟨v1, vs1, d1, ds1, p1, q1, rfl, rfl, rfl, h1, r1⟩ := trodAll_cons r0
  obtain ⟨v2, vs2, d2, ds2, p2, q2, rfl, rfl, rfl, h2, r2⟩ := trodAll_cons r1
  obtain ⟨v3, vs3, d3, ds3, p3, q3, rfl, rfl, rfl, h3, r3⟩ := trodAll_cons r2
  obtain ⟨rfl, rfl, rfl⟩ := trodAll_nil r3
  obtain rfl : args = #[v0, v1, v2, v3] := by cases args; simp_all
  obtain ⟨rfl, rfl⟩ := trodVars_none hV
  obtain ⟨a0, n0, c0, rfl⟩ := okWide_slice Try.underlying22 (hval 0 22 v0 rfl rfl)
  have k0 := h0
  have lt0 : ∀ x ∈ p0, x.block < W.heap.size := by obtain ⟨m, hm⟩ := k0; exact DataW.trod_lt m _ _ _ hm
  obtain ⟨z0, w0⟩ : ∃ l, Acts W (.slice a0 n0 c0) l := by
    obtain ⟨fuel, hf⟩ := h0
    obtain ⟨l, v, hcs, hl⟩ := open_acts hf (fun elems sp hx => by
      simp only at hx
      subst hx
      have hre := sized_slice hsz (j := 0) (t := 22) rfl rfl Try.underlying22
      have hby : Try.checked.prog.bytesOf 63 = 48 := by kernel_rfl
      rw [hby] at hre
      simp only [reachBytes] at hre
      omega)
    simp [Value.cells] at hcs
    subst hcs
    exact ⟨l, hl⟩
  obtain ⟨a1, rfl, rfl, rfl, w1⟩ := open_int Try.underlying3 (hval 1 3 v1 rfl rfl) h1
  have b1 := wf_i64 w1
  obtain ⟨a2, rfl, rfl, rfl, w2⟩ := open_int Try.underlying5 (hval 2 5 v2 rfl rfl) h2
  have b2 := wf_u8 w2
  obtain ⟨a3, rfl, rfl, rfl, w3⟩ := open_int Try.underlying3 (hval 3 3 v3 rfl rfl) h3
  have b3 := wf_i64 w3
  clear hA0 hval0
  refine (IntervalGaps_walk z0 (.slice a0 n0 c0) a1 a2 a3 W w0 b1.1 b1.2 b2.1 b2.2 b3.1 b3.2).mono fun e W' ⟨he, bel⟩ => ?_
  subst he
  exact ⟨_, rfl, _, _, _, [], _, [], hW', trodAll_mk1 (shut_bool Try.underlying4 _), (trodAll_cons_mk (Below.trod laidOut (by kernel_rfl) (of_decide_eq_true (by kernel_rfl)) k0 bel lt0) (trodAll_cons_mk (shut_int Try.underlying3 w1) (trodAll_cons_mk (shut_int Try.underlying5 w2) (trodAll_cons_mk (shut_int Try.underlying3 w3) trodAll_mk0)))), rfl, bel.frame _, fun h => by cases h⟩
theorem over : Rows.intervalGapsRow.holds Try.pinned (OpenSpec.ofChange Rows.intervalGapsSpec) :=
  OpenClaim.holds_of_wide 3 Try.f3 rfl rfl rfl rfl rfl rfl rfl ⟨rfl, rfl, rfl, rfl, rfl⟩ rfl rfl rfl rfl rfl (by kernel_rfl) Try.func3 (by kernel_rfl)
    (of_decide_eq_true (by kernel_rfl)) (by unfold Func.isWrapper; first | (rw [if_pos (by decide +kernel)]; kernel_rfl) | (rw [if_neg (by decide +kernel)]; exact ⟨rfl, rfl⟩))
    (fun os started H enc _ => lifted os started H enc)
end LawIntervalGaps
/-- The given statement. -/
theorem intervalGaps_proved : Rows.IntervalGapsSaid := LawIntervalGaps.over
#print axioms intervalGaps_proved
end Go.Proofs.Ythmbnffddpnehaa
