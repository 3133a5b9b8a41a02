/- The numbers of every source, as they are asked for. -/
import Derived.Test.YtlhgdbangnohjaaGenBelow
import Derived.Test.YtlhgdbangnohjaaInts
namespace Go.Proofs.Ytlhgdbangnohjaa
open Go.RowKit
set_option linter.unusedVariables false
set_option linter.unusedSimpArgs false
set_option maxRecDepth 100000 in
set_option maxHeartbeats 2000000 in
theorem GenNumbers_walk (s : Int) (a : Option Addr) (n c : Nat) (zs : List Int) (w : World) (l1 : 0 ≤ s) (u1 : s ≤ 18446744073709551615) (l2 : IntRow .i64 8 w a n c zs) :
    Calls Try.prog 3 #[.int .u64 s, .slice a n c] w fun e w' => e = .returned (.bool true) ∧ Below w.heap.size w w' := by
  obtain ⟨hI, hb⟩ := Ints.of_row l2
  have hlen : (zs.take n).length = n := by
    rcases l2 with ⟨rfl, rfl, rfl, rfl⟩ | ⟨x, rfl, hl, hm, hz, hcell, hwf, hre⟩
    · rfl
    · rw [List.length_take]; omega
  generalize hx : zs.take n = xs at *
  clear hx l2
  obtain ⟨p, cap, hv, hl, hc⟩ := hI
  rw [hlen] at hv hl hc
  simp only [Value.slice.injEq] at hv
  obtain ⟨rfl, -, rfl⟩ := hv
  have HC := hid hc
  have HB := hid (fun i (hi : i < n) => hb (xs.getD i 0) (by simp [List.getD, hlen, hi]))
  have c1 := hid (fun w => New_c s w)
  have c2 := hid (fun w => Seed_c s w)
  have hu := seedV_u ⟨l1, u1⟩
  have haw := hid (fun w => awake_c w)
  generalize seedV s = X0 at *
  have HU := hid hu
  clear hc hb hu
  go_enter Try.func3, Try.ntmps3
  go_wp2_with fail
  refine (c1.out _).mono ?_
  rintro e w1 ⟨rfl, b1, s1⟩
  have s1 := hid s1
  go_wp2_with fail
  refine (c2.out _).mono ?_
  rintro e w2 ⟨rfl, rfl⟩
  go_wp2_with fail
  go_loopw [6, 7] (fun x i wr => ∃ (j : Nat) (X : Int), j ≤ n ∧ i = .int .i64 j ∧ x = .int .u64 X ∧ Hid (U64 X) ∧ Hid (Src wr w.heap.size X) ∧ Grow w wr) (fun _ i _ => n - (intOf i).toNat)
  case atStart => exact ⟨0, X0, by omega, rfl, rfl, HU, s1, b1⟩
  case round =>
    obtain ⟨j, X, hj, rfl, rfl, HX, HS, hg⟩ := hrel
    by_cases hlt : j < n ∧ j < 100
    · obtain ⟨hlt1, hlt2⟩ := hlt
      obtain ⟨b, off, rfl, hcell⟩ := HC.out (by omega)
      have hce := hg.cell (hcell j hlt1)
      have hbd := HB.out j hlt1
      generalize xs.getD j 0 = A at *
      clear hcell
      by_cases hA : A = -1
      · subst hA
        have d1 := hid (RNext_c X HX.out)
        have d2 := hid (fun w' (h : Src w' w.heap.size X) => Next_c X w.heap.size w.heap.size w' HX.out h (Nat.le_refl _))
        have hn := hid (nxt_u X)
        generalize told (nxt X) = T at *
        generalize nxt X = Y at *
        have hT : (T != T) = false := by simp
        go_wp2_with fail
        refine (d1.out _).mono ?_
        rintro e w3 ⟨rfl, rfl⟩
        go_wp2_with fail
        refine (d2.out _ HS.out).mono ?_
        rintro e w4 ⟨rfl, b4, s4⟩
        have s4 := hid s4
        go_wp2_with fail
        go_roundw
        case rel => exact ⟨j + 1, Y, by omega, by go_num, rfl, hn, s4, Below.trans hg b4⟩
        case measure => simp [intOf]; omega
      · have d1 := hid (fun w => RBelow_c X A w HX.out hbd.2)
        have d3 := hid (fun w' (h : Src w' w.heap.size X) => Below_c X A w.heap.size w.heap.size w' HX.out hbd.2 h (Nat.le_refl _))
        have hn := hid (belX_u A HX.out)
        have qA : (A == -1) = false := by simpa using hA
        generalize belV X A = T at *
        generalize belX X A = Y at *
        have hT : (T != T) = false := by simp
        clear hbd
        go_wp2_with fail
        refine (d1.out _).mono ?_
        rintro e w3 ⟨rfl, b3⟩
        have k3 := b3.cells
        have hce3 := b3.cell hce
        have s3 := hid (HS.out.below b3 (heap_lt HS.out))
        go_wp2_with fail
        refine (d3.out _ s3.out).mono ?_
        rintro e w4 ⟨rfl, b4, s4⟩
        have s4 := hid s4
        go_wp2_with fail
        go_roundw
        case rel => exact ⟨j + 1, Y, by omega, by go_num, rfl, hn, s4, Below.trans (Grow.trans hg b3) b4⟩
        case measure => simp [intOf]; omega
    · have d1 := hid (fun w => RBelow_c X 100 w HX.out (by decide))
      have d2 := hid (fun w' (h : Src w' w.heap.size X) => Chance_c X 40 w.heap.size w.heap.size w' HX.out h (Nat.le_refl _))
      generalize belV X 100 = T at *
      generalize belX X 100 = Y at *
      have hT : (decide (T < 40) == decide (T < 40)) = true := by simp
      by_cases hlt1 : j < n
      · have hlt2 : 100 ≤ j := by omega
        go_wp2_with fail
        refine (d1.out _).mono ?_
        rintro e w3 ⟨rfl, b3⟩
        have s3 := hid (HS.out.below b3 (heap_lt HS.out))
        go_wp2_with fail
        refine (d2.out _ s3.out).mono ?_
        rintro e w4 ⟨rfl, b4, s4⟩
        clear s4
        go_wp2_with fail
        refine (haw.out _).mono ?_
        rintro e w5 ⟨rfl, b5⟩
        go_wp2_with fail
        go_ret
        exact ⟨rfl, Grow.trans (Below.trans (Grow.trans hg b3) b4) b5⟩
      · obtain rfl : j = n := by omega
        go_wp2_with fail
        refine (d1.out _).mono ?_
        rintro e w3 ⟨rfl, b3⟩
        have s3 := hid (HS.out.below b3 (heap_lt HS.out))
        go_wp2_with fail
        refine (d2.out _ s3.out).mono ?_
        rintro e w4 ⟨rfl, b4, s4⟩
        clear s4
        go_wp2_with fail
        refine (haw.out _).mono ?_
        rintro e w5 ⟨rfl, b5⟩
        go_wp2_with fail
        go_ret
        exact ⟨rfl, Grow.trans (Below.trans (Grow.trans hg b3) b4) b5⟩
namespace LawGenNumbers
open Go.ChangeShapes Go.WideShapes Go.ChangeAt Go.RowKit
open Go.ChangeMaps (open_string shut_string)
theorem own : ownKnob Try.prog.godebug = none := by kernel_rfl
theorem laidOut : laidOutB Try.prog = true := by kernel_rfl
set_option maxRecDepth 100000 in
theorem lifted (os : Os) (started : os.Started) (H : Type) (enc : TypeId × Value → H) :
    ReturnsInHanded {} Try.checked os 3 .any (Rows.genNumbersSpec.pre6 enc Try.prog Try.f3 Rows.genNumbersRow.domain false) (Rows.genNumbersSpec.post enc Try.prog Try.f3 false true false false) := by
  refine returnsInHanded_of_change_sized (C := Try.checked) own started (by kernel_rfl) Try.func3
    (ChangeSpec.witness6 (enc := enc) (C := Try.checked) false ⟨#[], #[.int .u64 0, .slice none 0 0], []⟩ 8 (by kernel_rfl) (by kernel_rfl) (by kernel_rfl) (by kernel_rfl)) ?_
  intro W base args ds gs before hval0 hW hcnd hsz _
  have hval : ∀ (j : Nat) t v, Try.f3.params[j]? = some t → args[j]? = some v → Value.okWide Try.prog W .any base t v := hval0
  have hW' := hW
  obtain ⟨p, q, hA0, hV, rfl, hfz, hnd⟩ := hW
  have hA : DataW.TrodAll enc Try.prog W 0 (fun _ => true) true Try.f3.params.toList args.toList ds p := hA0
  rw [Try.params3] at hA hval hsz
  obtain ⟨v0, vs0, d0, ds0, p0, q0, hargs, rfl, rfl, h0, r0⟩ := trodAll_cons hA
  obtain ⟨v1, vs1, d1, ds1, p1, q1, rfl, rfl, rfl, h1, r1⟩ := trodAll_cons r0
  obtain ⟨rfl, rfl, rfl⟩ := trodAll_nil r1
  obtain rfl : args = #[v0, v1] := by cases args; simp_all
  obtain ⟨rfl, rfl⟩ := trodVars_none hV
  obtain ⟨a0, rfl, rfl, rfl, w0⟩ := open_int Try.underlying22 (hval 0 22 v0 rfl rfl) h0
  have b0 := wf_u64 w0
  obtain ⟨a1, n1, c1, rfl⟩ := okWide_slice Try.underlying23 (hval 1 23 v1 rfl rfl)
  have k1 := h1
  have lt1 : ∀ x ∈ p1, x.block < W.heap.size := by obtain ⟨m, hm⟩ := k1; exact DataW.trod_lt m _ _ _ hm
  obtain ⟨z1, w1⟩ : ∃ zs, IntRow .i64 8 W a1 n1 c1 zs := by
    obtain ⟨fuel, hf⟩ := h1
    rcases open_ints Try.underlying23 Try.underlying3 (by kernel_rfl) hf with ⟨hcs, _⟩ | ⟨x, l, c, zs, hcs, _, hl, hm, hz, hx, hcell, hwz⟩
    · simp [Value.cells] at hcs
      obtain ⟨rfl, rfl, rfl⟩ := hcs
      exact ⟨[], .inl ⟨rfl, rfl, rfl, rfl⟩⟩
    · simp [Value.cells] at hcs
      obtain ⟨rfl, rfl, rfl⟩ := hcs
      simp only [Prod.mk.injEq] at hx
      obtain ⟨rfl, _⟩ := hx
      have hre := sized_slice hsz (j := 1) (t := 23) rfl rfl Try.underlying23
      have hby : Try.checked.prog.bytesOf 3 = 8 := by kernel_rfl
      rw [hby] at hre
      simp only [lits, List.length_map, List.length_take, List.length_drop, reachBytes] at hre
      have hz' : zs.length = c1 := by simpa using hz
      exact ⟨zs, .inr ⟨_, rfl, hl, hm, hz', hcell, hwz, by rw [← hz']; omega⟩⟩
  clear hA0 hval0
  refine (GenNumbers_walk a0 a1 n1 c1 z1 W b0.1 b0.2 w1).mono fun e W' ⟨he, bel⟩ => ?_
  subst he
  exact ⟨_, rfl, _, _, _, [], _, [], hW', trodAll_mk1 (shut_bool Try.underlying4 _), (trodAll_cons_mk (shut_int Try.underlying22 w0) (trodAll_cons_mk (Below.trod laidOut (by kernel_rfl) (of_decide_eq_true (by kernel_rfl)) k1 bel lt1) trodAll_mk0)), rfl, bel.frame _, fun h => by cases h⟩
theorem over : Rows.genNumbersRow.holds Try.pinned (OpenSpec.ofChange Rows.genNumbersSpec) :=
  OpenClaim.holds_of_wide 3 Try.f3 rfl rfl rfl rfl rfl rfl rfl ⟨rfl, rfl, rfl, rfl, rfl⟩ rfl rfl rfl rfl rfl (by kernel_rfl) Try.func3 (by kernel_rfl)
    (of_decide_eq_true (by kernel_rfl)) (by unfold Func.isWrapper; first | (rw [if_pos (by decide +kernel)]; kernel_rfl) | (rw [if_neg (by decide +kernel)]; exact ⟨rfl, rfl⟩))
    (fun os started H enc _ => lifted os started H enc)
end LawGenNumbers
/-- The given statement. -/
theorem genNumbers_proved : Rows.GenNumbersSaid := LawGenNumbers.over
#print axioms genNumbers_proved
end Go.Proofs.Ytlhgdbangnohjaa
