/- A queue gives back what came first, and a stack what came last, each of all, and then nothing. -/
import Derived.Test.YtookcollmijjkaaMAwake
namespace Go.Proofs.Ytookcollmijjkaa
open Go.RowKit
set_option linter.unusedVariables false
set_option linter.unusedSimpArgs false
def opL (k m x : Int) : OpR := ⟨0, 0, 0, k, m, x, 0, false, 0, 0, 0⟩
theorem doEnq (L : List Int) (x : Int) : doL L (opL 3 6 x) = (L ++ [x], 0, true) := by simp [doL, listL, opL]
theorem doPush (L : List Int) (x : Int) : doL L (opL 4 8 x) = (L ++ [x], 0, true) := by simp [doL, listL, opL]
theorem doDeq (L : List Int) : doL L (opL 3 7 0) = (L.drop 1, if L.length = 0 then -1 else L.getD 0 0, true) := by simp [doL, listL, opL]
theorem doPop (L : List Int) : doL L (opL 4 9 0) = (L.take (L.length - 1), if L.length = 0 then -1 else L.getD (L.length - 1) 0, true) := by simp [doL, listL, opL]
theorem dropAt (xs : List Int) (k : Nat) : (xs.drop k).getD 0 0 = xs.getD k 0 := by simp [List.getD]
theorem takeAt {xs : List Int} {m : Nat} (h : 0 < m) : (xs.take m).getD (m - 1) 0 = xs.getD (m - 1) 0 := by
  rw [List.getD_eq_getElem?_getD, List.getD_eq_getElem?_getD, List.getElem?_take, if_pos (by omega)]
set_option maxRecDepth 100000 in
set_option maxHeartbeats 4000000 in
theorem Lines_walk (a : Option Addr) (n c : Nat) (zs : List Int) (w : World) (l0 : IntRow .i64 8 w a n c zs) :
    Calls Try.prog 3 #[.slice a n c] w fun e w' => e = .returned (.bool true) ∧ Below w.heap.size w w' := by
  obtain ⟨hi, hr⟩ := Ints.of_row l0
  generalize zs.take n = xs at hi hr
  generalize Value.slice a n c = v at hi ⊢
  clear l0 hr
  have hl := hi.length
  obtain ⟨p, cap, rfl, hc⟩ := hi.at
  have HC := hid hc
  clear hc
  by_cases h200 : 200 < xs.length
  · have h1 : ((xs.length : Int) > 200) := by omega
    have h2 : (200 : Int) < (xs.length : Int) := by omega
    generalize xs.length = m at *
    go_enter Try.func3, Try.ntmps3
    go_wp2_with fail
    refine (awake_c _).mono ?_
    rintro e w1 ⟨rfl, b1⟩
    go_wp2_with fail
    go_ret
    exact ⟨rfl, b1⟩
  · have h2 : ¬ (200 : Int) < (xs.length : Int) := by omega
    have HE := hid (fun (k : Nat) (x : Int) (v : Value) (w : World) (hk : k ≤ xs.length) (h : Ints w v (xs.take k)) => Do_c (xs.take k) (opL 3 6 x) v w h (by rw [List.length_take]; omega) (by simp [opL]))
    have HP := hid (fun (k : Nat) (x : Int) (v : Value) (w : World) (hk : k ≤ xs.length) (h : Ints w v (xs.take k)) => Do_c (xs.take k) (opL 4 8 x) v w h (by rw [List.length_take]; omega) (by simp [opL]))
    have HD := hid (fun (k : Nat) (v : Value) (w : World) (h : Ints w v (xs.drop k)) => Do_c (xs.drop k) (opL 3 7 0) v w h (by rw [List.length_drop]; omega) (by simp [opL]))
    have HQ := hid (fun (k : Nat) (v : Value) (w : World) (h : Ints w v (xs.take k)) => Do_c (xs.take k) (opL 4 9 0) v w h (by rw [List.length_take]; omega) (by simp [opL]))
    go_enter Try.func3, Try.ntmps3
    go_wp2_with fail
    go_loopw [3, 4, 5] (fun q s i wr => ∃ k : Nat, k ≤ xs.length ∧ i = .int .i64 (k : Int) ∧ Hid (Ints wr q (xs.take k)) ∧ Hid (Ints wr s (xs.take k)) ∧ Grow w wr) (fun _ _ i _ => xs.length - (intOf i).toNat)
    case atStart => exact ⟨0, by omega, rfl, hid (by simpa using Ints.nil _), hid (by simpa using Ints.nil _), Grow.refl _⟩
    case round =>
      obtain ⟨k, hk, rfl, iq, is, hg⟩ := hrel
      by_cases hlt : k < xs.length
      · obtain ⟨b, off, rfl, hc0⟩ := HC.out k hlt
        replace hc0 := hg.cell hc0
        have ht : xs.take k ++ [xs.getD k 0] = xs.take (k + 1) := by
          rw [List.take_succ_eq_append_getElem hlt]
          simp [List.getD, List.getElem?_eq_getElem hlt]
        generalize xs.getD k 0 = x at *
        have HE1 := HE.out k x
        have HP1 := HP.out k x
        rw [doEnq, ht] at HE1
        rw [doPush, ht] at HP1
        have HE2 := hid HE1
        have HP2 := hid HP1
        clear HE1 HP1 ht
        have hk0 : (0 : Int) ≤ (k : Int) := by omega
        have hk1 : (k : Int) < (xs.length : Int) := by omega
        go_wp2_with fail
        refine (HE2.out _ _ (by omega) iq.out).mono ?_
        rintro e w1 ⟨v1, rfl, i1, b1⟩
        replace b1 : Grow _ w1 := b1
        dsimp only at i1
        have hc1 := b1.cell hc0
        have is1 := hid (is.out.grow b1)
        have i1 := hid i1
        go_wp2_with fail
        refine (HP2.out _ _ (by omega) is1.out).mono ?_
        rintro e w2 ⟨v2, rfl, i2, b2⟩
        replace b2 : Grow _ w2 := b2
        dsimp only at i2
        have i1 := hid (i1.out.grow b2)
        have i2 := hid i2
        go_wp2_with fail
        go_roundw
        case rel => exact ⟨k + 1, by omega, by go_num, i1, i2, Grow.trans hg (Grow.trans b1 b2)⟩
        case measure => simp [intOf]; omega
      · obtain rfl : k = xs.length := by omega
        go_wp2_with fail
        have hend := is.out
        go_loopw [3, 4, 12] (fun q s i w2 => ∃ k : Nat, k ≤ xs.length ∧ i = .int .i64 (k : Int) ∧ Hid (Ints w2 q (xs.drop k)) ∧ Hid (Ints w2 s (xs.take (xs.length - k))) ∧ Grow w w2) (fun _ _ i _ => xs.length + 1 - (intOf i).toNat)
        case atStart => exact ⟨0, by omega, rfl, hid (by simpa using iq.out), hid (by simpa using is.out), hg⟩
        case round =>
          clear hend iq is hg
          obtain ⟨k, hk, rfl, iq, is, hg⟩ := hrel
          have HD1 := HD.out k
          have HQ1 := HQ.out (xs.length - k)
          rw [doDeq, List.drop_drop, List.length_drop, dropAt] at HD1
          rw [doPop, List.length_take, Nat.min_eq_left (by omega), List.take_take, Nat.min_eq_left (by omega)] at HQ1
          have hk0 : (0 : Int) ≤ (k : Int) := by omega
          have hk9 : (k : Int) ≤ (xs.length : Int) := by omega
          by_cases hlt : k < xs.length
          · rw [if_neg (by omega)] at HD1 HQ1
            rw [takeAt (by omega), show xs.length - k - 1 = xs.length - 1 - k by omega] at HQ1
            obtain ⟨b, off, rfl, hc0⟩ := HC.out k hlt
            obtain ⟨b', off', e', hc1⟩ := HC.out (xs.length - 1 - k) (by omega)
            obtain ⟨rfl, rfl⟩ : b' = b ∧ off' = off := by simpa using e'.symm
            replace hc0 := hg.cell hc0
            replace hc1 := hg.cell hc1
            generalize xs.getD k 0 = x at *
            generalize xs.getD (xs.length - 1 - k) 0 = y at *
            have HD2 := hid HD1
            have HQ2 := hid HQ1
            clear HD1 HQ1
            have hne : ((k : Int) == (xs.length : Int)) = false := by simp; omega
            have hk1 : (k : Int) < (xs.length : Int) := by omega
            have hw1 : IntKind.i64.wrap ((xs.length : Int) - 1) = ((xs.length - 1 : Nat) : Int) := by rw [IntKind.wrap_i64]; omega
            have hw2 : IntKind.i64.wrap (((xs.length - 1 : Nat) : Int) - (k : Int)) = ((xs.length - 1 - k : Nat) : Int) := by rw [IntKind.wrap_i64]; omega
            have hw3 : ((xs.length - 1 - k : Nat) : Int) < (xs.length : Int) := by omega
            have hw4 : (0 : Int) ≤ ((xs.length - 1 - k : Nat) : Int) := by omega
            have hx : (x != x) = false := by simp
            have hy : (y != y) = false := by simp
            go_wp2_with fail
            refine (HD2.out _ _ iq.out).mono ?_
            rintro e w1 ⟨v1, rfl, i1, b1⟩
            replace b1 : Grow _ w1 := b1
            dsimp only at i1
            have is1 := hid (is.out.grow b1)
            have i1 := hid i1
            go_wp2_with fail
            refine (HQ2.out _ _ is1.out).mono ?_
            rintro e w3 ⟨v2, rfl, i2, b2⟩
            replace b2 : Grow _ w3 := b2
            dsimp only at i2
            have i1 := hid (i1.out.grow b2)
            have i2 := hid i2
            replace hc0 := b2.cell (b1.cell hc0)
            replace hc1 := b2.cell (b1.cell hc1)
            go_wp2_with fail
            go_roundw
            case rel => exact ⟨k + 1, by omega, by go_num, i1, hid (by rw [show xs.length - (k + 1) = xs.length - 1 - k by omega]; exact i2.out), Grow.trans hg (Grow.trans b1 b2)⟩
            case measure => simp [intOf]; omega
          · obtain rfl : k = xs.length := by omega
            rw [if_pos (by omega)] at HD1 HQ1
            rw [List.drop_eq_nil_of_le (show xs.length ≤ xs.length by omega), List.drop_eq_nil_of_le (show xs.length ≤ xs.length + 1 by omega)] at HD1
            have iq0 := iq.out
            rw [List.drop_eq_nil_of_le (show xs.length ≤ xs.length by omega)] at iq0
            have iq := hid iq0
            clear iq0
            rw [show xs.length - xs.length - 1 = 0 by omega, List.take_zero] at HQ1
            have HD2 := hid HD1
            have HQ2 := hid HQ1
            clear HD1 HQ1
            go_wp2_with fail
            refine (HD2.out _ _ iq.out).mono ?_
            rintro e w1 ⟨v1, rfl, i1, b1⟩
            replace b1 : Grow _ w1 := b1
            dsimp only at i1
            have is1 := hid (is.out.grow b1)
            obtain ⟨p1, c1, rfl, _⟩ := i1
            go_wp2_with fail
            refine (HQ2.out _ _ is1.out).mono ?_
            rintro e w3 ⟨v2, rfl, i2, b2⟩
            replace b2 : Grow _ w3 := b2
            dsimp only at i2
            obtain ⟨p2, c2, rfl, _⟩ := i2
            go_wp2_with fail
            refine (awake_c _).mono ?_
            rintro e w4 ⟨rfl, b4⟩
            go_wp2_with fail
            go_ret
            exact ⟨rfl, Grow.trans hg (Grow.trans b1 (Grow.trans b2 b4))⟩
namespace LawModelLines
open Go.ChangeShapes Go.WideShapes Go.ChangeAt Go.RowKit
open Go.ChangeMaps (open_string shut_string)
theorem own : ownKnob Try.prog.godebug = none := by kernel_rfl
theorem laidOut : laidOutB Try.prog = true := by kernel_rfl
set_option maxRecDepth 100000 in
theorem lifted (os : Os) (started : os.Started) (H : Type) (enc : TypeId × Value → H) :
    ReturnsInHanded {} Try.checked os 3 .any (Rows.modelLinesSpec.pre6 enc Try.prog Try.f3 Rows.modelLinesRow.domain false) (Rows.modelLinesSpec.post enc Try.prog Try.f3 false true false false) := by
  refine returnsInHanded_of_change_sized (C := Try.checked) own started (by kernel_rfl) Try.func3
    (ChangeSpec.witness6 (enc := enc) (C := Try.checked) false ⟨#[], #[.slice none 0 0], []⟩ 8 (by kernel_rfl) (by kernel_rfl) (by kernel_rfl) (by kernel_rfl)) ?_
  intro W base args ds gs before hval0 hW hcnd hsz _
  have hval : ∀ (j : Nat) t v, Try.f3.params[j]? = some t → args[j]? = some v → Value.okWide Try.prog W .any base t v := hval0
  have hW' := hW
  obtain ⟨p, q, hA0, hV, rfl, hfz, hnd⟩ := hW
  have hA : DataW.TrodAll enc Try.prog W 0 (fun _ => true) true Try.f3.params.toList args.toList ds p := hA0
  rw [Try.params3] at hA hval hsz
  obtain ⟨v0, vs0, d0, ds0, p0, q0, hargs, rfl, rfl, h0, r0⟩ := trodAll_cons hA
  obtain ⟨rfl, rfl, rfl⟩ := trodAll_nil r0
  obtain rfl : args = #[v0] := by cases args; simp_all
  obtain ⟨rfl, rfl⟩ := trodVars_none hV
  obtain ⟨a0, n0, c0, rfl⟩ := okWide_slice Try.underlying22 (hval 0 22 v0 rfl rfl)
  have k0 := h0
  have lt0 : ∀ x ∈ p0, x.block < W.heap.size := by obtain ⟨m, hm⟩ := k0; exact DataW.trod_lt m _ _ _ hm
  obtain ⟨z0, w0⟩ : ∃ zs, IntRow .i64 8 W a0 n0 c0 zs := by
    obtain ⟨fuel, hf⟩ := h0
    rcases open_ints Try.underlying22 Try.underlying3 (by kernel_rfl) hf with ⟨hcs, _⟩ | ⟨x, l, c, zs, hcs, _, hl, hm, hz, hx, hcell, hwz⟩
    · simp [Value.cells] at hcs
      obtain ⟨rfl, rfl, rfl⟩ := hcs
      exact ⟨[], .inl ⟨rfl, rfl, rfl, rfl⟩⟩
    · simp [Value.cells] at hcs
      obtain ⟨rfl, rfl, rfl⟩ := hcs
      simp only [Prod.mk.injEq] at hx
      obtain ⟨rfl, _⟩ := hx
      have hre := sized_slice hsz (j := 0) (t := 22) rfl rfl Try.underlying22
      have hby : Try.checked.prog.bytesOf 3 = 8 := by kernel_rfl
      rw [hby] at hre
      simp only [lits, List.length_map, List.length_take, List.length_drop, reachBytes] at hre
      have hz' : zs.length = c0 := by simpa using hz
      exact ⟨zs, .inr ⟨_, rfl, hl, hm, hz', hcell, hwz, by rw [← hz']; omega⟩⟩
  clear hA0 hval0
  refine (Lines_walk a0 n0 c0 z0 W w0).mono fun e W' ⟨he, bel⟩ => ?_
  subst he
  exact ⟨_, rfl, _, _, _, [], _, [], hW', trodAll_mk1 (shut_bool Try.underlying4 _), (trodAll_cons_mk (Below.trod laidOut (by kernel_rfl) (of_decide_eq_true (by kernel_rfl)) k0 bel lt0) trodAll_mk0), rfl, bel.frame _, fun h => by cases h⟩
theorem over : Rows.modelLinesRow.holds Try.pinned (OpenSpec.ofChange Rows.modelLinesSpec) :=
  OpenClaim.holds_of_wide 3 Try.f3 rfl rfl rfl rfl rfl rfl rfl ⟨rfl, rfl, rfl, rfl, rfl⟩ rfl rfl rfl rfl rfl (by kernel_rfl) Try.func3 (by kernel_rfl)
    (of_decide_eq_true (by kernel_rfl)) (by unfold Func.isWrapper; first | (rw [if_pos (by decide +kernel)]; kernel_rfl) | (rw [if_neg (by decide +kernel)]; exact ⟨rfl, rfl⟩))
    (fun os started H enc _ => lifted os started H enc)
end LawModelLines
/-- The given statement. -/
theorem modelLines_proved : Rows.ModelLinesSaid := LawModelLines.over
#print axioms modelLines_proved
end Go.Proofs.Ytookcollmijjkaa
