/- What hist.Check tells: the walk. -/
import Derived.Test.YtljimlaalebmaaaHCheckPlain
import Derived.Test.YtljimlaalebmaaaHBeside
import Derived.Test.YtljimlaalebmaaaOpCheck
import Derived.Deep.QuietTactic
import Derived.BigQuiet
import Derived.IntWalk
namespace Go.Proofs.Ytljimlaalebmaaa
open Go.RowKit
set_option linter.unusedVariables false
set_option linter.unusedSimpArgs false
/-- The answers are int64. -/
def FitL (l : List OpR) : Prop := ∀ k, k < l.length → I64 (opAt l k).res
theorem Grow.drewNM {a b : World} (h : Grow a b) (n : Nat) : Grow a (b.drewN n) := ⟨h.os, h.tape, h.output, h.size, h.block⟩
theorem roundE_twiceJ {l : List OpR} {j : Nat} (h0 : 0 < j) (h : checkE (opAt l j) = 0) : (opAt l j).id ≤ (opAt l (j - 1)).id → roundE l j = 7 := by
  obtain ⟨i, rfl⟩ : ∃ i, j = i + 1 := ⟨j - 1, by omega⟩
  exact fun h2 => roundE_twice h (by simpa using h2)
theorem roundE_nextJ {l : List OpR} {j : Nat} (h0 : 0 < j) (h : checkE (opAt l j) = 0) : ¬ (opAt l j).id ≤ (opAt l (j - 1)).id → roundE l j = 0 := by
  obtain ⟨i, rfl⟩ : ∃ i, j = i + 1 := ⟨j - 1, by omega⟩
  exact fun h2 => roundE_next h (by simpa using h2)
set_option maxRecDepth 100000 in
set_option maxHeartbeats 8000000 in
theorem HCheck_c (l : List OpR) (v : Value) (w : World) (hv : Ops w v l) (hf : FitL l) :
    Calls Try.prog 11 #[v] w fun e w' => e = .returned (.int .i64 (histE l)) ∧ Grow w w' := by
  have HB := hid (fun (o : OpR) (w' : World) (g : Grow w w') => beside_c l o v w' (hv.grow g))
  have HK := hid (show ∀ k, k < l.length → ∀ w', Calls Try.prog 19 #[.agg #[.int .i64 (opAt l k).id, .int .i64 (opAt l k).proc, .int .i64 (opAt l k).obj, .int .i64 (opAt l k).kind, .int .i64 (opAt l k).meth, .int .i64 (opAt l k).arg, .int .i64 (opAt l k).sec, .bool (opAt l k).done, .int .i64 (opAt l k).res, .int .i64 (opAt l k).inv, .int .i64 (opAt l k).ret]] w' fun e w'' => e = .returned (.int .i64 (checkE (opAt l k))) ∧ Grow w' w'' from fun k hk w' => Check_c (opAt l k) w' (hf k hk).1 (hf k hk).2)
  have HM := hid (histE_many (l := l))
  have HR := hid (fun h j hj hz hne => histE_round (l := l) h (j := j) hj hz hne)
  have HS := hid (fun h hr j hj hz hne => histE_beside (l := l) h hr (j := j) hj hz hne)
  have HO := hid (fun h hr hz => histE_ok (l := l) h hr hz)
  obtain ⟨p, cap, rfl, hl, hc⟩ := hv.read
  have HC := hid hc
  clear hc hv hf
  generalize histE l = R at *
  generalize hN : l.length = n at *
  clear hN
  by_cases h64 : 64 < n
  · have hr := HM.out h64
    subst hr
    have h64' : (64 : Int) < (n : Int) := by omega
    go_enter Try.func11, Try.ntmps11
    go_wp2_with fail
    go_ret
    exact ⟨rfl, Grow.refl _⟩
  have h64' : ¬ (64 : Int) < (n : Int) := by omega
  go_enter Try.func11, Try.ntmps11
  go_wp2_with fail
  go_loopw [14] (fun i wr => ∃ j : Nat, j ≤ n ∧ i = .int .i64 (j : Int) ∧ Hid (∀ k, k < j → roundE l k = 0) ∧ Grow w wr) (fun i _ => n - (intOf i).toNat)
  case atStart => exact ⟨0, by omega, rfl, hid (fun q hq => by omega), Grow.refl _⟩
  case round =>
    obtain ⟨j, hj, rfl, HZ, hg⟩ := hrel
    by_cases hlt : j < n
    · obtain ⟨b, off, rfl, ha⟩ := HC.out j hlt
      have hk0 : (0 : Int) ≤ (j : Int) := by omega
      have hk1 : (j : Int) < (n : Int) := by omega
      have hck := HK.out j hlt
      by_cases hE : checkE (opAt l j) = 0
      · rw [hE] at hck
        by_cases h0 : 0 < j
        · have HT := hid (roundE_twiceJ h0 hE)
          have HN := hid (roundE_nextJ h0 hE)
          obtain ⟨b', off', e1, ha1⟩ := HC.out (j - 1) (by omega)
          cases e1
          unfold OpAt at ha1
          obtain ⟨d0, -⟩ := ha1
          generalize (opAt l (j - 1)).id = pid at *
          clear hE
          have hw1 : (0 : Int) ≤ (j : Int) - 1 := by omega
          have hw2 : (j : Int) - 1 < (n : Int) := by omega
          have h00 : (0 : Int) < (j : Int) := by omega
          have hj2 := hid hlt
          generalize hO : opAt l j = o at ha hck HT HN
          clear hO
          obtain ⟨id, proc, obj, kind, meth, arg, sec, done, res, inv, ret⟩ := o
          have HCK := hid hck
          clear hck
          unfold OpAt at ha
          dsimp only at ha HCK HT HN
          obtain ⟨c0, c1, c2, c3, c4, c5, c6, c7, c8, c9, c10⟩ := ha
          replace c0 := hg.cell c0
          replace c1 := hg.cell c1
          replace c2 := hg.cell c2
          replace c3 := hg.cell c3
          replace c4 := hg.cell c4
          replace c5 := hg.cell c5
          replace c6 := hg.cell c6
          replace c7 := hg.cell c7
          replace c8 := hg.cell c8
          replace c9 := hg.cell c9
          replace c10 := hg.cell c10
          replace d0 := hg.cell d0
          have hw3 : IntKind.i64.wrap ((j : Int) - 1) = (j : Int) - 1 := IntWalk.i64_in _ (by omega)
          have hw4 : ((j : Int) - 1).toNat = j - 1 := by omega
          by_cases hid' : id ≤ pid
          · have HRR := hid (HR.out (by have := h64'; omega) j hj2.out HZ.out (by rw [HT.out hid']; decide))
            rw [HT.out hid'] at HRR
            go_wp2_with fail
            refine (HCK.out _).mono ?_
            rintro e w2 ⟨rfl, g2⟩
            have hg2 := hid (Grow.trans (Grow.trans hg (Grow.alloc _ _)) g2)
            have kk := g2.cells
            have dd0 := g2.cell ((Grow.alloc wr _).cell d0)
            go_wp2_with fail
            go_quiet (fail)
            go_wp2_with fail
            go_ret
            exact ⟨by rw [HRR.out]; rfl, Grow.drewNM hg2.out _⟩
          · have HZ2 := hid (upto_succ HZ.out (HN.out hid'))
            go_wp2_with fail
            refine (HCK.out _).mono ?_
            rintro e w2 ⟨rfl, g2⟩
            have hg2 := hid (Grow.trans (Grow.trans hg (Grow.alloc _ _)) g2)
            have kk := g2.cells
            have dd0 := g2.cell ((Grow.alloc wr _).cell d0)
            go_wp2_with fail
            go_quiet (fail)
            go_wp2_with fail
            go_roundw
            case rel => exact ⟨j + 1, by omega, by go_num, HZ2, Grow.drewNM hg2.out _⟩
            case measure => simp [intOf]; omega
        · obtain rfl : j = 0 := by omega
          have HZ2 := hid (upto_succ HZ.out (roundE_first hE))
          have hd : decide ((0 : Int) < ((0 : Nat) : Int)) = false := by decide
          clear hE h0
          simp only [Nat.zero_mul, Nat.add_zero] at ha
          generalize opAt l 0 = o at ha hck
          obtain ⟨id, proc, obj, kind, meth, arg, sec, done, res, inv, ret⟩ := o
          have HCK := hid hck
          clear hck
          unfold OpAt at ha
          dsimp only at ha HCK
          obtain ⟨c0, c1, c2, c3, c4, c5, c6, c7, c8, c9, c10⟩ := ha
          replace c0 := hg.cell c0
          replace c1 := hg.cell c1
          replace c2 := hg.cell c2
          replace c3 := hg.cell c3
          replace c4 := hg.cell c4
          replace c5 := hg.cell c5
          replace c6 := hg.cell c6
          replace c7 := hg.cell c7
          replace c8 := hg.cell c8
          replace c9 := hg.cell c9
          replace c10 := hg.cell c10
          go_wp2_with fail
          refine (HCK.out _).mono ?_
          rintro e w2 ⟨rfl, g2⟩
          have hg2 := hid (Grow.trans (Grow.trans hg (Grow.alloc _ _)) g2)
          go_wp2_with fail
          go_quiet (fail)
          go_wp2_with fail
          go_roundw
          case rel => exact ⟨1, by omega, by go_num, HZ2, Grow.drewNM hg2.out _⟩
          case measure => simp [intOf]; omega
      · have hrr := HR.out (by omega) j hlt HZ.out (by rw [roundE_bad hE]; exact hE)
        rw [roundE_bad hE] at hrr
        generalize checkE (opAt l j) = E at *
        generalize opAt l j = o at ha hck
        obtain ⟨id, proc, obj, kind, meth, arg, sec, done, res, inv, ret⟩ := o
        have HCK := hid hck
        have HRR := hid hrr
        clear hck hrr
        have hne : (E == 0) = false := by simpa using hE
        have hne2 : (E != 0) = true := by simpa using hE
        unfold OpAt at ha
        dsimp only at ha HCK
        obtain ⟨c0, c1, c2, c3, c4, c5, c6, c7, c8, c9, c10⟩ := ha
        replace c0 := hg.cell c0
        replace c1 := hg.cell c1
        replace c2 := hg.cell c2
        replace c3 := hg.cell c3
        replace c4 := hg.cell c4
        replace c5 := hg.cell c5
        replace c6 := hg.cell c6
        replace c7 := hg.cell c7
        replace c8 := hg.cell c8
        replace c9 := hg.cell c9
        replace c10 := hg.cell c10
        go_wp2_with fail
        refine (HCK.out _).mono ?_
        rintro e w2 ⟨rfl, g2⟩
        have hg2 := hid (Grow.trans (Grow.trans hg (Grow.alloc _ _)) g2)
        go_wp2_with fail
        go_ret
        exact ⟨by rw [HRR.out]; rfl, hg2.out⟩
    · obtain rfl : j = n := by omega
      have h64n := hid h64
      go_wp2_with fail
      go_loopw [40] (fun i wr => ∃ j' : Nat, j' ≤ j ∧ i = .int .i64 (j' : Int) ∧ Hid (∀ k, k < j' → besideE l (opAt l k) = 0) ∧ Grow w wr) (fun i _ => j - (intOf i).toNat)
      case atStart => exact ⟨0, by omega, rfl, hid (fun q hq => by omega), hg⟩
      case round =>
        obtain ⟨i, hi, rfl, HY, hg'⟩ := hrel
        by_cases hlt : i < j
        · obtain ⟨b, off, rfl, ha⟩ := HC.out i hlt
          have hk0 : (0 : Int) ≤ (i : Int) := by omega
          have hk1 : (i : Int) < (j : Int) := by omega
          have hbs := fun w' g => HB.out (opAt l i) w' g
          by_cases hE : besideE l (opAt l i) = 0
          · rw [hE] at hbs
            have HZ2 := hid (upto_succ HY.out hE)
            clear hE
            generalize opAt l i = o at ha hbs
            obtain ⟨id, proc, obj, kind, meth, arg, sec, done, res, inv, ret⟩ := o
            have HCK := hid hbs
            clear hbs
            unfold OpAt at ha
            dsimp only at ha HCK
            obtain ⟨c0, c1, c2, c3, c4, c5, c6, c7, c8, c9, c10⟩ := ha
            replace c0 := hg'.cell c0
            replace c1 := hg'.cell c1
            replace c2 := hg'.cell c2
            replace c3 := hg'.cell c3
            replace c4 := hg'.cell c4
            replace c5 := hg'.cell c5
            replace c6 := hg'.cell c6
            replace c7 := hg'.cell c7
            replace c8 := hg'.cell c8
            replace c9 := hg'.cell c9
            replace c10 := hg'.cell c10
            go_wp2_with fail
            refine (HCK.out _ (Grow.trans hg' (Grow.alloc _ _))).mono ?_
            rintro e w2 ⟨rfl, g2⟩
            have hg2 := hid (Grow.trans (Grow.trans hg' (Grow.alloc _ _)) g2)
            go_wp2_with fail
            go_roundw
            case rel => exact ⟨i + 1, by omega, by go_num, HZ2, hg2.out⟩
            case measure => simp [intOf]; omega
          · have hrr := HS.out (by have := h64n.out; omega) HZ.out i hlt HY.out hE
            generalize besideE l (opAt l i) = E at *
            generalize opAt l i = o at ha hbs
            obtain ⟨id, proc, obj, kind, meth, arg, sec, done, res, inv, ret⟩ := o
            have HCK := hid hbs
            have HRR := hid hrr
            clear hbs hrr
            have hne : (E == 0) = false := by simpa using hE
            have hne2 : (E != 0) = true := by simpa using hE
            unfold OpAt at ha
            dsimp only at ha HCK
            obtain ⟨c0, c1, c2, c3, c4, c5, c6, c7, c8, c9, c10⟩ := ha
            replace c0 := hg'.cell c0
            replace c1 := hg'.cell c1
            replace c2 := hg'.cell c2
            replace c3 := hg'.cell c3
            replace c4 := hg'.cell c4
            replace c5 := hg'.cell c5
            replace c6 := hg'.cell c6
            replace c7 := hg'.cell c7
            replace c8 := hg'.cell c8
            replace c9 := hg'.cell c9
            replace c10 := hg'.cell c10
            go_wp2_with fail
            refine (HCK.out _ (Grow.trans hg' (Grow.alloc _ _))).mono ?_
            rintro e w2 ⟨rfl, g2⟩
            have hg2 := hid (Grow.trans (Grow.trans hg' (Grow.alloc _ _)) g2)
            go_wp2_with fail
            go_ret
            exact ⟨by rw [HRR.out]; rfl, hg2.out⟩
        · obtain rfl : i = j := by omega
          have HRR := hid (HO.out (by have := h64n.out; omega) HZ.out HY.out)
          go_wp2_with fail
          go_ret
          exact ⟨by rw [HRR.out]; rfl, hg'⟩
end Go.Proofs.Ytljimlaalebmaaa
