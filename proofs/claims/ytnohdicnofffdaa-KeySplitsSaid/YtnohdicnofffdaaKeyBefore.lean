/- What the reference's Before and Ints compute. -/
import Derived.Test.YtnohdicnofffdaaInts
import Derived.Test.YtnohdicnofffdaaKeyPlain
namespace Go.Proofs.Ytnohdicnofffdaa
open Go.RowKit
set_option linter.unusedVariables false
set_option linter.unusedSimpArgs false
/-- Up to j both hold the same. -/
def SameTo (xs ys : List Int) (j : Nat) : Prop := ∀ i, i < j → xs.getD i 0 = ys.getD i 0
theorem SameTo.step {xs ys : List Int} {j : Nat} (h : SameTo xs ys j) (he : xs.getD j 0 = ys.getD j 0) : SameTo xs ys (j + 1) := by
  intro i hi
  by_cases e : i = j
  · subst e; exact he
  · exact h i (by omega)
theorem Before_empty (p q : Option Addr) (c d n m : Nat) (w : World) (hn : n ≤ 17592186044416) (hm : m ≤ 17592186044416) (h : n = 0 ∨ m = 0) :
    Calls Try.prog 11 #[.slice p n c, .slice q m d] w fun e w' => e = .returned (.bool (decide (n < m))) ∧ w = w' := by
  by_cases h0 : n = 0
  · subst h0
    clear h
    have hz : ¬ ((0 : Nat) : Int) < ((0 : Nat) : Int) := by omega
    go_enter Try.func11, Try.ntmps11
    go_wp2_with fail
    refine wp_loop_once ?_
    go_wp2_with fail
    go_ret
    exact ⟨by simp, rfl⟩
  · have h1 : m = 0 := by omega
    subst h1
    have hpos : 0 < n := by omega
    clear h h0
    have hd : decide (n < 0) = false := by simp
    rw [hd]
    go_enter Try.func11, Try.ntmps11
    go_wp2_with fail
    refine wp_loop_once ?_
    go_wp2_with fail
    go_ret
    exact ⟨by simp, rfl⟩
set_option maxRecDepth 100000 in
set_option maxHeartbeats 1000000 in
theorem Before_c (xs ys : List Int) (va vb : Value) (w : World) (ha : Ints w va xs) (hb : Ints w vb ys) :
    Calls Try.prog 11 #[va, vb] w fun e w' => e = .returned (.bool (beforeL xs ys)) ∧ Grow w w' := by
  obtain ⟨p, cap, rfl, hl, hc⟩ := ha
  obtain ⟨q, cap2, rfl, hl2, hc2⟩ := hb
  by_cases he : xs.length = 0 ∨ ys.length = 0
  · have hz : beforeL xs ys = decide (xs.length < ys.length) := beforeL_end xs ys 0 (by omega) (by omega) (fun i h => by omega) (by omega)
    rw [hz]
    exact (Before_empty p q cap cap2 xs.length ys.length w hl hl2 he).mono fun e w' ⟨h1, h2⟩ => ⟨h1, h2 ▸ Grow.refl _⟩
  · obtain ⟨b, off, rfl, hcell⟩ := hc (by omega)
    obtain ⟨b2, off2, rfl, hcell2⟩ := hc2 (by omega)
    have HC := hid hcell
    have HC2 := hid hcell2
    have hEnd := hid (beforeL_end xs ys)
    have hAt := hid (beforeL_at xs ys)
    clear hcell hcell2 hc hc2 he
    generalize hn : xs.length = n at *
    generalize hm : ys.length = m at *
    generalize hR : beforeL xs ys = R at *
    have HN := hid hn
    have HM := hid hm
    clear hn hm hR
    go_enter Try.func11, Try.ntmps11
    go_wp2_with fail
    go_loopw [5] (fun i wr => ∃ (j : Nat), j ≤ n ∧ j ≤ m ∧ i = .int .i64 j ∧ Hid (SameTo xs ys j) ∧ Grow w wr) (fun i _ => n - (intOf i).toNat)
    case atStart => exact ⟨0, by omega, by omega, rfl, hid (fun i h => by omega), Grow.refl _⟩
    case round =>
      obtain ⟨j, hj, hj2, rfl, HS, hg⟩ := hrel
      by_cases hlt : j < n
      · by_cases hlt2 : j < m
        · have c1 := hg.cell (HC.out j hlt)
          have c2 := hg.cell (HC2.out j hlt2)
          have hstep := hid (fun he => HS.out.step (xs := xs) (ys := ys) (j := j) he)
          have hat' := hid (fun hne => hAt.out j (by first | exact hlt | (rw [HN.out]; exact hlt)) (by first | exact hlt2 | (rw [HM.out]; exact hlt2)) HS.out hne)
          generalize xs.getD j 0 = x at *
          generalize ys.getD j 0 = y at *
          have C1 := hid (fun w' (h : Grow wr w') => h.cell c1)
          have C2 := hid (fun w' (h : Grow wr w') => h.cell c2)
          clear c1 c2
          by_cases hxy : x = y
          · have hst := hid (hstep.out hxy)
            have hbb : (x != y) = false := by rw [hxy]; simp
            clear hxy hstep hat'
            go_wp2_with fail
            refine wp_rely [.eq (.slice (some ⟨b, off, none⟩) n cap), .eq (.int .i64 (j : Int)), .eq (.pointer (some ⟨b, off + j, none⟩)), .eq (.int .i64 x), .eq (.slice (some ⟨b2, off2, none⟩) m cap2), .eq (.int .i64 (j : Int)), .eq (.pointer (some ⟨b2, off2 + j, none⟩)), .eq (.int .i64 y), .eq (.bool false)] (by kernel_rfl) (by kernel_rfl) (by kernel_rfl) ?_ ?_
            · simp only [relyGoals]
              refine ⟨?_, ?_, ?_, ?_, ?_, ?_, ?_, ?_, ?_, trivial⟩
              all_goals intro t w' hsz hg hdd hfr
              all_goals simp only [depsDid, Did, perAt, List.getElem?_cons_zero, List.getElem?_cons_succ, List.getD_cons_zero, List.getD_cons_succ, Per.eq, Per.row, Per.of, and_true, Array.getD_eq_getD_getElem?] at hdd
              · rw [if_pos (by rfl)]
                try simp only [perAt, List.getD_cons_zero, List.getD_cons_succ, Per.eq, Per.row, Per.of]
                have hs0 := hfr 0 rfl
                simp only [Array.getD_eq_getD_getElem?] at hs0
                simp [execOp, Act.eval, hdd, hs0, relyUpon, go_sem, Grow.refl]
              · rw [if_pos (by rfl)]
                try simp only [perAt, List.getD_cons_zero, List.getD_cons_succ, Per.eq, Per.row, Per.of]
                have hs5 := hfr 5 rfl
                simp only [Array.getD_eq_getD_getElem?] at hs5
                simp [execOp, Act.eval, hdd, hs5, relyUpon, go_sem, Grow.refl]
              · rw [if_pos (by rfl)]
                try simp only [perAt, List.getD_cons_zero, List.getD_cons_succ, Per.eq, Per.row, Per.of]
                simp [execOp, Act.eval, hdd, relyUpon, go_sem, Grow.refl, hlt]
              · rw [if_pos (by rfl)]
                try simp only [perAt, List.getD_cons_zero, List.getD_cons_succ, Per.eq, Per.row, Per.of]
                simp [execOp, Act.eval, hdd, relyUpon, go_sem, Grow.refl, C1.out w' hg]
              · rw [if_pos (by rfl)]
                try simp only [perAt, List.getD_cons_zero, List.getD_cons_succ, Per.eq, Per.row, Per.of]
                have hs1 := hfr 1 rfl
                simp only [Array.getD_eq_getD_getElem?] at hs1
                simp [execOp, Act.eval, hdd, hs1, relyUpon, go_sem, Grow.refl]
              · rw [if_pos (by rfl)]
                try simp only [perAt, List.getD_cons_zero, List.getD_cons_succ, Per.eq, Per.row, Per.of]
                have hs5 := hfr 5 rfl
                simp only [Array.getD_eq_getD_getElem?] at hs5
                simp [execOp, Act.eval, hdd, hs5, relyUpon, go_sem, Grow.refl]
              · rw [if_pos (by rfl)]
                try simp only [perAt, List.getD_cons_zero, List.getD_cons_succ, Per.eq, Per.row, Per.of]
                simp [execOp, Act.eval, hdd, relyUpon, go_sem, Grow.refl, hlt2]
              · rw [if_pos (by rfl)]
                try simp only [perAt, List.getD_cons_zero, List.getD_cons_succ, Per.eq, Per.row, Per.of]
                simp [execOp, Act.eval, hdd, relyUpon, go_sem, Grow.refl, C2.out w' hg]
              · rw [if_pos (by rfl)]
                try simp only [perAt, List.getD_cons_zero, List.getD_cons_succ, Per.eq, Per.row, Per.of]
                simp [execOp, Act.eval, hdd, relyUpon, go_sem, Grow.refl, hbb]
            intro wz hgz
            simp only [relyEnd, List.headD_cons, List.tail_cons, Per.eq, Per.row, Per.of]
            rintro _ rfl _ rfl _ rfl _ rfl _ rfl _ rfl _ rfl _ rfl _ rfl
            go_simp
            go_wp2_with fail
            go_roundw
            case rel => exact ⟨j + 1, by omega, by omega, by go_num, hst, Grow.trans hg hgz⟩
            case measure => simp [intOf]; omega
          · have hR := hid (hat'.out hxy)
            have hbb : (x != y) = true := by rw [bne_iff_ne]; exact hxy
            clear hxy hstep hat'
            go_wp2_with fail
            refine wp_rely [.eq (.slice (some ⟨b, off, none⟩) n cap), .eq (.int .i64 (j : Int)), .eq (.pointer (some ⟨b, off + j, none⟩)), .eq (.int .i64 x), .eq (.slice (some ⟨b2, off2, none⟩) m cap2), .eq (.int .i64 (j : Int)), .eq (.pointer (some ⟨b2, off2 + j, none⟩)), .eq (.int .i64 y), .eq (.bool true)] (by kernel_rfl) (by kernel_rfl) (by kernel_rfl) ?_ ?_
            · simp only [relyGoals]
              refine ⟨?_, ?_, ?_, ?_, ?_, ?_, ?_, ?_, ?_, trivial⟩
              all_goals intro t w' hsz hg hdd hfr
              all_goals simp only [depsDid, Did, perAt, List.getElem?_cons_zero, List.getElem?_cons_succ, List.getD_cons_zero, List.getD_cons_succ, Per.eq, Per.row, Per.of, and_true, Array.getD_eq_getD_getElem?] at hdd
              · rw [if_pos (by rfl)]
                try simp only [perAt, List.getD_cons_zero, List.getD_cons_succ, Per.eq, Per.row, Per.of]
                have hs0 := hfr 0 rfl
                simp only [Array.getD_eq_getD_getElem?] at hs0
                simp [execOp, Act.eval, hdd, hs0, relyUpon, go_sem, Grow.refl]
              · rw [if_pos (by rfl)]
                try simp only [perAt, List.getD_cons_zero, List.getD_cons_succ, Per.eq, Per.row, Per.of]
                have hs5 := hfr 5 rfl
                simp only [Array.getD_eq_getD_getElem?] at hs5
                simp [execOp, Act.eval, hdd, hs5, relyUpon, go_sem, Grow.refl]
              · rw [if_pos (by rfl)]
                try simp only [perAt, List.getD_cons_zero, List.getD_cons_succ, Per.eq, Per.row, Per.of]
                simp [execOp, Act.eval, hdd, relyUpon, go_sem, Grow.refl, hlt]
              · rw [if_pos (by rfl)]
                try simp only [perAt, List.getD_cons_zero, List.getD_cons_succ, Per.eq, Per.row, Per.of]
                simp [execOp, Act.eval, hdd, relyUpon, go_sem, Grow.refl, C1.out w' hg]
              · rw [if_pos (by rfl)]
                try simp only [perAt, List.getD_cons_zero, List.getD_cons_succ, Per.eq, Per.row, Per.of]
                have hs1 := hfr 1 rfl
                simp only [Array.getD_eq_getD_getElem?] at hs1
                simp [execOp, Act.eval, hdd, hs1, relyUpon, go_sem, Grow.refl]
              · rw [if_pos (by rfl)]
                try simp only [perAt, List.getD_cons_zero, List.getD_cons_succ, Per.eq, Per.row, Per.of]
                have hs5 := hfr 5 rfl
                simp only [Array.getD_eq_getD_getElem?] at hs5
                simp [execOp, Act.eval, hdd, hs5, relyUpon, go_sem, Grow.refl]
              · rw [if_pos (by rfl)]
                try simp only [perAt, List.getD_cons_zero, List.getD_cons_succ, Per.eq, Per.row, Per.of]
                simp [execOp, Act.eval, hdd, relyUpon, go_sem, Grow.refl, hlt2]
              · rw [if_pos (by rfl)]
                try simp only [perAt, List.getD_cons_zero, List.getD_cons_succ, Per.eq, Per.row, Per.of]
                simp [execOp, Act.eval, hdd, relyUpon, go_sem, Grow.refl, C2.out w' hg]
              · rw [if_pos (by rfl)]
                try simp only [perAt, List.getD_cons_zero, List.getD_cons_succ, Per.eq, Per.row, Per.of]
                simp [execOp, Act.eval, hdd, relyUpon, go_sem, Grow.refl, hbb]
            intro wz hgz
            simp only [relyEnd, List.headD_cons, List.tail_cons, Per.eq, Per.row, Per.of]
            rintro _ rfl _ rfl _ rfl _ rfl _ rfl _ rfl _ rfl _ rfl _ rfl
            go_simp
            have hg1 := hgz
            go_wp2_with fail
            refine wp_rely [.eq (.slice (some ⟨b, off, none⟩) n cap), .eq (.int .i64 (j : Int)), .eq (.pointer (some ⟨b, off + j, none⟩)), .eq (.int .i64 x), .eq (.slice (some ⟨b2, off2, none⟩) m cap2), .eq (.int .i64 (j : Int)), .eq (.pointer (some ⟨b2, off2 + j, none⟩)), .eq (.int .i64 y), .eq (.bool (decide (x < y))), .eq (.bool (decide (x < y)))] (by kernel_rfl) (by kernel_rfl) (by kernel_rfl) ?_ ?_
            · simp only [relyGoals]
              refine ⟨?_, ?_, ?_, ?_, ?_, ?_, ?_, ?_, ?_, ?_, trivial⟩
              all_goals intro t w' hsz hg hdd hfr
              all_goals simp only [depsDid, Did, perAt, List.getElem?_cons_zero, List.getElem?_cons_succ, List.getD_cons_zero, List.getD_cons_succ, Per.eq, Per.row, Per.of, and_true, Array.getD_eq_getD_getElem?] at hdd
              · rw [if_pos (by rfl)]
                try simp only [perAt, List.getD_cons_zero, List.getD_cons_succ, Per.eq, Per.row, Per.of]
                have hs0 := hfr 0 rfl
                simp only [Array.getD_eq_getD_getElem?] at hs0
                simp [execOp, Act.eval, hdd, hs0, relyUpon, go_sem, Grow.refl]
              · rw [if_pos (by rfl)]
                try simp only [perAt, List.getD_cons_zero, List.getD_cons_succ, Per.eq, Per.row, Per.of]
                have hs5 := hfr 5 rfl
                simp only [Array.getD_eq_getD_getElem?] at hs5
                simp [execOp, Act.eval, hdd, hs5, relyUpon, go_sem, Grow.refl]
              · rw [if_pos (by rfl)]
                try simp only [perAt, List.getD_cons_zero, List.getD_cons_succ, Per.eq, Per.row, Per.of]
                simp [execOp, Act.eval, hdd, relyUpon, go_sem, Grow.refl, hlt]
              · rw [if_pos (by rfl)]
                try simp only [perAt, List.getD_cons_zero, List.getD_cons_succ, Per.eq, Per.row, Per.of]
                simp [execOp, Act.eval, hdd, relyUpon, go_sem, Grow.refl, C1.out w' (Grow.trans hg1 hg)]
              · rw [if_pos (by rfl)]
                try simp only [perAt, List.getD_cons_zero, List.getD_cons_succ, Per.eq, Per.row, Per.of]
                have hs1 := hfr 1 rfl
                simp only [Array.getD_eq_getD_getElem?] at hs1
                simp [execOp, Act.eval, hdd, hs1, relyUpon, go_sem, Grow.refl]
              · rw [if_pos (by rfl)]
                try simp only [perAt, List.getD_cons_zero, List.getD_cons_succ, Per.eq, Per.row, Per.of]
                have hs5 := hfr 5 rfl
                simp only [Array.getD_eq_getD_getElem?] at hs5
                simp [execOp, Act.eval, hdd, hs5, relyUpon, go_sem, Grow.refl]
              · rw [if_pos (by rfl)]
                try simp only [perAt, List.getD_cons_zero, List.getD_cons_succ, Per.eq, Per.row, Per.of]
                simp [execOp, Act.eval, hdd, relyUpon, go_sem, Grow.refl, hlt2]
              · rw [if_pos (by rfl)]
                try simp only [perAt, List.getD_cons_zero, List.getD_cons_succ, Per.eq, Per.row, Per.of]
                simp [execOp, Act.eval, hdd, relyUpon, go_sem, Grow.refl, C2.out w' (Grow.trans hg1 hg)]
              · rw [if_pos (by rfl)]
                try simp only [perAt, List.getD_cons_zero, List.getD_cons_succ, Per.eq, Per.row, Per.of]
                simp [execOp, Act.eval, hdd, relyUpon, go_sem, Grow.refl]
              · rw [if_pos (by rfl)]
                try simp only [perAt, List.getD_cons_zero, List.getD_cons_succ, Per.eq, Per.row, Per.of]
                simp [execOp, Act.eval, hdd, relyUpon, go_sem, Grow.refl]
            intro wz hgz
            simp only [relyEnd, List.headD_cons, List.tail_cons, Per.eq, Per.row, Per.of]
            rintro _ rfl _ rfl _ rfl _ rfl _ rfl _ rfl _ rfl _ rfl _ rfl _ rfl
            go_simp
            go_wp2_with fail
            go_ret
            exact ⟨by rw [hR.out]; rfl, Grow.trans hg (Grow.trans hg1 hgz)⟩
        · obtain rfl : j = m := by omega
          have hR := hid (hEnd.out j hj hj2 HS.out (Or.inr rfl))
          clear hlt2
          have hlt3 : decide (n < j) = false := by simp; omega
          go_wp2_with fail
          go_ret
          exact ⟨by rw [hR.out, hlt3]; rfl, hg⟩
      · obtain rfl : j = n := by omega
        have hR := hid (hEnd.out j hj hj2 HS.out (Or.inl rfl))
        by_cases hjm : j < m
        · have hd : decide (j < m) = true := by simp; omega
          rw [hd] at hR
          go_wp2_with fail
          go_ret
          exact ⟨by rw [hR.out]; rfl, hg⟩
        · have hd : decide (j < m) = false := by simp; omega
          rw [hd] at hR
          go_wp2_with fail
          go_ret
          exact ⟨by rw [hR.out]; rfl, hg⟩
theorem Ints_c (xs ys : List Int) (va vb : Value) (w : World) (ha : Ints w va xs) (hb : Ints w vb ys) :
    Calls Try.prog 12 #[va, vb] w fun e w' => e = .returned (.bool (decide (xs = ys))) ∧ Grow w w' := by
  rw [← ints_eq]
  have c1 := hid (fun w' (h : Grow w w') => Before_c xs ys va vb w' (ha.grow h) (hb.grow h))
  have c2 := hid (fun w' (h : Grow w w') => Before_c ys xs vb va w' (hb.grow h) (ha.grow h))
  clear ha hb
  generalize hA : beforeL xs ys = A at c1
  generalize hB : beforeL ys xs = B at c2
  clear hA hB
  cases A
  · go_enter Try.func12, Try.ntmps12
    go_wp2_with fail
    refine (c1.out _ (Grow.refl _)).mono ?_
    rintro e w1 ⟨rfl, b1⟩
    go_wp2_with fail
    refine (c2.out _ b1).mono ?_
    rintro e w2 ⟨rfl, b2⟩
    go_wp2_with fail
    go_ret
    exact ⟨by cases B <;> rfl, Grow.trans b1 b2⟩
  · go_enter Try.func12, Try.ntmps12
    go_wp2_with fail
    refine (c1.out _ (Grow.refl _)).mono ?_
    rintro e w1 ⟨rfl, b1⟩
    go_wp2_with fail
    go_ret
    exact ⟨rfl, b1⟩
end Go.Proofs.Ytnohdicnofffdaa
