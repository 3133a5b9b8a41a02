/- What is wrong with a history: where a scan ends. What is wrong with an operation beside others: hist.beside, through its closures. What op.Check, op.Before and op.Overlap compute. What hist.Check tells: the walk. What the reference's beside tells. The reference's table of methods, and how it looks into it. What the reference's Check computes: the same as op.Check. What the reference's Check tells. -/
import Derived.Test.YtlhgdbangnohjaaHPlain
import Derived.Test.YtlhgdbangnohjaaHRow
import Derived.Deep.QuietTactic
import Derived.Test.YtlhgdbangnohjaaOpFits
import Derived.BigQuiet
import Derived.IntWalk
import Derived.Test.YtlhgdbangnohjaaOpTimes
namespace Go.Proofs.Ytlhgdbangnohjaa
open Go.RowKit
set_option linter.unusedVariables false
theorem histE_many {l : List OpR} (h : 64 < l.length) : histE l = 34 := by unfold histE; rw [if_pos h]
theorem histE_round {l : List OpR} (h : l.length ≤ 64) {j : Nat} (hj : j < l.length) (hz : ∀ k, k < j → roundE l k = 0) (hne : roundE l j ≠ 0) : histE l = roundE l j := by
  unfold histE
  rw [if_neg (by omega)]
  have := firstE_hit (roundE l) j hne hz l.length hj
  rw [this, if_pos hne]
theorem histE_beside {l : List OpR} (h : l.length ≤ 64) (hr : ∀ k, k < l.length → roundE l k = 0) {j : Nat} (hj : j < l.length) (hz : ∀ k, k < j → besideE l (opAt l k) = 0) (hne : besideE l (opAt l j) ≠ 0) : histE l = besideE l (opAt l j) := by
  unfold histE
  rw [if_neg (by omega), firstE_zero _ _ hr, if_neg (by simp)]
  exact firstE_hit (fun k => besideE l (opAt l k)) j hne hz l.length hj
theorem histE_ok {l : List OpR} (h : l.length ≤ 64) (hr : ∀ k, k < l.length → roundE l k = 0) (hz : ∀ k, k < l.length → besideE l (opAt l k) = 0) : histE l = 0 := by
  unfold histE
  rw [if_neg (by omega), firstE_zero _ _ hr, if_neg (by simp)]
  exact firstE_zero _ _ hz
theorem roundE_bad {l : List OpR} {j : Nat} (h : checkE (opAt l j) ≠ 0) : roundE l j = checkE (opAt l j) := by unfold roundE; rw [if_pos h]
theorem roundE_first {l : List OpR} (h : checkE (opAt l 0) = 0) : roundE l 0 = 0 := by unfold roundE; rw [if_neg (by simpa using h), if_neg (by omega)]
theorem roundE_twice {l : List OpR} {j : Nat} (h : checkE (opAt l (j + 1)) = 0) (h2 : (opAt l (j + 1)).id ≤ (opAt l j).id) : roundE l (j + 1) = 7 := by unfold roundE; rw [if_neg (by simpa using h), if_pos ⟨by omega, by simpa using h2⟩]
theorem roundE_next {l : List OpR} {j : Nat} (h : checkE (opAt l (j + 1)) = 0) (h2 : ¬ (opAt l (j + 1)).id ≤ (opAt l j).id) : roundE l (j + 1) = 0 := by unfold roundE; rw [if_neg (by simpa using h), if_neg (fun e => h2 (by simpa using e.2))]
theorem upto_succ {P : Nat → Prop} {j : Nat} (h : ∀ k, k < j → P k) (h2 : P j) : ∀ k, k < j + 1 → P k := fun k hk => by
  by_cases e : k = j
  · subst e; exact h2
  · exact h k (by omega)
end Go.Proofs.Ytlhgdbangnohjaa
namespace Go.Proofs.Ytlhgdbangnohjaa
open Go.RowKit
set_option linter.unusedVariables false
set_option linter.unusedSimpArgs false
theorem OpAt.at0 {w : World} {b : Nat} {x : OpR} (h : OpAt w b 0 x) : w.cell? ⟨b, 0, none⟩ = some (.int .i64 x.id) ∧ w.cell? ⟨b, 1, none⟩ = some (.int .i64 x.proc) ∧ w.cell? ⟨b, 2, none⟩ = some (.int .i64 x.obj) ∧ w.cell? ⟨b, 3, none⟩ = some (.int .i64 x.kind) ∧ w.cell? ⟨b, 4, none⟩ = some (.int .i64 x.meth) ∧ w.cell? ⟨b, 5, none⟩ = some (.int .i64 x.arg) ∧ w.cell? ⟨b, 6, none⟩ = some (.int .i64 x.sec) ∧ w.cell? ⟨b, 7, none⟩ = some (.bool x.done) ∧ w.cell? ⟨b, 8, none⟩ = some (.int .i64 x.res) ∧ w.cell? ⟨b, 9, none⟩ = some (.int .i64 x.inv) ∧ w.cell? ⟨b, 10, none⟩ = some (.int .i64 x.ret) := by
  unfold OpAt at h
  simpa only [Nat.zero_add] using h
end Go.Proofs.Ytlhgdbangnohjaa
namespace Go.Proofs.Ytlhgdbangnohjaa
open Go.RowKit
set_option linter.unusedVariables false
set_option linter.unusedSimpArgs false
/-- The ways through a check, one by one. -/
theorem check_ways (o : OpR) (C : Int → Prop)
    (w1 : bad1 o = true → C 30)
    (w2 : 1 ≤ o.id → o.id ≤ 1073741824 → 0 ≤ o.proc → o.proc ≤ 1023 → 0 ≤ o.obj → o.obj ≤ 1023 →
      (fitsB o.kind o.meth = false → C 33) ∧ (fitsB o.kind o.meth = true → (argsB o.meth o.arg o.sec = false → C 33) ∧ (argsB o.meth o.arg o.sec = true →
        (o.done = true → (resB o.kind o.meth o.res = false → C 33) ∧ (resB o.kind o.meth o.res = true → (o.inv < 0 → C 31) ∧ (1099511627776 < o.inv → C 31) ∧ (0 ≤ o.inv → o.inv ≤ 1099511627776 → (o.ret ≤ o.inv → C 31) ∧ (o.inv < o.ret → (1099511627776 < o.ret → C 31) ∧ (o.ret ≤ 1099511627776 → C 0))))) ∧
        (o.done = false → ((o.res != 0) = true → C 33) ∧ ((o.res != 0) = false → (o.inv < 0 → C 31) ∧ (1099511627776 < o.inv → C 31) ∧ (0 ≤ o.inv → o.inv ≤ 1099511627776 → ((o.ret != 0) = true → C 31) ∧ ((o.ret != 0) = false → C 0))))))) : C (checkE o) := by
  by_cases b1 : bad1 o = true
  · rw [checkE_1 o b1]; exact w1 b1
  · have n1 : bad1 o = false := by simpa using b1
    have p1 := n1
    simp only [bad1, decide_eq_false_iff_not] at p1
    obtain ⟨wf, wt⟩ := w2 (by omega) (by omega) (by omega) (by omega) (by omega) (by omega)
    cases F : fitsB o.kind o.meth
    · rw [checkE_2 o n1 (by simp [bad2, F])]; exact wf F
    · obtain ⟨wa, wb⟩ := wt F
      cases A : argsB o.meth o.arg o.sec
      · rw [checkE_2 o n1 (by simp [bad2, F, A])]; exact wa A
      · obtain ⟨wd, we⟩ := wb A
        cases D : o.done
        · obtain ⟨x1, x2⟩ := we D
          cases R : (o.res != 0)
          · have hr : o.res = 0 := by simpa using R
            have n2 : bad2 o = false := by simp [bad2, F, A, D, hr]
            obtain ⟨y1, y2, y3⟩ := x2 R
            by_cases i1 : o.inv < 0
            · rw [checkE_3 o n1 n2 (by simp [bad3, i1])]; exact y1 i1
            · by_cases i2 : 1099511627776 < o.inv
              · rw [checkE_3 o n1 n2 (by simp [bad3, i2])]; exact y2 i2
              · obtain ⟨z1, z2⟩ := y3 (by omega) (by omega)
                cases T : (o.ret != 0)
                · have ht : o.ret = 0 := by simpa using T
                  rw [checkE_0 o n1 n2 (by simp [bad3, D, ht]; omega)]; exact z2 T
                · have ht : o.ret ≠ 0 := by simpa using T
                  rw [checkE_3 o n1 n2 (by simp [bad3, D, ht])]; exact z1 T
          · have hr : o.res ≠ 0 := by simpa using R
            rw [checkE_2 o n1 (by simp [bad2, F, A, D, hr])]; exact x1 R
        · obtain ⟨x1, x2⟩ := wd D
          cases R : resB o.kind o.meth o.res
          · rw [checkE_2 o n1 (by simp [bad2, F, A, D, R])]; exact x1 R
          · have n2 : bad2 o = false := by simp [bad2, F, A, D, R]
            obtain ⟨y1, y2, y3⟩ := x2 R
            by_cases i1 : o.inv < 0
            · rw [checkE_3 o n1 n2 (by simp [bad3, i1])]; exact y1 i1
            · by_cases i2 : 1099511627776 < o.inv
              · rw [checkE_3 o n1 n2 (by simp [bad3, i2])]; exact y2 i2
              · obtain ⟨z1, z2⟩ := y3 (by omega) (by omega)
                by_cases t1 : o.ret ≤ o.inv
                · rw [checkE_3 o n1 n2 (by simp [bad3, D, t1])]; exact z1 t1
                · obtain ⟨u1, u2⟩ := z2 (by omega)
                  by_cases t2 : 1099511627776 < o.ret
                  · rw [checkE_3 o n1 n2 (by simp [bad3, D, t2])]; exact u1 t2
                  · rw [checkE_0 o n1 n2 (by simp [bad3, D]; omega)]; exact u2 (by omega)
end Go.Proofs.Ytlhgdbangnohjaa
namespace Go.Proofs.Ytlhgdbangnohjaa
open Go.RowKit
set_option linter.unusedVariables false
set_option linter.unusedSimpArgs false
/-- The answers are int64. -/
def FitL (l : List OpR) : Prop := ∀ k, k < l.length → I64 (opAt l k).res
theorem Grow.drewNM {a b : World} (h : Grow a b) (n : Nat) : Grow a (b.drewN n) := ⟨h.os, h.tape, h.output, h.size, h.block⟩
theorem roundE_twiceJ {l : List OpR} {j : Nat} (h0 : 0 < j) (h : checkE (opAt l j) = 0) : (opAt l j).id ≤ (opAt l (j - 1)).id → roundE l j = 7 := by
  obtain ⟨i, rfl⟩ : ∃ i, j = i + 1 := ⟨j - 1, by omega⟩
  exact fun h2 => roundE_twice h (by simpa using h2)
theorem roundE_nextJ {l : List OpR} {j : Nat} (h0 : 0 < j) (h : checkE (opAt l j) = 0) : ¬ (opAt l j).id ≤ (opAt l (j - 1)).id → roundE l j = 0 := by
  obtain ⟨i, rfl⟩ : ∃ i, j = i + 1 := ⟨j - 1, by omega⟩
  exact fun h2 => roundE_next h (by simpa using h2)
end Go.Proofs.Ytlhgdbangnohjaa
namespace Go.Proofs.Ytlhgdbangnohjaa
open Go.RowKit
set_option linter.unusedVariables false
set_option linter.unusedSimpArgs false
theorem Grow.drewNX {a b : World} (h : Grow a b) (n : Nat) : Grow a (b.drewN n) := ⟨h.os, h.tape, h.output, h.size, h.block⟩
theorem besideE_kind {l : List OpR} {o : OpR} (h : l.any (kindB o) = true) : besideE l o = 33 := by unfold besideE; rw [if_pos h]
theorem besideE_busy {l : List OpR} {o : OpR} (h : l.any (kindB o) = false) (h2 : l.any (busyB o) = true) : besideE l o = 32 := by unfold besideE; rw [if_neg (by rw [h]; decide), if_pos h2]
theorem besideE_ok {l : List OpR} {o : OpR} (h : l.any (kindB o) = false) (h2 : l.any (busyB o) = false) : besideE l o = 0 := by unfold besideE; rw [if_neg (by rw [h]; decide), if_neg (by rw [h2]; decide)]
set_option maxRecDepth 100000 in
set_option maxHeartbeats 8000000 in
theorem RBeside_c (l : List OpR) (o : OpR) (v : Value) (w : World) (hv : Ops w v l) :
    Calls Try.prog 32 #[v, .agg #[.int .i64 o.id, .int .i64 o.proc, .int .i64 o.obj, .int .i64 o.kind, .int .i64 o.meth, .int .i64 o.arg, .int .i64 o.sec, .bool o.done, .int .i64 o.res, .int .i64 o.inv, .int .i64 o.ret]] w fun e w' => e = .returned (.int .i64 (besideE l o)) ∧ Grow w w' := by
  have HK1 := hid (fun h => besideE_kind (l := l) (o := o) h)
  have HK2 := hid (fun h h2 => besideE_busy (l := l) (o := o) h h2)
  have HK3 := hid (fun h h2 => besideE_ok (l := l) (o := o) h h2)
  have HT1 := hid (fun k hk h => any_true (l := l) (q := kindB o) (k := k) hk h)
  have HT2 := hid (fun k hk h => any_true (l := l) (q := busyB o) (k := k) hk h)
  have HF1 := hid (any_false (l := l) (q := kindB o))
  have HF2 := hid (any_false (l := l) (q := busyB o))
  have HB1 := hid (fun (p : OpR) w' => RBefore_c p o w')
  have HB2 := hid (fun (p : OpR) w' => RBefore_c o p w')
  obtain ⟨p, cap, rfl, hl, hc⟩ := hv.read
  have HC := hid hc
  clear hc hv
  generalize besideE l o = R at *
  generalize l.any (kindB o) = X1 at *
  generalize l.any (busyB o) = X2 at *
  generalize hN : l.length = n at *
  clear hN
  have HBX := hid (show ∀ wr, Grow (w.alloc (.cells #[.int .i64 o.id, .int .i64 o.proc, .int .i64 o.obj, .int .i64 o.kind, .int .i64 o.meth, .int .i64 o.arg, .int .i64 o.sec, .bool o.done, .int .i64 o.res, .int .i64 o.inv, .int .i64 o.ret] 52)) wr → OpBox wr w.heap.size o from fun wr g => OpBox.grow (heap_new w _) g)
  obtain ⟨bid, bproc, bobj, bkind, bmeth, barg, bsec, bdone, bres, binv, bret⟩ := o
  dsimp only at HBX
  generalize hW1 : w.alloc (.cells #[.int .i64 bid, .int .i64 bproc, .int .i64 bobj, .int .i64 bkind, .int .i64 bmeth, .int .i64 barg, .int .i64 bsec, .bool bdone, .int .i64 bres, .int .i64 binv, .int .i64 bret] 52) = W1 at HBX
  have HW1 := hid hW1
  have HG1 := hid (show Grow w W1 from by rw [← hW1]; exact Grow.alloc _ _)
  clear hW1
  go_enter Try.func32, Try.ntmps32
  go_wp2_with fail
  rw [HW1.out]
  go_loopw [5] (fun i wr => ∃ j : Nat, j ≤ n ∧ i = .int .i64 (j : Int) ∧ Hid (∀ k, k < j → kindB ⟨bid, bproc, bobj, bkind, bmeth, barg, bsec, bdone, bres, binv, bret⟩ (opAt l k) = false) ∧ Grow W1 wr) (fun i _ => n - (intOf i).toNat)
  case atStart => exact ⟨0, by omega, rfl, hid (fun q hq => by omega), Grow.refl _⟩
  case round =>
    obtain ⟨j, hj, rfl, HZ, hg⟩ := hrel
    have hgw := Grow.trans HG1.out hg
    by_cases hlt : j < n
    · obtain ⟨b, off, rfl, ha⟩ := HC.out j hlt
      have hk0 : (0 : Int) ≤ (j : Int) := by omega
      have hk1 : (j : Int) < (n : Int) := by omega
      obtain ⟨f0, f1, f2, f3, f4, f5, f6, f7, f8, f9, f10⟩ := (HBX.out wr hg).at.at0
      have hob := (HBX.out wr hg).lt
      dsimp only at f0 f1 f2 f3 f4 f5 f6 f7 f8 f9 f10
      have HZN := hid (fun h => upto_succ (P := fun k => kindB ⟨bid, bproc, bobj, bkind, bmeth, barg, bsec, bdone, bres, binv, bret⟩ (opAt l k) = false) HZ.out h)
      have HZY := hid (fun h => HK1.out (HT1.out j hlt h))
      generalize opAt l j = o at ha HZN HZY
      obtain ⟨id, proc, obj, kind, meth, arg, sec, done, res, inv, ret⟩ := o
      unfold OpAt at ha
      dsimp only at ha HZN HZY
      obtain ⟨c0, c1, c2, c3, c4, c5, c6, c7, c8, c9, c10⟩ := ha
      replace c0 := hgw.cell c0
      replace c1 := hgw.cell c1
      replace c2 := hgw.cell c2
      replace c3 := hgw.cell c3
      replace c4 := hgw.cell c4
      replace c5 := hgw.cell c5
      replace c6 := hgw.cell c6
      replace c7 := hgw.cell c7
      replace c8 := hgw.cell c8
      replace c9 := hgw.cell c9
      replace c10 := hgw.cell c10
      by_cases hh1 : id = bid
      · have q1 : (id != bid) = false := by simpa using hh1
        have HZ2 := hid (HZN.out (by simp [kindB, q1]))
        clear hh1 HZN HZY
        go_wp2_with fail
        go_quiet (fail)
        go_wp2_with fail
        go_roundw
        case rel => exact ⟨j + 1, by omega, by go_num, HZ2, Grow.drewNX hg _⟩
        case measure => (simp [intOf]; try omega)
      · by_cases hh2 : obj = bobj
        · by_cases hh3 : kind = bkind
          · have q1 : (id != bid) = true := by simpa using hh1
            have q2 : (obj == bobj) = true := by simpa using hh2
            have q3 : (kind != bkind) = false := by simpa using hh3
            have HZ2 := hid (HZN.out (by simp [kindB, q1, q2, q3]))
            clear hh1 hh2 hh3 HZN HZY
            go_wp2_with fail
            go_quiet (fail)
            go_wp2_with fail
            go_roundw
            case rel => exact ⟨j + 1, by omega, by go_num, HZ2, Grow.drewNX hg _⟩
            case measure => (simp [intOf]; try omega)
          · have q1 : (id != bid) = true := by simpa using hh1
            have q2 : (obj == bobj) = true := by simpa using hh2
            have q3 : (kind != bkind) = true := by simpa using hh3
            have HRR := hid (HZY.out (by simp [kindB, q1, q2, q3]))
            clear hh1 hh2 hh3 HZN HZY
            go_wp2_with fail
            go_quiet (fail)
            go_wp2_with fail
            go_ret
            exact ⟨by rw [HRR.out]; rfl, Grow.trans HG1.out (Grow.drewNX hg _)⟩
        · have q1 : (id != bid) = true := by simpa using hh1
          have q2 : (obj == bobj) = false := by simpa using hh2
          have HZ2 := hid (HZN.out (by simp [kindB, q1, q2]))
          clear hh1 hh2 HZN HZY
          go_wp2_with fail
          go_quiet (fail)
          go_wp2_with fail
          go_roundw
          case rel => exact ⟨j + 1, by omega, by go_num, HZ2, Grow.drewNX hg _⟩
          case measure => (simp [intOf]; try omega)
    · obtain rfl : n = j := by omega
      have HFK := hid (HF1.out HZ.out)
      go_wp2_with fail
      go_loopw [6] (fun i wr => ∃ i' : Nat, i' ≤ n ∧ i = .int .i64 (i' : Int) ∧ Hid (∀ k, k < i' → busyB ⟨bid, bproc, bobj, bkind, bmeth, barg, bsec, bdone, bres, binv, bret⟩ (opAt l k) = false) ∧ Grow W1 wr) (fun i _ => n - (intOf i).toNat)
      case atStart => exact ⟨0, by omega, rfl, hid (fun q hq => by omega), hg⟩
      case round =>
        clear hg hgw HZ
        obtain ⟨j, hj, rfl, HZ, hg⟩ := hrel
        have hgw := Grow.trans HG1.out hg
        by_cases hlt : j < n
        · obtain ⟨b, off, rfl, ha⟩ := HC.out j hlt
          have hk0 : (0 : Int) ≤ (j : Int) := by omega
          have hk1 : (j : Int) < (n : Int) := by omega
          obtain ⟨f0, f1, f2, f3, f4, f5, f6, f7, f8, f9, f10⟩ := (HBX.out wr hg).at.at0
          have hob := (HBX.out wr hg).lt
          dsimp only at f0 f1 f2 f3 f4 f5 f6 f7 f8 f9 f10
          have HZN := hid (fun h => upto_succ (P := fun k => busyB ⟨bid, bproc, bobj, bkind, bmeth, barg, bsec, bdone, bres, binv, bret⟩ (opAt l k) = false) HZ.out h)
          have HZY := hid (fun h => HK2.out HFK.out (HT2.out j hlt h))
          have hb1 := fun w' => HB1.out (opAt l j) w'
          have hb2 := fun w' => HB2.out (opAt l j) w'
          generalize opAt l j = o at ha HZN HZY hb1 hb2
          obtain ⟨id, proc, obj, kind, meth, arg, sec, done, res, inv, ret⟩ := o
          unfold OpAt at ha
          dsimp only at ha HZN HZY hb1 hb2
          obtain ⟨c0, c1, c2, c3, c4, c5, c6, c7, c8, c9, c10⟩ := ha
          replace c0 := hgw.cell c0
          replace c1 := hgw.cell c1
          replace c2 := hgw.cell c2
          replace c3 := hgw.cell c3
          replace c4 := hgw.cell c4
          replace c5 := hgw.cell c5
          replace c6 := hgw.cell c6
          replace c7 := hgw.cell c7
          replace c8 := hgw.cell c8
          replace c9 := hgw.cell c9
          replace c10 := hgw.cell c10
          by_cases hh1 : id = bid
          · have q1 : (id != bid) = false := by simpa using hh1
            have HZ2 := hid (HZN.out (by simp [busyB, q1]))
            clear hh1 HZN HZY hb1 hb2
            go_wp2_with fail
            go_quiet (fail)
            go_wp2_with fail
            go_roundw
            case rel => exact ⟨j + 1, by omega, by go_num, HZ2, Grow.drewNX hg _⟩
            case measure => (simp [intOf]; try omega)
          · by_cases hh2 : proc = bproc
            · cases hX : befB ⟨id, proc, obj, kind, meth, arg, sec, done, res, inv, ret⟩ ⟨bid, bproc, bobj, bkind, bmeth, barg, bsec, bdone, bres, binv, bret⟩
              · cases hY : befB ⟨bid, bproc, bobj, bkind, bmeth, barg, bsec, bdone, bres, binv, bret⟩ ⟨id, proc, obj, kind, meth, arg, sec, done, res, inv, ret⟩
                · subst hh2
                  rw [hX] at hb1
                  have q1 : (id != bid) = true := by simpa using hh1
                  rw [hY] at hb2
                  have HRR := hid (HZY.out (by simp [busyB, q1, hX, hY]))
                  have HX := hid hb1
                  have HY := hid hb2
                  clear hb1 hb2 HZN HZY hX hY
                  have zb : b < wr.heap.size := World.block_lt_of_cell? wr _ c0
                  go_wp2_with fail
                  refine wp_rely [.eq (.slice (some ⟨b, off, none⟩) n cap), .eq (.int .i64 (j : Int)), .eq (.pointer (some ⟨b, off + j * 11, none⟩)), .eq (.pointer (some ⟨b, off + j * 11, none⟩)), .eq (.int .i64 id), .eq (.pointer (some ⟨w.heap.size, 0, none⟩)), .eq (.int .i64 bid), .eq (.bool true), .eq (.bool true), .eq (.slice (some ⟨b, off, none⟩) n cap), .eq (.int .i64 (j : Int)), .eq (.pointer (some ⟨b, off + j * 11, none⟩)), .eq (.pointer (some ⟨b, off + j * 11 + 1, none⟩)), .eq (.int .i64 proc), .eq (.pointer (some ⟨w.heap.size, 1, none⟩)), .eq (.int .i64 proc), .eq (.bool true), .eq (.bool true), .eq (.bool true), .eq (.slice (some ⟨b, off, none⟩) n cap), .eq (.int .i64 (j : Int)), .eq (.pointer (some ⟨b, off + j * 11, none⟩)), .eq (.agg #[.int .i64 id, .int .i64 proc, .int .i64 obj, .int .i64 kind, .int .i64 meth, .int .i64 arg, .int .i64 sec, .bool done, .int .i64 res, .int .i64 inv, .int .i64 ret]), .eq (.agg #[.int .i64 bid, .int .i64 proc, .int .i64 bobj, .int .i64 bkind, .int .i64 bmeth, .int .i64 barg, .int .i64 bsec, .bool bdone, .int .i64 bres, .int .i64 binv, .int .i64 bret]), .eq (.bool false), .eq (.bool true), .eq (.bool true), .eq (.bool true), .eq (.agg #[.int .i64 bid, .int .i64 proc, .int .i64 bobj, .int .i64 bkind, .int .i64 bmeth, .int .i64 barg, .int .i64 bsec, .bool bdone, .int .i64 bres, .int .i64 binv, .int .i64 bret]), .eq (.slice (some ⟨b, off, none⟩) n cap), .eq (.int .i64 (j : Int)), .eq (.pointer (some ⟨b, off + j * 11, none⟩)), .eq (.agg #[.int .i64 id, .int .i64 proc, .int .i64 obj, .int .i64 kind, .int .i64 meth, .int .i64 arg, .int .i64 sec, .bool done, .int .i64 res, .int .i64 inv, .int .i64 ret]), .eq (.bool false), .eq (.bool true), .eq (.bool true)] (by kernel_rfl) (by kernel_rfl) (by kernel_rfl) ?_ ?_
                  · simp only [relyGoals]
                    refine ⟨?_, ?_, ?_, ?_, ?_, ?_, ?_, ?_, ?_, ?_, ?_, ?_, ?_, ?_, ?_, ?_, ?_, ?_, ?_, ?_, ?_, ?_, ?_, ?_, ?_, ?_, ?_, ?_, ?_, ?_, ?_, ?_, ?_, ?_, ?_, ?_, trivial⟩
                    all_goals intro t w' hsz hg hdd hfr
                    all_goals simp only [depsDid, Did, perAt, List.getElem?_cons_zero, List.getElem?_cons_succ, List.getD_cons_zero, List.getD_cons_succ, Per.eq, Per.row, Per.of, and_true, Array.getD_eq_getD_getElem?] at hdd
                    · rw [if_pos (by rfl)]
                      try simp only [perAt, List.getD_cons_zero, List.getD_cons_succ, Per.eq, Per.row, Per.of]
                      have hs0 := hfr 0 (by kernel_rfl)
                      simp only [Array.getD_eq_getD_getElem?] at hs0
                      simp [execOp, Act.eval, hdd, hs0, relyUpon, go_sem, Grow.refl]
                    · rw [if_pos (by rfl)]
                      try simp only [perAt, List.getD_cons_zero, List.getD_cons_succ, Per.eq, Per.row, Per.of]
                      have hs6 := hfr 6 (by kernel_rfl)
                      simp only [Array.getD_eq_getD_getElem?] at hs6
                      simp [execOp, Act.eval, hdd, hs6, relyUpon, go_sem, Grow.refl]
                    · rw [if_pos (by rfl)]
                      try simp only [perAt, List.getD_cons_zero, List.getD_cons_succ, Per.eq, Per.row, Per.of]
                      simp [execOp, Act.eval, hdd, relyUpon, go_sem, Grow.refl, hlt, Grow.refl]
                    · rw [if_pos (by rfl)]
                      try simp only [perAt, List.getD_cons_zero, List.getD_cons_succ, Per.eq, Per.row, Per.of]
                      simp [execOp, Act.eval, hdd, relyUpon, go_sem, Grow.refl]
                    · rw [if_pos (by rfl)]
                      try simp only [perAt, List.getD_cons_zero, List.getD_cons_succ, Per.eq, Per.row, Per.of]
                      have kc := hg.cells
                      simp [execOp, Act.eval, hdd, relyUpon, go_sem, Grow.refl, kc, f0, f1, f2, f3, f4, f5, f6, f7, f8, f9, f10, c0, c1, c2, c3, c4, c5, c6, c7, c8, c9, c10, hob, zb, hk0, hk1]
                    · rw [if_pos (by rfl)]
                      try simp only [perAt, List.getD_cons_zero, List.getD_cons_succ, Per.eq, Per.row, Per.of]
                      have hs3 := hfr 3 (by kernel_rfl)
                      simp only [Array.getD_eq_getD_getElem?] at hs3
                      simp [execOp, Act.eval, hdd, hs3, relyUpon, go_sem, Grow.refl]
                    · rw [if_pos (by rfl)]
                      try simp only [perAt, List.getD_cons_zero, List.getD_cons_succ, Per.eq, Per.row, Per.of]
                      have kc := hg.cells
                      simp [execOp, Act.eval, hdd, relyUpon, go_sem, Grow.refl, kc, f0, f1, f2, f3, f4, f5, f6, f7, f8, f9, f10, c0, c1, c2, c3, c4, c5, c6, c7, c8, c9, c10, hob, zb, hk0, hk1]
                    · rw [if_pos (by rfl)]
                      try simp only [perAt, List.getD_cons_zero, List.getD_cons_succ, Per.eq, Per.row, Per.of]
                      simp [execOp, Act.eval, hdd, relyUpon, go_sem, Grow.refl, hh1, Grow.refl]
                    · rw [if_pos (by rfl)]
                      try simp only [perAt, List.getD_cons_zero, List.getD_cons_succ, Per.eq, Per.row, Per.of]
                      simp [execOp, Act.eval, hdd, relyUpon, go_sem, Grow.refl]
                    · rw [if_pos (by simp only [Region.wanted]; rw [yielded_of (d := 55) (b := true) rfl (by simp only [hdd])]; rfl)]
                      try simp only [perAt, List.getD_cons_zero, List.getD_cons_succ, Per.eq, Per.row, Per.of]
                      have hs0 := hfr 0 (by kernel_rfl)
                      simp only [Array.getD_eq_getD_getElem?] at hs0
                      simp [execOp, Act.eval, hdd, hs0, relyUpon, go_sem, Grow.refl]
                    · rw [if_pos (by simp only [Region.wanted]; rw [yielded_of (d := 55) (b := true) rfl (by simp only [hdd])]; rfl)]
                      try simp only [perAt, List.getD_cons_zero, List.getD_cons_succ, Per.eq, Per.row, Per.of]
                      have hs6 := hfr 6 (by kernel_rfl)
                      simp only [Array.getD_eq_getD_getElem?] at hs6
                      simp [execOp, Act.eval, hdd, hs6, relyUpon, go_sem, Grow.refl]
                    · rw [if_pos (by simp only [Region.wanted]; rw [yielded_of (d := 55) (b := true) rfl (by simp only [hdd])]; rfl)]
                      try simp only [perAt, List.getD_cons_zero, List.getD_cons_succ, Per.eq, Per.row, Per.of]
                      simp [execOp, Act.eval, hdd, relyUpon, go_sem, Grow.refl, hlt, Grow.refl]
                    · rw [if_pos (by simp only [Region.wanted]; rw [yielded_of (d := 55) (b := true) rfl (by simp only [hdd])]; rfl)]
                      try simp only [perAt, List.getD_cons_zero, List.getD_cons_succ, Per.eq, Per.row, Per.of]
                      simp [execOp, Act.eval, hdd, relyUpon, go_sem, Grow.refl]
                    · rw [if_pos (by simp only [Region.wanted]; rw [yielded_of (d := 55) (b := true) rfl (by simp only [hdd])]; rfl)]
                      try simp only [perAt, List.getD_cons_zero, List.getD_cons_succ, Per.eq, Per.row, Per.of]
                      have kc := hg.cells
                      simp [execOp, Act.eval, hdd, relyUpon, go_sem, Grow.refl, kc, f0, f1, f2, f3, f4, f5, f6, f7, f8, f9, f10, c0, c1, c2, c3, c4, c5, c6, c7, c8, c9, c10, hob, zb, hk0, hk1]
                    · rw [if_pos (by simp only [Region.wanted]; rw [yielded_of (d := 55) (b := true) rfl (by simp only [hdd])]; rfl)]
                      try simp only [perAt, List.getD_cons_zero, List.getD_cons_succ, Per.eq, Per.row, Per.of]
                      have hs3 := hfr 3 (by kernel_rfl)
                      simp only [Array.getD_eq_getD_getElem?] at hs3
                      simp [execOp, Act.eval, hdd, hs3, relyUpon, go_sem, Grow.refl]
                    · rw [if_pos (by simp only [Region.wanted]; rw [yielded_of (d := 55) (b := true) rfl (by simp only [hdd])]; rfl)]
                      try simp only [perAt, List.getD_cons_zero, List.getD_cons_succ, Per.eq, Per.row, Per.of]
                      have kc := hg.cells
                      simp [execOp, Act.eval, hdd, relyUpon, go_sem, Grow.refl, kc, f0, f1, f2, f3, f4, f5, f6, f7, f8, f9, f10, c0, c1, c2, c3, c4, c5, c6, c7, c8, c9, c10, hob, zb, hk0, hk1]
                    · rw [if_pos (by simp only [Region.wanted]; rw [yielded_of (d := 55) (b := true) rfl (by simp only [hdd])]; rfl)]
                      try simp only [perAt, List.getD_cons_zero, List.getD_cons_succ, Per.eq, Per.row, Per.of]
                      simp [execOp, Act.eval, hdd, relyUpon, go_sem, Grow.refl]
                    · rw [if_pos (by rfl)]
                      try simp only [perAt, List.getD_cons_zero, List.getD_cons_succ, Per.eq, Per.row, Per.of]
                      simp [execOp, Act.eval, hdd, relyUpon, go_sem, Grow.refl]
                    · rw [if_pos (by rfl)]
                      try simp only [perAt, List.getD_cons_zero, List.getD_cons_succ, Per.eq, Per.row, Per.of]
                      simp [execOp, Act.eval, hdd, relyUpon, go_sem, Grow.refl]
                    · rw [if_pos (by simp only [Region.wanted]; rw [yielded_of (d := 65) (b := true) rfl (by simp only [hdd])]; rfl)]
                      try simp only [perAt, List.getD_cons_zero, List.getD_cons_succ, Per.eq, Per.row, Per.of]
                      have hs0 := hfr 0 (by kernel_rfl)
                      simp only [Array.getD_eq_getD_getElem?] at hs0
                      simp [execOp, Act.eval, hdd, hs0, relyUpon, go_sem, Grow.refl]
                    · rw [if_pos (by simp only [Region.wanted]; rw [yielded_of (d := 65) (b := true) rfl (by simp only [hdd])]; rfl)]
                      try simp only [perAt, List.getD_cons_zero, List.getD_cons_succ, Per.eq, Per.row, Per.of]
                      have hs6 := hfr 6 (by kernel_rfl)
                      simp only [Array.getD_eq_getD_getElem?] at hs6
                      simp [execOp, Act.eval, hdd, hs6, relyUpon, go_sem, Grow.refl]
                    · rw [if_pos (by simp only [Region.wanted]; rw [yielded_of (d := 65) (b := true) rfl (by simp only [hdd])]; rfl)]
                      try simp only [perAt, List.getD_cons_zero, List.getD_cons_succ, Per.eq, Per.row, Per.of]
                      simp [execOp, Act.eval, hdd, relyUpon, go_sem, Grow.refl, hlt, Grow.refl]
                    · rw [if_pos (by simp only [Region.wanted]; rw [yielded_of (d := 65) (b := true) rfl (by simp only [hdd])]; rfl)]
                      try simp only [perAt, List.getD_cons_zero, List.getD_cons_succ, Per.eq, Per.row, Per.of]
                      have kc := hg.cells
                      simp [execOp, Act.eval, hdd, relyUpon, go_sem, Grow.refl, kc, f0, f1, f2, f3, f4, f5, f6, f7, f8, f9, f10, c0, c1, c2, c3, c4, c5, c6, c7, c8, c9, c10, hob, zb, hk0, hk1]
                    · rw [if_pos (by simp only [Region.wanted]; rw [yielded_of (d := 65) (b := true) rfl (by simp only [hdd])]; rfl)]
                      try simp only [perAt, List.getD_cons_zero, List.getD_cons_succ, Per.eq, Per.row, Per.of]
                      have hs3 := hfr 3 (by kernel_rfl)
                      simp only [Array.getD_eq_getD_getElem?] at hs3
                      have kc := hg.cells
                      simp [execOp, Act.eval, hdd, hs3, relyUpon, go_sem, Grow.refl, kc, f0, f1, f2, f3, f4, f5, f6, f7, f8, f9, f10, c0, c1, c2, c3, c4, c5, c6, c7, c8, c9, c10, hob, zb, hk0, hk1]
                    · rw [if_pos (by simp only [Region.wanted]; rw [yielded_of (d := 65) (b := true) rfl (by simp only [hdd])]; rfl)]
                      try simp only [perAt, List.getD_cons_zero, List.getD_cons_succ, Per.eq, Per.row, Per.of]
                      simp [execOp, Act.eval, hdd, relyUpon, go_sem]
                      refine (HX.out w').mono fun e w'' h => ?_
                      obtain ⟨h1, h2⟩ := h
                      have h3 : Grow w' w'' := by first | exact h2 | (rw [← h2]; exact Grow.refl _)
                      first | exact ⟨h3, h1⟩ | exact ⟨_, h1, h3, rfl⟩ | exact ⟨h1, h3⟩
                    · rw [if_pos (by simp only [Region.wanted]; rw [yielded_of (d := 65) (b := true) rfl (by simp only [hdd])]; rfl)]
                      try simp only [perAt, List.getD_cons_zero, List.getD_cons_succ, Per.eq, Per.row, Per.of]
                      simp [execOp, Act.eval, hdd, relyUpon, go_sem, Grow.refl]
                    · rw [if_pos (by rfl)]
                      try simp only [perAt, List.getD_cons_zero, List.getD_cons_succ, Per.eq, Per.row, Per.of]
                      simp [execOp, Act.eval, hdd, relyUpon, go_sem, Grow.refl]
                    · rw [if_pos (by rfl)]
                      try simp only [perAt, List.getD_cons_zero, List.getD_cons_succ, Per.eq, Per.row, Per.of]
                      simp [execOp, Act.eval, hdd, relyUpon, go_sem, Grow.refl]
                    · rw [if_pos (by simp only [Region.wanted]; rw [yielded_of (d := 74) (b := true) rfl (by simp only [hdd])]; rfl)]
                      try simp only [perAt, List.getD_cons_zero, List.getD_cons_succ, Per.eq, Per.row, Per.of]
                      have hs3 := hfr 3 (by kernel_rfl)
                      simp only [Array.getD_eq_getD_getElem?] at hs3
                      have kc := hg.cells
                      simp [execOp, Act.eval, hdd, hs3, relyUpon, go_sem, Grow.refl, kc, f0, f1, f2, f3, f4, f5, f6, f7, f8, f9, f10, c0, c1, c2, c3, c4, c5, c6, c7, c8, c9, c10, hob, zb, hk0, hk1]
                    · rw [if_pos (by simp only [Region.wanted]; rw [yielded_of (d := 74) (b := true) rfl (by simp only [hdd])]; rfl)]
                      try simp only [perAt, List.getD_cons_zero, List.getD_cons_succ, Per.eq, Per.row, Per.of]
                      have hs0 := hfr 0 (by kernel_rfl)
                      simp only [Array.getD_eq_getD_getElem?] at hs0
                      simp [execOp, Act.eval, hdd, hs0, relyUpon, go_sem, Grow.refl]
                    · rw [if_pos (by simp only [Region.wanted]; rw [yielded_of (d := 74) (b := true) rfl (by simp only [hdd])]; rfl)]
                      try simp only [perAt, List.getD_cons_zero, List.getD_cons_succ, Per.eq, Per.row, Per.of]
                      have hs6 := hfr 6 (by kernel_rfl)
                      simp only [Array.getD_eq_getD_getElem?] at hs6
                      simp [execOp, Act.eval, hdd, hs6, relyUpon, go_sem, Grow.refl]
                    · rw [if_pos (by simp only [Region.wanted]; rw [yielded_of (d := 74) (b := true) rfl (by simp only [hdd])]; rfl)]
                      try simp only [perAt, List.getD_cons_zero, List.getD_cons_succ, Per.eq, Per.row, Per.of]
                      simp [execOp, Act.eval, hdd, relyUpon, go_sem, Grow.refl, hlt, Grow.refl]
                    · rw [if_pos (by simp only [Region.wanted]; rw [yielded_of (d := 74) (b := true) rfl (by simp only [hdd])]; rfl)]
                      try simp only [perAt, List.getD_cons_zero, List.getD_cons_succ, Per.eq, Per.row, Per.of]
                      have kc := hg.cells
                      simp [execOp, Act.eval, hdd, relyUpon, go_sem, Grow.refl, kc, f0, f1, f2, f3, f4, f5, f6, f7, f8, f9, f10, c0, c1, c2, c3, c4, c5, c6, c7, c8, c9, c10, hob, zb, hk0, hk1]
                    · rw [if_pos (by simp only [Region.wanted]; rw [yielded_of (d := 74) (b := true) rfl (by simp only [hdd])]; rfl)]
                      try simp only [perAt, List.getD_cons_zero, List.getD_cons_succ, Per.eq, Per.row, Per.of]
                      simp [execOp, Act.eval, hdd, relyUpon, go_sem]
                      refine (HY.out w').mono fun e w'' h => ?_
                      obtain ⟨h1, h2⟩ := h
                      have h3 : Grow w' w'' := by first | exact h2 | (rw [← h2]; exact Grow.refl _)
                      first | exact ⟨h3, h1⟩ | exact ⟨_, h1, h3, rfl⟩ | exact ⟨h1, h3⟩
                    · rw [if_pos (by simp only [Region.wanted]; rw [yielded_of (d := 74) (b := true) rfl (by simp only [hdd])]; rfl)]
                      try simp only [perAt, List.getD_cons_zero, List.getD_cons_succ, Per.eq, Per.row, Per.of]
                      simp [execOp, Act.eval, hdd, relyUpon, go_sem, Grow.refl]
                    · rw [if_pos (by rfl)]
                      try simp only [perAt, List.getD_cons_zero, List.getD_cons_succ, Per.eq, Per.row, Per.of]
                      simp [execOp, Act.eval, hdd, relyUpon, go_sem, Grow.refl]
                  intro wz hgz
                  simp only [relyEnd, List.headD_cons, List.tail_cons, Per.eq, Per.row, Per.of]
                  rintro _ rfl _ rfl _ rfl _ rfl _ rfl _ rfl _ rfl _ rfl _ rfl _ rfl _ rfl _ rfl _ rfl _ rfl _ rfl _ rfl _ rfl _ rfl _ rfl _ rfl _ rfl _ rfl _ rfl _ rfl _ rfl _ rfl _ rfl _ rfl _ rfl _ rfl _ rfl _ rfl _ rfl _ rfl _ rfl _ rfl
                  go_simp
                  go_wp2_with fail
                  go_ret
                  exact ⟨by rw [HRR.out]; rfl, Grow.trans hgw hgz⟩
                · subst hh2
                  rw [hX] at hb1
                  have q1 : (id != bid) = true := by simpa using hh1
                  rw [hY] at hb2
                  have HZ2 := hid (HZN.out (by simp [busyB, q1, hX, hY]))
                  have HX := hid hb1
                  have HY := hid hb2
                  clear hb1 hb2 HZN HZY hX hY
                  have zb : b < wr.heap.size := World.block_lt_of_cell? wr _ c0
                  go_wp2_with fail
                  refine wp_rely [.eq (.slice (some ⟨b, off, none⟩) n cap), .eq (.int .i64 (j : Int)), .eq (.pointer (some ⟨b, off + j * 11, none⟩)), .eq (.pointer (some ⟨b, off + j * 11, none⟩)), .eq (.int .i64 id), .eq (.pointer (some ⟨w.heap.size, 0, none⟩)), .eq (.int .i64 bid), .eq (.bool true), .eq (.bool true), .eq (.slice (some ⟨b, off, none⟩) n cap), .eq (.int .i64 (j : Int)), .eq (.pointer (some ⟨b, off + j * 11, none⟩)), .eq (.pointer (some ⟨b, off + j * 11 + 1, none⟩)), .eq (.int .i64 proc), .eq (.pointer (some ⟨w.heap.size, 1, none⟩)), .eq (.int .i64 proc), .eq (.bool true), .eq (.bool true), .eq (.bool true), .eq (.slice (some ⟨b, off, none⟩) n cap), .eq (.int .i64 (j : Int)), .eq (.pointer (some ⟨b, off + j * 11, none⟩)), .eq (.agg #[.int .i64 id, .int .i64 proc, .int .i64 obj, .int .i64 kind, .int .i64 meth, .int .i64 arg, .int .i64 sec, .bool done, .int .i64 res, .int .i64 inv, .int .i64 ret]), .eq (.agg #[.int .i64 bid, .int .i64 proc, .int .i64 bobj, .int .i64 bkind, .int .i64 bmeth, .int .i64 barg, .int .i64 bsec, .bool bdone, .int .i64 bres, .int .i64 binv, .int .i64 bret]), .eq (.bool false), .eq (.bool true), .eq (.bool true), .eq (.bool true), .eq (.agg #[.int .i64 bid, .int .i64 proc, .int .i64 bobj, .int .i64 bkind, .int .i64 bmeth, .int .i64 barg, .int .i64 bsec, .bool bdone, .int .i64 bres, .int .i64 binv, .int .i64 bret]), .eq (.slice (some ⟨b, off, none⟩) n cap), .eq (.int .i64 (j : Int)), .eq (.pointer (some ⟨b, off + j * 11, none⟩)), .eq (.agg #[.int .i64 id, .int .i64 proc, .int .i64 obj, .int .i64 kind, .int .i64 meth, .int .i64 arg, .int .i64 sec, .bool done, .int .i64 res, .int .i64 inv, .int .i64 ret]), .eq (.bool true), .eq (.bool false), .eq (.bool false)] (by kernel_rfl) (by kernel_rfl) (by kernel_rfl) ?_ ?_
                  · simp only [relyGoals]
                    refine ⟨?_, ?_, ?_, ?_, ?_, ?_, ?_, ?_, ?_, ?_, ?_, ?_, ?_, ?_, ?_, ?_, ?_, ?_, ?_, ?_, ?_, ?_, ?_, ?_, ?_, ?_, ?_, ?_, ?_, ?_, ?_, ?_, ?_, ?_, ?_, ?_, trivial⟩
                    all_goals intro t w' hsz hg hdd hfr
                    all_goals simp only [depsDid, Did, perAt, List.getElem?_cons_zero, List.getElem?_cons_succ, List.getD_cons_zero, List.getD_cons_succ, Per.eq, Per.row, Per.of, and_true, Array.getD_eq_getD_getElem?] at hdd
                    · rw [if_pos (by rfl)]
                      try simp only [perAt, List.getD_cons_zero, List.getD_cons_succ, Per.eq, Per.row, Per.of]
                      have hs0 := hfr 0 (by kernel_rfl)
                      simp only [Array.getD_eq_getD_getElem?] at hs0
                      simp [execOp, Act.eval, hdd, hs0, relyUpon, go_sem, Grow.refl]
                    · rw [if_pos (by rfl)]
                      try simp only [perAt, List.getD_cons_zero, List.getD_cons_succ, Per.eq, Per.row, Per.of]
                      have hs6 := hfr 6 (by kernel_rfl)
                      simp only [Array.getD_eq_getD_getElem?] at hs6
                      simp [execOp, Act.eval, hdd, hs6, relyUpon, go_sem, Grow.refl]
                    · rw [if_pos (by rfl)]
                      try simp only [perAt, List.getD_cons_zero, List.getD_cons_succ, Per.eq, Per.row, Per.of]
                      simp [execOp, Act.eval, hdd, relyUpon, go_sem, Grow.refl, hlt, Grow.refl]
                    · rw [if_pos (by rfl)]
                      try simp only [perAt, List.getD_cons_zero, List.getD_cons_succ, Per.eq, Per.row, Per.of]
                      simp [execOp, Act.eval, hdd, relyUpon, go_sem, Grow.refl]
                    · rw [if_pos (by rfl)]
                      try simp only [perAt, List.getD_cons_zero, List.getD_cons_succ, Per.eq, Per.row, Per.of]
                      have kc := hg.cells
                      simp [execOp, Act.eval, hdd, relyUpon, go_sem, Grow.refl, kc, f0, f1, f2, f3, f4, f5, f6, f7, f8, f9, f10, c0, c1, c2, c3, c4, c5, c6, c7, c8, c9, c10, hob, zb, hk0, hk1]
                    · rw [if_pos (by rfl)]
                      try simp only [perAt, List.getD_cons_zero, List.getD_cons_succ, Per.eq, Per.row, Per.of]
                      have hs3 := hfr 3 (by kernel_rfl)
                      simp only [Array.getD_eq_getD_getElem?] at hs3
                      simp [execOp, Act.eval, hdd, hs3, relyUpon, go_sem, Grow.refl]
                    · rw [if_pos (by rfl)]
                      try simp only [perAt, List.getD_cons_zero, List.getD_cons_succ, Per.eq, Per.row, Per.of]
                      have kc := hg.cells
                      simp [execOp, Act.eval, hdd, relyUpon, go_sem, Grow.refl, kc, f0, f1, f2, f3, f4, f5, f6, f7, f8, f9, f10, c0, c1, c2, c3, c4, c5, c6, c7, c8, c9, c10, hob, zb, hk0, hk1]
                    · rw [if_pos (by rfl)]
                      try simp only [perAt, List.getD_cons_zero, List.getD_cons_succ, Per.eq, Per.row, Per.of]
                      simp [execOp, Act.eval, hdd, relyUpon, go_sem, Grow.refl, hh1, Grow.refl]
                    · rw [if_pos (by rfl)]
                      try simp only [perAt, List.getD_cons_zero, List.getD_cons_succ, Per.eq, Per.row, Per.of]
                      simp [execOp, Act.eval, hdd, relyUpon, go_sem, Grow.refl]
                    · rw [if_pos (by simp only [Region.wanted]; rw [yielded_of (d := 55) (b := true) rfl (by simp only [hdd])]; rfl)]
                      try simp only [perAt, List.getD_cons_zero, List.getD_cons_succ, Per.eq, Per.row, Per.of]
                      have hs0 := hfr 0 (by kernel_rfl)
                      simp only [Array.getD_eq_getD_getElem?] at hs0
                      simp [execOp, Act.eval, hdd, hs0, relyUpon, go_sem, Grow.refl]
                    · rw [if_pos (by simp only [Region.wanted]; rw [yielded_of (d := 55) (b := true) rfl (by simp only [hdd])]; rfl)]
                      try simp only [perAt, List.getD_cons_zero, List.getD_cons_succ, Per.eq, Per.row, Per.of]
                      have hs6 := hfr 6 (by kernel_rfl)
                      simp only [Array.getD_eq_getD_getElem?] at hs6
                      simp [execOp, Act.eval, hdd, hs6, relyUpon, go_sem, Grow.refl]
                    · rw [if_pos (by simp only [Region.wanted]; rw [yielded_of (d := 55) (b := true) rfl (by simp only [hdd])]; rfl)]
                      try simp only [perAt, List.getD_cons_zero, List.getD_cons_succ, Per.eq, Per.row, Per.of]
                      simp [execOp, Act.eval, hdd, relyUpon, go_sem, Grow.refl, hlt, Grow.refl]
                    · rw [if_pos (by simp only [Region.wanted]; rw [yielded_of (d := 55) (b := true) rfl (by simp only [hdd])]; rfl)]
                      try simp only [perAt, List.getD_cons_zero, List.getD_cons_succ, Per.eq, Per.row, Per.of]
                      simp [execOp, Act.eval, hdd, relyUpon, go_sem, Grow.refl]
                    · rw [if_pos (by simp only [Region.wanted]; rw [yielded_of (d := 55) (b := true) rfl (by simp only [hdd])]; rfl)]
                      try simp only [perAt, List.getD_cons_zero, List.getD_cons_succ, Per.eq, Per.row, Per.of]
                      have kc := hg.cells
                      simp [execOp, Act.eval, hdd, relyUpon, go_sem, Grow.refl, kc, f0, f1, f2, f3, f4, f5, f6, f7, f8, f9, f10, c0, c1, c2, c3, c4, c5, c6, c7, c8, c9, c10, hob, zb, hk0, hk1]
                    · rw [if_pos (by simp only [Region.wanted]; rw [yielded_of (d := 55) (b := true) rfl (by simp only [hdd])]; rfl)]
                      try simp only [perAt, List.getD_cons_zero, List.getD_cons_succ, Per.eq, Per.row, Per.of]
                      have hs3 := hfr 3 (by kernel_rfl)
                      simp only [Array.getD_eq_getD_getElem?] at hs3
                      simp [execOp, Act.eval, hdd, hs3, relyUpon, go_sem, Grow.refl]
                    · rw [if_pos (by simp only [Region.wanted]; rw [yielded_of (d := 55) (b := true) rfl (by simp only [hdd])]; rfl)]
                      try simp only [perAt, List.getD_cons_zero, List.getD_cons_succ, Per.eq, Per.row, Per.of]
                      have kc := hg.cells
                      simp [execOp, Act.eval, hdd, relyUpon, go_sem, Grow.refl, kc, f0, f1, f2, f3, f4, f5, f6, f7, f8, f9, f10, c0, c1, c2, c3, c4, c5, c6, c7, c8, c9, c10, hob, zb, hk0, hk1]
                    · rw [if_pos (by simp only [Region.wanted]; rw [yielded_of (d := 55) (b := true) rfl (by simp only [hdd])]; rfl)]
                      try simp only [perAt, List.getD_cons_zero, List.getD_cons_succ, Per.eq, Per.row, Per.of]
                      simp [execOp, Act.eval, hdd, relyUpon, go_sem, Grow.refl]
                    · rw [if_pos (by rfl)]
                      try simp only [perAt, List.getD_cons_zero, List.getD_cons_succ, Per.eq, Per.row, Per.of]
                      simp [execOp, Act.eval, hdd, relyUpon, go_sem, Grow.refl]
                    · rw [if_pos (by rfl)]
                      try simp only [perAt, List.getD_cons_zero, List.getD_cons_succ, Per.eq, Per.row, Per.of]
                      simp [execOp, Act.eval, hdd, relyUpon, go_sem, Grow.refl]
                    · rw [if_pos (by simp only [Region.wanted]; rw [yielded_of (d := 65) (b := true) rfl (by simp only [hdd])]; rfl)]
                      try simp only [perAt, List.getD_cons_zero, List.getD_cons_succ, Per.eq, Per.row, Per.of]
                      have hs0 := hfr 0 (by kernel_rfl)
                      simp only [Array.getD_eq_getD_getElem?] at hs0
                      simp [execOp, Act.eval, hdd, hs0, relyUpon, go_sem, Grow.refl]
                    · rw [if_pos (by simp only [Region.wanted]; rw [yielded_of (d := 65) (b := true) rfl (by simp only [hdd])]; rfl)]
                      try simp only [perAt, List.getD_cons_zero, List.getD_cons_succ, Per.eq, Per.row, Per.of]
                      have hs6 := hfr 6 (by kernel_rfl)
                      simp only [Array.getD_eq_getD_getElem?] at hs6
                      simp [execOp, Act.eval, hdd, hs6, relyUpon, go_sem, Grow.refl]
                    · rw [if_pos (by simp only [Region.wanted]; rw [yielded_of (d := 65) (b := true) rfl (by simp only [hdd])]; rfl)]
                      try simp only [perAt, List.getD_cons_zero, List.getD_cons_succ, Per.eq, Per.row, Per.of]
                      simp [execOp, Act.eval, hdd, relyUpon, go_sem, Grow.refl, hlt, Grow.refl]
                    · rw [if_pos (by simp only [Region.wanted]; rw [yielded_of (d := 65) (b := true) rfl (by simp only [hdd])]; rfl)]
                      try simp only [perAt, List.getD_cons_zero, List.getD_cons_succ, Per.eq, Per.row, Per.of]
                      have kc := hg.cells
                      simp [execOp, Act.eval, hdd, relyUpon, go_sem, Grow.refl, kc, f0, f1, f2, f3, f4, f5, f6, f7, f8, f9, f10, c0, c1, c2, c3, c4, c5, c6, c7, c8, c9, c10, hob, zb, hk0, hk1]
                    · rw [if_pos (by simp only [Region.wanted]; rw [yielded_of (d := 65) (b := true) rfl (by simp only [hdd])]; rfl)]
                      try simp only [perAt, List.getD_cons_zero, List.getD_cons_succ, Per.eq, Per.row, Per.of]
                      have hs3 := hfr 3 (by kernel_rfl)
                      simp only [Array.getD_eq_getD_getElem?] at hs3
                      have kc := hg.cells
                      simp [execOp, Act.eval, hdd, hs3, relyUpon, go_sem, Grow.refl, kc, f0, f1, f2, f3, f4, f5, f6, f7, f8, f9, f10, c0, c1, c2, c3, c4, c5, c6, c7, c8, c9, c10, hob, zb, hk0, hk1]
                    · rw [if_pos (by simp only [Region.wanted]; rw [yielded_of (d := 65) (b := true) rfl (by simp only [hdd])]; rfl)]
                      try simp only [perAt, List.getD_cons_zero, List.getD_cons_succ, Per.eq, Per.row, Per.of]
                      simp [execOp, Act.eval, hdd, relyUpon, go_sem]
                      refine (HX.out w').mono fun e w'' h => ?_
                      obtain ⟨h1, h2⟩ := h
                      have h3 : Grow w' w'' := by first | exact h2 | (rw [← h2]; exact Grow.refl _)
                      first | exact ⟨h3, h1⟩ | exact ⟨_, h1, h3, rfl⟩ | exact ⟨h1, h3⟩
                    · rw [if_pos (by simp only [Region.wanted]; rw [yielded_of (d := 65) (b := true) rfl (by simp only [hdd])]; rfl)]
                      try simp only [perAt, List.getD_cons_zero, List.getD_cons_succ, Per.eq, Per.row, Per.of]
                      simp [execOp, Act.eval, hdd, relyUpon, go_sem, Grow.refl]
                    · rw [if_pos (by rfl)]
                      try simp only [perAt, List.getD_cons_zero, List.getD_cons_succ, Per.eq, Per.row, Per.of]
                      simp [execOp, Act.eval, hdd, relyUpon, go_sem, Grow.refl]
                    · rw [if_pos (by rfl)]
                      try simp only [perAt, List.getD_cons_zero, List.getD_cons_succ, Per.eq, Per.row, Per.of]
                      simp [execOp, Act.eval, hdd, relyUpon, go_sem, Grow.refl]
                    · rw [if_pos (by simp only [Region.wanted]; rw [yielded_of (d := 74) (b := true) rfl (by simp only [hdd])]; rfl)]
                      try simp only [perAt, List.getD_cons_zero, List.getD_cons_succ, Per.eq, Per.row, Per.of]
                      have hs3 := hfr 3 (by kernel_rfl)
                      simp only [Array.getD_eq_getD_getElem?] at hs3
                      have kc := hg.cells
                      simp [execOp, Act.eval, hdd, hs3, relyUpon, go_sem, Grow.refl, kc, f0, f1, f2, f3, f4, f5, f6, f7, f8, f9, f10, c0, c1, c2, c3, c4, c5, c6, c7, c8, c9, c10, hob, zb, hk0, hk1]
                    · rw [if_pos (by simp only [Region.wanted]; rw [yielded_of (d := 74) (b := true) rfl (by simp only [hdd])]; rfl)]
                      try simp only [perAt, List.getD_cons_zero, List.getD_cons_succ, Per.eq, Per.row, Per.of]
                      have hs0 := hfr 0 (by kernel_rfl)
                      simp only [Array.getD_eq_getD_getElem?] at hs0
                      simp [execOp, Act.eval, hdd, hs0, relyUpon, go_sem, Grow.refl]
                    · rw [if_pos (by simp only [Region.wanted]; rw [yielded_of (d := 74) (b := true) rfl (by simp only [hdd])]; rfl)]
                      try simp only [perAt, List.getD_cons_zero, List.getD_cons_succ, Per.eq, Per.row, Per.of]
                      have hs6 := hfr 6 (by kernel_rfl)
                      simp only [Array.getD_eq_getD_getElem?] at hs6
                      simp [execOp, Act.eval, hdd, hs6, relyUpon, go_sem, Grow.refl]
                    · rw [if_pos (by simp only [Region.wanted]; rw [yielded_of (d := 74) (b := true) rfl (by simp only [hdd])]; rfl)]
                      try simp only [perAt, List.getD_cons_zero, List.getD_cons_succ, Per.eq, Per.row, Per.of]
                      simp [execOp, Act.eval, hdd, relyUpon, go_sem, Grow.refl, hlt, Grow.refl]
                    · rw [if_pos (by simp only [Region.wanted]; rw [yielded_of (d := 74) (b := true) rfl (by simp only [hdd])]; rfl)]
                      try simp only [perAt, List.getD_cons_zero, List.getD_cons_succ, Per.eq, Per.row, Per.of]
                      have kc := hg.cells
                      simp [execOp, Act.eval, hdd, relyUpon, go_sem, Grow.refl, kc, f0, f1, f2, f3, f4, f5, f6, f7, f8, f9, f10, c0, c1, c2, c3, c4, c5, c6, c7, c8, c9, c10, hob, zb, hk0, hk1]
                    · rw [if_pos (by simp only [Region.wanted]; rw [yielded_of (d := 74) (b := true) rfl (by simp only [hdd])]; rfl)]
                      try simp only [perAt, List.getD_cons_zero, List.getD_cons_succ, Per.eq, Per.row, Per.of]
                      simp [execOp, Act.eval, hdd, relyUpon, go_sem]
                      refine (HY.out w').mono fun e w'' h => ?_
                      obtain ⟨h1, h2⟩ := h
                      have h3 : Grow w' w'' := by first | exact h2 | (rw [← h2]; exact Grow.refl _)
                      first | exact ⟨h3, h1⟩ | exact ⟨_, h1, h3, rfl⟩ | exact ⟨h1, h3⟩
                    · rw [if_pos (by simp only [Region.wanted]; rw [yielded_of (d := 74) (b := true) rfl (by simp only [hdd])]; rfl)]
                      try simp only [perAt, List.getD_cons_zero, List.getD_cons_succ, Per.eq, Per.row, Per.of]
                      simp [execOp, Act.eval, hdd, relyUpon, go_sem, Grow.refl]
                    · rw [if_pos (by rfl)]
                      try simp only [perAt, List.getD_cons_zero, List.getD_cons_succ, Per.eq, Per.row, Per.of]
                      simp [execOp, Act.eval, hdd, relyUpon, go_sem, Grow.refl]
                  intro wz hgz
                  simp only [relyEnd, List.headD_cons, List.tail_cons, Per.eq, Per.row, Per.of]
                  rintro _ rfl _ rfl _ rfl _ rfl _ rfl _ rfl _ rfl _ rfl _ rfl _ rfl _ rfl _ rfl _ rfl _ rfl _ rfl _ rfl _ rfl _ rfl _ rfl _ rfl _ rfl _ rfl _ rfl _ rfl _ rfl _ rfl _ rfl _ rfl _ rfl _ rfl _ rfl _ rfl _ rfl _ rfl _ rfl _ rfl
                  go_simp
                  go_wp2_with fail
                  go_roundw
                  case rel => exact ⟨j + 1, by omega, by go_num, HZ2, Grow.trans hg hgz⟩
                  case measure => (simp [intOf]; try omega)
              · subst hh2
                rw [hX] at hb1
                have q1 : (id != bid) = true := by simpa using hh1
                have HZ2 := hid (HZN.out (by simp [busyB, q1, hX]))
                have HX := hid hb1
                have HY := hid hb2
                clear hb1 hb2 HZN HZY hX 
                have zb : b < wr.heap.size := World.block_lt_of_cell? wr _ c0
                go_wp2_with fail
                refine wp_rely [.eq (.slice (some ⟨b, off, none⟩) n cap), .eq (.int .i64 (j : Int)), .eq (.pointer (some ⟨b, off + j * 11, none⟩)), .eq (.pointer (some ⟨b, off + j * 11, none⟩)), .eq (.int .i64 id), .eq (.pointer (some ⟨w.heap.size, 0, none⟩)), .eq (.int .i64 bid), .eq (.bool true), .eq (.bool true), .eq (.slice (some ⟨b, off, none⟩) n cap), .eq (.int .i64 (j : Int)), .eq (.pointer (some ⟨b, off + j * 11, none⟩)), .eq (.pointer (some ⟨b, off + j * 11 + 1, none⟩)), .eq (.int .i64 proc), .eq (.pointer (some ⟨w.heap.size, 1, none⟩)), .eq (.int .i64 proc), .eq (.bool true), .eq (.bool true), .eq (.bool true), .eq (.slice (some ⟨b, off, none⟩) n cap), .eq (.int .i64 (j : Int)), .eq (.pointer (some ⟨b, off + j * 11, none⟩)), .eq (.agg #[.int .i64 id, .int .i64 proc, .int .i64 obj, .int .i64 kind, .int .i64 meth, .int .i64 arg, .int .i64 sec, .bool done, .int .i64 res, .int .i64 inv, .int .i64 ret]), .eq (.agg #[.int .i64 bid, .int .i64 proc, .int .i64 bobj, .int .i64 bkind, .int .i64 bmeth, .int .i64 barg, .int .i64 bsec, .bool bdone, .int .i64 bres, .int .i64 binv, .int .i64 bret]), .eq (.bool true), .eq (.bool false), .eq (.bool false), .eq (.bool false), .eq undef, .eq undef, .eq undef, .eq undef, .eq undef, .eq undef, .eq undef, .eq (.bool false)] (by kernel_rfl) (by kernel_rfl) (by kernel_rfl) ?_ ?_
                · simp only [relyGoals]
                  refine ⟨?_, ?_, ?_, ?_, ?_, ?_, ?_, ?_, ?_, ?_, ?_, ?_, ?_, ?_, ?_, ?_, ?_, ?_, ?_, ?_, ?_, ?_, ?_, ?_, ?_, ?_, ?_, ?_, ?_, ?_, ?_, ?_, ?_, ?_, ?_, ?_, trivial⟩
                  all_goals intro t w' hsz hg hdd hfr
                  all_goals simp only [depsDid, Did, perAt, List.getElem?_cons_zero, List.getElem?_cons_succ, List.getD_cons_zero, List.getD_cons_succ, Per.eq, Per.row, Per.of, and_true, Array.getD_eq_getD_getElem?] at hdd
                  · rw [if_pos (by rfl)]
                    try simp only [perAt, List.getD_cons_zero, List.getD_cons_succ, Per.eq, Per.row, Per.of]
                    have hs0 := hfr 0 (by kernel_rfl)
                    simp only [Array.getD_eq_getD_getElem?] at hs0
                    simp [execOp, Act.eval, hdd, hs0, relyUpon, go_sem, Grow.refl]
                  · rw [if_pos (by rfl)]
                    try simp only [perAt, List.getD_cons_zero, List.getD_cons_succ, Per.eq, Per.row, Per.of]
                    have hs6 := hfr 6 (by kernel_rfl)
                    simp only [Array.getD_eq_getD_getElem?] at hs6
                    simp [execOp, Act.eval, hdd, hs6, relyUpon, go_sem, Grow.refl]
                  · rw [if_pos (by rfl)]
                    try simp only [perAt, List.getD_cons_zero, List.getD_cons_succ, Per.eq, Per.row, Per.of]
                    simp [execOp, Act.eval, hdd, relyUpon, go_sem, Grow.refl, hlt, Grow.refl]
                  · rw [if_pos (by rfl)]
                    try simp only [perAt, List.getD_cons_zero, List.getD_cons_succ, Per.eq, Per.row, Per.of]
                    simp [execOp, Act.eval, hdd, relyUpon, go_sem, Grow.refl]
                  · rw [if_pos (by rfl)]
                    try simp only [perAt, List.getD_cons_zero, List.getD_cons_succ, Per.eq, Per.row, Per.of]
                    have kc := hg.cells
                    simp [execOp, Act.eval, hdd, relyUpon, go_sem, Grow.refl, kc, f0, f1, f2, f3, f4, f5, f6, f7, f8, f9, f10, c0, c1, c2, c3, c4, c5, c6, c7, c8, c9, c10, hob, zb, hk0, hk1]
                  · rw [if_pos (by rfl)]
                    try simp only [perAt, List.getD_cons_zero, List.getD_cons_succ, Per.eq, Per.row, Per.of]
                    have hs3 := hfr 3 (by kernel_rfl)
                    simp only [Array.getD_eq_getD_getElem?] at hs3
                    simp [execOp, Act.eval, hdd, hs3, relyUpon, go_sem, Grow.refl]
                  · rw [if_pos (by rfl)]
                    try simp only [perAt, List.getD_cons_zero, List.getD_cons_succ, Per.eq, Per.row, Per.of]
                    have kc := hg.cells
                    simp [execOp, Act.eval, hdd, relyUpon, go_sem, Grow.refl, kc, f0, f1, f2, f3, f4, f5, f6, f7, f8, f9, f10, c0, c1, c2, c3, c4, c5, c6, c7, c8, c9, c10, hob, zb, hk0, hk1]
                  · rw [if_pos (by rfl)]
                    try simp only [perAt, List.getD_cons_zero, List.getD_cons_succ, Per.eq, Per.row, Per.of]
                    simp [execOp, Act.eval, hdd, relyUpon, go_sem, Grow.refl, hh1, Grow.refl]
                  · rw [if_pos (by rfl)]
                    try simp only [perAt, List.getD_cons_zero, List.getD_cons_succ, Per.eq, Per.row, Per.of]
                    simp [execOp, Act.eval, hdd, relyUpon, go_sem, Grow.refl]
                  · rw [if_pos (by simp only [Region.wanted]; rw [yielded_of (d := 55) (b := true) rfl (by simp only [hdd])]; rfl)]
                    try simp only [perAt, List.getD_cons_zero, List.getD_cons_succ, Per.eq, Per.row, Per.of]
                    have hs0 := hfr 0 (by kernel_rfl)
                    simp only [Array.getD_eq_getD_getElem?] at hs0
                    simp [execOp, Act.eval, hdd, hs0, relyUpon, go_sem, Grow.refl]
                  · rw [if_pos (by simp only [Region.wanted]; rw [yielded_of (d := 55) (b := true) rfl (by simp only [hdd])]; rfl)]
                    try simp only [perAt, List.getD_cons_zero, List.getD_cons_succ, Per.eq, Per.row, Per.of]
                    have hs6 := hfr 6 (by kernel_rfl)
                    simp only [Array.getD_eq_getD_getElem?] at hs6
                    simp [execOp, Act.eval, hdd, hs6, relyUpon, go_sem, Grow.refl]
                  · rw [if_pos (by simp only [Region.wanted]; rw [yielded_of (d := 55) (b := true) rfl (by simp only [hdd])]; rfl)]
                    try simp only [perAt, List.getD_cons_zero, List.getD_cons_succ, Per.eq, Per.row, Per.of]
                    simp [execOp, Act.eval, hdd, relyUpon, go_sem, Grow.refl, hlt, Grow.refl]
                  · rw [if_pos (by simp only [Region.wanted]; rw [yielded_of (d := 55) (b := true) rfl (by simp only [hdd])]; rfl)]
                    try simp only [perAt, List.getD_cons_zero, List.getD_cons_succ, Per.eq, Per.row, Per.of]
                    simp [execOp, Act.eval, hdd, relyUpon, go_sem, Grow.refl]
                  · rw [if_pos (by simp only [Region.wanted]; rw [yielded_of (d := 55) (b := true) rfl (by simp only [hdd])]; rfl)]
                    try simp only [perAt, List.getD_cons_zero, List.getD_cons_succ, Per.eq, Per.row, Per.of]
                    have kc := hg.cells
                    simp [execOp, Act.eval, hdd, relyUpon, go_sem, Grow.refl, kc, f0, f1, f2, f3, f4, f5, f6, f7, f8, f9, f10, c0, c1, c2, c3, c4, c5, c6, c7, c8, c9, c10, hob, zb, hk0, hk1]
                  · rw [if_pos (by simp only [Region.wanted]; rw [yielded_of (d := 55) (b := true) rfl (by simp only [hdd])]; rfl)]
                    try simp only [perAt, List.getD_cons_zero, List.getD_cons_succ, Per.eq, Per.row, Per.of]
                    have hs3 := hfr 3 (by kernel_rfl)
                    simp only [Array.getD_eq_getD_getElem?] at hs3
                    simp [execOp, Act.eval, hdd, hs3, relyUpon, go_sem, Grow.refl]
                  · rw [if_pos (by simp only [Region.wanted]; rw [yielded_of (d := 55) (b := true) rfl (by simp only [hdd])]; rfl)]
                    try simp only [perAt, List.getD_cons_zero, List.getD_cons_succ, Per.eq, Per.row, Per.of]
                    have kc := hg.cells
                    simp [execOp, Act.eval, hdd, relyUpon, go_sem, Grow.refl, kc, f0, f1, f2, f3, f4, f5, f6, f7, f8, f9, f10, c0, c1, c2, c3, c4, c5, c6, c7, c8, c9, c10, hob, zb, hk0, hk1]
                  · rw [if_pos (by simp only [Region.wanted]; rw [yielded_of (d := 55) (b := true) rfl (by simp only [hdd])]; rfl)]
                    try simp only [perAt, List.getD_cons_zero, List.getD_cons_succ, Per.eq, Per.row, Per.of]
                    simp [execOp, Act.eval, hdd, relyUpon, go_sem, Grow.refl]
                  · rw [if_pos (by rfl)]
                    try simp only [perAt, List.getD_cons_zero, List.getD_cons_succ, Per.eq, Per.row, Per.of]
                    simp [execOp, Act.eval, hdd, relyUpon, go_sem, Grow.refl]
                  · rw [if_pos (by rfl)]
                    try simp only [perAt, List.getD_cons_zero, List.getD_cons_succ, Per.eq, Per.row, Per.of]
                    simp [execOp, Act.eval, hdd, relyUpon, go_sem, Grow.refl]
                  · rw [if_pos (by simp only [Region.wanted]; rw [yielded_of (d := 65) (b := true) rfl (by simp only [hdd])]; rfl)]
                    try simp only [perAt, List.getD_cons_zero, List.getD_cons_succ, Per.eq, Per.row, Per.of]
                    have hs0 := hfr 0 (by kernel_rfl)
                    simp only [Array.getD_eq_getD_getElem?] at hs0
                    simp [execOp, Act.eval, hdd, hs0, relyUpon, go_sem, Grow.refl]
                  · rw [if_pos (by simp only [Region.wanted]; rw [yielded_of (d := 65) (b := true) rfl (by simp only [hdd])]; rfl)]
                    try simp only [perAt, List.getD_cons_zero, List.getD_cons_succ, Per.eq, Per.row, Per.of]
                    have hs6 := hfr 6 (by kernel_rfl)
                    simp only [Array.getD_eq_getD_getElem?] at hs6
                    simp [execOp, Act.eval, hdd, hs6, relyUpon, go_sem, Grow.refl]
                  · rw [if_pos (by simp only [Region.wanted]; rw [yielded_of (d := 65) (b := true) rfl (by simp only [hdd])]; rfl)]
                    try simp only [perAt, List.getD_cons_zero, List.getD_cons_succ, Per.eq, Per.row, Per.of]
                    simp [execOp, Act.eval, hdd, relyUpon, go_sem, Grow.refl, hlt, Grow.refl]
                  · rw [if_pos (by simp only [Region.wanted]; rw [yielded_of (d := 65) (b := true) rfl (by simp only [hdd])]; rfl)]
                    try simp only [perAt, List.getD_cons_zero, List.getD_cons_succ, Per.eq, Per.row, Per.of]
                    have kc := hg.cells
                    simp [execOp, Act.eval, hdd, relyUpon, go_sem, Grow.refl, kc, f0, f1, f2, f3, f4, f5, f6, f7, f8, f9, f10, c0, c1, c2, c3, c4, c5, c6, c7, c8, c9, c10, hob, zb, hk0, hk1]
                  · rw [if_pos (by simp only [Region.wanted]; rw [yielded_of (d := 65) (b := true) rfl (by simp only [hdd])]; rfl)]
                    try simp only [perAt, List.getD_cons_zero, List.getD_cons_succ, Per.eq, Per.row, Per.of]
                    have hs3 := hfr 3 (by kernel_rfl)
                    simp only [Array.getD_eq_getD_getElem?] at hs3
                    have kc := hg.cells
                    simp [execOp, Act.eval, hdd, hs3, relyUpon, go_sem, Grow.refl, kc, f0, f1, f2, f3, f4, f5, f6, f7, f8, f9, f10, c0, c1, c2, c3, c4, c5, c6, c7, c8, c9, c10, hob, zb, hk0, hk1]
                  · rw [if_pos (by simp only [Region.wanted]; rw [yielded_of (d := 65) (b := true) rfl (by simp only [hdd])]; rfl)]
                    try simp only [perAt, List.getD_cons_zero, List.getD_cons_succ, Per.eq, Per.row, Per.of]
                    simp [execOp, Act.eval, hdd, relyUpon, go_sem]
                    refine (HX.out w').mono fun e w'' h => ?_
                    obtain ⟨h1, h2⟩ := h
                    have h3 : Grow w' w'' := by first | exact h2 | (rw [← h2]; exact Grow.refl _)
                    first | exact ⟨h3, h1⟩ | exact ⟨_, h1, h3, rfl⟩ | exact ⟨h1, h3⟩
                  · rw [if_pos (by simp only [Region.wanted]; rw [yielded_of (d := 65) (b := true) rfl (by simp only [hdd])]; rfl)]
                    try simp only [perAt, List.getD_cons_zero, List.getD_cons_succ, Per.eq, Per.row, Per.of]
                    simp [execOp, Act.eval, hdd, relyUpon, go_sem, Grow.refl]
                  · rw [if_pos (by rfl)]
                    try simp only [perAt, List.getD_cons_zero, List.getD_cons_succ, Per.eq, Per.row, Per.of]
                    simp [execOp, Act.eval, hdd, relyUpon, go_sem, Grow.refl]
                  · rw [if_pos (by rfl)]
                    try simp only [perAt, List.getD_cons_zero, List.getD_cons_succ, Per.eq, Per.row, Per.of]
                    simp [execOp, Act.eval, hdd, relyUpon, go_sem, Grow.refl]
                  · rw [if_neg (by simp only [Region.wanted]; rw [yielded_of (d := 74) (b := false) rfl (by simp only [hdd])]; decide)]
                    all_goals first | rfl | simp [perAt, Per.eq, Per.of, Per.row]
                  · rw [if_neg (by simp only [Region.wanted]; rw [yielded_of (d := 74) (b := false) rfl (by simp only [hdd])]; decide)]
                    all_goals first | rfl | simp [perAt, Per.eq, Per.of, Per.row]
                  · rw [if_neg (by simp only [Region.wanted]; rw [yielded_of (d := 74) (b := false) rfl (by simp only [hdd])]; decide)]
                    all_goals first | rfl | simp [perAt, Per.eq, Per.of, Per.row]
                  · rw [if_neg (by simp only [Region.wanted]; rw [yielded_of (d := 74) (b := false) rfl (by simp only [hdd])]; decide)]
                    all_goals first | rfl | simp [perAt, Per.eq, Per.of, Per.row]
                  · rw [if_neg (by simp only [Region.wanted]; rw [yielded_of (d := 74) (b := false) rfl (by simp only [hdd])]; decide)]
                    all_goals first | rfl | simp [perAt, Per.eq, Per.of, Per.row]
                  · rw [if_neg (by simp only [Region.wanted]; rw [yielded_of (d := 74) (b := false) rfl (by simp only [hdd])]; decide)]
                    all_goals first | rfl | simp [perAt, Per.eq, Per.of, Per.row]
                  · rw [if_neg (by simp only [Region.wanted]; rw [yielded_of (d := 74) (b := false) rfl (by simp only [hdd])]; decide)]
                    all_goals first | rfl | simp [perAt, Per.eq, Per.of, Per.row]
                  · rw [if_pos (by rfl)]
                    try simp only [perAt, List.getD_cons_zero, List.getD_cons_succ, Per.eq, Per.row, Per.of]
                    simp [execOp, Act.eval, hdd, relyUpon, go_sem, Grow.refl]
                intro wz hgz
                simp only [relyEnd, List.headD_cons, List.tail_cons, Per.eq, Per.row, Per.of]
                rintro _ rfl _ rfl _ rfl _ rfl _ rfl _ rfl _ rfl _ rfl _ rfl _ rfl _ rfl _ rfl _ rfl _ rfl _ rfl _ rfl _ rfl _ rfl _ rfl _ rfl _ rfl _ rfl _ rfl _ rfl _ rfl _ rfl _ rfl _ rfl _ rfl _ rfl _ rfl _ rfl _ rfl _ rfl _ rfl _ rfl
                go_simp
                go_wp2_with fail
                go_roundw
                case rel => exact ⟨j + 1, by omega, by go_num, HZ2, Grow.trans hg hgz⟩
                case measure => (simp [intOf]; try omega)
            · have q1 : (id != bid) = true := by simpa using hh1
              have q2 : (proc == bproc) = false := by simpa using hh2
              have HZ2 := hid (HZN.out (by simp [busyB, q1, q2]))
              clear hh1 hh2 HZN HZY hb1 hb2
              go_wp2_with fail
              go_quiet (fail)
              go_wp2_with fail
              go_roundw
              case rel => exact ⟨j + 1, by omega, by go_num, HZ2, Grow.drewNX hg _⟩
              case measure => (simp [intOf]; try omega)
        · obtain rfl : j = n := by omega
          have HRR := hid (HK3.out HFK.out (HF2.out HZ.out))
          go_wp2_with fail
          go_ret
          exact ⟨by rw [HRR.out]; rfl, Grow.trans HG1.out hg⟩
end Go.Proofs.Ytlhgdbangnohjaa
namespace Go.Proofs.Ytlhgdbangnohjaa
open Go.RowKit
set_option linter.unusedVariables false
set_option linter.unusedSimpArgs false
/-- The table: kind, method, arguments, answers. -/
def tabL : List (Int × Int × Int × Int) := [(1, 1, 0, 2), (1, 2, 1, 0), (1, 3, 2, 1), (2, 1, 0, 3), (2, 4, 0, 0), (2, 5, 0, 0), (3, 6, 1, 0), (3, 7, 0, 4), (4, 8, 1, 0), (4, 9, 0, 4), (5, 10, 1, 1), (5, 11, 1, 1), (5, 12, 1, 1), (6, 13, 0, 0), (6, 14, 0, 0)]
/-- Its cells. -/
def tabC : Array Value := (tabL.flatMap fun r => [.int .i64 r.1, .int .i64 r.2.1, .int .i64 r.2.2.1, .int .i64 r.2.2.2]).toArray
set_option maxRecDepth 100000 in
set_option maxHeartbeats 1000000 in
theorem Rows_c (w : World) : Calls Try.prog 57 #[] w fun e w' => ∃ g, e = .returned (.slice (some ⟨g, 0, none⟩) 15 15) ∧ Grow w w' ∧ w.heap.size ≤ g ∧ w'.heap[g]? = some (.cells tabC 88) := by
  go_enter Try.func57, Try.ntmps57
  go_wp2
  go_ret
  exact ⟨_, rfl, Grow.alloc _ _, Nat.le_refl _, heap_new w (.cells tabC 88)⟩
theorem getD_at {α : Type} {l : List α} {i : Nat} {d : α} (h : i < l.length) : l.getD i d = l[i] := by simp [List.getD, h]
/-- A row of the table by its place. -/
def rowAt (i : Nat) : Int × Int × Int × Int := tabL.getD i (0, 0, 0, 0)
/-- No row ahead of that place is the one that is sought. -/
def NotTo (k m : Int) (i : Nat) : Prop := ∀ j, j < i → ¬ ((rowAt j).1 = k ∧ (rowAt j).2.1 = m)
/-- What is found: the row (zeros: none), and whether it is there. -/
def findR (k m : Int) : Option (Int × Int × Int × Int) := tabL.find? fun r => r.1 == k && r.2.1 == m
theorem NotTo.step {k m : Int} {i : Nat} (h : NotTo k m i) (hn : ¬ ((rowAt i).1 = k ∧ (rowAt i).2.1 = m)) : NotTo k m (i + 1) := by
  intro j hj
  by_cases e : j = i
  · subst e; exact hn
  · exact h j (by omega)
theorem NotTo.none {k m : Int} (h : NotTo k m 15) : findR k m = none := by
  unfold findR
  rw [List.find?_eq_none]
  intro x hx
  obtain ⟨j, hj, rfl⟩ := List.getElem_of_mem hx
  have := h j hj
  simp only [rowAt, getD_at hj] at this
  simpa using this
theorem NotTo.found {k m : Int} {i : Nat} (hi : i < 15) (h : NotTo k m i) (h1 : (rowAt i).1 = k) (h2 : (rowAt i).2.1 = m) : findR k m = some (rowAt i) := by
  have hl : i < tabL.length := hi
  unfold findR
  rw [List.find?_eq_some_iff_append]
  refine ⟨by simp [h1, h2], tabL.take i, tabL.drop (i + 1), ?_, ?_⟩
  · simp only [rowAt, getD_at hl]
    simp
  · intro x hx
    obtain ⟨j, hj, rfl⟩ := List.getElem_of_mem hx
    simp only [List.length_take] at hj
    have := h j (by omega)
    have hj2 : j < tabL.length := by omega
    simp only [rowAt, getD_at hj2] at this
    simp only [Bool.not_eq_true', Bool.and_eq_false_iff, beq_eq_false_iff_ne, Bool.not_eq_eq_eq_not, Bool.not_true]
    rw [← Decidable.not_and_iff_not_or_not]
    simpa using this
theorem tab_cell {w : World} {g : Nat} {t : TypeId} (h : w.heap[g]? = some (.cells tabC t)) (i : Nat) (hi : i < 15) :
    w.cell? ⟨g, i * 4, none⟩ = some (.int .i64 (rowAt i).1) ∧ w.cell? ⟨g, i * 4 + 1, none⟩ = some (.int .i64 (rowAt i).2.1) ∧ w.cell? ⟨g, i * 4 + 2, none⟩ = some (.int .i64 (rowAt i).2.2.1) ∧ w.cell? ⟨g, i * 4 + 3, none⟩ = some (.int .i64 (rowAt i).2.2.2) := by
  rw [heap_cell h, heap_cell h, heap_cell h, heap_cell h]
  have : ∀ i : Nat, i < 15 → tabC[i * 4]? = some (.int .i64 (rowAt i).1) ∧ tabC[i * 4 + 1]? = some (.int .i64 (rowAt i).2.1) ∧ tabC[i * 4 + 2]? = some (.int .i64 (rowAt i).2.2.1) ∧ tabC[i * 4 + 3]? = some (.int .i64 (rowAt i).2.2.2) := by
    intro i hi
    match i, hi with
    | 0, _ | 1, _ | 2, _ | 3, _ | 4, _ | 5, _ | 6, _ | 7, _ | 8, _ | 9, _ | 10, _ | 11, _ | 12, _ | 13, _ | 14, _ => exact ⟨rfl, rfl, rfl, rfl⟩
    | n + 15, h => omega
  exact this i hi
/-- What Find hands back. -/
def foundV (F : Option (Int × Int × Int × Int)) : Value := match F with
  | none => .agg #[.int .i64 0, .int .i64 0, .int .i64 0, .int .i64 0]
  | some r => .agg #[.int .i64 r.1, .int .i64 r.2.1, .int .i64 r.2.2.1, .int .i64 r.2.2.2]
set_option maxRecDepth 100000 in
set_option maxHeartbeats 1000000 in
theorem Find_c (k m : Int) (w : World) : Calls Try.prog 47 #[.int .i64 k, .int .i64 m] w fun e w' => e = .returned (.tuple #[foundV (findR k m), .bool (findR k m).isSome]) ∧ Grow w w' := by
  have HR := hid (fun w => Rows_c w)
  go_enter Try.func47, Try.ntmps47
  go_wp2_with fail
  refine (HR.out _).mono ?_
  rintro e w1 ⟨g, rfl, b1, hg, hh⟩
  have k1 := b1.cells
  have m1 := b1.marks
  have z1 : w.heap.size < w1.heap.size := (by have := b1.size; simp at this; omega)
  have hcell := hid (tab_cell hh)
  clear hh HR
  go_wp2_with fail
  go_loop [7] (fun i => ∃ (j : Nat), j ≤ 15 ∧ i = .int .i64 j ∧ Hid (NotTo k m j)) (fun i => 15 - (intOf i).toNat)
  case atStart => exact ⟨0, by omega, rfl, hid (fun j h => by omega)⟩
  case round =>
    obtain ⟨j, hj, rfl, HN⟩ := hrel
    by_cases hlt : j < 15
    · obtain ⟨c1, c2, c3, c4⟩ := hcell.out j hlt
      have hs := hid (fun h => HN.out.step h)
      have hf := hid (fun h1 h2 => NotTo.found hlt HN.out h1 h2)
      generalize rowAt j = R at *
      obtain ⟨r1, r2, r3, r4⟩ := R
      dsimp only at c1 c2 c3 c4
      by_cases e1 : r1 = k
      · by_cases e2 : r2 = m
        · have hfx := hid (hf.out e1 e2)
          have q1 : (r1 == k) = true := by simpa using e1
          have q2 : (r2 == m) = true := by simpa using e2
          clear hf hs e1 e2
          go_wp2_with fail
          (try simp only [Exit.inBlock, Exit.then])
          refine bodyPost_ret (v := .tuple #[.agg #[.int .i64 r1, .int .i64 r2, .int .i64 r3, .int .i64 r4], .bool true]) ?_ rfl ⟨?_, ?_⟩
          · rw [results_cell_tmp rfl]
            go_simp
          · rw [hfx.out]; rfl
          · exact Below.setCell (Below.setCell (Below.setCell (Below.setCell (Grow.trans (Grow.alloc _ _) b1) (Nat.le_refl _) _) (Nat.le_refl _) _) (Nat.le_refl _) _) (Nat.le_refl _) _
        · have hst := hid (hs.out (fun h => e2 h.2))
          have q1 : (r1 == k) = true := by simpa using e1
          have q2 : (r2 == m) = false := by simpa using e2
          clear hf hs e1 e2
          go_wp2_with fail
          go_round
          case rel => exact ⟨j + 1, by omega, by go_num, hst⟩
          case measure => simp [intOf]; omega
      · have hst := hid (hs.out (fun h => e1 h.1))
        have q1 : (r1 == k) = false := by simpa using e1
        clear hf hs e1
        go_wp2_with fail
        go_round
        case rel => exact ⟨j + 1, by omega, by go_num, hst⟩
        case measure => simp [intOf]; omega
    · obtain rfl : j = 15 := by omega
      have hn := hid HN.out.none
      go_wp2_with fail
      (try simp only [Exit.inBlock, Exit.then])
      refine bodyPost_ret (v := .tuple #[.agg #[.int .i64 0, .int .i64 0, .int .i64 0, .int .i64 0], .bool false]) ?_ rfl ⟨?_, ?_⟩
      · rw [results_cell_tmp rfl]
        go_simp
      · rw [hn.out]; rfl
      · exact Below.setCell (Below.setCell (Below.setCell (Below.setCell (Grow.trans (Grow.alloc _ _) b1) (Nat.le_refl _) _) (Nat.le_refl _) _) (Nat.le_refl _) _) (Nat.le_refl _) _
end Go.Proofs.Ytlhgdbangnohjaa
namespace Go.Proofs.Ytlhgdbangnohjaa
open Go.RowKit
set_option linter.unusedVariables false
set_option linter.unusedSimpArgs false
theorem find_fits (k m : Int) : (findR k m).isSome = fitsB k m := by
  rw [Bool.eq_iff_iff]
  constructor
  · intro h
    obtain ⟨r, hr⟩ := Option.isSome_iff_exists.1 h
    have h1 := List.mem_of_find?_eq_some hr
    have h2 := List.find?_some hr
    simp only [Bool.and_eq_true, beq_iff_eq] at h2
    obtain ⟨rfl, rfl⟩ := h2
    simp only [tabL, List.mem_cons, List.not_mem_nil, or_false] at h1
    rcases h1 with rfl | rfl | rfl | rfl | rfl | rfl | rfl | rfl | rfl | rfl | rfl | rfl | rfl | rfl | rfl <;> rfl
  · intro h
    unfold fitsB at h
    simp only [decide_eq_true_eq] at h
    rcases h with ⟨rfl, h1, h2⟩ | ⟨rfl, rfl | rfl | rfl⟩ | ⟨rfl, rfl | rfl⟩ | ⟨rfl, rfl | rfl⟩ | ⟨rfl, h1, h2⟩ | ⟨rfl, rfl | rfl⟩
    · have : m = 1 ∨ m = 2 ∨ m = 3 := by omega
      rcases this with rfl | rfl | rfl <;> rfl
    any_goals rfl
    · have : m = 10 ∨ m = 11 ∨ m = 12 := by omega
      rcases this with rfl | rfl | rfl <;> rfl
/-- What a row that is found tells of arguments and answers. -/
theorem find_tells {k m : Int} {r : Int × Int × Int × Int} (h : findR k m = some r) (n a s : Int) :
    resB k m n = answerB n r.2.2.2 ∧ (r.2.2.1 = 0 ∧ argsB m a s = decide (a = 0 ∧ s = 0) ∨ r.2.2.1 = 1 ∧ argsB m a s = decide (0 ≤ a ∧ a ≤ 1073741824 ∧ s = 0) ∨
      r.2.2.1 = 2 ∧ argsB m a s = decide (0 ≤ a ∧ a ≤ 1073741824 ∧ 0 ≤ s ∧ s ≤ 1073741824)) := by
  have h1 := List.mem_of_find?_eq_some h
  have h2 := List.find?_some h
  simp only [Bool.and_eq_true, beq_iff_eq] at h2
  obtain ⟨rfl, rfl⟩ := h2
  simp only [tabL, List.mem_cons, List.not_mem_nil, or_false] at h1
  rcases h1 with rfl | rfl | rfl | rfl | rfl | rfl | rfl | rfl | rfl | rfl | rfl | rfl | rfl | rfl | rfl
  all_goals
    refine ⟨?_, ?_⟩
    · unfold resB answerB
      rw [decide_eq_decide]
      dsimp only
      omega
    · first | refine .inl ⟨rfl, ?_⟩ | refine .inr (.inl ⟨rfl, ?_⟩) | refine .inr (.inr ⟨rfl, ?_⟩)
      unfold argsB
      rw [decide_eq_decide]
      dsimp only
      first | (simp; done) | (simp; omega)
/-- What Find hands back, written out. -/
theorem Find_none {k m : Int} (h : fitsB k m = false) (w : World) : Calls Try.prog 47 #[.int .i64 k, .int .i64 m] w fun e w' => e = .returned (.tuple #[.agg #[.int .i64 0, .int .i64 0, .int .i64 0, .int .i64 0], .bool false]) ∧ Grow w w' := by
  have e : findR k m = none := by
    rw [← find_fits] at h
    cases hf : findR k m
    · rfl
    · rw [hf] at h; cases h
  have := Find_c k m w
  rw [e] at this
  exact this
theorem Find_some {k m : Int} (h : fitsB k m = true) : ∃ r : Int × Int × Int × Int, findR k m = some r ∧ ∀ w : World, Calls Try.prog 47 #[.int .i64 k, .int .i64 m] w fun e w' => e = .returned (.tuple #[.agg #[.int .i64 r.1, .int .i64 r.2.1, .int .i64 r.2.2.1, .int .i64 r.2.2.2], .bool true]) ∧ Grow w w' := by
  rw [← find_fits] at h
  cases hf : findR k m with
  | none => rw [hf] at h; cases h
  | some r =>
    refine ⟨r, rfl, fun w => ?_⟩
    have := Find_c k m w
    rw [hf] at this
    exact this
/-- between, in and out. -/
theorem Between_in (n a b : Int) (h1 : a ≤ n) (h2 : n ≤ b) (w : World) : Calls Try.prog 46 #[.int .i64 n, .int .i64 a, .int .i64 b] w fun e w' => e = .returned (.bool true) ∧ w = w' := by
  have h := Between_c n a b w
  rw [decide_eq_true (And.intro h1 h2)] at h
  exact h
theorem Between_out (n a b : Int) (h1 : n < a ∨ b < n) (w : World) : Calls Try.prog 46 #[.int .i64 n, .int .i64 a, .int .i64 b] w fun e w' => e = .returned (.bool false) ∧ w = w' := by
  have h := Between_c n a b w
  rw [decide_eq_false (by omega)] at h
  exact h
set_option maxRecDepth 100000 in
set_option maxHeartbeats 4000000 in
theorem RCheck_c (o : OpR) (w : World) : Calls Try.prog 31 #[.agg #[.int .i64 o.id, .int .i64 o.proc, .int .i64 o.obj, .int .i64 o.kind, .int .i64 o.meth, .int .i64 o.arg, .int .i64 o.sec, .bool o.done, .int .i64 o.res, .int .i64 o.inv, .int .i64 o.ret]] w fun e w' => e = .returned (.int .i64 (checkE o)) ∧ Grow w w' := by
  have hi := hid (fun n a b h1 h2 (w : World) => Between_in n a b h1 h2 w)
  have ho := hid (fun n a b h (w : World) => Between_out n a b h w)
  have ha := hid (fun n h (w : World) => Answer_c n h w)
  refine check_ways o (fun E => Calls Try.prog 31 #[.agg #[.int .i64 o.id, .int .i64 o.proc, .int .i64 o.obj, .int .i64 o.kind, .int .i64 o.meth, .int .i64 o.arg, .int .i64 o.sec, .bool o.done, .int .i64 o.res, .int .i64 o.inv, .int .i64 o.ret]] w fun e w' => e = .returned (.int .i64 E) ∧ Grow w w') ?_ ?_
  · intro hbad
    simp only [bad1, decide_eq_true_eq] at hbad
    clear ha
    obtain ⟨id, proc, obj, kind, meth, arg, sec, done, res, inv, ret⟩ := o
    dsimp only at *
    have hcs : (id < 1 ∨ 1073741824 < id) ∨ (1 ≤ id ∧ id ≤ 1073741824 ∧ ((proc < 0 ∨ 1023 < proc) ∨ (0 ≤ proc ∧ proc ≤ 1023 ∧ (obj < 0 ∨ 1023 < obj)))) := by omega
    clear hbad
    rcases hcs with h1 | ⟨h1, h2, h3 | ⟨h3, h4, h5⟩⟩
    all_goals
      go_enter Try.func31, Try.ntmps31
      go_wp2_with (go_at_call 46; (first | refine (hi.out _ _ _ (by omega) (by omega) _).mono ?_ | refine (ho.out _ _ _ (by omega) _).mono ?_); rintro e w1 ⟨rfl, rfl⟩)
      go_ret; exact ⟨rfl, Grow.alloc _ _⟩
  · intro g1 g2 g3 g4 g5 g6
    obtain ⟨id, proc, obj, kind, meth, arg, sec, done, res, inv, ret⟩ := o
    dsimp only at *
    refine ⟨?_, ?_⟩
    · intro hf
      have hF := hid (fun w => Find_none hf w)
      clear hf ha
      go_enter Try.func31, Try.ntmps31
      go_wp2_with (first | (go_at_call 46; (first | refine (hi.out _ _ _ (by omega) (by omega) _).mono ?_ | refine (ho.out _ _ _ (by omega) _).mono ?_); rintro e w1 ⟨rfl, rfl⟩) | (go_at_call 47; refine (hF.out _).mono ?_; rintro e w1 ⟨rfl, b1⟩; have k1 := b1.cells; have z1 : w.heap.size < w1.heap.size := (by have := b1.size; simp at this; omega)))
      go_ret
      exact ⟨rfl, Grow.trans (Grow.trans (Grow.alloc _ _) b1) (Grow.alloc _ _)⟩
    · intro hf
      obtain ⟨r, hr, hF0⟩ := Find_some hf
      have hF := hid hF0
      obtain ⟨hres, harg⟩ := find_tells hr res arg sec
      obtain ⟨r1, r2, r3, r4⟩ := r
      dsimp only at *
      rw [hres]
      have ha2 := hid (ha.out res r4)
      clear hf hF0 hr hres ha
      generalize answerB res r4 = R at *
      rcases harg with ⟨rfl, e1⟩ | ⟨rfl, e1⟩ | ⟨rfl, e1⟩
      · rw [e1]
        clear e1
        refine ⟨?_, ?_⟩
        · intro h
          simp only [decide_eq_false_iff_not] at h
          have hcs : (arg < 0 ∨ 0 < arg) ∨ (0 ≤ arg ∧ arg ≤ 0 ∧ (sec < 0 ∨ 0 < sec)) := by omega
          clear h ha2
          rcases hcs with h1 | ⟨h1, h2, h3⟩
          all_goals
            go_enter Try.func31, Try.ntmps31
            go_wp2_with (first | (go_at_call 46; (first | refine (hi.out _ _ _ (by omega) (by omega) _).mono ?_ | refine (ho.out _ _ _ (by omega) _).mono ?_); rintro e w1 ⟨rfl, rfl⟩) | (go_at_call 48; refine (ha2.out _).mono ?_; rintro e w1 ⟨rfl, rfl⟩) | (go_at_call 47; refine (hF.out _).mono ?_; rintro e w1 ⟨rfl, b1⟩; have k1 := b1.cells; have z1 : w.heap.size < w1.heap.size := (by have := b1.size; simp at this; omega)))
            go_ret
            exact ⟨rfl, Grow.trans (Grow.trans (Grow.alloc _ _) b1) (Grow.alloc _ _)⟩
        · intro h
          simp only [decide_eq_true_eq] at h
          have h1 : 0 ≤ arg := by omega
          have h2 : arg ≤ 0 := by omega
          have h3 : 0 ≤ sec := by omega
          have h4 : sec ≤ 0 := by omega
          clear h
          refine ⟨fun e3 => ⟨?_, fun e4 => ⟨?_, ?_, fun i1 i2 => ⟨?_, fun t1 => ⟨?_, ?_⟩⟩⟩⟩, fun e3 => ⟨?_, fun e4 => ⟨?_, ?_, fun i1 i2 => ⟨?_, ?_⟩⟩⟩⟩
          all_goals intro q
          all_goals
            subst_vars
            go_enter Try.func31, Try.ntmps31
            go_wp2_with (first | (go_at_call 46; (first | refine (hi.out _ _ _ (by omega) (by omega) _).mono ?_ | refine (ho.out _ _ _ (by omega) _).mono ?_); rintro e w1 ⟨rfl, rfl⟩) | (go_at_call 48; refine (ha2.out _).mono ?_; rintro e w1 ⟨rfl, rfl⟩) | (go_at_call 47; refine (hF.out _).mono ?_; rintro e w1 ⟨rfl, b1⟩; have k1 := b1.cells; have z1 : w.heap.size < w1.heap.size := (by have := b1.size; simp at this; omega)))
            go_ret
            exact ⟨rfl, Grow.trans (Grow.trans (Grow.alloc _ _) b1) (Grow.alloc _ _)⟩
      · rw [e1]
        clear e1
        refine ⟨?_, ?_⟩
        · intro h
          simp only [decide_eq_false_iff_not] at h
          have hcs : (arg < 0 ∨ 1073741824 < arg) ∨ (0 ≤ arg ∧ arg ≤ 1073741824 ∧ (sec < 0 ∨ 0 < sec)) := by omega
          clear h ha2
          rcases hcs with h1 | ⟨h1, h2, h3⟩
          all_goals
            go_enter Try.func31, Try.ntmps31
            go_wp2_with (first | (go_at_call 46; (first | refine (hi.out _ _ _ (by omega) (by omega) _).mono ?_ | refine (ho.out _ _ _ (by omega) _).mono ?_); rintro e w1 ⟨rfl, rfl⟩) | (go_at_call 48; refine (ha2.out _).mono ?_; rintro e w1 ⟨rfl, rfl⟩) | (go_at_call 47; refine (hF.out _).mono ?_; rintro e w1 ⟨rfl, b1⟩; have k1 := b1.cells; have z1 : w.heap.size < w1.heap.size := (by have := b1.size; simp at this; omega)))
            go_ret
            exact ⟨rfl, Grow.trans (Grow.trans (Grow.alloc _ _) b1) (Grow.alloc _ _)⟩
        · intro h
          simp only [decide_eq_true_eq] at h
          have h1 : 0 ≤ arg := by omega
          have h2 : arg ≤ 1073741824 := by omega
          have h3 : 0 ≤ sec := by omega
          have h4 : sec ≤ 0 := by omega
          clear h
          refine ⟨fun e3 => ⟨?_, fun e4 => ⟨?_, ?_, fun i1 i2 => ⟨?_, fun t1 => ⟨?_, ?_⟩⟩⟩⟩, fun e3 => ⟨?_, fun e4 => ⟨?_, ?_, fun i1 i2 => ⟨?_, ?_⟩⟩⟩⟩
          all_goals intro q
          all_goals
            subst_vars
            go_enter Try.func31, Try.ntmps31
            go_wp2_with (first | (go_at_call 46; (first | refine (hi.out _ _ _ (by omega) (by omega) _).mono ?_ | refine (ho.out _ _ _ (by omega) _).mono ?_); rintro e w1 ⟨rfl, rfl⟩) | (go_at_call 48; refine (ha2.out _).mono ?_; rintro e w1 ⟨rfl, rfl⟩) | (go_at_call 47; refine (hF.out _).mono ?_; rintro e w1 ⟨rfl, b1⟩; have k1 := b1.cells; have z1 : w.heap.size < w1.heap.size := (by have := b1.size; simp at this; omega)))
            go_ret
            exact ⟨rfl, Grow.trans (Grow.trans (Grow.alloc _ _) b1) (Grow.alloc _ _)⟩
      · rw [e1]
        clear e1
        refine ⟨?_, ?_⟩
        · intro h
          simp only [decide_eq_false_iff_not] at h
          have hcs : (arg < 0 ∨ 1073741824 < arg) ∨ (0 ≤ arg ∧ arg ≤ 1073741824 ∧ (sec < 0 ∨ 1073741824 < sec)) := by omega
          clear h ha2
          rcases hcs with h1 | ⟨h1, h2, h3⟩
          all_goals
            go_enter Try.func31, Try.ntmps31
            go_wp2_with (first | (go_at_call 46; (first | refine (hi.out _ _ _ (by omega) (by omega) _).mono ?_ | refine (ho.out _ _ _ (by omega) _).mono ?_); rintro e w1 ⟨rfl, rfl⟩) | (go_at_call 48; refine (ha2.out _).mono ?_; rintro e w1 ⟨rfl, rfl⟩) | (go_at_call 47; refine (hF.out _).mono ?_; rintro e w1 ⟨rfl, b1⟩; have k1 := b1.cells; have z1 : w.heap.size < w1.heap.size := (by have := b1.size; simp at this; omega)))
            go_ret
            exact ⟨rfl, Grow.trans (Grow.trans (Grow.alloc _ _) b1) (Grow.alloc _ _)⟩
        · intro h
          simp only [decide_eq_true_eq] at h
          have h1 : 0 ≤ arg := by omega
          have h2 : arg ≤ 1073741824 := by omega
          have h3 : 0 ≤ sec := by omega
          have h4 : sec ≤ 1073741824 := by omega
          clear h
          refine ⟨fun e3 => ⟨?_, fun e4 => ⟨?_, ?_, fun i1 i2 => ⟨?_, fun t1 => ⟨?_, ?_⟩⟩⟩⟩, fun e3 => ⟨?_, fun e4 => ⟨?_, ?_, fun i1 i2 => ⟨?_, ?_⟩⟩⟩⟩
          all_goals intro q
          all_goals
            subst_vars
            go_enter Try.func31, Try.ntmps31
            go_wp2_with (first | (go_at_call 46; (first | refine (hi.out _ _ _ (by omega) (by omega) _).mono ?_ | refine (ho.out _ _ _ (by omega) _).mono ?_); rintro e w1 ⟨rfl, rfl⟩) | (go_at_call 48; refine (ha2.out _).mono ?_; rintro e w1 ⟨rfl, rfl⟩) | (go_at_call 47; refine (hF.out _).mono ?_; rintro e w1 ⟨rfl, b1⟩; have k1 := b1.cells; have z1 : w.heap.size < w1.heap.size := (by have := b1.size; simp at this; omega)))
            go_ret
            exact ⟨rfl, Grow.trans (Grow.trans (Grow.alloc _ _) b1) (Grow.alloc _ _)⟩
end Go.Proofs.Ytlhgdbangnohjaa
namespace Go.Proofs.Ytlhgdbangnohjaa
open Go.RowKit
set_option linter.unusedVariables false
set_option linter.unusedSimpArgs false
set_option maxRecDepth 100000 in
set_option maxHeartbeats 8000000 in
theorem HRCheck_c (l : List OpR) (v : Value) (w : World) (hv : Ops w v l) :
    Calls Try.prog 22 #[v] w fun e w' => e = .returned (.int .i64 (histE l)) ∧ Grow w w' := by
  have HB := hid (fun (o : OpR) (w' : World) (g : Grow w w') => RBeside_c l o v w' (hv.grow g))
  have HK := hid (show ∀ k, k < l.length → ∀ w', Calls Try.prog 31 #[.agg #[.int .i64 (opAt l k).id, .int .i64 (opAt l k).proc, .int .i64 (opAt l k).obj, .int .i64 (opAt l k).kind, .int .i64 (opAt l k).meth, .int .i64 (opAt l k).arg, .int .i64 (opAt l k).sec, .bool (opAt l k).done, .int .i64 (opAt l k).res, .int .i64 (opAt l k).inv, .int .i64 (opAt l k).ret]] w' fun e w'' => e = .returned (.int .i64 (checkE (opAt l k))) ∧ Grow w' w'' from fun k hk w' => RCheck_c (opAt l k) w')
  have HM := hid (histE_many (l := l))
  have HR := hid (fun h j hj hz hne => histE_round (l := l) h (j := j) hj hz hne)
  have HS := hid (fun h hr j hj hz hne => histE_beside (l := l) h hr (j := j) hj hz hne)
  have HO := hid (fun h hr hz => histE_ok (l := l) h hr hz)
  obtain ⟨p, cap, rfl, hl, hc⟩ := hv.read
  have HC := hid hc
  clear hc hv
  generalize histE l = R at *
  generalize hN : l.length = n at *
  clear hN
  by_cases h64 : 64 < n
  · have hr := HM.out h64
    subst hr
    have h64' : (64 : Int) < (n : Int) := by omega
    go_enter Try.func22, Try.ntmps22
    go_wp2_with fail
    go_ret
    exact ⟨rfl, Grow.refl _⟩
  have h64' : ¬ (64 : Int) < (n : Int) := by omega
  go_enter Try.func22, Try.ntmps22
  go_wp2_with fail
  go_loopw [3] (fun i wr => ∃ j : Nat, j ≤ n ∧ i = .int .i64 (j : Int) ∧ Hid (∀ k, k < j → roundE l k = 0) ∧ Grow w wr) (fun i _ => n - (intOf i).toNat)
  case atStart => exact ⟨0, by omega, rfl, hid (fun q hq => by omega), Grow.refl _⟩
  case round =>
    obtain ⟨j, hj, rfl, HZ, hg⟩ := hrel
    by_cases hlt : j < n
    · obtain ⟨b, off, rfl, ha⟩ := HC.out j hlt
      have hk0 : (0 : Int) ≤ (j : Int) := by omega
      have hk1 : (j : Int) < (n : Int) := by omega
      have hck := HK.out j hlt
      by_cases hE : checkE (opAt l j) = 0
      · rw [hE] at hck
        by_cases h0 : 0 < j
        · have HT := hid (roundE_twiceJ h0 hE)
          have HN := hid (roundE_nextJ h0 hE)
          obtain ⟨b', off', e1, ha1⟩ := HC.out (j - 1) (by omega)
          cases e1
          unfold OpAt at ha1
          obtain ⟨d0, -⟩ := ha1
          generalize (opAt l (j - 1)).id = pid at *
          clear hE
          have hw1 : (0 : Int) ≤ (j : Int) - 1 := by omega
          have hw2 : (j : Int) - 1 < (n : Int) := by omega
          have h00 : (0 : Int) < (j : Int) := by omega
          have hj2 := hid hlt
          generalize hO : opAt l j = o at ha hck HT HN
          clear hO
          obtain ⟨id, proc, obj, kind, meth, arg, sec, done, res, inv, ret⟩ := o
          have HCK := hid hck
          clear hck
          unfold OpAt at ha
          dsimp only at ha HCK HT HN
          obtain ⟨c0, c1, c2, c3, c4, c5, c6, c7, c8, c9, c10⟩ := ha
          replace c0 := hg.cell c0
          replace c1 := hg.cell c1
          replace c2 := hg.cell c2
          replace c3 := hg.cell c3
          replace c4 := hg.cell c4
          replace c5 := hg.cell c5
          replace c6 := hg.cell c6
          replace c7 := hg.cell c7
          replace c8 := hg.cell c8
          replace c9 := hg.cell c9
          replace c10 := hg.cell c10
          replace d0 := hg.cell d0
          have hw3 : IntKind.i64.wrap ((j : Int) - 1) = (j : Int) - 1 := IntWalk.i64_in _ (by omega)
          have hw4 : ((j : Int) - 1).toNat = j - 1 := by omega
          by_cases hid' : id ≤ pid
          · have HRR := hid (HR.out (by have := h64'; omega) j hj2.out HZ.out (by rw [HT.out hid']; decide))
            rw [HT.out hid'] at HRR
            go_wp2_with fail
            refine (HCK.out _).mono ?_
            rintro e w2 ⟨rfl, g2⟩
            have hg2 := hid (Grow.trans hg g2)
            have kk := g2.cells
            have dd0 := g2.cell d0
            have cc0 := g2.cell c0
            go_wp2_with fail
            go_quiet (fail)
            go_wp2_with fail
            go_ret
            exact ⟨by rw [HRR.out]; rfl, Grow.drewNM hg2.out _⟩
          · have HZ2 := hid (upto_succ HZ.out (HN.out hid'))
            go_wp2_with fail
            refine (HCK.out _).mono ?_
            rintro e w2 ⟨rfl, g2⟩
            have hg2 := hid (Grow.trans hg g2)
            have kk := g2.cells
            have dd0 := g2.cell d0
            have cc0 := g2.cell c0
            go_wp2_with fail
            go_quiet (fail)
            go_wp2_with fail
            go_roundw
            case rel => exact ⟨j + 1, by omega, by go_num, HZ2, Grow.drewNM hg2.out _⟩
            case measure => simp [intOf]; omega
        · obtain rfl : j = 0 := by omega
          have HZ2 := hid (upto_succ HZ.out (roundE_first hE))
          have hd : decide ((0 : Int) < ((0 : Nat) : Int)) = false := by decide
          clear hE h0
          simp only [Nat.zero_mul, Nat.add_zero] at ha
          generalize opAt l 0 = o at ha hck
          obtain ⟨id, proc, obj, kind, meth, arg, sec, done, res, inv, ret⟩ := o
          have HCK := hid hck
          clear hck
          unfold OpAt at ha
          dsimp only at ha HCK
          obtain ⟨c0, c1, c2, c3, c4, c5, c6, c7, c8, c9, c10⟩ := ha
          replace c0 := hg.cell c0
          replace c1 := hg.cell c1
          replace c2 := hg.cell c2
          replace c3 := hg.cell c3
          replace c4 := hg.cell c4
          replace c5 := hg.cell c5
          replace c6 := hg.cell c6
          replace c7 := hg.cell c7
          replace c8 := hg.cell c8
          replace c9 := hg.cell c9
          replace c10 := hg.cell c10
          go_wp2_with fail
          refine (HCK.out _).mono ?_
          rintro e w2 ⟨rfl, g2⟩
          have hg2 := hid (Grow.trans hg g2)
          go_wp2_with fail
          go_quiet (fail)
          go_wp2_with fail
          go_roundw
          case rel => exact ⟨1, by omega, by go_num, HZ2, Grow.drewNM hg2.out _⟩
          case measure => simp [intOf]; omega
      · have hrr := HR.out (by omega) j hlt HZ.out (by rw [roundE_bad hE]; exact hE)
        rw [roundE_bad hE] at hrr
        generalize checkE (opAt l j) = E at *
        generalize opAt l j = o at ha hck
        obtain ⟨id, proc, obj, kind, meth, arg, sec, done, res, inv, ret⟩ := o
        have HCK := hid hck
        have HRR := hid hrr
        clear hck hrr
        have hne : (E == 0) = false := by simpa using hE
        have hne2 : (E != 0) = true := by simpa using hE
        unfold OpAt at ha
        dsimp only at ha HCK
        obtain ⟨c0, c1, c2, c3, c4, c5, c6, c7, c8, c9, c10⟩ := ha
        replace c0 := hg.cell c0
        replace c1 := hg.cell c1
        replace c2 := hg.cell c2
        replace c3 := hg.cell c3
        replace c4 := hg.cell c4
        replace c5 := hg.cell c5
        replace c6 := hg.cell c6
        replace c7 := hg.cell c7
        replace c8 := hg.cell c8
        replace c9 := hg.cell c9
        replace c10 := hg.cell c10
        go_wp2_with fail
        refine (HCK.out _).mono ?_
        rintro e w2 ⟨rfl, g2⟩
        have hg2 := hid (Grow.trans hg g2)
        go_wp2_with fail
        go_ret
        exact ⟨by rw [HRR.out]; rfl, hg2.out⟩
    · obtain rfl : j = n := by omega
      have h64n := hid h64
      go_wp2_with fail
      go_loopw [5] (fun i wr => ∃ j' : Nat, j' ≤ j ∧ i = .int .i64 (j' : Int) ∧ Hid (∀ k, k < j' → besideE l (opAt l k) = 0) ∧ Grow w wr) (fun i _ => j - (intOf i).toNat)
      case atStart => exact ⟨0, by omega, rfl, hid (fun q hq => by omega), hg⟩
      case round =>
        obtain ⟨i, hi, rfl, HY, hg'⟩ := hrel
        by_cases hlt : i < j
        · obtain ⟨b, off, rfl, ha⟩ := HC.out i hlt
          have hk0 : (0 : Int) ≤ (i : Int) := by omega
          have hk1 : (i : Int) < (j : Int) := by omega
          have hbs := fun w' g => HB.out (opAt l i) w' g
          by_cases hE : besideE l (opAt l i) = 0
          · rw [hE] at hbs
            have HZ2 := hid (upto_succ HY.out hE)
            clear hE
            generalize opAt l i = o at ha hbs
            obtain ⟨id, proc, obj, kind, meth, arg, sec, done, res, inv, ret⟩ := o
            have HCK := hid hbs
            clear hbs
            unfold OpAt at ha
            dsimp only at ha HCK
            obtain ⟨c0, c1, c2, c3, c4, c5, c6, c7, c8, c9, c10⟩ := ha
            replace c0 := hg'.cell c0
            replace c1 := hg'.cell c1
            replace c2 := hg'.cell c2
            replace c3 := hg'.cell c3
            replace c4 := hg'.cell c4
            replace c5 := hg'.cell c5
            replace c6 := hg'.cell c6
            replace c7 := hg'.cell c7
            replace c8 := hg'.cell c8
            replace c9 := hg'.cell c9
            replace c10 := hg'.cell c10
            go_wp2_with fail
            refine (HCK.out _ hg').mono ?_
            rintro e w2 ⟨rfl, g2⟩
            have hg2 := hid (Grow.trans hg' g2)
            go_wp2_with fail
            go_roundw
            case rel => exact ⟨i + 1, by omega, by go_num, HZ2, hg2.out⟩
            case measure => simp [intOf]; omega
          · have hrr := HS.out (by have := h64n.out; omega) HZ.out i hlt HY.out hE
            generalize besideE l (opAt l i) = E at *
            generalize opAt l i = o at ha hbs
            obtain ⟨id, proc, obj, kind, meth, arg, sec, done, res, inv, ret⟩ := o
            have HCK := hid hbs
            have HRR := hid hrr
            clear hbs hrr
            have hne : (E == 0) = false := by simpa using hE
            have hne2 : (E != 0) = true := by simpa using hE
            unfold OpAt at ha
            dsimp only at ha HCK
            obtain ⟨c0, c1, c2, c3, c4, c5, c6, c7, c8, c9, c10⟩ := ha
            replace c0 := hg'.cell c0
            replace c1 := hg'.cell c1
            replace c2 := hg'.cell c2
            replace c3 := hg'.cell c3
            replace c4 := hg'.cell c4
            replace c5 := hg'.cell c5
            replace c6 := hg'.cell c6
            replace c7 := hg'.cell c7
            replace c8 := hg'.cell c8
            replace c9 := hg'.cell c9
            replace c10 := hg'.cell c10
            go_wp2_with fail
            refine (HCK.out _ hg').mono ?_
            rintro e w2 ⟨rfl, g2⟩
            have hg2 := hid (Grow.trans hg' g2)
            go_wp2_with fail
            go_ret
            exact ⟨by rw [HRR.out]; rfl, hg2.out⟩
        · obtain rfl : i = j := by omega
          have HRR := hid (HO.out (by have := h64n.out; omega) HZ.out HY.out)
          go_wp2_with fail
          go_ret
          exact ⟨by rw [HRR.out]; rfl, hg'⟩
end Go.Proofs.Ytlhgdbangnohjaa
