/- What the reference's beside tells. -/
import Derived.Test.YtljimlaalebmaaaHBeside
import Derived.Test.YtljimlaalebmaaaHCheckPlain
import Derived.Deep.QuietTactic
import Derived.BigQuiet
namespace Go.Proofs.Ytljimlaalebmaaa
open Go.RowKit
set_option linter.unusedVariables false
set_option linter.unusedSimpArgs false
theorem Grow.drewNX {a b : World} (h : Grow a b) (n : Nat) : Grow a (b.drewN n) := ⟨h.os, h.tape, h.output, h.size, h.block⟩
theorem besideE_kind {l : List OpR} {o : OpR} (h : l.any (kindB o) = true) : besideE l o = 33 := by unfold besideE; rw [if_pos h]
theorem besideE_busy {l : List OpR} {o : OpR} (h : l.any (kindB o) = false) (h2 : l.any (busyB o) = true) : besideE l o = 32 := by unfold besideE; rw [if_neg (by rw [h]; decide), if_pos h2]
theorem besideE_ok {l : List OpR} {o : OpR} (h : l.any (kindB o) = false) (h2 : l.any (busyB o) = false) : besideE l o = 0 := by unfold besideE; rw [if_neg (by rw [h]; decide), if_neg (by rw [h2]; decide)]
set_option maxRecDepth 100000 in
set_option maxHeartbeats 8000000 in
theorem RBeside_c (l : List OpR) (o : OpR) (v : Value) (w : World) (hv : Ops w v l) :
    Calls Try.prog 22 #[v, .agg #[.int .i64 o.id, .int .i64 o.proc, .int .i64 o.obj, .int .i64 o.kind, .int .i64 o.meth, .int .i64 o.arg, .int .i64 o.sec, .bool o.done, .int .i64 o.res, .int .i64 o.inv, .int .i64 o.ret]] w fun e w' => e = .returned (.int .i64 (besideE l o)) ∧ Grow w w' := by
  have HK1 := hid (fun h => besideE_kind (l := l) (o := o) h)
  have HK2 := hid (fun h h2 => besideE_busy (l := l) (o := o) h h2)
  have HK3 := hid (fun h h2 => besideE_ok (l := l) (o := o) h h2)
  have HT1 := hid (fun k hk h => any_true (l := l) (q := kindB o) (k := k) hk h)
  have HT2 := hid (fun k hk h => any_true (l := l) (q := busyB o) (k := k) hk h)
  have HF1 := hid (any_false (l := l) (q := kindB o))
  have HF2 := hid (any_false (l := l) (q := busyB o))
  have HB1 := hid (fun (p : OpR) w' => RBefore_c p o w')
  have HB2 := hid (fun (p : OpR) w' => RBefore_c o p w')
  obtain ⟨p, cap, rfl, hl, hc⟩ := hv.read
  have HC := hid hc
  clear hc hv
  generalize besideE l o = R at *
  generalize l.any (kindB o) = X1 at *
  generalize l.any (busyB o) = X2 at *
  generalize hN : l.length = n at *
  clear hN
  have HBX := hid (show ∀ wr, Grow (w.alloc (.cells #[.int .i64 o.id, .int .i64 o.proc, .int .i64 o.obj, .int .i64 o.kind, .int .i64 o.meth, .int .i64 o.arg, .int .i64 o.sec, .bool o.done, .int .i64 o.res, .int .i64 o.inv, .int .i64 o.ret] 25)) wr → OpBox wr w.heap.size o from fun wr g => OpBox.grow (heap_new w _) g)
  obtain ⟨bid, bproc, bobj, bkind, bmeth, barg, bsec, bdone, bres, binv, bret⟩ := o
  dsimp only at HBX
  generalize hW1 : w.alloc (.cells #[.int .i64 bid, .int .i64 bproc, .int .i64 bobj, .int .i64 bkind, .int .i64 bmeth, .int .i64 barg, .int .i64 bsec, .bool bdone, .int .i64 bres, .int .i64 binv, .int .i64 bret] 25) = W1 at HBX
  have HW1 := hid hW1
  have HG1 := hid (show Grow w W1 from by rw [← hW1]; exact Grow.alloc _ _)
  clear hW1
  go_enter Try.func22, Try.ntmps22
  go_wp2_with fail
  rw [HW1.out]
  go_loopw [5] (fun i wr => ∃ j : Nat, j ≤ n ∧ i = .int .i64 (j : Int) ∧ Hid (∀ k, k < j → kindB ⟨bid, bproc, bobj, bkind, bmeth, barg, bsec, bdone, bres, binv, bret⟩ (opAt l k) = false) ∧ Grow W1 wr) (fun i _ => n - (intOf i).toNat)
  case atStart => exact ⟨0, by omega, rfl, hid (fun q hq => by omega), Grow.refl _⟩
  case round =>
    obtain ⟨j, hj, rfl, HZ, hg⟩ := hrel
    have hgw := Grow.trans HG1.out hg
    by_cases hlt : j < n
    · obtain ⟨b, off, rfl, ha⟩ := HC.out j hlt
      have hk0 : (0 : Int) ≤ (j : Int) := by omega
      have hk1 : (j : Int) < (n : Int) := by omega
      obtain ⟨f0, f1, f2, f3, f4, f5, f6, f7, f8, f9, f10⟩ := (HBX.out wr hg).at.at0
      have hob := (HBX.out wr hg).lt
      dsimp only at f0 f1 f2 f3 f4 f5 f6 f7 f8 f9 f10
      have HZN := hid (fun h => upto_succ (P := fun k => kindB ⟨bid, bproc, bobj, bkind, bmeth, barg, bsec, bdone, bres, binv, bret⟩ (opAt l k) = false) HZ.out h)
      have HZY := hid (fun h => HK1.out (HT1.out j hlt h))
      generalize opAt l j = o at ha HZN HZY
      obtain ⟨id, proc, obj, kind, meth, arg, sec, done, res, inv, ret⟩ := o
      unfold OpAt at ha
      dsimp only at ha HZN HZY
      obtain ⟨c0, c1, c2, c3, c4, c5, c6, c7, c8, c9, c10⟩ := ha
      replace c0 := hgw.cell c0
      replace c1 := hgw.cell c1
      replace c2 := hgw.cell c2
      replace c3 := hgw.cell c3
      replace c4 := hgw.cell c4
      replace c5 := hgw.cell c5
      replace c6 := hgw.cell c6
      replace c7 := hgw.cell c7
      replace c8 := hgw.cell c8
      replace c9 := hgw.cell c9
      replace c10 := hgw.cell c10
      by_cases hh1 : id = bid
      · have q1 : (id != bid) = false := by simpa using hh1
        have HZ2 := hid (HZN.out (by simp [kindB, q1]))
        clear hh1 HZN HZY
        go_wp2_with fail
        go_quiet (fail)
        go_wp2_with fail
        go_roundw
        case rel => exact ⟨j + 1, by omega, by go_num, HZ2, Grow.drewNX hg _⟩
        case measure => (simp [intOf]; try omega)
      · by_cases hh2 : obj = bobj
        · by_cases hh3 : kind = bkind
          · have q1 : (id != bid) = true := by simpa using hh1
            have q2 : (obj == bobj) = true := by simpa using hh2
            have q3 : (kind != bkind) = false := by simpa using hh3
            have HZ2 := hid (HZN.out (by simp [kindB, q1, q2, q3]))
            clear hh1 hh2 hh3 HZN HZY
            go_wp2_with fail
            go_quiet (fail)
            go_wp2_with fail
            go_roundw
            case rel => exact ⟨j + 1, by omega, by go_num, HZ2, Grow.drewNX hg _⟩
            case measure => (simp [intOf]; try omega)
          · have q1 : (id != bid) = true := by simpa using hh1
            have q2 : (obj == bobj) = true := by simpa using hh2
            have q3 : (kind != bkind) = true := by simpa using hh3
            have HRR := hid (HZY.out (by simp [kindB, q1, q2, q3]))
            clear hh1 hh2 hh3 HZN HZY
            go_wp2_with fail
            go_quiet (fail)
            go_wp2_with fail
            go_ret
            exact ⟨by rw [HRR.out]; rfl, Grow.trans HG1.out (Grow.drewNX hg _)⟩
        · have q1 : (id != bid) = true := by simpa using hh1
          have q2 : (obj == bobj) = false := by simpa using hh2
          have HZ2 := hid (HZN.out (by simp [kindB, q1, q2]))
          clear hh1 hh2 HZN HZY
          go_wp2_with fail
          go_quiet (fail)
          go_wp2_with fail
          go_roundw
          case rel => exact ⟨j + 1, by omega, by go_num, HZ2, Grow.drewNX hg _⟩
          case measure => (simp [intOf]; try omega)
    · obtain rfl : n = j := by omega
      have HFK := hid (HF1.out HZ.out)
      go_wp2_with fail
      go_loopw [6] (fun i wr => ∃ i' : Nat, i' ≤ n ∧ i = .int .i64 (i' : Int) ∧ Hid (∀ k, k < i' → busyB ⟨bid, bproc, bobj, bkind, bmeth, barg, bsec, bdone, bres, binv, bret⟩ (opAt l k) = false) ∧ Grow W1 wr) (fun i _ => n - (intOf i).toNat)
      case atStart => exact ⟨0, by omega, rfl, hid (fun q hq => by omega), hg⟩
      case round =>
        clear hg hgw HZ
        obtain ⟨j, hj, rfl, HZ, hg⟩ := hrel
        have hgw := Grow.trans HG1.out hg
        by_cases hlt : j < n
        · obtain ⟨b, off, rfl, ha⟩ := HC.out j hlt
          have hk0 : (0 : Int) ≤ (j : Int) := by omega
          have hk1 : (j : Int) < (n : Int) := by omega
          obtain ⟨f0, f1, f2, f3, f4, f5, f6, f7, f8, f9, f10⟩ := (HBX.out wr hg).at.at0
          have hob := (HBX.out wr hg).lt
          dsimp only at f0 f1 f2 f3 f4 f5 f6 f7 f8 f9 f10
          have HZN := hid (fun h => upto_succ (P := fun k => busyB ⟨bid, bproc, bobj, bkind, bmeth, barg, bsec, bdone, bres, binv, bret⟩ (opAt l k) = false) HZ.out h)
          have HZY := hid (fun h => HK2.out HFK.out (HT2.out j hlt h))
          have hb1 := fun w' => HB1.out (opAt l j) w'
          have hb2 := fun w' => HB2.out (opAt l j) w'
          generalize opAt l j = o at ha HZN HZY hb1 hb2
          obtain ⟨id, proc, obj, kind, meth, arg, sec, done, res, inv, ret⟩ := o
          unfold OpAt at ha
          dsimp only at ha HZN HZY hb1 hb2
          obtain ⟨c0, c1, c2, c3, c4, c5, c6, c7, c8, c9, c10⟩ := ha
          replace c0 := hgw.cell c0
          replace c1 := hgw.cell c1
          replace c2 := hgw.cell c2
          replace c3 := hgw.cell c3
          replace c4 := hgw.cell c4
          replace c5 := hgw.cell c5
          replace c6 := hgw.cell c6
          replace c7 := hgw.cell c7
          replace c8 := hgw.cell c8
          replace c9 := hgw.cell c9
          replace c10 := hgw.cell c10
          by_cases hh1 : id = bid
          · have q1 : (id != bid) = false := by simpa using hh1
            have HZ2 := hid (HZN.out (by simp [busyB, q1]))
            clear hh1 HZN HZY hb1 hb2
            go_wp2_with fail
            go_quiet (fail)
            go_wp2_with fail
            go_roundw
            case rel => exact ⟨j + 1, by omega, by go_num, HZ2, Grow.drewNX hg _⟩
            case measure => (simp [intOf]; try omega)
          · by_cases hh2 : proc = bproc
            · cases hX : befB ⟨id, proc, obj, kind, meth, arg, sec, done, res, inv, ret⟩ ⟨bid, bproc, bobj, bkind, bmeth, barg, bsec, bdone, bres, binv, bret⟩
              · cases hY : befB ⟨bid, bproc, bobj, bkind, bmeth, barg, bsec, bdone, bres, binv, bret⟩ ⟨id, proc, obj, kind, meth, arg, sec, done, res, inv, ret⟩
                · subst hh2
                  rw [hX] at hb1
                  have q1 : (id != bid) = true := by simpa using hh1
                  rw [hY] at hb2
                  have HRR := hid (HZY.out (by simp [busyB, q1, hX, hY]))
                  have HX := hid hb1
                  have HY := hid hb2
                  clear hb1 hb2 HZN HZY hX hY
                  have zb : b < wr.heap.size := World.block_lt_of_cell? wr _ c0
                  go_wp2_with fail
                  refine wp_rely [.eq (.slice (some ⟨b, off, none⟩) n cap), .eq (.int .i64 (j : Int)), .eq (.pointer (some ⟨b, off + j * 11, none⟩)), .eq (.pointer (some ⟨b, off + j * 11, none⟩)), .eq (.int .i64 id), .eq (.pointer (some ⟨w.heap.size, 0, none⟩)), .eq (.int .i64 bid), .eq (.bool true), .eq (.bool true), .eq (.slice (some ⟨b, off, none⟩) n cap), .eq (.int .i64 (j : Int)), .eq (.pointer (some ⟨b, off + j * 11, none⟩)), .eq (.pointer (some ⟨b, off + j * 11 + 1, none⟩)), .eq (.int .i64 proc), .eq (.pointer (some ⟨w.heap.size, 1, none⟩)), .eq (.int .i64 proc), .eq (.bool true), .eq (.bool true), .eq (.bool true), .eq (.slice (some ⟨b, off, none⟩) n cap), .eq (.int .i64 (j : Int)), .eq (.pointer (some ⟨b, off + j * 11, none⟩)), .eq (.agg #[.int .i64 id, .int .i64 proc, .int .i64 obj, .int .i64 kind, .int .i64 meth, .int .i64 arg, .int .i64 sec, .bool done, .int .i64 res, .int .i64 inv, .int .i64 ret]), .eq (.agg #[.int .i64 bid, .int .i64 proc, .int .i64 bobj, .int .i64 bkind, .int .i64 bmeth, .int .i64 barg, .int .i64 bsec, .bool bdone, .int .i64 bres, .int .i64 binv, .int .i64 bret]), .eq (.bool false), .eq (.bool true), .eq (.bool true), .eq (.bool true), .eq (.agg #[.int .i64 bid, .int .i64 proc, .int .i64 bobj, .int .i64 bkind, .int .i64 bmeth, .int .i64 barg, .int .i64 bsec, .bool bdone, .int .i64 bres, .int .i64 binv, .int .i64 bret]), .eq (.slice (some ⟨b, off, none⟩) n cap), .eq (.int .i64 (j : Int)), .eq (.pointer (some ⟨b, off + j * 11, none⟩)), .eq (.agg #[.int .i64 id, .int .i64 proc, .int .i64 obj, .int .i64 kind, .int .i64 meth, .int .i64 arg, .int .i64 sec, .bool done, .int .i64 res, .int .i64 inv, .int .i64 ret]), .eq (.bool false), .eq (.bool true), .eq (.bool true)] (by kernel_rfl) (by kernel_rfl) (by kernel_rfl) ?_ ?_
                  · simp only [relyGoals]
                    refine ⟨?_, ?_, ?_, ?_, ?_, ?_, ?_, ?_, ?_, ?_, ?_, ?_, ?_, ?_, ?_, ?_, ?_, ?_, ?_, ?_, ?_, ?_, ?_, ?_, ?_, ?_, ?_, ?_, ?_, ?_, ?_, ?_, ?_, ?_, ?_, ?_, trivial⟩
                    all_goals intro t w' hsz hg hdd hfr
                    all_goals simp only [depsDid, Did, perAt, List.getElem?_cons_zero, List.getElem?_cons_succ, List.getD_cons_zero, List.getD_cons_succ, Per.eq, Per.row, Per.of, and_true, Array.getD_eq_getD_getElem?] at hdd
                    · rw [if_pos (by rfl)]
                      try simp only [perAt, List.getD_cons_zero, List.getD_cons_succ, Per.eq, Per.row, Per.of]
                      have hs0 := hfr 0 (by kernel_rfl)
                      simp only [Array.getD_eq_getD_getElem?] at hs0
                      simp [execOp, Act.eval, hdd, hs0, relyUpon, go_sem, Grow.refl]
                    · rw [if_pos (by rfl)]
                      try simp only [perAt, List.getD_cons_zero, List.getD_cons_succ, Per.eq, Per.row, Per.of]
                      have hs6 := hfr 6 (by kernel_rfl)
                      simp only [Array.getD_eq_getD_getElem?] at hs6
                      simp [execOp, Act.eval, hdd, hs6, relyUpon, go_sem, Grow.refl]
                    · rw [if_pos (by rfl)]
                      try simp only [perAt, List.getD_cons_zero, List.getD_cons_succ, Per.eq, Per.row, Per.of]
                      simp [execOp, Act.eval, hdd, relyUpon, go_sem, Grow.refl, hlt, Grow.refl]
                    · rw [if_pos (by rfl)]
                      try simp only [perAt, List.getD_cons_zero, List.getD_cons_succ, Per.eq, Per.row, Per.of]
                      simp [execOp, Act.eval, hdd, relyUpon, go_sem, Grow.refl]
                    · rw [if_pos (by rfl)]
                      try simp only [perAt, List.getD_cons_zero, List.getD_cons_succ, Per.eq, Per.row, Per.of]
                      have kc := hg.cells
                      simp [execOp, Act.eval, hdd, relyUpon, go_sem, Grow.refl, kc, f0, f1, f2, f3, f4, f5, f6, f7, f8, f9, f10, c0, c1, c2, c3, c4, c5, c6, c7, c8, c9, c10, hob, zb, hk0, hk1]
                    · rw [if_pos (by rfl)]
                      try simp only [perAt, List.getD_cons_zero, List.getD_cons_succ, Per.eq, Per.row, Per.of]
                      have hs3 := hfr 3 (by kernel_rfl)
                      simp only [Array.getD_eq_getD_getElem?] at hs3
                      simp [execOp, Act.eval, hdd, hs3, relyUpon, go_sem, Grow.refl]
                    · rw [if_pos (by rfl)]
                      try simp only [perAt, List.getD_cons_zero, List.getD_cons_succ, Per.eq, Per.row, Per.of]
                      have kc := hg.cells
                      simp [execOp, Act.eval, hdd, relyUpon, go_sem, Grow.refl, kc, f0, f1, f2, f3, f4, f5, f6, f7, f8, f9, f10, c0, c1, c2, c3, c4, c5, c6, c7, c8, c9, c10, hob, zb, hk0, hk1]
                    · rw [if_pos (by rfl)]
                      try simp only [perAt, List.getD_cons_zero, List.getD_cons_succ, Per.eq, Per.row, Per.of]
                      simp [execOp, Act.eval, hdd, relyUpon, go_sem, Grow.refl, hh1, Grow.refl]
                    · rw [if_pos (by rfl)]
                      try simp only [perAt, List.getD_cons_zero, List.getD_cons_succ, Per.eq, Per.row, Per.of]
                      simp [execOp, Act.eval, hdd, relyUpon, go_sem, Grow.refl]
                    · rw [if_pos (by simp only [Region.wanted]; rw [yielded_of (d := 55) (b := true) rfl (by simp only [hdd])]; rfl)]
                      try simp only [perAt, List.getD_cons_zero, List.getD_cons_succ, Per.eq, Per.row, Per.of]
                      have hs0 := hfr 0 (by kernel_rfl)
                      simp only [Array.getD_eq_getD_getElem?] at hs0
                      simp [execOp, Act.eval, hdd, hs0, relyUpon, go_sem, Grow.refl]
                    · rw [if_pos (by simp only [Region.wanted]; rw [yielded_of (d := 55) (b := true) rfl (by simp only [hdd])]; rfl)]
                      try simp only [perAt, List.getD_cons_zero, List.getD_cons_succ, Per.eq, Per.row, Per.of]
                      have hs6 := hfr 6 (by kernel_rfl)
                      simp only [Array.getD_eq_getD_getElem?] at hs6
                      simp [execOp, Act.eval, hdd, hs6, relyUpon, go_sem, Grow.refl]
                    · rw [if_pos (by simp only [Region.wanted]; rw [yielded_of (d := 55) (b := true) rfl (by simp only [hdd])]; rfl)]
                      try simp only [perAt, List.getD_cons_zero, List.getD_cons_succ, Per.eq, Per.row, Per.of]
                      simp [execOp, Act.eval, hdd, relyUpon, go_sem, Grow.refl, hlt, Grow.refl]
                    · rw [if_pos (by simp only [Region.wanted]; rw [yielded_of (d := 55) (b := true) rfl (by simp only [hdd])]; rfl)]
                      try simp only [perAt, List.getD_cons_zero, List.getD_cons_succ, Per.eq, Per.row, Per.of]
                      simp [execOp, Act.eval, hdd, relyUpon, go_sem, Grow.refl]
                    · rw [if_pos (by simp only [Region.wanted]; rw [yielded_of (d := 55) (b := true) rfl (by simp only [hdd])]; rfl)]
                      try simp only [perAt, List.getD_cons_zero, List.getD_cons_succ, Per.eq, Per.row, Per.of]
                      have kc := hg.cells
                      simp [execOp, Act.eval, hdd, relyUpon, go_sem, Grow.refl, kc, f0, f1, f2, f3, f4, f5, f6, f7, f8, f9, f10, c0, c1, c2, c3, c4, c5, c6, c7, c8, c9, c10, hob, zb, hk0, hk1]
                    · rw [if_pos (by simp only [Region.wanted]; rw [yielded_of (d := 55) (b := true) rfl (by simp only [hdd])]; rfl)]
                      try simp only [perAt, List.getD_cons_zero, List.getD_cons_succ, Per.eq, Per.row, Per.of]
                      have hs3 := hfr 3 (by kernel_rfl)
                      simp only [Array.getD_eq_getD_getElem?] at hs3
                      simp [execOp, Act.eval, hdd, hs3, relyUpon, go_sem, Grow.refl]
                    · rw [if_pos (by simp only [Region.wanted]; rw [yielded_of (d := 55) (b := true) rfl (by simp only [hdd])]; rfl)]
                      try simp only [perAt, List.getD_cons_zero, List.getD_cons_succ, Per.eq, Per.row, Per.of]
                      have kc := hg.cells
                      simp [execOp, Act.eval, hdd, relyUpon, go_sem, Grow.refl, kc, f0, f1, f2, f3, f4, f5, f6, f7, f8, f9, f10, c0, c1, c2, c3, c4, c5, c6, c7, c8, c9, c10, hob, zb, hk0, hk1]
                    · rw [if_pos (by simp only [Region.wanted]; rw [yielded_of (d := 55) (b := true) rfl (by simp only [hdd])]; rfl)]
                      try simp only [perAt, List.getD_cons_zero, List.getD_cons_succ, Per.eq, Per.row, Per.of]
                      simp [execOp, Act.eval, hdd, relyUpon, go_sem, Grow.refl]
                    · rw [if_pos (by rfl)]
                      try simp only [perAt, List.getD_cons_zero, List.getD_cons_succ, Per.eq, Per.row, Per.of]
                      simp [execOp, Act.eval, hdd, relyUpon, go_sem, Grow.refl]
                    · rw [if_pos (by rfl)]
                      try simp only [perAt, List.getD_cons_zero, List.getD_cons_succ, Per.eq, Per.row, Per.of]
                      simp [execOp, Act.eval, hdd, relyUpon, go_sem, Grow.refl]
                    · rw [if_pos (by simp only [Region.wanted]; rw [yielded_of (d := 65) (b := true) rfl (by simp only [hdd])]; rfl)]
                      try simp only [perAt, List.getD_cons_zero, List.getD_cons_succ, Per.eq, Per.row, Per.of]
                      have hs0 := hfr 0 (by kernel_rfl)
                      simp only [Array.getD_eq_getD_getElem?] at hs0
                      simp [execOp, Act.eval, hdd, hs0, relyUpon, go_sem, Grow.refl]
                    · rw [if_pos (by simp only [Region.wanted]; rw [yielded_of (d := 65) (b := true) rfl (by simp only [hdd])]; rfl)]
                      try simp only [perAt, List.getD_cons_zero, List.getD_cons_succ, Per.eq, Per.row, Per.of]
                      have hs6 := hfr 6 (by kernel_rfl)
                      simp only [Array.getD_eq_getD_getElem?] at hs6
                      simp [execOp, Act.eval, hdd, hs6, relyUpon, go_sem, Grow.refl]
                    · rw [if_pos (by simp only [Region.wanted]; rw [yielded_of (d := 65) (b := true) rfl (by simp only [hdd])]; rfl)]
                      try simp only [perAt, List.getD_cons_zero, List.getD_cons_succ, Per.eq, Per.row, Per.of]
                      simp [execOp, Act.eval, hdd, relyUpon, go_sem, Grow.refl, hlt, Grow.refl]
                    · rw [if_pos (by simp only [Region.wanted]; rw [yielded_of (d := 65) (b := true) rfl (by simp only [hdd])]; rfl)]
                      try simp only [perAt, List.getD_cons_zero, List.getD_cons_succ, Per.eq, Per.row, Per.of]
                      have kc := hg.cells
                      simp [execOp, Act.eval, hdd, relyUpon, go_sem, Grow.refl, kc, f0, f1, f2, f3, f4, f5, f6, f7, f8, f9, f10, c0, c1, c2, c3, c4, c5, c6, c7, c8, c9, c10, hob, zb, hk0, hk1]
                    · rw [if_pos (by simp only [Region.wanted]; rw [yielded_of (d := 65) (b := true) rfl (by simp only [hdd])]; rfl)]
                      try simp only [perAt, List.getD_cons_zero, List.getD_cons_succ, Per.eq, Per.row, Per.of]
                      have hs3 := hfr 3 (by kernel_rfl)
                      simp only [Array.getD_eq_getD_getElem?] at hs3
                      have kc := hg.cells
                      simp [execOp, Act.eval, hdd, hs3, relyUpon, go_sem, Grow.refl, kc, f0, f1, f2, f3, f4, f5, f6, f7, f8, f9, f10, c0, c1, c2, c3, c4, c5, c6, c7, c8, c9, c10, hob, zb, hk0, hk1]
                    · rw [if_pos (by simp only [Region.wanted]; rw [yielded_of (d := 65) (b := true) rfl (by simp only [hdd])]; rfl)]
                      try simp only [perAt, List.getD_cons_zero, List.getD_cons_succ, Per.eq, Per.row, Per.of]
                      simp [execOp, Act.eval, hdd, relyUpon, go_sem]
                      refine (HX.out w').mono fun e w'' h => ?_
                      obtain ⟨h1, h2⟩ := h
                      have h3 : Grow w' w'' := by first | exact h2 | (rw [← h2]; exact Grow.refl _)
                      first | exact ⟨h3, h1⟩ | exact ⟨_, h1, h3, rfl⟩ | exact ⟨h1, h3⟩
                    · rw [if_pos (by simp only [Region.wanted]; rw [yielded_of (d := 65) (b := true) rfl (by simp only [hdd])]; rfl)]
                      try simp only [perAt, List.getD_cons_zero, List.getD_cons_succ, Per.eq, Per.row, Per.of]
                      simp [execOp, Act.eval, hdd, relyUpon, go_sem, Grow.refl]
                    · rw [if_pos (by rfl)]
                      try simp only [perAt, List.getD_cons_zero, List.getD_cons_succ, Per.eq, Per.row, Per.of]
                      simp [execOp, Act.eval, hdd, relyUpon, go_sem, Grow.refl]
                    · rw [if_pos (by rfl)]
                      try simp only [perAt, List.getD_cons_zero, List.getD_cons_succ, Per.eq, Per.row, Per.of]
                      simp [execOp, Act.eval, hdd, relyUpon, go_sem, Grow.refl]
                    · rw [if_pos (by simp only [Region.wanted]; rw [yielded_of (d := 74) (b := true) rfl (by simp only [hdd])]; rfl)]
                      try simp only [perAt, List.getD_cons_zero, List.getD_cons_succ, Per.eq, Per.row, Per.of]
                      have hs3 := hfr 3 (by kernel_rfl)
                      simp only [Array.getD_eq_getD_getElem?] at hs3
                      have kc := hg.cells
                      simp [execOp, Act.eval, hdd, hs3, relyUpon, go_sem, Grow.refl, kc, f0, f1, f2, f3, f4, f5, f6, f7, f8, f9, f10, c0, c1, c2, c3, c4, c5, c6, c7, c8, c9, c10, hob, zb, hk0, hk1]
                    · rw [if_pos (by simp only [Region.wanted]; rw [yielded_of (d := 74) (b := true) rfl (by simp only [hdd])]; rfl)]
                      try simp only [perAt, List.getD_cons_zero, List.getD_cons_succ, Per.eq, Per.row, Per.of]
                      have hs0 := hfr 0 (by kernel_rfl)
                      simp only [Array.getD_eq_getD_getElem?] at hs0
                      simp [execOp, Act.eval, hdd, hs0, relyUpon, go_sem, Grow.refl]
                    · rw [if_pos (by simp only [Region.wanted]; rw [yielded_of (d := 74) (b := true) rfl (by simp only [hdd])]; rfl)]
                      try simp only [perAt, List.getD_cons_zero, List.getD_cons_succ, Per.eq, Per.row, Per.of]
                      have hs6 := hfr 6 (by kernel_rfl)
                      simp only [Array.getD_eq_getD_getElem?] at hs6
                      simp [execOp, Act.eval, hdd, hs6, relyUpon, go_sem, Grow.refl]
                    · rw [if_pos (by simp only [Region.wanted]; rw [yielded_of (d := 74) (b := true) rfl (by simp only [hdd])]; rfl)]
                      try simp only [perAt, List.getD_cons_zero, List.getD_cons_succ, Per.eq, Per.row, Per.of]
                      simp [execOp, Act.eval, hdd, relyUpon, go_sem, Grow.refl, hlt, Grow.refl]
                    · rw [if_pos (by simp only [Region.wanted]; rw [yielded_of (d := 74) (b := true) rfl (by simp only [hdd])]; rfl)]
                      try simp only [perAt, List.getD_cons_zero, List.getD_cons_succ, Per.eq, Per.row, Per.of]
                      have kc := hg.cells
                      simp [execOp, Act.eval, hdd, relyUpon, go_sem, Grow.refl, kc, f0, f1, f2, f3, f4, f5, f6, f7, f8, f9, f10, c0, c1, c2, c3, c4, c5, c6, c7, c8, c9, c10, hob, zb, hk0, hk1]
                    · rw [if_pos (by simp only [Region.wanted]; rw [yielded_of (d := 74) (b := true) rfl (by simp only [hdd])]; rfl)]
                      try simp only [perAt, List.getD_cons_zero, List.getD_cons_succ, Per.eq, Per.row, Per.of]
                      simp [execOp, Act.eval, hdd, relyUpon, go_sem]
                      refine (HY.out w').mono fun e w'' h => ?_
                      obtain ⟨h1, h2⟩ := h
                      have h3 : Grow w' w'' := by first | exact h2 | (rw [← h2]; exact Grow.refl _)
                      first | exact ⟨h3, h1⟩ | exact ⟨_, h1, h3, rfl⟩ | exact ⟨h1, h3⟩
                    · rw [if_pos (by simp only [Region.wanted]; rw [yielded_of (d := 74) (b := true) rfl (by simp only [hdd])]; rfl)]
                      try simp only [perAt, List.getD_cons_zero, List.getD_cons_succ, Per.eq, Per.row, Per.of]
                      simp [execOp, Act.eval, hdd, relyUpon, go_sem, Grow.refl]
                    · rw [if_pos (by rfl)]
                      try simp only [perAt, List.getD_cons_zero, List.getD_cons_succ, Per.eq, Per.row, Per.of]
                      simp [execOp, Act.eval, hdd, relyUpon, go_sem, Grow.refl]
                  intro wz hgz
                  simp only [relyEnd, List.headD_cons, List.tail_cons, Per.eq, Per.row, Per.of]
                  rintro _ rfl _ rfl _ rfl _ rfl _ rfl _ rfl _ rfl _ rfl _ rfl _ rfl _ rfl _ rfl _ rfl _ rfl _ rfl _ rfl _ rfl _ rfl _ rfl _ rfl _ rfl _ rfl _ rfl _ rfl _ rfl _ rfl _ rfl _ rfl _ rfl _ rfl _ rfl _ rfl _ rfl _ rfl _ rfl _ rfl
                  go_simp
                  go_wp2_with fail
                  go_ret
                  exact ⟨by rw [HRR.out]; rfl, Grow.trans hgw hgz⟩
                · subst hh2
                  rw [hX] at hb1
                  have q1 : (id != bid) = true := by simpa using hh1
                  rw [hY] at hb2
                  have HZ2 := hid (HZN.out (by simp [busyB, q1, hX, hY]))
                  have HX := hid hb1
                  have HY := hid hb2
                  clear hb1 hb2 HZN HZY hX hY
                  have zb : b < wr.heap.size := World.block_lt_of_cell? wr _ c0
                  go_wp2_with fail
                  refine wp_rely [.eq (.slice (some ⟨b, off, none⟩) n cap), .eq (.int .i64 (j : Int)), .eq (.pointer (some ⟨b, off + j * 11, none⟩)), .eq (.pointer (some ⟨b, off + j * 11, none⟩)), .eq (.int .i64 id), .eq (.pointer (some ⟨w.heap.size, 0, none⟩)), .eq (.int .i64 bid), .eq (.bool true), .eq (.bool true), .eq (.slice (some ⟨b, off, none⟩) n cap), .eq (.int .i64 (j : Int)), .eq (.pointer (some ⟨b, off + j * 11, none⟩)), .eq (.pointer (some ⟨b, off + j * 11 + 1, none⟩)), .eq (.int .i64 proc), .eq (.pointer (some ⟨w.heap.size, 1, none⟩)), .eq (.int .i64 proc), .eq (.bool true), .eq (.bool true), .eq (.bool true), .eq (.slice (some ⟨b, off, none⟩) n cap), .eq (.int .i64 (j : Int)), .eq (.pointer (some ⟨b, off + j * 11, none⟩)), .eq (.agg #[.int .i64 id, .int .i64 proc, .int .i64 obj, .int .i64 kind, .int .i64 meth, .int .i64 arg, .int .i64 sec, .bool done, .int .i64 res, .int .i64 inv, .int .i64 ret]), .eq (.agg #[.int .i64 bid, .int .i64 proc, .int .i64 bobj, .int .i64 bkind, .int .i64 bmeth, .int .i64 barg, .int .i64 bsec, .bool bdone, .int .i64 bres, .int .i64 binv, .int .i64 bret]), .eq (.bool false), .eq (.bool true), .eq (.bool true), .eq (.bool true), .eq (.agg #[.int .i64 bid, .int .i64 proc, .int .i64 bobj, .int .i64 bkind, .int .i64 bmeth, .int .i64 barg, .int .i64 bsec, .bool bdone, .int .i64 bres, .int .i64 binv, .int .i64 bret]), .eq (.slice (some ⟨b, off, none⟩) n cap), .eq (.int .i64 (j : Int)), .eq (.pointer (some ⟨b, off + j * 11, none⟩)), .eq (.agg #[.int .i64 id, .int .i64 proc, .int .i64 obj, .int .i64 kind, .int .i64 meth, .int .i64 arg, .int .i64 sec, .bool done, .int .i64 res, .int .i64 inv, .int .i64 ret]), .eq (.bool true), .eq (.bool false), .eq (.bool false)] (by kernel_rfl) (by kernel_rfl) (by kernel_rfl) ?_ ?_
                  · simp only [relyGoals]
                    refine ⟨?_, ?_, ?_, ?_, ?_, ?_, ?_, ?_, ?_, ?_, ?_, ?_, ?_, ?_, ?_, ?_, ?_, ?_, ?_, ?_, ?_, ?_, ?_, ?_, ?_, ?_, ?_, ?_, ?_, ?_, ?_, ?_, ?_, ?_, ?_, ?_, trivial⟩
                    all_goals intro t w' hsz hg hdd hfr
                    all_goals simp only [depsDid, Did, perAt, List.getElem?_cons_zero, List.getElem?_cons_succ, List.getD_cons_zero, List.getD_cons_succ, Per.eq, Per.row, Per.of, and_true, Array.getD_eq_getD_getElem?] at hdd
                    · rw [if_pos (by rfl)]
                      try simp only [perAt, List.getD_cons_zero, List.getD_cons_succ, Per.eq, Per.row, Per.of]
                      have hs0 := hfr 0 (by kernel_rfl)
                      simp only [Array.getD_eq_getD_getElem?] at hs0
                      simp [execOp, Act.eval, hdd, hs0, relyUpon, go_sem, Grow.refl]
                    · rw [if_pos (by rfl)]
                      try simp only [perAt, List.getD_cons_zero, List.getD_cons_succ, Per.eq, Per.row, Per.of]
                      have hs6 := hfr 6 (by kernel_rfl)
                      simp only [Array.getD_eq_getD_getElem?] at hs6
                      simp [execOp, Act.eval, hdd, hs6, relyUpon, go_sem, Grow.refl]
                    · rw [if_pos (by rfl)]
                      try simp only [perAt, List.getD_cons_zero, List.getD_cons_succ, Per.eq, Per.row, Per.of]
                      simp [execOp, Act.eval, hdd, relyUpon, go_sem, Grow.refl, hlt, Grow.refl]
                    · rw [if_pos (by rfl)]
                      try simp only [perAt, List.getD_cons_zero, List.getD_cons_succ, Per.eq, Per.row, Per.of]
                      simp [execOp, Act.eval, hdd, relyUpon, go_sem, Grow.refl]
                    · rw [if_pos (by rfl)]
                      try simp only [perAt, List.getD_cons_zero, List.getD_cons_succ, Per.eq, Per.row, Per.of]
                      have kc := hg.cells
                      simp [execOp, Act.eval, hdd, relyUpon, go_sem, Grow.refl, kc, f0, f1, f2, f3, f4, f5, f6, f7, f8, f9, f10, c0, c1, c2, c3, c4, c5, c6, c7, c8, c9, c10, hob, zb, hk0, hk1]
                    · rw [if_pos (by rfl)]
                      try simp only [perAt, List.getD_cons_zero, List.getD_cons_succ, Per.eq, Per.row, Per.of]
                      have hs3 := hfr 3 (by kernel_rfl)
                      simp only [Array.getD_eq_getD_getElem?] at hs3
                      simp [execOp, Act.eval, hdd, hs3, relyUpon, go_sem, Grow.refl]
                    · rw [if_pos (by rfl)]
                      try simp only [perAt, List.getD_cons_zero, List.getD_cons_succ, Per.eq, Per.row, Per.of]
                      have kc := hg.cells
                      simp [execOp, Act.eval, hdd, relyUpon, go_sem, Grow.refl, kc, f0, f1, f2, f3, f4, f5, f6, f7, f8, f9, f10, c0, c1, c2, c3, c4, c5, c6, c7, c8, c9, c10, hob, zb, hk0, hk1]
                    · rw [if_pos (by rfl)]
                      try simp only [perAt, List.getD_cons_zero, List.getD_cons_succ, Per.eq, Per.row, Per.of]
                      simp [execOp, Act.eval, hdd, relyUpon, go_sem, Grow.refl, hh1, Grow.refl]
                    · rw [if_pos (by rfl)]
                      try simp only [perAt, List.getD_cons_zero, List.getD_cons_succ, Per.eq, Per.row, Per.of]
                      simp [execOp, Act.eval, hdd, relyUpon, go_sem, Grow.refl]
                    · rw [if_pos (by simp only [Region.wanted]; rw [yielded_of (d := 55) (b := true) rfl (by simp only [hdd])]; rfl)]
                      try simp only [perAt, List.getD_cons_zero, List.getD_cons_succ, Per.eq, Per.row, Per.of]
                      have hs0 := hfr 0 (by kernel_rfl)
                      simp only [Array.getD_eq_getD_getElem?] at hs0
                      simp [execOp, Act.eval, hdd, hs0, relyUpon, go_sem, Grow.refl]
                    · rw [if_pos (by simp only [Region.wanted]; rw [yielded_of (d := 55) (b := true) rfl (by simp only [hdd])]; rfl)]
                      try simp only [perAt, List.getD_cons_zero, List.getD_cons_succ, Per.eq, Per.row, Per.of]
                      have hs6 := hfr 6 (by kernel_rfl)
                      simp only [Array.getD_eq_getD_getElem?] at hs6
                      simp [execOp, Act.eval, hdd, hs6, relyUpon, go_sem, Grow.refl]
                    · rw [if_pos (by simp only [Region.wanted]; rw [yielded_of (d := 55) (b := true) rfl (by simp only [hdd])]; rfl)]
                      try simp only [perAt, List.getD_cons_zero, List.getD_cons_succ, Per.eq, Per.row, Per.of]
                      simp [execOp, Act.eval, hdd, relyUpon, go_sem, Grow.refl, hlt, Grow.refl]
                    · rw [if_pos (by simp only [Region.wanted]; rw [yielded_of (d := 55) (b := true) rfl (by simp only [hdd])]; rfl)]
                      try simp only [perAt, List.getD_cons_zero, List.getD_cons_succ, Per.eq, Per.row, Per.of]
                      simp [execOp, Act.eval, hdd, relyUpon, go_sem, Grow.refl]
                    · rw [if_pos (by simp only [Region.wanted]; rw [yielded_of (d := 55) (b := true) rfl (by simp only [hdd])]; rfl)]
                      try simp only [perAt, List.getD_cons_zero, List.getD_cons_succ, Per.eq, Per.row, Per.of]
                      have kc := hg.cells
                      simp [execOp, Act.eval, hdd, relyUpon, go_sem, Grow.refl, kc, f0, f1, f2, f3, f4, f5, f6, f7, f8, f9, f10, c0, c1, c2, c3, c4, c5, c6, c7, c8, c9, c10, hob, zb, hk0, hk1]
                    · rw [if_pos (by simp only [Region.wanted]; rw [yielded_of (d := 55) (b := true) rfl (by simp only [hdd])]; rfl)]
                      try simp only [perAt, List.getD_cons_zero, List.getD_cons_succ, Per.eq, Per.row, Per.of]
                      have hs3 := hfr 3 (by kernel_rfl)
                      simp only [Array.getD_eq_getD_getElem?] at hs3
                      simp [execOp, Act.eval, hdd, hs3, relyUpon, go_sem, Grow.refl]
                    · rw [if_pos (by simp only [Region.wanted]; rw [yielded_of (d := 55) (b := true) rfl (by simp only [hdd])]; rfl)]
                      try simp only [perAt, List.getD_cons_zero, List.getD_cons_succ, Per.eq, Per.row, Per.of]
                      have kc := hg.cells
                      simp [execOp, Act.eval, hdd, relyUpon, go_sem, Grow.refl, kc, f0, f1, f2, f3, f4, f5, f6, f7, f8, f9, f10, c0, c1, c2, c3, c4, c5, c6, c7, c8, c9, c10, hob, zb, hk0, hk1]
                    · rw [if_pos (by simp only [Region.wanted]; rw [yielded_of (d := 55) (b := true) rfl (by simp only [hdd])]; rfl)]
                      try simp only [perAt, List.getD_cons_zero, List.getD_cons_succ, Per.eq, Per.row, Per.of]
                      simp [execOp, Act.eval, hdd, relyUpon, go_sem, Grow.refl]
                    · rw [if_pos (by rfl)]
                      try simp only [perAt, List.getD_cons_zero, List.getD_cons_succ, Per.eq, Per.row, Per.of]
                      simp [execOp, Act.eval, hdd, relyUpon, go_sem, Grow.refl]
                    · rw [if_pos (by rfl)]
                      try simp only [perAt, List.getD_cons_zero, List.getD_cons_succ, Per.eq, Per.row, Per.of]
                      simp [execOp, Act.eval, hdd, relyUpon, go_sem, Grow.refl]
                    · rw [if_pos (by simp only [Region.wanted]; rw [yielded_of (d := 65) (b := true) rfl (by simp only [hdd])]; rfl)]
                      try simp only [perAt, List.getD_cons_zero, List.getD_cons_succ, Per.eq, Per.row, Per.of]
                      have hs0 := hfr 0 (by kernel_rfl)
                      simp only [Array.getD_eq_getD_getElem?] at hs0
                      simp [execOp, Act.eval, hdd, hs0, relyUpon, go_sem, Grow.refl]
                    · rw [if_pos (by simp only [Region.wanted]; rw [yielded_of (d := 65) (b := true) rfl (by simp only [hdd])]; rfl)]
                      try simp only [perAt, List.getD_cons_zero, List.getD_cons_succ, Per.eq, Per.row, Per.of]
                      have hs6 := hfr 6 (by kernel_rfl)
                      simp only [Array.getD_eq_getD_getElem?] at hs6
                      simp [execOp, Act.eval, hdd, hs6, relyUpon, go_sem, Grow.refl]
                    · rw [if_pos (by simp only [Region.wanted]; rw [yielded_of (d := 65) (b := true) rfl (by simp only [hdd])]; rfl)]
                      try simp only [perAt, List.getD_cons_zero, List.getD_cons_succ, Per.eq, Per.row, Per.of]
                      simp [execOp, Act.eval, hdd, relyUpon, go_sem, Grow.refl, hlt, Grow.refl]
                    · rw [if_pos (by simp only [Region.wanted]; rw [yielded_of (d := 65) (b := true) rfl (by simp only [hdd])]; rfl)]
                      try simp only [perAt, List.getD_cons_zero, List.getD_cons_succ, Per.eq, Per.row, Per.of]
                      have kc := hg.cells
                      simp [execOp, Act.eval, hdd, relyUpon, go_sem, Grow.refl, kc, f0, f1, f2, f3, f4, f5, f6, f7, f8, f9, f10, c0, c1, c2, c3, c4, c5, c6, c7, c8, c9, c10, hob, zb, hk0, hk1]
                    · rw [if_pos (by simp only [Region.wanted]; rw [yielded_of (d := 65) (b := true) rfl (by simp only [hdd])]; rfl)]
                      try simp only [perAt, List.getD_cons_zero, List.getD_cons_succ, Per.eq, Per.row, Per.of]
                      have hs3 := hfr 3 (by kernel_rfl)
                      simp only [Array.getD_eq_getD_getElem?] at hs3
                      have kc := hg.cells
                      simp [execOp, Act.eval, hdd, hs3, relyUpon, go_sem, Grow.refl, kc, f0, f1, f2, f3, f4, f5, f6, f7, f8, f9, f10, c0, c1, c2, c3, c4, c5, c6, c7, c8, c9, c10, hob, zb, hk0, hk1]
                    · rw [if_pos (by simp only [Region.wanted]; rw [yielded_of (d := 65) (b := true) rfl (by simp only [hdd])]; rfl)]
                      try simp only [perAt, List.getD_cons_zero, List.getD_cons_succ, Per.eq, Per.row, Per.of]
                      simp [execOp, Act.eval, hdd, relyUpon, go_sem]
                      refine (HX.out w').mono fun e w'' h => ?_
                      obtain ⟨h1, h2⟩ := h
                      have h3 : Grow w' w'' := by first | exact h2 | (rw [← h2]; exact Grow.refl _)
                      first | exact ⟨h3, h1⟩ | exact ⟨_, h1, h3, rfl⟩ | exact ⟨h1, h3⟩
                    · rw [if_pos (by simp only [Region.wanted]; rw [yielded_of (d := 65) (b := true) rfl (by simp only [hdd])]; rfl)]
                      try simp only [perAt, List.getD_cons_zero, List.getD_cons_succ, Per.eq, Per.row, Per.of]
                      simp [execOp, Act.eval, hdd, relyUpon, go_sem, Grow.refl]
                    · rw [if_pos (by rfl)]
                      try simp only [perAt, List.getD_cons_zero, List.getD_cons_succ, Per.eq, Per.row, Per.of]
                      simp [execOp, Act.eval, hdd, relyUpon, go_sem, Grow.refl]
                    · rw [if_pos (by rfl)]
                      try simp only [perAt, List.getD_cons_zero, List.getD_cons_succ, Per.eq, Per.row, Per.of]
                      simp [execOp, Act.eval, hdd, relyUpon, go_sem, Grow.refl]
                    · rw [if_pos (by simp only [Region.wanted]; rw [yielded_of (d := 74) (b := true) rfl (by simp only [hdd])]; rfl)]
                      try simp only [perAt, List.getD_cons_zero, List.getD_cons_succ, Per.eq, Per.row, Per.of]
                      have hs3 := hfr 3 (by kernel_rfl)
                      simp only [Array.getD_eq_getD_getElem?] at hs3
                      have kc := hg.cells
                      simp [execOp, Act.eval, hdd, hs3, relyUpon, go_sem, Grow.refl, kc, f0, f1, f2, f3, f4, f5, f6, f7, f8, f9, f10, c0, c1, c2, c3, c4, c5, c6, c7, c8, c9, c10, hob, zb, hk0, hk1]
                    · rw [if_pos (by simp only [Region.wanted]; rw [yielded_of (d := 74) (b := true) rfl (by simp only [hdd])]; rfl)]
                      try simp only [perAt, List.getD_cons_zero, List.getD_cons_succ, Per.eq, Per.row, Per.of]
                      have hs0 := hfr 0 (by kernel_rfl)
                      simp only [Array.getD_eq_getD_getElem?] at hs0
                      simp [execOp, Act.eval, hdd, hs0, relyUpon, go_sem, Grow.refl]
                    · rw [if_pos (by simp only [Region.wanted]; rw [yielded_of (d := 74) (b := true) rfl (by simp only [hdd])]; rfl)]
                      try simp only [perAt, List.getD_cons_zero, List.getD_cons_succ, Per.eq, Per.row, Per.of]
                      have hs6 := hfr 6 (by kernel_rfl)
                      simp only [Array.getD_eq_getD_getElem?] at hs6
                      simp [execOp, Act.eval, hdd, hs6, relyUpon, go_sem, Grow.refl]
                    · rw [if_pos (by simp only [Region.wanted]; rw [yielded_of (d := 74) (b := true) rfl (by simp only [hdd])]; rfl)]
                      try simp only [perAt, List.getD_cons_zero, List.getD_cons_succ, Per.eq, Per.row, Per.of]
                      simp [execOp, Act.eval, hdd, relyUpon, go_sem, Grow.refl, hlt, Grow.refl]
                    · rw [if_pos (by simp only [Region.wanted]; rw [yielded_of (d := 74) (b := true) rfl (by simp only [hdd])]; rfl)]
                      try simp only [perAt, List.getD_cons_zero, List.getD_cons_succ, Per.eq, Per.row, Per.of]
                      have kc := hg.cells
                      simp [execOp, Act.eval, hdd, relyUpon, go_sem, Grow.refl, kc, f0, f1, f2, f3, f4, f5, f6, f7, f8, f9, f10, c0, c1, c2, c3, c4, c5, c6, c7, c8, c9, c10, hob, zb, hk0, hk1]
                    · rw [if_pos (by simp only [Region.wanted]; rw [yielded_of (d := 74) (b := true) rfl (by simp only [hdd])]; rfl)]
                      try simp only [perAt, List.getD_cons_zero, List.getD_cons_succ, Per.eq, Per.row, Per.of]
                      simp [execOp, Act.eval, hdd, relyUpon, go_sem]
                      refine (HY.out w').mono fun e w'' h => ?_
                      obtain ⟨h1, h2⟩ := h
                      have h3 : Grow w' w'' := by first | exact h2 | (rw [← h2]; exact Grow.refl _)
                      first | exact ⟨h3, h1⟩ | exact ⟨_, h1, h3, rfl⟩ | exact ⟨h1, h3⟩
                    · rw [if_pos (by simp only [Region.wanted]; rw [yielded_of (d := 74) (b := true) rfl (by simp only [hdd])]; rfl)]
                      try simp only [perAt, List.getD_cons_zero, List.getD_cons_succ, Per.eq, Per.row, Per.of]
                      simp [execOp, Act.eval, hdd, relyUpon, go_sem, Grow.refl]
                    · rw [if_pos (by rfl)]
                      try simp only [perAt, List.getD_cons_zero, List.getD_cons_succ, Per.eq, Per.row, Per.of]
                      simp [execOp, Act.eval, hdd, relyUpon, go_sem, Grow.refl]
                  intro wz hgz
                  simp only [relyEnd, List.headD_cons, List.tail_cons, Per.eq, Per.row, Per.of]
                  rintro _ rfl _ rfl _ rfl _ rfl _ rfl _ rfl _ rfl _ rfl _ rfl _ rfl _ rfl _ rfl _ rfl _ rfl _ rfl _ rfl _ rfl _ rfl _ rfl _ rfl _ rfl _ rfl _ rfl _ rfl _ rfl _ rfl _ rfl _ rfl _ rfl _ rfl _ rfl _ rfl _ rfl _ rfl _ rfl _ rfl
                  go_simp
                  go_wp2_with fail
                  go_roundw
                  case rel => exact ⟨j + 1, by omega, by go_num, HZ2, Grow.trans hg hgz⟩
                  case measure => (simp [intOf]; try omega)
              · subst hh2
                rw [hX] at hb1
                have q1 : (id != bid) = true := by simpa using hh1
                have HZ2 := hid (HZN.out (by simp [busyB, q1, hX]))
                have HX := hid hb1
                have HY := hid hb2
                clear hb1 hb2 HZN HZY hX 
                have zb : b < wr.heap.size := World.block_lt_of_cell? wr _ c0
                go_wp2_with fail
                refine wp_rely [.eq (.slice (some ⟨b, off, none⟩) n cap), .eq (.int .i64 (j : Int)), .eq (.pointer (some ⟨b, off + j * 11, none⟩)), .eq (.pointer (some ⟨b, off + j * 11, none⟩)), .eq (.int .i64 id), .eq (.pointer (some ⟨w.heap.size, 0, none⟩)), .eq (.int .i64 bid), .eq (.bool true), .eq (.bool true), .eq (.slice (some ⟨b, off, none⟩) n cap), .eq (.int .i64 (j : Int)), .eq (.pointer (some ⟨b, off + j * 11, none⟩)), .eq (.pointer (some ⟨b, off + j * 11 + 1, none⟩)), .eq (.int .i64 proc), .eq (.pointer (some ⟨w.heap.size, 1, none⟩)), .eq (.int .i64 proc), .eq (.bool true), .eq (.bool true), .eq (.bool true), .eq (.slice (some ⟨b, off, none⟩) n cap), .eq (.int .i64 (j : Int)), .eq (.pointer (some ⟨b, off + j * 11, none⟩)), .eq (.agg #[.int .i64 id, .int .i64 proc, .int .i64 obj, .int .i64 kind, .int .i64 meth, .int .i64 arg, .int .i64 sec, .bool done, .int .i64 res, .int .i64 inv, .int .i64 ret]), .eq (.agg #[.int .i64 bid, .int .i64 proc, .int .i64 bobj, .int .i64 bkind, .int .i64 bmeth, .int .i64 barg, .int .i64 bsec, .bool bdone, .int .i64 bres, .int .i64 binv, .int .i64 bret]), .eq (.bool true), .eq (.bool false), .eq (.bool false), .eq (.bool false), .eq undef, .eq undef, .eq undef, .eq undef, .eq undef, .eq undef, .eq undef, .eq (.bool false)] (by kernel_rfl) (by kernel_rfl) (by kernel_rfl) ?_ ?_
                · simp only [relyGoals]
                  refine ⟨?_, ?_, ?_, ?_, ?_, ?_, ?_, ?_, ?_, ?_, ?_, ?_, ?_, ?_, ?_, ?_, ?_, ?_, ?_, ?_, ?_, ?_, ?_, ?_, ?_, ?_, ?_, ?_, ?_, ?_, ?_, ?_, ?_, ?_, ?_, ?_, trivial⟩
                  all_goals intro t w' hsz hg hdd hfr
                  all_goals simp only [depsDid, Did, perAt, List.getElem?_cons_zero, List.getElem?_cons_succ, List.getD_cons_zero, List.getD_cons_succ, Per.eq, Per.row, Per.of, and_true, Array.getD_eq_getD_getElem?] at hdd
                  · rw [if_pos (by rfl)]
                    try simp only [perAt, List.getD_cons_zero, List.getD_cons_succ, Per.eq, Per.row, Per.of]
                    have hs0 := hfr 0 (by kernel_rfl)
                    simp only [Array.getD_eq_getD_getElem?] at hs0
                    simp [execOp, Act.eval, hdd, hs0, relyUpon, go_sem, Grow.refl]
                  · rw [if_pos (by rfl)]
                    try simp only [perAt, List.getD_cons_zero, List.getD_cons_succ, Per.eq, Per.row, Per.of]
                    have hs6 := hfr 6 (by kernel_rfl)
                    simp only [Array.getD_eq_getD_getElem?] at hs6
                    simp [execOp, Act.eval, hdd, hs6, relyUpon, go_sem, Grow.refl]
                  · rw [if_pos (by rfl)]
                    try simp only [perAt, List.getD_cons_zero, List.getD_cons_succ, Per.eq, Per.row, Per.of]
                    simp [execOp, Act.eval, hdd, relyUpon, go_sem, Grow.refl, hlt, Grow.refl]
                  · rw [if_pos (by rfl)]
                    try simp only [perAt, List.getD_cons_zero, List.getD_cons_succ, Per.eq, Per.row, Per.of]
                    simp [execOp, Act.eval, hdd, relyUpon, go_sem, Grow.refl]
                  · rw [if_pos (by rfl)]
                    try simp only [perAt, List.getD_cons_zero, List.getD_cons_succ, Per.eq, Per.row, Per.of]
                    have kc := hg.cells
                    simp [execOp, Act.eval, hdd, relyUpon, go_sem, Grow.refl, kc, f0, f1, f2, f3, f4, f5, f6, f7, f8, f9, f10, c0, c1, c2, c3, c4, c5, c6, c7, c8, c9, c10, hob, zb, hk0, hk1]
                  · rw [if_pos (by rfl)]
                    try simp only [perAt, List.getD_cons_zero, List.getD_cons_succ, Per.eq, Per.row, Per.of]
                    have hs3 := hfr 3 (by kernel_rfl)
                    simp only [Array.getD_eq_getD_getElem?] at hs3
                    simp [execOp, Act.eval, hdd, hs3, relyUpon, go_sem, Grow.refl]
                  · rw [if_pos (by rfl)]
                    try simp only [perAt, List.getD_cons_zero, List.getD_cons_succ, Per.eq, Per.row, Per.of]
                    have kc := hg.cells
                    simp [execOp, Act.eval, hdd, relyUpon, go_sem, Grow.refl, kc, f0, f1, f2, f3, f4, f5, f6, f7, f8, f9, f10, c0, c1, c2, c3, c4, c5, c6, c7, c8, c9, c10, hob, zb, hk0, hk1]
                  · rw [if_pos (by rfl)]
                    try simp only [perAt, List.getD_cons_zero, List.getD_cons_succ, Per.eq, Per.row, Per.of]
                    simp [execOp, Act.eval, hdd, relyUpon, go_sem, Grow.refl, hh1, Grow.refl]
                  · rw [if_pos (by rfl)]
                    try simp only [perAt, List.getD_cons_zero, List.getD_cons_succ, Per.eq, Per.row, Per.of]
                    simp [execOp, Act.eval, hdd, relyUpon, go_sem, Grow.refl]
                  · rw [if_pos (by simp only [Region.wanted]; rw [yielded_of (d := 55) (b := true) rfl (by simp only [hdd])]; rfl)]
                    try simp only [perAt, List.getD_cons_zero, List.getD_cons_succ, Per.eq, Per.row, Per.of]
                    have hs0 := hfr 0 (by kernel_rfl)
                    simp only [Array.getD_eq_getD_getElem?] at hs0
                    simp [execOp, Act.eval, hdd, hs0, relyUpon, go_sem, Grow.refl]
                  · rw [if_pos (by simp only [Region.wanted]; rw [yielded_of (d := 55) (b := true) rfl (by simp only [hdd])]; rfl)]
                    try simp only [perAt, List.getD_cons_zero, List.getD_cons_succ, Per.eq, Per.row, Per.of]
                    have hs6 := hfr 6 (by kernel_rfl)
                    simp only [Array.getD_eq_getD_getElem?] at hs6
                    simp [execOp, Act.eval, hdd, hs6, relyUpon, go_sem, Grow.refl]
                  · rw [if_pos (by simp only [Region.wanted]; rw [yielded_of (d := 55) (b := true) rfl (by simp only [hdd])]; rfl)]
                    try simp only [perAt, List.getD_cons_zero, List.getD_cons_succ, Per.eq, Per.row, Per.of]
                    simp [execOp, Act.eval, hdd, relyUpon, go_sem, Grow.refl, hlt, Grow.refl]
                  · rw [if_pos (by simp only [Region.wanted]; rw [yielded_of (d := 55) (b := true) rfl (by simp only [hdd])]; rfl)]
                    try simp only [perAt, List.getD_cons_zero, List.getD_cons_succ, Per.eq, Per.row, Per.of]
                    simp [execOp, Act.eval, hdd, relyUpon, go_sem, Grow.refl]
                  · rw [if_pos (by simp only [Region.wanted]; rw [yielded_of (d := 55) (b := true) rfl (by simp only [hdd])]; rfl)]
                    try simp only [perAt, List.getD_cons_zero, List.getD_cons_succ, Per.eq, Per.row, Per.of]
                    have kc := hg.cells
                    simp [execOp, Act.eval, hdd, relyUpon, go_sem, Grow.refl, kc, f0, f1, f2, f3, f4, f5, f6, f7, f8, f9, f10, c0, c1, c2, c3, c4, c5, c6, c7, c8, c9, c10, hob, zb, hk0, hk1]
                  · rw [if_pos (by simp only [Region.wanted]; rw [yielded_of (d := 55) (b := true) rfl (by simp only [hdd])]; rfl)]
                    try simp only [perAt, List.getD_cons_zero, List.getD_cons_succ, Per.eq, Per.row, Per.of]
                    have hs3 := hfr 3 (by kernel_rfl)
                    simp only [Array.getD_eq_getD_getElem?] at hs3
                    simp [execOp, Act.eval, hdd, hs3, relyUpon, go_sem, Grow.refl]
                  · rw [if_pos (by simp only [Region.wanted]; rw [yielded_of (d := 55) (b := true) rfl (by simp only [hdd])]; rfl)]
                    try simp only [perAt, List.getD_cons_zero, List.getD_cons_succ, Per.eq, Per.row, Per.of]
                    have kc := hg.cells
                    simp [execOp, Act.eval, hdd, relyUpon, go_sem, Grow.refl, kc, f0, f1, f2, f3, f4, f5, f6, f7, f8, f9, f10, c0, c1, c2, c3, c4, c5, c6, c7, c8, c9, c10, hob, zb, hk0, hk1]
                  · rw [if_pos (by simp only [Region.wanted]; rw [yielded_of (d := 55) (b := true) rfl (by simp only [hdd])]; rfl)]
                    try simp only [perAt, List.getD_cons_zero, List.getD_cons_succ, Per.eq, Per.row, Per.of]
                    simp [execOp, Act.eval, hdd, relyUpon, go_sem, Grow.refl]
                  · rw [if_pos (by rfl)]
                    try simp only [perAt, List.getD_cons_zero, List.getD_cons_succ, Per.eq, Per.row, Per.of]
                    simp [execOp, Act.eval, hdd, relyUpon, go_sem, Grow.refl]
                  · rw [if_pos (by rfl)]
                    try simp only [perAt, List.getD_cons_zero, List.getD_cons_succ, Per.eq, Per.row, Per.of]
                    simp [execOp, Act.eval, hdd, relyUpon, go_sem, Grow.refl]
                  · rw [if_pos (by simp only [Region.wanted]; rw [yielded_of (d := 65) (b := true) rfl (by simp only [hdd])]; rfl)]
                    try simp only [perAt, List.getD_cons_zero, List.getD_cons_succ, Per.eq, Per.row, Per.of]
                    have hs0 := hfr 0 (by kernel_rfl)
                    simp only [Array.getD_eq_getD_getElem?] at hs0
                    simp [execOp, Act.eval, hdd, hs0, relyUpon, go_sem, Grow.refl]
                  · rw [if_pos (by simp only [Region.wanted]; rw [yielded_of (d := 65) (b := true) rfl (by simp only [hdd])]; rfl)]
                    try simp only [perAt, List.getD_cons_zero, List.getD_cons_succ, Per.eq, Per.row, Per.of]
                    have hs6 := hfr 6 (by kernel_rfl)
                    simp only [Array.getD_eq_getD_getElem?] at hs6
                    simp [execOp, Act.eval, hdd, hs6, relyUpon, go_sem, Grow.refl]
                  · rw [if_pos (by simp only [Region.wanted]; rw [yielded_of (d := 65) (b := true) rfl (by simp only [hdd])]; rfl)]
                    try simp only [perAt, List.getD_cons_zero, List.getD_cons_succ, Per.eq, Per.row, Per.of]
                    simp [execOp, Act.eval, hdd, relyUpon, go_sem, Grow.refl, hlt, Grow.refl]
                  · rw [if_pos (by simp only [Region.wanted]; rw [yielded_of (d := 65) (b := true) rfl (by simp only [hdd])]; rfl)]
                    try simp only [perAt, List.getD_cons_zero, List.getD_cons_succ, Per.eq, Per.row, Per.of]
                    have kc := hg.cells
                    simp [execOp, Act.eval, hdd, relyUpon, go_sem, Grow.refl, kc, f0, f1, f2, f3, f4, f5, f6, f7, f8, f9, f10, c0, c1, c2, c3, c4, c5, c6, c7, c8, c9, c10, hob, zb, hk0, hk1]
                  · rw [if_pos (by simp only [Region.wanted]; rw [yielded_of (d := 65) (b := true) rfl (by simp only [hdd])]; rfl)]
                    try simp only [perAt, List.getD_cons_zero, List.getD_cons_succ, Per.eq, Per.row, Per.of]
                    have hs3 := hfr 3 (by kernel_rfl)
                    simp only [Array.getD_eq_getD_getElem?] at hs3
                    have kc := hg.cells
                    simp [execOp, Act.eval, hdd, hs3, relyUpon, go_sem, Grow.refl, kc, f0, f1, f2, f3, f4, f5, f6, f7, f8, f9, f10, c0, c1, c2, c3, c4, c5, c6, c7, c8, c9, c10, hob, zb, hk0, hk1]
                  · rw [if_pos (by simp only [Region.wanted]; rw [yielded_of (d := 65) (b := true) rfl (by simp only [hdd])]; rfl)]
                    try simp only [perAt, List.getD_cons_zero, List.getD_cons_succ, Per.eq, Per.row, Per.of]
                    simp [execOp, Act.eval, hdd, relyUpon, go_sem]
                    refine (HX.out w').mono fun e w'' h => ?_
                    obtain ⟨h1, h2⟩ := h
                    have h3 : Grow w' w'' := by first | exact h2 | (rw [← h2]; exact Grow.refl _)
                    first | exact ⟨h3, h1⟩ | exact ⟨_, h1, h3, rfl⟩ | exact ⟨h1, h3⟩
                  · rw [if_pos (by simp only [Region.wanted]; rw [yielded_of (d := 65) (b := true) rfl (by simp only [hdd])]; rfl)]
                    try simp only [perAt, List.getD_cons_zero, List.getD_cons_succ, Per.eq, Per.row, Per.of]
                    simp [execOp, Act.eval, hdd, relyUpon, go_sem, Grow.refl]
                  · rw [if_pos (by rfl)]
                    try simp only [perAt, List.getD_cons_zero, List.getD_cons_succ, Per.eq, Per.row, Per.of]
                    simp [execOp, Act.eval, hdd, relyUpon, go_sem, Grow.refl]
                  · rw [if_pos (by rfl)]
                    try simp only [perAt, List.getD_cons_zero, List.getD_cons_succ, Per.eq, Per.row, Per.of]
                    simp [execOp, Act.eval, hdd, relyUpon, go_sem, Grow.refl]
                  · rw [if_neg (by simp only [Region.wanted]; rw [yielded_of (d := 74) (b := false) rfl (by simp only [hdd])]; decide)]
                    all_goals first | rfl | simp [perAt, Per.eq, Per.of, Per.row]
                  · rw [if_neg (by simp only [Region.wanted]; rw [yielded_of (d := 74) (b := false) rfl (by simp only [hdd])]; decide)]
                    all_goals first | rfl | simp [perAt, Per.eq, Per.of, Per.row]
                  · rw [if_neg (by simp only [Region.wanted]; rw [yielded_of (d := 74) (b := false) rfl (by simp only [hdd])]; decide)]
                    all_goals first | rfl | simp [perAt, Per.eq, Per.of, Per.row]
                  · rw [if_neg (by simp only [Region.wanted]; rw [yielded_of (d := 74) (b := false) rfl (by simp only [hdd])]; decide)]
                    all_goals first | rfl | simp [perAt, Per.eq, Per.of, Per.row]
                  · rw [if_neg (by simp only [Region.wanted]; rw [yielded_of (d := 74) (b := false) rfl (by simp only [hdd])]; decide)]
                    all_goals first | rfl | simp [perAt, Per.eq, Per.of, Per.row]
                  · rw [if_neg (by simp only [Region.wanted]; rw [yielded_of (d := 74) (b := false) rfl (by simp only [hdd])]; decide)]
                    all_goals first | rfl | simp [perAt, Per.eq, Per.of, Per.row]
                  · rw [if_neg (by simp only [Region.wanted]; rw [yielded_of (d := 74) (b := false) rfl (by simp only [hdd])]; decide)]
                    all_goals first | rfl | simp [perAt, Per.eq, Per.of, Per.row]
                  · rw [if_pos (by rfl)]
                    try simp only [perAt, List.getD_cons_zero, List.getD_cons_succ, Per.eq, Per.row, Per.of]
                    simp [execOp, Act.eval, hdd, relyUpon, go_sem, Grow.refl]
                intro wz hgz
                simp only [relyEnd, List.headD_cons, List.tail_cons, Per.eq, Per.row, Per.of]
                rintro _ rfl _ rfl _ rfl _ rfl _ rfl _ rfl _ rfl _ rfl _ rfl _ rfl _ rfl _ rfl _ rfl _ rfl _ rfl _ rfl _ rfl _ rfl _ rfl _ rfl _ rfl _ rfl _ rfl _ rfl _ rfl _ rfl _ rfl _ rfl _ rfl _ rfl _ rfl _ rfl _ rfl _ rfl _ rfl _ rfl
                go_simp
                go_wp2_with fail
                go_roundw
                case rel => exact ⟨j + 1, by omega, by go_num, HZ2, Grow.trans hg hgz⟩
                case measure => (simp [intOf]; try omega)
            · have q1 : (id != bid) = true := by simpa using hh1
              have q2 : (proc == bproc) = false := by simpa using hh2
              have HZ2 := hid (HZN.out (by simp [busyB, q1, q2]))
              clear hh1 hh2 HZN HZY hb1 hb2
              go_wp2_with fail
              go_quiet (fail)
              go_wp2_with fail
              go_roundw
              case rel => exact ⟨j + 1, by omega, by go_num, HZ2, Grow.drewNX hg _⟩
              case measure => (simp [intOf]; try omega)
        · obtain rfl : j = n := by omega
          have HRR := hid (HK3.out HFK.out (HF2.out HZ.out))
          go_wp2_with fail
          go_ret
          exact ⟨by rw [HRR.out]; rfl, Grow.trans HG1.out hg⟩
end Go.Proofs.Ytljimlaalebmaaa
