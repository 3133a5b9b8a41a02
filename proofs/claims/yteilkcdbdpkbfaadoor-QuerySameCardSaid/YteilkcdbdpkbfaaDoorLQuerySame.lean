/- The law of nodes that are the same: for every two nodes that came in; the tied card. The package variables are what the card ties to the program's text. -/
import Derived.Test.YteilkcdbdpkbfaaDoorQAwake
import Derived.Test.YteilkcdbdpkbfaaDoorQSize
import Derived.Test.YteilkcdbdpkbfaaDoorQOpen
import Derived.Test.YteilkcdbdpkbfaaDoorQLaid
import Derived.Test.YteilkcdbdpkbfaaDoorRely
import Derived.Test.YteilkcdbdpkbfaaDoorCards
import Derived.Test.YteilkcdbdpkbfaaDoorTie
import Derived.SevenTiedAt
namespace Go.Proofs.YteilkcdbdpkbfaaDoor
open Go.RowKit
set_option linter.unusedVariables false
set_option linter.unusedSimpArgs false
set_option maxRecDepth 100000 in
set_option maxHeartbeats 8000000 in
theorem Same_walk (a b : NodeR) (u v : Value) (w : World) (fa : a.Fit) (ia : a.In (fun _ => True) w u) (fb : b.Fit) (ib : b.In (fun _ => True) w v) (ht1 : tabSpace w) (ht2 : tabPow w) :
    Calls Tryd.prog 6 #[u, v] w fun e w' => e = .returned (.bool true) ∧ Below w.heap.size w w' := by
  obtain ⟨ak, ap, an, ac, af, as_, ax, rfl⟩ := NodeR.In.value ia
  obtain ⟨bk, bp, bn, bc, bf, bs, bx, rfl⟩ := NodeR.In.value ib
  have ZA := hid (fun w' (g : Grow w w') => Size_c a.wt a 0 _ _ w' (Nat.le_refl _) (by omega) fa (NodeR.In.grow g ia))
  have ZB := hid (fun w' (g : Grow w w') => Size_c b.wt b 0 _ _ w' (Nat.le_refl _) (by omega) fb (NodeR.In.grow g ib))
  have CS := hid (fun w' (g : Grow w w') => Same_c a.wt a b _ _ _ _ w' (Nat.le_refl _) fa (NodeR.In.grow g ia) (NodeR.In.grow g ib))
  have CR := hid (fun w' (g : Grow w w') => RSame_c a.wt a b _ _ _ _ w' (Nat.le_refl _) fa (NodeR.In.grow g ia) (NodeR.In.grow g ib))
  have CA := fun w' (g : Grow w w') => Same_c a.wt a a _ _ _ _ w' (Nat.le_refl _) fa (NodeR.In.grow g ia) (NodeR.In.grow g ia)
  rw [(sameN_iff a a).2 rfl] at CA
  replace CA := hid CA
  have HW := hid (fun w' (g : Grow w w') => awake_c w' (tab_grow ht1 g) (tab_grow ht2 g))
  have B0 := hid (sizeP_bnd 0 a fa)
  have B1 := hid (sizeP_bnd 0 b fb)
  generalize sizeP 0 a = sa at *
  generalize sizeP 0 b = sb at *
  generalize sameN a b = sm at *
  clear ia ib fa fb ht1 ht2
  have G0 := hid (Grow.trans (Grow.alloc w (.cells #[.int .i64 ak, .slice ap an ac, .string af, .string as_, .int .i64 ax] 24)) (Grow.alloc _ (.cells #[.int .i64 bk, .slice bp bn bc, .string bf, .string bs, .int .i64 bx] 24)))
  have hB1 := hid (heap_alloc_keep (heap_new w (.cells #[.int .i64 ak, .slice ap an ac, .string af, .string as_, .int .i64 ax] 24)) (.cells #[.int .i64 bk, .slice bp bn bc, .string bf, .string bs, .int .i64 bx] 24))
  have hB2 := hid (heap_newAt (w.alloc (.cells #[.int .i64 ak, .slice ap an ac, .string af, .string as_, .int .i64 ax] 24)) (.cells #[.int .i64 bk, .slice bp bn bc, .string bf, .string bs, .int .i64 bx] 24) (g := w.heap.size + 1) (by simp))
  have hb := G0.out
  go_enter Tryd.func6, Tryd.ntmps6
  go_wp2_with fail
  refine (ZA.out _ G0.out).mono ?_
  rintro e w1 ⟨rfl, g1⟩
  have hC1 := hid (g1.heap hB1.out)
  have hC2 := hid (g1.heap hB2.out)
  have G1 := hid (G0.out.trans g1)
  clear g1 hB1 hB2 G0 hb
  have b0 : w1.cell? ⟨w.heap.size + 1, 0, none⟩ = some (.int .i64 bk) := by rw [heap_cell hC2.out]; rfl
  have b1 : w1.cell? ⟨w.heap.size + 1, 1, none⟩ = some (.slice bp bn bc) := by rw [heap_cell hC2.out]; rfl
  have b2 : w1.cell? ⟨w.heap.size + 1, 2, none⟩ = some (.string bf) := by rw [heap_cell hC2.out]; rfl
  have b3 : w1.cell? ⟨w.heap.size + 1, 3, none⟩ = some (.string bs) := by rw [heap_cell hC2.out]; rfl
  have b4 : w1.cell? ⟨w.heap.size + 1, 4, none⟩ = some (.int .i64 bx) := by rw [heap_cell hC2.out]; rfl
  by_cases hs1 : 600 < sa
  · have hd1 : decide (600 < sa) = true := by simpa using hs1
    go_wp2_with fail
    refine (HW.out _ G1.out).mono ?_
    rintro e w2 ⟨rfl, g2⟩
    go_wp2_with fail
    go_ret
    exact ⟨rfl, G1.out.trans g2⟩
  · have hd1 : decide (600 < sa) = false := by simpa using hs1
    go_wp2_with fail
    refine (ZB.out _ G1.out).mono ?_
    rintro e w2 ⟨rfl, g2⟩
    have hD1 := hid (g2.heap hC1.out)
    have hD2 := hid (g2.heap hC2.out)
    have G2 := hid (G1.out.trans g2)
    clear g2 hC1 hC2 G1 b0 b1 b2 b3 b4
    by_cases hs2 : 600 < sb
    · have hd2 : decide (600 < sb) = true := by simpa using hs2
      go_wp2_with fail
      refine (HW.out _ G2.out).mono ?_
      rintro e w3 ⟨rfl, g3⟩
      go_wp2_with fail
      go_ret
      exact ⟨rfl, G2.out.trans g3⟩
    · have hd2 : decide (600 < sb) = false := by simpa using hs2
      go_wp2_with fail
      have b0 : w2.cell? ⟨w.heap.size + 1, 0, none⟩ = some (.int .i64 bk) := by rw [heap_cell hD2.out]; rfl
      have b1 : w2.cell? ⟨w.heap.size + 1, 1, none⟩ = some (.slice bp bn bc) := by rw [heap_cell hD2.out]; rfl
      have b2 : w2.cell? ⟨w.heap.size + 1, 2, none⟩ = some (.string bf) := by rw [heap_cell hD2.out]; rfl
      have b3 : w2.cell? ⟨w.heap.size + 1, 3, none⟩ = some (.string bs) := by rw [heap_cell hD2.out]; rfl
      have b4 : w2.cell? ⟨w.heap.size + 1, 4, none⟩ = some (.int .i64 bx) := by rw [heap_cell hD2.out]; rfl
      have a0 : w2.cell? ⟨w.heap.size, 0, none⟩ = some (.int .i64 ak) := by rw [heap_cell hD1.out]; rfl
      have a1 : w2.cell? ⟨w.heap.size, 1, none⟩ = some (.slice ap an ac) := by rw [heap_cell hD1.out]; rfl
      have a2 : w2.cell? ⟨w.heap.size, 2, none⟩ = some (.string af) := by rw [heap_cell hD1.out]; rfl
      have a3 : w2.cell? ⟨w.heap.size, 3, none⟩ = some (.string as_) := by rw [heap_cell hD1.out]; rfl
      have a4 : w2.cell? ⟨w.heap.size, 4, none⟩ = some (.int .i64 ax) := by rw [heap_cell hD1.out]; rfl
      refine wp_rely [.eq (.agg #[.int .i64 ak, .slice ap an ac, .string af, .string as_, .int .i64 ax]), .eq (.agg #[.int .i64 bk, .slice bp bn bc, .string bf, .string bs, .int .i64 bx]), .eq (.bool sm), .eq (.agg #[.int .i64 ak, .slice ap an ac, .string af, .string as_, .int .i64 ax]), .eq (.agg #[.int .i64 bk, .slice bp bn bc, .string bf, .string bs, .int .i64 bx]), .eq (.bool sm), .eq (.bool true), .eq (.bool true), .eq (.agg #[.int .i64 ak, .slice ap an ac, .string af, .string as_, .int .i64 ax]), .eq (.agg #[.int .i64 ak, .slice ap an ac, .string af, .string as_, .int .i64 ax]), .eq (.bool true), .eq (.bool true), .eq (.bool true), .eq (.bool true), .eq (.bool true), .eq (.bool true)] (by kernel_rfl) (by kernel_rfl) (by kernel_rfl) ?_ ?_
      · simp only [relyGoals]
        refine ⟨?_, ?_, ?_, ?_, ?_, ?_, ?_, ?_, ?_, ?_, ?_, ?_, ?_, ?_, ?_, ?_, trivial⟩
        all_goals intro t w' hsz hg hdd hfr
        all_goals simp only [depsDid, Did, perAt, List.getElem?_cons_zero, List.getElem?_cons_succ, List.getD_cons_zero, List.getD_cons_succ, Per.eq, Per.row, Per.of, and_true, Array.getD_eq_getD_getElem?] at hdd
        · rw [if_pos (by rfl)]
          try simp only [perAt, List.getD_cons_zero, List.getD_cons_succ, Per.eq, Per.row, Per.of]
          have hs2 := hfr 2 (by kernel_rfl)
          simp only [Array.getD_eq_getD_getElem?] at hs2
          have z0 := hg.cell a0
          have z1 := hg.cell a1
          have z2 := hg.cell a2
          have z3 := hg.cell a3
          have z4 := hg.cell a4
          simp [execOp, Act.eval, hdd, hs2, relyUpon, go_sem, Grow.refl, z0, z1, z2, z3, z4]
        · rw [if_pos (by rfl)]
          try simp only [perAt, List.getD_cons_zero, List.getD_cons_succ, Per.eq, Per.row, Per.of]
          have hs3 := hfr 3 (by kernel_rfl)
          simp only [Array.getD_eq_getD_getElem?] at hs3
          have z0 := hg.cell b0
          have z1 := hg.cell b1
          have z2 := hg.cell b2
          have z3 := hg.cell b3
          have z4 := hg.cell b4
          simp [execOp, Act.eval, hdd, hs3, relyUpon, go_sem, Grow.refl, z0, z1, z2, z3, z4]
        · rw [if_pos (by rfl)]
          try simp only [perAt, List.getD_cons_zero, List.getD_cons_succ, Per.eq, Per.row, Per.of]
          simp [execOp, Act.eval, hdd, relyUpon, go_sem]
          refine (CS.out w' (G2.out.trans hg)).mono fun e w'' h => ?_
          obtain ⟨h1, h2⟩ := h
          have h3 : Grow w' w'' := by first | exact h2 | (rw [← h2]; exact Grow.refl _)
          first | exact ⟨h3, h1⟩ | exact ⟨_, h1, h3, rfl⟩ | exact ⟨h1, h3⟩
        · rw [if_pos (by rfl)]
          try simp only [perAt, List.getD_cons_zero, List.getD_cons_succ, Per.eq, Per.row, Per.of]
          have hs2 := hfr 2 (by kernel_rfl)
          simp only [Array.getD_eq_getD_getElem?] at hs2
          have z0 := hg.cell a0
          have z1 := hg.cell a1
          have z2 := hg.cell a2
          have z3 := hg.cell a3
          have z4 := hg.cell a4
          simp [execOp, Act.eval, hdd, hs2, relyUpon, go_sem, Grow.refl, z0, z1, z2, z3, z4]
        · rw [if_pos (by rfl)]
          try simp only [perAt, List.getD_cons_zero, List.getD_cons_succ, Per.eq, Per.row, Per.of]
          have hs3 := hfr 3 (by kernel_rfl)
          simp only [Array.getD_eq_getD_getElem?] at hs3
          have z0 := hg.cell b0
          have z1 := hg.cell b1
          have z2 := hg.cell b2
          have z3 := hg.cell b3
          have z4 := hg.cell b4
          simp [execOp, Act.eval, hdd, hs3, relyUpon, go_sem, Grow.refl, z0, z1, z2, z3, z4]
        · rw [if_pos (by rfl)]
          try simp only [perAt, List.getD_cons_zero, List.getD_cons_succ, Per.eq, Per.row, Per.of]
          simp [execOp, Act.eval, hdd, relyUpon, go_sem]
          refine (CR.out w' (G2.out.trans hg)).mono fun e w'' h => ?_
          obtain ⟨h1, h2⟩ := h
          have h3 : Grow w' w'' := by first | exact h2 | (rw [← h2]; exact Grow.refl _)
          first | exact ⟨h3, h1⟩ | exact ⟨_, h1, h3, rfl⟩ | exact ⟨h1, h3⟩
        · rw [if_pos (by rfl)]
          try simp only [perAt, List.getD_cons_zero, List.getD_cons_succ, Per.eq, Per.row, Per.of]
          simp [execOp, Act.eval, hdd, relyUpon, go_sem, Grow.refl]
        · rw [if_pos (by rfl)]
          try simp only [perAt, List.getD_cons_zero, List.getD_cons_succ, Per.eq, Per.row, Per.of]
          simp [execOp, Act.eval, hdd, relyUpon, go_sem, Grow.refl]
        · rw [if_pos (by simp only [Region.wanted]; rw [yielded_of (d := 21) (b := true) rfl (by simp only [hdd])]; rfl)]
          try simp only [perAt, List.getD_cons_zero, List.getD_cons_succ, Per.eq, Per.row, Per.of]
          have hs2 := hfr 2 (by kernel_rfl)
          simp only [Array.getD_eq_getD_getElem?] at hs2
          have z0 := hg.cell a0
          have z1 := hg.cell a1
          have z2 := hg.cell a2
          have z3 := hg.cell a3
          have z4 := hg.cell a4
          simp [execOp, Act.eval, hdd, hs2, relyUpon, go_sem, Grow.refl, z0, z1, z2, z3, z4]
        · rw [if_pos (by simp only [Region.wanted]; rw [yielded_of (d := 21) (b := true) rfl (by simp only [hdd])]; rfl)]
          try simp only [perAt, List.getD_cons_zero, List.getD_cons_succ, Per.eq, Per.row, Per.of]
          have hs2 := hfr 2 (by kernel_rfl)
          simp only [Array.getD_eq_getD_getElem?] at hs2
          have z0 := hg.cell a0
          have z1 := hg.cell a1
          have z2 := hg.cell a2
          have z3 := hg.cell a3
          have z4 := hg.cell a4
          simp [execOp, Act.eval, hdd, hs2, relyUpon, go_sem, Grow.refl, z0, z1, z2, z3, z4]
        · rw [if_pos (by simp only [Region.wanted]; rw [yielded_of (d := 21) (b := true) rfl (by simp only [hdd])]; rfl)]
          try simp only [perAt, List.getD_cons_zero, List.getD_cons_succ, Per.eq, Per.row, Per.of]
          simp [execOp, Act.eval, hdd, relyUpon, go_sem]
          refine (CA.out w' (G2.out.trans hg)).mono fun e w'' h => ?_
          obtain ⟨h1, h2⟩ := h
          have h3 : Grow w' w'' := by first | exact h2 | (rw [← h2]; exact Grow.refl _)
          first | exact ⟨h3, h1⟩ | exact ⟨_, h1, h3, rfl⟩ | exact ⟨h1, h3⟩
        · rw [if_pos (by rfl)]
          try simp only [perAt, List.getD_cons_zero, List.getD_cons_succ, Per.eq, Per.row, Per.of]
          simp [execOp, Act.eval, hdd, relyUpon, go_sem, Grow.refl]
        · rw [if_pos (by rfl)]
          try simp only [perAt, List.getD_cons_zero, List.getD_cons_succ, Per.eq, Per.row, Per.of]
          simp [execOp, Act.eval, hdd, relyUpon, go_sem, Grow.refl]
        · rw [if_pos (by simp only [Region.wanted]; rw [yielded_of (d := 26) (b := true) rfl (by simp only [hdd])]; rfl)]
          try simp only [perAt, List.getD_cons_zero, List.getD_cons_succ, Per.eq, Per.row, Per.of]
          simp [execOp, Act.eval, hdd, relyUpon, go_sem]
          refine (HW.out w' (G2.out.trans hg)).mono fun e w'' h => ?_
          obtain ⟨h1, h2⟩ := h
          have h3 : Grow w' w'' := by first | exact h2 | (rw [← h2]; exact Grow.refl _)
          first | exact ⟨h3, h1⟩ | exact ⟨_, h1, h3, rfl⟩ | exact ⟨h1, h3⟩
        · rw [if_pos (by rfl)]
          try simp only [perAt, List.getD_cons_zero, List.getD_cons_succ, Per.eq, Per.row, Per.of]
          simp [execOp, Act.eval, hdd, relyUpon, go_sem, Grow.refl]
        · rw [if_pos (by rfl)]
          try simp only [perAt, List.getD_cons_zero, List.getD_cons_succ, Per.eq, Per.row, Per.of]
          simp [execOp, Act.eval, hdd, relyUpon, go_sem, Grow.refl]
      intro wz hgz
      simp only [relyEnd, List.headD_cons, List.tail_cons, Per.eq, Per.row, Per.of]
      rintro _ rfl _ rfl _ rfl _ rfl _ rfl _ rfl _ rfl _ rfl _ rfl _ rfl _ rfl _ rfl _ rfl _ rfl _ rfl _ rfl
      go_simp
      go_wp2_with fail
      go_ret
      exact ⟨rfl, G2.out.trans hgz⟩
namespace LawQuerySame
open Go.ChangeShapes Go.WideShapes Go.ChangeAt Go.RowKit
open Go.ChangeMaps (open_string shut_string)
theorem own : ownKnob Tryd.prog.godebug = none := by kernel_rfl
theorem laidOut : laidOutB Tryd.prog = true := by kernel_rfl
set_option maxRecDepth 100000 in
theorem lifted (os : Os) (started : os.Started) (H : Type) (enc : TypeId × Value → H) :
    ReturnsInHanded {} Tryd.checked os 6 .any (fun w args => (Rows.querySameSpec.pre enc Tryd.prog Tryd.f6 [] false w args ∧ laidMetH Tryd.prog laidL w) ∧ sizedMet enc Tryd.prog Tryd.f6 (OpenSpec.ofChange Rows.querySameSpec) false w args) (Rows.querySameSpec.post enc Tryd.prog Tryd.f6 false true false false) := by
  refine returnsInHanded_of_change_and (C := Tryd.checked) (X := fun w _ => laidMetH Tryd.prog laidL w) (fun _ _ _ hh h => h.of_heap hh) own started (by kernel_rfl) Tryd.func6
    (ChangeSpec.witness_shaped (enc := enc) (C := Tryd.checked) (os := os) (X := fun w _ => laidMetH Tryd.prog laidL w) false (World.doorLaid Tryd.prog 48 os) #[.agg #[.int .i64 0, .slice none 0 0, .string ByteArray.empty, .string ByteArray.empty, .int .i64 0], .agg #[.int .i64 0, .slice none 0 0, .string ByteArray.empty, .string ByteArray.empty, .int .i64 0]] 8 rfl (World.shaped_of_RefB (by kernel_rfl) (by kernel_rfl)) (by kernel_rfl) (by kernel_rfl) (by kernel_rfl) (door_met os _)) ?_
  intro W base args ds gs before hval0 hW hcnd hsz hL _
  have hval : ∀ (j : Nat) t v, Tryd.f6.params[j]? = some t → args[j]? = some v → Value.okWide Tryd.prog W .any base t v := hval0
  obtain ⟨ht1, ht2⟩ := tabs_of_laid hL
  have hW' := hW
  obtain ⟨p, q, hA0, hV, rfl, hfz, hnd⟩ := hW
  have hA : DataW.TrodAll enc Tryd.prog W 0 (fun _ => true) true Tryd.f6.params.toList args.toList ds p := hA0
  rw [Tryd.params6] at hA hval hsz
  obtain ⟨v0, vs0, d0, ds0, p0, q0, hargs, rfl, rfl, h0, r0⟩ := trodAll_cons hA
  obtain ⟨v1, vs1, d1, ds1, p1, q1, rfl, rfl, rfl, h1, r1⟩ := trodAll_cons r0
  obtain ⟨rfl, rfl, rfl⟩ := trodAll_nil r1
  obtain rfl : args = #[v0, v1] := by cases args; simp_all
  obtain ⟨rfl, rfl⟩ := trodVars_none hV
  have k0 := h0
  have lt0 : ∀ x ∈ p0, x.block < W.heap.size := by obtain ⟨m, hm⟩ := k0; exact DataW.trod_lt m _ _ _ hm
  have hz0 : ∀ n ∈ d0.weights Tryd.prog 24, n ≤ reachBytes := fun n hn => by
    have := List.all_eq_true.1 hsz n (DataW.weights_mem_each (j := 0) (t := 24) rfl rfl n hn)
    simpa using this
  obtain ⟨a0, w0, f0⟩ := open_node (hval 0 24 v0 rfl rfl) h0 hz0
  have k1 := h1
  have lt1 : ∀ x ∈ p1, x.block < W.heap.size := by obtain ⟨m, hm⟩ := k1; exact DataW.trod_lt m _ _ _ hm
  have hz1 : ∀ n ∈ d1.weights Tryd.prog 24, n ≤ reachBytes := fun n hn => by
    have := List.all_eq_true.1 hsz n (DataW.weights_mem_each (j := 1) (t := 24) rfl rfl n hn)
    simpa using this
  obtain ⟨a1, w1, f1⟩ := open_node (hval 1 24 v1 rfl rfl) h1 hz1
  clear hA0 hval0
  refine (Same_walk a0 a1 v0 v1 W f0 w0 f1 w1 ht1 ht2).mono fun e W' ⟨he, bel⟩ => ?_
  subst he
  exact ⟨_, rfl, _, _, _, [], _, [], hW', trodAll_mk1 (shut_bool Tryd.underlying4 _), (trodAll_cons_mk (Below.trod laidOut (by kernel_rfl) (of_decide_eq_true (by kernel_rfl)) k0 bel lt0) (trodAll_cons_mk (Below.trod laidOut (by kernel_rfl) (of_decide_eq_true (by kernel_rfl)) k1 bel lt1) trodAll_mk0)), rfl, bel.frame _, fun h => by cases h⟩
theorem over : Rows.querySameRow.holds Tryd.pinned (OpenSpec.ofChange Rows.querySameSpec) :=
  OpenClaim.holds_of_wide 6 Tryd.f6 rfl rfl rfl rfl rfl rfl rfl ⟨rfl, rfl, rfl, rfl, rfl⟩ rfl rfl rfl rfl rfl (by kernel_rfl) Tryd.func6 (by kernel_rfl)
    (of_decide_eq_true (by kernel_rfl)) (by unfold Func.isWrapper; first | (rw [if_pos (by decide +kernel)]; kernel_rfl) | (rw [if_neg (by decide +kernel)]; exact ⟨rfl, rfl⟩))
    (fun os started H enc _ => lifted os started H enc)
end LawQuerySame
/-- The given statement: the tied card. -/
theorem querySame_proved : Rows.QuerySameCardSaid :=
  Claim7.holds_tied_plain_at .later [] [.data, .data, .data, .listed, .data] true (true, "95201100b90d23e864d10c69b3da32f70030d937e4d7b485caf5136514669ad6") true
    LawQuerySame.over (fun _ h => by cases h) (by kernel_rfl) (fun _ h => by cases h) querySame_row_tie rfl ⟨rfl, rfl⟩ (by kernel_rfl) rfl
    (fun f fn hf hfn => by
      obtain rfl : f = 6 := Option.some.inj ((show Tryd.prog.funcNamed Rows.querySameRow.func = some 6 by kernel_rfl).symm.trans hf) |>.symm
      obtain rfl : fn = Tryd.f6 := (Option.some.inj (Tryd.func6.symm.trans hfn)).symm
      exact ⟨by kernel_rfl, fun j t ht => by
        rw [Tryd.params6] at ht
        have hm : t ∈ [24, 24] := by simpa using Array.mem_of_getElem? ht
        have hall : ([24, 24].all fun u => !Tryd.prog.wantsStandIn u) = true := by kernel_rfl
        exact (show Tryd.prog.wantsStandIn t = false by simpa using List.all_eq_true.1 hall t hm)⟩)
    (by kernel_rfl)
#print axioms querySame_proved
end Go.Proofs.YteilkcdbdpkbfaaDoor
