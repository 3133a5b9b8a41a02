/- Nodes are compared, the walks. -/
import Derived.Test.YteilkcdbdpkbfaaDoorQSameP
import Derived.Test.YteilkcdbdpkbfaaDoorTextTail
namespace Go.Proofs.YteilkcdbdpkbfaaDoor
open Go.RowKit
set_option linter.unusedVariables false
set_option linter.unusedSimpArgs false
theorem toList_injQ {a b : ByteArray} (h : a.toList = b.toList) : a = b := by
  apply ByteArray.ext
  apply Array.ext'
  simpa [ByteArray.toList_eq] using h
theorem str_neQ {a b : ByteArray} (h : a ≠ b) : (a.toList == b.toList) = false := by
  simpa using fun e => h (toList_injQ e)
set_option maxRecDepth 100000 in
set_option maxHeartbeats 8000000 in
theorem Same_c : ∀ (fuel : Nat) (a b : NodeR) (S T : Nat → Prop) (u v : Value) (w : World), a.wt ≤ fuel → a.Fit → a.In S w u → b.In T w v →
    Calls Tryd.prog 14 #[u, v] w fun e w' => e = .returned (.bool (sameN a b)) ∧ Grow w w' := by
  intro fuel
  induction fuel with
  | zero => intro a b S T u v w hw; cases a; simp [NodeR.wt] at hw
  | succ fuel ih =>
    intro a b S T u v w hw hfit ha hb
    have IH := hid ih
    obtain ⟨k, ks, f, s, x⟩ := a
    obtain ⟨k', ks', f', s', x'⟩ := b
    obtain ⟨ak, ap, an, ac, af, as_, ax, rfl⟩ := NodeR.In.value ha
    obtain ⟨bk, bp, bn, bc, bf, bs, bx, rfl⟩ := NodeR.In.value hb
    obtain ⟨rfl, rfl, rfl, rfl, rfl, hac, hak⟩ := ha.kid
    obtain ⟨rfl, rfl, rfl, rfl, rfl, hbc, hbk⟩ := hb.kid
    unfold NodeR.Fit at hfit
    obtain ⟨-, -, -, -, hlen, hkf⟩ := hfit
    have hwt : wtL ks ≤ fuel := by simp only [NodeR.wt] at hw; omega
    have HK := hid hak
    have HB := hid hbk
    have HF := hid hkf
    have HW := hid hwt
    clear ha hb hak hbk hkf hwt hw ih
    by_cases hk : ak = bk
    rotate_left
    · have hsame := hid (show sameN (.mk ak ks af as_ ax) (.mk bk ks' bf bs bx) = false from by simp [sameN, hk])
      have hd : (ak != bk) = true := by simpa using hk
      clear HK HB HF HW IH
      go_enter Tryd.func14, Tryd.ntmps14
      go_wp2_with fail
      go_ret
      exact ⟨by rw [hsame.out]; rfl, Grow.trans (Grow.alloc _ _) (Grow.alloc _ _)⟩
    subst hk
    by_cases hl : ks.length = ks'.length
    rotate_left
    · have hsame := hid (show sameN (.mk ak ks af as_ ax) (.mk ak ks' bf bs bx) = false from by simp [sameN, hl])
      have hd : ((ks.length : Int) != (ks'.length : Int)) = true := by simp; omega
      clear HK HB HF HW IH
      go_enter Tryd.func14, Tryd.ntmps14
      go_wp2_with fail
      go_ret
      exact ⟨by rw [hsame.out]; rfl, Grow.trans (Grow.alloc _ _) (Grow.alloc _ _)⟩
    have hl0 : ((ks.length : Int) != (ks'.length : Int)) = false := by simp; omega
    by_cases hf : af = bf
    rotate_left
    · have hsame := hid (show sameN (.mk ak ks af as_ ax) (.mk ak ks' bf bs bx) = false from by simp [sameN, hf])
      have hd : (af.toList == bf.toList) = false := str_neQ hf
      have hd2 : ¬af.toList = bf.toList := fun e => hf (toList_injQ e)
      clear HK HB HF HW IH
      go_enter Tryd.func14, Tryd.ntmps14
      go_wp2_with fail
      go_ret
      exact ⟨by rw [hsame.out]; rfl, Grow.trans (Grow.alloc _ _) (Grow.alloc _ _)⟩
    subst hf
    by_cases hs : as_ = bs
    rotate_left
    · have hsame := hid (show sameN (.mk ak ks af as_ ax) (.mk ak ks' af bs bx) = false from by simp [sameN, hs])
      have hd : (as_.toList == bs.toList) = false := str_neQ hs
      have hd2 : ¬as_.toList = bs.toList := fun e => hs (toList_injQ e)
      clear HK HB HF HW IH
      go_enter Tryd.func14, Tryd.ntmps14
      go_wp2_with fail
      go_ret
      exact ⟨by rw [hsame.out]; rfl, Grow.trans (Grow.alloc _ _) (Grow.alloc _ _)⟩
    subst hs
    by_cases hx : ax = bx
    rotate_left
    · have hsame := hid (show sameN (.mk ak ks af as_ ax) (.mk ak ks' af as_ bx) = false from by simp [sameN, hx])
      have hd : (ax != bx) = true := by simpa using hx
      clear HK HB HF HW IH
      go_enter Tryd.func14, Tryd.ntmps14
      go_wp2_with fail
      go_ret
      exact ⟨by rw [hsame.out]; rfl, Grow.trans (Grow.alloc _ _) (Grow.alloc _ _)⟩
    subst hx
    have hsame := hid (fun (b' : Bool) (h : sameL ks ks' = b') => show sameN (.mk ak ks af as_ ax) (.mk ak ks' af as_ ax) = b' from by simp [sameN, hl, h])
    have hl1 := hid hl
    have hn9 : (ks.length : Int) ≤ 140737488351232 := by omega
    have hB1 := hid (heap_alloc_keep (heap_new w (.cells #[.int .i64 ak, .slice ap ks.length ac, .string af, .string as_, .int .i64 ax] 24)) (.cells #[.int .i64 ak, .slice bp ks'.length bc, .string af, .string as_, .int .i64 ax] 24))
    have hB2 := hid (heap_newAt (w.alloc (.cells #[.int .i64 ak, .slice ap ks.length ac, .string af, .string as_, .int .i64 ax] 24)) (.cells #[.int .i64 ak, .slice bp ks'.length bc, .string af, .string as_, .int .i64 ax] 24) (g := w.heap.size + 1) (by simp))
    have G0 := hid (Grow.trans (Grow.alloc w (.cells #[.int .i64 ak, .slice ap ks.length ac, .string af, .string as_, .int .i64 ax] 24)) (Grow.alloc _ (.cells #[.int .i64 ak, .slice bp ks'.length bc, .string af, .string as_, .int .i64 ax] 24)))
    clear hl hlen
    go_enter Tryd.func14, Tryd.ntmps14
    go_wp2_with fail
    generalize (w.alloc (.cells #[.int .i64 ak, .slice ap ks.length ac, .string af, .string as_, .int .i64 ax] 24)).alloc (.cells #[.int .i64 ak, .slice bp ks'.length bc, .string af, .string as_, .int .i64 ax] 24) = w0 at *
    generalize hws : w.heap.size = H at *
    replace hws := hid hws
    go_loopw [44] (fun i wr => ∃ j : Nat, j ≤ ks.length ∧ i = .int .i64 (j : Int) ∧ Hid (Grow w0 wr) ∧ Hid (∀ q (h : q < ks.length) (h' : q < ks'.length), q < j → sameN ks[q] ks'[q] = true)) (fun i _ => ks.length - (intOf i).toNat)
    case atStart => exact ⟨0, by omega, rfl, hid (Grow.refl _), hid (fun q _ _ h => by omega)⟩
    case round =>
      obtain ⟨j, hj, rfl, HG, HS⟩ := hrel
      have c1 : wr.cell? ⟨H, 1, none⟩ = some (.slice ap ks.length ac) := by rw [heap_cell (HG.out.heap hB1.out)]; rfl
      have c2 : wr.cell? ⟨H + 1, 1, none⟩ = some (.slice bp ks'.length bc) := by rw [heap_cell (HG.out.heap hB2.out)]; rfl
      have hz := heap_lt (HG.out.heap hB2.out)
      by_cases hlt : j < ks.length
      · obtain ⟨b1, o1, rfl, hb1, hc1⟩ := HK.out (by omega)
        obtain ⟨b2, o2, rfl, hb2, hc2⟩ := HB.out (by have := hl1.out; omega)
        have hlt2 : j < ks'.length := by have := hl1.out; omega
        obtain ⟨ck, cp, cn, cc, cf, cs, cx, d0, d1, d2, d3, d4, hin1⟩ := hc1 j hlt
        obtain ⟨ck', cp', cn', cc', cf', cs', cx', e0, e1, e2, e3, e4, hin2⟩ := hc2 j hlt2
        have GG := G0.out.trans HG.out
        replace d0 := GG.cell d0
        replace d1 := GG.cell d1
        replace d2 := GG.cell d2
        replace d3 := GG.cell d3
        replace d4 := GG.cell d4
        replace e0 := GG.cell e0
        replace e1 := GG.cell e1
        replace e2 := GG.cell e2
        replace e3 := GG.cell e3
        replace e4 := GG.cell e4
        have CC := hid (fun (w5 : World) (g : Grow wr w5) => IH.out ks[j] ks'[j] S T _ _ w5 (Nat.le_trans (wtL_at ks j hlt) HW.out) (kidsFit_at ks j hlt HF.out) (NodeR.In.grow (GG.trans g) hin1) (NodeR.In.grow (GG.trans g) hin2))
        have i1 : (j : Int) < (ks.length : Int) := by omega
        have i2 : (j : Int) < (ks'.length : Int) := by omega
        have i0 : (0 : Int) ≤ (j : Int) := by omega
        clear hc1 hc2 hin1 hin2 GG
        go_wp2_with fail
        go_still_tail 10, (by kernel_rfl)
        go_wp2_with fail
        refine (CC.out _ (Grow.drew _)).mono ?_
        rintro e w5 ⟨rfl, g5⟩
        have G5 := hid ((Grow.drew wr).trans g5)
        clear g5 CC d0 d1 d2 d3 d4 e0 e1 e2 e3 e4 c1 c2
        cases hr : sameN ks[j] ks'[j] with
        | false =>
          have hF := hid (hsame.out false (sameL_not ks ks' j hlt hlt2 hr))
          clear hr
          go_wp2_with fail
          go_ret
          exact ⟨by rw [hF.out]; rfl, (G0.out.trans HG.out).trans G5.out⟩
        | true =>
          have HS2 := hid (show ∀ q (h : q < ks.length) (h' : q < ks'.length), q < j + 1 → sameN ks[q] ks'[q] = true from fun q h h' hq => by
            rcases Nat.lt_or_ge q j with h1 | h1
            · exact HS.out q h h' h1
            · obtain rfl : q = j := by omega
              exact hr)
          have hjj := hid hlt
          clear hr HS
          go_wp2_with fail
          go_roundw
          case rel => exact ⟨j + 1, by omega, by go_num, hid (HG.out.trans G5.out), HS2⟩
          case measure => simp [intOf]; omega
      · obtain rfl : j = ks.length := by omega
        have hF := hid (hsame.out true (sameL_at ks ks' hl1.out (fun i h h' => HS.out i h h' h)))
        clear HS
        go_wp2_with fail
        go_ret
        exact ⟨by rw [hF.out]; rfl, G0.out.trans HG.out⟩
set_option maxRecDepth 100000 in
set_option maxHeartbeats 8000000 in
theorem RSame_c : ∀ (fuel : Nat) (a b : NodeR) (S T : Nat → Prop) (u v : Value) (w : World), a.wt ≤ fuel → a.Fit → a.In S w u → b.In T w v →
    Calls Tryd.prog 15 #[u, v] w fun e w' => e = .returned (.bool (sameN a b)) ∧ Grow w w' := by
  intro fuel
  induction fuel with
  | zero => intro a b S T u v w hw; cases a; simp [NodeR.wt] at hw
  | succ fuel ih =>
    intro a b S T u v w hw hfit ha hb
    have IH := hid ih
    obtain ⟨k, ks, f, s, x⟩ := a
    obtain ⟨k', ks', f', s', x'⟩ := b
    obtain ⟨ak, ap, an, ac, af, as_, ax, rfl⟩ := NodeR.In.value ha
    obtain ⟨bk, bp, bn, bc, bf, bs, bx, rfl⟩ := NodeR.In.value hb
    obtain ⟨rfl, rfl, rfl, rfl, rfl, hac, hak⟩ := ha.kid
    obtain ⟨rfl, rfl, rfl, rfl, rfl, hbc, hbk⟩ := hb.kid
    unfold NodeR.Fit at hfit
    obtain ⟨-, -, -, -, hlen, hkf⟩ := hfit
    have hwt : wtL ks ≤ fuel := by simp only [NodeR.wt] at hw; omega
    have HK := hid hak
    have HB := hid hbk
    have HF := hid hkf
    have HW := hid hwt
    clear ha hb hak hbk hkf hwt hw ih
    by_cases hk : ak = bk
    rotate_left
    · have hsame := hid (show sameN (.mk ak ks af as_ ax) (.mk bk ks' bf bs bx) = false from by simp [sameN, hk])
      have hd : (ak != bk) = true := by simpa using hk
      clear HK HB HF HW IH
      go_enter Tryd.func15, Tryd.ntmps15
      go_wp2_with fail
      go_ret
      exact ⟨by rw [hsame.out]; rfl, Grow.trans (Grow.alloc _ _) (Grow.alloc _ _)⟩
    subst hk
    by_cases hf : af = bf
    rotate_left
    · have hsame := hid (show sameN (.mk ak ks af as_ ax) (.mk ak ks' bf bs bx) = false from by simp [sameN, hf])
      have hd : (af.toList == bf.toList) = false := str_neQ hf
      have hd2 : ¬af.toList = bf.toList := fun e => hf (toList_injQ e)
      clear HK HB HF HW IH
      go_enter Tryd.func15, Tryd.ntmps15
      go_wp2_with fail
      go_ret
      exact ⟨by rw [hsame.out]; rfl, Grow.trans (Grow.alloc _ _) (Grow.alloc _ _)⟩
    subst hf
    by_cases hs : as_ = bs
    rotate_left
    · have hsame := hid (show sameN (.mk ak ks af as_ ax) (.mk ak ks' af bs bx) = false from by simp [sameN, hs])
      have hd : (as_.toList == bs.toList) = false := str_neQ hs
      have hd2 : ¬as_.toList = bs.toList := fun e => hs (toList_injQ e)
      clear HK HB HF HW IH
      go_enter Tryd.func15, Tryd.ntmps15
      go_wp2_with fail
      go_ret
      exact ⟨by rw [hsame.out]; rfl, Grow.trans (Grow.alloc _ _) (Grow.alloc _ _)⟩
    subst hs
    by_cases hx : ax = bx
    rotate_left
    · have hsame := hid (show sameN (.mk ak ks af as_ ax) (.mk ak ks' af as_ bx) = false from by simp [sameN, hx])
      have hd : (ax != bx) = true := by simpa using hx
      clear HK HB HF HW IH
      go_enter Tryd.func15, Tryd.ntmps15
      go_wp2_with fail
      go_ret
      exact ⟨by rw [hsame.out]; rfl, Grow.trans (Grow.alloc _ _) (Grow.alloc _ _)⟩
    subst hx
    by_cases hl : ks.length = ks'.length
    rotate_left
    · have hsame := hid (show sameN (.mk ak ks af as_ ax) (.mk ak ks' af as_ ax) = false from by simp [sameN, hl])
      have hd : ((ks.length : Int) != (ks'.length : Int)) = true := by simp; omega
      clear HK HB HF HW IH
      go_enter Tryd.func15, Tryd.ntmps15
      go_wp2_with fail
      go_ret
      exact ⟨by rw [hsame.out]; rfl, Grow.trans (Grow.alloc _ _) (Grow.alloc _ _)⟩
    have hl0 : ((ks.length : Int) != (ks'.length : Int)) = false := by simp; omega
    have hsame := hid (fun (b' : Bool) (h : sameL ks ks' = b') => show sameN (.mk ak ks af as_ ax) (.mk ak ks' af as_ ax) = b' from by simp [sameN, hl, h])
    have hl1 := hid hl
    have hn9 : (ks.length : Int) ≤ 140737488351232 := by omega
    have hB1 := hid (heap_alloc_keep (heap_new w (.cells #[.int .i64 ak, .slice ap ks.length ac, .string af, .string as_, .int .i64 ax] 24)) (.cells #[.int .i64 ak, .slice bp ks'.length bc, .string af, .string as_, .int .i64 ax] 24))
    have hB2 := hid (heap_newAt (w.alloc (.cells #[.int .i64 ak, .slice ap ks.length ac, .string af, .string as_, .int .i64 ax] 24)) (.cells #[.int .i64 ak, .slice bp ks'.length bc, .string af, .string as_, .int .i64 ax] 24) (g := w.heap.size + 1) (by simp))
    have G0 := hid (Grow.trans (Grow.alloc w (.cells #[.int .i64 ak, .slice ap ks.length ac, .string af, .string as_, .int .i64 ax] 24)) (Grow.alloc _ (.cells #[.int .i64 ak, .slice bp ks'.length bc, .string af, .string as_, .int .i64 ax] 24)))
    clear hl hlen
    go_enter Tryd.func15, Tryd.ntmps15
    go_wp2_with fail
    generalize (w.alloc (.cells #[.int .i64 ak, .slice ap ks.length ac, .string af, .string as_, .int .i64 ax] 24)).alloc (.cells #[.int .i64 ak, .slice bp ks'.length bc, .string af, .string as_, .int .i64 ax] 24) = w0 at *
    generalize hws : w.heap.size = H at *
    replace hws := hid hws
    go_loopw [5] (fun i wr => ∃ j : Nat, j ≤ ks.length ∧ i = .int .i64 (j : Int) ∧ Hid (Grow w0 wr) ∧ Hid (∀ q (h : q < ks.length) (h' : q < ks'.length), q < j → sameN ks[q] ks'[q] = true)) (fun i _ => ks.length - (intOf i).toNat)
    case atStart => exact ⟨0, by omega, rfl, hid (Grow.refl _), hid (fun q _ _ h => by omega)⟩
    case round =>
      obtain ⟨j, hj, rfl, HG, HS⟩ := hrel
      have c1 : wr.cell? ⟨H, 1, none⟩ = some (.slice ap ks.length ac) := by rw [heap_cell (HG.out.heap hB1.out)]; rfl
      have c2 : wr.cell? ⟨H + 1, 1, none⟩ = some (.slice bp ks'.length bc) := by rw [heap_cell (HG.out.heap hB2.out)]; rfl
      have hz := heap_lt (HG.out.heap hB2.out)
      by_cases hlt : j < ks.length
      · obtain ⟨b1, o1, rfl, hb1, hc1⟩ := HK.out (by omega)
        obtain ⟨b2, o2, rfl, hb2, hc2⟩ := HB.out (by have := hl1.out; omega)
        have hlt2 : j < ks'.length := by have := hl1.out; omega
        obtain ⟨ck, cp, cn, cc, cf, cs, cx, d0, d1, d2, d3, d4, hin1⟩ := hc1 j hlt
        obtain ⟨ck', cp', cn', cc', cf', cs', cx', e0, e1, e2, e3, e4, hin2⟩ := hc2 j hlt2
        have GG := G0.out.trans HG.out
        replace d0 := GG.cell d0
        replace d1 := GG.cell d1
        replace d2 := GG.cell d2
        replace d3 := GG.cell d3
        replace d4 := GG.cell d4
        replace e0 := GG.cell e0
        replace e1 := GG.cell e1
        replace e2 := GG.cell e2
        replace e3 := GG.cell e3
        replace e4 := GG.cell e4
        have CC := hid (fun (w5 : World) (g : Grow wr w5) => IH.out ks[j] ks'[j] S T _ _ w5 (Nat.le_trans (wtL_at ks j hlt) HW.out) (kidsFit_at ks j hlt HF.out) (NodeR.In.grow (GG.trans g) hin1) (NodeR.In.grow (GG.trans g) hin2))
        have i1 : (j : Int) < (ks.length : Int) := by omega
        have i2 : (j : Int) < (ks'.length : Int) := by omega
        have i0 : (0 : Int) ≤ (j : Int) := by omega
        clear hc1 hc2 hin1 hin2 GG
        go_wp2_with fail
        go_still_tail 10, (by kernel_rfl)
        go_wp2_with fail
        refine (CC.out _ (Grow.drew _)).mono ?_
        rintro e w5 ⟨rfl, g5⟩
        have G5 := hid ((Grow.drew wr).trans g5)
        clear g5 CC d0 d1 d2 d3 d4 e0 e1 e2 e3 e4 c1 c2
        cases hr : sameN ks[j] ks'[j] with
        | false =>
          have hF := hid (hsame.out false (sameL_not ks ks' j hlt hlt2 hr))
          clear hr
          go_wp2_with fail
          go_ret
          exact ⟨by rw [hF.out]; rfl, (G0.out.trans HG.out).trans G5.out⟩
        | true =>
          have HS2 := hid (show ∀ q (h : q < ks.length) (h' : q < ks'.length), q < j + 1 → sameN ks[q] ks'[q] = true from fun q h h' hq => by
            rcases Nat.lt_or_ge q j with h1 | h1
            · exact HS.out q h h' h1
            · obtain rfl : q = j := by omega
              exact hr)
          have hjj := hid hlt
          clear hr HS
          go_wp2_with fail
          go_roundw
          case rel => exact ⟨j + 1, by omega, by go_num, hid (HG.out.trans G5.out), HS2⟩
          case measure => simp [intOf]; omega
      · obtain rfl : j = ks.length := by omega
        have hF := hid (hsame.out true (sameL_at ks ks' hl1.out (fun i h h' => HS.out i h h' h)))
        clear HS
        go_wp2_with fail
        go_ret
        exact ⟨by rw [hF.out]; rfl, G0.out.trans HG.out⟩
end Go.Proofs.YteilkcdbdpkbfaaDoor
