/- How large a node is; which queries are the same: the reference's. -/
import Derived.Test.YteilkcdbdpkbfaaDoorQSame
import Derived.Test.YteilkcdbdpkbfaaDoorQQuery
namespace Go.Proofs.YteilkcdbdpkbfaaDoor
open Go.RowKit
set_option linter.unusedVariables false
set_option linter.unusedSimpArgs false
mutual
def sizeP (d : Nat) : NodeR → Int
  | .mk _ ks f s _ => if 60 < d then 100000 else sizeK (d + 1) ks (1 + (ks.length : Int) + (f.size : Int) + (s.size : Int))
def sizeK (d : Nat) : List NodeR → Int → Int
  | [], k => k
  | n :: l, k => if k ≤ 3000 then sizeK d l (k + sizeP d n) else k
end
def bnd (d : Nat) : Int := 422212465153697 + 3000 * ((62 - d : Nat) : Int)
mutual
theorem sizeP_bnd (d : Nat) : ∀ n : NodeR, n.Fit → 0 ≤ sizeP d n ∧ sizeP d n ≤ bnd d
  | .mk k ks f s x, h => by
    unfold NodeR.Fit at h
    obtain ⟨-, -, hf, hs, hl, hk⟩ := h
    unfold sizeP
    split
    · unfold bnd; omega
    · exact sizeK_bnd (d + 1) d (by unfold bnd; omega) ks hk _ (by omega) (by unfold bnd; omega)
theorem sizeK_bnd (d d0 : Nat) (hd : 3000 + bnd d ≤ bnd d0) : ∀ l : List NodeR, kidsFit l → ∀ k : Int, 0 ≤ k → k ≤ bnd d0 → 0 ≤ sizeK d l k ∧ sizeK d l k ≤ bnd d0
  | [], _, k, h0, h1 => by unfold sizeK; exact ⟨h0, h1⟩
  | n :: l, h, k, h0, h1 => by
    unfold kidsFit at h
    have hn := sizeP_bnd d n h.1
    unfold sizeK
    split
    · exact sizeK_bnd d d0 hd l h.2 _ (by omega) (by omega)
    · exact ⟨h0, h1⟩
end
theorem sizeK_step (d : Nat) (l : List NodeR) (j : Nat) (h : j < l.length) (k : Int) (hk : k ≤ 3000) : sizeK d (l.drop j) k = sizeK d (l.drop (j + 1)) (k + sizeP d l[j]) := by
  rw [List.drop_eq_getElem_cons h]
  conv => lhs; unfold sizeK
  rw [if_pos hk]
theorem sizeK_stop (d : Nat) (l : List NodeR) (j : Nat) (k : Int) (hk : ¬ k ≤ 3000 ∨ l.length ≤ j) : sizeK d (l.drop j) k = k := by
  rcases hk with hk | hk
  · cases l.drop j with
    | nil => unfold sizeK; rfl
    | cons a m => unfold sizeK; rw [if_neg hk]
  · rw [List.drop_eq_nil_of_le hk]
    unfold sizeK
    rfl
set_option maxRecDepth 100000 in
set_option maxHeartbeats 8000000 in
theorem Size_c : ∀ (fuel : Nat) (a : NodeR) (d : Nat) (S : Nat → Prop) (u : Value) (w : World), a.wt ≤ fuel → d ≤ 61 → a.Fit → a.In S w u →
    Calls Tryd.prog 8 #[u, .int .i64 (d : Int)] w fun e w' => e = .returned (.int .i64 (sizeP d a)) ∧ Grow w w' := by
  intro fuel
  induction fuel with
  | zero => intro a d S u w hw; cases a; simp [NodeR.wt] at hw
  | succ fuel ih =>
    intro a d S u w hw hd hfit ha
    have IH := hid ih
    obtain ⟨k, ks, f, s, x⟩ := a
    obtain ⟨ak, ap, an, ac, af, as_, ax, rfl⟩ := NodeR.In.value ha
    obtain ⟨rfl, rfl, rfl, rfl, rfl, hac, hak⟩ := ha.kid
    unfold NodeR.Fit at hfit
    obtain ⟨-, -, hf, hs, hlen, hkf⟩ := hfit
    have hwt : wtL ks ≤ fuel := by simp only [NodeR.wt] at hw; omega
    have HK := hid hak
    have HF := hid hkf
    have HW := hid hwt
    clear ha hak hkf hwt hw ih
    have hd1 : (d : Int) ≤ 61 := by omega
    have hd0 : (0 : Int) ≤ (d : Int) := by omega
    by_cases hdeep : 60 < d
    · have HS := hid (show sizeP d (.mk ak ks af as_ ax) = 100000 from by unfold sizeP; rw [if_pos hdeep])
      have h60 : (60 : Int) < (d : Int) := by omega
      clear HK HF HW IH
      go_enter Tryd.func8, Tryd.ntmps8
      go_wp2_with fail
      go_ret
      exact ⟨by rw [HS.out]; rfl, Grow.alloc _ _⟩
    · have HS := hid (show sizeP d (.mk ak ks af as_ ax) = sizeK (d + 1) ks (1 + (ks.length : Int) + (af.size : Int) + (as_.size : Int)) from by unfold sizeP; rw [if_neg hdeep])
      have h60 : ¬ (60 : Int) < (d : Int) := by omega
      have h60b : decide ((60 : Int) < (d : Int)) = false := by simp; omega
      have hn9 : (ks.length : Int) ≤ 140737488351232 := by omega
      have hf9 : (af.size : Int) ≤ 140737488351232 := by omega
      have hs9 : (as_.size : Int) ≤ 140737488351232 := by omega
      have hdd : d ≤ 60 := by omega
      have hB1 := hid (heap_new w (.cells #[.int .i64 ak, .slice ap ks.length ac, .string af, .string as_, .int .i64 ax] 24))
      have G0 := hid (Grow.alloc w (.cells #[.int .i64 ak, .slice ap ks.length ac, .string af, .string as_, .int .i64 ax] 24))
      have K0 := hid (show (0 : Int) ≤ 1 + (ks.length : Int) + (af.size : Int) + (as_.size : Int) ∧ 1 + (ks.length : Int) + (af.size : Int) + (as_.size : Int) ≤ bnd d from by unfold bnd; omega)
      clear hlen hf hs hdeep
      go_enter Tryd.func8, Tryd.ntmps8
      go_wp2_with fail
      generalize w.alloc (.cells #[.int .i64 ak, .slice ap ks.length ac, .string af, .string as_, .int .i64 ax] 24) = w0 at *
      generalize w.heap.size = H at *
      generalize hR : sizeK (d + 1) ks (1 + (ks.length : Int) + (af.size : Int) + (as_.size : Int)) = R at *
      have HR := hid hR
      have hbd := hid (show 3000 + bnd (d + 1) ≤ bnd d from by unfold bnd; omega)
      have hbn := hid (show bnd d ≤ 422212465339697 from by unfold bnd; omega)
      clear hR
      go_loopw [5, 6] (fun kk i wr => ∃ (j : Nat) (K : Int), j ≤ ks.length ∧ i = .int .i64 (j : Int) ∧ kk = .int .i64 K ∧ 0 ≤ K ∧ K ≤ 422212465339697 ∧ Hid (sizeK (d + 1) (ks.drop j) K = R) ∧ Hid (Grow w0 wr)) (fun _ i _ => ks.length - (intOf i).toNat)
      case atStart => exact ⟨0, _, by omega, rfl, rfl, by omega, by omega, hid (by simpa using HR.out), hid (Grow.refl _)⟩
      case round =>
        obtain ⟨j, K, hj, rfl, rfl, hK0, hK1, HR, HG⟩ := hrel
        have c1 : wr.cell? ⟨H, 1, none⟩ = some (.slice ap ks.length ac) := by rw [heap_cell (HG.out.heap hB1.out)]; rfl
        have hz := heap_lt (HG.out.heap hB1.out)
        by_cases hlt : j < ks.length
        · by_cases hK3 : K ≤ 3000
          · obtain ⟨b1, o1, rfl, hb1, hc1⟩ := HK.out (by omega)
            obtain ⟨ck, cp, cn, cc, cf, cs, cx, d0, d1, d2, d3, d4, hin1⟩ := hc1 j hlt
            have GG := G0.out.trans HG.out
            replace d0 := GG.cell d0
            replace d1 := GG.cell d1
            replace d2 := GG.cell d2
            replace d3 := GG.cell d3
            replace d4 := GG.cell d4
            have CC := hid (show ∀ w5, Grow wr w5 → Calls Tryd.prog 8 #[.agg #[.int .i64 ck, .slice cp cn cc, .string cf, .string cs, .int .i64 cx], .int .i64 ((d : Int) + 1)] w5 fun e w' => e = .returned (.int .i64 (sizeP (d + 1) ks[j])) ∧ Grow w5 w' from fun w5 g => IH.out ks[j] (d + 1) S _ w5 (Nat.le_trans (wtL_at ks j hlt) HW.out) (by omega) (kidsFit_at ks j hlt HF.out) (NodeR.In.grow (GG.trans g) hin1))
            have i1 : (j : Int) < (ks.length : Int) := by omega
            have i0 : (0 : Int) ≤ (j : Int) := by omega
            have hx := sizeP_bnd (d + 1) ks[j] (kidsFit_at ks j hlt HF.out)
            have HR2 := hid ((sizeK_step (d + 1) ks j hlt K hK3).symm.trans HR.out)
            have hbd' := hbd.out
            have hbn' := hbn.out
            generalize sizeP (d + 1) ks[j] = x at *
            have hx1 : K + x ≤ 422212465339697 := by omega
            have hx2 : x ≤ 422212465339697 := by omega
            have hx0 : 0 ≤ x := hx.1
            clear hc1 hin1 GG hx hbd' hbn'
            go_wp2_with fail
            refine (CC.out _ (Grow.refl _)).mono ?_
            rintro e w5 ⟨rfl, g5⟩
            have G5 := hid g5
            clear g5 CC d0 d1 d2 d3 d4 c1
            go_wp2_with fail
            go_roundw
            case rel => exact ⟨j + 1, K + x, by omega, by go_num, rfl, by omega, by omega, HR2, hid (HG.out.trans G5.out)⟩
            case measure => simp [intOf]; omega
          · have HE := hid ((sizeK_stop (d + 1) ks j K (.inl hK3)).symm.trans HR.out)
            have hK3b : decide (K ≤ 3000) = false := by simpa using hK3
            go_wp2_with fail
            go_ret
            exact ⟨by rw [HS.out, ← HE.out]; rfl, G0.out.trans HG.out⟩
        · have HE := hid ((sizeK_stop (d + 1) ks j K (.inr (by omega))).symm.trans HR.out)
          obtain rfl : j = ks.length := by omega
          go_wp2_with fail
          go_ret
          exact ⟨by rw [HS.out, ← HE.out]; rfl, G0.out.trans HG.out⟩
def sameQ (a b : QueryR) : Bool := sameN a.whr b.whr && decide (a.order = b.order) && decide (a.down = b.down) && decide (a.limit = b.limit) && decide (a.count = b.count)
theorem sameQ_iff (a b : QueryR) : sameQ a b = true ↔ a = b := by
  obtain ⟨n, o, d, l, c⟩ := a
  obtain ⟨n', o', d', l', c'⟩ := b
  simp only [sameQ, Bool.and_eq_true, decide_eq_true_eq, sameN_iff, QueryR.mk.injEq]
  constructor
  · rintro ⟨⟨⟨⟨h1, h2⟩, h3⟩, h4⟩, h5⟩; exact ⟨h1, h2, h3, h4, h5⟩
  · rintro ⟨h1, h2, h3, h4, h5⟩; exact ⟨⟨⟨⟨h1, h2⟩, h3⟩, h4⟩, h5⟩
set_option maxRecDepth 100000 in
set_option maxHeartbeats 8000000 in
theorem Queries_c (a b : QueryR) (S T : Nat → Prop) (u v : Value) (w : World) (hf : a.whr.Fit) (ha : a.In S w u) (hb : b.In T w v) :
    Calls Tryd.prog 12 #[u, v] w fun e w' => e = .returned (.bool (sameQ a b)) ∧ Grow w w' := by
  obtain ⟨n, o, d, l, c⟩ := a
  obtain ⟨n', o', d', l', c'⟩ := b
  obtain ⟨a0, a1, a2, a3, a4, rfl, ha⟩ := ha
  obtain ⟨b0, b1, b2, b3, b4, rfl, hb⟩ := hb
  simp only at ha hb hf
  obtain ⟨ak, ap, an, ac, af, as_, ax, e⟩ := NodeR.In.value ha
  simp only [Value.agg.injEq, Array.mk.injEq, List.cons.injEq, and_true] at e
  obtain ⟨rfl, rfl, rfl, rfl, rfl⟩ := e
  obtain ⟨bk, bp, bn, bc, bf, bs, bx, e⟩ := NodeR.In.value hb
  simp only [Value.agg.injEq, Array.mk.injEq, List.cons.injEq, and_true] at e
  obtain ⟨rfl, rfl, rfl, rfl, rfl⟩ := e
  have C := hid (fun (w5 : World) (g : Grow w w5) => RSame_c n.wt n n' S T _ _ w5 (Nat.le_refl _) hf (NodeR.In.grow g ha) (NodeR.In.grow g hb))
  simp only
  clear ha hb hf
  have G0 := hid (Grow.trans (Grow.alloc w (.cells #[.int .i64 ak, .slice ap an ac, .string af, .string as_, .int .i64 ax, .string o, .bool d, .int .i64 l, .bool c] 26)) (Grow.alloc _ (.cells #[.int .i64 bk, .slice bp bn bc, .string bf, .string bs, .int .i64 bx, .string o', .bool d', .int .i64 l', .bool c'] 26)))
  have hB1 := hid (heap_alloc_keep (heap_new w (.cells #[.int .i64 ak, .slice ap an ac, .string af, .string as_, .int .i64 ax, .string o, .bool d, .int .i64 l, .bool c] 26)) (.cells #[.int .i64 bk, .slice bp bn bc, .string bf, .string bs, .int .i64 bx, .string o', .bool d', .int .i64 l', .bool c'] 26))
  have hB2 := hid (heap_newAt (w.alloc (.cells #[.int .i64 ak, .slice ap an ac, .string af, .string as_, .int .i64 ax, .string o, .bool d, .int .i64 l, .bool c] 26)) (.cells #[.int .i64 bk, .slice bp bn bc, .string bf, .string bs, .int .i64 bx, .string o', .bool d', .int .i64 l', .bool c'] 26) (g := w.heap.size + 1) (by simp))
  go_enter Tryd.func12, Tryd.ntmps12
  go_wp2_with fail
  refine (C.out _ G0.out).mono ?_
  rintro e w1 ⟨rfl, g1⟩
  generalize (w.alloc (.cells #[.int .i64 ak, .slice ap an ac, .string af, .string as_, .int .i64 ax, .string o, .bool d, .int .i64 l, .bool c] 26)).alloc (.cells #[.int .i64 bk, .slice bp bn bc, .string bf, .string bs, .int .i64 bx, .string o', .bool d', .int .i64 l', .bool c'] 26) = w0 at *
  generalize w.heap.size = H at *
  have G1 := hid (G0.out.trans g1)
  have p5 : w1.cell? ⟨H, 5, none⟩ = some (.string o) := by rw [heap_cell (g1.heap hB1.out)]; rfl
  have p6 : w1.cell? ⟨H, 6, none⟩ = some (.bool d) := by rw [heap_cell (g1.heap hB1.out)]; rfl
  have p7 : w1.cell? ⟨H, 7, none⟩ = some (.int .i64 l) := by rw [heap_cell (g1.heap hB1.out)]; rfl
  have p8 : w1.cell? ⟨H, 8, none⟩ = some (.bool c) := by rw [heap_cell (g1.heap hB1.out)]; rfl
  have q5 : w1.cell? ⟨H + 1, 5, none⟩ = some (.string o') := by rw [heap_cell (g1.heap hB2.out)]; rfl
  have q6 : w1.cell? ⟨H + 1, 6, none⟩ = some (.bool d') := by rw [heap_cell (g1.heap hB2.out)]; rfl
  have q7 : w1.cell? ⟨H + 1, 7, none⟩ = some (.int .i64 l') := by rw [heap_cell (g1.heap hB2.out)]; rfl
  have q8 : w1.cell? ⟨H + 1, 8, none⟩ = some (.bool c') := by rw [heap_cell (g1.heap hB2.out)]; rfl
  clear g1 C
  have HQ := hid (fun (r : Bool) (h : (sameN n n' && decide (o = o') && decide (d = d') && decide (l = l') && decide (c = c')) = r) => show sameQ ⟨n, o, d, l, c⟩ ⟨n', o', d', l', c'⟩ = r from h)
  cases hn : sameN n n' with
  | false =>
    have hr := hid (HQ.out false (by simp [hn]))
    clear hn
    go_wp2_with fail
    go_ret
    exact ⟨by rw [hr.out]; rfl, G1.out⟩
  | true =>
    by_cases ho : o = o'
    rotate_left
    · have hr := hid (HQ.out false (by simp [ho]))
      have hd1 := str_neQ ho
      have hd2 : ¬o.toList = o'.toList := fun e => ho (toList_injQ e)
      clear hn
      go_wp2_with fail
      go_ret
      exact ⟨by rw [hr.out]; rfl, G1.out⟩
    subst ho
    by_cases hd : d = d'
    rotate_left
    · have hr := hid (HQ.out false (by simp [hd]))
      clear hn
      cases d <;> cases d' <;> first | (exact absurd rfl hd) | (
        clear hd
        go_wp2_with fail
        go_ret
        exact ⟨by rw [hr.out]; rfl, G1.out⟩)
    subst hd
    by_cases hl : l = l'
    rotate_left
    · have hr := hid (HQ.out false (by simp [hl]))
      have hd1 : (l == l') = false := by simpa using hl
      clear hn
      go_wp2_with fail
      go_ret
      exact ⟨by rw [hr.out]; rfl, G1.out⟩
    subst hl
    have hr := hid (HQ.out (decide (c = c')) (by simp [hn]))
    clear hn
    cases d <;> cases c <;> cases c' <;> (
      go_wp2_with fail
      go_ret
      exact ⟨by rw [hr.out]; rfl, G1.out⟩)
end Go.Proofs.YteilkcdbdpkbfaaDoor
