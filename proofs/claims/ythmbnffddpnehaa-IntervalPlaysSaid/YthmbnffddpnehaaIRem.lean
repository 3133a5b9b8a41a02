/- The first node taken off, and a node taken out. -/
import Derived.Test.YthmbnffddpnehaaIIns
namespace Go.Proofs.Ythmbnffddpnehaa
open Go.RowKit
set_option linter.unusedVariables false
set_option linter.unusedSimpArgs false
theorem Tr.size_first (b : Nat) (x : It) (l r : Tr) : (Tr.first b x l r).2.2.size = l.size + r.size := by
  have := (Tr.perm_first b x l r).length_eq
  simp only [List.length_cons, List.length_append, Tr.size_blocks] at this
  omega
def FirstPost (b : Nat) (x : It) (l r : Tr) (w : World) (e : Ending) (w' : World) : Prop :=
  e = .returned (.tuple #[.pointer (some ⟨(Tr.first b x l r).1, 0, none⟩), (Tr.first b x l r).2.2.ptr]) ∧ (∃ la hi pl pr, NodeAt w' (Tr.first b x l r).1 (Tr.first b x l r).2.1 la hi pl pr) ∧ (Tr.first b x l r).2.2.In w' ∧ Kept (b :: (l.blocks ++ r.blocks)) w w'
set_option maxRecDepth 100000 in
set_option maxHeartbeats 1000000 in
theorem firstNil_c (b : Nat) (x : It) (r : Tr) (la hi : Int) (w : World) (h : NodeAt w b x la hi (.pointer none) r.ptr) (hr : r.In w) :
    Calls Try.prog 43 #[.pointer (some ⟨b, 0, none⟩)] w (FirstPost b x .nil r w) := by
  obtain ⟨hb, -, -, -, -, -, -, c6, c7⟩ := h.cells
  obtain ⟨ur, hur⟩ := r.ptr_form
  rw [hur] at c7
  have HU := hid hur
  have HN := hid h
  have HR := hid hr
  clear h hr hur
  go_enter Try.func43, Try.ntmps43
  go_wp2_with fail
  go_quiet (fail)
  go_wp2_with fail
  go_ret2
  refine ⟨by simp only [Tr.first]; rw [HU.out]; rfl, ⟨_, _, _, _, HN.out.drewN _⟩, HR.out.drewN _, (Kept.refl _ w).drewN _⟩
set_option maxRecDepth 100000 in
set_option maxHeartbeats 2000000 in
theorem firstGo_c (b c : Nat) (x y : It) (m k r : Tr) (w : World) (hT : (Tr.node b x (.node c y m k) r).In w) (hnd : (Tr.node b x (.node c y m k) r).blocks.Nodup) (hz : (Tr.node b x (.node c y m k) r).size ≤ 700000)
    (ih : ∀ w', (Tr.node c y m k).In w' → Calls Try.prog 43 #[.pointer (some ⟨c, 0, none⟩)] w' (FirstPost c y m k w')) :
    Calls Try.prog 43 #[.pointer (some ⟨b, 0, none⟩)] w (FirstPost b x (.node c y m k) r w) := by
  obtain ⟨hN, hL, hR⟩ := hT
  have HIH := hid (ih w hL)
  have HF : Hid (Tr.first b x (.node c y m k) r = ((Tr.first c y m k).1, (Tr.first c y m k).2.1, Tr.even b x (Tr.first c y m k).2.2 r)) := rfl
  have hp := Tr.perm_first c y m k
  have hs := Tr.size_first c y m k
  unfold FirstPost at HIH
  rcases hq : Tr.first c y m k with ⟨f1, f2, f3⟩
  rw [hq] at HIH HF hp hs
  dsimp only at HIH HF hp hs
  have hz2 : f3.size + r.size ≤ 800000 := by rw [hs]; simp only [Tr.size] at hz; omega
  have hmem : ∀ j, j ∈ f1 :: f3.blocks ↔ j ∈ (Tr.node c y m k).blocks := fun j => hp.mem_iff
  have hnd0 := hnd
  simp only [Tr.blocks] at hnd0
  have hnd3 : (b :: ((f1 :: f3.blocks) ++ r.blocks)).Nodup := ((List.Perm.cons _ (hp.append_right _)).nodup_iff).2 (by simpa [Tr.blocks] using hnd)
  have hnd2 : (b :: (f3.blocks ++ r.blocks)).Nodup := hnd3.sublist (List.Sublist.cons_cons _ (by simp))
  have HEV := hid (fun la hi w' a1 a2 a3 => even_c b x la hi f3 r w' a1 a2 a3 hnd2 hz2)
  have HD := hid (show (∀ j ∈ (Tr.node c y m k).blocks, j ≠ b ∧ j ∉ r.blocks) ∧ b ∉ f3.blocks ∧ b ∉ r.blocks ∧ f1 ≠ b ∧ f1 ∉ f3.blocks ∧ f1 ∉ r.blocks by
    refine ⟨fun j hj => ?_, ?_⟩
    · have := hmem j
      grind
    · grind)
  have HM := hid hmem
  obtain ⟨u3, hu3⟩ := f3.ptr_form
  have HU := hid hu3
  obtain ⟨hb0, -, -, -, -, -, -, c6, -⟩ := hN.cells
  rw [show (Tr.node c y m k).ptr = .pointer (some ⟨c, 0, none⟩) from rfl] at c6
  have HN := hid hN
  have HR := hid hR
  clear hN hL hR hnd hnd0 hnd2 hnd3 hz hz2 hs hp hq hmem hu3 ih
  go_enter Try.func43, Try.ntmps43
  go_wp2_with fail
  refine HIH.out.mono ?_
  rintro e w4 ⟨rfl, ⟨la4, hi4, pl4, pr4, n4⟩, h4, k4⟩
  rw [HU.out]
  have N4 := k4.node HN.out (b := b) (fun e => (HD.out.1 b e).1 rfl)
  have R4 := k4.tree HR.out (fun k hk e => (HD.out.1 k e).2 hk)
  have N5 : NodeAt (w4.setCell ⟨b, 6, none⟩ (.pointer u3)) b x (Tr.node b x (.node c y m k) r).last (Tr.node b x (.node c y m k) r).high f3.ptr r.ptr := by rw [HU.out]; exact NodeAt.setL N4 (.pointer u3)
  have K5 := (Kept.refl [b] w4).set b 6 (.pointer u3) (by simp)
  have I5 := K5.tree h4 (fun k hk => by intro e; simp at e; subst e; exact HD.out.2.1 hk)
  have R5 := K5.tree R4 (fun k hk => by intro e; simp at e; subst e; exact HD.out.2.2.1 hk)
  have F5 := hid (NodeAt.keep n4 b 6 (.pointer u3) (fun e => HD.out.2.2.2.1 e.symm))
  have HK5 := hid (((k4.mono (cs := b :: ((Tr.node c y m k).blocks ++ r.blocks)) (fun j hj => List.mem_cons_of_mem _ (List.mem_append_left _ hj))).trans K5 (fun j hj => .inl (by simp at hj; simp [hj]))))
  have HEV2 := hid (HEV.out _ _ _ N5 I5 R5)
  obtain ⟨hb4, -, -, -, -, -, -, e6, -⟩ := NodeAt.cells N4
  have q := NodeAt.free N4 6
  rw [show (Tr.node c y m k).ptr = .pointer (some ⟨c, 0, none⟩) from rfl] at e6
  clear N4 R4 N5 K5 I5 R5 h4 k4 n4 c6 HN HR hb0 HEV HIH
  go_wp2_with fail
  refine HEV2.out.mono ?_
  rintro e w6 ⟨rfl, h6, k6⟩
  go_wp2_with fail
  go_ret2
  unfold FirstPost
  rw [HF.out]
  refine ⟨rfl, ⟨_, _, _, _, k6.node F5.out ?_⟩, h6, HK5.out.trans k6 (fun j hj => .inl ?_)⟩
  · have := HD.out
    grind
  · have := HM.out j
    grind
/-- The first node is taken off. -/
theorem first_c : ∀ (l : Tr) (b : Nat) (x : It) (r : Tr) (w : World), (Tr.node b x l r).In w → (Tr.node b x l r).blocks.Nodup → (Tr.node b x l r).size ≤ 700000 →
    Calls Try.prog 43 #[.pointer (some ⟨b, 0, none⟩)] w (FirstPost b x l r w)
  | .nil, b, x, r, w, h, _, _ => firstNil_c b x r _ _ w h.1 h.2.2
  | .node c y m k, b, x, r, w, h, hnd, hz => firstGo_c b c x y m k r w h hnd hz (fun w' h' => first_c m c y k w' h' (by
      simp only [Tr.blocks] at hnd ⊢
      exact (List.nodup_append.1 (List.nodup_cons.1 hnd).2).1) (by simp only [Tr.size] at hz ⊢; omega))
theorem Tr.rem_sub (f id : Int) (T : Tr) : (T.blocks.Nodup → (T.rem f id).blocks.Nodup) ∧ ∀ j ∈ (T.rem f id).blocks, j ∈ T.blocks := by
  rcases Tr.sub_rem f id T with h | ⟨L, h1, h2⟩
  · exact ⟨fun hn => hn.sublist h, fun j hj => h.subset hj⟩
  · exact ⟨fun hn => h1.nodup_iff.2 (hn.sublist h2), fun j hj => h2.subset (h1.mem_iff.1 hj)⟩
theorem Tr.size_rem (f id : Int) (T : Tr) : (T.rem f id).size ≤ T.size := by
  rw [← Tr.size_blocks, ← Tr.size_blocks]
  rcases Tr.sub_rem f id T with h | ⟨L, h1, h2⟩
  · exact h.length_le
  · rw [h1.length_eq]; exact h2.length_le
def RemPost (f id : Int) (T : Tr) (w : World) (e : Ending) (w' : World) : Prop := e = .returned (T.rem f id).ptr ∧ (T.rem f id).In w' ∧ Kept T.blocks w w'
set_option maxRecDepth 100000 in
theorem remNil_c (f id : Int) (w : World) : Calls Try.prog 36 #[.pointer none, .int .i64 f, .int .i64 id] w (RemPost f id .nil w) := by
  go_enter Try.func36, Try.ntmps36
  go_wp2_with fail
  go_ret
  exact ⟨rfl, trivial, Kept.refl _ _⟩
set_option maxRecDepth 100000 in
set_option maxHeartbeats 1000000 in
theorem remTop_c (f id : Int) (b : Nat) (x : It) (l : Tr) (w : World) (hT : (Tr.node b x l .nil).In w) (hid0 : x.id = id) :
    Calls Try.prog 36 #[.pointer (some ⟨b, 0, none⟩), .int .i64 f, .int .i64 id] w (RemPost f id (.node b x l .nil) w) := by
  obtain ⟨hN, hL, hR⟩ := hT
  obtain ⟨hb0, -, -, -, c3, -, -, c6, c7⟩ := hN.cells
  have HE := hid (show Tr.rem f id (.node b x l .nil) = l by simp only [Tr.rem]; rw [if_pos hid0])
  obtain ⟨ul, hul⟩ := l.ptr_form
  rw [hul] at c6
  rw [show (Tr.nil).ptr = .pointer none from rfl] at c7
  have HU := hid hul
  have HL := hid hL
  obtain ⟨xi, xf, xt, xv⟩ := x
  dsimp only at *
  subst hid0
  clear hN hL hR hul
  go_enter Try.func36, Try.ntmps36
  go_wp2_with fail
  go_ret
  refine ⟨by rw [HE.out, HU.out]; rfl, by rw [HE.out]; exact HL.out, Kept.refl _ _⟩
set_option maxRecDepth 100000 in
set_option maxHeartbeats 2000000 in
theorem remMid_c (f id : Int) (b c : Nat) (x y : It) (l m k : Tr) (w : World) (hT : (Tr.node b x l (.node c y m k)).In w) (hnd : (Tr.node b x l (.node c y m k)).blocks.Nodup) (hz : (Tr.node b x l (.node c y m k)).size ≤ 700000) (hid0 : x.id = id) :
    Calls Try.prog 36 #[.pointer (some ⟨b, 0, none⟩), .int .i64 f, .int .i64 id] w (RemPost f id (.node b x l (.node c y m k)) w) := by
  obtain ⟨hN, hL, hR⟩ := hT
  have HFI := hid (first_c m c y k w hR (by
      simp only [Tr.blocks] at hnd ⊢
      exact (List.nodup_append.1 (List.nodup_cons.1 hnd).2).2.1) (by simp only [Tr.size] at hz ⊢; omega))
  have HF : Hid (Tr.rem f id (.node b x l (.node c y m k)) = Tr.even (Tr.first c y m k).1 (Tr.first c y m k).2.1 l (Tr.first c y m k).2.2) := hid (by simp only [Tr.rem]; rw [if_pos hid0])
  have hp := Tr.perm_first c y m k
  have hs := Tr.size_first c y m k
  unfold FirstPost at HFI
  rcases hq : Tr.first c y m k with ⟨f1, f2, f3⟩
  rw [hq] at HFI HF hp hs
  dsimp only at HFI HF hp hs
  have hz2 : l.size + f3.size ≤ 800000 := by rw [hs]; simp only [Tr.size] at hz; omega
  have hmem : ∀ j, j ∈ f1 :: f3.blocks ↔ j ∈ (Tr.node c y m k).blocks := fun j => hp.mem_iff
  have hnd3 : (b :: (l.blocks ++ (f1 :: f3.blocks))).Nodup := ((List.Perm.cons _ (hp.append_left _)).nodup_iff).2 (by simpa [Tr.blocks] using hnd)
  have hnd2 : (f1 :: (l.blocks ++ f3.blocks)).Nodup := List.perm_middle.nodup (List.nodup_cons.1 hnd3).2
  have HEV := hid (fun la hi w' a1 a2 a3 => even_c f1 f2 la hi l f3 w' a1 a2 a3 hnd2 hz2)
  have HD := hid (show (∀ j ∈ (Tr.node c y m k).blocks, j ≠ b ∧ j ∉ l.blocks) ∧ b ∉ f3.blocks ∧ b ∉ l.blocks ∧ f1 ≠ b ∧ f1 ∉ f3.blocks ∧ f1 ∉ l.blocks by
    refine ⟨fun j hj => ?_, ?_⟩
    · have := hmem j
      grind
    · grind)
  have HM := hid hmem
  obtain ⟨u3, hu3⟩ := f3.ptr_form
  obtain ⟨ul, hul⟩ := l.ptr_form
  have HU := hid (And.intro hu3 hul)
  obtain ⟨hb0, -, -, -, c3, -, -, c6, c7⟩ := hN.cells
  rw [show (Tr.node c y m k).ptr = .pointer (some ⟨c, 0, none⟩) from rfl] at c7
  rw [hul] at c6
  have HN := hid hN
  have HL := hid hL
  obtain ⟨xi, xf, xt, xv⟩ := x
  dsimp only at *
  subst hid0
  clear hN hL hR hnd hnd2 hnd3 hz hz2 hs hp hq hmem hu3 hul
  go_enter Try.func36, Try.ntmps36
  go_wp2_with fail
  refine HFI.out.mono ?_
  rintro e w4 ⟨rfl, ⟨la4, hi4, pl4, pr4, n4⟩, h4, k4⟩
  rw [HU.out.1]
  have N4 := k4.node HN.out (b := b) (fun e => (HD.out.1 b e).1 rfl)
  have L4 := k4.tree HL.out (fun k hk e => (HD.out.1 k e).2 hk)
  have N5 : NodeAt ((w4.setCell ⟨f1, 6, none⟩ (.pointer ul)).setCell ⟨f1, 7, none⟩ (.pointer u3)) f1 f2 la4 hi4 l.ptr f3.ptr := by rw [HU.out.1, HU.out.2]; exact NodeAt.setR (NodeAt.setL n4 (.pointer ul)) (.pointer u3)
  have K5 := ((Kept.refl [f1] w4).set f1 6 (.pointer ul) (by simp)).set f1 7 (.pointer u3) (by simp)
  have L5 := K5.tree L4 (fun k hk => by intro e; simp at e; subst e; exact HD.out.2.2.2.2.2 hk)
  have F5 := K5.tree h4 (fun k hk => by intro e; simp at e; subst e; exact HD.out.2.2.2.2.1 hk)
  have HK5 := hid (((k4.mono (cs := (Tr.node b ⟨xi, xf, xt, xv⟩ l (.node c y m k)).blocks) (fun j hj => by simp only [Tr.blocks] at hj ⊢; grind)).trans K5 (fun j hj => .inl (by have := (HM.out j); simp only [Tr.blocks] at this ⊢; grind))))
  have HEV2 := hid (HEV.out _ _ _ N5 L5 F5)
  obtain ⟨hb4, -, -, -, -, -, -, e6, -⟩ := NodeAt.cells N4
  obtain ⟨hf4, -, -, -, -, -, -, g6, g7⟩ := NodeAt.cells n4
  have q6 := NodeAt.free n4 6
  have q7 := NodeAt.free n4 7
  rw [HU.out.2] at e6
  have hne : ¬ f1 = b := HD.out.2.2.2.1
  have hne2 : ¬ b = f1 := fun e => hne e.symm
  clear N4 L4 N5 K5 L5 F5 h4 k4 n4 c6 c7 c3 HN HL hb0 HEV HFI
  go_wp2_with fail
  refine HEV2.out.mono ?_
  rintro e w6 ⟨rfl, h6, k6⟩
  go_wp2_with fail
  go_ret
  refine ⟨by rw [HF.out]; rfl, by rw [HF.out]; exact h6, HK5.out.trans k6 (fun j hj => .inl ?_)⟩
  have := HM.out j
  simp only [Tr.blocks] at this ⊢
  grind
set_option maxRecDepth 100000 in
set_option maxHeartbeats 2000000 in
theorem remL_c (f id : Int) (b : Nat) (x : It) (l r : Tr) (w : World) (hT : (Tr.node b x l r).In w) (hnd : (Tr.node b x l r).blocks.Nodup) (hz : (Tr.node b x l r).size ≤ 700000)
    (hid0 : ¬ x.id = id) (hb : Tr.bef f id x = true)
    (ih : ∀ w', l.In w' → Calls Try.prog 36 #[l.ptr, .int .i64 f, .int .i64 id] w' (RemPost f id l w')) :
    Calls Try.prog 36 #[.pointer (some ⟨b, 0, none⟩), .int .i64 f, .int .i64 id] w (RemPost f id (.node b x l r) w) := by
  obtain ⟨hN, hL, hR⟩ := hT
  have HB := hid (fun w' (g : NodeAt w' b x (Tr.node b x l r).last (Tr.node b x l r).high l.ptr r.ptr) => before_c b x _ _ l.ptr r.ptr f id w' g)
  rw [hb] at HB
  have HE := hid (show Tr.rem f id (.node b x l r) = Tr.even b x (l.rem f id) r by simp only [Tr.rem]; rw [if_neg hid0, if_pos hb])
  have HIH := hid ih
  have hsz := Tr.size_rem f id l
  have hsub := Tr.rem_sub f id l
  have hz2 : (l.rem f id).size + r.size ≤ 800000 := by simp only [Tr.size] at hz; omega
  have hnd0 := hnd
  simp only [Tr.blocks, List.nodup_cons, List.mem_append, not_or, List.nodup_append] at hnd
  obtain ⟨⟨hbl, hbr⟩, hndl, hndr, hlr⟩ := hnd
  have hnd2 : (b :: ((l.rem f id).blocks ++ r.blocks)).Nodup := by
    refine List.nodup_cons.2 ⟨by have := hsub.2; grind, List.nodup_append.2 ⟨hsub.1 hndl, hndr, ?_⟩⟩
    intro a ha d hd
    have := hsub.2
    grind
  have HEV := hid (fun la hi w' a1 a2 a3 => even_c b x la hi (l.rem f id) r w' a1 a2 a3 hnd2 hz2)
  have HD := hid (show (∀ k ∈ l.blocks, k ≠ b ∧ k ∉ r.blocks) ∧ b ∉ (l.rem f id).blocks ∧ b ∉ r.blocks from ⟨fun k hk => ⟨by grind, by grind⟩, by have := hsub.2; grind, hbr⟩)
  have HP := hid hsub.2
  obtain ⟨ul, hul⟩ := l.ptr_form
  obtain ⟨ui, hui⟩ := (l.rem f id).ptr_form
  have HU := hid (And.intro hul hui)
  have HI := hid (HIH.out _ hL)
  rw [hul] at HI
  obtain ⟨hb0, -, -, -, c3, -, -, c6, -⟩ := hN.cells
  rw [hul] at c6
  have HN := hid hN
  have HO := hid hR
  obtain ⟨xi, xf, xt, xv⟩ := x
  dsimp only at *
  clear hN hL hR hul hui hnd2 hnd0 hlr hndl hndr hbl hbr hz hz2 ih hb hsub hsz HIH
  go_enter Try.func36, Try.ntmps36
  go_wp2_with fail
  refine (HB.out _ HN.out).mono ?_
  rintro e w' ⟨rfl, rfl⟩
  go_wp2_with fail
  refine HI.out.mono ?_
  rintro e w4 ⟨rfl, h4, k4⟩
  rw [HU.out.2]
  have N4 := k4.node HN.out (b := b) (fun e => (HD.out.1 b e).1 rfl)
  have R4 := k4.tree HO.out (fun k hk e => (HD.out.1 k e).2 hk)
  have K4 := k4.mono (cs := (Tr.node b ⟨xi, xf, xt, xv⟩ l r).blocks) (fun j hj => by simp [Tr.blocks, hj])
  have N5 : NodeAt (w4.setCell ⟨b, 6, none⟩ (.pointer ui)) b ⟨xi, xf, xt, xv⟩ (Tr.node b ⟨xi, xf, xt, xv⟩ l r).last (Tr.node b ⟨xi, xf, xt, xv⟩ l r).high (l.rem f id).ptr r.ptr := by rw [HU.out.2]; exact NodeAt.setL N4 (.pointer ui)
  have K5 := (Kept.refl [b] w4).set b 6 (.pointer ui) (by simp)
  have I5 := K5.tree h4 (fun k hk => by intro e; simp at e; subst e; exact HD.out.2.1 hk)
  have R5 := K5.tree R4 (fun k hk => by intro e; simp at e; subst e; exact HD.out.2.2 hk)
  have HK5 := hid (K4.trans K5 (fun j hj => .inl (by simp at hj; simp [hj, Tr.blocks])))
  have HEV2 := hid (HEV.out _ _ _ N5 I5 R5)
  obtain ⟨hb4, -, -, -, -, -, -, e6, -⟩ := NodeAt.cells N4
  have q := NodeAt.free N4 6
  rw [HU.out.1] at e6
  clear N4 R4 K4 N5 K5 I5 R5 h4 k4 c6 HN HO hb0 HEV HI
  go_wp2_with fail
  refine HEV2.out.mono ?_
  rintro e w6 ⟨rfl, h6, k6⟩
  go_wp2_with fail
  go_ret
  refine ⟨by rw [HE.out]; rfl, by rw [HE.out]; exact h6, HK5.out.trans k6 (fun j hj => .inl ?_)⟩
  have := HP.out j
  simp only [Tr.blocks]
  grind
set_option maxRecDepth 100000 in
set_option maxHeartbeats 2000000 in
theorem remR_c (f id : Int) (b : Nat) (x : It) (l r : Tr) (w : World) (hT : (Tr.node b x l r).In w) (hnd : (Tr.node b x l r).blocks.Nodup) (hz : (Tr.node b x l r).size ≤ 700000)
    (hid0 : ¬ x.id = id) (hb : Tr.bef f id x = false)
    (ih : ∀ w', r.In w' → Calls Try.prog 36 #[r.ptr, .int .i64 f, .int .i64 id] w' (RemPost f id r w')) :
    Calls Try.prog 36 #[.pointer (some ⟨b, 0, none⟩), .int .i64 f, .int .i64 id] w (RemPost f id (.node b x l r) w) := by
  obtain ⟨hN, hL, hR⟩ := hT
  have HB := hid (fun w' (g : NodeAt w' b x (Tr.node b x l r).last (Tr.node b x l r).high l.ptr r.ptr) => before_c b x _ _ l.ptr r.ptr f id w' g)
  rw [hb] at HB
  have HE := hid (show Tr.rem f id (.node b x l r) = Tr.even b x l (r.rem f id) by simp only [Tr.rem]; rw [if_neg hid0, if_neg (by simp [hb])])
  have HIH := hid ih
  have hsz := Tr.size_rem f id r
  have hsub := Tr.rem_sub f id r
  have hz2 : l.size + (r.rem f id).size ≤ 800000 := by simp only [Tr.size] at hz; omega
  have hnd0 := hnd
  simp only [Tr.blocks, List.nodup_cons, List.mem_append, not_or, List.nodup_append] at hnd
  obtain ⟨⟨hbl, hbr⟩, hndl, hndr, hlr⟩ := hnd
  have hnd2 : (b :: (l.blocks ++ (r.rem f id).blocks)).Nodup := by
    refine List.nodup_cons.2 ⟨by have := hsub.2; grind, List.nodup_append.2 ⟨hndl, hsub.1 hndr, ?_⟩⟩
    intro a ha d hd
    have := hsub.2
    grind
  have HEV := hid (fun la hi w' a1 a2 a3 => even_c b x la hi l (r.rem f id) w' a1 a2 a3 hnd2 hz2)
  have HD := hid (show (∀ k ∈ r.blocks, k ≠ b ∧ k ∉ l.blocks) ∧ b ∉ (r.rem f id).blocks ∧ b ∉ l.blocks from ⟨fun k hk => ⟨by grind, by grind⟩, by have := hsub.2; grind, hbl⟩)
  have HP := hid hsub.2
  obtain ⟨ul, hul⟩ := r.ptr_form
  obtain ⟨ui, hui⟩ := (r.rem f id).ptr_form
  have HU := hid (And.intro hul hui)
  have HI := hid (HIH.out _ hR)
  rw [hul] at HI
  obtain ⟨hb0, -, -, -, c3, -, -, -, c6⟩ := hN.cells
  rw [hul] at c6
  have HN := hid hN
  have HO := hid hL
  obtain ⟨xi, xf, xt, xv⟩ := x
  dsimp only at *
  clear hN hL hR hul hui hnd2 hnd0 hlr hndl hndr hbl hbr hz hz2 ih hb hsub hsz HIH
  go_enter Try.func36, Try.ntmps36
  go_wp2_with fail
  refine (HB.out _ HN.out).mono ?_
  rintro e w' ⟨rfl, rfl⟩
  go_wp2_with fail
  refine HI.out.mono ?_
  rintro e w4 ⟨rfl, h4, k4⟩
  rw [HU.out.2]
  have N4 := k4.node HN.out (b := b) (fun e => (HD.out.1 b e).1 rfl)
  have R4 := k4.tree HO.out (fun k hk e => (HD.out.1 k e).2 hk)
  have K4 := k4.mono (cs := (Tr.node b ⟨xi, xf, xt, xv⟩ l r).blocks) (fun j hj => by simp [Tr.blocks, hj])
  have N5 : NodeAt (w4.setCell ⟨b, 7, none⟩ (.pointer ui)) b ⟨xi, xf, xt, xv⟩ (Tr.node b ⟨xi, xf, xt, xv⟩ l r).last (Tr.node b ⟨xi, xf, xt, xv⟩ l r).high l.ptr (r.rem f id).ptr := by rw [HU.out.2]; exact NodeAt.setR N4 (.pointer ui)
  have K5 := (Kept.refl [b] w4).set b 7 (.pointer ui) (by simp)
  have I5 := K5.tree h4 (fun k hk => by intro e; simp at e; subst e; exact HD.out.2.1 hk)
  have R5 := K5.tree R4 (fun k hk => by intro e; simp at e; subst e; exact HD.out.2.2 hk)
  have HK5 := hid (K4.trans K5 (fun j hj => .inl (by simp at hj; simp [hj, Tr.blocks])))
  have HEV2 := hid (HEV.out _ _ _ N5 R5 I5)
  obtain ⟨hb4, -, -, -, -, -, -, -, e6⟩ := NodeAt.cells N4
  have q := NodeAt.free N4 7
  rw [HU.out.1] at e6
  clear N4 R4 K4 N5 K5 I5 R5 h4 k4 c6 HN HO hb0 HEV HI
  go_wp2_with fail
  refine HEV2.out.mono ?_
  rintro e w6 ⟨rfl, h6, k6⟩
  go_wp2_with fail
  go_ret
  refine ⟨by rw [HE.out]; rfl, by rw [HE.out]; exact h6, HK5.out.trans k6 (fun j hj => .inl ?_)⟩
  have := HP.out j
  simp only [Tr.blocks]
  grind
/-- A node is taken out. -/
theorem remove_c (f id : Int) : ∀ (T : Tr) (w : World), T.In w → T.blocks.Nodup → T.size ≤ 700000 →
    Calls Try.prog 36 #[T.ptr, .int .i64 f, .int .i64 id] w (RemPost f id T w)
  | .nil, w, _, _, _ => remNil_c f id w
  | .node b x l r, w, hT, hnd, hz => by
    by_cases hi : x.id = id
    · cases r with
      | nil => exact remTop_c f id b x l w hT hi
      | node c y m k => exact remMid_c f id b c x y l m k w hT hnd hz hi
    · have hnd2 : l.blocks.Nodup ∧ r.blocks.Nodup := by
        have := List.nodup_append.1 (List.nodup_cons.1 hnd).2
        exact ⟨this.1, this.2.1⟩
      have hz2 : l.size ≤ 700000 ∧ r.size ≤ 700000 := by simp only [Tr.size] at hz; omega
      cases hb : Tr.bef f id x with
      | true => exact remL_c f id b x l r w hT hnd hz hi hb (fun w' a1 => remove_c f id l w' a1 hnd2.1 hz2.1)
      | false => exact remR_c f id b x l r w hT hnd hz hi hb (fun w' a1 => remove_c f id r w' a1 hnd2.2 hz2.2)
end Go.Proofs.Ythmbnffddpnehaa
