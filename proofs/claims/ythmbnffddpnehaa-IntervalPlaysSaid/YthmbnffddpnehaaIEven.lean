/- A node's two sides made about equally high. -/
import Derived.Test.YthmbnffddpnehaaINode
import Derived.Deep.RegionWith
namespace Go.Proofs.Ythmbnffddpnehaa
open Go.RowKit
set_option linter.unusedVariables false
set_option linter.unusedSimpArgs false
theorem Tr.ptr_form (T : Tr) : ∃ u, T.ptr = .pointer u := by cases T; exact ⟨_, rfl⟩; exact ⟨_, rfl⟩
theorem NodeAt.drewN {w : World} {b : Nat} {x : It} {la hi : Int} {pl pr : Value} (h : NodeAt w b x la hi pl pr) (n : Nat) : NodeAt (w.drewN n) b x la hi pl pr := h
def EvenPost (b : Nat) (x : It) (l r : Tr) (w : World) (e : Ending) (w' : World) : Prop := e = .returned (Tr.even b x l r).ptr ∧ (Tr.even b x l r).In w' ∧ Kept (b :: (l.blocks ++ r.blocks)) w w'
theorem wrap_sub (l r : Tr) (h : l.size + r.size ≤ 1000000) : IntKind.i64.wrap (l.high - r.high) = l.high - r.high := IntWalk.i64_in _ (by
  have h1 := l.high_le
  have h2 := r.high_le
  omega)
set_option maxRecDepth 100000 in
set_option maxHeartbeats 1000000 in
theorem evenC_c (b : Nat) (x : It) (la hi : Int) (l r : Tr) (w : World) (h : NodeAt w b x la hi l.ptr r.ptr) (hl : l.In w) (hr : r.In w) (hbl : b ∉ l.blocks) (hbr : b ∉ r.blocks) (hz : l.size + r.size ≤ 900000)
    (h1 : ¬ 1 < l.high - r.high) (h2 : ¬ l.high - r.high < -1) :
    Calls Try.prog 44 #[.pointer (some ⟨b, 0, none⟩)] w (EvenPost b x l r w) := by
  have hM := hid (mend_c b x la hi l r w h hl hr hbl hbr (by omega))
  have hw := wrap_sub l r (by omega)
  have HE := hid (show Tr.even b x l r = .node b x l r by unfold Tr.even; rw [if_neg h1, if_neg h2])
  have HL := hid (fun w' (g : l.In w') => calls_flip ((height_c l w' g).mono fun _ _ q => ⟨q.1, q.2.symm⟩))
  have HR := hid (fun w' (g : r.In w') => calls_flip ((height_c r w' g).mono fun _ _ q => ⟨q.1, q.2.symm⟩))
  obtain ⟨ul, hul⟩ := l.ptr_form
  obtain ⟨ur, hur⟩ := r.ptr_form
  have HU := hid (And.intro hul hur)
  rw [hul] at HL
  rw [hur] at HR
  generalize hA : l.high = lh at *
  generalize hB : r.high = rh at *
  clear h hl hr hbl hbr hz hul hur hA hB
  go_enter Try.func44, Try.ntmps44
  go_wp2_with fail
  refine hM.out.mono ?_
  rintro e w1 ⟨rfl, ⟨N1, L1, R1⟩, K1⟩
  obtain ⟨hb, -, -, -, -, -, -, c6, c7⟩ := N1.cells
  rw [HU.out.1] at c6
  rw [HU.out.2] at c7
  have HN := hid N1
  have LIN := hid L1
  have RIN := hid R1
  have HK := hid K1
  clear N1 L1 R1 K1 hM
  go_wp2_with fail
  go_quiet (first | (go_at_call_of 38 (Value.pointer ul); exact Calls.quiet_of_same (HL.out _ (LIN.out.drewN _))) | (go_at_call_of 38 (Value.pointer ur); exact Calls.quiet_of_same (HR.out _ (RIN.out.drewN _))))
  go_wp2_with fail
  go_ret
  refine ⟨by rw [HE.out]; rfl, by rw [HE.out]; exact Tr.In.drewN (T := Tr.node b x l r) ⟨HN.out, LIN.out, RIN.out⟩ _, (HK.out.drewN _).mono (fun j hj => by simp at hj; simp [hj])⟩
set_option maxRecDepth 100000 in
set_option maxHeartbeats 2000000 in
theorem evenL1_c (b c : Nat) (x y : It) (la hi : Int) (oc ic r : Tr) (w : World) (h : NodeAt w b x la hi (Tr.node c y oc ic).ptr r.ptr) (hl : (Tr.node c y oc ic).In w) (hr : r.In w) (hnd : (b :: ((Tr.node c y oc ic).blocks ++ r.blocks)).Nodup) (hz : (Tr.node c y oc ic).size + r.size ≤ 800000)
    (h1 : 1 < (Tr.node c y oc ic).high - r.high) (h2 : ¬ oc.high < ic.high) :
    Calls Try.prog 44 #[.pointer (some ⟨b, 0, none⟩)] w (EvenPost b x (Tr.node c y oc ic) r w) := by
  have hbl : b ∉ (Tr.node c y oc ic).blocks := fun e => (List.nodup_cons.1 hnd).1 (List.mem_append_left _ e)
  have hbr : b ∉ r.blocks := fun e => (List.nodup_cons.1 hnd).1 (List.mem_append_right _ e)
  have hM := hid (mend_c b x la hi _ _ w h hl hr hbl hbr (by omega))
  have hw := wrap_sub (Tr.node c y oc ic) r (by omega)
  have HE := hid (show Tr.even b x (Tr.node c y oc ic) r = Tr.node c y oc (.node b x ic r) by unfold Tr.even; rw [if_pos h1]; simp only [Tr.fixL]; rw [if_neg h2]; rfl)
  have HC := hid (fun w' (g : (Tr.node c y oc ic).In w') => calls_flip ((height_c _ w' g).mono fun _ _ q => ⟨q.1, q.2.symm⟩))
  have HR := hid (fun w' (g : r.In w') => calls_flip ((height_c r w' g).mono fun _ _ q => ⟨q.1, q.2.symm⟩))
  have HO := hid (fun w' (g : oc.In w') => calls_flip ((height_c oc w' g).mono fun _ _ q => ⟨q.1, q.2.symm⟩))
  have HI := hid (fun w' (g : ic.In w') => calls_flip ((height_c ic w' g).mono fun _ _ q => ⟨q.1, q.2.symm⟩))
  have HT := hid (fun la hi w' a1 a2 a3 => turnRight_c b c x y la hi oc ic r w' a1 a2 a3 hnd (by simp only [Tr.size] at hz ⊢; omega))
  obtain ⟨uo, huo⟩ := oc.ptr_form
  obtain ⟨ui, hui⟩ := ic.ptr_form
  obtain ⟨ur, hur⟩ := r.ptr_form
  have HU := hid (And.intro huo (And.intro hui hur))
  rw [show (Tr.node c y oc ic).ptr = .pointer (some ⟨c, 0, none⟩) from rfl] at HC
  rw [huo] at HO
  rw [hui] at HI
  rw [hur] at HR
  have hne : ¬ b = c := fun e => hbl (by rw [e]; simp [Tr.blocks])
  generalize hA : (Tr.node c y oc ic).high = ch at *
  generalize hB : r.high = rh at *
  generalize hC : oc.high = oh at *
  generalize hD : ic.high = ih at *
  clear h hl hr hbl hbr hz huo hui hur hA hB hC hD hnd
  go_enter Try.func44, Try.ntmps44
  go_wp2_with fail
  refine hM.out.mono ?_
  rintro e w1 ⟨rfl, ⟨N1, L1, R1⟩, K1⟩
  obtain ⟨hb, -, -, -, -, -, -, c6, c7⟩ := N1.cells
  rw [show (Tr.node c y oc ic).ptr = .pointer (some ⟨c, 0, none⟩) from rfl] at c6
  rw [HU.out.2.2] at c7
  have HN := hid N1
  have LIN := hid L1
  have RIN := hid R1
  have HK := hid K1
  clear N1 L1 R1 K1 hM
  go_wp2_with fail
  go_quiet (first | (go_at_call_of 38 (Value.pointer (some ({ block := c, off := 0 } : Addr))); exact Calls.quiet_of_same (HC.out _ (LIN.out.drewN _))) | (go_at_call_of 38 (Value.pointer ur); exact Calls.quiet_of_same (HR.out _ (RIN.out.drewN _))))
  have N2 := HN.out.drewN nq
  have L2 := LIN.out.drewN nq
  have R2 := RIN.out.drewN nq
  have K2 := HK.out.drewN nq
  clear HN LIN RIN HK c6 c7 hb HC HR
  generalize w1.drewN nq = w2 at *
  obtain ⟨hb, -, -, -, -, -, -, c6, c7⟩ := N2.cells
  obtain ⟨hc, -, -, -, -, -, -, d6, d7⟩ := L2.1.cells
  rw [show (Tr.node c y oc ic).ptr = .pointer (some ⟨c, 0, none⟩) from rfl] at c6
  rw [HU.out.2.2] at c7
  rw [HU.out.1] at d6
  rw [HU.out.2.1] at d7
  have HN := hid N2
  have OIN := hid L2.2.1
  have IIN := hid L2.2.2
  have CIN := hid L2
  have RIN := hid R2
  have HK := hid K2
  clear N2 L2 R2 K2
  go_wp2_with fail
  go_quiet (first | (go_at_call_of 38 (Value.pointer uo); exact Calls.quiet_of_same (HO.out _ (OIN.out.drewN _))) | (go_at_call_of 38 (Value.pointer ui); exact Calls.quiet_of_same (HI.out _ (IIN.out.drewN _))))
  have N3 := HN.out.drewN nq
  have C3 := CIN.out.drewN nq
  have R3 := RIN.out.drewN nq
  have K3 := HK.out.drewN nq
  clear HN CIN OIN IIN RIN HK c6 c7 d6 d7 hb hc HO HI
  generalize w2.drewN nq = w3 at *
  have HT2 := hid (HT.out _ _ _ N3 C3 R3)
  have HK := hid K3
  clear N3 C3 R3 K3
  go_wp2_with fail
  refine HT2.out.mono ?_
  rintro e w4 ⟨rfl, h4, k4⟩
  go_wp2_with fail
  go_ret
  refine ⟨by rw [HE.out]; rfl, by rw [HE.out]; exact h4, ((HK.out.mono (cs := [b, c]) (fun j hj => by simp at hj; simp [hj])).trans k4 (fun j hj => .inl hj)).mono (fun j hj => by simp at hj; simp [Tr.blocks]; omega)⟩
set_option maxRecDepth 100000 in
set_option maxHeartbeats 2000000 in
theorem evenL2_c (b c d : Nat) (x y z : It) (la hi : Int) (oc im io r : Tr) (w : World) (h : NodeAt w b x la hi (Tr.node c y oc (Tr.node d z im io)).ptr r.ptr) (hl : (Tr.node c y oc (Tr.node d z im io)).In w) (hr : r.In w) (hnd : (b :: ((Tr.node c y oc (Tr.node d z im io)).blocks ++ r.blocks)).Nodup) (hz : (Tr.node c y oc (Tr.node d z im io)).size + r.size ≤ 800000)
    (h1 : 1 < (Tr.node c y oc (Tr.node d z im io)).high - r.high) (h2 :  oc.high < (Tr.node d z im io).high) :
    Calls Try.prog 44 #[.pointer (some ⟨b, 0, none⟩)] w (EvenPost b x (Tr.node c y oc (Tr.node d z im io)) r w) := by
  have hbl : b ∉ (Tr.node c y oc (Tr.node d z im io)).blocks := fun e => (List.nodup_cons.1 hnd).1 (List.mem_append_left _ e)
  have hbr : b ∉ r.blocks := fun e => (List.nodup_cons.1 hnd).1 (List.mem_append_right _ e)
  have hM := hid (mend_c b x la hi _ _ w h hl hr hbl hbr (by omega))
  have hw := wrap_sub (Tr.node c y oc (Tr.node d z im io)) r (by omega)
  have HE := hid (show Tr.even b x (Tr.node c y oc (Tr.node d z im io)) r = Tr.node d z (.node c y oc im) (.node b x io r) by unfold Tr.even; rw [if_pos h1]; simp only [Tr.fixL]; rw [if_pos h2]; rfl)
  have HC := hid (fun w' (g : (Tr.node c y oc (Tr.node d z im io)).In w') => calls_flip ((height_c _ w' g).mono fun _ _ q => ⟨q.1, q.2.symm⟩))
  have HR := hid (fun w' (g : r.In w') => calls_flip ((height_c r w' g).mono fun _ _ q => ⟨q.1, q.2.symm⟩))
  have HO := hid (fun w' (g : oc.In w') => calls_flip ((height_c oc w' g).mono fun _ _ q => ⟨q.1, q.2.symm⟩))
  have HI := hid (fun w' (g : (Tr.node d z im io).In w') => calls_flip ((height_c (Tr.node d z im io) w' g).mono fun _ _ q => ⟨q.1, q.2.symm⟩))
  have hnc : (c :: (oc.blocks ++ (Tr.node d z im io).blocks)).Nodup := by
    have := (List.nodup_cons.1 hnd).2
    exact (List.nodup_append.1 this).1
  have hnd2 : (b :: ((Tr.node d z (.node c y oc im) io).blocks ++ r.blocks)).Nodup := by
    refine (List.Perm.cons _ ((Tr.perm_turnL (Tr.node c y oc (Tr.node d z im io))).symm.append_right _)).nodup hnd
  have HT1 := hid (fun la hi w' a1 a2 a3 => turnLeft_c c d y z la hi oc im io w' a1 a2 a3 hnc (by simp only [Tr.size] at hz ⊢; omega))
  have HT2 := hid (fun la hi w' a1 a2 a3 => turnRight_c b d x z la hi (.node c y oc im) io r w' a1 a2 a3 hnd2 (by simp only [Tr.size] at hz ⊢; omega))
  have hdis : ∀ k ∈ r.blocks, k ≠ c ∧ k ≠ d := fun k hk => by
    have hx := (List.nodup_append.1 (List.nodup_cons.1 hnd).2).2.2
    exact ⟨fun e => hx c (by simp [Tr.blocks]) k hk e.symm, fun e => hx d (by simp [Tr.blocks]) k hk e.symm⟩
  have hbcd : ¬ b = c ∧ ¬ b = d := ⟨fun e => hbl (by rw [e]; simp [Tr.blocks]), fun e => hbl (by rw [e]; simp [Tr.blocks])⟩
  have hbn : b ∉ (Tr.node d z (.node c y oc im) io).blocks := fun e => (List.nodup_cons.1 hnd2).1 (List.mem_append_left _ e)
  have HD := hid (And.intro hdis (And.intro hbcd (And.intro hbn hbr)))
  obtain ⟨uo, huo⟩ := oc.ptr_form
  obtain ⟨ui, hui⟩ : ∃ u : Option Addr, (Tr.node d z im io).ptr = .pointer u ∧ u = some ⟨d, 0, none⟩ := ⟨_, rfl, rfl⟩
  obtain ⟨hui, rfl⟩ := hui
  obtain ⟨ur, hur⟩ := r.ptr_form
  have HU := hid (And.intro huo (And.intro hui hur))
  rw [show (Tr.node c y oc (Tr.node d z im io)).ptr = .pointer (some ⟨c, 0, none⟩) from rfl] at HC
  rw [huo] at HO
  rw [hui] at HI
  rw [hur] at HR
  have hne : ¬ b = c := fun e => hbl (by rw [e]; simp [Tr.blocks])
  generalize hA : (Tr.node c y oc (Tr.node d z im io)).high = ch at *
  generalize hB : r.high = rh at *
  generalize hC : oc.high = oh at *
  generalize hD : (Tr.node d z im io).high = ih at *
  clear h hl hr hbl hbr hz huo hui hur hA hB hC hD hnd hnc hnd2 hdis hbcd hbn
  go_enter Try.func44, Try.ntmps44
  go_wp2_with fail
  refine hM.out.mono ?_
  rintro e w1 ⟨rfl, ⟨N1, L1, R1⟩, K1⟩
  obtain ⟨hb, -, -, -, -, -, -, c6, c7⟩ := N1.cells
  rw [show (Tr.node c y oc (Tr.node d z im io)).ptr = .pointer (some ⟨c, 0, none⟩) from rfl] at c6
  rw [HU.out.2.2] at c7
  have HN := hid N1
  have LIN := hid L1
  have RIN := hid R1
  have HK := hid K1
  clear N1 L1 R1 K1 hM
  go_wp2_with fail
  go_quiet (first | (go_at_call_of 38 (Value.pointer (some ({ block := c, off := 0 } : Addr))); exact Calls.quiet_of_same (HC.out _ (LIN.out.drewN _))) | (go_at_call_of 38 (Value.pointer ur); exact Calls.quiet_of_same (HR.out _ (RIN.out.drewN _))))
  have N2 := HN.out.drewN nq
  have L2 := LIN.out.drewN nq
  have R2 := RIN.out.drewN nq
  have K2 := HK.out.drewN nq
  clear HN LIN RIN HK c6 c7 hb HC HR
  generalize w1.drewN nq = w2 at *
  obtain ⟨hb, -, -, -, -, -, -, c6, c7⟩ := N2.cells
  obtain ⟨hc, -, -, -, -, -, -, d6, d7⟩ := L2.1.cells
  rw [show (Tr.node c y oc (Tr.node d z im io)).ptr = .pointer (some ⟨c, 0, none⟩) from rfl] at c6
  rw [HU.out.2.2] at c7
  rw [HU.out.1] at d6
  rw [HU.out.2.1] at d7
  have HN := hid N2
  have OIN := hid L2.2.1
  have IIN := hid L2.2.2
  have CIN := hid L2
  have RIN := hid R2
  have HK := hid K2
  clear N2 L2 R2 K2
  go_wp2_with fail
  go_quiet (first | (go_at_call_of 38 (Value.pointer uo); exact Calls.quiet_of_same (HO.out _ (OIN.out.drewN _))) | (go_at_call_of 38 (Value.pointer (some ({ block := d, off := 0 } : Addr))); exact Calls.quiet_of_same (HI.out _ (IIN.out.drewN _))))
  have N3 := HN.out.drewN nq
  have C3 := CIN.out.drewN nq
  have R3 := RIN.out.drewN nq
  have K3 := HK.out.drewN nq
  clear HN CIN OIN IIN RIN HK c6 c7 d6 d7 hb hc HO HI
  generalize w2.drewN nq = w3 at *
  obtain ⟨hb, -, -, -, -, -, -, c6, c7⟩ := N3.cells
  rw [show (Tr.node c y oc (Tr.node d z im io)).ptr = .pointer (some ⟨c, 0, none⟩) from rfl] at c6
  have HT1' := hid (HT1.out _ _ _ C3.1 C3.2.1 C3.2.2)
  have HN := hid N3
  have RIN := hid R3
  have HK := hid K3
  clear N3 C3 R3 K3 HT1
  go_wp2_with fail
  refine HT1'.out.mono ?_
  rintro e w4 ⟨rfl, h4, k4⟩
  have N4 : NodeAt w4 b x _ _ _ _ := k4.node HN.out (by simp; exact HD.out.2.1)
  have R4 := k4.tree RIN.out (fun k hk => by have := HD.out.1 k hk; simp; omega)
  have K4 : Kept [b, c, d] w w4 := (HK.out.mono (cs := [b, c, d]) (fun j hj => by simp at hj; simp [hj])).trans k4 (fun j hj => .inl (by simp at hj ⊢; omega))
  have N5 := N4.setL (.pointer (some ⟨d, 0, none⟩))
  have K5 := (Kept.refl [b] w4).set b 6 (.pointer (some ⟨d, 0, none⟩)) (by simp)
  have C5 := K5.tree h4 (fun k hk => by intro e; simp at e; subst e; exact HD.out.2.2.1 hk)
  have R5 := K5.tree R4 (fun k hk => by intro e; simp at e; subst e; exact HD.out.2.2.2 hk)
  have HT3 := hid (HT2.out _ _ _ N5 C5 R5)
  obtain ⟨hb4, -, -, -, -, -, -, e6, e7⟩ := N4.cells
  have q := N4.free 6
  have hcell : w4.cell? ⟨b, 6, none⟩ = some (.pointer (some ⟨c, 0, none⟩)) := e6
  have HK5 := hid (K4.trans K5 (fun j hj => .inl (by simp at hj ⊢; exact .inl hj)))
  clear N4 R4 K4 N5 K5 C5 R5 h4 k4 e6 e7 c6 c7 HN RIN HK hb HT2
  go_wp2_with fail
  refine HT3.out.mono ?_
  rintro e w6 ⟨rfl, h6, k6⟩
  go_wp2_with fail
  go_ret
  refine ⟨by rw [HE.out]; rfl, by rw [HE.out]; exact h6, (HK5.out.trans k6 (fun j hj => .inl (by simp at hj; simp; omega))).mono (fun j hj => by simp at hj; simp [Tr.blocks]; omega)⟩
set_option maxRecDepth 100000 in
set_option maxHeartbeats 2000000 in
theorem evenR1_c (b c : Nat) (x y : It) (la hi : Int) (oc ic l : Tr) (w : World) (h : NodeAt w b x la hi l.ptr (Tr.node c y ic oc).ptr) (hl : l.In w) (hr : (Tr.node c y ic oc).In w) (hnd : (b :: (l.blocks ++ (Tr.node c y ic oc).blocks)).Nodup) (hz : l.size + (Tr.node c y ic oc).size ≤ 800000)
    (h0 : ¬ 1 < l.high - (Tr.node c y ic oc).high) (h1 : l.high - (Tr.node c y ic oc).high < -1) (h2 : ¬ oc.high < ic.high) :
    Calls Try.prog 44 #[.pointer (some ⟨b, 0, none⟩)] w (EvenPost b x l (Tr.node c y ic oc) w) := by
  have hbl : b ∉ l.blocks := fun e => (List.nodup_cons.1 hnd).1 (List.mem_append_left _ e)
  have hbr : b ∉ (Tr.node c y ic oc).blocks := fun e => (List.nodup_cons.1 hnd).1 (List.mem_append_right _ e)
  have hM := hid (mend_c b x la hi _ _ w h hl hr hbl hbr (by omega))
  have hw := wrap_sub l (Tr.node c y ic oc) (by omega)
  have HE := hid (show Tr.even b x l (Tr.node c y ic oc) = Tr.node c y (.node b x l ic) oc by unfold Tr.even; rw [if_neg h0, if_pos h1]; simp only [Tr.fixR]; rw [if_neg h2]; rfl)
  have HC := hid (fun w' (g : (Tr.node c y ic oc).In w') => calls_flip ((height_c _ w' g).mono fun _ _ q => ⟨q.1, q.2.symm⟩))
  have HR := hid (fun w' (g : l.In w') => calls_flip ((height_c l w' g).mono fun _ _ q => ⟨q.1, q.2.symm⟩))
  have HO := hid (fun w' (g : oc.In w') => calls_flip ((height_c oc w' g).mono fun _ _ q => ⟨q.1, q.2.symm⟩))
  have HI := hid (fun w' (g : ic.In w') => calls_flip ((height_c ic w' g).mono fun _ _ q => ⟨q.1, q.2.symm⟩))
  have HT := hid (fun la hi w' a1 a2 a3 => turnLeft_c b c x y la hi l ic oc w' a1 a3 a2 hnd (by simp only [Tr.size] at hz ⊢; omega))
  obtain ⟨uo, huo⟩ := oc.ptr_form
  obtain ⟨ui, hui⟩ := ic.ptr_form
  obtain ⟨ur, hur⟩ := l.ptr_form
  have HU := hid (And.intro huo (And.intro hui hur))
  rw [show (Tr.node c y ic oc).ptr = .pointer (some ⟨c, 0, none⟩) from rfl] at HC
  rw [huo] at HO
  rw [hui] at HI
  rw [hur] at HR
  have hne : ¬ b = c := fun e => hbr (by rw [e]; simp [Tr.blocks])
  generalize hA : (Tr.node c y ic oc).high = ch at *
  generalize hB : l.high = rh at *
  generalize hC : oc.high = oh at *
  generalize hD : ic.high = ih at *
  clear h hl hr hbl hbr hz huo hui hur hA hB hC hD hnd
  go_enter Try.func44, Try.ntmps44
  go_wp2_with fail
  refine hM.out.mono ?_
  rintro e w1 ⟨rfl, ⟨N1, L1, R1⟩, K1⟩
  obtain ⟨hb, -, -, -, -, -, -, c6, c7⟩ := N1.cells
  rw [show (Tr.node c y ic oc).ptr = .pointer (some ⟨c, 0, none⟩) from rfl] at c7
  rw [HU.out.2.2] at c6
  have HN := hid N1
  have LIN := hid L1
  have RIN := hid R1
  have HK := hid K1
  clear N1 L1 R1 K1 hM
  go_wp2_with fail
  go_quiet (first | (go_at_call_of 38 (Value.pointer (some ({ block := c, off := 0 } : Addr))); exact Calls.quiet_of_same (HC.out _ (RIN.out.drewN _))) | (go_at_call_of 38 (Value.pointer ur); exact Calls.quiet_of_same (HR.out _ (LIN.out.drewN _))))
  have N2 := HN.out.drewN nq
  have L2 := LIN.out.drewN nq
  have R2 := RIN.out.drewN nq
  have K2 := HK.out.drewN nq
  clear HN LIN RIN HK c6 c7 hb HC HR
  generalize w1.drewN nq = w2 at *
  obtain ⟨hb, -, -, -, -, -, -, c6, c7⟩ := N2.cells
  obtain ⟨hc, -, -, -, -, -, -, d6, d7⟩ := R2.1.cells
  rw [show (Tr.node c y ic oc).ptr = .pointer (some ⟨c, 0, none⟩) from rfl] at c7
  rw [HU.out.2.2] at c6
  rw [HU.out.1] at d7
  rw [HU.out.2.1] at d6
  have HN := hid N2
  have OIN := hid R2.2.2
  have IIN := hid R2.2.1
  have CIN := hid R2
  have RIN := hid L2
  have HK := hid K2
  clear N2 L2 R2 K2
  go_wp2_with fail
  go_quiet (first | (go_at_call_of 38 (Value.pointer uo); exact Calls.quiet_of_same (HO.out _ (OIN.out.drewN _))) | (go_at_call_of 38 (Value.pointer ui); exact Calls.quiet_of_same (HI.out _ (IIN.out.drewN _))))
  have N3 := HN.out.drewN nq
  have C3 := CIN.out.drewN nq
  have R3 := RIN.out.drewN nq
  have K3 := HK.out.drewN nq
  clear HN CIN OIN IIN RIN HK c6 c7 d6 d7 hb hc HO HI
  generalize w2.drewN nq = w3 at *
  have HT2 := hid (HT.out _ _ _ N3 C3 R3)
  have HK := hid K3
  clear N3 C3 R3 K3
  go_wp2_with fail
  refine HT2.out.mono ?_
  rintro e w4 ⟨rfl, h4, k4⟩
  go_wp2_with fail
  go_ret
  refine ⟨by rw [HE.out]; rfl, by rw [HE.out]; exact h4, ((HK.out.mono (cs := [b, c]) (fun j hj => by simp at hj; simp [hj])).trans k4 (fun j hj => .inl hj)).mono (fun j hj => by simp at hj; simp [Tr.blocks]; omega)⟩
set_option maxRecDepth 100000 in
set_option maxHeartbeats 2000000 in
theorem evenR2_c (b c d : Nat) (x y z : It) (la hi : Int) (oc im io l : Tr) (w : World) (h : NodeAt w b x la hi l.ptr (Tr.node c y (Tr.node d z io im) oc).ptr) (hl : l.In w) (hr : (Tr.node c y (Tr.node d z io im) oc).In w) (hnd : (b :: (l.blocks ++ (Tr.node c y (Tr.node d z io im) oc).blocks)).Nodup) (hz : l.size + (Tr.node c y (Tr.node d z io im) oc).size ≤ 800000)
    (h0 : ¬ 1 < l.high - (Tr.node c y (Tr.node d z io im) oc).high) (h1 : l.high - (Tr.node c y (Tr.node d z io im) oc).high < -1) (h2 :  oc.high < (Tr.node d z io im).high) :
    Calls Try.prog 44 #[.pointer (some ⟨b, 0, none⟩)] w (EvenPost b x l (Tr.node c y (Tr.node d z io im) oc) w) := by
  have hbl : b ∉ l.blocks := fun e => (List.nodup_cons.1 hnd).1 (List.mem_append_left _ e)
  have hbr : b ∉ (Tr.node c y (Tr.node d z io im) oc).blocks := fun e => (List.nodup_cons.1 hnd).1 (List.mem_append_right _ e)
  have hM := hid (mend_c b x la hi _ _ w h hl hr hbl hbr (by omega))
  have hw := wrap_sub l (Tr.node c y (Tr.node d z io im) oc) (by omega)
  have HE := hid (show Tr.even b x l (Tr.node c y (Tr.node d z io im) oc) = Tr.node d z (.node b x l io) (.node c y im oc) by unfold Tr.even; rw [if_neg h0, if_pos h1]; simp only [Tr.fixR]; rw [if_pos h2]; rfl)
  have HC := hid (fun w' (g : (Tr.node c y (Tr.node d z io im) oc).In w') => calls_flip ((height_c _ w' g).mono fun _ _ q => ⟨q.1, q.2.symm⟩))
  have HR := hid (fun w' (g : l.In w') => calls_flip ((height_c l w' g).mono fun _ _ q => ⟨q.1, q.2.symm⟩))
  have HO := hid (fun w' (g : oc.In w') => calls_flip ((height_c oc w' g).mono fun _ _ q => ⟨q.1, q.2.symm⟩))
  have HI := hid (fun w' (g : (Tr.node d z io im).In w') => calls_flip ((height_c (Tr.node d z io im) w' g).mono fun _ _ q => ⟨q.1, q.2.symm⟩))
  have hnc : (c :: ((Tr.node d z io im).blocks ++ oc.blocks)).Nodup := by
    have := (List.nodup_cons.1 hnd).2
    exact (List.nodup_append.1 this).2.1
  have hnd2 : (b :: (l.blocks ++ (Tr.node d z io (.node c y im oc)).blocks)).Nodup := by
    refine (List.Perm.cons _ ((Tr.perm_turnR (Tr.node c y (Tr.node d z io im) oc)).symm.append_left _)).nodup hnd
  have HT1 := hid (fun la hi w' a1 a2 a3 => turnRight_c c d y z la hi io im oc w' a1 a3 a2 hnc (by simp only [Tr.size] at hz ⊢; omega))
  have HT2 := hid (fun la hi w' a1 a2 a3 => turnLeft_c b d x z la hi l io (.node c y im oc) w' a1 a3 a2 hnd2 (by simp only [Tr.size] at hz ⊢; omega))
  have hdis : ∀ k ∈ l.blocks, k ≠ c ∧ k ≠ d := fun k hk => by
    have hx := (List.nodup_append.1 (List.nodup_cons.1 hnd).2).2.2
    exact ⟨fun e => hx k hk c (by simp [Tr.blocks]) e, fun e => hx k hk d (by simp [Tr.blocks]) e⟩
  have hbcd : ¬ b = c ∧ ¬ b = d := ⟨fun e => hbr (by rw [e]; simp [Tr.blocks]), fun e => hbr (by rw [e]; simp [Tr.blocks])⟩
  have hbn : b ∉ (Tr.node d z io (.node c y im oc)).blocks := fun e => (List.nodup_cons.1 hnd2).1 (List.mem_append_right _ e)
  have HD := hid (And.intro hdis (And.intro hbcd (And.intro hbn hbl)))
  obtain ⟨uo, huo⟩ := oc.ptr_form
  obtain ⟨ui, hui⟩ : ∃ u : Option Addr, (Tr.node d z io im).ptr = .pointer u ∧ u = some ⟨d, 0, none⟩ := ⟨_, rfl, rfl⟩
  obtain ⟨hui, rfl⟩ := hui
  obtain ⟨ur, hur⟩ := l.ptr_form
  have HU := hid (And.intro huo (And.intro hui hur))
  rw [show (Tr.node c y (Tr.node d z io im) oc).ptr = .pointer (some ⟨c, 0, none⟩) from rfl] at HC
  rw [huo] at HO
  rw [hui] at HI
  rw [hur] at HR
  have hne : ¬ b = c := fun e => hbr (by rw [e]; simp [Tr.blocks])
  generalize hA : (Tr.node c y (Tr.node d z io im) oc).high = ch at *
  generalize hB : l.high = rh at *
  generalize hC : oc.high = oh at *
  generalize hD : (Tr.node d z io im).high = ih at *
  clear h hl hr hbl hbr hz huo hui hur hA hB hC hD hnd hnc hnd2 hdis hbcd hbn
  go_enter Try.func44, Try.ntmps44
  go_wp2_with fail
  refine hM.out.mono ?_
  rintro e w1 ⟨rfl, ⟨N1, L1, R1⟩, K1⟩
  obtain ⟨hb, -, -, -, -, -, -, c6, c7⟩ := N1.cells
  rw [show (Tr.node c y (Tr.node d z io im) oc).ptr = .pointer (some ⟨c, 0, none⟩) from rfl] at c7
  rw [HU.out.2.2] at c6
  have HN := hid N1
  have LIN := hid L1
  have RIN := hid R1
  have HK := hid K1
  clear N1 L1 R1 K1 hM
  go_wp2_with fail
  go_quiet (first | (go_at_call_of 38 (Value.pointer (some ({ block := c, off := 0 } : Addr))); exact Calls.quiet_of_same (HC.out _ (RIN.out.drewN _))) | (go_at_call_of 38 (Value.pointer ur); exact Calls.quiet_of_same (HR.out _ (LIN.out.drewN _))))
  have N2 := HN.out.drewN nq
  have L2 := LIN.out.drewN nq
  have R2 := RIN.out.drewN nq
  have K2 := HK.out.drewN nq
  clear HN LIN RIN HK c6 c7 hb HC HR
  generalize w1.drewN nq = w2 at *
  obtain ⟨hb, -, -, -, -, -, -, c6, c7⟩ := N2.cells
  obtain ⟨hc, -, -, -, -, -, -, d6, d7⟩ := R2.1.cells
  rw [show (Tr.node c y (Tr.node d z io im) oc).ptr = .pointer (some ⟨c, 0, none⟩) from rfl] at c7
  rw [HU.out.2.2] at c6
  rw [HU.out.1] at d7
  rw [HU.out.2.1] at d6
  have HN := hid N2
  have OIN := hid R2.2.2
  have IIN := hid R2.2.1
  have CIN := hid R2
  have RIN := hid L2
  have HK := hid K2
  clear N2 L2 R2 K2
  go_wp2_with fail
  go_quiet (first | (go_at_call_of 38 (Value.pointer uo); exact Calls.quiet_of_same (HO.out _ (OIN.out.drewN _))) | (go_at_call_of 38 (Value.pointer (some ({ block := d, off := 0 } : Addr))); exact Calls.quiet_of_same (HI.out _ (IIN.out.drewN _))))
  have N3 := HN.out.drewN nq
  have C3 := CIN.out.drewN nq
  have R3 := RIN.out.drewN nq
  have K3 := HK.out.drewN nq
  clear HN CIN OIN IIN RIN HK c6 c7 d6 d7 hb hc HO HI
  generalize w2.drewN nq = w3 at *
  obtain ⟨hb, -, -, -, -, -, -, c6, c7⟩ := N3.cells
  rw [show (Tr.node c y (Tr.node d z io im) oc).ptr = .pointer (some ⟨c, 0, none⟩) from rfl] at c7
  have HT1' := hid (HT1.out _ _ _ C3.1 C3.2.2 C3.2.1)
  have HN := hid N3
  have RIN := hid R3
  have HK := hid K3
  clear N3 C3 R3 K3 HT1
  go_wp2_with fail
  refine HT1'.out.mono ?_
  rintro e w4 ⟨rfl, h4, k4⟩
  have N4 : NodeAt w4 b x _ _ _ _ := k4.node HN.out (by simp; exact HD.out.2.1)
  have R4 := k4.tree RIN.out (fun k hk => by have := HD.out.1 k hk; simp; omega)
  have K4 : Kept [b, c, d] w w4 := (HK.out.mono (cs := [b, c, d]) (fun j hj => by simp at hj; simp [hj])).trans k4 (fun j hj => .inl (by simp at hj ⊢; omega))
  have N5 := N4.setR (.pointer (some ⟨d, 0, none⟩))
  have K5 := (Kept.refl [b] w4).set b 7 (.pointer (some ⟨d, 0, none⟩)) (by simp)
  have C5 := K5.tree h4 (fun k hk => by intro e; simp at e; subst e; exact HD.out.2.2.1 hk)
  have R5 := K5.tree R4 (fun k hk => by intro e; simp at e; subst e; exact HD.out.2.2.2 hk)
  have HT3 := hid (HT2.out _ _ _ N5 C5 R5)
  obtain ⟨hb4, -, -, -, -, -, -, e6, e7⟩ := N4.cells
  have q := N4.free 7
  have hcell : w4.cell? ⟨b, 7, none⟩ = some (.pointer (some ⟨c, 0, none⟩)) := e7
  have HK5 := hid (K4.trans K5 (fun j hj => .inl (by simp at hj ⊢; exact .inl hj)))
  clear N4 R4 K4 N5 K5 C5 R5 h4 k4 e6 e7 c6 c7 HN RIN HK hb HT2
  go_wp2_with fail
  refine HT3.out.mono ?_
  rintro e w6 ⟨rfl, h6, k6⟩
  go_wp2_with fail
  go_ret
  refine ⟨by rw [HE.out]; rfl, by rw [HE.out]; exact h6, (HK5.out.trans k6 (fun j hj => .inl (by simp at hj; simp; omega))).mono (fun j hj => by simp at hj; simp [Tr.blocks]; omega)⟩
/-- Both sides made about equally high. -/
theorem even_c (b : Nat) (x : It) (la hi : Int) (l r : Tr) (w : World) (h : NodeAt w b x la hi l.ptr r.ptr) (hl : l.In w) (hr : r.In w) (hnd : (b :: (l.blocks ++ r.blocks)).Nodup) (hz : l.size + r.size ≤ 800000) :
    Calls Try.prog 44 #[.pointer (some ⟨b, 0, none⟩)] w (EvenPost b x l r w) := by
  have hbl : b ∉ l.blocks := fun e => (List.nodup_cons.1 hnd).1 (List.mem_append_left _ e)
  have hbr : b ∉ r.blocks := fun e => (List.nodup_cons.1 hnd).1 (List.mem_append_right _ e)
  by_cases h1 : 1 < l.high - r.high
  · cases l with
    | nil => have := r.high_le; simp only [Tr.high] at h1; omega
    | node c y ll lr =>
      by_cases h2 : ll.high < lr.high
      · cases lr with
        | nil => have := ll.high_le; simp only [Tr.high] at h2; omega
        | node d z lm lo => exact evenL2_c b c d x y z la hi ll lm lo r w h hl hr hnd hz h1 h2
      · exact evenL1_c b c x y la hi ll lr r w h hl hr hnd hz h1 h2
  · by_cases h3 : l.high - r.high < -1
    · cases r with
      | nil => have := l.high_le; simp only [Tr.high] at h3; omega
      | node c y rl rr =>
        by_cases h2 : rr.high < rl.high
        · cases rl with
          | nil => have := rr.high_le; simp only [Tr.high] at h2; omega
          | node d z rm ro => exact evenR2_c b c d x y z la hi rr ro rm l w h hl hr hnd hz h1 h3 h2
        · exact evenR1_c b c x y la hi rr rl l w h hl hr hnd hz h1 h3 h2
    · exact evenC_c b x la hi l r w h hl hr hbl hbr (by omega) h1 h3
end Go.Proofs.Ythmbnffddpnehaa
