/- A node put in its place. -/
import Derived.Test.YthmbnffddpnehaaIEven
namespace Go.Proofs.Ythmbnffddpnehaa
open Go.RowKit
set_option linter.unusedVariables false
set_option linter.unusedSimpArgs false
theorem Tr.size_ins (n : Nat) (y : It) (T : Tr) : (T.ins n y).size = T.size + 1 := by
  have := (Tr.perm_ins n y T).length_eq
  rw [Tr.size_blocks, List.length_cons, Tr.size_blocks] at this
  exact this
def InsPost (n : Nat) (y : It) (T : Tr) (w : World) (e : Ending) (w' : World) : Prop := e = .returned (T.ins n y).ptr ∧ (T.ins n y).In w' ∧ Kept (n :: T.blocks) w w'
set_option maxRecDepth 100000 in
set_option maxHeartbeats 1000000 in
theorem insNil_c (n : Nat) (y : It) (la hi : Int) (w : World) (h : NodeAt w n y la hi (.pointer none) (.pointer none)) :
    Calls Try.prog 39 #[.pointer none, .pointer (some ⟨n, 0, none⟩)] w (InsPost n y .nil w) := by
  have hM := hid (mend_c n y la hi .nil .nil w h trivial trivial (by simp [Tr.blocks]) (by simp [Tr.blocks]) (by simp [Tr.size]))
  clear h
  go_enter Try.func39, Try.ntmps39
  go_wp2_with fail
  refine hM.out.mono ?_
  rintro e w1 ⟨rfl, h1, k1⟩
  go_wp2_with fail
  go_ret
  exact ⟨rfl, h1, k1⟩
set_option maxRecDepth 100000 in
set_option maxHeartbeats 2000000 in
theorem insL_c (n : Nat) (y : It) (la hi : Int) (pl pr : Value) (b : Nat) (x : It) (l r : Tr) (w : World) (hT : (Tr.node b x l r).In w) (h : NodeAt w n y la hi pl pr) (hn : n ∉ (Tr.node b x l r).blocks) (hnd : (Tr.node b x l r).blocks.Nodup) (hz : (Tr.node b x l r).size ≤ 700000)
    (hb : Tr.bef y.f y.id x = true)
    (ih : ∀ w', l.In w' → NodeAt w' n y la hi pl pr → Calls Try.prog 39 #[l.ptr, .pointer (some ⟨n, 0, none⟩)] w' (InsPost n y l w')) :
    Calls Try.prog 39 #[.pointer (some ⟨b, 0, none⟩), .pointer (some ⟨n, 0, none⟩)] w (InsPost n y (.node b x l r) w) := by
  obtain ⟨hN, hL, hR⟩ := hT
  have HB := hid (fun w' (g : NodeAt w' b x (Tr.node b x l r).last (Tr.node b x l r).high l.ptr r.ptr) => calls_flip ((before_c b x _ _ l.ptr r.ptr y.f y.id w' g).mono fun _ _ q => ⟨q.1, q.2.symm⟩))
  rw [hb] at HB
  have HE := hid (show Tr.ins n y (.node b x l r) = Tr.even b x (l.ins n y) r by simp only [Tr.ins]; rw [if_pos hb])
  have HIH := hid ih
  have hz2 : (l.ins n y).size + r.size ≤ 800000 := by rw [Tr.size_ins]; simp only [Tr.size] at hz; omega
  have hnb : ¬ n = b ∧ n ∉ l.blocks ∧ n ∉ r.blocks := by
    simp only [Tr.blocks, List.mem_cons, List.mem_append, not_or] at hn
    exact hn
  obtain ⟨hn1, hn2, hn3⟩ := hnb
  have hnd0 := hnd
  simp only [Tr.blocks, List.nodup_cons, List.mem_append, not_or, List.nodup_append] at hnd
  obtain ⟨⟨hbl, hbr⟩, hndl, hndr, hlr⟩ := hnd
  have hnd2 : (b :: ((l.ins n y).blocks ++ r.blocks)).Nodup := by
    refine (List.Perm.cons _ ((Tr.perm_ins n y l).symm.append_right _)).nodup ?_
    have : (n :: (b :: (l.blocks ++ r.blocks))).Nodup := List.nodup_cons.2 ⟨by simp; exact ⟨hn1, hn2, hn3⟩, hnd0⟩
    exact (List.Perm.swap _ _ _).nodup this
  have HEV := hid (fun la hi w' a1 a2 a3 => even_c b x la hi (l.ins n y) r w' a1 a2 a3 hnd2 hz2)
  have HD := hid (show (∀ k ∈ n :: l.blocks, k ≠ b ∧ k ∉ r.blocks) ∧ b ∉ (l.ins n y).blocks ∧ b ∉ r.blocks from ⟨fun k hk => by
      rcases List.mem_cons.1 hk with rfl | hk
      · exact ⟨hn1, hn3⟩
      · exact ⟨fun e => hbl (e ▸ hk), fun e => hlr k hk k e rfl⟩, fun e => (List.nodup_cons.1 hnd2).1 (List.mem_append_left _ e), hbr⟩)
  have HP := hid (Tr.perm_ins n y l)
  obtain ⟨ul, hul⟩ := l.ptr_form
  obtain ⟨ui, hui⟩ := (l.ins n y).ptr_form
  have HU := hid (And.intro hul hui)
  have hNc := hN
  obtain ⟨hb0, -, -, -, -, -, -, c6, -⟩ := hN.cells
  obtain ⟨hn0, d0, -, -, d3, -, -, -, -⟩ := h.cells
  rw [hul] at c6
  have HN := hid hNc
  have HL := hid hL
  have HR := hid hR
  have HH := hid h
  obtain ⟨yi, yf, yt, yv⟩ := y
  dsimp only at *
  clear hN hL hR h hNc hul hui hnd2 hnd0 hlr hndl hndr hbl hbr hn1 hn2 hn3 hn hz hz2 ih hb
  go_enter Try.func39, Try.ntmps39
  go_wp2_with fail
  go_quiet (exact Calls.quiet_of_same (HB.out _ (HN.out.drewN _)))
  have N2 := HN.out.drewN nq
  have L2 := HL.out.drewN nq
  have R2 := HR.out.drewN nq
  have H2 := HH.out.drewN nq
  have K2 := (Kept.refl (n :: b :: (l.blocks ++ r.blocks)) w).drewN nq
  clear HN HL HR HH c6 d0 d3 hb0 hn0
  generalize w.drewN nq = w2 at *
  obtain ⟨hb0, -, -, -, -, -, -, c6, -⟩ := N2.cells
  rw [HU.out.1] at c6
  have HI := hid (HIH.out _ L2 H2)
  rw [HU.out.1] at HI
  have HN := hid N2
  have HR := hid R2
  have HK := hid K2
  clear N2 L2 R2 H2 K2 HIH HB
  go_wp2_with fail
  refine HI.out.mono ?_
  rintro e w4 ⟨rfl, h4, k4⟩
  rw [HU.out.2]
  have N4 := k4.node HN.out (b := b) (fun e => (HD.out.1 b e).1 rfl)
  have R4 := k4.tree HR.out (fun k hk e => (HD.out.1 k e).2 hk)
  have K4 := HK.out.trans k4 (fun j hj => .inl (by grind))
  have N5 : NodeAt (w4.setCell ⟨b, 6, none⟩ (.pointer ui)) b x (Tr.node b x l r).last (Tr.node b x l r).high (l.ins n ⟨yi, yf, yt, yv⟩).ptr r.ptr := by rw [HU.out.2]; exact NodeAt.setL N4 (.pointer ui)
  have K5 := (Kept.refl [b] w4).set b 6 (.pointer ui) (by simp)
  have I5 := K5.tree h4 (fun k hk => by intro e; simp at e; subst e; exact HD.out.2.1 hk)
  have R5 := K5.tree R4 (fun k hk => by intro e; simp at e; subst e; exact HD.out.2.2 hk)
  have HK5 := hid (K4.trans K5 (fun j hj => .inl (by simp at hj; simp [hj])))
  have HEV2 := hid (HEV.out _ _ _ N5 I5 R5)
  obtain ⟨hb4, -, -, -, -, -, -, e6, -⟩ := NodeAt.cells N4
  have q := NodeAt.free N4 6
  rw [HU.out.1] at e6
  clear N4 R4 K4 N5 K5 I5 R5 h4 k4 c6 HN HR HK hb0 HEV HI
  go_wp2_with fail
  refine HEV2.out.mono ?_
  rintro e w6 ⟨rfl, h6, k6⟩
  go_wp2_with fail
  go_ret
  refine ⟨by rw [HE.out]; rfl, by rw [HE.out]; exact h6, (HK5.out.trans k6 (fun j hj => .inl ?_)).mono (fun j hj => by simpa [Tr.blocks] using hj)⟩
  rcases List.mem_cons.1 hj with rfl | hj
  · simp
  · rcases List.mem_append.1 hj with hj | hj
    · have := HP.out.mem_iff.1 hj
      grind
    · simp [hj]
set_option maxRecDepth 100000 in
set_option maxHeartbeats 2000000 in
theorem insR_c (n : Nat) (y : It) (la hi : Int) (pl pr : Value) (b : Nat) (x : It) (l r : Tr) (w : World) (hT : (Tr.node b x l r).In w) (h : NodeAt w n y la hi pl pr) (hn : n ∉ (Tr.node b x l r).blocks) (hnd : (Tr.node b x l r).blocks.Nodup) (hz : (Tr.node b x l r).size ≤ 700000)
    (hb : Tr.bef y.f y.id x = false)
    (ih : ∀ w', r.In w' → NodeAt w' n y la hi pl pr → Calls Try.prog 39 #[r.ptr, .pointer (some ⟨n, 0, none⟩)] w' (InsPost n y r w')) :
    Calls Try.prog 39 #[.pointer (some ⟨b, 0, none⟩), .pointer (some ⟨n, 0, none⟩)] w (InsPost n y (.node b x l r) w) := by
  obtain ⟨hN, hL, hR⟩ := hT
  have HB := hid (fun w' (g : NodeAt w' b x (Tr.node b x l r).last (Tr.node b x l r).high l.ptr r.ptr) => calls_flip ((before_c b x _ _ l.ptr r.ptr y.f y.id w' g).mono fun _ _ q => ⟨q.1, q.2.symm⟩))
  rw [hb] at HB
  have HE := hid (show Tr.ins n y (.node b x l r) = Tr.even b x l (r.ins n y) by simp only [Tr.ins]; rw [if_neg (by simp [hb])])
  have HIH := hid ih
  have hz2 : l.size + (r.ins n y).size ≤ 800000 := by rw [Tr.size_ins]; simp only [Tr.size] at hz; omega
  have hnb : ¬ n = b ∧ n ∉ l.blocks ∧ n ∉ r.blocks := by
    simp only [Tr.blocks, List.mem_cons, List.mem_append, not_or] at hn
    exact hn
  obtain ⟨hn1, hn2, hn3⟩ := hnb
  have hnd0 := hnd
  simp only [Tr.blocks, List.nodup_cons, List.mem_append, not_or, List.nodup_append] at hnd
  obtain ⟨⟨hbl, hbr⟩, hndl, hndr, hlr⟩ := hnd
  have hnd2 : (b :: (l.blocks ++ (r.ins n y).blocks)).Nodup := by
    refine (List.Perm.cons _ (((Tr.perm_ins n y r).symm.append_left _))).nodup ?_
    have : (n :: (b :: (l.blocks ++ r.blocks))).Nodup := List.nodup_cons.2 ⟨by simp; exact ⟨hn1, hn2, hn3⟩, hnd0⟩
    exact ((List.Perm.swap _ _ _).trans (List.Perm.cons _ List.perm_middle.symm)).nodup this
  have HEV := hid (fun la hi w' a1 a2 a3 => even_c b x la hi l (r.ins n y) w' a1 a2 a3 hnd2 hz2)
  have HD := hid (show (∀ k ∈ n :: r.blocks, k ≠ b ∧ k ∉ l.blocks) ∧ b ∉ (r.ins n y).blocks ∧ b ∉ l.blocks from ⟨fun k hk => by
      rcases List.mem_cons.1 hk with rfl | hk
      · exact ⟨hn1, hn2⟩
      · exact ⟨fun e => hbr (e ▸ hk), fun e => hlr k e k hk rfl⟩, fun e => (List.nodup_cons.1 hnd2).1 (List.mem_append_right _ e), hbl⟩)
  have HP := hid (Tr.perm_ins n y r)
  obtain ⟨ul, hul⟩ := r.ptr_form
  obtain ⟨ui, hui⟩ := (r.ins n y).ptr_form
  have HU := hid (And.intro hul hui)
  have hNc := hN
  obtain ⟨hb0, -, -, -, -, -, -, -, c6⟩ := hN.cells
  obtain ⟨hn0, d0, -, -, d3, -, -, -, -⟩ := h.cells
  rw [hul] at c6
  have HN := hid hNc
  have HL := hid hL
  have HR := hid hR
  have HH := hid h
  obtain ⟨yi, yf, yt, yv⟩ := y
  dsimp only at *
  clear hN hL hR h hNc hul hui hnd2 hnd0 hlr hndl hndr hbl hbr hn1 hn2 hn3 hn hz hz2 ih hb
  go_enter Try.func39, Try.ntmps39
  go_wp2_with fail
  go_quiet (exact Calls.quiet_of_same (HB.out _ (HN.out.drewN _)))
  have N2 := HN.out.drewN nq
  have L2 := HL.out.drewN nq
  have R2 := HR.out.drewN nq
  have H2 := HH.out.drewN nq
  have K2 := (Kept.refl (n :: b :: (l.blocks ++ r.blocks)) w).drewN nq
  clear HN HL HR HH c6 d0 d3 hb0 hn0
  generalize w.drewN nq = w2 at *
  obtain ⟨hb0, -, -, -, -, -, -, -, c6⟩ := N2.cells
  rw [HU.out.1] at c6
  have HI := hid (HIH.out _ R2 H2)
  rw [HU.out.1] at HI
  have HN := hid N2
  have HR := hid L2
  have HK := hid K2
  clear N2 L2 R2 H2 K2 HIH HB
  go_wp2_with fail
  refine HI.out.mono ?_
  rintro e w4 ⟨rfl, h4, k4⟩
  rw [HU.out.2]
  have N4 := k4.node HN.out (b := b) (fun e => (HD.out.1 b e).1 rfl)
  have R4 := k4.tree HR.out (fun k hk e => (HD.out.1 k e).2 hk)
  have K4 := HK.out.trans k4 (fun j hj => .inl (by grind))
  have N5 : NodeAt (w4.setCell ⟨b, 7, none⟩ (.pointer ui)) b x (Tr.node b x l r).last (Tr.node b x l r).high l.ptr (r.ins n ⟨yi, yf, yt, yv⟩).ptr := by rw [HU.out.2]; exact NodeAt.setR N4 (.pointer ui)
  have K5 := (Kept.refl [b] w4).set b 7 (.pointer ui) (by simp)
  have I5 := K5.tree h4 (fun k hk => by intro e; simp at e; subst e; exact HD.out.2.1 hk)
  have R5 := K5.tree R4 (fun k hk => by intro e; simp at e; subst e; exact HD.out.2.2 hk)
  have HK5 := hid (K4.trans K5 (fun j hj => .inl (by simp at hj; simp [hj])))
  have HEV2 := hid (HEV.out _ _ _ N5 R5 I5)
  obtain ⟨hb4, -, -, -, -, -, -, -, e6⟩ := NodeAt.cells N4
  have q := NodeAt.free N4 7
  rw [HU.out.1] at e6
  clear N4 R4 K4 N5 K5 I5 R5 h4 k4 c6 HN HR HK hb0 HEV HI
  go_wp2_with fail
  refine HEV2.out.mono ?_
  rintro e w6 ⟨rfl, h6, k6⟩
  go_wp2_with fail
  go_ret
  refine ⟨by rw [HE.out]; rfl, by rw [HE.out]; exact h6, (HK5.out.trans k6 (fun j hj => .inl ?_)).mono (fun j hj => by simpa [Tr.blocks] using hj)⟩
  rcases List.mem_cons.1 hj with rfl | hj
  · simp
  · rcases List.mem_append.1 hj with hj | hj
    · simp [hj]
    · have := HP.out.mem_iff.1 hj
      grind
/-- A node is put in its place. -/
theorem insert_c (n : Nat) (y : It) (la hi : Int) : ∀ (T : Tr) (w : World), T.In w → NodeAt w n y la hi (.pointer none) (.pointer none) → n ∉ T.blocks → T.blocks.Nodup → T.size ≤ 700000 →
    Calls Try.prog 39 #[T.ptr, .pointer (some ⟨n, 0, none⟩)] w (InsPost n y T w)
  | .nil, w, _, h, _, _, _ => insNil_c n y la hi w h
  | .node b x l r, w, hT, h, hn, hnd, hz => by
    have hn2 : n ∉ l.blocks ∧ n ∉ r.blocks := by grind [Tr.blocks]
    have hnd2 : l.blocks.Nodup ∧ r.blocks.Nodup := by
      have := List.nodup_append.1 (List.nodup_cons.1 hnd).2
      exact ⟨this.1, this.2.1⟩
    have hz2 : l.size ≤ 700000 ∧ r.size ≤ 700000 := by simp only [Tr.size] at hz; omega
    cases hb : Tr.bef y.f y.id x with
    | true => exact insL_c n y la hi _ _ b x l r w hT h hn hnd hz hb (fun w' a1 a2 => insert_c n y la hi l w' a1 a2 hn2.1 hnd2.1 hz2.1)
    | false => exact insR_c n y la hi _ _ b x l r w hT h hn hnd hz hb (fun w' a1 a2 => insert_c n y la hi r w' a1 a2 hn2.2 hnd2.2 hz2.2)
end Go.Proofs.Ythmbnffddpnehaa
