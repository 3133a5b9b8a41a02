/- The small calls on a node. -/
import Derived.Test.YthmbnffddpnehaaITree
import Derived.Deep.QuietTactic
import Derived.StillTailTactics
import Derived.IntWalk
namespace Go.Proofs.Ythmbnffddpnehaa
open Go.RowKit
set_option linter.unusedVariables false
set_option linter.unusedSimpArgs false
theorem run_imax3 {P : Program} (w : World) (ts : Array TypeId) (t : TypeId) (k k' k'' : IntKind) (x y z : Int) : (Builtin.max_ ts t #[.int k x, .int k' y, .int k'' z]).run P w = .ok (.int k (imax (imax x y) z)) w := by
  simp only [go_sem, imax]
  rfl
attribute [local go_sem ↓ high] run_imax run_imax3
theorem calls_flip {P : Program} {f : FuncId} {args : Array Value} {w : World} {v : Value} (h : Calls P f args w fun e w' => e = .returned v ∧ w = w') : Calls P f args w fun e w' => e = .returned v ∧ w' = w := h.mono fun _ _ hh => ⟨hh.1, hh.2.symm⟩
/-- A node's cells, one by one. -/
theorem NodeAt.cells {w : World} {b : Nat} {x : It} {la hi : Int} {pl pr : Value} (h : NodeAt w b x la hi pl pr) :
    b < w.heap.size ∧ w.cell? ⟨b, 0, none⟩ = some (.int .i64 x.f) ∧ w.cell? ⟨b, 1, none⟩ = some (.int .i64 x.t) ∧ w.cell? ⟨b, 2, none⟩ = some (.string x.v) ∧ w.cell? ⟨b, 3, none⟩ = some (.int .i64 x.id) ∧
    w.cell? ⟨b, 4, none⟩ = some (.int .i64 la) ∧ w.cell? ⟨b, 5, none⟩ = some (.int .i64 hi) ∧ w.cell? ⟨b, 6, none⟩ = some pl ∧ w.cell? ⟨b, 7, none⟩ = some pr :=
  ⟨heap_lt h, by rw [heap_cell h]; rfl, by rw [heap_cell h]; rfl, by rw [heap_cell h]; rfl, by rw [heap_cell h]; rfl, by rw [heap_cell h]; rfl, by rw [heap_cell h]; rfl, by rw [heap_cell h]; rfl, by rw [heap_cell h]; rfl⟩
theorem NodeAt.free {w : World} {b : Nat} {x : It} {la hi : Int} {pl pr : Value} (h : NodeAt w b x la hi pl pr) (j : Nat) : w.frozen? ⟨b, j, none⟩ = false := heap_frozen h j (by omega)
theorem NodeAt.setLast {w : World} {b : Nat} {x : It} {la hi : Int} {pl pr : Value} (h : NodeAt w b x la hi pl pr) (u : Int) : NodeAt (w.setCell ⟨b, 4, none⟩ (.int .i64 u)) b x u hi pl pr := heap_set h 4 _
theorem NodeAt.setHigh {w : World} {b : Nat} {x : It} {la hi : Int} {pl pr : Value} (h : NodeAt w b x la hi pl pr) (u : Int) : NodeAt (w.setCell ⟨b, 5, none⟩ (.int .i64 u)) b x la u pl pr := heap_set h 5 _
theorem NodeAt.setL {w : World} {b : Nat} {x : It} {la hi : Int} {pl pr : Value} (h : NodeAt w b x la hi pl pr) (u : Value) : NodeAt (w.setCell ⟨b, 6, none⟩ u) b x la hi u pr := heap_set h 6 _
theorem NodeAt.setR {w : World} {b : Nat} {x : It} {la hi : Int} {pl pr : Value} (h : NodeAt w b x la hi pl pr) (u : Value) : NodeAt (w.setCell ⟨b, 7, none⟩ u) b x la hi pl u := heap_set h 7 _
theorem NodeAt.keep {w : World} {b : Nat} {x : It} {la hi : Int} {pl pr : Value} (h : NodeAt w b x la hi pl pr) (c o : Nat) (u : Value) (hc : c ≠ b) : NodeAt (w.setCell ⟨c, o, none⟩ u) b x la hi pl pr := heap_keep h ⟨c, o, none⟩ u (fun e => hc e.symm)
set_option maxRecDepth 100000 in
theorem height_c (T : Tr) (w : World) (h : T.In w) : Calls Try.prog 38 #[T.ptr] w fun e w' => e = .returned (.int .i64 T.high) ∧ w' = w := by
  cases T with
  | nil =>
    unfold Tr.ptr Tr.high
    go_enter Try.func38, Try.ntmps38
    go_wp2_with fail
    go_ret
    exact ⟨rfl, rfl⟩
  | node b x l r =>
    obtain ⟨hb, -, -, -, -, -, c5, -, -⟩ := h.1.cells
    generalize (Tr.node b x l r).high = hi at *
    unfold Tr.ptr
    clear h
    go_enter Try.func38, Try.ntmps38
    go_wp2_with fail
    go_ret
    exact ⟨rfl, rfl⟩
set_option maxRecDepth 100000 in
theorem end_c (T : Tr) (w : World) (h : T.In w) : Calls Try.prog 49 #[T.ptr] w fun e w' => e = .returned (.int .i64 T.last) ∧ w' = w := by
  cases T with
  | nil =>
    unfold Tr.ptr Tr.last
    go_enter Try.func49, Try.ntmps49
    go_wp2_with fail
    go_ret
    exact ⟨rfl, rfl⟩
  | node b x l r =>
    obtain ⟨hb, -, -, -, -, c4, -, -, -⟩ := h.1.cells
    generalize (Tr.node b x l r).last = la at *
    unfold Tr.ptr
    clear h
    go_enter Try.func49, Try.ntmps49
    go_wp2_with fail
    go_ret
    exact ⟨rfl, rfl⟩
set_option maxRecDepth 100000 in
theorem before_c (b : Nat) (x : It) (la hi : Int) (pl pr : Value) (f id : Int) (w : World) (h : NodeAt w b x la hi pl pr) : Calls Try.prog 45 #[.pointer (some ⟨b, 0, none⟩), .int .i64 f, .int .i64 id] w fun e w' => e = .returned (.bool (Tr.bef f id x)) ∧ w' = w := by
  obtain ⟨hb, c0, -, -, c3, -, -, -, -⟩ := h.cells
  obtain ⟨xi, xf, xt, xv⟩ := x
  unfold Tr.bef
  dsimp only at c0 c3 ⊢
  clear h
  by_cases h1 : f < xf
  · rw [decide_eq_true h1, Bool.true_or]
    go_enter Try.func45, Try.ntmps45
    go_wp2_with fail
    go_ret
    exact ⟨rfl, rfl⟩
  · rw [decide_eq_false h1, Bool.false_or]
    by_cases h2 : f = xf
    · subst h2
      rw [beq_self_eq_true, Bool.true_and]
      go_enter Try.func45, Try.ntmps45
      go_wp2_with fail
      go_ret
      exact ⟨rfl, rfl⟩
    · have h3 : (f == xf) = false := by simpa using h2
      rw [h3, Bool.false_and]
      go_enter Try.func45, Try.ntmps45
      go_wp2_with fail
      go_ret
      exact ⟨rfl, rfl⟩
set_option maxRecDepth 100000 in
set_option maxHeartbeats 1000000 in
theorem mend_c (b : Nat) (x : It) (la hi : Int) (l r : Tr) (w : World) (h : NodeAt w b x la hi l.ptr r.ptr) (hl : l.In w) (hr : r.In w) (hbl : b ∉ l.blocks) (hbr : b ∉ r.blocks) (hz : l.size + r.size ≤ 1000000) :
    Calls Try.prog 46 #[.pointer (some ⟨b, 0, none⟩)] w fun e w' => e = .returned (.pointer (some ⟨b, 0, none⟩)) ∧ (Tr.node b x l r).In w' ∧ Kept [b] w w' := by
  have h0 := h
  obtain ⟨hb, c0, c1, c2, c3, c4, c5, c6, c7⟩ := h.cells
  have q5 := h.free 5
  have q4 := h.free 4
  have hw : IntKind.i64.wrap (1 + imax l.high r.high) = 1 + imax l.high r.high := IntWalk.i64_in _ (by
    have h1 := l.high_le
    have h2 := r.high_le
    unfold imax
    split <;> omega)
  have HL := hid (fun w' (g : l.In w') => calls_flip ((height_c l w' g).mono fun _ _ q => ⟨q.1, q.2.symm⟩))
  have HR := hid (fun w' (g : r.In w') => calls_flip ((height_c r w' g).mono fun _ _ q => ⟨q.1, q.2.symm⟩))
  have EL := hid (fun w' (g : l.In w') => calls_flip ((end_c l w' g).mono fun _ _ q => ⟨q.1, q.2.symm⟩))
  have ER := hid (fun w' (g : r.In w') => calls_flip ((end_c r w' g).mono fun _ _ q => ⟨q.1, q.2.symm⟩))
  have LIN := hid hl
  have RIN := hid hr
  have HB := hid (And.intro hbl hbr)
  have HN := hid h0
  have hH : (Tr.node b x l r).high = 1 + imax l.high r.high := rfl
  have hL : (Tr.node b x l r).last = imax (imax x.t l.last) r.last := rfl
  have EH := hid hH
  have ELs := hid hL
  obtain ⟨xi, xf, xt, xv⟩ := x
  dsimp only at *
  obtain ⟨ul, hul⟩ : ∃ u, l.ptr = .pointer u := by cases l; exact ⟨_, rfl⟩; exact ⟨_, rfl⟩
  obtain ⟨ur, hur⟩ : ∃ u, r.ptr = .pointer u := by cases r; exact ⟨_, rfl⟩; exact ⟨_, rfl⟩
  rw [hul] at HL EL c6
  rw [hur] at HR ER c7
  clear hl hr hbl hbr hz h h0 hH hL
  generalize hA : l.high = lh at *
  generalize hB : r.high = rh at *
  generalize hC : l.last = ll at *
  generalize hD : r.last = rl at *
  have HU := hid (And.intro hul hur)
  clear hul hur hA hB hC hD
  go_enter Try.func46, Try.ntmps46
  go_wp2_with fail
  go_still_tail 15, (by kernel_rfl)
  still_call (HL.out _ LIN.out.drew)
  repeat still_step
  still_call (HR.out _ RIN.out.drew)
  repeat still_step
  try refine wpStill_nil ?_
  go_wp2_with fail
  have N1 : NodeAt ((w.setCell ⟨b, 5, none⟩ (.int .i64 (1 + imax lh rh))).drew) b ⟨xi, xf, xt, xv⟩ la (1 + imax lh rh) l.ptr r.ptr := HN.out.setHigh _
  have K1 : Kept [b] w ((w.setCell ⟨b, 5, none⟩ (.int .i64 (1 + imax lh rh))).drew) := ((Kept.refl [b] w).set b 5 _ (by simp)).drew
  have L1 := K1.tree LIN.out (fun c hc => by intro h; simp at h; subst h; exact HB.out.1 hc)
  have R1 := K1.tree RIN.out (fun c hc => by intro h; simp at h; subst h; exact HB.out.2 hc)
  clear c0 c1 c2 c3 c4 c5 c6 c7 q4 q5 HN LIN RIN hb
  generalize (w.setCell ⟨b, 5, none⟩ (.int .i64 (1 + imax lh rh))).drew = w1 at *
  obtain ⟨hb, c0, c1, c2, c3, c4, c5, c6, c7⟩ := N1.cells
  rw [HU.out.1] at c6
  rw [HU.out.2] at c7
  have q4 := N1.free 4
  have HN := hid N1
  have LIN := hid L1
  have RIN := hid R1
  have HK := hid K1
  clear N1 L1 R1 K1
  dsimp only at c0 c1 c2 c3
  go_still_tail 19, (by kernel_rfl)
  still_call (EL.out _ LIN.out.drew)
  repeat still_step
  still_call (ER.out _ RIN.out.drew)
  repeat still_step
  try refine wpStill_nil ?_
  go_wp2_with fail
  go_ret
  have N2 : NodeAt ((w1.setCell ⟨b, 4, none⟩ (.int .i64 (imax (imax xt ll) rl))).drew) b ⟨xi, xf, xt, xv⟩ (imax (imax xt ll) rl) (1 + imax lh rh) l.ptr r.ptr := HN.out.setLast _
  have K2 : Kept [b] w1 ((w1.setCell ⟨b, 4, none⟩ (.int .i64 (imax (imax xt ll) rl))).drew) := ((Kept.refl [b] w1).set b 4 _ (by simp)).drew
  refine ⟨rfl, ⟨?_, ?_, ?_⟩, HK.out.trans K2 (fun j hj => .inl hj)⟩
  · rw [EH.out, ELs.out]; exact N2
  · exact K2.tree LIN.out (fun c hc => by intro h; simp at h; subst h; exact HB.out.1 hc)
  · exact K2.tree RIN.out (fun c hc => by intro h; simp at h; subst h; exact HB.out.2 hc)
set_option maxRecDepth 100000 in
set_option maxHeartbeats 1000000 in
theorem turnLeft_c (b c : Nat) (x y : It) (la hi : Int) (l m r : Tr) (w : World) (h : NodeAt w b x la hi l.ptr (Tr.node c y m r).ptr) (hl : l.In w) (hr : (Tr.node c y m r).In w) (hnd : (b :: (l.blocks ++ (Tr.node c y m r).blocks)).Nodup) (hz : l.size + m.size + r.size ≤ 900000) :
    Calls Try.prog 47 #[.pointer (some ⟨b, 0, none⟩)] w fun e w' => e = .returned (.pointer (some ⟨c, 0, none⟩)) ∧ (Tr.node c y (.node b x l m) r).In w' ∧ Kept [b, c] w w' := by
  obtain ⟨hc, hm, hr⟩ := hr
  simp only [Tr.blocks, List.nodup_cons, List.mem_append, List.mem_cons, not_or, List.nodup_append] at hnd
  obtain ⟨⟨hbl, hbc, hbm, hbr⟩, -, ⟨⟨hcm, hcr⟩, -, -, hmr⟩, hlx⟩ := hnd
  have hlc : c ∉ l.blocks := fun e => hlx c e c (.inl rfl) rfl
  have hlm : ∀ k ∈ l.blocks, k ∉ m.blocks := fun k hk hk2 => hlx k hk k (.inr (.inl hk2)) rfl
  have hlr : ∀ k ∈ l.blocks, k ∉ r.blocks := fun k hk hk2 => hlx k hk k (.inr (.inr hk2)) rfl
  have hmr' : ∀ k ∈ m.blocks, k ∉ r.blocks := fun k hk hk2 => hmr k hk k hk2 rfl
  obtain ⟨hb0, -, -, -, -, -, -, -, c7⟩ := h.cells
  obtain ⟨hc0, -, -, -, -, -, -, d6, -⟩ := hc.cells
  have q7 := h.free 7
  have q6 := hc.free 6
  have hK : Kept [b, c] w ((w.setCell ⟨b, 7, none⟩ m.ptr).setCell ⟨c, 6, none⟩ (.pointer (some ⟨b, 0, none⟩))) := ((Kept.refl [b, c] w).set b 7 _ (by simp)).set c 6 _ (by simp)
  have hN : NodeAt ((w.setCell ⟨b, 7, none⟩ m.ptr).setCell ⟨c, 6, none⟩ (.pointer (some ⟨b, 0, none⟩))) b x la hi l.ptr m.ptr := (h.setR _).keep _ _ _ (fun e => hbc e.symm)
  have hC := (hc.keep b 7 m.ptr hbc).setL (.pointer (some ⟨b, 0, none⟩))
  have L1 := hK.tree hl (fun k hk => by intro h; simp at h; rcases h with rfl | rfl; exact hbl hk; exact hlc hk)
  have M1 := hK.tree hm (fun k hk => by intro h; simp at h; rcases h with rfl | rfl; exact hbm hk; exact hcm hk)
  have R1 := hK.tree hr (fun k hk => by intro h; simp at h; rcases h with rfl | rfl; exact hbr hk; exact hcr hk)
  have H1 := hid ((mend_c b x la hi l m _ hN L1 M1 hbl hbm (by omega)).mono (R' := fun e w' => e = .returned (.pointer (some ⟨b, 0, none⟩)) ∧ Kept [b, c] w w' ∧ Hid (Calls Try.prog 46 #[.pointer (some ⟨c, 0, none⟩)] w' fun e w'' => e = .returned (.pointer (some ⟨c, 0, none⟩)) ∧ (Tr.node c y (.node b x l m) r).In w'' ∧ Kept [c] w' w'')) (by
    rintro e w' ⟨rfl, h2, h3⟩
    refine ⟨rfl, hK.trans h3 (fun j hj => .inl (by simp at hj ⊢; exact .inl hj)), ?_⟩
    have hC2 := h3.node hC (b := c) (by simp; exact fun e => hbc e.symm)
    exact mend_c c y _ _ (.node b x l m) r w' hC2 h2 (h3.tree R1 (fun k hk => by intro h; simp at h; subst h; exact hbr hk)) (by simp only [Tr.blocks, List.mem_cons, List.mem_append, not_or]; exact ⟨fun e => hbc e.symm, hlc, hcm⟩) hcr (by simp only [Tr.size]; omega)))
  obtain ⟨um, hum⟩ : ∃ u, m.ptr = .pointer u := by cases m; exact ⟨_, rfl⟩; exact ⟨_, rfl⟩
  rw [hum] at d6 H1
  have hbc' : ¬ c = b := fun e => hbc e.symm
  rw [show (Tr.node c y m r).ptr = .pointer (some ⟨c, 0, none⟩) from rfl] at c7
  clear hK hN hC L1 M1 R1 h hl hm hr hbl hbm hbr hcm hcr hmr hlx hlc hlm hlr hmr' hc hum hz
  go_enter Try.func47, Try.ntmps47
  go_wp2_with fail
  refine H1.out.mono ?_
  rintro e w2 ⟨rfl, k2, h2⟩
  go_wp2_with fail
  refine h2.out.mono ?_
  rintro e w3 ⟨rfl, h3, k3⟩
  go_wp2_with fail
  go_ret
  exact ⟨rfl, h3, k2.trans k3 (fun j hj => .inl (by simp at hj ⊢; exact .inr hj))⟩
set_option maxRecDepth 100000 in
set_option maxHeartbeats 1000000 in
theorem turnRight_c (b c : Nat) (x y : It) (la hi : Int) (l m r : Tr) (w : World) (h : NodeAt w b x la hi (Tr.node c y l m).ptr r.ptr) (hl : (Tr.node c y l m).In w) (hr : r.In w) (hnd : (b :: ((Tr.node c y l m).blocks ++ r.blocks)).Nodup) (hz : l.size + m.size + r.size ≤ 900000) :
    Calls Try.prog 48 #[.pointer (some ⟨b, 0, none⟩)] w fun e w' => e = .returned (.pointer (some ⟨c, 0, none⟩)) ∧ (Tr.node c y l (.node b x m r)).In w' ∧ Kept [b, c] w w' := by
  obtain ⟨hc, hl, hm⟩ := hl
  simp only [Tr.blocks, List.nodup_cons, List.mem_append, List.mem_cons, not_or, List.nodup_append] at hnd
  obtain ⟨⟨⟨hbc, hbl, hbm⟩, hbr⟩, ⟨⟨hlc, hcm⟩, -, -, hlm1⟩, -, hlx⟩ := hnd
  have hcr : c ∉ r.blocks := fun e => hlx c (.inl rfl) c e rfl
  obtain ⟨hb0, -, -, -, -, -, -, c6, -⟩ := h.cells
  obtain ⟨hc0, -, -, -, -, -, -, -, d7⟩ := hc.cells
  have q6 := h.free 6
  have q7 := hc.free 7
  have hK : Kept [b, c] w ((w.setCell ⟨b, 6, none⟩ m.ptr).setCell ⟨c, 7, none⟩ (.pointer (some ⟨b, 0, none⟩))) := ((Kept.refl [b, c] w).set b 6 _ (by simp)).set c 7 _ (by simp)
  have hN : NodeAt ((w.setCell ⟨b, 6, none⟩ m.ptr).setCell ⟨c, 7, none⟩ (.pointer (some ⟨b, 0, none⟩))) b x la hi m.ptr r.ptr := (h.setL _).keep _ _ _ (fun e => hbc e.symm)
  have hC := (hc.keep b 6 m.ptr hbc).setR (.pointer (some ⟨b, 0, none⟩))
  have L1 := hK.tree hl (fun k hk => by intro h; simp at h; rcases h with rfl | rfl; exact hbl hk; exact hlc hk)
  have M1 := hK.tree hm (fun k hk => by intro h; simp at h; rcases h with rfl | rfl; exact hbm hk; exact hcm hk)
  have R1 := hK.tree hr (fun k hk => by intro h; simp at h; rcases h with rfl | rfl; exact hbr hk; exact hcr hk)
  have H1 := hid ((mend_c b x la hi m r _ hN M1 R1 hbm hbr (by omega)).mono (R' := fun e w' => e = .returned (.pointer (some ⟨b, 0, none⟩)) ∧ Kept [b, c] w w' ∧ Hid (Calls Try.prog 46 #[.pointer (some ⟨c, 0, none⟩)] w' fun e w'' => e = .returned (.pointer (some ⟨c, 0, none⟩)) ∧ (Tr.node c y l (.node b x m r)).In w'' ∧ Kept [c] w' w'')) (by
    rintro e w' ⟨rfl, h2, h3⟩
    refine ⟨rfl, hK.trans h3 (fun j hj => .inl (by simp at hj ⊢; exact .inl hj)), ?_⟩
    have hC2 := h3.node hC (b := c) (by simp; exact fun e => hbc e.symm)
    exact mend_c c y _ _ l (.node b x m r) w' hC2 (h3.tree L1 (fun k hk => by intro h; simp at h; subst h; exact hbl hk)) h2 hlc (by simp only [Tr.blocks, List.mem_cons, List.mem_append, not_or]; exact ⟨fun e => hbc e.symm, hcm, hcr⟩) (by simp only [Tr.size]; omega)))
  obtain ⟨um, hum⟩ : ∃ u, m.ptr = .pointer u := by cases m; exact ⟨_, rfl⟩; exact ⟨_, rfl⟩
  rw [hum] at d7 H1
  have hbc' : ¬ c = b := fun e => hbc e.symm
  rw [show (Tr.node c y l m).ptr = .pointer (some ⟨c, 0, none⟩) from rfl] at c6
  clear hK hN hC L1 M1 R1 h hl hm hr hbl hbm hbr hcm hcr hlx hlc hlm1 hc hum hz
  go_enter Try.func48, Try.ntmps48
  go_wp2_with fail
  refine H1.out.mono ?_
  rintro e w2 ⟨rfl, k2, h2⟩
  go_wp2_with fail
  refine h2.out.mono ?_
  rintro e w3 ⟨rfl, h3, k3⟩
  go_wp2_with fail
  go_ret
  exact ⟨rfl, h3, k2.trans k3 (fun j hj => .inl (by simp at hj ⊢; exact .inr hj))⟩
end Go.Proofs.Ythmbnffddpnehaa
