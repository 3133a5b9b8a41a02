/- What every call answers, which intervals every span meets, and how high the tree is, behind each. -/
import Derived.Test.YthmbnffddpnehaaIDoes
import Derived.Test.YthmbnffddpnehaaIMeets
import Derived.Test.YthmbnffddpnehaaRelyF
namespace Go.Proofs.Ythmbnffddpnehaa
open Go.RowKit Go.Joins Go.ChangeShapes Go.WideShapes Go.Deep Go.WideElems Go.Maps
set_option linter.unusedVariables false
set_option linter.unusedSimpArgs false
theorem does_c (w0 wr : World) (p rb : Nat) (L : List It) (nx : Int) (x : ActR) (hx : x.Fit) (hP : PlayAt w0 wr p rb (L, nx)) (h0 : 0 ≤ nx) (h1 : nx ≤ 400) (hL : L.length ≤ 400) :
    Calls Try.prog 27 #[.pointer (some ⟨p, 0, none⟩), .pointer (some ⟨rb, 0, none⟩), .agg #[.int .i64 x.kind, .int .i64 x.f, .int .i64 x.t, .string x.val, .int .i64 x.id]] wr fun e w' => e = .returned (.bool true) ∧ PlayAt w0 w' p rb (playF (L, nx) x) := by
  obtain ⟨kind, f, t, s, id⟩ := x
  unfold ActR.Fit at hx
  dsimp only at hx ⊢
  by_cases hk0 : kind = 0
  · subst hk0
    exact does0_c w0 wr p rb L nx f t id s hP h0 h1 hL hx.1 hx.2.1
  · by_cases hk1 : kind = 1
    · subst hk1
      exact does1_c w0 wr p rb L nx f t id s hP h0 h1 hL hx.2.2
    · exact doesX_c w0 wr p rb L nx kind f t id s hk0 hk1 hP hx.2.2
theorem few_10 : Tr.few 10 = 143 := by decide
set_option maxRecDepth 100000 in
set_option maxHeartbeats 2000000 in
theorem Fits_c (n h : Nat) (w : World) (hn : n ≤ 140) (hf : Tr.few h ≤ n) (h0 : n = 0 ↔ h = 0) : Calls Try.prog 28 #[.int .i64 (n : Int), .int .i64 (h : Int)] w fun e w' => e = .returned (.bool true) ∧ w' = w := by
  by_cases hz : n = 0
  · obtain rfl := h0.1 hz
    subst hz
    go_enter Try.func28, Try.ntmps28
    go_wp2_with fail
    go_ret
    exact ⟨rfl, rfl⟩
  · have hh : h ≠ 0 := fun e => hz (h0.2 e)
    have hh9 : h ≤ 9 := by
      by_cases h9 : h ≤ 9
      · exact h9
      · have := Tr.few_mono (m := 10) (n := h) (by omega)
        rw [few_10] at this
        omega
    have e1 : ((n : Int) == 0) = false := by simpa using hz
    have e2 : ((h : Int) == 0) = false := by simpa using hh
    have HF := hid hf
    have HB := hid (show ∀ i, i ≤ 10 → Tr.few i ≤ 143 from fun i hi => by
      have := Tr.few_mono hi
      rwa [few_10] at this)
    clear hf h0 hz
    go_enter Try.func28, Try.ntmps28
    go_wp2_with fail
    clear e1 e2
    go_loopw [5, 6, 7] (fun a b q wr => ∃ i : Nat, 1 ≤ i ∧ i ≤ h ∧ q = .int .i64 (i : Int) ∧ a = .int .i64 (Tr.few i : Int) ∧ b = .int .i64 (Tr.few (i + 1) : Int) ∧ wr = w) (fun _ _ q _ => h - (intOf q).toNat)
    case atStart => exact ⟨1, by omega, by omega, rfl, by simp [Tr.few], by simp [Tr.few], rfl⟩
    case round =>
      obtain ⟨i, hi1, hi2, rfl, rfl, rfl, rfl⟩ := hrel
      have hi0 : (0 : Int) ≤ (i : Int) := by omega
      by_cases hlt : i < h
      · have hj1 : (i : Int) < (h : Int) := by omega
        have b1 := HB.out i (by omega)
        have b2 := HB.out (i + 1) (by omega)
        have hst : (Tr.few (i + 1 + 1) : Int) = (Tr.few i : Int) + (Tr.few (i + 1) : Int) + 1 := by
          simp only [Tr.few]
          push_cast
          omega
        have HST := hid hst
        generalize hA : Tr.few i = A at *
        generalize hB2 : Tr.few (i + 1) = B at *
        clear hst
        go_wp2_with fail
        refine ⟨⟨i + 1, by omega, by omega, by push_cast; rfl, by rw [hB2], by rw [HST.out], trivial⟩, ?_⟩
        simp [intOf]
        omega
      · obtain rfl : i = h := by omega
        have hf := HF.out
        generalize Tr.few i = A at *
        generalize Tr.few (i + 1) = B at *
        have k1 : (0 : Int) < (i : Int) := by omega
        have k2 : (i : Int) < 60 := by omega
        have k3 : ((A : Nat) : Int) ≤ (n : Int) := by omega
        go_wp2_with fail
        go_ret
        exact ⟨rfl, rfl⟩
theorem playF_ok (s : List It × Int) (x : ActR) (h0 : 0 ≤ s.2) (hL : (s.1.length : Int) ≤ s.2) : 0 ≤ (playF s x).2 ∧ ((playF s x).1.length : Int) ≤ (playF s x).2 ∧ (playF s x).2 ≤ s.2 + 1 := by
  unfold playF fillF
  split
  · split
    · simp only [len_addL]
      push_cast
      omega
    · omega
  · split
    · have : (wout x.id s.1).length ≤ s.1.length := by unfold wout; exact List.length_filter_le _ _
      dsimp only
      omega
    · omega
/-- What is asked behind a call. -/
theorem PlayAt.tools {w0 w : World} {p rb : Nat} {L : List It} {nx : Int} (hP : PlayAt w0 w p rb (L, nx)) (hL : L.length ≤ 140) : ∃ (A : Option Addr) (c h : Nat), w.heap[rb]? = some (.cells #[.slice A L.length c, .int .i64 nx] 26 (0, 0)) ∧
    (∀ w', Grow w w' → Calls Try.prog 25 #[.pointer (some ⟨p, 0, none⟩)] w' fun e w'' => e = .returned (.int .i64 (L.length : Int)) ∧ w'' = w') ∧
    (∀ w', Grow w w' → Calls Try.prog 29 #[.pointer (some ⟨p, 0, none⟩)] w' fun e w'' => e = .returned (.int .i64 (h : Int)) ∧ w'' = w') ∧
    (∀ w', Calls Try.prog 28 #[.int .i64 (L.length : Int), .int .i64 (h : Int)] w' fun e w'' => e = .returned (.bool true) ∧ w'' = w') ∧
    (∀ w' f t, Grow w w' → Calls Try.prog 16 #[.pointer (some ⟨p, 0, none⟩), .int .i64 f, .int .i64 t, .int .i64 1000] w' fun e w'' => (∃ lv, e = .returned lv ∧ RIts w'' lv (metL L f t)) ∧ Grow w' w'') ∧
    (∀ w' f t, Grow w w' → Calls Try.prog 14 #[.agg #[.slice A L.length c, .int .i64 nx], .int .i64 f, .int .i64 t] w' fun e w'' => (∃ lv, e = .returned lv ∧ RIts w'' lv (metL L f t)) ∧ Grow w' w'') ∧
    (∀ w', Grow w w' → RIts w' (.slice A L.length c) L) ∧ (∀ x ∈ L, -9223372036854775808 ≤ x.f ∧ x.f ≤ x.t ∧ x.t ≤ 9223372036854775807) := by
  obtain ⟨v', N, T, mb, hix, hN, hro, hr, hT, hrb⟩ := hP
  dsimp only at hix hN hro hr
  obtain ⟨A, c, hv, -, -, -⟩ := hro.items
  subst hv
  have hh0 : 0 ≤ T.high := by
    cases T with
    | nil => simp [Tr.high]
    | node b x l r =>
      rcases Tr.high_node b x l r with ⟨h, h'⟩ | ⟨h, h'⟩
      all_goals
        have hb := hix.bal
        simp only [Tr.Bal] at hb
        have : ∀ T : Tr, 0 ≤ T.high := fun T => by
          induction T with
          | nil => simp [Tr.high]
          | node b x l r ih1 ih2 => rcases Tr.high_node b x l r with ⟨h, h'⟩ | ⟨h, h'⟩ <;> omega
        exact this _
  have hsz : T.size = L.length := hix.size
  have hz : L.length = 0 ↔ T.high.toNat = 0 := by
    rw [← hsz]
    cases T with
    | nil => simp [Tr.size, Tr.high]
    | node b x l r =>
      have : ∀ T : Tr, 0 ≤ T.high := fun T => by
        induction T with
        | nil => simp [Tr.high]
        | node b x l r ih1 ih2 => rcases Tr.high_node b x l r with ⟨h, h'⟩ | ⟨h, h'⟩ <;> omega
      have h1 := this l
      have h2 := this r
      have : (Tr.node b x l r).high.toNat ≠ 0 := by rcases Tr.high_node b x l r with ⟨h, h'⟩ | ⟨h, h'⟩ <;> omega
      simp [Tr.size, this]
  have hmt : ∀ f t, (metL L f t).length ≤ 140 := fun f t => by
    unfold metL
    split
    · exact Nat.le_trans (List.length_filter_le _ _) hL
    · simp
  refine ⟨A, c, T.high.toNat, hr, fun w' g => (Len_c (hix.grow g)).mono fun e w'' h => h, fun w' g => ?_, fun w' => Fits_c L.length T.high.toNat w' hL (by rw [← hsz]; exact Tr.few_size T hix.bal) hz, fun w' f t g => ?_, fun w' f t g => ?_, fun w' g => hro.items.grow g, hix.fits⟩
  · refine (Height_c (hix.grow g)).mono fun e w'' h => ?_
    rw [show ((T.high.toNat : Nat) : Int) = T.high by omega]
    exact h
  · have hx := hix.grow g
    refine (metAny_c (some ⟨p, 0, none⟩) T f t 1000 w' hx.ptr (by rw [hx.items]; exact hx.rises) (by omega) (by omega)).mono ?_
    rintro e w'' ⟨lv, rfl, hs, g2⟩
    rw [hx.items, List.take_of_length_le (by have := hmt f t; simp; omega)] at hs
    exact ⟨⟨lv, rfl, hs⟩, g2⟩
  · refine (RMeet_c nx _ L f t w' (hro.grow g)).mono ?_
    rintro e w'' ⟨B, c', rfl, ho, g2⟩
    exact ⟨⟨_, rfl, ho.items⟩, g2⟩
set_option maxRecDepth 100000 in
set_option maxHeartbeats 8000000 in
theorem IntervalPlays_walk (l : List ActR) (v : Value) (f t : Int) (w : World) (ha : Acts w v l) (hf : -9223372036854775808 ≤ f) (hf' : f ≤ 9223372036854775807) (ht : -9223372036854775808 ≤ t) (ht' : t ≤ 9223372036854775807) :
    Calls Try.prog 7 #[v, .int .i64 f, .int .i64 t] w fun e w' => e = .returned (.bool true) ∧ Below w.heap.size w w' := by
  obtain ⟨A, c, rfl, hl, hfit, hca⟩ := ha
  have HX := hid (show ∀ j (hj : j < l.length), ∃ g off, A = some ⟨g, off, none⟩ ∧ ActAt w g (off + j * 5) l[j] ∧ (l[j]).Fit from fun j hj => by
    obtain ⟨g, off, e, h⟩ := hca (by omega)
    exact ⟨g, off, e, h j hj, hfit _ (List.getElem_mem hj)⟩)
  clear hca hfit
  obtain ⟨n, hN⟩ : ∃ n, n = l.length := ⟨_, rfl⟩
  rw [← hN] at hl ⊢
  have HN := hid hN
  clear hN
  have HW := hid (fun w => awake_c w)
  have HNEW := hid (New_c w w.heap.size (Nat.le_refl _))
  go_enter Try.func7, Try.ntmps7
  go_wp2_with fail
  refine HNEW.out.mono ?_
  rintro e w1 ⟨p, mb, rfl, hix, g1⟩
  have hr := heap_new w1 (.cells #[.slice none 0 0, .int .i64 0] 26)
  have g2 := Grow.alloc w1 (.cells #[.slice none 0 0, .int .i64 0] 26)
  have HP0 := hid (show PlayAt w (w1.alloc (.cells #[.slice none 0 0, .int .i64 0] 26)) p w1.heap.size ([], 0) from
    ⟨_, 0, .nil, mb, hix.grow g2, by simp, ROwn.nil _, hr, Turn.of_grow (Grow.trans g1 g2) (Nat.le_refl _), g1.size⟩)
  clear hix g1 g2 hr HNEW
  go_wp2_with fail
  generalize w1.alloc (.cells #[.slice none 0 0, .int .i64 0] 26) = w2 at *
  generalize w1.heap.size = rb at *
  go_loopw [9] (fun q wr => ∃ (j : Nat) (L : List It) (nx : Int), j ≤ n ∧ j ≤ 100 ∧ q = .int .i64 (j : Int) ∧ 0 ≤ nx ∧ (L.length : Int) ≤ nx ∧ nx ≤ (j : Int) ∧ Hid (PlayAt w wr p rb (L, nx))) (fun q _ => 100 - (intOf q).toNat)
  case atStart => exact ⟨0, [], 0, by omega, by omega, rfl, by omega, by simp, by omega, HP0⟩
  case round =>
    clear HP0
    obtain ⟨j, L, nx, hj, hj100, rfl, hn0, hnL, hnj, HP⟩ := hrel
    have hj0 : (0 : Int) ≤ (j : Int) := by omega
    by_cases hboth : j < n ∧ j < 100
    · obtain ⟨hlt, hlt100⟩ := hboth
      have hi1 : (j : Int) < (n : Int) := by omega
      have hi2 : (j : Int) < 100 := by omega
      obtain ⟨b, off, rfl, ha, hfit⟩ := HX.out j (by have := HN.out; omega)
      generalize l[j]'(by have := HN.out; omega) = x at *
      have HD := hid (fun (w' : World) (g : Grow wr w') => does_c w w' p rb L nx x hfit (by
        obtain ⟨v', N, T, mb, hix, hN, hro, hr, hT, hrb⟩ := HP.out
        exact ⟨v', N, T, mb, hix.grow g, hN, hro.grow g, g.heap hr, hT.trans (Turn.of_grow g hT.below.size), hrb⟩) hn0 (by omega) (by omega))
      obtain ⟨k1, k2, k3⟩ := playF_ok (L, nx) x hn0 hnL
      generalize playF (L, nx) x = s2 at *
      obtain ⟨L2, nx2⟩ := s2
      dsimp only at k1 k2 k3
      have hTT : Turn w.heap.size w wr := by obtain ⟨v', N, T, mb, -, -, -, -, hT, -⟩ := HP.out; exact hT
      obtain ⟨kind, f1, t1, s1, id1⟩ := x
      unfold ActAt at ha
      dsimp only at ha HD
      obtain ⟨a0, a1, a2, a3, a4⟩ := ha
      have b0 := (Below.cell hTT.below (World.block_lt_of_cell? w _ a0)).trans a0
      have b1 := (Below.cell hTT.below (World.block_lt_of_cell? w _ a1)).trans a1
      have b2 := (Below.cell hTT.below (World.block_lt_of_cell? w _ a2)).trans a2
      have b3 := (Below.cell hTT.below (World.block_lt_of_cell? w _ a3)).trans a3
      have b4 := (Below.cell hTT.below (World.block_lt_of_cell? w _ a4)).trans a4
      clear a0 a1 a2 a3 a4 hTT hfit
      go_wp2_with fail
      refine wp_relyF 5 (by kernel_rfl) (by kernel_rfl) (by kernel_rfl) ?_
      simp only [List.take_succ_cons, List.take_zero, List.drop_succ_cons, List.drop_zero]
      repeat still_step
      refine wpStill_nil ?_
      go_wp2_with fail
      refine (HD.out _ (Grow.drew _)).mono ?_
      rintro e w4 ⟨rfl, hp4⟩
      have HP4 := hid hp4
      obtain ⟨A4, c4, h4, r4, t1', t2', t3', t4', t5', t6', -⟩ := hp4.tools (by omega)
      have T1 := hid t1'
      have T2 := hid t2'
      have T3 := hid t3'
      have T4 := hid t4'
      have T5 := hid t5'
      have q0 : w4.cell? ⟨rb, 0, none⟩ = some (.slice A4 L2.length c4) := by rw [heap_cell r4]; rfl
      have q1 : w4.cell? ⟨rb, 1, none⟩ = some (.int .i64 nx2) := by rw [heap_cell r4]; rfl
      have hl4 := heap_lt r4
      clear hp4 r4 t1' t2' t3' t4' t5' t6' HD HP b0 b1 b2 b3 b4
      go_wp2_with fail
      show fromCall _ _ _ _ _ _
      refine ⟨[.eq (.bool true), .eq (.bool false), .eq (.bool false), .eq (.pointer (some ⟨p, 0, none⟩)), .eq (.int .i64 (L2.length : Int)), .eq (.pointer (some ⟨rb, 0, none⟩)), .eq (.slice A4 L2.length c4), .eq (.int .i64 (L2.length : Int)), .eq (.bool false), .eq (.bool false), .eq (.bool false), .eq (.pointer (some ⟨rb, 0, none⟩)), .eq (.slice A4 L2.length c4), .eq (.int .i64 (L2.length : Int)), .eq (.pointer (some ⟨p, 0, none⟩)), .eq (.int .i64 (h4 : Int)), .eq (.bool true), .eq (.bool false), .eq (.bool false), .eq (.bool false), .eq (.pointer (some ⟨p, 0, none⟩)), .eq (.int .i64 f), .eq (.int .i64 t), (⟨fun v w => RIts w v (metL L2 f t), fun _ _ _ h g => RIts.grow h g⟩ : Per), .eq (.agg #[.slice A4 L2.length c4, .int .i64 nx2]), .eq (.int .i64 f), .eq (.int .i64 t), (⟨fun v w => RIts w v (metL L2 f t), fun _ _ _ h g => RIts.grow h g⟩ : Per), .eq (.bool true), .eq (.bool false), .eq (.bool false)], by kernel_rfl, ?_, ?_, ?_⟩
      · first | rfl | simp [Did, perAt, Per.eq, Per.of, List.replicate_succ]
      · simp only [relyGoals, List.drop_succ_cons, List.drop_zero, List.replicate_succ, List.replicate_zero, List.cons_append, List.nil_append]
        refine ⟨?_, ?_, ?_, ?_, ?_, ?_, ?_, ?_, ?_, ?_, ?_, ?_, ?_, ?_, ?_, ?_, ?_, ?_, ?_, ?_, ?_, ?_, ?_, ?_, ?_, ?_, ?_, ?_, ?_, ?_, trivial⟩
        all_goals intro t w' hsz hg hdd hfr
        all_goals simp only [depsDid, Did, perAt, List.getElem?_cons_zero, List.getElem?_cons_succ, List.getD_cons_zero, List.getD_cons_succ, Per.eq, Per.row, Per.of, Per.any, true_and, and_true, Array.getD_eq_getD_getElem?] at hdd
        · rw [if_pos (by rfl)]
          try simp only [perAt, List.getD_cons_zero, List.getD_cons_succ, Per.eq, Per.row, Per.of]
          simp [execOp, Act.eval, hdd, relyUpon, go_sem, Grow.refl]
        · rw [if_pos (by rfl)]
          try simp only [perAt, List.getD_cons_zero, List.getD_cons_succ, Per.eq, Per.row, Per.of]
          simp [execOp, Act.eval, hdd, relyUpon, go_sem, Grow.refl]
        · rw [if_pos (by simp only [Region.wanted]; rw [yielded_of (d := 28) (b := false) rfl (by simp only [hdd])]; rfl)]
          try simp only [perAt, List.getD_cons_zero, List.getD_cons_succ, Per.eq, Per.row, Per.of]
          have hs7 := hfr 7 (by kernel_rfl)
          simp only [Array.getD_eq_getD_getElem?] at hs7
          simp [execOp, Act.eval, hdd, hs7, relyUpon, go_sem, Grow.refl]
        · rw [if_pos (by simp only [Region.wanted]; rw [yielded_of (d := 28) (b := false) rfl (by simp only [hdd])]; rfl)]
          try simp only [perAt, List.getD_cons_zero, List.getD_cons_succ, Per.eq, Per.row, Per.of]
          simp [execOp, Act.eval, hdd, relyUpon, go_sem]
          refine (T1.out w' hg).mono fun e w'' h => ?_
          obtain ⟨h1, h2⟩ := h
          have h3 : Grow w' w'' := by first | exact h2 | (rw [← h2]; exact Grow.refl _)
          first | exact ⟨h3, h1⟩ | exact ⟨_, h1, h3, rfl⟩ | exact ⟨h1, h3⟩
        · rw [if_pos (by simp only [Region.wanted]; rw [yielded_of (d := 28) (b := false) rfl (by simp only [hdd])]; rfl)]
          try simp only [perAt, List.getD_cons_zero, List.getD_cons_succ, Per.eq, Per.row, Per.of]
          have hs8 := hfr 8 (by kernel_rfl)
          simp only [Array.getD_eq_getD_getElem?] at hs8
          simp [execOp, Act.eval, hdd, hs8, relyUpon, go_sem, Grow.refl]
        · rw [if_pos (by simp only [Region.wanted]; rw [yielded_of (d := 28) (b := false) rfl (by simp only [hdd])]; rfl)]
          try simp only [perAt, List.getD_cons_zero, List.getD_cons_succ, Per.eq, Per.row, Per.of]
          have kc := hg.cells
          simp [execOp, Act.eval, hdd, relyUpon, go_sem, Grow.refl, kc, q0, q1, hl4]
        · rw [if_pos (by simp only [Region.wanted]; rw [yielded_of (d := 28) (b := false) rfl (by simp only [hdd])]; rfl)]
          try simp only [perAt, List.getD_cons_zero, List.getD_cons_succ, Per.eq, Per.row, Per.of]
          simp [execOp, Act.eval, hdd, relyUpon, go_sem, Grow.refl]
        · rw [if_pos (by simp only [Region.wanted]; rw [yielded_of (d := 28) (b := false) rfl (by simp only [hdd])]; rfl)]
          try simp only [perAt, List.getD_cons_zero, List.getD_cons_succ, Per.eq, Per.row, Per.of]
          simp [execOp, Act.eval, hdd, relyUpon, go_sem, Grow.refl]
        · rw [if_pos (by rfl)]
          try simp only [perAt, List.getD_cons_zero, List.getD_cons_succ, Per.eq, Per.row, Per.of]
          simp [execOp, Act.eval, hdd, relyUpon, go_sem, Grow.refl]
        · rw [if_pos (by rfl)]
          try simp only [perAt, List.getD_cons_zero, List.getD_cons_succ, Per.eq, Per.row, Per.of]
          simp [execOp, Act.eval, hdd, relyUpon, go_sem, Grow.refl]
        · rw [if_pos (by simp only [Region.wanted]; rw [yielded_of (d := 36) (b := false) rfl (by simp only [hdd])]; rfl)]
          try simp only [perAt, List.getD_cons_zero, List.getD_cons_succ, Per.eq, Per.row, Per.of]
          have hs8 := hfr 8 (by kernel_rfl)
          simp only [Array.getD_eq_getD_getElem?] at hs8
          simp [execOp, Act.eval, hdd, hs8, relyUpon, go_sem, Grow.refl]
        · rw [if_pos (by simp only [Region.wanted]; rw [yielded_of (d := 36) (b := false) rfl (by simp only [hdd])]; rfl)]
          try simp only [perAt, List.getD_cons_zero, List.getD_cons_succ, Per.eq, Per.row, Per.of]
          have kc := hg.cells
          simp [execOp, Act.eval, hdd, relyUpon, go_sem, Grow.refl, kc, q0, q1, hl4]
        · rw [if_pos (by simp only [Region.wanted]; rw [yielded_of (d := 36) (b := false) rfl (by simp only [hdd])]; rfl)]
          try simp only [perAt, List.getD_cons_zero, List.getD_cons_succ, Per.eq, Per.row, Per.of]
          simp [execOp, Act.eval, hdd, relyUpon, go_sem, Grow.refl]
        · rw [if_pos (by simp only [Region.wanted]; rw [yielded_of (d := 36) (b := false) rfl (by simp only [hdd])]; rfl)]
          try simp only [perAt, List.getD_cons_zero, List.getD_cons_succ, Per.eq, Per.row, Per.of]
          have hs7 := hfr 7 (by kernel_rfl)
          simp only [Array.getD_eq_getD_getElem?] at hs7
          simp [execOp, Act.eval, hdd, hs7, relyUpon, go_sem, Grow.refl]
        · rw [if_pos (by simp only [Region.wanted]; rw [yielded_of (d := 36) (b := false) rfl (by simp only [hdd])]; rfl)]
          try simp only [perAt, List.getD_cons_zero, List.getD_cons_succ, Per.eq, Per.row, Per.of]
          simp [execOp, Act.eval, hdd, relyUpon, go_sem]
          refine (T2.out w' hg).mono fun e w'' h => ?_
          obtain ⟨h1, h2⟩ := h
          have h3 : Grow w' w'' := by first | exact h2 | (rw [← h2]; exact Grow.refl _)
          first | exact ⟨h3, h1⟩ | exact ⟨_, h1, h3, rfl⟩ | exact ⟨h1, h3⟩
        · rw [if_pos (by simp only [Region.wanted]; rw [yielded_of (d := 36) (b := false) rfl (by simp only [hdd])]; rfl)]
          try simp only [perAt, List.getD_cons_zero, List.getD_cons_succ, Per.eq, Per.row, Per.of]
          simp [execOp, Act.eval, hdd, relyUpon, go_sem]
          refine (T3.out w').mono fun e w'' h => ?_
          obtain ⟨h1, h2⟩ := h
          have h3 : Grow w' w'' := by first | exact h2 | (rw [← h2]; exact Grow.refl _)
          first | exact ⟨h3, h1⟩ | exact ⟨_, h1, h3, rfl⟩ | exact ⟨h1, h3⟩
        · rw [if_pos (by simp only [Region.wanted]; rw [yielded_of (d := 36) (b := false) rfl (by simp only [hdd])]; rfl)]
          try simp only [perAt, List.getD_cons_zero, List.getD_cons_succ, Per.eq, Per.row, Per.of]
          simp [execOp, Act.eval, hdd, relyUpon, go_sem, Grow.refl]
        · rw [if_pos (by rfl)]
          try simp only [perAt, List.getD_cons_zero, List.getD_cons_succ, Per.eq, Per.row, Per.of]
          simp [execOp, Act.eval, hdd, relyUpon, go_sem, Grow.refl]
        · rw [if_pos (by rfl)]
          try simp only [perAt, List.getD_cons_zero, List.getD_cons_succ, Per.eq, Per.row, Per.of]
          simp [execOp, Act.eval, hdd, relyUpon, go_sem, Grow.refl]
        · rw [if_pos (by simp only [Region.wanted]; rw [yielded_of (d := 45) (b := false) rfl (by simp only [hdd])]; rfl)]
          try simp only [perAt, List.getD_cons_zero, List.getD_cons_succ, Per.eq, Per.row, Per.of]
          have hs7 := hfr 7 (by kernel_rfl)
          simp only [Array.getD_eq_getD_getElem?] at hs7
          simp [execOp, Act.eval, hdd, hs7, relyUpon, go_sem, Grow.refl]
        · rw [if_pos (by simp only [Region.wanted]; rw [yielded_of (d := 45) (b := false) rfl (by simp only [hdd])]; rfl)]
          try simp only [perAt, List.getD_cons_zero, List.getD_cons_succ, Per.eq, Per.row, Per.of]
          have hs1 := hfr 1 (by kernel_rfl)
          simp only [Array.getD_eq_getD_getElem?] at hs1
          simp [execOp, Act.eval, hdd, hs1, relyUpon, go_sem, Grow.refl]
        · rw [if_pos (by simp only [Region.wanted]; rw [yielded_of (d := 45) (b := false) rfl (by simp only [hdd])]; rfl)]
          try simp only [perAt, List.getD_cons_zero, List.getD_cons_succ, Per.eq, Per.row, Per.of]
          have hs2 := hfr 2 (by kernel_rfl)
          simp only [Array.getD_eq_getD_getElem?] at hs2
          simp [execOp, Act.eval, hdd, hs2, relyUpon, go_sem, Grow.refl]
        · rw [if_pos (by simp only [Region.wanted]; rw [yielded_of (d := 45) (b := false) rfl (by simp only [hdd])]; rfl)]
          try simp only [perAt, List.getD_cons_zero, List.getD_cons_succ, Per.eq, Per.row, Per.of]
          simp [execOp, Act.eval, hdd, relyUpon, go_sem]
          refine (T4.out w' _ _ hg).mono fun e w'' h => ?_
          obtain ⟨⟨lv, h1, h2⟩, h3⟩ := h
          subst h1
          first | exact ⟨_, rfl, h3, h2⟩ | exact ⟨h3, h2⟩
        · rw [if_pos (by simp only [Region.wanted]; rw [yielded_of (d := 45) (b := false) rfl (by simp only [hdd])]; rfl)]
          try simp only [perAt, List.getD_cons_zero, List.getD_cons_succ, Per.eq, Per.row, Per.of]
          have hs8 := hfr 8 (by kernel_rfl)
          simp only [Array.getD_eq_getD_getElem?] at hs8
          have kc := hg.cells
          simp [execOp, Act.eval, hdd, hs8, relyUpon, go_sem, Grow.refl, kc, q0, q1, hl4]
        · rw [if_pos (by simp only [Region.wanted]; rw [yielded_of (d := 45) (b := false) rfl (by simp only [hdd])]; rfl)]
          try simp only [perAt, List.getD_cons_zero, List.getD_cons_succ, Per.eq, Per.row, Per.of]
          have hs1 := hfr 1 (by kernel_rfl)
          simp only [Array.getD_eq_getD_getElem?] at hs1
          simp [execOp, Act.eval, hdd, hs1, relyUpon, go_sem, Grow.refl]
        · rw [if_pos (by simp only [Region.wanted]; rw [yielded_of (d := 45) (b := false) rfl (by simp only [hdd])]; rfl)]
          try simp only [perAt, List.getD_cons_zero, List.getD_cons_succ, Per.eq, Per.row, Per.of]
          have hs2 := hfr 2 (by kernel_rfl)
          simp only [Array.getD_eq_getD_getElem?] at hs2
          simp [execOp, Act.eval, hdd, hs2, relyUpon, go_sem, Grow.refl]
        · rw [if_pos (by simp only [Region.wanted]; rw [yielded_of (d := 45) (b := false) rfl (by simp only [hdd])]; rfl)]
          try simp only [perAt, List.getD_cons_zero, List.getD_cons_succ, Per.eq, Per.row, Per.of]
          simp [execOp, Act.eval, hdd, relyUpon, go_sem]
          refine (T5.out w' _ _ hg).mono fun e w'' h => ?_
          obtain ⟨⟨lv, h1, h2⟩, h3⟩ := h
          subst h1
          first | exact ⟨_, rfl, h3, h2⟩ | exact ⟨h3, h2⟩
        · rw [if_pos (by simp only [Region.wanted]; rw [yielded_of (d := 45) (b := false) rfl (by simp only [hdd])]; rfl)]
          try simp only [perAt, List.getD_cons_zero, List.getD_cons_succ, Per.eq, Per.row, Per.of]
          obtain ⟨k1, k2, -⟩ := hdd
          simp [execOp, Act.eval, relyUpon, go_sem]
          refine (items_c _ _ _ w' k1 k2).mono fun e w'' h => ?_
          obtain ⟨h1, h2⟩ := h
          first | exact ⟨h2, h1⟩ | exact ⟨_, h1, h2, rfl⟩ | exact ⟨h1, h2⟩
        · rw [if_pos (by simp only [Region.wanted]; rw [yielded_of (d := 45) (b := false) rfl (by simp only [hdd])]; rfl)]
          try simp only [perAt, List.getD_cons_zero, List.getD_cons_succ, Per.eq, Per.row, Per.of]
          simp [execOp, Act.eval, hdd, relyUpon, go_sem, Grow.refl]
        · rw [if_pos (by rfl)]
          try simp only [perAt, List.getD_cons_zero, List.getD_cons_succ, Per.eq, Per.row, Per.of]
          simp [execOp, Act.eval, hdd, relyUpon, go_sem, Grow.refl]
      intro wz hgz
      simp only [relyEnd, List.drop_succ_cons, List.drop_zero, List.headD_cons, List.tail_cons, Per.eq, Per.row, Per.of]
      rintro _ rfl _ rfl _ rfl _ rfl _ rfl _ rfl _ rfl _ rfl _ rfl _ rfl _ rfl _ rfl _ rfl _ rfl _ rfl _ rfl _ rfl _ rfl _ rfl _ rfl _ rfl _ rfl _ _ _ rfl _ rfl _ rfl _ _ _ rfl _ rfl _ rfl
      go_simp
      go_wp2_with fail
      refine ⟨⟨j + 1, L2, nx2, by omega, by omega, by push_cast; rfl, k1, k2, by push_cast; omega, ?_⟩, ?_⟩
      · obtain ⟨v', N, T, mb, hix, hN, hro, hr, hT, hrb⟩ := HP4.out
        exact hid ⟨v', N, T, mb, hix.grow hgz, hN, hro.grow hgz, hgz.heap hr, hT.trans (Turn.of_grow hgz hT.below.size), hrb⟩
      · simp [intOf]
        omega
    · have hend : ¬ j < n ∨ (j < n ∧ ¬ j < 100) := by omega
      have hbel : Below w.heap.size w wr := by obtain ⟨v', N, T, mb, -, -, -, -, hT, -⟩ := HP.out; exact hT.below
      have HBL := hid hbel
      obtain ⟨A4, c4, h4, r4, -, -, -, t4', -, t6', t7'⟩ := HP.out.tools (by omega)
      have T4 := hid t4'
      have T6 := hid t6'
      have T7 := hid t7'
      have q0 : wr.cell? ⟨rb, 0, none⟩ = some (.slice A4 L.length c4) := by rw [heap_cell r4]; rfl
      have hl4 := heap_lt r4
      have HMET := hid (show ∀ w' : World, Grow wr w' → Calls Try.prog 16 #[.pointer (some ⟨p, 0, none⟩), .int .i64 (-9223372036854775808), .int .i64 9223372036854775807, .int .i64 1000] w' fun e w'' => ∃ lv, e = .returned lv ∧ RIts w'' lv L ∧ Grow w' w'' from fun w' g => (T4.out w' _ _ g).mono fun e w'' h => by
        obtain ⟨⟨lv, h1, h2⟩, h3⟩ := h
        rw [metL_all T7.out] at h2
        exact ⟨lv, h1, h2, h3⟩)
      clear hbel r4 t4' t6' t7' HP
      generalize L.length = ln at *
      rcases hend with hi | ⟨hi0, hi⟩
      all_goals
        first | (have hi1 : ¬ ((j : Int) < (n : Int)) := by omega) | skip
        first | (have hi1 : (j : Int) < (n : Int) := by omega) | skip
        first | (have hi2 : ¬ ((j : Int) < 100) := by omega) | skip
        go_wp2_with fail
        refine wp_rely [.eq (.pointer (some ⟨p, 0, none⟩)), (⟨fun v w => RIts w v L, fun _ _ _ h g => RIts.grow h g⟩ : Per), .eq (.pointer (some ⟨rb, 0, none⟩)), .eq (.slice A4 ln c4), .eq (.bool true), .eq (.bool true), .eq (.bool true), .eq (.bool true), .eq (.bool true)] (by kernel_rfl) (by kernel_rfl) (by kernel_rfl) ?_ ?_
        · simp only [relyGoals]
          refine ⟨?_, ?_, ?_, ?_, ?_, ?_, ?_, ?_, ?_, trivial⟩
          all_goals intro t w' hsz hg hdd hfr
          all_goals simp only [depsDid, Did, perAt, List.getElem?_cons_zero, List.getElem?_cons_succ, List.getD_cons_zero, List.getD_cons_succ, Per.eq, Per.row, Per.of, and_true, Array.getD_eq_getD_getElem?] at hdd
          · rw [if_pos (by rfl)]
            try simp only [perAt, List.getD_cons_zero, List.getD_cons_succ, Per.eq, Per.row, Per.of]
            have hs7 := hfr 7 (by kernel_rfl)
            simp only [Array.getD_eq_getD_getElem?] at hs7
            simp [execOp, Act.eval, hdd, hs7, relyUpon, go_sem, Grow.refl]
          · rw [if_pos (by rfl)]
            try simp only [perAt, List.getD_cons_zero, List.getD_cons_succ, Per.eq, Per.row, Per.of]
            simp [execOp, Act.eval, hdd, relyUpon, go_sem]
            refine (HMET.out w' hg).mono fun e w'' h => ?_
            obtain ⟨lv, h1, h2, h3⟩ := h
            subst h1
            first | exact ⟨_, rfl, h3, h2⟩ | exact ⟨h3, h2⟩
          · rw [if_pos (by rfl)]
            try simp only [perAt, List.getD_cons_zero, List.getD_cons_succ, Per.eq, Per.row, Per.of]
            have hs8 := hfr 8 (by kernel_rfl)
            simp only [Array.getD_eq_getD_getElem?] at hs8
            simp [execOp, Act.eval, hdd, hs8, relyUpon, go_sem, Grow.refl]
          · rw [if_pos (by rfl)]
            try simp only [perAt, List.getD_cons_zero, List.getD_cons_succ, Per.eq, Per.row, Per.of]
            have kc := hg.cells
            simp [execOp, Act.eval, hdd, relyUpon, go_sem, Grow.refl, kc, q0, hl4]
          · rw [if_pos (by rfl)]
            try simp only [perAt, List.getD_cons_zero, List.getD_cons_succ, Per.eq, Per.row, Per.of]
            obtain ⟨k1, k2, -⟩ := hdd
            simp [execOp, Act.eval, k2, relyUpon, go_sem]
            refine (items_c _ _ _ w' k1 (T6.out w' hg)).mono fun e w'' h => ?_
            obtain ⟨h1, h2⟩ := h
            first | exact ⟨h2, h1⟩ | exact ⟨_, h1, h2, rfl⟩ | exact ⟨h1, h2⟩
          · rw [if_pos (by rfl)]
            try simp only [perAt, List.getD_cons_zero, List.getD_cons_succ, Per.eq, Per.row, Per.of]
            simp [execOp, Act.eval, hdd, relyUpon, go_sem, Grow.refl]
          · rw [if_pos (by simp only [Region.wanted]; rw [yielded_of (d := 62) (b := true) rfl (by simp only [hdd])]; rfl)]
            try simp only [perAt, List.getD_cons_zero, List.getD_cons_succ, Per.eq, Per.row, Per.of]
            simp [execOp, Act.eval, hdd, relyUpon, go_sem]
            refine (HW.out w').mono fun e w'' h => ?_
            obtain ⟨h1, h2⟩ := h
            have h3 : Grow w' w'' := by first | exact h2 | (rw [← h2]; exact Grow.refl _)
            first | exact ⟨h3, h1⟩ | exact ⟨_, h1, h3, rfl⟩ | exact ⟨h1, h3⟩
          · rw [if_pos (by rfl)]
            try simp only [perAt, List.getD_cons_zero, List.getD_cons_succ, Per.eq, Per.row, Per.of]
            simp [execOp, Act.eval, hdd, relyUpon, go_sem, Grow.refl]
          · rw [if_pos (by rfl)]
            try simp only [perAt, List.getD_cons_zero, List.getD_cons_succ, Per.eq, Per.row, Per.of]
            simp [execOp, Act.eval, hdd, relyUpon, go_sem, Grow.refl]
        intro wz hgz
        simp only [relyEnd, List.headD_cons, List.tail_cons, Per.eq, Per.row, Per.of]
        rintro _ rfl _ _ _ rfl _ rfl _ rfl _ rfl _ rfl _ rfl _ rfl
        go_simp
        go_wp2_with fail
        go_ret
        exact ⟨rfl, Below.trans HBL.out (Below.mono hgz HBL.out.size)⟩
namespace LawIntervalPlays
open Go.ChangeShapes Go.WideShapes Go.ChangeAt Go.RowKit
open Go.ChangeMaps (open_string shut_string)
theorem own : ownKnob Try.prog.godebug = none := by kernel_rfl
theorem laidOut : laidOutB Try.prog = true := by kernel_rfl
set_option maxRecDepth 100000 in
theorem lifted (os : Os) (started : os.Started) (H : Type) (enc : TypeId × Value → H) :
    ReturnsInHanded {} Try.checked os 7 .any (Rows.intervalPlaysSpec.pre6 enc Try.prog Try.f7 Rows.intervalPlaysRow.domain false) (Rows.intervalPlaysSpec.post enc Try.prog Try.f7 false true false false) := by
  refine returnsInHanded_of_change_sized (C := Try.checked) own started (by kernel_rfl) Try.func7
    (ChangeSpec.witness6 (enc := enc) (C := Try.checked) false ⟨#[], #[.slice none 0 0, .int .i64 0, .int .i64 0], []⟩ 8 (by kernel_rfl) (by kernel_rfl) (by kernel_rfl) (by kernel_rfl)) ?_
  intro W base args ds gs before hval0 hW hcnd hsz _
  have hval : ∀ (j : Nat) t v, Try.f7.params[j]? = some t → args[j]? = some v → Value.okWide Try.prog W .any base t v := hval0
  have hW' := hW
  obtain ⟨p, q, hA0, hV, rfl, hfz, hnd⟩ := hW
  have hA : DataW.TrodAll enc Try.prog W 0 (fun _ => true) true Try.f7.params.toList args.toList ds p := hA0
  rw [Try.params7] at hA hval hsz
  obtain ⟨v0, vs0, d0, ds0, p0, q0, hargs, rfl, rfl, h0, r0⟩ := trodAll_cons hA
  obtain ⟨v1, vs1, d1, ds1, p1, q1, rfl, rfl, rfl, h1, r1⟩ := trodAll_cons r0
  obtain ⟨v2, vs2, d2, ds2, p2, q2, rfl, rfl, rfl, h2, r2⟩ := trodAll_cons r1
  obtain ⟨rfl, rfl, rfl⟩ := trodAll_nil r2
  obtain rfl : args = #[v0, v1, v2] := by cases args; simp_all
  obtain ⟨rfl, rfl⟩ := trodVars_none hV
  obtain ⟨a0, n0, c0, rfl⟩ := okWide_slice Try.underlying22 (hval 0 22 v0 rfl rfl)
  have k0 := h0
  have lt0 : ∀ x ∈ p0, x.block < W.heap.size := by obtain ⟨m, hm⟩ := k0; exact DataW.trod_lt m _ _ _ hm
  obtain ⟨z0, w0⟩ : ∃ l, Acts W (.slice a0 n0 c0) l := by
    obtain ⟨fuel, hf⟩ := h0
    obtain ⟨l, v, hcs, hl⟩ := open_acts hf (fun elems sp hx => by
      simp only at hx
      subst hx
      have hre := sized_slice hsz (j := 0) (t := 22) rfl rfl Try.underlying22
      have hby : Try.checked.prog.bytesOf 63 = 48 := by kernel_rfl
      rw [hby] at hre
      simp only [reachBytes] at hre
      omega)
    simp [Value.cells] at hcs
    subst hcs
    exact ⟨l, hl⟩
  obtain ⟨a1, rfl, rfl, rfl, w1⟩ := open_int Try.underlying3 (hval 1 3 v1 rfl rfl) h1
  have b1 := wf_i64 w1
  obtain ⟨a2, rfl, rfl, rfl, w2⟩ := open_int Try.underlying3 (hval 2 3 v2 rfl rfl) h2
  have b2 := wf_i64 w2
  clear hA0 hval0
  refine (IntervalPlays_walk z0 (.slice a0 n0 c0) a1 a2 W w0 b1.1 b1.2 b2.1 b2.2).mono fun e W' ⟨he, bel⟩ => ?_
  subst he
  exact ⟨_, rfl, _, _, _, [], _, [], hW', trodAll_mk1 (shut_bool Try.underlying4 _), (trodAll_cons_mk (Below.trod laidOut (by kernel_rfl) (of_decide_eq_true (by kernel_rfl)) k0 bel lt0) (trodAll_cons_mk (shut_int Try.underlying3 w1) (trodAll_cons_mk (shut_int Try.underlying3 w2) trodAll_mk0))), rfl, bel.frame _, fun h => by cases h⟩
theorem over : Rows.intervalPlaysRow.holds Try.pinned (OpenSpec.ofChange Rows.intervalPlaysSpec) :=
  OpenClaim.holds_of_wide 7 Try.f7 rfl rfl rfl rfl rfl rfl rfl ⟨rfl, rfl, rfl, rfl, rfl⟩ rfl rfl rfl rfl rfl (by kernel_rfl) Try.func7 (by kernel_rfl)
    (of_decide_eq_true (by kernel_rfl)) (by unfold Func.isWrapper; first | (rw [if_pos (by decide +kernel)]; kernel_rfl) | (rw [if_neg (by decide +kernel)]; exact ⟨rfl, rfl⟩))
    (fun os started H enc _ => lifted os started H enc)
end LawIntervalPlays
/-- The given statement. -/
theorem intervalPlays_proved : Rows.IntervalPlaysSaid := LawIntervalPlays.over
#print axioms intervalPlays_proved
end Go.Proofs.Ythmbnffddpnehaa
