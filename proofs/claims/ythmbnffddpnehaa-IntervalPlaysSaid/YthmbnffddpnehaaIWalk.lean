/- The tree walked, with a call at each interval that a span meets. -/
import Derived.Test.YthmbnffddpnehaaICalls
namespace Go.Proofs.Ythmbnffddpnehaa
open Go.RowKit
set_option linter.unusedVariables false
set_option linter.unusedSimpArgs false
/-- What a call at each thing leaves, and whether it went on to the end. -/
def feed {S : Type} (step : S → It → S × Bool) : S → List It → S × Bool
  | s, [] => (s, true)
  | s, x :: r => match step s x with
    | (s', true) => feed step s' r
    | (s', false) => (s', false)
theorem feed_on {S : Type} {step : S → It → S × Bool} {s s1 : S} {A : List It} (h : feed step s A = (s1, true)) (C : List It) : feed step s (A ++ C) = feed step s1 C := by
  induction A generalizing s with
  | nil => simp only [feed, Prod.mk.injEq, and_true] at h; subst h; rfl
  | cons x r ih =>
    simp only [List.cons_append, feed] at h ⊢
    rcases hs : step s x with ⟨s', o⟩
    rw [hs] at h
    cases o with
    | true => exact ih h
    | false => simp at h
theorem feed_stop {S : Type} {step : S → It → S × Bool} {s s1 : S} {A : List It} (h : feed step s A = (s1, false)) (C : List It) : feed step s (A ++ C) = (s1, false) := by
  induction A generalizing s with
  | nil => simp [feed] at h
  | cons x r ih =>
    simp only [List.cons_append, feed] at h ⊢
    rcases hs : step s x with ⟨s', o⟩
    rw [hs] at h
    cases o with
    | true => exact ih h
    | false => exact h
theorem feed_one {S : Type} {step : S → It → S × Bool} {s s1 : S} {x : It} {o : Bool} (h : step s x = (s1, o)) : feed step s [x] = (s1, o) := by
  simp only [feed, h]
  cases o <;> rfl
theorem feed_go {S : Type} {step : S → It → S × Bool} {go : S → Prop} (hk : ∀ s x, go s → (step s x).2 = true → go (step s x).1) {s s1 : S} {A : List It} (hg : go s) (h : feed step s A = (s1, true)) : go s1 := by
  induction A generalizing s with
  | nil => simp only [feed, Prod.mk.injEq, and_true] at h; subst h; exact hg
  | cons x r ih =>
    simp only [feed] at h
    rcases hs : step s x with ⟨s', o⟩
    rw [hs] at h
    cases o with
    | true => exact ih (by have := hk s x hg; rw [hs] at this; exact this rfl) h
    | false => simp at h
def FeedPost {S : Type} (step : S → It → S × Bool) (J : S → World → Prop) (s : S) (L : List It) (e : Ending) (w' : World) : Prop := e = .returned (.bool (feed step s L).2) ∧ J (feed step s L).1 w'
theorem Tr.walkT_on (f t : Int) (b : Nat) (x : It) (l r : Tr) (h : ¬ (Tr.node b x l r).last < f) : Tr.walkT f t (.node b x l r) = Tr.walkT f t l ++ (if t < x.f then [] else (if f ≤ x.t then [x] else []) ++ Tr.walkT f t r) := by
  simp only [Tr.walkT]; rw [if_neg h]
/-- What is asked of a call at each thing. -/
structure YieldM {S : Type} (c0 : Nat) (c1 : Nat) (step : S → It → S × Bool) (go : S → Prop) (J : S → World → Prop) (T : Tr) : Prop where
  keep : ∀ s x, go s → (step s x).2 = true → go (step s x).1
  tree : ∀ s w, J s w → T.In w
  drew : ∀ s w n, J s w → J s (w.drewN n)
  call : ∀ s w, go s → J s w → ∀ x ∈ T.items, Calls Try.prog 35 #[.int .i64 x.id, .agg #[.int .i64 x.f, .int .i64 x.t, .string x.v], .pointer (some ⟨c0, 0, none⟩), .pointer (some ⟨c1, 0, none⟩)] w fun e w' => e = .returned (.bool (step s x).2) ∧ J (step s x).1 w'
set_option maxRecDepth 100000 in
set_option maxHeartbeats 1000000 in
theorem walkOutM_c {S : Type} (c0 : Nat) (c1 : Nat) (J : S → World → Prop) (f t : Int) (T : Tr) (s : S) (w : World) (hJ : J s w) (hT : T.In w) (h : T = .nil ∨ (T ≠ .nil ∧ T.last < f)) :
    Calls Try.prog 42 #[T.ptr, .int .i64 f, .int .i64 t, .func (.func 35) #[] #[.pointer (some ⟨c0, 0, none⟩), .pointer (some ⟨c1, 0, none⟩)]] w fun e w' => e = .returned (.bool true) ∧ J s w' := by
  cases T with
  | nil =>
    have HJ := hid hJ
    clear hJ
    simp only [Tr.ptr]
    go_enter Try.func42, Try.ntmps42
    go_wp2_with fail
    go_ret
    exact ⟨rfl, HJ.out⟩
  | node b x l r =>
    obtain ⟨hb, -, -, -, -, c4, -, -, -⟩ := hT.1.cells
    have hlt : (Tr.node b x l r).last < f := by rcases h with h | h; cases h; exact h.2
    generalize (Tr.node b x l r).last = la at *
    have HJ := hid hJ
    clear hJ hT h
    simp only [Tr.ptr]
    go_enter Try.func42, Try.ntmps42
    go_wp2_with fail
    go_ret
    exact ⟨rfl, HJ.out⟩
set_option maxRecDepth 100000 in
set_option maxHeartbeats 4000000 in
theorem walkGoM_c {S : Type} (c0 : Nat) (c1 : Nat) (step : S → It → S × Bool) (go : S → Prop) (J : S → World → Prop) (f t : Int) (b : Nat) (x : It) (l r : Tr) (s : S) (w : World) (hg : go s) (hJ : J s w) (hY : YieldM c0 c1 step go J (.node b x l r)) (hlt : ¬ (Tr.node b x l r).last < f)
    (ihl : ∀ s w, go s → J s w → Calls Try.prog 42 #[l.ptr, .int .i64 f, .int .i64 t, .func (.func 35) #[] #[.pointer (some ⟨c0, 0, none⟩), .pointer (some ⟨c1, 0, none⟩)]] w (FeedPost step J s (Tr.walkT f t l)))
    (ihr : ∀ s w, go s → J s w → Calls Try.prog 42 #[r.ptr, .int .i64 f, .int .i64 t, .func (.func 35) #[] #[.pointer (some ⟨c0, 0, none⟩), .pointer (some ⟨c1, 0, none⟩)]] w (FeedPost step J s (Tr.walkT f t r))) :
    Calls Try.prog 42 #[.pointer (some ⟨b, 0, none⟩), .int .i64 f, .int .i64 t, .func (.func 35) #[] #[.pointer (some ⟨c0, 0, none⟩), .pointer (some ⟨c1, 0, none⟩)]] w (FeedPost step J s (Tr.walkT f t (.node b x l r))) := by
  have HE := hid (Tr.walkT_on f t b x l r hlt)
  have HIN := hid hY.tree
  have HDR := hid hY.drew
  have HCALL := hid (fun s w g h => hY.call s w g h x (by simp [Tr.items]))
  have HKEEP := hid hY.keep
  have HGO := hid hg
  obtain ⟨hb, -, -, -, -, c4, -, c6, -⟩ := (hY.tree s w hJ).1.cells
  have HL := hid (ihl s w hg hJ)
  have HR := hid ihr
  obtain ⟨ul, hul⟩ := l.ptr_form
  obtain ⟨ur, hur⟩ := r.ptr_form
  have HU := hid (And.intro hul hur)
  rw [hul] at c6 HL
  rw [hur] at HR
  generalize hLA : (Tr.node b x l r).last = la at *
  have HLA := hid hLA
  unfold FeedPost at HL
  rcases hq : feed step s (Tr.walkT f t l) with ⟨s1, o1⟩
  rw [hq] at HL
  dsimp only at HL
  have HQ := hid hq
  clear hJ hY ihl ihr hul hur hq hLA hg
  cases o1 with
  | false =>
    go_enter Try.func42, Try.ntmps42
    go_wp2_with fail
    refine HL.out.mono ?_
    rintro e w1 ⟨rfl, j1⟩
    have J1 := hid j1
    clear j1
    go_wp2_with fail
    go_ret
    unfold FeedPost
    rw [HE.out, feed_stop HQ.out]
    exact ⟨rfl, J1.out⟩
  | true =>
    by_cases htx : t < x.f
    · have HX := hid htx
      obtain ⟨xi, xf, xt, xv⟩ := x
      dsimp only at htx
      go_enter Try.func42, Try.ntmps42
      go_wp2_with fail
      refine HL.out.mono ?_
      rintro e w1 ⟨rfl, j1⟩
      obtain ⟨hb1, d0, -, -, -, -, -, -, -⟩ := (HIN.out _ _ j1).1.cells
      dsimp only at d0
      have J1 := hid j1
      clear j1
      go_wp2_with fail
      go_ret
      unfold FeedPost
      rw [HE.out, feed_on HQ.out, if_pos HX.out]
      exact ⟨rfl, J1.out⟩
    · have HX := hid htx
      by_cases hft : f ≤ x.t
      · have HY := hid hft
        obtain ⟨xi, xf, xt, xv⟩ := x
        dsimp only at htx hft
        go_enter Try.func42, Try.ntmps42
        go_wp2_with fail
        refine HL.out.mono ?_
        rintro e w1 ⟨rfl, j1⟩
        obtain ⟨hb1, d0, d1, d2, d3, -, -, -, -⟩ := (HIN.out _ _ j1).1.cells
        have CALL := hid (HCALL.out _ _ (feed_go HKEEP.out HGO.out HQ.out) (HDR.out _ _ 1 j1))
        clear j1 HL c4 c6 hb
        dsimp only at d0 d1 d2 d3 CALL
        rcases hs : step s1 ⟨xi, xf, xt, xv⟩ with ⟨s2, o2⟩
        rw [hs] at CALL
        dsimp only at CALL
        have HS := hid hs
        clear hs
        cases o2 with
        | false =>
          go_wp2_with fail
          go_still_tail 17, (by kernel_rfl)
          go_wp2_with fail
          refine CALL.out.mono ?_
          rintro e w2 ⟨rfl, j2⟩
          have J2 := hid j2
          clear j2 d0 d1 d2 d3
          go_wp2_with fail
          go_ret
          unfold FeedPost
          rw [HE.out, feed_on HQ.out, if_neg (by have := HX.out; (try dsimp only at this ⊢); omega), if_pos HY.out, feed_stop (feed_one HS.out)]
          exact ⟨rfl, J2.out⟩
        | true =>
          go_wp2_with fail
          go_still_tail 17, (by kernel_rfl)
          go_wp2_with fail
          refine CALL.out.mono ?_
          rintro e w2 ⟨rfl, j2⟩
          obtain ⟨hb2, -, -, -, -, -, -, -, e7⟩ := (HIN.out _ _ j2).1.cells
          rw [HU.out.2] at e7
          have HR2 := hid (HR.out _ _ (by have := HKEEP.out s1 ⟨xi, xf, xt, xv⟩ (feed_go HKEEP.out HGO.out HQ.out); rw [HS.out] at this; exact this rfl) j2)
          unfold FeedPost at HR2
          clear j2 d0 d1 d2 d3
          go_wp2_with fail
          refine HR2.out.mono ?_
          rintro e w3 ⟨rfl, j3⟩
          have J3 := hid j3
          clear j3 e7
          go_wp2_with fail
          go_ret
          unfold FeedPost
          rw [HE.out, feed_on HQ.out, if_neg (by have := HX.out; (try dsimp only at this ⊢); omega), if_pos HY.out, feed_on (feed_one HS.out)]
          exact ⟨rfl, J3.out⟩
      · have HY := hid hft
        obtain ⟨xi, xf, xt, xv⟩ := x
        dsimp only at htx hft
        go_enter Try.func42, Try.ntmps42
        go_wp2_with fail
        refine HL.out.mono ?_
        rintro e w1 ⟨rfl, j1⟩
        obtain ⟨hb1, d0, d1, -, -, -, -, -, d7⟩ := (HIN.out _ _ j1).1.cells
        rw [HU.out.2] at d7
        dsimp only at d0 d1
        have J1 := hid j1
        clear j1 HL c4 c6 hb
        go_wp2_with fail
        have hdf : decide (f ≤ xt) = false := decide_eq_false (by have := HY.out; (try dsimp only at this ⊢); omega)
        refine wp_region_still_tail 17 (by kernel_rfl) (by kernel_rfl) ?_
        simp only [List.take_succ_cons, List.take_zero, List.drop_succ_cons, List.drop_zero]
        iterate 8 still_step
        simp only [wpStill]
        go_simp
        clear hdf
        have HJ2 : J s1 w1.drew := HDR.out _ _ 1 J1.out
        have HR2 := hid (HR.out _ _ (feed_go HKEEP.out HGO.out HQ.out) HJ2)
        unfold FeedPost at HR2
        clear d0 d1 HJ2 J1
        go_wp2_with fail
        refine HR2.out.mono ?_
        rintro e w3 ⟨rfl, j3⟩
        have J3 := hid j3
        clear j3
        go_wp2_with fail
        go_ret
        unfold FeedPost
        rw [HE.out, feed_on HQ.out, if_neg (by have := HX.out; (try dsimp only at this ⊢); omega), if_neg (by have := HY.out; (try dsimp only at this ⊢); omega), List.nil_append]
        exact ⟨rfl, J3.out⟩
theorem walkM_c {S : Type} (c0 : Nat) (c1 : Nat) (step : S → It → S × Bool) (go : S → Prop) (J : S → World → Prop) (f t : Int) : ∀ (T : Tr) (s : S) (w : World), YieldM c0 c1 step go J T → go s → J s w →
    Calls Try.prog 42 #[T.ptr, .int .i64 f, .int .i64 t, .func (.func 35) #[] #[.pointer (some ⟨c0, 0, none⟩), .pointer (some ⟨c1, 0, none⟩)]] w (FeedPost step J s (Tr.walkT f t T))
  | .nil, s, w, hY, hg, hJ => walkOutM_c c0 c1 J f t .nil s w hJ trivial (.inl rfl)
  | .node b x l r, s, w, hY, hg, hJ => by
    by_cases hlt : (Tr.node b x l r).last < f
    · rw [show Tr.walkT f t (.node b x l r) = [] by simp only [Tr.walkT]; rw [if_pos hlt]]
      exact walkOutM_c c0 c1 J f t _ s w hJ (hY.tree s w hJ) (.inr ⟨fun e => (by cases e), hlt⟩)
    · have hl : YieldM c0 c1 step go J l := ⟨hY.keep, fun s w h => (hY.tree s w h).2.1, hY.drew, fun s w g h y hy => hY.call s w g h y (by simp [Tr.items, hy])⟩
      have hr : YieldM c0 c1 step go J r := ⟨hY.keep, fun s w h => (hY.tree s w h).2.2, hY.drew, fun s w g h y hy => hY.call s w g h y (by simp [Tr.items, hy])⟩
      exact walkGoM_c c0 c1 step go J f t b x l r s w hg hJ hY hlt (fun s w g h => walkM_c c0 c1 step go J f t l s w hl g h) (fun s w g h => walkM_c c0 c1 step go J f t r s w hr g h)
/-- What is asked of a call at each thing. -/
structure YieldA {S : Type} (c0 : Nat) (c1 : Nat) (c2 : Nat) (step : S → It → S × Bool) (go : S → Prop) (J : S → World → Prop) (T : Tr) : Prop where
  keep : ∀ s x, go s → (step s x).2 = true → go (step s x).1
  tree : ∀ s w, J s w → T.In w
  drew : ∀ s w n, J s w → J s (w.drewN n)
  call : ∀ s w, go s → J s w → ∀ x ∈ T.items, Calls Try.prog 19 #[.int .i64 x.id, .agg #[.int .i64 x.f, .int .i64 x.t, .string x.v], .pointer (some ⟨c0, 0, none⟩), .pointer (some ⟨c1, 0, none⟩), .pointer (some ⟨c2, 0, none⟩)] w fun e w' => e = .returned (.bool (step s x).2) ∧ J (step s x).1 w'
set_option maxRecDepth 100000 in
set_option maxHeartbeats 1000000 in
theorem walkOutA_c {S : Type} (c0 : Nat) (c1 : Nat) (c2 : Nat) (J : S → World → Prop) (f t : Int) (T : Tr) (s : S) (w : World) (hJ : J s w) (hT : T.In w) (h : T = .nil ∨ (T ≠ .nil ∧ T.last < f)) :
    Calls Try.prog 42 #[T.ptr, .int .i64 f, .int .i64 t, .func (.func 19) #[] #[.pointer (some ⟨c0, 0, none⟩), .pointer (some ⟨c1, 0, none⟩), .pointer (some ⟨c2, 0, none⟩)]] w fun e w' => e = .returned (.bool true) ∧ J s w' := by
  cases T with
  | nil =>
    have HJ := hid hJ
    clear hJ
    simp only [Tr.ptr]
    go_enter Try.func42, Try.ntmps42
    go_wp2_with fail
    go_ret
    exact ⟨rfl, HJ.out⟩
  | node b x l r =>
    obtain ⟨hb, -, -, -, -, c4, -, -, -⟩ := hT.1.cells
    have hlt : (Tr.node b x l r).last < f := by rcases h with h | h; cases h; exact h.2
    generalize (Tr.node b x l r).last = la at *
    have HJ := hid hJ
    clear hJ hT h
    simp only [Tr.ptr]
    go_enter Try.func42, Try.ntmps42
    go_wp2_with fail
    go_ret
    exact ⟨rfl, HJ.out⟩
set_option maxRecDepth 100000 in
set_option maxHeartbeats 4000000 in
theorem walkGoA_c {S : Type} (c0 : Nat) (c1 : Nat) (c2 : Nat) (step : S → It → S × Bool) (go : S → Prop) (J : S → World → Prop) (f t : Int) (b : Nat) (x : It) (l r : Tr) (s : S) (w : World) (hg : go s) (hJ : J s w) (hY : YieldA c0 c1 c2 step go J (.node b x l r)) (hlt : ¬ (Tr.node b x l r).last < f)
    (ihl : ∀ s w, go s → J s w → Calls Try.prog 42 #[l.ptr, .int .i64 f, .int .i64 t, .func (.func 19) #[] #[.pointer (some ⟨c0, 0, none⟩), .pointer (some ⟨c1, 0, none⟩), .pointer (some ⟨c2, 0, none⟩)]] w (FeedPost step J s (Tr.walkT f t l)))
    (ihr : ∀ s w, go s → J s w → Calls Try.prog 42 #[r.ptr, .int .i64 f, .int .i64 t, .func (.func 19) #[] #[.pointer (some ⟨c0, 0, none⟩), .pointer (some ⟨c1, 0, none⟩), .pointer (some ⟨c2, 0, none⟩)]] w (FeedPost step J s (Tr.walkT f t r))) :
    Calls Try.prog 42 #[.pointer (some ⟨b, 0, none⟩), .int .i64 f, .int .i64 t, .func (.func 19) #[] #[.pointer (some ⟨c0, 0, none⟩), .pointer (some ⟨c1, 0, none⟩), .pointer (some ⟨c2, 0, none⟩)]] w (FeedPost step J s (Tr.walkT f t (.node b x l r))) := by
  have HE := hid (Tr.walkT_on f t b x l r hlt)
  have HIN := hid hY.tree
  have HDR := hid hY.drew
  have HCALL := hid (fun s w g h => hY.call s w g h x (by simp [Tr.items]))
  have HKEEP := hid hY.keep
  have HGO := hid hg
  obtain ⟨hb, -, -, -, -, c4, -, c6, -⟩ := (hY.tree s w hJ).1.cells
  have HL := hid (ihl s w hg hJ)
  have HR := hid ihr
  obtain ⟨ul, hul⟩ := l.ptr_form
  obtain ⟨ur, hur⟩ := r.ptr_form
  have HU := hid (And.intro hul hur)
  rw [hul] at c6 HL
  rw [hur] at HR
  generalize hLA : (Tr.node b x l r).last = la at *
  have HLA := hid hLA
  unfold FeedPost at HL
  rcases hq : feed step s (Tr.walkT f t l) with ⟨s1, o1⟩
  rw [hq] at HL
  dsimp only at HL
  have HQ := hid hq
  clear hJ hY ihl ihr hul hur hq hLA hg
  cases o1 with
  | false =>
    go_enter Try.func42, Try.ntmps42
    go_wp2_with fail
    refine HL.out.mono ?_
    rintro e w1 ⟨rfl, j1⟩
    have J1 := hid j1
    clear j1
    go_wp2_with fail
    go_ret
    unfold FeedPost
    rw [HE.out, feed_stop HQ.out]
    exact ⟨rfl, J1.out⟩
  | true =>
    by_cases htx : t < x.f
    · have HX := hid htx
      obtain ⟨xi, xf, xt, xv⟩ := x
      dsimp only at htx
      go_enter Try.func42, Try.ntmps42
      go_wp2_with fail
      refine HL.out.mono ?_
      rintro e w1 ⟨rfl, j1⟩
      obtain ⟨hb1, d0, -, -, -, -, -, -, -⟩ := (HIN.out _ _ j1).1.cells
      dsimp only at d0
      have J1 := hid j1
      clear j1
      go_wp2_with fail
      go_ret
      unfold FeedPost
      rw [HE.out, feed_on HQ.out, if_pos HX.out]
      exact ⟨rfl, J1.out⟩
    · have HX := hid htx
      by_cases hft : f ≤ x.t
      · have HY := hid hft
        obtain ⟨xi, xf, xt, xv⟩ := x
        dsimp only at htx hft
        go_enter Try.func42, Try.ntmps42
        go_wp2_with fail
        refine HL.out.mono ?_
        rintro e w1 ⟨rfl, j1⟩
        obtain ⟨hb1, d0, d1, d2, d3, -, -, -, -⟩ := (HIN.out _ _ j1).1.cells
        have CALL := hid (HCALL.out _ _ (feed_go HKEEP.out HGO.out HQ.out) (HDR.out _ _ 1 j1))
        clear j1 HL c4 c6 hb
        dsimp only at d0 d1 d2 d3 CALL
        rcases hs : step s1 ⟨xi, xf, xt, xv⟩ with ⟨s2, o2⟩
        rw [hs] at CALL
        dsimp only at CALL
        have HS := hid hs
        clear hs
        cases o2 with
        | false =>
          go_wp2_with fail
          go_still_tail 17, (by kernel_rfl)
          go_wp2_with fail
          refine CALL.out.mono ?_
          rintro e w2 ⟨rfl, j2⟩
          have J2 := hid j2
          clear j2 d0 d1 d2 d3
          go_wp2_with fail
          go_ret
          unfold FeedPost
          rw [HE.out, feed_on HQ.out, if_neg (by have := HX.out; (try dsimp only at this ⊢); omega), if_pos HY.out, feed_stop (feed_one HS.out)]
          exact ⟨rfl, J2.out⟩
        | true =>
          go_wp2_with fail
          go_still_tail 17, (by kernel_rfl)
          go_wp2_with fail
          refine CALL.out.mono ?_
          rintro e w2 ⟨rfl, j2⟩
          obtain ⟨hb2, -, -, -, -, -, -, -, e7⟩ := (HIN.out _ _ j2).1.cells
          rw [HU.out.2] at e7
          have HR2 := hid (HR.out _ _ (by have := HKEEP.out s1 ⟨xi, xf, xt, xv⟩ (feed_go HKEEP.out HGO.out HQ.out); rw [HS.out] at this; exact this rfl) j2)
          unfold FeedPost at HR2
          clear j2 d0 d1 d2 d3
          go_wp2_with fail
          refine HR2.out.mono ?_
          rintro e w3 ⟨rfl, j3⟩
          have J3 := hid j3
          clear j3 e7
          go_wp2_with fail
          go_ret
          unfold FeedPost
          rw [HE.out, feed_on HQ.out, if_neg (by have := HX.out; (try dsimp only at this ⊢); omega), if_pos HY.out, feed_on (feed_one HS.out)]
          exact ⟨rfl, J3.out⟩
      · have HY := hid hft
        obtain ⟨xi, xf, xt, xv⟩ := x
        dsimp only at htx hft
        go_enter Try.func42, Try.ntmps42
        go_wp2_with fail
        refine HL.out.mono ?_
        rintro e w1 ⟨rfl, j1⟩
        obtain ⟨hb1, d0, d1, -, -, -, -, -, d7⟩ := (HIN.out _ _ j1).1.cells
        rw [HU.out.2] at d7
        dsimp only at d0 d1
        have J1 := hid j1
        clear j1 HL c4 c6 hb
        go_wp2_with fail
        have hdf : decide (f ≤ xt) = false := decide_eq_false (by have := HY.out; (try dsimp only at this ⊢); omega)
        refine wp_region_still_tail 17 (by kernel_rfl) (by kernel_rfl) ?_
        simp only [List.take_succ_cons, List.take_zero, List.drop_succ_cons, List.drop_zero]
        iterate 8 still_step
        simp only [wpStill]
        go_simp
        clear hdf
        have HJ2 : J s1 w1.drew := HDR.out _ _ 1 J1.out
        have HR2 := hid (HR.out _ _ (feed_go HKEEP.out HGO.out HQ.out) HJ2)
        unfold FeedPost at HR2
        clear d0 d1 HJ2 J1
        go_wp2_with fail
        refine HR2.out.mono ?_
        rintro e w3 ⟨rfl, j3⟩
        have J3 := hid j3
        clear j3
        go_wp2_with fail
        go_ret
        unfold FeedPost
        rw [HE.out, feed_on HQ.out, if_neg (by have := HX.out; (try dsimp only at this ⊢); omega), if_neg (by have := HY.out; (try dsimp only at this ⊢); omega), List.nil_append]
        exact ⟨rfl, J3.out⟩
theorem walkA_c {S : Type} (c0 : Nat) (c1 : Nat) (c2 : Nat) (step : S → It → S × Bool) (go : S → Prop) (J : S → World → Prop) (f t : Int) : ∀ (T : Tr) (s : S) (w : World), YieldA c0 c1 c2 step go J T → go s → J s w →
    Calls Try.prog 42 #[T.ptr, .int .i64 f, .int .i64 t, .func (.func 19) #[] #[.pointer (some ⟨c0, 0, none⟩), .pointer (some ⟨c1, 0, none⟩), .pointer (some ⟨c2, 0, none⟩)]] w (FeedPost step J s (Tr.walkT f t T))
  | .nil, s, w, hY, hg, hJ => walkOutA_c c0 c1 c2 J f t .nil s w hJ trivial (.inl rfl)
  | .node b x l r, s, w, hY, hg, hJ => by
    by_cases hlt : (Tr.node b x l r).last < f
    · rw [show Tr.walkT f t (.node b x l r) = [] by simp only [Tr.walkT]; rw [if_pos hlt]]
      exact walkOutA_c c0 c1 c2 J f t _ s w hJ (hY.tree s w hJ) (.inr ⟨fun e => (by cases e), hlt⟩)
    · have hl : YieldA c0 c1 c2 step go J l := ⟨hY.keep, fun s w h => (hY.tree s w h).2.1, hY.drew, fun s w g h y hy => hY.call s w g h y (by simp [Tr.items, hy])⟩
      have hr : YieldA c0 c1 c2 step go J r := ⟨hY.keep, fun s w h => (hY.tree s w h).2.2, hY.drew, fun s w g h y hy => hY.call s w g h y (by simp [Tr.items, hy])⟩
      exact walkGoA_c c0 c1 c2 step go J f t b x l r s w hg hJ hY hlt (fun s w g h => walkA_c c0 c1 c2 step go J f t l s w hl g h) (fun s w g h => walkA_c c0 c1 c2 step go J f t r s w hr g h)
/-- What is asked of a call at each thing. -/
structure YieldB {S : Type} (c0 : Nat) (step : S → It → S × Bool) (go : S → Prop) (J : S → World → Prop) (T : Tr) : Prop where
  keep : ∀ s x, go s → (step s x).2 = true → go (step s x).1
  tree : ∀ s w, J s w → T.In w
  drew : ∀ s w n, J s w → J s (w.drewN n)
  call : ∀ s w, go s → J s w → ∀ x ∈ T.items, Calls Try.prog 20 #[.int .i64 x.id, .agg #[.int .i64 x.f, .int .i64 x.t, .string x.v], .pointer (some ⟨c0, 0, none⟩)] w fun e w' => e = .returned (.bool (step s x).2) ∧ J (step s x).1 w'
set_option maxRecDepth 100000 in
set_option maxHeartbeats 1000000 in
theorem walkOutB_c {S : Type} (c0 : Nat) (J : S → World → Prop) (f t : Int) (T : Tr) (s : S) (w : World) (hJ : J s w) (hT : T.In w) (h : T = .nil ∨ (T ≠ .nil ∧ T.last < f)) :
    Calls Try.prog 42 #[T.ptr, .int .i64 f, .int .i64 t, .func (.func 20) #[] #[.pointer (some ⟨c0, 0, none⟩)]] w fun e w' => e = .returned (.bool true) ∧ J s w' := by
  cases T with
  | nil =>
    have HJ := hid hJ
    clear hJ
    simp only [Tr.ptr]
    go_enter Try.func42, Try.ntmps42
    go_wp2_with fail
    go_ret
    exact ⟨rfl, HJ.out⟩
  | node b x l r =>
    obtain ⟨hb, -, -, -, -, c4, -, -, -⟩ := hT.1.cells
    have hlt : (Tr.node b x l r).last < f := by rcases h with h | h; cases h; exact h.2
    generalize (Tr.node b x l r).last = la at *
    have HJ := hid hJ
    clear hJ hT h
    simp only [Tr.ptr]
    go_enter Try.func42, Try.ntmps42
    go_wp2_with fail
    go_ret
    exact ⟨rfl, HJ.out⟩
set_option maxRecDepth 100000 in
set_option maxHeartbeats 4000000 in
theorem walkGoB_c {S : Type} (c0 : Nat) (step : S → It → S × Bool) (go : S → Prop) (J : S → World → Prop) (f t : Int) (b : Nat) (x : It) (l r : Tr) (s : S) (w : World) (hg : go s) (hJ : J s w) (hY : YieldB c0 step go J (.node b x l r)) (hlt : ¬ (Tr.node b x l r).last < f)
    (ihl : ∀ s w, go s → J s w → Calls Try.prog 42 #[l.ptr, .int .i64 f, .int .i64 t, .func (.func 20) #[] #[.pointer (some ⟨c0, 0, none⟩)]] w (FeedPost step J s (Tr.walkT f t l)))
    (ihr : ∀ s w, go s → J s w → Calls Try.prog 42 #[r.ptr, .int .i64 f, .int .i64 t, .func (.func 20) #[] #[.pointer (some ⟨c0, 0, none⟩)]] w (FeedPost step J s (Tr.walkT f t r))) :
    Calls Try.prog 42 #[.pointer (some ⟨b, 0, none⟩), .int .i64 f, .int .i64 t, .func (.func 20) #[] #[.pointer (some ⟨c0, 0, none⟩)]] w (FeedPost step J s (Tr.walkT f t (.node b x l r))) := by
  have HE := hid (Tr.walkT_on f t b x l r hlt)
  have HIN := hid hY.tree
  have HDR := hid hY.drew
  have HCALL := hid (fun s w g h => hY.call s w g h x (by simp [Tr.items]))
  have HKEEP := hid hY.keep
  have HGO := hid hg
  obtain ⟨hb, -, -, -, -, c4, -, c6, -⟩ := (hY.tree s w hJ).1.cells
  have HL := hid (ihl s w hg hJ)
  have HR := hid ihr
  obtain ⟨ul, hul⟩ := l.ptr_form
  obtain ⟨ur, hur⟩ := r.ptr_form
  have HU := hid (And.intro hul hur)
  rw [hul] at c6 HL
  rw [hur] at HR
  generalize hLA : (Tr.node b x l r).last = la at *
  have HLA := hid hLA
  unfold FeedPost at HL
  rcases hq : feed step s (Tr.walkT f t l) with ⟨s1, o1⟩
  rw [hq] at HL
  dsimp only at HL
  have HQ := hid hq
  clear hJ hY ihl ihr hul hur hq hLA hg
  cases o1 with
  | false =>
    go_enter Try.func42, Try.ntmps42
    go_wp2_with fail
    refine HL.out.mono ?_
    rintro e w1 ⟨rfl, j1⟩
    have J1 := hid j1
    clear j1
    go_wp2_with fail
    go_ret
    unfold FeedPost
    rw [HE.out, feed_stop HQ.out]
    exact ⟨rfl, J1.out⟩
  | true =>
    by_cases htx : t < x.f
    · have HX := hid htx
      obtain ⟨xi, xf, xt, xv⟩ := x
      dsimp only at htx
      go_enter Try.func42, Try.ntmps42
      go_wp2_with fail
      refine HL.out.mono ?_
      rintro e w1 ⟨rfl, j1⟩
      obtain ⟨hb1, d0, -, -, -, -, -, -, -⟩ := (HIN.out _ _ j1).1.cells
      dsimp only at d0
      have J1 := hid j1
      clear j1
      go_wp2_with fail
      go_ret
      unfold FeedPost
      rw [HE.out, feed_on HQ.out, if_pos HX.out]
      exact ⟨rfl, J1.out⟩
    · have HX := hid htx
      by_cases hft : f ≤ x.t
      · have HY := hid hft
        obtain ⟨xi, xf, xt, xv⟩ := x
        dsimp only at htx hft
        go_enter Try.func42, Try.ntmps42
        go_wp2_with fail
        refine HL.out.mono ?_
        rintro e w1 ⟨rfl, j1⟩
        obtain ⟨hb1, d0, d1, d2, d3, -, -, -, -⟩ := (HIN.out _ _ j1).1.cells
        have CALL := hid (HCALL.out _ _ (feed_go HKEEP.out HGO.out HQ.out) (HDR.out _ _ 1 j1))
        clear j1 HL c4 c6 hb
        dsimp only at d0 d1 d2 d3 CALL
        rcases hs : step s1 ⟨xi, xf, xt, xv⟩ with ⟨s2, o2⟩
        rw [hs] at CALL
        dsimp only at CALL
        have HS := hid hs
        clear hs
        cases o2 with
        | false =>
          go_wp2_with fail
          go_still_tail 17, (by kernel_rfl)
          go_wp2_with fail
          refine CALL.out.mono ?_
          rintro e w2 ⟨rfl, j2⟩
          have J2 := hid j2
          clear j2 d0 d1 d2 d3
          go_wp2_with fail
          go_ret
          unfold FeedPost
          rw [HE.out, feed_on HQ.out, if_neg (by have := HX.out; (try dsimp only at this ⊢); omega), if_pos HY.out, feed_stop (feed_one HS.out)]
          exact ⟨rfl, J2.out⟩
        | true =>
          go_wp2_with fail
          go_still_tail 17, (by kernel_rfl)
          go_wp2_with fail
          refine CALL.out.mono ?_
          rintro e w2 ⟨rfl, j2⟩
          obtain ⟨hb2, -, -, -, -, -, -, -, e7⟩ := (HIN.out _ _ j2).1.cells
          rw [HU.out.2] at e7
          have HR2 := hid (HR.out _ _ (by have := HKEEP.out s1 ⟨xi, xf, xt, xv⟩ (feed_go HKEEP.out HGO.out HQ.out); rw [HS.out] at this; exact this rfl) j2)
          unfold FeedPost at HR2
          clear j2 d0 d1 d2 d3
          go_wp2_with fail
          refine HR2.out.mono ?_
          rintro e w3 ⟨rfl, j3⟩
          have J3 := hid j3
          clear j3 e7
          go_wp2_with fail
          go_ret
          unfold FeedPost
          rw [HE.out, feed_on HQ.out, if_neg (by have := HX.out; (try dsimp only at this ⊢); omega), if_pos HY.out, feed_on (feed_one HS.out)]
          exact ⟨rfl, J3.out⟩
      · have HY := hid hft
        obtain ⟨xi, xf, xt, xv⟩ := x
        dsimp only at htx hft
        go_enter Try.func42, Try.ntmps42
        go_wp2_with fail
        refine HL.out.mono ?_
        rintro e w1 ⟨rfl, j1⟩
        obtain ⟨hb1, d0, d1, -, -, -, -, -, d7⟩ := (HIN.out _ _ j1).1.cells
        rw [HU.out.2] at d7
        dsimp only at d0 d1
        have J1 := hid j1
        clear j1 HL c4 c6 hb
        go_wp2_with fail
        have hdf : decide (f ≤ xt) = false := decide_eq_false (by have := HY.out; (try dsimp only at this ⊢); omega)
        refine wp_region_still_tail 17 (by kernel_rfl) (by kernel_rfl) ?_
        simp only [List.take_succ_cons, List.take_zero, List.drop_succ_cons, List.drop_zero]
        iterate 8 still_step
        simp only [wpStill]
        go_simp
        clear hdf
        have HJ2 : J s1 w1.drew := HDR.out _ _ 1 J1.out
        have HR2 := hid (HR.out _ _ (feed_go HKEEP.out HGO.out HQ.out) HJ2)
        unfold FeedPost at HR2
        clear d0 d1 HJ2 J1
        go_wp2_with fail
        refine HR2.out.mono ?_
        rintro e w3 ⟨rfl, j3⟩
        have J3 := hid j3
        clear j3
        go_wp2_with fail
        go_ret
        unfold FeedPost
        rw [HE.out, feed_on HQ.out, if_neg (by have := HX.out; (try dsimp only at this ⊢); omega), if_neg (by have := HY.out; (try dsimp only at this ⊢); omega), List.nil_append]
        exact ⟨rfl, J3.out⟩
theorem walkB_c {S : Type} (c0 : Nat) (step : S → It → S × Bool) (go : S → Prop) (J : S → World → Prop) (f t : Int) : ∀ (T : Tr) (s : S) (w : World), YieldB c0 step go J T → go s → J s w →
    Calls Try.prog 42 #[T.ptr, .int .i64 f, .int .i64 t, .func (.func 20) #[] #[.pointer (some ⟨c0, 0, none⟩)]] w (FeedPost step J s (Tr.walkT f t T))
  | .nil, s, w, hY, hg, hJ => walkOutB_c c0 J f t .nil s w hJ trivial (.inl rfl)
  | .node b x l r, s, w, hY, hg, hJ => by
    by_cases hlt : (Tr.node b x l r).last < f
    · rw [show Tr.walkT f t (.node b x l r) = [] by simp only [Tr.walkT]; rw [if_pos hlt]]
      exact walkOutB_c c0 J f t _ s w hJ (hY.tree s w hJ) (.inr ⟨fun e => (by cases e), hlt⟩)
    · have hl : YieldB c0 step go J l := ⟨hY.keep, fun s w h => (hY.tree s w h).2.1, hY.drew, fun s w g h y hy => hY.call s w g h y (by simp [Tr.items, hy])⟩
      have hr : YieldB c0 step go J r := ⟨hY.keep, fun s w h => (hY.tree s w h).2.2, hY.drew, fun s w g h y hy => hY.call s w g h y (by simp [Tr.items, hy])⟩
      exact walkGoB_c c0 step go J f t b x l r s w hg hJ hY hlt (fun s w g h => walkB_c c0 step go J f t l s w hl g h) (fun s w g h => walkB_c c0 step go J f t r s w hr g h)
end Go.Proofs.Ythmbnffddpnehaa
