/- The gaps, walked: what the law's closure has been given behind the loop over what a span meets. -/
import Derived.Test.YthmbnffddpnehaaIGap1
import Derived.Deep.RegionHeld3
namespace Go.Proofs.Ythmbnffddpnehaa
open Go.RowKit
set_option linter.unusedVariables false
set_option linter.unusedSimpArgs false
attribute [local go_sem] Oper.semAt_some
attribute [local go_sem ↓ high] run_imax
/-- The gaps, as the program reckons them. -/
def gapsW (t : Int) : Int → List It → List (Int × Int)
  | a, [] => [(a, t)]
  | a, i :: M => (if a < i.f then [(a, wrap64 (i.f - 1))] else []) ++ (if t ≤ i.t then [] else gapsW t (imax a (wrap64 (i.t + 1))) M)
/-- What may be read on, whatever blocks of book-keeping turn. -/
theorem cellsKept {W W' : World} {row : Option Nat} (hg : W.grownBy W' row) (hr : ∀ r, row = some r → ∃ o : Obj, W.heap[r]? = some o ∧ o.isCells = false) {b : Nat} {cs : Array Value} {t : TypeId} {fr : Nat × Nat} (h : W.heap[b]? = some (.cells cs t fr)) : W'.heap[b]? = some (.cells cs t fr) :=
  (hg.block b (heap_lt h) (fun e => by
    obtain ⟨o, ho, hc⟩ := hr b e.symm
    rw [h] at ho
    injection ho with ho
    subst ho
    cases hc)).trans h
theorem ownKept {W W' : World} {row : Option Nat} (hg : W.grownBy W' row) (hr : ∀ r, row = some r → ∃ o : Obj, W.heap[r]? = some o ∧ o.isCells = false) {base : Nat} {e : TypeId} {size n : Nat} {v : Value} {xs : List Value} (h : W.ownsRow base e size v n xs) : W'.ownsRow base e size v n xs := by
  refine ⟨h.1, ?_⟩
  rcases h.2 with h | ⟨g, cap, cur, h, h2, hb, h4⟩
  · exact .inl h
  · exact .inr ⟨g, cap, cur, h, h2, cellsKept hg hr hb, h4⟩
theorem sideKept {lb B B' : Nat} {w W W' : World} {row : Option Nat} (h : Side lb B w W) (hB : B ≤ B') (hBw : B ≤ w.heap.size) (hg : W.grownBy W' row) (hr : ∀ r, row = some r → B' ≤ r) : Side lb B w W' :=
  h.trans (Side.of_grownBy hg (Nat.le_trans hBw h.size) (fun k hk => Nat.le_trans hB (hr k hk)))
theorem keepN_putObj {W : World} {l : Nat} {o : Obj} (o' : Obj) (hl : W.heap[l]? = some o) (ho : o.isCells = false) : KeepN W (W.putObj l o') := fun k cs hk =>
  cellsKept (grownBy_putObj' W l o') (fun r e => by cases e; exact ⟨o, hl, ho⟩) hk
theorem GapKeep.keepN {lb : Nat} {a b : World} (h : GapKeep lb a b) {lv : Value} (hl : a.heap[lb]? = some (.cells #[lv] 30 (0, 0))) : KeepN a b := fun k cs hk => h k _ hk (fun e => by
    subst e
    rw [hl] at hk
    injection hk with hk
    injection hk with _ e2 _
    exact absurd e2 (by decide)) (by simp [notSpan])
theorem GapKeep.from {lb B : Nat} {a b : World} (h : GapKeep lb a b) {lv : Value} (hl : a.heap[lb]? = some (.cells #[lv] 30 (0, 0))) (hs : a.heap.size ≤ b.heap.size) : KeepsFrom B a b := ⟨hs, fun k o _ hk hc => (h k o hk (fun e => by
    subst e
    rw [hl] at hk
    injection hk with hk
    subst hk
    cases hc) (by cases o <;> simp_all [notSpan, Obj.isCells])) ⟩
set_option maxRecDepth 100000 in
set_option maxHeartbeats 2000000 in
theorem Meet1YNo_in (l n : Nat) (q : Option Addr) (f t : Int) (xb fb tb : Nat) (J Jx : List It → World → Prop) (hJd : ∀ pre W, J pre W → J pre W.drew)
    (W : World) (hb : Boxes W xb fb tb q f t) (hno : q = none ∨ (q ≠ none ∧ t < f)) (hJ : J [] W) :
    CallsIn Fence.wide n Try.prog 41 #[.func (.yield l) #[] #[], .pointer (some ⟨xb, 0, none⟩), .pointer (some ⟨fb, 0, none⟩), .pointer (some ⟨tb, 0, none⟩)] W fun e W' => (∃ u, e = .returned u) ∧ J [] W' := by
  have x0 : W.cell? ⟨xb, 0, none⟩ = some (.pointer q) := by rw [heap_cell hb.x]; rfl
  have f0 : W.cell? ⟨fb, 0, none⟩ = some (.int .i64 f) := by rw [heap_cell hb.f]; rfl
  have t0 : W.cell? ⟨tb, 0, none⟩ = some (.int .i64 t) := by rw [heap_cell hb.t]; rfl
  have hx := heap_lt hb.x
  have hf := heap_lt hb.f
  have ht := heap_lt hb.t
  have HJ := hid hJ
  clear hb hJ
  refine callsIn_wide.2 ?_
  cases q with
  | none =>
    clear hno
    go_enter Try.func41, Try.ntmps41
    go_wp2_with fail
    first | go_end0 | ((try simp only [Exit.inBlock, Exit.then]); refine bodyPost_ret (results_none rfl _ _ _) rfl ?_)
    exact ⟨⟨_, rfl⟩, HJ.out⟩
  | some a =>
    have hlt : t < f := by rcases hno with h | h; cases h; exact h.2
    clear hno
    go_enter Try.func41, Try.ntmps41
    go_wp2_with fail
    first | go_end0 | ((try simp only [Exit.inBlock, Exit.then]); refine bodyPost_ret (results_none rfl _ _ _) rfl ?_)
    exact ⟨⟨_, rfl⟩, HJ.out⟩
/-- What a span meets, in a tree. -/
def metT (T : Tr) (f t : Int) : List It := if f ≤ t then Tr.walkT f t T else []
theorem meet_seq (n : Nat) (q : Option Addr) (T : Tr) (f t : Int) (xb fb tb : Nat) (w : World) (hb : Boxes w xb fb tb q f t) (hq : Ptr w q T) :
    SeqStopsK Fence.wide n Try.prog 41 #[.pointer (some ⟨xb, 0, none⟩), .pointer (some ⟨fb, 0, none⟩), .pointer (some ⟨tb, 0, none⟩)] yieldArgs KeepN (fun ys => ys = metT T f t) (fun pre => pre <+: metT T f t) (metT T f t).length w := by
  intro l J Jx W hW hJ hJx hY h0
  have hb' := hb.grow hW
  have hq' := hq.grow hW
  have hJd : ∀ pre W, J pre W → J pre W.drew := fun pre W h => hJ pre W _ none h ⟨rfl, rfl, rfl, Nat.le_refl _, fun _ _ _ => rfl⟩ (fun r e => by cases e)
  by_cases hft : f ≤ t
  · rcases hq' with ⟨rfl, rfl⟩ | ⟨p, rfl, hp, hT⟩
    · have e : metT .nil f t = [] := by unfold metT; split <;> rfl
      rw [e]
      refine (Meet1YNo_in l n none f t xb fb tb J Jx hJd W hb' (.inl rfl) h0).mono ?_
      rintro e W' ⟨hu, hj⟩
      exact ⟨hu, .inl ⟨[], rfl, hj⟩⟩
    · unfold metT at hY ⊢
      rw [if_pos hft] at hY ⊢
      exact Meet1Y_in l _ n p f t xb fb tb T J Jx hJd (fun m pre x W1 h1 h2 => YieldAt.anyDepth rfl m (hY pre x W1 h1 h2)) W hb' hp hT hft h0 (Nat.le_refl _)
  · have e : metT T f t = [] := by unfold metT; rw [if_neg hft]
    rw [e]
    by_cases hq0 : q = none
    · refine (Meet1YNo_in l n q f t xb fb tb J Jx hJd W hb' (.inl hq0) h0).mono ?_
      rintro e W' ⟨hu, hj⟩
      exact ⟨hu, .inl ⟨[], rfl, hj⟩⟩
    · refine (Meet1YNo_in l n q f t xb fb tb J Jx hJd W hb' (.inr ⟨hq0, by omega⟩) h0).mono ?_
      rintro e W' ⟨hu, hj⟩
      exact ⟨hu, .inl ⟨[], rfl, hj⟩⟩
/-- What the closure's list is, so far. -/
def GapsAt (lb base : Nat) (w : World) (acc : List (Int × Int)) (W : World) : Prop :=
  (∃ lv, W.heap[lb]? = some (.cells #[lv] 30 (0, 0)) ∧ W.ownsRow base 36 2 lv acc.length (sCells acc)) ∧ Side lb base w W
def GapsI (lb ab ob yb fb tb mb : Nat) (base : Nat) (f t most : Int) (w : World) (pre : List It) (W : World) : Prop := ∃ acc a, GapsAt lb base w acc W ∧
  (W.heap[ab]? = some (.cells #[.int .i64 a] 3 (0, 0)) ∧ W.heap[ob]? = some (.cells #[.bool (decide (f ≤ t))] 4 (0, 0)) ∧ W.heap[yb]? = some (.cells #[.func (.func 33) #[] #[.pointer (some ⟨lb, 0, none⟩), .pointer (some ⟨mb, 0, none⟩)]] 64 (0, 0)) ∧ W.heap[fb]? = some (.cells #[.int .i64 f] 3 (0, 0)) ∧ W.heap[tb]? = some (.cells #[.int .i64 t] 3 (0, 0)) ∧ W.heap[mb]? = some (.cells #[.int .i64 most] 3 (0, 0))) ∧
  (acc.length : Int) < most ∧ (f ≤ t ∨ acc = []) ∧ ∀ rest, gapsW t f (pre ++ rest) = acc ++ gapsW t a rest
def GapsX (lb ob : Nat) (base : Nat) (f t most : Int) (w : World) (c : Code) (pre : List It) (W : World) : Prop := ∃ acc, GapsAt lb base w acc W ∧ f ≤ t ∧ (c = .ret ∨ (c = .exit 0 ∧ W.heap[ob]? = some (.cells #[.bool false] 4 (0, 0)))) ∧ ∀ rest, (gapsW t f (pre ++ rest)).take most.toNat = acc
theorem gapsAt_kept {lb base B : Nat} {w : World} (hB : base ≤ B) (hBw : base ≤ w.heap.size) {acc : List (Int × Int)} {W W' : World} {row : Option Nat} (h : GapsAt lb base w acc W) (hg : W.grownBy W' row) (hr : ∀ r, row = some r → B ≤ r ∧ ∃ o : Obj, W.heap[r]? = some o ∧ o.isCells = false) : GapsAt lb base w acc W' := by
  obtain ⟨⟨lv, h1, h2⟩, h3⟩ := h
  exact ⟨⟨lv, cellsKept hg (fun r e => (hr r e).2) h1, ownKept hg (fun r e => (hr r e).2) h2⟩, sideKept h3 hB hBw hg (fun r e => (hr r e).1)⟩
theorem gapsI_own {lb ab ob yb fb tb mb base : Nat} {f t most : Int} {w : World} (B : Nat) (hB : base ≤ B) (hBw : base ≤ w.heap.size) : OwnFrom B (GapsI lb ab ob yb fb tb mb base f t most w) := by
  rintro pre W W' row ⟨acc, a, h1, ⟨h2, h3, h4, h5, h6, h7⟩, h8⟩ hg hr
  have hr' := fun r e => (hr r e).2
  exact ⟨acc, a, gapsAt_kept hB hBw h1 hg hr, ⟨cellsKept hg hr' h2, cellsKept hg hr' h3, cellsKept hg hr' h4, cellsKept hg hr' h5, cellsKept hg hr' h6, cellsKept hg hr' h7⟩, h8⟩
theorem gapsX_own {lb ob base : Nat} {f t most : Int} {w : World} (B : Nat) (hB : base ≤ B) (hBw : base ≤ w.heap.size) (c : Code) : OwnFrom B (GapsX lb ob base f t most w c) := by
  rintro pre W W' row ⟨acc, h1, h2, h3, h4⟩ hg hr
  refine ⟨acc, gapsAt_kept hB hBw h1 hg hr, h2, ?_, h4⟩
  rcases h3 with h3 | ⟨h3, h5⟩
  · exact .inl h3
  · exact .inr ⟨h3, cellsKept hg (fun r e => (hr r e).2) h5⟩
theorem own_setOther {w : World} {base : Nat} {e e' : TypeId} {size n : Nat} {v : Value} {xs : List Value} {b : Nat} {cs : Array Value} {fr : Nat × Nat} (h : w.ownsRow base e size v n xs) (hb : w.heap[b]? = some (.cells cs e' fr)) (he : e' ≠ e) (o : Nat) (u : Value) : (w.setCell ⟨b, o, none⟩ u).ownsRow base e size v n xs := by
  refine ⟨h.1, ?_⟩
  rcases h.2 with h | ⟨g, cap, cur, h, h2, hg, h4⟩
  · exact .inl h
  · refine .inr ⟨g, cap, cur, h, h2, heap_keep hg ⟨b, o, none⟩ u (fun e2 => ?_), h4⟩
    dsimp only at e2
    subst e2
    rw [hg] at hb
    injection hb with hb
    injection hb with _ e3 _
    exact he e3.symm
theorem Side.setAt {lb B : Nat} {a b : World} (h : Side lb B a b) (c : Nat) (v : Value) (hc : B ≤ c) (hB : B ≤ a.heap.size) : Side lb B a (b.setCell ⟨c, 0, none⟩ v) :=
  h.trans (Side.of_grownBy (grownBy_setCell' b c v) (Nat.le_trans hB h.size) (fun k hk => by cases hk; exact hc))
theorem gapsAt_set {lb base : Nat} {w W : World} {acc : List (Int × Int)} {b : Nat} {cs : Array Value} {e' : TypeId} {fr : Nat × Nat} (h : GapsAt lb base w acc W) (hb : W.heap[b]? = some (.cells cs e' fr)) (he : e' ≠ 36) (hbl : b ≠ lb) (hc : base ≤ b) (hB : base ≤ w.heap.size) (v : Value) : GapsAt lb base w acc (W.setCell ⟨b, 0, none⟩ v) := by
  obtain ⟨⟨lv, h1, h2⟩, h3⟩ := h
  exact ⟨⟨lv, heap_keep h1 _ _ (fun e => hbl e.symm), own_setOther h2 hb he 0 v⟩, h3.setAt b v hc hB⟩
theorem keepN_set {W : World} {b : Nat} {cs : Array Value} {e' : TypeId} {fr : Nat × Nat} (hb : W.heap[b]? = some (.cells cs e' fr)) (he : e' ≠ 84) (o : Nat) (v : Value) : KeepN W (W.setCell ⟨b, o, none⟩ v) := fun k cs' hk => heap_keep hk _ _ (fun e => by
    dsimp only at e
    subst e
    rw [hk] at hb
    injection hb with hb
    injection hb with _ e3 _
    exact he e3.symm)
set_option maxRecDepth 100000 in
set_option maxHeartbeats 4000000 in
theorem Gaps1_c (q : Option Addr) (T : Tr) (f t most : Int) (xb fb tb lb mb : Nat) (w : World) (hb : Boxes w xb fb tb q f t) (hq : Ptr w q T)
    (hlb : w.heap[lb]? = some (.cells #[.slice none 0 0] 30 (0, 0))) (hmb : w.heap[mb]? = some (.cells #[.int .i64 most] 3 (0, 0))) (hne : mb ≠ lb) (h1 : 1 ≤ most) (h2 : most ≤ 1000000) (hN : (metT T f t).length ≤ 1000000) :
    Calls Try.prog 40 #[.func (.func 33) #[] #[.pointer (some ⟨lb, 0, none⟩), .pointer (some ⟨mb, 0, none⟩)], .pointer (some ⟨fb, 0, none⟩), .pointer (some ⟨tb, 0, none⟩), .pointer (some ⟨xb, 0, none⟩)] w fun e w' => (∃ u, e = .returned u) ∧
      GapsAt lb w.heap.size w (if f ≤ t then (gapsW t f (metT T f t)).take most.toNat else []) w' := by
  have x0 : w.cell? ⟨xb, 0, none⟩ = some (.pointer q) := by rw [heap_cell hb.x]; rfl
  have f0 : w.cell? ⟨fb, 0, none⟩ = some (.int .i64 f) := by rw [heap_cell hb.f]; rfl
  have t0 : w.cell? ⟨tb, 0, none⟩ = some (.int .i64 t) := by rw [heap_cell hb.t]; rfl
  have hx := heap_lt hb.x
  have hf := heap_lt hb.f
  have ht := heap_lt hb.t
  have HB := hid hb
  have HQ := hid hq
  have HL := hid hlb
  have HM := hid hmb
  clear hb hq hlb hmb
  refine (callsIn_wide (n := 3)).1 ?_
  refine callsIn_of_wp_marks Try.func40 rfl trivial ?_ rfl
  refine wpIn_wide.2 ?_
  simp only [Try.ntmps40, List.size_toArray, List.length_cons, List.length_nil, Nat.reduceAdd, Nat.reduceSub, Array.replicate_succ, Array.replicate_zero, List.push_toArray, List.append_toArray, List.nil_append, List.cons_append]
  go_wp2_with fail
  have hY1 := heap_new w (.cells #[.func (.func 33) #[] #[.pointer (some ⟨lb, 0, none⟩), .pointer (some ⟨mb, 0, none⟩)]] 64)
  have g1 := Grow.alloc w (.cells #[.func (.func 33) #[] #[.pointer (some ⟨lb, 0, none⟩), .pointer (some ⟨mb, 0, none⟩)]] 64)
  have hs1 : w.heap.size < (w.alloc (.cells #[.func (.func 33) #[] #[.pointer (some ⟨lb, 0, none⟩), .pointer (some ⟨mb, 0, none⟩)]] 64)).heap.size := by simp
  generalize w.alloc (.cells #[.func (.func 33) #[] #[.pointer (some ⟨lb, 0, none⟩), .pointer (some ⟨mb, 0, none⟩)]] 64) = w1 at *
  have f1 := g1.cell f0
  have t1 := g1.cell t0
  have HY1 := hid hY1
  have G1 := hid g1
  clear hY1 g1 f0 t0
  go_region_held3 (fun w' => w'.cell? ⟨fb, 0, none⟩ = some (.int .i64 f) ∧ w'.cell? ⟨tb, 0, none⟩ = some (.int .i64 t)) (go_keep) (fail)
  all_goals
    first
      | (have hab := hid ((Grow.drew _).heap (heap_alloc_keep (heap_new w1 (.cells #[.int .i64 f] 3)) (.cells #[.bool (decide (f ≤ t))] 4)))
         have hob := hid ((Grow.drew _).heap (heap_newAt (n := w1.heap.size + 1) (w1.alloc (.cells #[.int .i64 f] 3)) (.cells #[.bool (decide (f ≤ t))] 4) (by simp)))
         have g2 := hid (Grow.trans (Grow.trans (Grow.alloc w1 (.cells #[.int .i64 f] 3)) (Grow.alloc _ (.cells #[.bool (decide (f ≤ t))] 4))) (Grow.drew _))
         obtain ⟨w2, hw2⟩ : ∃ w2, (World.drew ((w1.alloc (.cells #[.int .i64 f] 3)).alloc (.cells #[.bool (decide (f ≤ t))] 4))) = w2 := ⟨_, rfl⟩
         rw [hw2]
         rw [hw2] at hab hob g2
         clear hw2
         obtain ⟨ab, hae⟩ : ∃ ab, ab = w1.heap.size := ⟨_, rfl⟩
         obtain ⟨ob, hoe⟩ : ∃ ob, ob = w1.heap.size + 1 := ⟨_, rfl⟩
         have hbl : w1.heap.size ≤ ab ∧ w1.heap.size ≤ ob ∧ ab ≠ ob := by omega
         rw [← hae] at hab
         rw [← hoe] at hob ⊢
         rw [← hae])
      | (have hob := hid ((Grow.drew _).heap (heap_alloc_keep (heap_new w1 (.cells #[.bool (decide (f ≤ t))] 4)) (.cells #[.int .i64 f] 3)))
         have hab := hid ((Grow.drew _).heap (heap_newAt (n := w1.heap.size + 1) (w1.alloc (.cells #[.bool (decide (f ≤ t))] 4)) (.cells #[.int .i64 f] 3) (by simp)))
         have g2 := hid (Grow.trans (Grow.trans (Grow.alloc w1 (.cells #[.bool (decide (f ≤ t))] 4)) (Grow.alloc _ (.cells #[.int .i64 f] 3))) (Grow.drew _))
         obtain ⟨w2, hw2⟩ : ∃ w2, (World.drew ((w1.alloc (.cells #[.bool (decide (f ≤ t))] 4)).alloc (.cells #[.int .i64 f] 3))) = w2 := ⟨_, rfl⟩
         rw [hw2]
         rw [hw2] at hab hob g2
         clear hw2
         obtain ⟨ab, hae⟩ : ∃ ab, ab = w1.heap.size + 1 := ⟨_, rfl⟩
         obtain ⟨ob, hoe⟩ : ∃ ob, ob = w1.heap.size := ⟨_, rfl⟩
         have hbl : w1.heap.size ≤ ab ∧ w1.heap.size ≤ ob ∧ ab ≠ ob := by omega
         rw [← hoe] at hob
         rw [← hae] at hab ⊢
         rw [← hoe])
    rename_i hHeld
    clear hHeld
    have f2 := g2.out.cell f1
    have t2 := g2.out.cell t1
    have p2 := g2.out.cell (G1.out.cell x0)
    clear f1 t1 x0
    have hbl2 := And.intro (heap_lt hab.out) (heap_lt hob.out)
    clear hae hoe
    go_wp2_with fail
    refine (Meet_c q f t w2).mono ?_
    rintro e w3 ⟨rfl, hw3⟩
    have hbx := Boxes.made w2 q f t
    have g3 := Grow.trans (Grow.trans (Grow.alloc w2 (.cells #[.pointer q] 23)) (Grow.alloc _ (.cells #[.int .i64 f] 3))) (Grow.alloc _ (.cells #[.int .i64 t] 3))
    rw [← hw3] at hbx g3
    clear hw3
    have G3 := Grow.trans G1.out (Grow.trans g2.out g3)
    have hbase := G3.size
    have hbs2 := g2.out.size
    generalize w2.heap.size = z2 at *
    go_wp2_with fail
    have ht3 := G3.cell (heap_cell HB.out.t 0)
    refine wpIn_wide.1 (wpIn_rangeFunc_ownH (F := Fence.wide) (n := 3) rfl (by omega) (gf := 41) (lb := #[.pointer (some ⟨z2, 0, none⟩), .pointer (some ⟨z2 + 1, 0, none⟩), .pointer (some ⟨z2 + 2, 0, none⟩)]) rfl trivial (enters_of Try.func41 (by kernel_rfl) rfl)
      (meet_seq _ q T f t _ _ _ w3 hbx (HQ.out.grow G3)) (fun h k => KeepN.trans h k) (fun W l o o' _ hl ho _ => keepN_putObj o' hl ho) (Below.refl _ _) (fun _ => rfl)
      (GapsI lb ab ob w.heap.size fb tb mb w.heap.size f t most w) (GapsX lb ob w.heap.size f t most w) (gapsI_own _ hbase (Nat.le_refl _)) (gapsX_own _ hbase (Nat.le_refl _)) ?_ (fun (x : It) (a' : Act) (W : World) => ∃ Bx : Nat, W.heap[Bx]? = some (.cells #[.int .i64 x.f, .int .i64 x.t, .string x.v] 46 (0, 0)) ∧ a' = { tmps := #[.func (.func 33) #[] #[.pointer (some ⟨lb, 0, none⟩), .pointer (some ⟨mb, 0, none⟩)], .pointer (some ⟨fb, 0, none⟩), .pointer (some ⟨tb, 0, none⟩), .pointer (some ⟨xb, 0, none⟩), .pointer (some ⟨w.heap.size, 0, none⟩), .pointer (some ⟨ab, 0, none⟩), .pointer (some ⟨ob, 0, none⟩), undef, .pointer (some ⟨Bx, 0, none⟩), .int .i64 f, .int .i64 f, .int .i64 t, .bool (decide (f ≤ t)), .pointer q, .int .i64 f, .int .i64 t, .func (.func 41) #[] #[.pointer (some ⟨z2, 0, none⟩), .pointer (some ⟨z2 + 1, 0, none⟩), .pointer (some ⟨z2 + 2, 0, none⟩)], .int .i64 x.id, .agg #[.int .i64 x.f, .int .i64 x.t, .string x.v], undef, undef, undef, undef, undef, undef, undef, undef, undef, undef, undef, undef, undef, undef, undef, undef, undef, undef, undef, undef, undef, undef, undef, undef, undef, undef, undef], defers := [] }) ?_ ?_ ?_ ?_ ?_)
    · refine ⟨[], f, ⟨⟨_, G3.heap HL.out, World.ownsRow_nil _ _ _ _⟩, Side.of_below G3⟩, ⟨g3.heap hab.out, g3.heap hob.out, (Grow.trans g2.out g3).heap HY1.out, G3.heap HB.out.f, G3.heap HB.out.t, G3.heap HM.out⟩, by simp; omega, .inr rfl, fun rest => rfl⟩
    · rintro x a' _ X Y row ⟨Bx, k1, k2⟩ hg hr
      exact ⟨Bx, cellsKept hg (fun r e => (hr r e).2) k1, k2⟩
    · intro l pre x W K hi hK
      simp only [yieldArgs]
      gi_wp2
      have gW := Grow.alloc W (.cells #[.int .i64 x.f, .int .i64 x.t, .string x.v] 46)
      refine hK _ _ ((KeepsOthers.alloc _ _).from _) (fun k cs hk => gW.heap hk) ?_ ⟨W.heap.size, heap_new W _, rfl⟩
      exact gapsI_own w3.heap.size hbase (Nat.le_refl _) _ _ _ none hi (World.grownBy_alloc W _ none) (fun r e => by cases e)
    · rintro l pre x a' W hl ⟨r, hr⟩ ⟨acc, a, ⟨⟨lv, k1, k2⟩, k3⟩, ⟨ca, co, cy, cf, ct, cm⟩, hac, hor, hsp⟩ ⟨Bx, hBx, rfl⟩ hlt
      have hft : f ≤ t := by
        by_cases h : f ≤ t
        · exact h
        · unfold metT at hlt
          rw [if_neg h] at hlt
          simp at hlt
      have a0 : W.cell? ⟨ab, 0, none⟩ = some (.int .i64 a) := by rw [heap_cell ca]; rfl
      have y0 : W.cell? ⟨w.heap.size, 0, none⟩ = some (.func (.func 33) #[] #[.pointer (some ⟨lb, 0, none⟩), .pointer (some ⟨mb, 0, none⟩)]) := by rw [heap_cell cy]; rfl
      have t0 : W.cell? ⟨tb, 0, none⟩ = some (.int .i64 t) := by rw [heap_cell ct]; rfl
      have b0 : W.cell? ⟨Bx, 0, none⟩ = some (.int .i64 x.f) := by rw [heap_cell hBx]; rfl
      have b1 : W.cell? ⟨Bx, 1, none⟩ = some (.int .i64 x.t) := by rw [heap_cell hBx]; rfl
      have zs := And.intro (heap_lt ca) (And.intro (heap_lt co) (And.intro (heap_lt cy) (And.intro (heap_lt ct) (heap_lt hBx))))
      have hsp1 : ∀ rest, gapsW t f ((pre ++ [x]) ++ rest) = acc ++ ((if a < x.f then [(a, wrap64 (x.f - 1))] else []) ++ (if t ≤ x.t then [] else gapsW t (imax a (wrap64 (x.t + 1))) rest)) := fun rest => by
        rw [List.append_assoc, hsp ([x] ++ rest)]
        rfl
      have HSP := hid hsp1
      clear hsp1 hsp
      have hlab : lb < w.heap.size := heap_lt HL.out
      have hmlt : mb < w.heap.size := heap_lt HM.out
      by_cases hax : a < x.f
      · gi_wp2_with fail
        refine ⟨trivial, (CallsIn.inRound l (callsIn_wide.2 (gaps1_c a (wrap64 (x.f - 1)) lb mb w.heap.size lv acc most W k1 cm k2 (by omega) hlab (heap_lt HM.out) hne k3.size))).mono ?_⟩
        rintro e w4 ⟨rfl, ⟨lv', j1, j2⟩, j3, j4⟩
        have HGA := hid (show GapsAt lb w.heap.size w (acc ++ [(a, wrap64 (x.f - 1))]) w4 from ⟨⟨lv', j1, by simpa using j2⟩, k3.trans j3⟩)
        have ca4 := j4 _ _ ca (by omega) (by simp [notSpan])
        have co4 := j4 _ _ co (by omega) (by simp [notSpan])
        have cy4 := j4 _ _ cy (by omega) (by simp [notSpan])
        have cf4 := j4 _ _ cf (fun e => by subst e; rw [k1] at cf; injection cf with cf; injection cf with _ e2 _; exact absurd e2 (by decide)) (by simp [notSpan])
        have ct4 := j4 _ _ ct (fun e => by subst e; rw [k1] at ct; injection ct with ct; injection ct with _ e2 _; exact absurd e2 (by decide)) (by simp [notSpan])
        have cm4 := j4 _ _ cm hne (by simp [notSpan])
        have cx4 := j4 _ _ hBx (fun e => by subst e; rw [k1] at hBx; injection hBx with hBx; injection hBx with _ e2 _; exact absurd e2 (by decide)) (by simp [notSpan])
        have HKN := hid (j4.keepN k1)
        have HKF := hid (GapKeep.from (B := w3.heap.size) j4 k1 j3.size)
        have hsz := j3.size
        clear a0 y0 t0 b0 b1 j4 j3 j2 j1
        have a0 : w4.cell? ⟨ab, 0, none⟩ = some (.int .i64 a) := by rw [heap_cell ca4]; rfl
        have t0 : w4.cell? ⟨tb, 0, none⟩ = some (.int .i64 t) := by rw [heap_cell ct4]; rfl
        have b1 : w4.cell? ⟨Bx, 1, none⟩ = some (.int .i64 x.t) := by rw [heap_cell cx4]; rfl
        have o0 : w4.cell? ⟨ob, 0, none⟩ = some (.bool (decide (f ≤ t))) := by rw [heap_cell co4]; rfl
        have fa : w4.frozen? ⟨ab, 0, none⟩ = false := heap_frozen ca4 0 (by omega)
        have fo : w4.frozen? ⟨ob, 0, none⟩ = false := heap_frozen co4 0 (by omega)
        have zs4 := And.intro (heap_lt ca4) (And.intro (heap_lt co4) (And.intro (heap_lt ct4) (heap_lt cx4)))
        have E1 : (if a < x.f then [(a, wrap64 (x.f - 1))] else []) = [(a, wrap64 (x.f - 1))] := if_pos hax
        by_cases hm : (acc.length : Int) + 1 < most
        · rw [decide_eq_true hm]
          by_cases h3 : t ≤ x.t
          · have E2 : ∀ rest, (if t ≤ x.t then ([] : List (Int × Int)) else gapsW t (imax a (wrap64 (x.t + 1))) rest) = [] := fun rest => if_pos h3
            gi_wp2_with fail
            refine ⟨HKF.out.trans ((KeepsOthers.setCell _ _ _).from _), _, gapsAt_set HGA.out co4 (by decide) (by omega) (by omega) (Nat.le_refl _) _, hft, .inr ⟨rfl, heap_set co4 0 _⟩, fun rest => ?_⟩
            rw [HSP.out rest, E1, E2, List.append_nil]
            exact List.take_of_length_le (by simp; omega)
          · have E2 : ∀ rest, (if t ≤ x.t then ([] : List (Int × Int)) else gapsW t (imax a (wrap64 (x.t + 1))) rest) = gapsW t (imax a (wrap64 (x.t + 1))) rest := fun rest => if_neg h3
            gi_wp2_with fail
            exact ⟨HKF.out.trans ((KeepsOthers.setCell _ _ _).from _), HKN.out.trans (keepN_set ca4 (by decide) 0 _), acc ++ [(a, wrap64 (x.f - 1))], imax a (wrap64 (x.t + 1)), gapsAt_set HGA.out ca4 (by decide) (by omega) (by omega) (Nat.le_refl _) _,
              ⟨heap_set ca4 0 _, heap_keep co4 _ _ (by show ob ≠ ab; omega), heap_keep cy4 _ _ (by show w.heap.size ≠ ab; omega), heap_keep cf4 _ _ (by show fb ≠ ab; omega), heap_keep ct4 _ _ (by show tb ≠ ab; omega), heap_keep cm4 _ _ (by show mb ≠ ab; omega)⟩, by simp; omega, .inl hft, fun rest => by rw [HSP.out rest, E1, E2, List.append_assoc]⟩
        · rw [decide_eq_false hm]
          gi_wp2_with fail
          refine ⟨HKF.out, _, HGA.out, hft, .inl rfl, fun rest => ?_⟩
          rw [HSP.out rest, E1, ← List.append_assoc]
          have hl : (acc ++ [(a, wrap64 (x.f - 1))]).length = most.toNat := by simp; omega
          rw [← hl, List.take_left]
      · have E1 : (if a < x.f then [(a, wrap64 (x.f - 1))] else []) = [] := if_neg hax
        gi_wp2_with fail
        refine ⟨fun _ h => (by cases h), ?_⟩
        have o0 : W.cell? ⟨ob, 0, none⟩ = some (.bool (decide (f ≤ t))) := by rw [heap_cell co]; rfl
        have fa : W.frozen? ⟨ab, 0, none⟩ = false := heap_frozen ca 0 (by omega)
        have fo : W.frozen? ⟨ob, 0, none⟩ = false := heap_frozen co 0 (by omega)
        have HGA := hid (show GapsAt lb w.heap.size w acc W from ⟨⟨lv, k1, k2⟩, k3⟩)
        by_cases h3 : t ≤ x.t
        · have E2 : ∀ rest, (if t ≤ x.t then ([] : List (Int × Int)) else gapsW t (imax a (wrap64 (x.t + 1))) rest) = [] := fun rest => if_pos h3
          gi_wp2_with fail
          refine ⟨(KeepsOthers.setCell _ _ _).from _, _, gapsAt_set HGA.out co (by decide) (by omega) (by omega) (Nat.le_refl _) _, hft, .inr ⟨rfl, heap_set co 0 _⟩, fun rest => ?_⟩
          rw [HSP.out rest, E1, E2, List.append_nil, List.append_nil]
          exact List.take_of_length_le (by omega)
        · have E2 : ∀ rest, (if t ≤ x.t then ([] : List (Int × Int)) else gapsW t (imax a (wrap64 (x.t + 1))) rest) = gapsW t (imax a (wrap64 (x.t + 1))) rest := fun rest => if_neg h3
          gi_wp2_with fail
          exact ⟨(KeepsOthers.setCell _ _ _).from _, keepN_set ca (by decide) 0 _, acc, imax a (wrap64 (x.t + 1)), gapsAt_set HGA.out ca (by decide) (by omega) (by omega) (Nat.le_refl _) _,
            ⟨heap_set ca 0 _, heap_keep co _ _ (by show ob ≠ ab; omega), heap_keep cy _ _ (by show w.heap.size ≠ ab; omega), heap_keep cf _ _ (by show fb ≠ ab; omega), heap_keep ct _ _ (by show tb ≠ ab; omega), heap_keep cm _ _ (by show mb ≠ ab; omega)⟩, hac, .inl hft, fun rest => by rw [HSP.out rest, E1, E2, List.nil_append]⟩
    · rintro D ys W hD rfl ⟨acc, a, HGA, ⟨ca, co, cy, cf, ct, cm⟩, hac, hor, hsp⟩ hK
      have hsp0 := hsp []
      rw [List.append_nil] at hsp0
      have HSP := hid hsp0
      clear hsp hsp0
      by_cases hft : f ≤ t
      · have hfi := hid hft
        rw [decide_eq_true hft] at co
        have a0 : W.cell? ⟨ab, 0, none⟩ = some (.int .i64 a) := by rw [heap_cell ca]; rfl
        have o0 : W.cell? ⟨ob, 0, none⟩ = some (.bool true) := by rw [heap_cell co]; rfl
        have y0 : W.cell? ⟨w.heap.size, 0, none⟩ = some (.func (.func 33) #[] #[.pointer (some ⟨lb, 0, none⟩), .pointer (some ⟨mb, 0, none⟩)]) := by rw [heap_cell cy]; rfl
        have t0 : W.cell? ⟨tb, 0, none⟩ = some (.int .i64 t) := by rw [heap_cell ct]; rfl
        have zs := And.intro (heap_lt ca) (And.intro (heap_lt co) (And.intro (heap_lt cy) (heap_lt ct)))
        obtain ⟨⟨lv, k1, k2⟩, k3⟩ := HGA
        go_wp2_with fail
        refine (gaps1_c a t lb mb w.heap.size lv acc most W k1 cm k2 (by omega) (heap_lt HL.out) (heap_lt HM.out) hne k3.size).mono ?_
        rintro e w4 ⟨rfl, ⟨lv', j1, j2⟩, j3, j4⟩
        have hK4 := j4 D _ hK (fun e => by subst e; rw [k1] at hK; injection hK with hK; cases hK) (by simp [notSpan])
        have HGA := hid (show GapsAt lb w.heap.size w (acc ++ [(a, t)]) w4 from ⟨⟨lv', j1, by simpa using j2⟩, k3.trans j3⟩)
        clear j1 j2 j3 j4
        go_wp2_with fail
        refine ⟨by simp, .inl ⟨_, _, rfl, run_takeDeferred hK4, ?_⟩⟩
        refine ⟨_, results_none rfl _ _ _, ⟨_, rfl⟩, ?_⟩
        rw [HSP.out, List.take_of_length_le (by simp [gapsW]; omega)]
        exact gapsAt_kept hbase (Nat.le_refl _) HGA.out (grownBy_putObj' w4 D _) (fun r e => by cases e; exact ⟨hD, _, hK4, rfl⟩)
      · have hfi := hid hft
        rw [decide_eq_false hft] at co
        obtain rfl : acc = [] := by rcases hor with h | h; exact absurd h hft; exact h
        have o0 : W.cell? ⟨ob, 0, none⟩ = some (.bool false) := by rw [heap_cell co]; rfl
        have zs := heap_lt co
        go_wp2_with fail
        refine ⟨by simp, .inl ⟨_, _, rfl, run_takeDeferred hK, ?_⟩⟩
        refine ⟨_, results_none rfl _ _ _, ⟨_, rfl⟩, ?_⟩
        exact gapsAt_kept hbase (Nat.le_refl _) HGA (grownBy_putObj' W D _) (fun r e => by cases e; exact ⟨hD, _, hK, rfl⟩)
    · rintro D c pre W hD ⟨rest, hre⟩ ⟨acc, HGA, hft, hc, hsp⟩ hK
      have hsp0 := hsp rest
      rw [hre] at hsp0
      have hfi := hid (And.intro hft hsp0)
      clear hsp0 hsp
      refine wpIn_wide.2 ?_
      rcases hc with rfl | ⟨rfl, co⟩
      · go_wp2_with fail
        refine ⟨by simp, .inl ⟨_, _, rfl, run_takeDeferred hK, ?_⟩⟩
        refine ⟨_, results_none rfl _ _ _, ⟨_, rfl⟩, ?_⟩
        rw [hfi.out.2]
        exact gapsAt_kept hbase (Nat.le_refl _) HGA (grownBy_putObj' W D _) (fun r e => by cases e; exact ⟨hD, _, hK, rfl⟩)
      · have o0 : W.cell? ⟨ob, 0, none⟩ = some (.bool false) := by rw [heap_cell co]; rfl
        have zs := heap_lt co
        go_wp2_with fail
        refine ⟨by simp, .inl ⟨_, _, rfl, run_takeDeferred hK, ?_⟩⟩
        refine ⟨_, results_none rfl _ _ _, ⟨_, rfl⟩, ?_⟩
        rw [hfi.out.2]
        exact gapsAt_kept hbase (Nat.le_refl _) HGA (grownBy_putObj' W D _) (fun r e => by cases e; exact ⟨hD, _, hK, rfl⟩)
end Go.Proofs.Ythmbnffddpnehaa
