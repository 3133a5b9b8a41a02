/- Counting what a time, and all of it, meets: the law's closures. -/
import Derived.Test.YthmbnffddpnehaaILaws
namespace Go.Proofs.Ythmbnffddpnehaa
open Go.RowKit
set_option linter.unusedVariables false
set_option linter.unusedSimpArgs false
/-- All but two blocks is as it was. -/
structure Oth (a b : Nat) (w w' : World) : Prop where
  os : w'.os = w.os
  tape : w'.tape = w.tape
  output : w'.output = w.output
  size : w.heap.size ≤ w'.heap.size
  keep : ∀ k, k < w.heap.size → k ≠ a → k ≠ b → w'.heap[k]? = w.heap[k]?
theorem Oth.refl (a b : Nat) (w : World) : Oth a b w w := ⟨rfl, rfl, rfl, Nat.le_refl _, fun _ _ _ _ => rfl⟩
theorem Oth.trans {a b : Nat} {u v w : World} (h : Oth a b u v) (k : Oth a b v w) : Oth a b u w :=
  ⟨k.os.trans h.os, k.tape.trans h.tape, k.output.trans h.output, Nat.le_trans h.size k.size, fun j hj h1 h2 => (k.keep j (Nat.lt_of_lt_of_le hj h.size) h1 h2).trans (h.keep j hj h1 h2)⟩
theorem Oth.grow {a b : Nat} {u v : World} (h : Grow u v) : Oth a b u v := ⟨h.os, h.tape, h.output, h.size, fun k hk _ _ => h.block k hk⟩
theorem Oth.below {a b B : Nat} {u v : World} (h : Oth a b u v) (h1 : B ≤ a) (h2 : B ≤ b) (h3 : B ≤ u.heap.size) : Below B u v := ⟨h.os, h.tape, h.output, h.size, fun k hk => h.keep k (by omega) (by omega) (by omega)⟩
theorem Oth.heap {a b : Nat} {u v : World} (h : Oth a b u v) {k : Nat} {o : Obj} (hk : u.heap[k]? = some o) (h1 : k ≠ a) (h2 : k ≠ b) : v.heap[k]? = some o := (h.keep k (heap_lt hk) h1 h2).trans hk
theorem Oth.set {a b : Nat} {u v : World} (h : Oth a b u v) (c : Nat) (hc : c = a ∨ c = b) (x : Value) : Oth a b u (v.setCell ⟨c, 0, none⟩ x) :=
  h.trans ⟨rfl, rfl, rfl, by simp, fun k hk h1 h2 => heap_setCell_other v ⟨c, 0, none⟩ k x (by rcases hc with rfl | rfl <;> (intro e; simp at e; omega))⟩
theorem Oth.drewN {a b : Nat} {u v : World} (h : Oth a b u v) (n : Nat) : Oth a b u (v.drewN n) := ⟨h.os, h.tape, h.output, h.size, h.keep⟩
def cntStep (s : Int × Bool) (f : Int) (x : It) : (Int × Bool) × Bool := ((wrap64 (s.1 + 1), s.2 && (decide (x.f ≤ f) && decide (f ≤ x.t))), true)
theorem feed_cnt (f : Int) : ∀ (M : List It) (k : Int) (b : Bool), 0 ≤ k → k + M.length ≤ 1000000 → (∀ x ∈ M, x.f ≤ f ∧ f ≤ x.t) → (feed (fun s x => cntStep s f x) (k, b) M).1 = (k + M.length, b)
  | [], k, b, _, _, _ => by simp [feed]
  | x :: M, k, b, h0, h1, h2 => by
    obtain ⟨h3, h4⟩ := h2 x (by simp)
    simp only [List.length_cons] at h1
    have ih := feed_cnt f M (k + 1) b (by omega) (by push_cast at h1; omega) (fun y hy => h2 y (by simp [hy]))
    have e : cntStep (k, b) f x = ((k + 1, b), true) := by
      unfold cntStep
      rw [wrap64_in (by push_cast at h1; omega)]
      simp [h3, h4]
    simp only [feed]
    rw [e]
    dsimp only
    rw [ih]
    simp only [List.length_cons, Prod.mk.injEq, and_true]
    push_cast
    omega
def allStep (s : Int) (x : It) : Int × Bool := (wrap64 (s + 1), true)
theorem feed_all : ∀ (M : List It) (k : Int), 0 ≤ k → k + M.length ≤ 1000000 → (feed allStep k M).1 = k + M.length
  | [], k, _, _ => by simp [feed]
  | x :: M, k, h0, h1 => by
    simp only [List.length_cons] at h1
    have ih := feed_all M (k + 1) (by omega) (by push_cast at h1; omega)
    have e : allStep k x = (k + 1, true) := by
      unfold allStep
      rw [wrap64_in (by push_cast at h1; omega)]
    simp only [feed]
    rw [e]
    dsimp only
    rw [ih]
    simp only [List.length_cons]
    push_cast
    omega
/-- What the first closure holds. -/
def CntJ (w0 : World) (nb gb : Nat) (s : Int × Bool) (w : World) : Prop := w.heap[nb]? = some (.cells #[.int .i64 s.1] 3 (0, 0)) ∧ w.heap[gb]? = some (.cells #[.bool s.2] 4 (0, 0)) ∧ Oth nb gb w0 w
def AllJ (w0 : World) (nb : Nat) (s : Int) (w : World) : Prop := w.heap[nb]? = some (.cells #[.int .i64 s] 3 (0, 0)) ∧ Oth nb nb w0 w
theorem Oth.tree {w0 w : World} {a b : Nat} (h : Oth a b w0 w) {T : Tr} (hT : T.In w0) {ca cb : Array Value} {ta tb : TypeId} (h1 : w0.heap[a]? = some (.cells ca ta (0, 0))) (h2 : w0.heap[b]? = some (.cells cb tb (0, 0))) (e1 : ta ≠ 84) (e2 : tb ≠ 84) : T.In w :=
  hT.kept fun c hc => h.keep c (hT.lt c hc) (fun e => by
    obtain ⟨cs, hk⟩ := hT.kind c hc
    rw [e, h1] at hk
    injection hk with hk
    injection hk with _ e3 _
    exact e1 e3) (fun e => by
    obtain ⟨cs, hk⟩ := hT.kind c hc
    rw [e, h2] at hk
    injection hk with hk
    injection hk with _ e3 _
    exact e2 e3)
set_option maxRecDepth 100000 in
set_option maxHeartbeats 1000000 in
theorem cnt_c (x : It) (nb gb fb : Nat) (f : Int) (s : Int × Bool) (w0 w : World) (h : CntJ w0 nb gb s w) (hf : w0.heap[fb]? = some (.cells #[.int .i64 f] 3 (0, 0))) (h1 : fb ≠ nb) (h2 : fb ≠ gb) (h3 : nb ≠ gb) :
    Calls Try.prog 19 #[.int .i64 x.id, .agg #[.int .i64 x.f, .int .i64 x.t, .string x.v], .pointer (some ⟨nb, 0, none⟩), .pointer (some ⟨gb, 0, none⟩), .pointer (some ⟨fb, 0, none⟩)] w fun e w' => e = .returned (.bool true) ∧ CntJ w0 nb gb (cntStep s f x).1 w' := by
  obtain ⟨hn, hg, ho⟩ := h
  have hf1 := ho.heap hf h1 h2
  obtain ⟨n, b⟩ := s
  dsimp only at hn hg
  have n0 : w.cell? ⟨nb, 0, none⟩ = some (.int .i64 n) := by rw [heap_cell hn]; rfl
  have g0 : w.cell? ⟨gb, 0, none⟩ = some (.bool b) := by rw [heap_cell hg]; rfl
  have f0 : w.cell? ⟨fb, 0, none⟩ = some (.int .i64 f) := by rw [heap_cell hf1]; rfl
  have n1 := heap_frozen hn 0 (by omega)
  have g1 := heap_frozen hg 0 (by omega)
  have ln := heap_lt hn
  have lg := heap_lt hg
  have lf := heap_lt hf1
  have h4 : gb ≠ nb := fun e => h3 e.symm
  have h5 : nb ≠ fb := fun e => h1 e.symm
  have h6 : gb ≠ fb := fun e => h2 e.symm
  have HN := hid hn
  have HG := hid hg
  have HO := hid ho
  clear hn hg ho hf hf1
  unfold CntJ cntStep
  dsimp only
  have fin : ∀ b' : Bool, (((w.setCell ⟨nb, 0, none⟩ (.int .i64 (wrap64 (n + 1)))).setCell ⟨gb, 0, none⟩ (.bool b')).alloc (.cells #[.int .i64 x.f, .int .i64 x.t, .string x.v] 46)).heap[nb]? = some (.cells #[.int .i64 (wrap64 (n + 1))] 3 (0, 0)) ∧ (((w.setCell ⟨nb, 0, none⟩ (.int .i64 (wrap64 (n + 1)))).setCell ⟨gb, 0, none⟩ (.bool b')).alloc (.cells #[.int .i64 x.f, .int .i64 x.t, .string x.v] 46)).heap[gb]? = some (.cells #[.bool b'] 4 (0, 0)) ∧ Oth nb gb w0 (((w.setCell ⟨nb, 0, none⟩ (.int .i64 (wrap64 (n + 1)))).setCell ⟨gb, 0, none⟩ (.bool b')).alloc (.cells #[.int .i64 x.f, .int .i64 x.t, .string x.v] 46)) := fun b' =>
    ⟨heap_alloc_keep (heap_keep (heap_set HN.out 0 _) _ _ h3) _, heap_alloc_keep (heap_set (heap_keep HG.out _ _ h4) 0 _) _, ((HO.out.set nb (.inl rfl) _).set gb (.inr rfl) _).trans (Oth.grow (Grow.alloc _ _))⟩
  have HFIN := hid fin
  clear fin
  cases b
  · go_enter Try.func19, Try.ntmps19
    go_wp2_with fail
    go_ret
    exact ⟨rfl, by simpa using HFIN.out false⟩
  · by_cases c1 : x.f ≤ f
    · by_cases c2 : f ≤ x.t
      · go_enter Try.func19, Try.ntmps19
        go_wp2_with fail
        go_ret
        exact ⟨rfl, by simpa [c1, c2] using HFIN.out true⟩
      · have hc2 := hid (show decide (f ≤ x.t) = false from decide_eq_false c2)
        go_enter Try.func19, Try.ntmps19
        go_wp2_with fail
        go_ret
        exact ⟨rfl, by simpa [hc2.out] using HFIN.out false⟩
    · have hc1 := hid (show decide (x.f ≤ f) = false from decide_eq_false c1)
      go_enter Try.func19, Try.ntmps19
      go_wp2_with fail
      go_ret
      exact ⟨rfl, by simpa [hc1.out] using HFIN.out false⟩
theorem cnt_yield (T : Tr) (w0 : World) (nb gb fb : Nat) (f n0 : Int) (b0 : Bool) (hT : T.In w0) (hn : w0.heap[nb]? = some (.cells #[.int .i64 n0] 3 (0, 0))) (hg : w0.heap[gb]? = some (.cells #[.bool b0] 4 (0, 0))) (hf : w0.heap[fb]? = some (.cells #[.int .i64 f] 3 (0, 0))) (h1 : fb ≠ nb) (h2 : fb ≠ gb) (h3 : nb ≠ gb) :
    YieldA nb gb fb (fun s x => cntStep s f x) (fun _ => True) (CntJ w0 nb gb) T where
  keep := fun _ _ _ _ => trivial
  tree := fun s w h => h.2.2.tree hT hn hg (by decide) (by decide)
  drew := fun s w n h => ⟨h.1, h.2.1, h.2.2.drewN n⟩
  call := fun s w _ h x _ => cnt_c x nb gb fb f s w0 w h hf h1 h2 h3
set_option maxRecDepth 100000 in
set_option maxHeartbeats 1000000 in
theorem all_c (x : It) (nb : Nat) (n : Int) (w0 w : World) (h : AllJ w0 nb n w) :
    Calls Try.prog 20 #[.int .i64 x.id, .agg #[.int .i64 x.f, .int .i64 x.t, .string x.v], .pointer (some ⟨nb, 0, none⟩)] w fun e w' => e = .returned (.bool true) ∧ AllJ w0 nb (allStep n x).1 w' := by
  obtain ⟨hn, ho⟩ := h
  have n0 : w.cell? ⟨nb, 0, none⟩ = some (.int .i64 n) := by rw [heap_cell hn]; rfl
  have n1 := heap_frozen hn 0 (by omega)
  have ln := heap_lt hn
  have HN := hid hn
  have HO := hid ho
  clear hn ho
  unfold AllJ allStep
  dsimp only
  go_enter Try.func20, Try.ntmps20
  go_wp2_with fail
  go_ret
  have g := Grow.alloc w (.cells #[.int .i64 x.f, .int .i64 x.t, .string x.v] 46)
  exact ⟨rfl, heap_alloc_keep (heap_set HN.out 0 _) _, (HO.out.set nb (.inl rfl) _).trans (Oth.grow (Grow.alloc _ _))⟩
theorem all_yield (T : Tr) (w0 : World) (nb : Nat) (n0 : Int) (hT : T.In w0) (hn : w0.heap[nb]? = some (.cells #[.int .i64 n0] 3 (0, 0))) :
    YieldB nb allStep (fun _ => True) (AllJ w0 nb) T where
  keep := fun _ _ _ _ => trivial
  tree := fun s w h => h.2.tree hT hn hn (by decide) (by decide)
  drew := fun s w n h => ⟨h.1, h.2.drewN n⟩
  call := fun s w _ h x _ => all_c x nb s w0 w h
set_option maxRecDepth 100000 in
theorem At_c (q : Option Addr) (t : Int) (w : World) : Calls Try.prog 17 #[.pointer q, .int .i64 t] w fun e w' => e = .returned (.func (.func 41) #[] #[.pointer (some ⟨w.heap.size, 0, none⟩), .pointer (some ⟨w.heap.size + 1, 0, none⟩), .pointer (some ⟨w.heap.size + 2, 0, none⟩)]) ∧
    w' = ((w.alloc (.cells #[.pointer q] 23)).alloc (.cells #[.int .i64 t] 3)).alloc (.cells #[.int .i64 t] 3) := by
  go_enter Try.func17, Try.ntmps17
  go_wp2_with fail
  refine (Meet_c q t t w).mono ?_
  rintro e w2 ⟨rfl, rfl⟩
  go_wp2_with fail
  go_ret
  exact ⟨rfl, rfl⟩
set_option maxRecDepth 100000 in
theorem All_c (q : Option Addr) (w : World) : Calls Try.prog 18 #[.pointer q] w fun e w' => e = .returned (.func (.func 41) #[] #[.pointer (some ⟨w.heap.size, 0, none⟩), .pointer (some ⟨w.heap.size + 1, 0, none⟩), .pointer (some ⟨w.heap.size + 2, 0, none⟩)]) ∧
    w' = ((w.alloc (.cells #[.pointer q] 23)).alloc (.cells #[.int .i64 (-9223372036854775808)] 3)).alloc (.cells #[.int .i64 9223372036854775807] 3) := by
  go_enter Try.func18, Try.ntmps18
  go_wp2_with fail
  refine (Meet_c q _ _ w).mono ?_
  rintro e w2 ⟨rfl, rfl⟩
  go_wp2_with fail
  go_ret
  exact ⟨rfl, rfl⟩
theorem metL_all {L : List It} (hfit : ∀ x ∈ L, -9223372036854775808 ≤ x.f ∧ x.f ≤ x.t ∧ x.t ≤ 9223372036854775807) : metL L (-9223372036854775808) 9223372036854775807 = L := by
  unfold metL
  rw [if_pos (by omega), List.filter_eq_self]
  intro x hx
  have := hfit x hx
  simp only [Tr.meets, Bool.and_eq_true, decide_eq_true_eq]
  omega
end Go.Proofs.Ythmbnffddpnehaa
